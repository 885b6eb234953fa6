import Derived.Test.YtkeiahjelpjegaaGreatA03
import Derived.Lib.RowBridge
set_option linter.unusedSimpArgs false
set_option linter.unusedVariables false
namespace Go.Ev
open Go Go.Proofs
set_option maxRecDepth 8000
set_option maxHeartbeats 1000000
theorem zeI (s0:api_Spec) (res:Bool)
 (h:((decide ((↑(List.length (List.map zu (api_Spec.Conds s0))):Int) < (1:Int)))=false→((decide ((↑(List.length (List.map zu (api_Spec.Conds s0))):Int) > (8:Int)))=false→(0:Nat) < List.length (api_Spec.Conds s0)))∧(((decide ((↑(List.length (List.map zu (api_Spec.Conds s0))):Int) < (1:Int)) || (decide ((↑(List.length (List.map zu (api_Spec.Conds s0))):Int) > (8:Int)) || (!(ByteArray.toList (zN.Name (List.getD (api_Spec.Conds s0) (0:Nat) default)) == ByteArray.toList { data:=#[(73:UInt8),(78:UInt8),(73:UInt8),(84:UInt8),(73:UInt8),(65:UInt8),(76:UInt8)] } && (zN.Exclusive (List.getD (api_Spec.Conds s0) (0:Nat) default) == false && true)) || decide ((↑(List.length (api_Spec.Rules s0)):Int) > (40:Int)))))=true→(res=false))∧((decide ((↑(List.length (List.map zu (api_Spec.Conds s0))):Int) < (1:Int)) || (decide ((↑(List.length (List.map zu (api_Spec.Conds s0))):Int) > (8:Int)) || (!(ByteArray.toList (zN.Name (List.getD (api_Spec.Conds s0) (0:Nat) default)) == ByteArray.toList { data:=#[(73:UInt8),(78:UInt8),(73:UInt8),(84:UInt8),(73:UInt8),(65:UInt8),(76:UInt8)] } && (zN.Exclusive (List.getD (api_Spec.Conds s0) (0:Nat) default) == false && true)) || decide ((↑(List.length (api_Spec.Rules s0)):Int) > (40:Int)))))=false→(∃ (Inv37:Int→Prop) (mu38:Int→Nat),Inv37 0∧(∀ (i:Int),Inv37 i→(((decide (i < (↑(List.length (api_Spec.Conds s0)):Int)))=true→((0:Int)≤i)∧i < ↑(List.length (api_Spec.Conds s0))∧(∃ r0_2:Bool,zbv (zN.Name (gd (api_Spec.Conds s0) i)) r0_2∧(((!r0_2)=true→(res=false))∧((!r0_2)=false→(∃ (Inv55:Int→Prop) (mu56:Int→Nat),Inv55 0∧(∀ (k_1:Int),Inv55 k_1→(((decide (k_1 < i))=true→((0:Int)≤k_1)∧k_1 < ↑(List.length (api_Spec.Conds s0))∧((0:Int)≤i)∧i < ↑(List.length (api_Spec.Conds s0))∧(((ByteArray.toList (zN.Name (gd (api_Spec.Conds s0) k_1)) == ByteArray.toList (zN.Name (gd (api_Spec.Conds s0) i)))=true→(res=false))∧((ByteArray.toList (zN.Name (gd (api_Spec.Conds s0) k_1)) == ByteArray.toList (zN.Name (gd (api_Spec.Conds s0) i)))=false→(Inv55 (w64 (k_1+1))∧mu56 (w64 (k_1+1)) < mu56 k_1))))∧((decide (k_1 < i))=false→(Inv37 (w64 (i+1))∧mu38 (w64 (i+1)) < mu38 i)))))))))∧((decide (i < (↑(List.length (api_Spec.Conds s0)):Int)))=false→(∃ (Inv72:Int→Prop) (mu73:Int→Nat),Inv72 0∧(∀ (i_1:Int),Inv72 i_1→(((decide (i_1 < (↑(List.length (api_Spec.Rules s0)):Int)))=true→((0:Int)≤i_1)∧i_1 < ↑(List.length (api_Spec.Rules s0))∧(∃ r0_5:Bool,zaT (gd (api_Spec.Rules s0) i_1) ((↑(List.length (api_Spec.Conds s0)):Int)) r0_5∧(((!r0_5)=true→(res=false))∧((!r0_5)=false→(Inv72 (w64 (i_1+1))∧mu73 (w64 (i_1+1)) < mu73 i_1)))))∧((decide (i_1 < (↑(List.length (api_Spec.Rules s0)):Int)))=false→(res=true)))))))))))):zaM s0 res:=by
 unfold zaM;have kk:=cfOk [] 80;refine fD (x:=bodyOf Tryz.f44) kk Tryz.func44 ?_;refine wkS [1] [(1,zK s0)] (by kernel_rfl) ?_;refine sO kk oN [1] [(4,.ptr 8 0),(8,zK s0)] ?_;refine qD ?_;obtain ⟨h2,h⟩:=h;refine sM [] [(88,vB (decide ((↑(List.length (List.map zu (api_Spec.Conds s0))):Int) < (1:Int)) || (decide ((↑(List.length (List.map zu (api_Spec.Conds s0))):Int) > (8:Int)) || (!(ByteArray.toList (zN.Name (List.getD (api_Spec.Conds s0) (0:Nat) default)) == ByteArray.toList { data:=#[(73:UInt8),(78:UInt8),(73:UInt8),(84:UInt8),(73:UInt8),(65:UInt8),(76:UInt8)] } && (zN.Exclusive (List.getD (api_Spec.Conds s0) (0:Nat) default) == false && true)) || decide ((↑(List.length (api_Spec.Rules s0)):Int) > (40:Int))))))] ?_ (fun hk0=>?_)
 ·refine cH 29 h (fun hb4 h=>?_) (fun hb4 h=>?_)
  ·refine sO kk oN [4,8,88] [(7,vB false)] ?_;refine tD ?_;subst h;exact (endQ []).1
  ·refine kD ?_;show Sem _ _ _ _ _;refine wkD [88] ?_;refine qD ?_;refine sO kk oN [] [(10,vi 0)] ?_;refine bD (id:=0) ?_;obtain ⟨Inv37,mu38,h0Inv37,hInv37⟩:=h;refine loE [] (fun (q:Int)=>(fun (i:Int)=>([(10,vi i)]:Sta)) q) (fun (q:Int)=>Inv37 q) (fun (q:Int)=>mu38 q) 0 [] h0Inv37 ?_;rintro i hi;have h:=hInv37 i hi;refine qD ?_;refine sOE kk oN [] [(103,vB (decide (i < (↑(List.length (List.map zu (api_Spec.Conds s0))):Int))))] [(103,vB (decide (i < (↑(List.length (api_Spec.Conds s0)):Int))))] ?_;refine cH 34 h (fun hb39 h=>?_) (fun hb39 h=>?_)
   ·refine kD ?_;show Sem _ _ _ _ _;refine wkD [103] ?_;refine qD ?_;refine bD (id:=1) ?_;refine qD ?_;obtain ⟨h40,h⟩:=h;obtain ⟨h41,h⟩:=h;obtain ⟨r0_2,hc42,h⟩:=h;refine sO kk (nd h40 (el (zF zu (api_Spec.Conds s0) i _ (z8 _) h40 h41) (ca hc42 oN))) [] [(133,vB (!r0_2))] ?_;refine cH 44 h (fun hb43 h=>?_) (fun hb43 h=>?_)
    ·refine sO kk oN [4,8,10,133] [(7,vB false)] ?_;refine tD ?_;subst h;exact (endQ []).1
    ·refine kD ?_;show Sem _ _ _ _ _;refine wkD [133] ?_;refine sO kk oN [] [(13,vi 0)] ?_;refine bD (id:=2) ?_;obtain ⟨Inv55,mu56,h0Inv55,hInv55⟩:=h;refine loE [] (fun (q:Int)=>(fun (k_1:Int)=>([(13,vi k_1)]:Sta)) q) (fun (q:Int)=>Inv55 q) (fun (q:Int)=>mu56 q) 0 [] h0Inv55 ?_;rintro k_1 hi;have h:=hInv55 k_1 hi;refine qD ?_;refine sO kk oN [] [(142,vB (decide (k_1 < i)))] ?_;refine cH 47 h (fun hb57 h=>?_) (fun hb57 h=>?_)
     ·refine kD ?_;show Sem _ _ _ _ _;refine wkD [142] ?_;refine qD ?_;refine bD (id:=3) ?_;obtain ⟨h58,h⟩:=h;obtain ⟨h59,h⟩:=h;obtain ⟨h60,h⟩:=h;obtain ⟨h61,h⟩:=h;refine sO kk (nd h58 (el (zF zu (api_Spec.Conds s0) k_1 _ (z8 _) h58 h59) (nd h60 (el (zF zu (api_Spec.Conds s0) i _ (z8 _) h60 h61) oN)))) [] [(187,vB (ByteArray.toList (zN.Name (gd (api_Spec.Conds s0) k_1)) == ByteArray.toList (zN.Name (gd (api_Spec.Conds s0) i))))] ?_;refine cH 62 h (fun hb62 h=>?_) (fun hb62 h=>?_)
      ·refine sO kk oN [4,8,10,13,187] [(7,vB false)] ?_;refine tD ?_;subst h;exact (endQ []).1
      ·refine kD ?_;show Sem _ _ _ _ _;refine wkD [187] ?_;refine rO kk oN [] [(13,vi (w64 (k_1+1)))] ?_;exact lD (w64 (k_1+1)) [] h
     ·refine xD (i:=2) ?_;show Sem _ _ _ _ _;refine wkD [13,142] ?_;refine rO kk oN [] [(10,vi (w64 (i+1)))] ?_;exact lD (w64 (i+1)) [] h
   ·refine xD (i:=0) ?_;show Sem _ _ _ _ _;refine wkD [10,103] ?_;refine qD ?_;refine sO kk oN [] [(16,vi 0)] ?_;refine bD (id:=4) ?_;obtain ⟨Inv72,mu73,h0Inv72,hInv72⟩:=h;refine loE [] (fun (q:Int)=>(fun (i_1:Int)=>([(16,vi i_1)]:Sta)) q) (fun (q:Int)=>Inv72 q) (fun (q:Int)=>mu73 q) 0 [] h0Inv72 ?_;rintro i_1 hi;have h:=hInv72 i_1 hi;refine qD ?_;refine sOE kk oN [] [(202,vB (decide (i_1 < (↑(List.length (List.map zw (api_Spec.Rules s0))):Int))))] [(202,vB (decide (i_1 < (↑(List.length (api_Spec.Rules s0)):Int))))] ?_;refine cH 67 h (fun hb74 h=>?_) (fun hb74 h=>?_)
    ·refine kD ?_;show Sem _ _ _ _ _;refine wkD [202] ?_;refine qD ?_;refine bD (id:=5) ?_;obtain ⟨h75,h⟩:=h;obtain ⟨h76,h⟩:=h;obtain ⟨r0_5,hc77,h⟩:=h;refine sO kk (nd h75 (el (zF zw (api_Spec.Rules s0) i_1 _ (z7 _) h75 h76) (ca (Eq.mp (by unfold zaT;(try simp only [List.drop_zero,List.take_length]);first | done | simp only [nm,enq]:zaT (gd (api_Spec.Rules s0) i_1) ((↑(List.length (api_Spec.Conds s0)):Int)) r0_5=CallE Tryz.prog 85 [.agg [vL zf (zj.Conds (gd (api_Spec.Rules s0) i_1)),vB (zj.All (gd (api_Spec.Rules s0) i_1)),vB (zj.Bol (gd (api_Spec.Rules s0) i_1)),vi (zb.Kind (zj.Rx (gd (api_Spec.Rules s0) i_1))),vI .u64 (zc.e0 (zb.Set (zj.Rx (gd (api_Spec.Rules s0) i_1)))),vI .u64 (zc.e1 (zb.Set (zj.Rx (gd (api_Spec.Rules s0) i_1)))),vI .u64 (zc.e2 (zb.Set (zj.Rx (gd (api_Spec.Rules s0) i_1)))),vI .u64 (zc.e3 (zb.Set (zj.Rx (gd (api_Spec.Rules s0) i_1)))),vi (zb.Lo (zj.Rx (gd (api_Spec.Rules s0) i_1))),vi (zb.Hi (zj.Rx (gd (api_Spec.Rules s0) i_1))),vL zn (zb.Kids (zj.Rx (gd (api_Spec.Rules s0) i_1))),vi (zb.Kind (zj.Trail (gd (api_Spec.Rules s0) i_1))),vI .u64 (zc.e0 (zb.Set (zj.Trail (gd (api_Spec.Rules s0) i_1)))),vI .u64 (zc.e1 (zb.Set (zj.Trail (gd (api_Spec.Rules s0) i_1)))),vI .u64 (zc.e2 (zb.Set (zj.Trail (gd (api_Spec.Rules s0) i_1)))),vI .u64 (zc.e3 (zb.Set (zj.Trail (gd (api_Spec.Rules s0) i_1)))),vi (zb.Lo (zj.Trail (gd (api_Spec.Rules s0) i_1))),vi (zb.Hi (zj.Trail (gd (api_Spec.Rules s0) i_1))),vL zn (zb.Kids (zj.Trail (gd (api_Spec.Rules s0) i_1))),vB (zj.Eof (gd (api_Spec.Rules s0) i_1)),vi (zj.Act (gd (api_Spec.Rules s0) i_1)),vi (zj.To (gd (api_Spec.Rules s0) i_1))],vi ((↑(List.length (List.map zu (api_Spec.Conds s0))):Int))] [] (vB r0_5) []) hc77) oN))) [] [(238,vB (!r0_5))] ?_;refine cH 79 h (fun hb78 h=>?_) (fun hb78 h=>?_)
     ·refine sO kk oN [4,8,16,238] [(7,vB false)] ?_;refine tD ?_;subst h;exact (endQ []).1
     ·refine kD ?_;show Sem _ _ _ _ _;refine wkD [238] ?_;refine rO kk oN [] [(16,vi (w64 (i_1+1)))] ?_;exact lD (w64 (i_1+1)) [] h
    ·refine xD (i:=4) ?_;show Sem _ _ _ _ _;refine wkD [4,8,16,202] ?_;refine sO kk oN [] [(7,vB true)] ?_;refine tD ?_;subst h;exact (endQ []).1
 ·rcases eft (decide ((↑(List.length (List.map zu (api_Spec.Conds s0))):Int) < (1:Int))) with hb0 | hb0
  ·refine sO kk (g1 hb0 22223888888788887 oN) [] [(88,vB true)] ?_;exact Sem.cast (by try rw [hb0];kernel_rfl) hk0
  ·rcases eft (decide ((↑(List.length (List.map zu (api_Spec.Conds s0))):Int) > (8:Int))) with hb1 | hb1
   ·refine sO kk (g2 hb1 hb0 55556222222388887 oN) [] [(88,vB true)] ?_;exact Sem.cast (by try rw [hb0];try rw [hb1];kernel_rfl) hk0
   ·rcases eft (!(ByteArray.toList (zN.Name (List.getD (api_Spec.Conds s0) (0:Nat) default)) == ByteArray.toList { data:=#[(73:UInt8),(78:UInt8),(73:UInt8),(84:UInt8),(73:UInt8),(65:UInt8),(76:UInt8)] } && (zN.Exclusive (List.getD (api_Spec.Conds s0) (0:Nat) default) == false && true))) with hb3 | hb3
    ·refine sO kk (g2 hb1 hb0 55556222 (nd (show (0:Int)≤(0:Int) from by first | decide | rfl | trivial) (el (show (List.map zu (api_Spec.Conds s0))[(Int.toNat (0:Int):Nat)]?=some (zdi (List.getD (api_Spec.Conds s0) (0:Nat) default)) from by have:=zb8 zu (api_Spec.Conds s0) ((0:Nat)) _ (z8 _) ((h2 hb0) hb1);simpa only [nm,enq,z8] using this) (g2 hb3 hb1 555622223 oN)))) [] [(88,vB true)] ?_;exact Sem.cast (by try rw [hb0];try rw [hb1];try rw [hb3];kernel_rfl) hk0
    ·refine sOE kk (g2 hb1 hb0 55556222 (nd (show (0:Int)≤(0:Int) from by first | decide | rfl | trivial) (el (show (List.map zu (api_Spec.Conds s0))[(Int.toNat (0:Int):Nat)]?=some (zdi (List.getD (api_Spec.Conds s0) (0:Nat) default)) from by have:=zb8 zu (api_Spec.Conds s0) ((0:Nat)) _ (z8 _) ((h2 hb0) hb1);simpa only [nm,enq,z8] using this) (g2 hb3 hb1 555622223 oN)))) [] [(88,vB (decide ((↑(List.length (List.map zw (api_Spec.Rules s0))):Int) > (40:Int))))] [(88,vB (decide ((↑(List.length (api_Spec.Rules s0)):Int) > (40:Int))))] ?_;exact Sem.cast (by try rw [hb0];try rw [hb1];try rw [hb3];kernel_rfl) hk0
theorem zeG (res:za)
 (h:(res=({ Sets:=[],First:=[],Last:=[],Follow:=[],Null:=true }))):zaL res:=by
 unfold zaL;have kk:=cfOk [] 2;refine fD (x:=bodyOf Tryz.f130) kk Tryz.func130 ?_;refine wkS [] [] (by kernel_rfl) ?_;refine sOE kk oN [] [(1,.ptr 2 0),(2,.agg [.own 25 ([]),.own 3 ([]),.own 3 ([]),.own 40 ([]),vB false])] [(1,.ptr 2 0),(2,.agg [oL 25 ze ([]),oL 3 zf ([]),oL 3 zf ([]),oL 40 zg ([]),vB false])] ?_;refine sOE kk oN [] [(2,.agg [.own 25 ([]),.own 3 ([]),.own 3 ([]),.own 40 ([]),vB true])] [(2,.agg [oL 25 ze ([]),oL 3 zf ([]),oL 3 zf ([]),oL 40 zg ([]),vB true])] ?_;refine tD ?_;subst h;exact (endQ []).1
theorem zeE (l:(List Int)) (by0:Int) (res:(List Int))
 (h:(∃ (Inv6:List Int→Int→Prop) (mu7:List Int→Int→Nat),Inv6 ([]) 0∧(∀ (out:List Int) (i:Int),Inv6 out i→(((decide (i < (↑(List.length l):Int)))=true→((0:Int)≤i)∧i < ↑(List.length l)∧((List.length out+(1:Nat)) * (8:Nat)≤(2:Nat) ^ (47:Nat))∧(Inv6 (out++[w64 (gd l i+by0)]) (w64 (i+1))∧mu7 (out++[w64 (gd l i+by0)]) (w64 (i+1)) < mu7 out i))∧((decide (i < (↑(List.length l):Int)))=false→(res=out)))))):zap l by0 res:=by
 unfold zap;have kk:=cfOk [22] 23;refine fD (x:=bodyOf Tryz.f147) kk Tryz.func147 ?_;refine wkS [1,4] [(1,vL zf l),(4,vi by0)] (by kernel_rfl) ?_;refine sO kk oN [] [] ?_;refine sOE kk oN [] [(16,.own 3 ([]))] [(16,oL 3 zf ([]))] ?_;refine qD ?_;refine sO kk oN [] [(19,vi 0)] ?_;refine bD (id:=0) ?_;obtain ⟨Inv6,mu7,h0Inv6,hInv6⟩:=h;refine loE [] (fun (q:List Int×Int)=>(fun (out:List Int) (i:Int)=>([(16,oL 3 zf out),(19,vi i)]:Sta)) q.1 q.2) (fun (q:List Int×Int)=>Inv6 q.1 q.2) (fun (q:List Int×Int)=>mu7 q.1 q.2) (([]),0) [] h0Inv6 ?_;rintro ⟨out,i⟩ hi;have h:=hInv6 out i hi;refine qD ?_;refine sOE kk oN [] [(31,vB (decide (i < (↑(List.length (List.map zf l)):Int))))] [(31,vB (decide (i < (↑(List.length l):Int))))] ?_;refine cH 10 h (fun hb8 h=>?_) (fun hb8 h=>?_)
 ·refine kD ?_;show Sem _ _ _ _ _;refine wkD [31] ?_;refine qD ?_;refine bD (id:=1) ?_;obtain ⟨h9,h⟩:=h;obtain ⟨h10,h⟩:=h;obtain ⟨h11,h⟩:=h;refine rOE kk (nd h9 (el (zF zf l i _ rfl h9 h10) (apo zf out h11 oN))) [] [(16,.own 3 (List.map zf out++[FV.pv (Value.int IntKind.i64 (w64 (gd l i+by0)))]))] [(16,oL 3 zf (out++[w64 (gd l i+by0)]))] ?_;show Sem _ _ _ _ _;refine rO kk oN [] [(19,vi (w64 (i+1)))] ?_;exact lD ((out++[w64 (gd l i+by0)]),(w64 (i+1))) [] h
 ·refine xD (i:=0) ?_;show Sem _ _ _ _ _;refine wkD [1,4,19,31] ?_;refine sO kk oN [16] [(13,oL 3 zf out)] ?_;refine tD ?_;subst h;exact (endQ []).1
theorem zfk (a:za) (b:za) (res:za)
 (h:(List.length (za.Sets a) * (32:Nat)≤(2:Nat) ^ (47:Nat))∧((List.length (za.Sets a)+List.length (za.Sets b)) * (32:Nat)≤(2:Nat) ^ (47:Nat))∧(∃ (Inv8:List (List Int)→Int→Prop) (mu9:List (List Int)→Int→Nat),Inv8 ([]) 0∧(∀ (out_Follow:List (List Int)) (i:Int),Inv8 out_Follow i→(((decide (i < (↑(List.length (za.Follow a)):Int)))=true→((0:Int)≤i)∧i < ↑(List.length (za.Follow a))∧((List.length out_Follow+(1:Nat)) * (24:Nat)≤(2:Nat) ^ (47:Nat))∧(Inv8 (out_Follow++[gd (za.Follow a) i]) (w64 (i+1))∧mu9 (out_Follow++[gd (za.Follow a) i]) (w64 (i+1)) < mu9 out_Follow i))∧((decide (i < (↑(List.length (za.Follow a)):Int)))=false→(∃ (Inv23:List (List Int)→Int→Prop) (mu24:List (List Int)→Int→Nat),Inv23 out_Follow 0∧(∀ (out_Follow_1:List (List Int)) (i_1:Int),Inv23 out_Follow_1 i_1→(((decide (i_1 < (↑(List.length (za.Follow b)):Int)))=true→((0:Int)≤i_1)∧i_1 < ↑(List.length (za.Follow b))∧(∃ r0_2:List Int,zap (gd (za.Follow b) i_1) ((↑(List.length (za.Sets a)):Int)) r0_2∧((List.length out_Follow_1+(1:Nat)) * (24:Nat)≤(2:Nat) ^ (47:Nat))∧(Inv23 (out_Follow_1++[r0_2]) (w64 (i_1+1))∧mu24 (out_Follow_1++[r0_2]) (w64 (i_1+1)) < mu24 out_Follow_1 i_1)))∧((decide (i_1 < (↑(List.length (za.Follow b)):Int)))=false→(res=({ Sets:=za.Sets a++za.Sets b,First:=[],Last:=[],Follow:=out_Follow_1,Null:=false }))))))))))):zat a b res:=by
 unfold zat;have kk:=cfOk [55] 56;refine fD (x:=bodyOf Tryz.f146) kk Tryz.func146 ?_;refine wkS [1,4] [(1,zq a),(4,zq b)] (by kernel_rfl) ?_;refine sOE kk oN [1,4] [(7,.ptr 14 0),(10,.ptr 20 0),(13,.ptr 26 0),(14,zq a),(20,zq b),(26,.agg [.own 25 ([]),.own 3 ([]),.own 3 ([]),.own 40 ([]),vB false])] [(7,.ptr 14 0),(10,.ptr 20 0),(13,.ptr 26 0),(14,zq a),(20,zq b),(26,.agg [oL 25 ze ([]),oL 3 zf ([]),oL 3 zf ([]),oL 40 zg ([]),vB false])] ?_;refine sOE kk oN [] [(16,vi ((↑(List.length (List.map ze (za.Sets a))):Int)))] [(16,vi ((↑(List.length (za.Sets a)):Int)))] ?_;obtain ⟨h0,h⟩:=h;obtain ⟨h1,h⟩:=h;refine sOE kk (nd (show ((0:Nat)+List.length (List.map ze (za.Sets a))) * (32:Nat)≤(2:Nat) ^ (47:Nat) from by simpa only [nm] using h0) (nd (show List.all (List.map ze (za.Sets a)) (FV.fits (4:Nat))=true from by first | exact zcm _ | exact keysenc_arr4_uint64 _ | rfl | simp [isByteF,FV.fits,FV.size,FV.cells,FV.one,zak]) (nd (show (List.length (List.map ze (za.Sets a))+List.length (List.map ze (za.Sets b))) * (32:Nat)≤(2:Nat) ^ (47:Nat) from by simpa only [nm] using h1) (nd (show List.all (List.map ze (za.Sets b)) (FV.fits (4:Nat))=true from by first | exact zcm _ | exact keysenc_arr4_uint64 _ | rfl | simp [isByteF,FV.fits,FV.size,FV.cells,FV.one,zak]) oN)))) [] [(19,.ptr 38 0),(38,.agg [.f (FV.sl (List.take (List.length (List.map ze (za.Sets a)++List.map ze (za.Sets b))) (List.drop (0:Nat) (List.map ze (za.Sets a)++List.map ze (za.Sets b))))),.own 3 ([]),.own 3 ([]),.own 40 ([]),vB false])] [(19,.ptr 38 0),(38,.agg [vL ze (za.Sets a++za.Sets b),oL 3 zf ([]),oL 3 zf ([]),oL 40 zg ([]),vB false])] ?_;refine qD ?_;refine sO kk oN [] [(22,vi 0)] ?_;refine bD (id:=0) ?_;obtain ⟨Inv8,mu9,h0Inv8,hInv8⟩:=h;refine loE [] (fun (q:List (List Int)×Int)=>(fun (out_Follow:List (List Int)) (i:Int)=>([(22,vi i),(38,.agg [vL ze (za.Sets a++za.Sets b),oL 3 zf ([]),oL 3 zf ([]),oL 40 zg out_Follow,vB false])]:Sta)) q.1 q.2) (fun (q:List (List Int)×Int)=>Inv8 q.1 q.2) (fun (q:List (List Int)×Int)=>mu9 q.1 q.2) (([]),0) [] h0Inv8 ?_;rintro ⟨out_Follow,i⟩ hi;have h:=hInv8 out_Follow i hi;refine qD ?_;refine sOE kk oN [] [(70,vB (decide (i < (↑(List.length (List.map zg (za.Follow a))):Int))))] [(70,vB (decide (i < (↑(List.length (za.Follow a)):Int))))] ?_;refine cH 23 h (fun hb10 h=>?_) (fun hb10 h=>?_)
 ·refine kD ?_;show Sem _ _ _ _ _;refine wkD [70] ?_;refine qD ?_;refine bD (id:=1) ?_;obtain ⟨h11,h⟩:=h;obtain ⟨h12,h⟩:=h;obtain ⟨h13,h⟩:=h;refine rOE kk (nd h11 (el (zF zg (za.Follow a) i _ rfl h11 h12) (apo zg out_Follow h13 oN))) [] [(38,.agg [vL ze (za.Sets a++za.Sets b),oL 3 zf ([]),oL 3 zf ([]),.own 40 (List.map zg out_Follow++[FV.sl (List.map zf (gd (za.Follow a) i))]),vB false])] [(38,.agg [vL ze (za.Sets a++za.Sets b),oL 3 zf ([]),oL 3 zf ([]),oL 40 zg (out_Follow++[gd (za.Follow a) i]),vB false])] ?_;show Sem _ _ _ _ _;refine rO kk oN [] [(22,vi (w64 (i+1)))] ?_;exact lD ((out_Follow++[gd (za.Follow a) i]),(w64 (i+1))) [] h
 ·refine xD (i:=0) ?_;show Sem _ _ _ _ _;refine wkD [7,14,22,70] ?_;refine qD ?_;refine sO kk oN [] [(25,vi 0)] ?_;refine bD (id:=2) ?_;obtain ⟨Inv23,mu24,h0Inv23,hInv23⟩:=h;refine loE [] (fun (q:List (List Int)×Int)=>(fun (out_Follow_1:List (List Int)) (i_1:Int)=>([(25,vi i_1),(38,.agg [vL ze (za.Sets a++za.Sets b),oL 3 zf ([]),oL 3 zf ([]),oL 40 zg out_Follow_1,vB false])]:Sta)) q.1 q.2) (fun (q:List (List Int)×Int)=>Inv23 q.1 q.2) (fun (q:List (List Int)×Int)=>mu24 q.1 q.2) (out_Follow,0) [] h0Inv23 ?_;rintro ⟨out_Follow_1,i_1⟩ hi;have h:=hInv23 out_Follow_1 i_1 hi;refine qD ?_;refine sOE kk oN [] [(121,vB (decide (i_1 < (↑(List.length (List.map zg (za.Follow b))):Int))))] [(121,vB (decide (i_1 < (↑(List.length (za.Follow b)):Int))))] ?_;refine cH 40 h (fun hb25 h=>?_) (fun hb25 h=>?_)
  ·refine kD ?_;show Sem _ _ _ _ _;refine wkD [121] ?_;refine qD ?_;refine bD (id:=3) ?_;obtain ⟨h26,h⟩:=h;obtain ⟨h27,h⟩:=h;obtain ⟨r0_2,hc28,h⟩:=h;obtain ⟨h29,h⟩:=h;refine rOE kk (nd h26 (el (zF zg (za.Follow b) i_1 _ rfl h26 h27) (ca hc28 (apo zg out_Follow_1 h29 oN)))) [] [(38,.agg [vL ze (za.Sets a++za.Sets b),oL 3 zf ([]),oL 3 zf ([]),.own 40 (List.map zg out_Follow_1++[FV.sl (List.take (List.length (List.map zf r0_2)) (List.drop (0:Nat) (List.map zf r0_2)))]),vB false])] [(38,.agg [vL ze (za.Sets a++za.Sets b),oL 3 zf ([]),oL 3 zf ([]),oL 40 zg (out_Follow_1++[r0_2]),vB false])] ?_;show Sem _ _ _ _ _;refine rO kk oN [] [(25,vi (w64 (i_1+1)))] ?_;exact lD ((out_Follow_1++[r0_2]),(w64 (i_1+1))) [] h
  ·refine xD (i:=2) ?_;show Sem _ _ _ _ _;refine wkD [10,16,20,25,121] ?_;refine sO kk (nd (show (0:Nat)=(0:Nat)∧(0:Nat)=List.length (List.map zf []) from by first | decide | rfl | trivial) (nd (show (0:Nat)=(0:Nat)∧(0:Nat)=List.length (List.map zf []) from by first | decide | rfl | trivial) (nd (show (0:Nat)=(0:Nat)∧List.length (List.map zg out_Follow_1)=List.length (List.map zg out_Follow_1) from ⟨rfl,rfl⟩) oN))) [19,38] [(26,.agg [vL ze (za.Sets a++za.Sets b),oL 3 zf ([]),oL 3 zf ([]),oL 40 zg out_Follow_1,vB false])] ?_;refine tD ?_;subst h;exact (endQ []).1
theorem zfP (a:(List Int)) (b:(List Int)) (res:(List Int))
 (h:(∃ (Inv38:List Int→Int→Int→Prop) (mu39:List Int→Int→Int→Nat),Inv38 ([]) 0 0∧(∀ (out:List Int) (i:Int) (k:Int),Inv38 out i k→(((decide (i < (↑(List.length (List.map zf a)):Int)) || decide (k < (↑(List.length b):Int)))=true→((k == (↑(List.length (List.map zf b)):Int))=false→((decide (i < (↑(List.length (List.map zf a)):Int)))=true→((0:Int)≤i)))∧((k == (↑(List.length (List.map zf b)):Int))=false→((decide (i < (↑(List.length (List.map zf a)):Int)))=true→i < ↑(List.length a)))∧((k == (↑(List.length (List.map zf b)):Int))=false→((decide (i < (↑(List.length (List.map zf a)):Int)))=true→((0:Int)≤k)))∧((k == (↑(List.length (List.map zf b)):Int))=false→((decide (i < (↑(List.length (List.map zf a)):Int)))=true→k < ↑(List.length b)))∧(((k == (↑(List.length (List.map zf b)):Int) || decide (i < (↑(List.length (List.map zf a)):Int)) && decide (gd a i < gd b k))=true→((0:Int)≤i)∧i < ↑(List.length a)∧((List.length out+(1:Nat)) * (8:Nat)≤(2:Nat) ^ (47:Nat))∧(Inv38 (out++[gd a i]) (w64 (i+1)) k∧mu39 (out++[gd a i]) (w64 (i+1)) k < mu39 out i k))∧((k == (↑(List.length (List.map zf b)):Int) || decide (i < (↑(List.length (List.map zf a)):Int)) && decide (gd a i < gd b k))=false→((i == (↑(List.length (List.map zf a)):Int))=false→((0:Int)≤k))∧((i == (↑(List.length (List.map zf a)):Int))=false→k < ↑(List.length b))∧((i == (↑(List.length (List.map zf a)):Int))=false→((0:Int)≤i))∧((i == (↑(List.length (List.map zf a)):Int))=false→i < ↑(List.length a))∧(((i == (↑(List.length (List.map zf a)):Int) || decide (gd b k < gd a i))=true→((0:Int)≤k)∧k < ↑(List.length b)∧((List.length out+(1:Nat)) * (8:Nat)≤(2:Nat) ^ (47:Nat))∧(Inv38 (out++[gd b k]) i (w64 (k+1))∧mu39 (out++[gd b k]) i (w64 (k+1)) < mu39 out i k))∧((i == (↑(List.length (List.map zf a)):Int) || decide (gd b k < gd a i))=false→((0:Int)≤i)∧i < ↑(List.length a)∧((List.length out+(1:Nat)) * (8:Nat)≤(2:Nat) ^ (47:Nat))∧(Inv38 (out++[gd a i]) (w64 (i+1)) (w64 (k+1))∧mu39 (out++[gd a i]) (w64 (i+1)) (w64 (k+1)) < mu39 out i k))))))∧((decide (i < (↑(List.length (List.map zf a)):Int)) || decide (k < (↑(List.length b):Int)))=false→(res=out)))))):zC a b res:=by
 unfold zC;have kk:=cfOk [85] 86;refine fD (x:=bodyOf Tryz.f47) kk Tryz.func47 ?_;refine wkS [1,4] [(1,vL zf a),(4,vL zf b)] (by kernel_rfl) ?_;refine sO kk oN [] [] ?_;refine sOE kk oN [] [(16,.own 3 ([]))] [(16,oL 3 zf ([]))] ?_;refine sO kk oN [] [(19,vi 0),(22,vi 0)] ?_;refine qD ?_;refine bD (id:=0) ?_;obtain ⟨Inv38,mu39,h0Inv38,hInv38⟩:=h;refine loE [] (fun (q:List Int×Int×Int)=>(fun (out:List Int) (i:Int) (k:Int)=>([(16,oL 3 zf out),(19,vi i),(22,vi k)]:Sta)) q.1 q.2.1 q.2.2) (fun (q:List Int×Int×Int)=>Inv38 q.1 q.2.1 q.2.2) (fun (q:List Int×Int×Int)=>mu39 q.1 q.2.1 q.2.2) (([]),0,0) [] h0Inv38 ?_;rintro ⟨out,i,k⟩ hi;have h:=hInv38 out i k hi;refine qD ?_;refine sM [] [(52,vB (decide (i < (↑(List.length (List.map zf a)):Int)) || decide (k < (↑(List.length b):Int))))] ?_ (fun hk0=>?_)
 ·refine cH 17 h (fun hb41 h=>?_) (fun hb41 h=>?_)
  ·refine kD ?_;show Sem _ _ _ _ _;refine wkD [52] ?_;refine bD (id:=1) ?_;refine bD (id:=2) ?_;obtain ⟨h44,h45,h46,h47,h⟩:=h;refine sM [] [(88,vB (k == (↑(List.length (List.map zf b)):Int) || decide (i < (↑(List.length (List.map zf a)):Int)) && decide (gd a i < gd b k)))] ?_ (fun hk0=>?_)
   ·refine cH 29 h (fun hb48 h=>?_) (fun hb48 h=>?_)
    ·obtain ⟨h49,h⟩:=h;obtain ⟨h50,h⟩:=h;obtain ⟨h51,h⟩:=h;refine sOE kk (nd h49 (el (zF zf a i _ rfl h49 h50) (apo zf out h51 oN))) [88] [(16,.own 3 (List.map zf out++[FV.pv (Value.int IntKind.i64 (gd a i))]))] [(16,oL 3 zf (out++[gd a i]))] ?_;refine rO kk oN [] [(19,vi (w64 (i+1)))] ?_;exact lD ((out++[gd a i]),(w64 (i+1)),k) [] h
    ·obtain ⟨h53,h54,h55,h56,h⟩:=h;refine sM [88] [(181,vB (i == (↑(List.length (List.map zf a)):Int) || decide (gd b k < gd a i)))] ?_ (fun hk0=>?_)
     ·refine cH 60 h (fun hb57 h=>?_) (fun hb57 h=>?_)
      ·obtain ⟨h58,h⟩:=h;obtain ⟨h59,h⟩:=h;obtain ⟨h60,h⟩:=h;refine sOE kk (nd h58 (el (zF zf b k _ rfl h58 h59) (apo zf out h60 oN))) [181] [(16,.own 3 (List.map zf out++[FV.pv (Value.int IntKind.i64 (gd b k))]))] [(16,oL 3 zf (out++[gd b k]))] ?_;refine rO kk oN [] [(22,vi (w64 (k+1)))] ?_;exact lD ((out++[gd b k]),i,(w64 (k+1))) [] h
      ·obtain ⟨h61,h⟩:=h;obtain ⟨h62,h⟩:=h;obtain ⟨h63,h⟩:=h;refine sOE kk (nd h61 (el (zF zf a i _ rfl h61 h62) (apo zf out h63 oN))) [181] [(16,.own 3 (List.map zf out++[FV.pv (Value.int IntKind.i64 (gd a i))]))] [(16,oL 3 zf (out++[gd a i]))] ?_;refine sO kk oN [] [(19,vi (w64 (i+1)))] ?_;refine rO kk oN [] [(22,vi (w64 (k+1)))] ?_;exact lD ((out++[gd a i]),(w64 (i+1)),(w64 (k+1))) [] h
     ·rcases eft (i == (↑(List.length (List.map zf a)):Int)) with hb52 | hb52
      ·refine sO kk (g1 hb52 2222222223 oN) [88] [(181,vB true)] ?_;exact Sem.cast (by try rw [hb52];kernel_rfl) hk0
      ·refine sO kk (g1 hb52 222 (nd (h53 hb52) (el (zF zf b k _ rfl (h53 hb52) (h54 hb52)) (g1 hb52 2222 (nd (h55 hb52) (el (zF zf a i _ rfl (h55 hb52) (h56 hb52)) (g1 hb52 223 oN))))))) [88] [(181,vB (decide (gd b k < gd a i)))] ?_;exact Sem.cast (by try rw [hb52];kernel_rfl) hk0
   ·rcases eft (k == (↑(List.length (List.map zf b)):Int)) with hb42 | hb42
    ·refine sO kk (g1 hb42 2222223 oN) [] [(88,vB true)] ?_;exact Sem.cast (by try rw [hb42];kernel_rfl) hk0
    ·rcases eft (decide (i < (↑(List.length (List.map zf a)):Int))) with hb43 | hb43
     ·refine sO kk (g2 hb43 hb42 55555111 (nd ((h44 hb42) hb43) (el (zF zf a i _ rfl ((h44 hb42) hb43) ((h45 hb42) hb43)) (g1 hb43 1111 (nd ((h46 hb42) hb43) (el (zF zf b k _ rfl ((h46 hb42) hb43) ((h47 hb42) hb43)) (g2 hb42 hb43 44263 oN))))))) [] [(88,vB (decide (gd a i < gd b k)))] ?_;exact Sem.cast (by try rw [hb42];try rw [hb43];kernel_rfl) hk0
     ·refine sO kk (g2 hb42 hb43 22222444444444263 oN) [] [(88,vB false)] ?_;exact Sem.cast (by try rw [hb42];try rw [hb43];kernel_rfl) hk0
  ·refine xD (i:=0) ?_;show Sem _ _ _ _ _;refine wkD [1,4,19,22,52] ?_;refine sO kk oN [16] [(13,oL 3 zf out)] ?_;refine tD ?_;subst h;exact (endQ [(13,0)]).1
 ·rcases eft (decide (i < (↑(List.length (List.map zf a)):Int))) with hb40 | hb40
  ·refine sO kk (g1 hb40 22223 oN) [] [(52,vB true)] ?_;exact Sem.cast (by try rw [hb40];kernel_rfl) hk0
  ·refine sOE kk (g1 hb40 22223 oN) [] [(52,vB (decide (k < (↑(List.length (List.map zf b)):Int))))] [(52,vB (decide (k < (↑(List.length b):Int))))] ?_;exact Sem.cast (by try rw [hb40];kernel_rfl) hk0
theorem zfN (a:za) (b:za) (res:za)
 (h:(∃ r0:za,zat a b r0∧(∃ r0_1:List Int,zap (za.First b) ((↑(List.length (za.Sets a)):Int)) r0_1∧(∃ r0_2:List Int,zap (za.Last b) ((↑(List.length (za.Sets a)):Int)) r0_2∧(∃ (Inv25:List (List Int)→Int→Prop) (mu26:List (List Int)→Int→Nat),Inv25 (za.Follow r0) 0∧(∀ (out_Follow:List (List Int)) (i:Int),Inv25 out_Follow i→(((decide (i < (↑(List.length (za.Last a)):Int)))=true→((0:Int)≤i)∧i < ↑(List.length (za.Last a))∧((0:Int)≤i)∧i < ↑(List.length (za.Last a))∧((0:Int)≤gd (za.Last a) i)∧(Int.toNat (gd (za.Last a) i) < List.length out_Follow)∧gd (za.Last a) i < ↑(List.length out_Follow)∧(∃ r0_5:List Int,zC (gd out_Follow (gd (za.Last a) i)) r0_1 r0_5∧((0:Int)≤gd (za.Last a) i)∧(Int.toNat (gd (za.Last a) i) < List.length out_Follow)∧gd (za.Last a) i < ↑(List.length out_Follow)∧(Inv25 (List.set out_Follow (Int.toNat (gd (za.Last a) i)) r0_5) (w64 (i+1))∧mu26 (List.set out_Follow (Int.toNat (gd (za.Last a) i)) r0_5) (w64 (i+1)) < mu26 out_Follow i)))∧((decide (i < (↑(List.length (za.Last a)):Int)))=false→(∃ J41:List Int→Prop,(∀ (out_First:List Int),J41 out_First→(∃ J44:List Int→Prop,(∀ (out_Last:List Int),J44 out_Last→(res=({ Sets:=za.Sets r0,First:=out_First,Last:=out_Last,Follow:=out_Follow,Null:=za.Null a && za.Null b })))∧(((za.Null b)=true→(∃ r0_8:List Int,zC (za.Last a) r0_2 r0_8∧J44 r0_8))∧((za.Null b)=false→J44 r0_2))))∧(((za.Null a)=true→(∃ r0_9:List Int,zC (za.First a) r0_1 r0_9∧J41 r0_9))∧((za.Null a)=false→J41 (za.First a)))))))))))):zT a b res:=by
 unfold zT;have kk:=cfOk [76] 77;refine fD (x:=bodyOf Tryz.f131) kk Tryz.func131 ?_;refine wkS [1,4] [(1,zq a),(4,zq b)] (by kernel_rfl) ?_;refine sOE kk oN [1,4] [(7,.ptr 14 0),(10,.ptr 20 0),(13,.ptr 26 0),(14,zq a),(20,zq b),(26,.agg [.own 25 ([]),.own 3 ([]),.own 3 ([]),.own 40 ([]),vB false])] [(7,.ptr 14 0),(10,.ptr 20 0),(13,.ptr 26 0),(14,zq a),(20,zq b),(26,.agg [oL 25 ze ([]),oL 3 zf ([]),oL 3 zf ([]),oL 40 zg ([]),vB false])] ?_;refine sOE kk oN [] [(16,vi ((↑(List.length (List.map ze (za.Sets a))):Int)))] [(16,vi ((↑(List.length (za.Sets a)):Int)))] ?_;obtain ⟨r0,hc0,h⟩:=h;refine sO kk (ca hc0 oN) [] [(19,.ptr 38 0),(38,.agg [vL ze (za.Sets r0),oL 3 zf (za.First r0),oL 3 zf (za.Last r0),oL 40 zg (za.Follow r0),vB (za.Null r0)])] ?_;obtain ⟨r0_1,hc1,h⟩:=h;obtain ⟨r0_2,hc2,h⟩:=h;refine sO kk (ca hc1 (ca hc2 oN)) [16] [(22,oL 3 zf r0_1),(25,oL 3 zf r0_2)] ?_;refine qD ?_;refine sO kk oN [] [(28,vi 0)] ?_;refine bD (id:=0) ?_;obtain ⟨Inv25,mu26,h0Inv25,hInv25⟩:=h;refine loE [] (fun (q:List (List Int)×Int)=>(fun (out_Follow:List (List Int)) (i:Int)=>([(22,vL zf r0_1),(28,vi i),(38,.agg [vL ze (za.Sets r0),oL 3 zf (za.First r0),oL 3 zf (za.Last r0),oL 40 zg out_Follow,vB (za.Null r0)])]:Sta)) q.1 q.2) (fun (q:List (List Int)×Int)=>Inv25 q.1 q.2) (fun (q:List (List Int)×Int)=>mu26 q.1 q.2) ((za.Follow r0),0) [(22,0)] h0Inv25 ?_;rintro ⟨out_Follow,i⟩ hi;have h:=hInv25 out_Follow i hi;refine qD ?_;refine sOE kk oN [] [(85,vB (decide (i < (↑(List.length (List.map zf (za.Last a))):Int))))] [(85,vB (decide (i < (↑(List.length (za.Last a)):Int))))] ?_;refine cH 28 h (fun hb27 h=>?_) (fun hb27 h=>?_)
 ·refine kD ?_;show Sem _ _ _ _ _;refine wkD [85] ?_;refine qD ?_;refine bD (id:=1) ?_;obtain ⟨h28,h⟩:=h;obtain ⟨h29,h⟩:=h;obtain ⟨h30,h⟩:=h;obtain ⟨h31,h⟩:=h;obtain ⟨h32,h⟩:=h;obtain ⟨h33,h⟩:=h;obtain ⟨h34,h⟩:=h;obtain ⟨r0_5,hc35,h⟩:=h;obtain ⟨h36,h⟩:=h;obtain ⟨h37,h⟩:=h;obtain ⟨h38,h⟩:=h;refine rOE kk (nd h28 (el (zF zf (za.Last a) i _ rfl h28 h29) (nd h30 (el (zF zf (za.Last a) i _ rfl h30 h31) (nd h32 (nd (show Int.toNat (gd (za.Last a) i) < List.length (List.map zg out_Follow) from by simpa only [nm] using h33) (el (show (List.map zg out_Follow)[((0:Nat)+Int.toNat (gd (za.Last a) i):Nat)]?=some (fL zf (gd out_Follow (gd (za.Last a) i))) from by have:=zF zg out_Follow (gd (za.Last a) i) _ rfl h32 h34;simpa only [nm,enq,zg] using this) (ca hc35 (nd h36 (nd (show Int.toNat (gd (za.Last a) i) < List.length (List.map zg out_Follow) from by simpa only [nm] using h37) (el (show (List.map zg out_Follow)[((0:Nat)+Int.toNat (gd (za.Last a) i):Nat)]?=some (fL zf (gd out_Follow (gd (za.Last a) i))) from by have:=zF zg out_Follow (gd (za.Last a) i) _ rfl h36 h38;simpa only [nm,enq,zg] using this) oN))))))))))) [] [(38,.agg [vL ze (za.Sets r0),oL 3 zf (za.First r0),oL 3 zf (za.Last r0),.own 40 (List.set (List.map zg out_Follow) ((0:Nat)+Int.toNat (gd (za.Last a) i)) (FV.sl (List.map zf r0_5))),vB (za.Null r0)])] [(38,.agg [vL ze (za.Sets r0),oL 3 zf (za.First r0),oL 3 zf (za.Last r0),oL 40 zg (List.set out_Follow (Int.toNat (gd (za.Last a) i)) r0_5),vB (za.Null r0)])] ?_;show Sem _ _ _ _ _;refine rO kk oN [] [(28,vi (w64 (i+1)))] ?_;exact lD ((List.set out_Follow (Int.toNat (gd (za.Last a) i)) r0_5),(w64 (i+1))) [] h
 ·refine xD (i:=0) ?_;show Sem _ _ _ _ _;refine wkD [28,85] ?_;refine sOE kk oN [] [(25,vL zf r0_2),(38,.agg [vL ze (za.Sets r0),vL zf (za.First a),.f (FV.sl (List.take (List.length (List.map zf r0_2)) (List.drop (0:Nat) (List.map zf r0_2)))),oL 40 zg out_Follow,vB (za.Null r0)])] [(25,vL zf r0_2),(38,.agg [vL ze (za.Sets r0),vL zf (za.First a),vL zf r0_2,oL 40 zg out_Follow,vB (za.Null r0)])] ?_;obtain ⟨J41,hJ41,h⟩:=h;refine sjE (fun (q:List Int)=>J41 q) [22] (fun (q:List Int)=>(fun (out_First:List Int)=>([(38,.agg [vL ze (za.Sets r0),vL zf out_First,vL zf r0_2,oL 40 zg out_Follow,vB (za.Null r0)])]:Sta)) q) ?_ ?_
  ·rintro out_First hj;have h:=hJ41 out_First hj;obtain ⟨J44,hJ44,h⟩:=h;refine sjE (fun (q:List Int)=>J44 q) [25] (fun (q:List Int)=>(fun (out_Last:List Int)=>([(38,.agg [vL ze (za.Sets r0),vL zf out_First,vL zf out_Last,oL 40 zg out_Follow,vB (za.Null r0)])]:Sta)) q) ?_ ?_
   ·rintro out_Last hj;have h:=hJ44 out_Last hj;refine sM [7,10,14,20] [(38,.agg [vL ze (za.Sets r0),vL zf out_First,vL zf out_Last,oL 40 zg out_Follow,vB (za.Null a && za.Null b)])] ?_ (fun hk0=>?_)
    ·refine sO kk (nd (show (0:Nat)=(0:Nat)∧List.length (List.map zg out_Follow)=List.length (List.map zg out_Follow) from ⟨rfl,rfl⟩) oN) [19,38] [(26,.agg [vL ze (za.Sets r0),vL zf out_First,vL zf out_Last,oL 40 zg out_Follow,vB (za.Null a && za.Null b)])] ?_;refine tD ?_;subst h;exact (endQ []).1
    ·rcases eft (za.Null a) with hb45 | hb45
     ·refine sO kk (g1 hb45 113 oN) [7,10,14,20] [(38,.agg [vL ze (za.Sets r0),vL zf out_First,vL zf out_Last,oL 40 zg out_Follow,vB (za.Null b)])] ?_;exact Sem.cast (by try rw [hb45];kernel_rfl) hk0
     ·refine sO kk (g1 hb45 113 oN) [7,10,14,20] [(38,.agg [vL ze (za.Sets r0),vL zf out_First,vL zf out_Last,oL 40 zg out_Follow,vB false])] ?_;exact Sem.cast (by try rw [hb45];kernel_rfl) hk0
   ·refine sO kk oN [] [(190,vB (za.Null b))] ?_;refine cH 63 h (fun hb46 h=>?_) (fun hb46 h=>?_)
    ·obtain ⟨r0_8,hc47,h⟩:=h;refine rO kk (ca hc47 oN) [25,190] [(38,.agg [vL ze (za.Sets r0),vL zf out_First,vL zf r0_8,oL 40 zg out_Follow,vB (za.Null r0)])] ?_;exact jD r0_8 [] h
    ·refine kD ?_;exact jD r0_2 [] h
  ·refine sO kk oN [] [(169,vB (za.Null a))] ?_;refine cH 56 h (fun hb48 h=>?_) (fun hb48 h=>?_)
   ·obtain ⟨r0_9,hc49,h⟩:=h;refine rO kk (ca hc49 oN) [22,169] [(38,.agg [vL ze (za.Sets r0),vL zf r0_9,vL zf r0_2,oL 40 zg out_Follow,vB (za.Null r0)])] ?_;exact jD r0_9 [] h
   ·refine kD ?_;exact jD (za.First a) [] h
theorem zfO (a:za) (b:za) (res:za)
 (h:(∃ r0:za,zat a b r0∧(∃ r0_1:List Int,zap (za.First b) ((↑(List.length (za.Sets a)):Int)) r0_1∧(∃ r0_2:List Int,zC (za.First a) r0_1 r0_2∧(∃ r0_3:List Int,zap (za.Last b) ((↑(List.length (za.Sets a)):Int)) r0_3∧(∃ r0_4:List Int,zC (za.Last a) r0_3 r0_4∧(res=({ Sets:=za.Sets r0,First:=r0_2,Last:=r0_4,Follow:=za.Follow r0,Null:=za.Null a || za.Null b })))))))):zbG a b res:=by
 unfold zbG;have kk:=cfOk [36] 37;refine fD (x:=bodyOf Tryz.f132) kk Tryz.func132 ?_;refine wkS [1,4] [(1,zq a),(4,zq b)] (by kernel_rfl) ?_;refine sOE kk oN [1,4] [(7,.ptr 14 0),(10,.ptr 20 0),(13,.ptr 26 0),(14,zq a),(20,zq b),(26,.agg [.own 25 ([]),.own 3 ([]),.own 3 ([]),.own 40 ([]),vB false])] [(7,.ptr 14 0),(10,.ptr 20 0),(13,.ptr 26 0),(14,zq a),(20,zq b),(26,.agg [oL 25 ze ([]),oL 3 zf ([]),oL 3 zf ([]),oL 40 zg ([]),vB false])] ?_;refine sOE kk oN [] [(16,vi ((↑(List.length (List.map ze (za.Sets a))):Int)))] [(16,vi ((↑(List.length (za.Sets a)):Int)))] ?_;obtain ⟨r0,hc0,h⟩:=h;refine sO kk (ca hc0 oN) [] [(19,.ptr 38 0),(38,.agg [vL ze (za.Sets r0),oL 3 zf (za.First r0),oL 3 zf (za.Last r0),oL 40 zg (za.Follow r0),vB (za.Null r0)])] ?_;obtain ⟨r0_1,hc1,h⟩:=h;obtain ⟨r0_2,hc2,h⟩:=h;refine sO kk (ca hc1 (ca (Eq.mp (by unfold zC;(try simp only [List.drop_zero,List.take_length]);first | done | simp only [nm,enq]:zC (za.First a) r0_1 r0_2=CallE Tryz.prog 47 [vL zf (za.First a),.f (FV.sl (List.take (List.length (List.map zf r0_1)) (List.drop (0:Nat) (List.map zf r0_1))))] [] (vL zf r0_2) []) hc2) oN)) [] [(38,.agg [vL ze (za.Sets r0),vL zf r0_2,oL 3 zf (za.Last r0),oL 40 zg (za.Follow r0),vB (za.Null r0)])] ?_;obtain ⟨r0_3,hc3,h⟩:=h;obtain ⟨r0_4,hc4,h⟩:=h;refine sO kk (ca hc3 (ca (Eq.mp (by unfold zC;(try simp only [List.drop_zero,List.take_length]);first | done | simp only [nm,enq]:zC (za.Last a) r0_3 r0_4=CallE Tryz.prog 47 [vL zf (za.Last a),.f (FV.sl (List.take (List.length (List.map zf r0_3)) (List.drop (0:Nat) (List.map zf r0_3))))] [] (vL zf r0_4) []) hc4) oN)) [16] [(38,.agg [vL ze (za.Sets r0),vL zf r0_2,vL zf r0_4,oL 40 zg (za.Follow r0),vB (za.Null r0)])] ?_;refine sM [7,10,14,20] [(38,.agg [vL ze (za.Sets r0),vL zf r0_2,vL zf r0_4,oL 40 zg (za.Follow r0),vB (za.Null a || za.Null b)])] ?_ (fun hk0=>?_)
 ·refine sO kk (nd (show (0:Nat)=(0:Nat)∧List.length (List.map zg (za.Follow r0))=List.length (List.map zg (za.Follow r0)) from ⟨rfl,rfl⟩) oN) [19,38] [(26,.agg [vL ze (za.Sets r0),vL zf r0_2,vL zf r0_4,oL 40 zg (za.Follow r0),vB (za.Null a || za.Null b)])] ?_;refine tD ?_;subst h;exact (endQ []).1
 ·rcases eft (za.Null a) with hb5 | hb5
  ·refine sO kk (g1 hb5 223 oN) [7,10,14,20] [(38,.agg [vL ze (za.Sets r0),vL zf r0_2,vL zf r0_4,oL 40 zg (za.Follow r0),vB true])] ?_;exact Sem.cast (by try rw [hb5];kernel_rfl) hk0
  ·refine sO kk (g1 hb5 223 oN) [7,10,14,20] [(38,.agg [vL ze (za.Sets r0),vL zf r0_2,vL zf r0_4,oL 40 zg (za.Follow r0),vB (za.Null b)])] ?_;exact Sem.cast (by try rw [hb5];kernel_rfl) hk0
theorem zeH (a:za) (res:za)
 (h:(∃ r0:za,zat a ({ Sets:=[],First:=[],Last:=[],Follow:=[],Null:=false }) r0∧(∃ (Inv23:List (List Int)→Int→Prop) (mu24:List (List Int)→Int→Nat),Inv23 (za.Follow r0) 0∧(∀ (out_Follow:List (List Int)) (i:Int),Inv23 out_Follow i→(((decide (i < (↑(List.length (za.Last a)):Int)))=true→((0:Int)≤i)∧i < ↑(List.length (za.Last a))∧((0:Int)≤i)∧i < ↑(List.length (za.Last a))∧((0:Int)≤gd (za.Last a) i)∧(Int.toNat (gd (za.Last a) i) < List.length out_Follow)∧gd (za.Last a) i < ↑(List.length out_Follow)∧(∃ r0_3:List Int,zC (gd out_Follow (gd (za.Last a) i)) (za.First a) r0_3∧((0:Int)≤gd (za.Last a) i)∧(Int.toNat (gd (za.Last a) i) < List.length out_Follow)∧gd (za.Last a) i < ↑(List.length out_Follow)∧(Inv23 (List.set out_Follow (Int.toNat (gd (za.Last a) i)) r0_3) (w64 (i+1))∧mu24 (List.set out_Follow (Int.toNat (gd (za.Last a) i)) r0_3) (w64 (i+1)) < mu24 out_Follow i)))∧((decide (i < (↑(List.length (za.Last a)):Int)))=false→(res=({ Sets:=za.Sets r0,First:=za.First a,Last:=za.Last a,Follow:=out_Follow,Null:=za.Null a })))))))):zbp a res:=by
 unfold zbp;have kk:=cfOk [44] 45;refine fD (x:=bodyOf Tryz.f133) kk Tryz.func133 ?_;refine wkS [1] [(1,zq a)] (by kernel_rfl) ?_;refine sOE kk oN [1] [(4,.ptr 8 0),(7,.ptr 14 0),(8,zq a),(14,.agg [.own 25 ([]),.own 3 ([]),.own 3 ([]),.own 40 ([]),vB false])] [(4,.ptr 8 0),(7,.ptr 14 0),(8,zq a),(14,.agg [oL 25 ze ([]),oL 3 zf ([]),oL 3 zf ([]),oL 40 zg ([]),vB false])] ?_;obtain ⟨r0,hc0,h⟩:=h;refine sO kk (ca (Eq.mp (by unfold zat;(try simp only [List.drop_zero,List.take_length]);first | done | simp only [nm,enq]:zat a ({ Sets:=[],First:=[],Last:=[],Follow:=[],Null:=false }) r0=CallE Tryz.prog 146 [.agg [vL ze (za.Sets a),vL zf (za.First a),vL zf (za.Last a),vL zg (za.Follow a),vB (za.Null a)],.agg [.f (FV.sl []),.f (FV.sl []),.f (FV.sl []),.f (FV.sl []),vB false]] [] (.agg [vL ze (za.Sets r0),oL 3 zf (za.First r0),oL 3 zf (za.Last r0),oL 40 zg (za.Follow r0),vB (za.Null r0)]) []) hc0) oN) [] [(10,.ptr 20 0),(20,.agg [vL ze (za.Sets r0),oL 3 zf (za.First r0),oL 3 zf (za.Last r0),oL 40 zg (za.Follow r0),vB (za.Null r0)])] ?_;refine qD ?_;refine sO kk oN [] [(13,vi 0)] ?_;refine bD (id:=0) ?_;obtain ⟨Inv23,mu24,h0Inv23,hInv23⟩:=h;refine loE [] (fun (q:List (List Int)×Int)=>(fun (out_Follow:List (List Int)) (i:Int)=>([(13,vi i),(20,.agg [vL ze (za.Sets r0),oL 3 zf (za.First r0),oL 3 zf (za.Last r0),oL 40 zg out_Follow,vB (za.Null r0)])]:Sta)) q.1 q.2) (fun (q:List (List Int)×Int)=>Inv23 q.1 q.2) (fun (q:List (List Int)×Int)=>mu24 q.1 q.2) ((za.Follow r0),0) [] h0Inv23 ?_;rintro ⟨out_Follow,i⟩ hi;have h:=hInv23 out_Follow i hi;refine qD ?_;refine sOE kk oN [] [(37,vB (decide (i < (↑(List.length (List.map zf (za.Last a))):Int))))] [(37,vB (decide (i < (↑(List.length (za.Last a)):Int))))] ?_;refine cH 12 h (fun hb25 h=>?_) (fun hb25 h=>?_)
 ·refine kD ?_;show Sem _ _ _ _ _;refine wkD [37] ?_;refine qD ?_;refine bD (id:=1) ?_;obtain ⟨h26,h⟩:=h;obtain ⟨h27,h⟩:=h;obtain ⟨h28,h⟩:=h;obtain ⟨h29,h⟩:=h;obtain ⟨h30,h⟩:=h;obtain ⟨h31,h⟩:=h;obtain ⟨h32,h⟩:=h;obtain ⟨r0_3,hc33,h⟩:=h;obtain ⟨h34,h⟩:=h;obtain ⟨h35,h⟩:=h;obtain ⟨h36,h⟩:=h;refine rOE kk (nd h26 (el (zF zf (za.Last a) i _ rfl h26 h27) (nd h28 (el (zF zf (za.Last a) i _ rfl h28 h29) (nd h30 (nd (show Int.toNat (gd (za.Last a) i) < List.length (List.map zg out_Follow) from by simpa only [nm] using h31) (el (show (List.map zg out_Follow)[((0:Nat)+Int.toNat (gd (za.Last a) i):Nat)]?=some (fL zf (gd out_Follow (gd (za.Last a) i))) from by have:=zF zg out_Follow (gd (za.Last a) i) _ rfl h30 h32;simpa only [nm,enq,zg] using this) (ca hc33 (nd h34 (nd (show Int.toNat (gd (za.Last a) i) < List.length (List.map zg out_Follow) from by simpa only [nm] using h35) (el (show (List.map zg out_Follow)[((0:Nat)+Int.toNat (gd (za.Last a) i):Nat)]?=some (fL zf (gd out_Follow (gd (za.Last a) i))) from by have:=zF zg out_Follow (gd (za.Last a) i) _ rfl h34 h36;simpa only [nm,enq,zg] using this) oN))))))))))) [] [(20,.agg [vL ze (za.Sets r0),oL 3 zf (za.First r0),oL 3 zf (za.Last r0),.own 40 (List.set (List.map zg out_Follow) ((0:Nat)+Int.toNat (gd (za.Last a) i)) (FV.sl (List.map zf r0_3))),vB (za.Null r0)])] [(20,.agg [vL ze (za.Sets r0),oL 3 zf (za.First r0),oL 3 zf (za.Last r0),oL 40 zg (List.set out_Follow (Int.toNat (gd (za.Last a) i)) r0_3),vB (za.Null r0)])] ?_;show Sem _ _ _ _ _;refine rO kk oN [] [(13,vi (w64 (i+1)))] ?_;exact lD ((List.set out_Follow (Int.toNat (gd (za.Last a) i)) r0_3),(w64 (i+1))) [] h
 ·refine xD (i:=0) ?_;show Sem _ _ _ _ _;refine wkD [13,37] ?_;refine sO kk oN [4,8] [(20,.agg [vL ze (za.Sets r0),vL zf (za.First a),vL zf (za.Last a),oL 40 zg out_Follow,vB (za.Null a)])] ?_;refine sO kk (nd (show (0:Nat)=(0:Nat)∧List.length (List.map zg out_Follow)=List.length (List.map zg out_Follow) from ⟨rfl,rfl⟩) oN) [10,20] [(14,.agg [vL ze (za.Sets r0),vL zf (za.First a),vL zf (za.Last a),oL 40 zg out_Follow,vB (za.Null a)])] ?_;refine tD ?_;subst h;exact (endQ []).1
theorem zeF (a:za) (res:za)
 (h:(res=({ Sets:=za.Sets a,First:=za.First a,Last:=za.Last a,Follow:=za.Follow a,Null:=true }))):zae a res:=by
 unfold zae;have kk:=cfOk [4] 5;refine fD (x:=bodyOf Tryz.f134) kk Tryz.func134 ?_;refine wkS [1] [(1,zq a)] (by kernel_rfl) ?_;refine sOE kk oN [1] [(4,.ptr 8 0),(7,.ptr 14 0),(8,zq a),(14,.agg [.own 25 ([]),.own 3 ([]),.own 3 ([]),.own 40 ([]),vB false])] [(4,.ptr 8 0),(7,.ptr 14 0),(8,zq a),(14,.agg [oL 25 ze ([]),oL 3 zf ([]),oL 3 zf ([]),oL 40 zg ([]),vB false])] ?_;refine sO kk oN [] [(8,.agg [vL ze (za.Sets a),vL zf (za.First a),vL zf (za.Last a),vL zg (za.Follow a),vB true])] ?_;refine sO kk oN [4,8] [(14,.agg [vL ze (za.Sets a),vL zf (za.First a),vL zf (za.Last a),vL zg (za.Follow a),vB true])] ?_;refine tD ?_;subst h;exact (endQ []).1
end Go.Ev
namespace Go.Ev
open Go Go.Proofs
set_option maxRecDepth 8000
set_option maxHeartbeats 1000000
theorem zgl (x:zb) (res:za)
 (h:(((zb.Kind x == (2:Int))=true→(res=({ Sets:=[zb.Set x],First:=[(0:Int)],Last:=[(0:Int)],Follow:=[[]],Null:=false })))∧((zb.Kind x == (2:Int))=false→(((zb.Kind x == (3:Int))=true→(∃ r0:za,zaL r0∧(∃ (Inv12:List zc→List Int→List Int→List (List Int)→Bool→Int→Prop) (mu13:List zc→List Int→List Int→List (List Int)→Bool→Int→Nat),Inv12 (za.Sets r0) (za.First r0) (za.Last r0) (za.Follow r0) (za.Null r0) 0∧(∀ (out_Sets:List zc) (out_First:List Int) (out_Last:List Int) (out_Follow:List (List Int)) (out_Null:Bool) (i:Int),Inv12 out_Sets out_First out_Last out_Follow out_Null i→(((decide (i < (↑(List.length (zb.Kids x)):Int)))=true→((0:Int)≤i)∧i < ↑(List.length (zb.Kids x))∧(∃ r0_5:za,zaE (gd (zb.Kids x) i) r0_5∧(∃ r0_6:za,zT ({ Sets:=out_Sets,First:=out_First,Last:=out_Last,Follow:=out_Follow,Null:=out_Null }) r0_5 r0_6∧(Inv12 (za.Sets r0_6) (za.First r0_6) (za.Last r0_6) (za.Follow r0_6) (za.Null r0_6) (w64 (i+1))∧mu13 (za.Sets r0_6) (za.First r0_6) (za.Last r0_6) (za.Follow r0_6) (za.Null r0_6) (w64 (i+1)) < mu13 out_Sets out_First out_Last out_Follow out_Null i))))∧((decide (i < (↑(List.length (zb.Kids x)):Int)))=false→(res=({ Sets:=out_Sets,First:=out_First,Last:=out_Last,Follow:=out_Follow,Null:=out_Null }))))))))∧((zb.Kind x == (3:Int))=false→(((zb.Kind x == (4:Int))=true→(0:Nat) < List.length (zb.Kids x)∧(∃ r0_7:za,zaE (List.getD (zb.Kids x) (0:Nat) default) r0_7∧(∃ (Inv31:List zc→List Int→List Int→List (List Int)→Bool→Int→Prop) (mu32:List zc→List Int→List Int→List (List Int)→Bool→Int→Nat),Inv31 (za.Sets r0_7) (za.First r0_7) (za.Last r0_7) (za.Follow r0_7) (za.Null r0_7) 1∧(∀ (out_Sets_1:List zc) (out_First_1:List Int) (out_Last_1:List Int) (out_Follow_1:List (List Int)) (out_Null_1:Bool) (i_1:Int),Inv31 out_Sets_1 out_First_1 out_Last_1 out_Follow_1 out_Null_1 i_1→(((decide (i_1 < (↑(List.length (zb.Kids x)):Int)))=true→((0:Int)≤i_1)∧i_1 < ↑(List.length (zb.Kids x))∧(∃ r0_12:za,zaE (gd (zb.Kids x) i_1) r0_12∧(∃ r0_13:za,zbG ({ Sets:=out_Sets_1,First:=out_First_1,Last:=out_Last_1,Follow:=out_Follow_1,Null:=out_Null_1 }) r0_12 r0_13∧(Inv31 (za.Sets r0_13) (za.First r0_13) (za.Last r0_13) (za.Follow r0_13) (za.Null r0_13) (w64 (i_1+1))∧mu32 (za.Sets r0_13) (za.First r0_13) (za.Last r0_13) (za.Follow r0_13) (za.Null r0_13) (w64 (i_1+1)) < mu32 out_Sets_1 out_First_1 out_Last_1 out_Follow_1 out_Null_1 i_1))))∧((decide (i_1 < (↑(List.length (zb.Kids x)):Int)))=false→(res=({ Sets:=out_Sets_1,First:=out_First_1,Last:=out_Last_1,Follow:=out_Follow_1,Null:=out_Null_1 }))))))))∧((zb.Kind x == (4:Int))=false→(((zb.Kind x == (5:Int))=true→(0:Nat) < List.length (zb.Kids x)∧(∃ r0_14:za,zaE (List.getD (zb.Kids x) (0:Nat) default) r0_14∧(∃ r0_15:za,zaL r0_15∧(((decide (zb.Hi x < (0:Int)))=true→(∃ (Inv47:List zc→List Int→List Int→List (List Int)→Bool→Int→Prop) (mu48:List zc→List Int→List Int→List (List Int)→Bool→Int→Nat),Inv47 (za.Sets r0_15) (za.First r0_15) (za.Last r0_15) (za.Follow r0_15) (za.Null r0_15) 1∧(∀ (out_Sets_2:List zc) (out_First_2:List Int) (out_Last_2:List Int) (out_Follow_2:List (List Int)) (out_Null_2:Bool) (i_2:Int),Inv47 out_Sets_2 out_First_2 out_Last_2 out_Follow_2 out_Null_2 i_2→(((decide (i_2 < zb.Lo x))=true→(∃ r0_18:za,zT ({ Sets:=out_Sets_2,First:=out_First_2,Last:=out_Last_2,Follow:=out_Follow_2,Null:=out_Null_2 }) r0_14 r0_18∧(Inv47 (za.Sets r0_18) (za.First r0_18) (za.Last r0_18) (za.Follow r0_18) (za.Null r0_18) (w64 (i_2+1))∧mu48 (za.Sets r0_18) (za.First r0_18) (za.Last r0_18) (za.Follow r0_18) (za.Null r0_18) (w64 (i_2+1)) < mu48 out_Sets_2 out_First_2 out_Last_2 out_Follow_2 out_Null_2 i_2)))∧((decide (i_2 < zb.Lo x))=false→(∃ r0_19:za,zbp r0_14 r0_19∧(∃ J54:List zc→List Int→List Int→List (List Int)→Bool→Prop,(∀ (last_Sets:List zc) (last_First:List Int) (last_Last:List Int) (last_Follow:List (List Int)) (last_Null:Bool),J54 last_Sets last_First last_Last last_Follow last_Null→(∃ r0_21:za,zT ({ Sets:=out_Sets_2,First:=out_First_2,Last:=out_Last_2,Follow:=out_Follow_2,Null:=out_Null_2 }) ({ Sets:=last_Sets,First:=last_First,Last:=last_Last,Follow:=last_Follow,Null:=last_Null }) r0_21∧(res=r0_21)))∧(((zb.Lo x == 0)=true→(∃ r0_22:za,zae r0_19 r0_22∧J54 (za.Sets r0_22) (za.First r0_22) (za.Last r0_22) (za.Follow r0_22) (za.Null r0_22)))∧((zb.Lo x == 0)=false→J54 (za.Sets r0_19) (za.First r0_19) (za.Last r0_19) (za.Follow r0_19) (za.Null r0_19))))))))))∧((decide (zb.Hi x < (0:Int)))=false→(∃ (Inv64:List zc→List Int→List Int→List (List Int)→Bool→Int→Prop) (mu65:List zc→List Int→List Int→List (List Int)→Bool→Int→Nat),Inv64 (za.Sets r0_15) (za.First r0_15) (za.Last r0_15) (za.Follow r0_15) (za.Null r0_15) (zb.Lo x)∧(∀ (out_Sets_3:List zc) (out_First_3:List Int) (out_Last_3:List Int) (out_Follow_3:List (List Int)) (out_Null_3:Bool) (i_3:Int),Inv64 out_Sets_3 out_First_3 out_Last_3 out_Follow_3 out_Null_3 i_3→(((decide (i_3 < zb.Hi x))=true→(∃ r0_27:za,zT r0_14 ({ Sets:=out_Sets_3,First:=out_First_3,Last:=out_Last_3,Follow:=out_Follow_3,Null:=out_Null_3 }) r0_27∧(∃ r0_28:za,zae r0_27 r0_28∧(Inv64 (za.Sets r0_28) (za.First r0_28) (za.Last r0_28) (za.Follow r0_28) (za.Null r0_28) (w64 (i_3+1))∧mu65 (za.Sets r0_28) (za.First r0_28) (za.Last r0_28) (za.Follow r0_28) (za.Null r0_28) (w64 (i_3+1)) < mu65 out_Sets_3 out_First_3 out_Last_3 out_Follow_3 out_Null_3 i_3))))∧((decide (i_3 < zb.Hi x))=false→(∃ (Inv73:List zc→List Int→List Int→List (List Int)→Bool→Int→Prop) (mu74:List zc→List Int→List Int→List (List Int)→Bool→Int→Nat),Inv73 out_Sets_3 out_First_3 out_Last_3 out_Follow_3 out_Null_3 0∧(∀ (out_Sets_4:List zc) (out_First_4:List Int) (out_Last_4:List Int) (out_Follow_4:List (List Int)) (out_Null_4:Bool) (i_4:Int),Inv73 out_Sets_4 out_First_4 out_Last_4 out_Follow_4 out_Null_4 i_4→(((decide (i_4 < zb.Lo x))=true→(∃ r0_31:za,zT r0_14 ({ Sets:=out_Sets_4,First:=out_First_4,Last:=out_Last_4,Follow:=out_Follow_4,Null:=out_Null_4 }) r0_31∧(Inv73 (za.Sets r0_31) (za.First r0_31) (za.Last r0_31) (za.Follow r0_31) (za.Null r0_31) (w64 (i_4+1))∧mu74 (za.Sets r0_31) (za.First r0_31) (za.Last r0_31) (za.Follow r0_31) (za.Null r0_31) (w64 (i_4+1)) < mu74 out_Sets_4 out_First_4 out_Last_4 out_Follow_4 out_Null_4 i_4)))∧((decide (i_4 < zb.Lo x))=false→(res=({ Sets:=out_Sets_4,First:=out_First_4,Last:=out_Last_4,Follow:=out_Follow_4,Null:=out_Null_4 })))))))))))))))∧((zb.Kind x == (5:Int))=false→(∃ r0_32:za,zaL r0_32∧(res=r0_32))))))))))):zaE x res:=by
 unfold zaE;have kk:=cfOk [42,65,117] 119;refine fD (x:=bodyOf Tryz.f109) kk Tryz.func109 ?_;refine wkS [1] [(1,zA x)] (by kernel_rfl) ?_;refine sOE kk oN [1] [(4,.ptr 8 0),(7,.ptr 14 0),(8,zA x),(14,.agg [.own 25 ([]),.own 3 ([]),.own 3 ([]),.own 40 ([]),vB false])] [(4,.ptr 8 0),(7,.ptr 14 0),(8,zA x),(14,.agg [oL 25 ze ([]),oL 3 zf ([]),oL 3 zf ([]),oL 40 zg ([]),vB false])] ?_;refine qD ?_;refine sO kk oN [] [(43,vi (zb.Kind x))] ?_;refine bD (id:=0) ?_;refine sO kk oN [] [(46,vB (zb.Kind x == (2:Int)))] ?_;refine cH 15 h (fun hb0 h=>?_) (fun hb0 h=>?_)
 ·refine sOE kk oN [4,8,43,46] [(14,.agg [.f (FV.sl ([FV.agg [FV.pv (Value.int IntKind.u64 (zc.e0 (zb.Set x))),FV.pv (Value.int IntKind.u64 (zc.e1 (zb.Set x))),FV.pv (Value.int IntKind.u64 (zc.e2 (zb.Set x))),FV.pv (Value.int IntKind.u64 (zc.e3 (zb.Set x)))]])),.f (FV.sl ([FV.pv (Value.int IntKind.i64 (0))])),.f (FV.sl ([FV.pv (Value.int IntKind.i64 (0))])),.f (FV.sl ([FV.sl []])),vB false])] [(14,.agg [vL ze ([zb.Set x]),vL zf ([(0:Int)]),vL zf ([(0:Int)]),vL zg ([[]]),vB false])] ?_;refine tD ?_;subst h;exact (endQ []).1
 ·refine sO kk oN [46] [(73,vB (zb.Kind x == (3:Int)))] ?_;refine cH 24 h (fun hb1 h=>?_) (fun hb1 h=>?_)
  ·obtain ⟨r0,hc2,h⟩:=h;refine sO kk (ca hc2 oN) [43,73] [(10,.ptr 20 0),(20,zb1 r0)] ?_;refine qD ?_;refine sO kk oN [] [(13,vi 0)] ?_;refine bD (id:=1) ?_;obtain ⟨Inv12,mu13,h0Inv12,hInv12⟩:=h;refine loE [] (fun (q:List zc×List Int×List Int×List (List Int)×Bool×Int)=>(fun (out_Sets:List zc) (out_First:List Int) (out_Last:List Int) (out_Follow:List (List Int)) (out_Null:Bool) (i:Int)=>([(13,vi i),(20,.agg [vL ze out_Sets,vL zf out_First,vL zf out_Last,oL 40 zg out_Follow,vB out_Null])]:Sta)) q.1 q.2.1 q.2.2.1 q.2.2.2.1 q.2.2.2.2.1 q.2.2.2.2.2) (fun (q:List zc×List Int×List Int×List (List Int)×Bool×Int)=>Inv12 q.1 q.2.1 q.2.2.1 q.2.2.2.1 q.2.2.2.2.1 q.2.2.2.2.2) (fun (q:List zc×List Int×List Int×List (List Int)×Bool×Int)=>mu13 q.1 q.2.1 q.2.2.1 q.2.2.2.1 q.2.2.2.2.1 q.2.2.2.2.2) ((za.Sets r0),(za.First r0),(za.Last r0),(za.Follow r0),(za.Null r0),0) [(20,0),(20,1),(20,2)] h0Inv12 ?_;rintro ⟨out_Sets,out_First,out_Last,out_Follow,out_Null,i⟩ hi;have h:=hInv12 out_Sets out_First out_Last out_Follow out_Null i hi;refine qD ?_;refine sOE kk oN [] [(94,vB (decide (i < (↑(List.length (List.map zn (zb.Kids x))):Int))))] [(94,vB (decide (i < (↑(List.length (zb.Kids x)):Int))))] ?_;refine cH 31 h (fun hb14 h=>?_) (fun hb14 h=>?_)
   ·refine kD ?_;show Sem _ _ _ _ _;refine wkD [94] ?_;refine qD ?_;refine bD (id:=2) ?_;obtain ⟨h15,h⟩:=h;obtain ⟨h16,h⟩:=h;obtain ⟨r0_5,hc17,h⟩:=h;obtain ⟨r0_6,hc18,h⟩:=h;refine rO kk (nd h15 (el (zF zn (zb.Kids x) i _ (zL _) h15 h16) (ca hc17 (ca (Eq.mp (by unfold zT;(try simp only [List.drop_zero,List.take_length]);first | done | simp only [nm,enq]:zT ({ Sets:=out_Sets,First:=out_First,Last:=out_Last,Follow:=out_Follow,Null:=out_Null }) r0_5 r0_6=CallE Tryz.prog 131 [.agg [vL ze out_Sets,vL zf out_First,vL zf out_Last,.f (FV.sl (List.take (List.length (List.map zg out_Follow)) (List.drop (0:Nat) (List.map zg out_Follow)))),vB out_Null],.agg [vL ze (za.Sets r0_5),vL zf (za.First r0_5),vL zf (za.Last r0_5),vL zg (za.Follow r0_5),vB (za.Null r0_5)]] [] (.agg [vL ze (za.Sets r0_6),vL zf (za.First r0_6),vL zf (za.Last r0_6),oL 40 zg (za.Follow r0_6),vB (za.Null r0_6)]) []) hc18) oN)))) [] [(20,.agg [vL ze (za.Sets r0_6),vL zf (za.First r0_6),vL zf (za.Last r0_6),oL 40 zg (za.Follow r0_6),vB (za.Null r0_6)])] ?_;show Sem _ _ _ _ _;refine rO kk oN [] [(13,vi (w64 (i+1)))] ?_;exact lD ((za.Sets r0_6),(za.First r0_6),(za.Last r0_6),(za.Follow r0_6),(za.Null r0_6),(w64 (i+1))) [] h
   ·refine xD (i:=1) ?_;show Sem _ _ _ _ _;refine wkD [4,8,13,94] ?_;refine sO kk (nd (show (0:Nat)=(0:Nat)∧List.length (List.map zg out_Follow)=List.length (List.map zg out_Follow) from ⟨rfl,rfl⟩) oN) [10,20] [(14,.agg [vL ze out_Sets,vL zf out_First,vL zf out_Last,oL 40 zg out_Follow,vB out_Null])] ?_;refine tD ?_;subst h;exact (endQ [(14,3)]).1
  ·refine sO kk oN [73] [(130,vB (zb.Kind x == (4:Int)))] ?_;refine cH 43 h (fun hb19 h=>?_) (fun hb19 h=>?_)
   ·obtain ⟨h20,h⟩:=h;obtain ⟨r0_7,hc21,h⟩:=h;refine sO kk (nd (show (0:Int)≤(0:Int) from by first | decide | rfl | trivial) (el (show (List.map zn (zb.Kids x))[(Int.toNat (0:Int):Nat)]?=some (zdJ (List.getD (zb.Kids x) (0:Nat) default)) from by have:=zb8 zn (zb.Kids x) ((0:Nat)) _ (zL _) h20;simpa only [nm,enq,zL] using this) (ca hc21 oN))) [43,130] [(16,.ptr 32 0),(32,zq r0_7)] ?_;refine qD ?_;refine sO kk oN [] [(19,vi 1)] ?_;refine bD (id:=3) ?_;obtain ⟨Inv31,mu32,h0Inv31,hInv31⟩:=h;refine loE [] (fun (q:List zc×List Int×List Int×List (List Int)×Bool×Int)=>(fun (out_Sets_1:List zc) (out_First_1:List Int) (out_Last_1:List Int) (out_Follow_1:List (List Int)) (out_Null_1:Bool) (i_1:Int)=>([(19,vi i_1),(32,.agg [vL ze out_Sets_1,vL zf out_First_1,vL zf out_Last_1,vL zg out_Follow_1,vB out_Null_1])]:Sta)) q.1 q.2.1 q.2.2.1 q.2.2.2.1 q.2.2.2.2.1 q.2.2.2.2.2) (fun (q:List zc×List Int×List Int×List (List Int)×Bool×Int)=>Inv31 q.1 q.2.1 q.2.2.1 q.2.2.2.1 q.2.2.2.2.1 q.2.2.2.2.2) (fun (q:List zc×List Int×List Int×List (List Int)×Bool×Int)=>mu32 q.1 q.2.1 q.2.2.1 q.2.2.2.1 q.2.2.2.2.1 q.2.2.2.2.2) ((za.Sets r0_7),(za.First r0_7),(za.Last r0_7),(za.Follow r0_7),(za.Null r0_7),1) [] h0Inv31 ?_;rintro ⟨out_Sets_1,out_First_1,out_Last_1,out_Follow_1,out_Null_1,i_1⟩ hi;have h:=hInv31 out_Sets_1 out_First_1 out_Last_1 out_Follow_1 out_Null_1 i_1 hi;refine qD ?_;refine sOE kk oN [] [(163,vB (decide (i_1 < (↑(List.length (List.map zn (zb.Kids x))):Int))))] [(163,vB (decide (i_1 < (↑(List.length (zb.Kids x)):Int))))] ?_;refine cH 54 h (fun hb33 h=>?_) (fun hb33 h=>?_)
    ·refine kD ?_;show Sem _ _ _ _ _;refine wkD [163] ?_;refine qD ?_;refine bD (id:=4) ?_;obtain ⟨h34,h⟩:=h;obtain ⟨h35,h⟩:=h;obtain ⟨r0_12,hc36,h⟩:=h;obtain ⟨r0_13,hc37,h⟩:=h;refine rO kk (nd h34 (el (zF zn (zb.Kids x) i_1 _ (zL _) h34 h35) (ca hc36 (ca hc37 oN)))) [] [(32,.agg [vL ze (za.Sets r0_13),vL zf (za.First r0_13),vL zf (za.Last r0_13),oL 40 zg (za.Follow r0_13),vB (za.Null r0_13)])] ?_;show Sem _ _ _ _ _;refine rO kk oN [] [(19,vi (w64 (i_1+1)))] ?_;exact lD ((za.Sets r0_13),(za.First r0_13),(za.Last r0_13),(za.Follow r0_13),(za.Null r0_13),(w64 (i_1+1))) [(32,3)] h
    ·refine xD (i:=3) ?_;show Sem _ _ _ _ _;refine wkD [4,8,19,163] ?_;refine sO kk oN [16,32] [(14,.agg [vL ze out_Sets_1,vL zf out_First_1,vL zf out_Last_1,vL zg out_Follow_1,vB out_Null_1])] ?_;refine tD ?_;subst h;exact (endQ []).1
   ·refine sO kk oN [43,130] [(199,vB (zb.Kind x == (5:Int)))] ?_;refine cH 66 h (fun hb38 h=>?_) (fun hb38 h=>?_)
    ·obtain ⟨h39,h⟩:=h;obtain ⟨r0_14,hc40,h⟩:=h;refine sO kk (nd (show (0:Int)≤(0:Int) from by first | decide | rfl | trivial) (el (show (List.map zn (zb.Kids x))[(Int.toNat (0:Int):Nat)]?=some (zdJ (List.getD (zb.Kids x) (0:Nat) default)) from by have:=zb8 zn (zb.Kids x) ((0:Nat)) _ (zL _) h39;simpa only [nm,enq,zL] using this) (ca hc40 oN))) [199] [(22,.ptr 44 0),(44,zq r0_14)] ?_;obtain ⟨r0_15,hc41,h⟩:=h;refine sO kk (ca hc41 oN) [] [(25,.ptr 50 0),(50,zb1 r0_15)] ?_;refine qD ?_;refine sO kk oN [] [(229,vB (decide (zb.Hi x < (0:Int))))] ?_;refine cH 76 h (fun hb42 h=>?_) (fun hb42 h=>?_)
     ·refine qD ?_;refine sO kk oN [229] [(28,vi 1)] ?_;refine bD (id:=5) ?_;obtain ⟨Inv47,mu48,h0Inv47,hInv47⟩:=h;refine loE [] (fun (q:List zc×List Int×List Int×List (List Int)×Bool×Int)=>(fun (out_Sets_2:List zc) (out_First_2:List Int) (out_Last_2:List Int) (out_Follow_2:List (List Int)) (out_Null_2:Bool) (i_2:Int)=>([(28,vi i_2),(50,.agg [vL ze out_Sets_2,vL zf out_First_2,vL zf out_Last_2,oL 40 zg out_Follow_2,vB out_Null_2])]:Sta)) q.1 q.2.1 q.2.2.1 q.2.2.2.1 q.2.2.2.2.1 q.2.2.2.2.2) (fun (q:List zc×List Int×List Int×List (List Int)×Bool×Int)=>Inv47 q.1 q.2.1 q.2.2.1 q.2.2.2.1 q.2.2.2.2.1 q.2.2.2.2.2) (fun (q:List zc×List Int×List Int×List (List Int)×Bool×Int)=>mu48 q.1 q.2.1 q.2.2.1 q.2.2.2.1 q.2.2.2.2.1 q.2.2.2.2.2) ((za.Sets r0_15),(za.First r0_15),(za.Last r0_15),(za.Follow r0_15),(za.Null r0_15),1) [(50,0),(50,1),(50,2)] h0Inv47 ?_;rintro ⟨out_Sets_2,out_First_2,out_Last_2,out_Follow_2,out_Null_2,i_2⟩ hi;have h:=hInv47 out_Sets_2 out_First_2 out_Last_2 out_Follow_2 out_Null_2 i_2 hi;refine qD ?_;refine sO kk oN [] [(241,vB (decide (i_2 < zb.Lo x)))] ?_;refine cH 80 h (fun hb49 h=>?_) (fun hb49 h=>?_)
      ·refine kD ?_;show Sem _ _ _ _ _;refine wkD [241] ?_;refine qD ?_;refine bD (id:=6) ?_;obtain ⟨r0_18,hc50,h⟩:=h;refine rO kk (ca (Eq.mp (by unfold zT;(try simp only [List.drop_zero,List.take_length]);first | done | simp only [nm,enq]:zT ({ Sets:=out_Sets_2,First:=out_First_2,Last:=out_Last_2,Follow:=out_Follow_2,Null:=out_Null_2 }) r0_14 r0_18=CallE Tryz.prog 131 [.agg [vL ze out_Sets_2,vL zf out_First_2,vL zf out_Last_2,.f (FV.sl (List.take (List.length (List.map zg out_Follow_2)) (List.drop (0:Nat) (List.map zg out_Follow_2)))),vB out_Null_2],.agg [vL ze (za.Sets r0_14),vL zf (za.First r0_14),vL zf (za.Last r0_14),vL zg (za.Follow r0_14),vB (za.Null r0_14)]] [] (.agg [vL ze (za.Sets r0_18),vL zf (za.First r0_18),vL zf (za.Last r0_18),oL 40 zg (za.Follow r0_18),vB (za.Null r0_18)]) []) hc50) oN) [] [(50,.agg [vL ze (za.Sets r0_18),vL zf (za.First r0_18),vL zf (za.Last r0_18),oL 40 zg (za.Follow r0_18),vB (za.Null r0_18)])] ?_;show Sem _ _ _ _ _;refine rO kk oN [] [(28,vi (w64 (i_2+1)))] ?_;exact lD ((za.Sets r0_18),(za.First r0_18),(za.Last r0_18),(za.Follow r0_18),(za.Null r0_18),(w64 (i_2+1))) [] h
      ·refine xD (i:=5) ?_;show Sem _ _ _ _ _;refine wkD [28,241] ?_;obtain ⟨r0_19,hc51,h⟩:=h;refine sO kk (ca hc51 oN) [22,44] [(31,.ptr 62 0),(62,.agg [vL ze (za.Sets r0_19),vL zf (za.First r0_19),vL zf (za.Last r0_19),oL 40 zg (za.Follow r0_19),vB (za.Null r0_19)])] ?_;obtain ⟨J54,hJ54,h⟩:=h;refine sjE (fun (q:List zc×List Int×List Int×List (List Int)×Bool)=>J54 q.1 q.2.1 q.2.2.1 q.2.2.2.1 q.2.2.2.2) [4,8] (fun (q:List zc×List Int×List Int×List (List Int)×Bool)=>(fun (last_Sets:List zc) (last_First:List Int) (last_Last:List Int) (last_Follow:List (List Int)) (last_Null:Bool)=>([(62,.agg [vL ze last_Sets,vL zf last_First,vL zf last_Last,vL zg last_Follow,vB last_Null])]:Sta)) q.1 q.2.1 q.2.2.1 q.2.2.2.1 q.2.2.2.2) ?_ ?_
       ·rintro ⟨last_Sets,last_First,last_Last,last_Follow,last_Null⟩ hj;have h:=hJ54 last_Sets last_First last_Last last_Follow last_Null hj;obtain ⟨r0_21,hc55,h⟩:=h;refine sO kk (ca (Eq.mp (by unfold zT;(try simp only [List.drop_zero,List.take_length]);first | done | simp only [nm,enq]:zT ({ Sets:=out_Sets_2,First:=out_First_2,Last:=out_Last_2,Follow:=out_Follow_2,Null:=out_Null_2 }) ({ Sets:=last_Sets,First:=last_First,Last:=last_Last,Follow:=last_Follow,Null:=last_Null }) r0_21=CallE Tryz.prog 131 [.agg [vL ze out_Sets_2,vL zf out_First_2,vL zf out_Last_2,.f (FV.sl (List.take (List.length (List.map zg out_Follow_2)) (List.drop (0:Nat) (List.map zg out_Follow_2)))),vB out_Null_2],.agg [vL ze last_Sets,vL zf last_First,vL zf last_Last,vL zg last_Follow,vB last_Null]] [] (.agg [vL ze (za.Sets r0_21),vL zf (za.First r0_21),vL zf (za.Last r0_21),oL 40 zg (za.Follow r0_21),vB (za.Null r0_21)]) []) hc55) oN) [25,31,50,62] [(14,.agg [vL ze (za.Sets r0_21),vL zf (za.First r0_21),vL zf (za.Last r0_21),oL 40 zg (za.Follow r0_21),vB (za.Null r0_21)])] ?_;refine tD ?_;subst h;exact (endQ [(14,3)]).1
       ·refine sO kk oN [4,8] [(271,vB (zb.Lo x == 0))] ?_;refine cH 90 h (fun hb56 h=>?_) (fun hb56 h=>?_)
        ·obtain ⟨r0_22,hc57,h⟩:=h;refine rO kk (ca (Eq.mp (by unfold zae;(try simp only [List.drop_zero,List.take_length]);first | done | simp only [nm,enq]:zae r0_19 r0_22=CallE Tryz.prog 134 [.agg [vL ze (za.Sets r0_19),vL zf (za.First r0_19),vL zf (za.Last r0_19),.f (FV.sl (List.take (List.length (List.map zg (za.Follow r0_19))) (List.drop (0:Nat) (List.map zg (za.Follow r0_19))))),vB (za.Null r0_19)]] [] (zq r0_22) []) hc57) oN) [271] [(62,zq r0_22)] ?_;exact jD ((za.Sets r0_22),(za.First r0_22),(za.Last r0_22),(za.Follow r0_22),(za.Null r0_22)) [] h
        ·refine kD ?_;exact jD ((za.Sets r0_19),(za.First r0_19),(za.Last r0_19),(za.Follow r0_19),(za.Null r0_19)) [(62,3)] h
     ·refine kD ?_;show Sem _ _ _ _ _;refine wkD [229] ?_;refine qD ?_;refine sO kk oN [] [(34,vi (zb.Lo x))] ?_;refine bD (id:=7) ?_;obtain ⟨Inv64,mu65,h0Inv64,hInv64⟩:=h;refine loE [] (fun (q:List zc×List Int×List Int×List (List Int)×Bool×Int)=>(fun (out_Sets_3:List zc) (out_First_3:List Int) (out_Last_3:List Int) (out_Follow_3:List (List Int)) (out_Null_3:Bool) (i_3:Int)=>([(34,vi i_3),(50,.agg [vL ze out_Sets_3,vL zf out_First_3,vL zf out_Last_3,vL zg out_Follow_3,vB out_Null_3])]:Sta)) q.1 q.2.1 q.2.2.1 q.2.2.2.1 q.2.2.2.2.1 q.2.2.2.2.2) (fun (q:List zc×List Int×List Int×List (List Int)×Bool×Int)=>Inv64 q.1 q.2.1 q.2.2.1 q.2.2.2.1 q.2.2.2.2.1 q.2.2.2.2.2) (fun (q:List zc×List Int×List Int×List (List Int)×Bool×Int)=>mu65 q.1 q.2.1 q.2.2.1 q.2.2.2.1 q.2.2.2.2.1 q.2.2.2.2.2) ((za.Sets r0_15),(za.First r0_15),(za.Last r0_15),(za.Follow r0_15),(za.Null r0_15),(zb.Lo x)) [(50,0),(50,1),(50,2),(50,3)] h0Inv64 ?_;rintro ⟨out_Sets_3,out_First_3,out_Last_3,out_Follow_3,out_Null_3,i_3⟩ hi;have h:=hInv64 out_Sets_3 out_First_3 out_Last_3 out_Follow_3 out_Null_3 i_3 hi;refine qD ?_;refine sO kk oN [] [(304,vB (decide (i_3 < zb.Hi x)))] ?_;refine cH 101 h (fun hb66 h=>?_) (fun hb66 h=>?_)
      ·refine kD ?_;show Sem _ _ _ _ _;refine wkD [304] ?_;refine qD ?_;refine bD (id:=8) ?_;obtain ⟨r0_27,hc67,h⟩:=h;obtain ⟨r0_28,hc68,h⟩:=h;refine rO kk (ca hc67 (ca (Eq.mp (by unfold zae;(try simp only [List.drop_zero,List.take_length]);first | done | simp only [nm,enq]:zae r0_27 r0_28=CallE Tryz.prog 134 [.agg [vL ze (za.Sets r0_27),vL zf (za.First r0_27),vL zf (za.Last r0_27),.f (FV.sl (List.take (List.length (List.map zg (za.Follow r0_27))) (List.drop (0:Nat) (List.map zg (za.Follow r0_27))))),vB (za.Null r0_27)]] [] (zq r0_28) []) hc68) oN)) [] [(50,zq r0_28)] ?_;show Sem _ _ _ _ _;refine rO kk oN [] [(34,vi (w64 (i_3+1)))] ?_;exact lD ((za.Sets r0_28),(za.First r0_28),(za.Last r0_28),(za.Follow r0_28),(za.Null r0_28),(w64 (i_3+1))) [] h
      ·refine xD (i:=7) ?_;show Sem _ _ _ _ _;refine wkD [34,304] ?_;refine qD ?_;refine sO kk oN [] [(37,vi 0)] ?_;refine bD (id:=9) ?_;obtain ⟨Inv73,mu74,h0Inv73,hInv73⟩:=h;refine loE [] (fun (q:List zc×List Int×List Int×List (List Int)×Bool×Int)=>(fun (out_Sets_4:List zc) (out_First_4:List Int) (out_Last_4:List Int) (out_Follow_4:List (List Int)) (out_Null_4:Bool) (i_4:Int)=>([(37,vi i_4),(50,.agg [vL ze out_Sets_4,vL zf out_First_4,vL zf out_Last_4,vL zg out_Follow_4,vB out_Null_4])]:Sta)) q.1 q.2.1 q.2.2.1 q.2.2.2.1 q.2.2.2.2.1 q.2.2.2.2.2) (fun (q:List zc×List Int×List Int×List (List Int)×Bool×Int)=>Inv73 q.1 q.2.1 q.2.2.1 q.2.2.2.1 q.2.2.2.2.1 q.2.2.2.2.2) (fun (q:List zc×List Int×List Int×List (List Int)×Bool×Int)=>mu74 q.1 q.2.1 q.2.2.1 q.2.2.2.1 q.2.2.2.2.1 q.2.2.2.2.2) (out_Sets_3,out_First_3,out_Last_3,out_Follow_3,out_Null_3,0) [] h0Inv73 ?_;rintro ⟨out_Sets_4,out_First_4,out_Last_4,out_Follow_4,out_Null_4,i_4⟩ hi;have h:=hInv73 out_Sets_4 out_First_4 out_Last_4 out_Follow_4 out_Null_4 i_4 hi;refine qD ?_;refine sO kk oN [] [(334,vB (decide (i_4 < zb.Lo x)))] ?_;refine cH 111 h (fun hb75 h=>?_) (fun hb75 h=>?_)
       ·refine kD ?_;show Sem _ _ _ _ _;refine wkD [334] ?_;refine qD ?_;refine bD (id:=10) ?_;obtain ⟨r0_31,hc76,h⟩:=h;refine rO kk (ca hc76 oN) [] [(50,.agg [vL ze (za.Sets r0_31),vL zf (za.First r0_31),vL zf (za.Last r0_31),oL 40 zg (za.Follow r0_31),vB (za.Null r0_31)])] ?_;show Sem _ _ _ _ _;refine rO kk oN [] [(37,vi (w64 (i_4+1)))] ?_;exact lD ((za.Sets r0_31),(za.First r0_31),(za.Last r0_31),(za.Follow r0_31),(za.Null r0_31),(w64 (i_4+1))) [(50,3)] h
       ·refine xD (i:=9) ?_;show Sem _ _ _ _ _;refine wkD [4,8,22,37,44,334] ?_;refine sO kk oN [25,50] [(14,.agg [vL ze out_Sets_4,vL zf out_First_4,vL zf out_Last_4,vL zg out_Follow_4,vB out_Null_4])] ?_;refine tD ?_;subst h;exact (endQ []).1
    ·refine kD ?_;show Sem _ _ _ _ _;refine wkD [4,8,199] ?_;obtain ⟨r0_32,hc77,h⟩:=h;refine sO kk (ca hc77 oN) [] [(14,zb1 r0_32)] ?_;refine tD ?_;subst h;exact (endQ [(14,0),(14,1),(14,2),(14,3)]).1
theorem zgm (x:zb) (res:za) (res_1:Int)
 (h:(∃ r0:Bool,zaO x r0∧(((!r0)=true→(res=({ Sets:=[],First:=[],Last:=[],Follow:=[],Null:=false })∧res_1=1))∧((!r0)=false→(∃ r0_1:za,zaE x r0_1∧(res=r0_1∧res_1=0)))))):zbs x res res_1:=by
 unfold zbs;have kk:=cfOk [] 10;refine fD (x:=bodyOf Tryz.f73) kk Tryz.func73 ?_;refine wkS [1] [(1,zA x)] (by kernel_rfl) ?_;refine sOE kk oN [1] [(4,.ptr 8 0),(7,.ptr 14 0),(8,zA x),(14,.agg [.own 25 ([]),.own 3 ([]),.own 3 ([]),.own 40 ([]),vB false])] [(4,.ptr 8 0),(7,.ptr 14 0),(8,zA x),(14,.agg [oL 25 ze ([]),oL 3 zf ([]),oL 3 zf ([]),oL 40 zg ([]),vB false])] ?_;refine qD ?_;obtain ⟨r0,hc0,h⟩:=h;refine sO kk (ca hc0 oN) [] [(19,vB (!r0))] ?_;refine cH 6 h (fun hb1 h=>?_) (fun hb1 h=>?_)
 ·refine sOE kk oN [4,8,19] [(10,vi 1),(14,.agg [.own 25 ([]),.own 3 ([]),.own 3 ([]),.own 40 ([]),vB false])] [(10,vi 1),(14,.agg [oL 25 ze ([]),oL 3 zf ([]),oL 3 zf ([]),oL 40 zg ([]),vB false])] ?_;refine tD ?_;obtain ⟨he0,he1⟩:=h;subst res res_1;exact (endD [] (.tup [.agg [.f (FV.sl (List.take (List.length (List.map ze [])) (List.drop (0:Nat) (List.map ze [])))),.f (FV.sl (List.take (List.length (List.map zf [])) (List.drop (0:Nat) (List.map zf [])))),.f (FV.sl (List.take (List.length (List.map zf [])) (List.drop (0:Nat) (List.map zf [])))),.f (FV.sl (List.take (List.length (List.map zg [])) (List.drop (0:Nat) (List.map zg [])))),vB false],vi 1]) []).1
 ·refine kD ?_;show Sem _ _ _ _ _;refine wkD [19] ?_;obtain ⟨r0_1,hc2,h⟩:=h;refine sO kk (ca hc2 oN) [4,8] [(10,vi 0),(14,zq r0_1)] ?_;refine tD ?_;obtain ⟨he0,he1⟩:=h;subst res res_1;exact (endQ []).1
theorem zeD (l:(List Int)) (by0:Int) (res:(List Int))
 (h:(∃ (Inv6:List Int→Int→Prop) (mu7:List Int→Int→Nat),Inv6 ([]) 0∧(∀ (out:List Int) (i:Int),Inv6 out i→(((decide (i < (↑(List.length l):Int)))=true→((0:Int)≤i)∧i < ↑(List.length l)∧((List.length out+(1:Nat)) * (8:Nat)≤(2:Nat) ^ (47:Nat))∧(Inv6 (out++[w64 (gd l i+by0)]) (w64 (i+1))∧mu7 (out++[w64 (gd l i+by0)]) (w64 (i+1)) < mu7 out i))∧((decide (i < (↑(List.length l):Int)))=false→(res=out)))))):z6 l by0 res:=by
 unfold z6;have kk:=cfOk [22] 23;refine fD (x:=bodyOf Tryz.f87) kk Tryz.func87 ?_;refine wkS [1,4] [(1,vL zf l),(4,vi by0)] (by kernel_rfl) ?_;refine sO kk oN [] [] ?_;refine sOE kk oN [] [(16,.own 3 ([]))] [(16,oL 3 zf ([]))] ?_;refine qD ?_;refine sO kk oN [] [(19,vi 0)] ?_;refine bD (id:=0) ?_;obtain ⟨Inv6,mu7,h0Inv6,hInv6⟩:=h;refine loE [] (fun (q:List Int×Int)=>(fun (out:List Int) (i:Int)=>([(16,oL 3 zf out),(19,vi i)]:Sta)) q.1 q.2) (fun (q:List Int×Int)=>Inv6 q.1 q.2) (fun (q:List Int×Int)=>mu7 q.1 q.2) (([]),0) [] h0Inv6 ?_;rintro ⟨out,i⟩ hi;have h:=hInv6 out i hi;refine qD ?_;refine sOE kk oN [] [(31,vB (decide (i < (↑(List.length (List.map zf l)):Int))))] [(31,vB (decide (i < (↑(List.length l):Int))))] ?_;refine cH 10 h (fun hb8 h=>?_) (fun hb8 h=>?_)
 ·refine kD ?_;show Sem _ _ _ _ _;refine wkD [31] ?_;refine qD ?_;refine bD (id:=1) ?_;obtain ⟨h9,h⟩:=h;obtain ⟨h10,h⟩:=h;obtain ⟨h11,h⟩:=h;refine rOE kk (nd h9 (el (zF zf l i _ rfl h9 h10) (apo zf out h11 oN))) [] [(16,.own 3 (List.map zf out++[FV.pv (Value.int IntKind.i64 (w64 (gd l i+by0)))]))] [(16,oL 3 zf (out++[w64 (gd l i+by0)]))] ?_;show Sem _ _ _ _ _;refine rO kk oN [] [(19,vi (w64 (i+1)))] ?_;exact lD ((out++[w64 (gd l i+by0)]),(w64 (i+1))) [] h
 ·refine xD (i:=0) ?_;show Sem _ _ _ _ _;refine wkD [1,4,19,31] ?_;refine sO kk oN [16] [(13,oL 3 zf out)] ?_;refine tD ?_;subst h;exact (endQ []).1
theorem zfL (p:za) (rule0:Int) (a:zh) (fin:zh)
 (h:(∃ (Inv18:List zc→List Int→List (List Int)→List Bool→Int→Prop) (mu19:List zc→List Int→List (List Int)→List Bool→Int→Nat),Inv18 (zh.Sets a) (zh.Owner a) (zh.Follow a) (zh.Ends a) 0∧(∀ (o0_Sets:List zc) (o0_Owner:List Int) (o0_Follow:List (List Int)) (o0_Ends:List Bool) (i:Int),Inv18 o0_Sets o0_Owner o0_Follow o0_Ends i→(((decide (i < (↑(List.length (za.Sets p)):Int)))=true→((0:Int)≤i)∧i < ↑(List.length (za.Sets p))∧((List.length o0_Sets+(1:Nat)) * (32:Nat)≤(2:Nat) ^ (47:Nat))∧((List.length o0_Owner+(1:Nat)) * (8:Nat)≤(2:Nat) ^ (47:Nat))∧((List.length o0_Ends+(1:Nat)) * (1:Nat)≤(2:Nat) ^ (47:Nat))∧((0:Int)≤i)∧i < ↑(List.length (za.Follow p))∧(∃ r0_2:List Int,z6 (gd (za.Follow p) i) ((↑(List.length (zh.Sets a)):Int)) r0_2∧((List.length o0_Follow+(1:Nat)) * (24:Nat)≤(2:Nat) ^ (47:Nat))∧(Inv18 (o0_Sets++[gd (za.Sets p) i]) (o0_Owner++[rule0]) (o0_Follow++[r0_2]) (o0_Ends++[false]) (w64 (i+1))∧mu19 (o0_Sets++[gd (za.Sets p) i]) (o0_Owner++[rule0]) (o0_Follow++[r0_2]) (o0_Ends++[false]) (w64 (i+1)) < mu19 o0_Sets o0_Owner o0_Follow o0_Ends i)))∧((decide (i < (↑(List.length (za.Sets p)):Int)))=false→(fin=({ Sets:=o0_Sets,Owner:=o0_Owner,Follow:=o0_Follow,Ends:=o0_Ends,Starts:=zh.Starts a }))))))):zbe p rule0 a fin:=by
 unfold zbe;have kk:=cfOk [] 69;refine fD (x:=bodyOf Tryz.f86) kk Tryz.func86 ?_;refine wkS [1,3,4,7] [(1,.ptr 3 0),(3,zbc a),(4,zq p),(7,vi rule0)] (by kernel_rfl) ?_;refine sO kk oN [4] [(13,.ptr 26 0),(26,zq p)] ?_;refine sOE kk oN [] [(19,vi ((↑(List.length (List.map ze (zh.Sets a))):Int)))] [(19,vi ((↑(List.length (zh.Sets a)):Int)))] ?_;refine sO kk oN [] [(22,vi 0)] ?_;refine bD (id:=0) ?_;obtain ⟨Inv18,mu19,h0Inv18,hInv18⟩:=h;refine loE [] (fun (q:List zc×List Int×List (List Int)×List Bool×Int)=>(fun (o0_Sets:List zc) (o0_Owner:List Int) (o0_Follow:List (List Int)) (o0_Ends:List Bool) (i:Int)=>([(3,.agg [oL 25 ze o0_Sets,oL 3 zf o0_Owner,oL 40 zg o0_Follow,oL 4 zr o0_Ends,oL 40 zg (zh.Starts a)]),(22,vi i)]:Sta)) q.1 q.2.1 q.2.2.1 q.2.2.2.1 q.2.2.2.2) (fun (q:List zc×List Int×List (List Int)×List Bool×Int)=>Inv18 q.1 q.2.1 q.2.2.1 q.2.2.2.1 q.2.2.2.2) (fun (q:List zc×List Int×List (List Int)×List Bool×Int)=>mu19 q.1 q.2.1 q.2.2.1 q.2.2.2.1 q.2.2.2.2) ((zh.Sets a),(zh.Owner a),(zh.Follow a),(zh.Ends a),0) [] h0Inv18 ?_;rintro ⟨o0_Sets,o0_Owner,o0_Follow,o0_Ends,i⟩ hi;have h:=hInv18 o0_Sets o0_Owner o0_Follow o0_Ends i hi;refine qD ?_;refine sOE kk oN [] [(52,vB (decide (i < (↑(List.length (List.map ze (za.Sets p))):Int))))] [(52,vB (decide (i < (↑(List.length (za.Sets p)):Int))))] ?_;refine cH 17 h (fun hb20 h=>?_) (fun hb20 h=>?_)
 ·refine kD ?_;show Sem _ _ _ _ _;refine wkD [52] ?_;refine qD ?_;refine bD (id:=1) ?_;obtain ⟨h21,h⟩:=h;obtain ⟨h22,h⟩:=h;obtain ⟨h23,h⟩:=h;refine sOE kk (nd h21 (el (zF ze (za.Sets p) i _ (zak _) h21 h22) (apo ze o0_Sets h23 oN))) [] [(3,.agg [.own 25 (List.map ze o0_Sets++[FV.agg [FV.pv (Value.int IntKind.u64 (zc.e0 (gd (za.Sets p) i))),FV.pv (Value.int IntKind.u64 (zc.e1 (gd (za.Sets p) i))),FV.pv (Value.int IntKind.u64 (zc.e2 (gd (za.Sets p) i))),FV.pv (Value.int IntKind.u64 (zc.e3 (gd (za.Sets p) i)))]]),oL 3 zf o0_Owner,oL 40 zg o0_Follow,oL 4 zr o0_Ends,oL 40 zg (zh.Starts a)])] [(3,.agg [oL 25 ze (o0_Sets++[gd (za.Sets p) i]),oL 3 zf o0_Owner,oL 40 zg o0_Follow,oL 4 zr o0_Ends,oL 40 zg (zh.Starts a)])] ?_;obtain ⟨h24,h⟩:=h;refine sOE kk (apo zf o0_Owner h24 oN) [] [(3,.agg [oL 25 ze (o0_Sets++[gd (za.Sets p) i]),.own 3 (List.map zf o0_Owner++[FV.pv (Value.int IntKind.i64 rule0)]),oL 40 zg o0_Follow,oL 4 zr o0_Ends,oL 40 zg (zh.Starts a)])] [(3,.agg [oL 25 ze (o0_Sets++[gd (za.Sets p) i]),oL 3 zf (o0_Owner++[rule0]),oL 40 zg o0_Follow,oL 4 zr o0_Ends,oL 40 zg (zh.Starts a)])] ?_;obtain ⟨h25,h⟩:=h;refine sOE kk (apo zr o0_Ends h25 oN) [] [(3,.agg [oL 25 ze (o0_Sets++[gd (za.Sets p) i]),oL 3 zf (o0_Owner++[rule0]),oL 40 zg o0_Follow,.own 4 (List.map zr o0_Ends++[FV.pv (Value.bool false)]),oL 40 zg (zh.Starts a)])] [(3,.agg [oL 25 ze (o0_Sets++[gd (za.Sets p) i]),oL 3 zf (o0_Owner++[rule0]),oL 40 zg o0_Follow,oL 4 zr (o0_Ends++[false]),oL 40 zg (zh.Starts a)])] ?_;obtain ⟨h26,h⟩:=h;obtain ⟨h27,h⟩:=h;obtain ⟨r0_2,hc28,h⟩:=h;obtain ⟨h29,h⟩:=h;refine rOE kk (nd h26 (el (zF zg (za.Follow p) i _ rfl h26 h27) (ca hc28 (apo zg o0_Follow h29 oN)))) [] [(3,.agg [oL 25 ze (o0_Sets++[gd (za.Sets p) i]),oL 3 zf (o0_Owner++[rule0]),.own 40 (List.map zg o0_Follow++[FV.sl (List.take (List.length (List.map zf r0_2)) (List.drop (0:Nat) (List.map zf r0_2)))]),oL 4 zr (o0_Ends++[false]),oL 40 zg (zh.Starts a)])] [(3,.agg [oL 25 ze (o0_Sets++[gd (za.Sets p) i]),oL 3 zf (o0_Owner++[rule0]),oL 40 zg (o0_Follow++[r0_2]),oL 4 zr (o0_Ends++[false]),oL 40 zg (zh.Starts a)])] ?_;show Sem _ _ _ _ _;refine rO kk oN [] [(22,vi (w64 (i+1)))] ?_;exact lD ((o0_Sets++[gd (za.Sets p) i]),(o0_Owner++[rule0]),(o0_Follow++[r0_2]),(o0_Ends++[false]),(w64 (i+1))) [] h
 ·refine xD (i:=0) ?_;obtain he0:=h;subst fin;exact (endQ []).2
theorem zfM (r0:zj) (rule0:Int) (a:zh) (res:(List Int)) (fin:zh)
 (h:(∃ r0_1:za,∃ r0_2:Int,zbs (zj.Rx r0) r0_1 r0_2∧(∃ o:zh,zbe r0_1 rule0 a o∧(∃ r0_3:List Int,z6 (za.Last r0_1) ((↑(List.length (zh.Sets a)):Int)) r0_3∧(∃ J55:List zc→List Int→List (List Int)→List Bool→List (List Int)→List Int→Prop,(∀ (o0_Sets:List zc) (o0_Owner:List Int) (o0_Follow_1:List (List Int)) (o0_Ends:List Bool) (o0_Starts:List (List Int)) (last:List Int),J55 o0_Sets o0_Owner o0_Follow_1 o0_Ends o0_Starts last→(∃ (Inv67:List Bool→Int→Prop) (mu68:List Bool→Int→Nat),Inv67 o0_Ends 0∧(∀ (o0_Ends_1:List Bool) (i_1:Int),Inv67 o0_Ends_1 i_1→(((decide (i_1 < (↑(List.length last):Int)))=true→((0:Int)≤i_1)∧i_1 < ↑(List.length last)∧((0:Int)≤gd last i_1)∧(Int.toNat (gd last i_1) < List.length o0_Ends_1)∧gd last i_1 < ↑(List.length o0_Ends_1)∧(Inv67 (List.set o0_Ends_1 (Int.toNat (gd last i_1)) true) (w64 (i_1+1))∧mu68 (List.set o0_Ends_1 (Int.toNat (gd last i_1)) true) (w64 (i_1+1)) < mu68 o0_Ends_1 i_1))∧((decide (i_1 < (↑(List.length last):Int)))=false→(∃ r0_15:List Int,z6 (za.First r0_1) ((↑(List.length (zh.Sets a)):Int)) r0_15∧(res=r0_15∧fin=({ Sets:=o0_Sets,Owner:=o0_Owner,Follow:=o0_Follow_1,Ends:=o0_Ends_1,Starts:=o0_Starts }))))))))∧(((zb.Kind (zj.Trail r0) != (0:Int))=true→(∃ r0_16:za,∃ r0_17:Int,zbs (zj.Trail r0) r0_16 r0_17∧(∃ o_2:zh,zbe r0_16 rule0 o o_2∧(∃ (Inv107:List (List Int)→Int→Prop) (mu108:List (List Int)→Int→Nat),Inv107 (zh.Follow o_2) 0∧(∀ (o0_Follow_2:List (List Int)) (i_2:Int),Inv107 o0_Follow_2 i_2→(((decide (i_2 < (↑(List.length r0_3):Int)))=true→((0:Int)≤i_2)∧(Int.toNat i_2 < List.length r0_3)∧i_2 < ↑(List.length r0_3)∧((0:Int)≤i_2)∧(Int.toNat i_2 < List.length r0_3)∧i_2 < ↑(List.length r0_3)∧((0:Int)≤gd r0_3 i_2)∧(Int.toNat (gd r0_3 i_2) < List.length o0_Follow_2)∧gd r0_3 i_2 < ↑(List.length o0_Follow_2)∧(∃ r0_22:List Int,z6 (za.First r0_16) ((↑(List.length (zh.Sets o)):Int)) r0_22∧(∃ r0_23:List Int,zC (gd o0_Follow_2 (gd r0_3 i_2)) r0_22 r0_23∧((0:Int)≤gd r0_3 i_2)∧(Int.toNat (gd r0_3 i_2) < List.length o0_Follow_2)∧gd r0_3 i_2 < ↑(List.length o0_Follow_2)∧(Inv107 (List.set o0_Follow_2 (Int.toNat (gd r0_3 i_2)) r0_23) (w64 (i_2+1))∧mu108 (List.set o0_Follow_2 (Int.toNat (gd r0_3 i_2)) r0_23) (w64 (i_2+1)) < mu108 o0_Follow_2 i_2))))∧((decide (i_2 < (↑(List.length r0_3):Int)))=false→(((za.Null r0_16)=true→(∃ r0_24:List Int,z6 (za.Last r0_16) ((↑(List.length (zh.Sets o)):Int)) r0_24∧(∃ r0_25:List Int,zC r0_3 r0_24 r0_25∧J55 (zh.Sets o_2) (zh.Owner o_2) o0_Follow_2 (zh.Ends o_2) (zh.Starts o_2) r0_25)))∧((za.Null r0_16)=false→(∃ r0_26:List Int,z6 (za.Last r0_16) ((↑(List.length (zh.Sets o)):Int)) r0_26∧J55 (zh.Sets o_2) (zh.Owner o_2) o0_Follow_2 (zh.Ends o_2) (zh.Starts o_2) r0_26))))))))))∧((zb.Kind (zj.Trail r0) != (0:Int))=false→J55 (zh.Sets o) (zh.Owner o) (zh.Follow o) (zh.Ends o) (zh.Starts o) r0_3))))))):zbF r0 rule0 a res fin:=by
 unfold zbF;have kk:=cfOk [] 115;refine fD (x:=bodyOf Tryz.f45) kk Tryz.func45 ?_;refine wkS [1,3,4,7] [(1,.ptr 3 0),(3,zbc a),(4,zas r0),(7,vi rule0)] (by kernel_rfl) ?_;refine sO kk oN [4] [(13,.ptr 26 0),(26,zas r0)] ?_;obtain ⟨r0_1,r0_2,hc0,h⟩:=h;refine sO kk (ca hc0 oN) [] [(22,.ptr 44 0),(44,zq r0_1)] ?_;refine sOE kk oN [] [(28,vi ((↑(List.length (List.map ze (zh.Sets a))):Int)))] [(28,vi ((↑(List.length (zh.Sets a)):Int)))] ?_;obtain ⟨o,hc1,h⟩:=h;refine sO kk (ca hc1 oN) [] [(3,zbc o)] ?_;obtain ⟨r0_3,hc2,h⟩:=h;refine sO kk (ca hc2 oN) [] [(31,oL 3 zf r0_3)] ?_;obtain ⟨J55,hJ55,h⟩:=h;refine sjE (fun (q:List zc×List Int×List (List Int)×List Bool×List (List Int)×List Int)=>J55 q.1 q.2.1 q.2.2.1 q.2.2.2.1 q.2.2.2.2.1 q.2.2.2.2.2) [7,13,26] (fun (q:List zc×List Int×List (List Int)×List Bool×List (List Int)×List Int)=>(fun (o0_Sets:List zc) (o0_Owner:List Int) (o0_Follow_1:List (List Int)) (o0_Ends:List Bool) (o0_Starts:List (List Int)) (last:List Int)=>([(3,.agg [oL 25 ze o0_Sets,oL 3 zf o0_Owner,oL 40 zg o0_Follow_1,oL 4 zr o0_Ends,oL 40 zg o0_Starts]),(31,vL zf last)]:Sta)) q.1 q.2.1 q.2.2.1 q.2.2.2.1 q.2.2.2.2.1 q.2.2.2.2.2) ?_ ?_
 ·rintro ⟨o0_Sets,o0_Owner,o0_Follow_1,o0_Ends,o0_Starts,last⟩ hj;have h:=hJ55 o0_Sets o0_Owner o0_Follow_1 o0_Ends o0_Starts last hj;refine qD ?_;refine sO kk oN [] [(46,vi 0)] ?_;refine bD (id:=2) ?_;obtain ⟨Inv67,mu68,h0Inv67,hInv67⟩:=h;refine loE [] (fun (q:List Bool×Int)=>(fun (o0_Ends_1:List Bool) (i_1:Int)=>([(3,.agg [oL 25 ze o0_Sets,oL 3 zf o0_Owner,oL 40 zg o0_Follow_1,oL 4 zr o0_Ends_1,oL 40 zg o0_Starts]),(46,vi i_1)]:Sta)) q.1 q.2) (fun (q:List Bool×Int)=>Inv67 q.1 q.2) (fun (q:List Bool×Int)=>mu68 q.1 q.2) (o0_Ends,0) [] h0Inv67 ?_;rintro ⟨o0_Ends_1,i_1⟩ hi;have h:=hInv67 o0_Ends_1 i_1 hi;refine qD ?_;refine sOE kk oN [] [(298,vB (decide (i_1 < (↑(List.length (List.map zf last)):Int))))] [(298,vB (decide (i_1 < (↑(List.length last):Int))))] ?_;refine cH 99 h (fun hb69 h=>?_) (fun hb69 h=>?_)
  ·refine kD ?_;show Sem _ _ _ _ _;refine wkD [298] ?_;refine qD ?_;refine bD (id:=3) ?_;obtain ⟨h70,h⟩:=h;obtain ⟨h71,h⟩:=h;obtain ⟨h72,h⟩:=h;obtain ⟨h73,h⟩:=h;obtain ⟨h74,h⟩:=h;refine rOE kk (nd h70 (el (zF zf last i_1 _ rfl h70 h71) (nd h72 (nd (show Int.toNat (gd last i_1) < List.length (List.map zr o0_Ends_1) from by simpa only [nm] using h73) (el (show (List.map zr o0_Ends_1)[((0:Nat)+Int.toNat (gd last i_1):Nat)]?=some (fB (gd o0_Ends_1 (gd last i_1))) from by have:=zF zr o0_Ends_1 (gd last i_1) _ rfl h72 h74;simpa only [nm,enq,zr] using this) oN))))) [] [(3,.agg [oL 25 ze o0_Sets,oL 3 zf o0_Owner,oL 40 zg o0_Follow_1,.own 4 (List.set (List.map zr o0_Ends_1) ((0:Nat)+Int.toNat (gd last i_1)) (FV.pv (Value.bool true))),oL 40 zg o0_Starts])] [(3,.agg [oL 25 ze o0_Sets,oL 3 zf o0_Owner,oL 40 zg o0_Follow_1,oL 4 zr (List.set o0_Ends_1 (Int.toNat (gd last i_1)) true),oL 40 zg o0_Starts])] ?_;show Sem _ _ _ _ _;refine rO kk oN [] [(46,vi (w64 (i_1+1)))] ?_;exact lD ((List.set o0_Ends_1 (Int.toNat (gd last i_1)) true),(w64 (i_1+1))) [] h
  ·refine xD (i:=2) ?_;show Sem _ _ _ _ _;refine wkD [1,31,46,298] ?_;obtain ⟨r0_15,hc75,h⟩:=h;refine sO kk (ca hc75 oN) [22,28,44] [(19,oL 3 zf r0_15)] ?_;refine tD ?_;obtain ⟨he0,he1⟩:=h;subst res fin;exact (endQ []).1
 ·refine sO kk oN [] [(115,vB (zb.Kind (zj.Trail r0) != (0:Int)))] ?_;refine cH 38 h (fun hb76 h=>?_) (fun hb76 h=>?_)
  ·obtain ⟨r0_16,r0_17,hc77,h⟩:=h;refine sO kk (ca hc77 oN) [13,26,115] [(34,.ptr 68 0),(68,zq r0_16)] ?_;refine sOE kk oN [] [(40,vi ((↑(List.length (List.map ze (zh.Sets o))):Int)))] [(40,vi ((↑(List.length (zh.Sets o)):Int)))] ?_;obtain ⟨o_2,hc78,h⟩:=h;refine sO kk (ca hc78 oN) [7] [(3,zbc o_2)] ?_;refine qD ?_;refine sO kk oN [] [(43,vi 0)] ?_;refine bD (id:=0) ?_;obtain ⟨Inv107,mu108,h0Inv107,hInv107⟩:=h;refine loE [] (fun (q:List (List Int)×Int)=>(fun (o0_Follow_2:List (List Int)) (i_2:Int)=>([(3,.agg [oL 25 ze (zh.Sets o_2),oL 3 zf (zh.Owner o_2),oL 40 zg o0_Follow_2,oL 4 zr (zh.Ends o_2),oL 40 zg (zh.Starts o_2)]),(43,vi i_2)]:Sta)) q.1 q.2) (fun (q:List (List Int)×Int)=>Inv107 q.1 q.2) (fun (q:List (List Int)×Int)=>mu108 q.1 q.2) ((zh.Follow o_2),0) [] h0Inv107 ?_;rintro ⟨o0_Follow_2,i_2⟩ hi;have h:=hInv107 o0_Follow_2 i_2 hi;refine qD ?_;refine sOE kk oN [] [(172,vB (decide (i_2 < (↑(List.length (List.map zf r0_3)):Int))))] [(172,vB (decide (i_2 < (↑(List.length r0_3):Int))))] ?_;refine cH 57 h (fun hb109 h=>?_) (fun hb109 h=>?_)
   ·refine kD ?_;show Sem _ _ _ _ _;refine wkD [172] ?_;refine qD ?_;refine bD (id:=1) ?_;obtain ⟨h110,h⟩:=h;obtain ⟨h111,h⟩:=h;obtain ⟨h112,h⟩:=h;obtain ⟨h113,h⟩:=h;obtain ⟨h114,h⟩:=h;obtain ⟨h115,h⟩:=h;obtain ⟨h116,h⟩:=h;obtain ⟨h117,h⟩:=h;obtain ⟨h118,h⟩:=h;obtain ⟨r0_22,hc119,h⟩:=h;obtain ⟨r0_23,hc120,h⟩:=h;obtain ⟨h121,h⟩:=h;obtain ⟨h122,h⟩:=h;obtain ⟨h123,h⟩:=h;refine rOE kk (nd h110 (nd (show Int.toNat i_2 < List.length (List.map zf r0_3) from by simpa only [nm] using h111) (el (show (List.map zf r0_3)[((0:Nat)+Int.toNat i_2:Nat)]?=some (fi (gd r0_3 i_2)) from by have:=zF zf r0_3 i_2 _ rfl h110 h112;simpa only [nm,enq,zf] using this) (nd h113 (nd (show Int.toNat i_2 < List.length (List.map zf r0_3) from by simpa only [nm] using h114) (el (show (List.map zf r0_3)[((0:Nat)+Int.toNat i_2:Nat)]?=some (fi (gd r0_3 i_2)) from by have:=zF zf r0_3 i_2 _ rfl h113 h115;simpa only [nm,enq,zf] using this) (nd h116 (nd (show Int.toNat (gd r0_3 i_2) < List.length (List.map zg o0_Follow_2) from by simpa only [nm] using h117) (el (show (List.map zg o0_Follow_2)[((0:Nat)+Int.toNat (gd r0_3 i_2):Nat)]?=some (fL zf (gd o0_Follow_2 (gd r0_3 i_2))) from by have:=zF zg o0_Follow_2 (gd r0_3 i_2) _ rfl h116 h118;simpa only [nm,enq,zg] using this) (ca hc119 (ca (Eq.mp (by unfold zC;(try simp only [List.drop_zero,List.take_length]);first | done | simp only [nm,enq]:zC (gd o0_Follow_2 (gd r0_3 i_2)) r0_22 r0_23=CallE Tryz.prog 47 [vL zf (gd o0_Follow_2 (gd r0_3 i_2)),.f (FV.sl (List.take (List.length (List.map zf r0_22)) (List.drop (0:Nat) (List.map zf r0_22))))] [] (vL zf r0_23) []) hc120) (nd h121 (nd (show Int.toNat (gd r0_3 i_2) < List.length (List.map zg o0_Follow_2) from by simpa only [nm] using h122) (el (show (List.map zg o0_Follow_2)[((0:Nat)+Int.toNat (gd r0_3 i_2):Nat)]?=some (fL zf (gd o0_Follow_2 (gd r0_3 i_2))) from by have:=zF zg o0_Follow_2 (gd r0_3 i_2) _ rfl h121 h123;simpa only [nm,enq,zg] using this) oN)))))))))))))) [] [(3,.agg [oL 25 ze (zh.Sets o_2),oL 3 zf (zh.Owner o_2),.own 40 (List.set (List.map zg o0_Follow_2) ((0:Nat)+Int.toNat (gd r0_3 i_2)) (FV.sl (List.map zf r0_23))),oL 4 zr (zh.Ends o_2),oL 40 zg (zh.Starts o_2)])] [(3,.agg [oL 25 ze (zh.Sets o_2),oL 3 zf (zh.Owner o_2),oL 40 zg (List.set o0_Follow_2 (Int.toNat (gd r0_3 i_2)) r0_23),oL 4 zr (zh.Ends o_2),oL 40 zg (zh.Starts o_2)])] ?_;show Sem _ _ _ _ _;refine rO kk oN [] [(43,vi (w64 (i_2+1)))] ?_;exact lD ((List.set o0_Follow_2 (Int.toNat (gd r0_3 i_2)) r0_23),(w64 (i_2+1))) [] h
   ·refine xD (i:=0) ?_;show Sem _ _ _ _ _;refine wkD [43,172] ?_;refine sO kk oN [] [(256,vB (za.Null r0_16))] ?_;refine cH 85 h (fun hb124 h=>?_) (fun hb124 h=>?_)
    ·obtain ⟨r0_24,hc125,h⟩:=h;obtain ⟨r0_25,hc126,h⟩:=h;refine rO kk (ca hc125 (ca (Eq.mp (by unfold zC;(try simp only [List.drop_zero,List.take_length]);first | done | simp only [nm,enq]:zC r0_3 r0_24 r0_25=CallE Tryz.prog 47 [.f (FV.sl (List.take (List.length (List.map zf r0_3)) (List.drop (0:Nat) (List.map zf r0_3)))),.f (FV.sl (List.take (List.length (List.map zf r0_24)) (List.drop (0:Nat) (List.map zf r0_24))))] [] (vL zf r0_25) []) hc126) oN)) [34,40,68,256] [(31,vL zf r0_25)] ?_;exact jD ((zh.Sets o_2),(zh.Owner o_2),o0_Follow_2,(zh.Ends o_2),(zh.Starts o_2),r0_25) [] h
    ·obtain ⟨r0_26,hc127,h⟩:=h;refine rO kk (ca hc127 oN) [34,40,68,256] [(31,oL 3 zf r0_26)] ?_;exact jD ((zh.Sets o_2),(zh.Owner o_2),o0_Follow_2,(zh.Ends o_2),(zh.Starts o_2),r0_26) [(31,0)] h
  ·refine kD ?_;exact jD ((zh.Sets o),(zh.Owner o),(zh.Follow o),(zh.Ends o),(zh.Starts o),r0_3) [(31,0)] h
end Go.Ev
namespace Go.Ev
open Go Go.Proofs
set_option maxRecDepth 8000
set_option maxHeartbeats 1000000
theorem zea (s0:api_Spec) (rule0:Int) (cond:Int) (res:Bool)
 (h:(((decide (rule0 < (0:Int)) || (decide (rule0≥(↑(List.length (List.map zw (api_Spec.Rules s0))):Int)) || (decide (cond < (0:Int)) || decide (cond≥(↑(List.length (api_Spec.Conds s0)):Int)))))=true→(res=false))∧((decide (rule0 < (0:Int)) || (decide (rule0≥(↑(List.length (List.map zw (api_Spec.Rules s0))):Int)) || (decide (cond < (0:Int)) || decide (cond≥(↑(List.length (api_Spec.Conds s0)):Int)))))=false→((0:Int)≤rule0)∧rule0 < ↑(List.length (api_Spec.Rules s0))∧(((zj.All (gd (api_Spec.Rules s0) rule0))=true→(res=true))∧((zj.All (gd (api_Spec.Rules s0) rule0))=false→(∃ (Inv14:Int→Prop) (mu15:Int→Nat),Inv14 0∧(∀ (i:Int),Inv14 i→(((decide (i < (↑(List.length (zj.Conds (gd (api_Spec.Rules s0) rule0))):Int)))=true→((0:Int)≤i)∧i < ↑(List.length (zj.Conds (gd (api_Spec.Rules s0) rule0)))∧(((gd (zj.Conds (gd (api_Spec.Rules s0) rule0)) i == cond)=true→(res=true))∧((gd (zj.Conds (gd (api_Spec.Rules s0) rule0)) i == cond)=false→(Inv14 (w64 (i+1))∧mu15 (w64 (i+1)) < mu15 i))))∧((decide (i < (↑(List.length (zj.Conds (gd (api_Spec.Rules s0) rule0))):Int)))=false→(((↑(List.length (List.map zf (zj.Conds (gd (api_Spec.Rules s0) rule0)))):Int) == 0)=true→((0:Int)≤cond))∧(((↑(List.length (List.map zf (zj.Conds (gd (api_Spec.Rules s0) rule0)))):Int) == 0)=true→cond < ↑(List.length (api_Spec.Conds s0)))∧(res=((↑(List.length (zj.Conds (gd (api_Spec.Rules s0) rule0))):Int) == 0 && !zN.Exclusive (gd (api_Spec.Conds s0) cond)))))))))))):zaY s0 rule0 cond res:=by
 unfold zaY;have kk:=cfOk [] 63;refine fD (x:=bodyOf Tryz.f46) kk Tryz.func46 ?_;refine wkS [1,4,7] [(1,zK s0),(4,vi rule0),(7,vi cond)] (by kernel_rfl) ?_;refine sO kk oN [1] [(10,.ptr 20 0),(20,zK s0)] ?_;refine qD ?_;refine sM [] [(85,vB (decide (rule0 < (0:Int)) || (decide (rule0≥(↑(List.length (List.map zw (api_Spec.Rules s0))):Int)) || (decide (cond < (0:Int)) || decide (cond≥(↑(List.length (api_Spec.Conds s0)):Int))))))] ?_ (fun hk0=>?_)
 ·refine cH 28 h (fun hb3 h=>?_) (fun hb3 h=>?_)
  ·refine sO kk oN [4,7,10,20,85] [(19,vB false)] ?_;refine tD ?_;obtain he0:=h;subst res;exact (endD [] (vB false) []).1
  ·refine kD ?_;show Sem _ _ _ _ _;refine wkD [85] ?_;obtain ⟨h4,h⟩:=h;obtain ⟨h5,h⟩:=h;refine sO kk (nd h4 (el (zF zw (api_Spec.Rules s0) rule0 _ (z7 _) h4 h5) oN)) [4] [(22,.ptr 44 0),(44,zas (gd (api_Spec.Rules s0) rule0))] ?_;refine qD ?_;refine sO kk oN [] [(106,vB (zj.All (gd (api_Spec.Rules s0) rule0)))] ?_;refine cH 35 h (fun hb6 h=>?_) (fun hb6 h=>?_)
   ·refine sO kk oN [7,10,20,22,44,106] [(19,vB true)] ?_;refine tD ?_;obtain he0:=h;subst res;exact (endD [] (vB true) []).1
   ·refine kD ?_;show Sem _ _ _ _ _;refine wkD [106] ?_;refine qD ?_;refine sO kk oN [] [(25,vi 0)] ?_;refine bD (id:=0) ?_;obtain ⟨Inv14,mu15,h0Inv14,hInv14⟩:=h;refine loE [] (fun (q:Int)=>(fun (i:Int)=>([(25,vi i)]:Sta)) q) (fun (q:Int)=>Inv14 q) (fun (q:Int)=>mu15 q) 0 [] h0Inv14 ?_;rintro i hi;have h:=hInv14 i hi;refine qD ?_;refine sOE kk oN [] [(121,vB (decide (i < (↑(List.length (List.map zf (zj.Conds (gd (api_Spec.Rules s0) rule0)))):Int))))] [(121,vB (decide (i < (↑(List.length (zj.Conds (gd (api_Spec.Rules s0) rule0))):Int))))] ?_;refine cH 40 h (fun hb16 h=>?_) (fun hb16 h=>?_)
    ·refine kD ?_;show Sem _ _ _ _ _;refine wkD [121] ?_;refine qD ?_;refine bD (id:=1) ?_;obtain ⟨h17,h⟩:=h;obtain ⟨h18,h⟩:=h;refine sO kk (nd h17 (el (zF zf (zj.Conds (gd (api_Spec.Rules s0) rule0)) i _ rfl h17 h18) oN)) [] [(148,vB (gd (zj.Conds (gd (api_Spec.Rules s0) rule0)) i == cond))] ?_;refine cH 49 h (fun hb19 h=>?_) (fun hb19 h=>?_)
     ·refine sO kk oN [7,10,20,22,25,44,148] [(19,vB true)] ?_;refine tD ?_;obtain he0:=h;subst res;exact (endD [] (vB true) []).1
     ·refine kD ?_;show Sem _ _ _ _ _;refine wkD [148] ?_;refine rO kk oN [] [(25,vi (w64 (i+1)))] ?_;exact lD (w64 (i+1)) [] h
    ·refine xD (i:=0) ?_;show Sem _ _ _ _ _;refine wkD [25,121] ?_;obtain ⟨h21,h22,h⟩:=h;refine sM [7,10,20,22,44] [(19,vB ((↑(List.length (List.map zf (zj.Conds (gd (api_Spec.Rules s0) rule0)))):Int) == 0 && !zN.Exclusive (gd (api_Spec.Conds s0) cond)))] ?_ (fun hk0=>?_)
     ·refine tD ?_;obtain he0:=h;subst res;exact (endD [] (vB ((↑(List.length (List.map zf (zj.Conds (gd (api_Spec.Rules s0) rule0)))):Int) == 0 && !zN.Exclusive (gd (api_Spec.Conds s0) cond))) []).1
     ·rcases eft ((↑(List.length (List.map zf (zj.Conds (gd (api_Spec.Rules s0) rule0)))):Int) == 0) with hb20 | hb20
      ·refine sO kk (g1 hb20 1111 (nd (h21 hb20) (el (zF zu (api_Spec.Conds s0) cond _ (z8 _) (h21 hb20) (h22 hb20)) (g1 hb20 1113 oN)))) [7,10,20,22,44] [(19,vB (!zN.Exclusive (gd (api_Spec.Conds s0) cond)))] ?_;exact Sem.cast (by try rw [hb20];kernel_rfl) hk0
      ·refine sO kk (g1 hb20 11111113 oN) [7,10,20,22,44] [(19,vB false)] ?_;exact Sem.cast (by try rw [hb20];kernel_rfl) hk0
 ·rcases eft (decide (rule0 < (0:Int))) with hb0 | hb0
  ·refine sO kk (g1 hb0 222223887888887 oN) [] [(85,vB true)] ?_;exact Sem.cast (by try rw [hb0];kernel_rfl) hk0
  ·rcases eft (decide (rule0≥(↑(List.length (List.map zw (api_Spec.Rules s0))):Int))) with hb1 | hb1
   ·refine sO kk (g2 hb1 hb0 555556223888887 oN) [] [(85,vB true)] ?_;exact Sem.cast (by try rw [hb0];try rw [hb1];kernel_rfl) hk0
   ·rcases eft (decide (cond < (0:Int))) with hb2 | hb2
    ·refine sO kk (g1 hb0 222223 (g2 hb2 hb1 556222223 oN)) [] [(85,vB true)] ?_;exact Sem.cast (by try rw [hb0];try rw [hb1];try rw [hb2];kernel_rfl) hk0
    ·refine sOE kk (g1 hb0 222223 (g2 hb2 hb1 556222223 oN)) [] [(85,vB (decide (cond≥(↑(List.length (List.map zu (api_Spec.Conds s0))):Int))))] [(85,vB (decide (cond≥(↑(List.length (api_Spec.Conds s0)):Int))))] ?_;exact Sem.cast (by try rw [hb0];try rw [hb1];try rw [hb2];kernel_rfl) hk0
theorem zcF (s0:api_Spec) (res:zh) (res_1:Int)
 (h:(∃ r0:Bool,zaM s0 r0∧(((!r0)=true→(res=({ Sets:=[],Owner:=[],Follow:=[],Ends:=[],Starts:=[] })∧res_1=1))∧((!r0)=false→(∃ (Inv27:List zc→List Int→List (List Int)→List Bool→List (List Int)→List (List Int)→Int→Prop) (mu28:List zc→List Int→List (List Int)→List Bool→List (List Int)→List (List Int)→Int→Nat),Inv27 ([]) ([]) ([]) ([]) ([]) ([]) 0∧(∀ (a_Sets_1:List zc) (a_Owner_1:List Int) (a_Follow_1:List (List Int)) (a_Ends_1:List Bool) (a_Starts_1:List (List Int)) (begins:List (List Int)) (i:Int),Inv27 a_Sets_1 a_Owner_1 a_Follow_1 a_Ends_1 a_Starts_1 begins i→(((decide (i < (↑(List.length (api_Spec.Rules s0)):Int)))=true→(∃ J36:List zc→List Int→List (List Int)→List Bool→List (List Int)→List Int→Prop,(∀ (a_Sets_3:List zc) (a_Owner_3:List Int) (a_Follow_3:List (List Int)) (a_Ends_3:List Bool) (a_Starts_3:List (List Int)) (first_2:List Int),J36 a_Sets_3 a_Owner_3 a_Follow_3 a_Ends_3 a_Starts_3 first_2→((List.length begins+(1:Nat)) * (24:Nat)≤(2:Nat) ^ (47:Nat))∧(Inv27 a_Sets_3 a_Owner_3 a_Follow_3 a_Ends_3 a_Starts_3 (begins++[first_2]) (w64 (i+1))∧mu28 a_Sets_3 a_Owner_3 a_Follow_3 a_Ends_3 a_Starts_3 (begins++[first_2]) (w64 (i+1)) < mu28 a_Sets_1 a_Owner_1 a_Follow_1 a_Ends_1 a_Starts_1 begins i))∧((0:Int)≤i)∧i < ↑(List.length (api_Spec.Rules s0))∧(((!zj.Eof (gd (api_Spec.Rules s0) i))=true→((0:Int)≤i)∧i < ↑(List.length (api_Spec.Rules s0))∧(∃ r0_6:List Int,∃ o_5:zh,zbF (gd (api_Spec.Rules s0) i) i ({ Sets:=a_Sets_1,Owner:=a_Owner_1,Follow:=a_Follow_1,Ends:=a_Ends_1,Starts:=a_Starts_1 }) r0_6 o_5∧J36 (zh.Sets o_5) (zh.Owner o_5) (zh.Follow o_5) (zh.Ends o_5) (zh.Starts o_5) r0_6))∧((!zj.Eof (gd (api_Spec.Rules s0) i))=false→J36 a_Sets_1 a_Owner_1 a_Follow_1 a_Ends_1 a_Starts_1 ([])))))∧((decide (i < (↑(List.length (api_Spec.Rules s0)):Int)))=false→(((decide ((↑(List.length a_Sets_1):Int) > (600:Int)))=true→(res=({ Sets:=[],Owner:=[],Follow:=[],Ends:=[],Starts:=[] })∧res_1=2))∧((decide ((↑(List.length a_Sets_1):Int) > (600:Int)))=false→(∃ (Inv171:List (List Int)→Int→Prop) (mu172:List (List Int)→Int→Nat),Inv171 a_Starts_1 0∧(∀ (a_Starts_4:List (List Int)) (c0:Int),Inv171 a_Starts_4 c0→(((decide (c0 < w64 ((2:Int) * (↑(List.length (api_Spec.Conds s0)):Int))))=true→(∃ (Inv214:List Int→Int→Prop) (mu215:List Int→Int→Nat),Inv214 ([]) 0∧(∀ (start_9:List Int) (i_3:Int),Inv214 start_9 i_3→(((decide (i_3 < (↑(List.length (api_Spec.Rules s0)):Int)))=true→(∃ J227:List Int→Prop,(∀ (start_11:List Int),J227 start_11→(Inv214 start_11 (w64 (i_3+1))∧mu215 start_11 (w64 (i_3+1)) < mu215 start_9 i_3))∧(∃ r0_41:Bool,zaY s0 i_3 (w64 (Int.tdiv c0 (2:Int))) r0_41∧((r0_41)=true→((Int.tmod c0 (2:Int) == 1)=false→((0:Int)≤i_3)))∧((r0_41)=true→((Int.tmod c0 (2:Int) == 1)=false→i_3 < ↑(List.length (api_Spec.Rules s0))))∧(((r0_41 && (Int.tmod c0 (2:Int) == 1 || !zj.Bol (gd (api_Spec.Rules s0) i_3)))=true→((0:Int)≤i_3)∧(Int.toNat i_3 < List.length begins)∧i_3 < ↑(List.length begins)∧(∃ r0_42:List Int,zC start_9 (gd begins i_3) r0_42∧J227 r0_42))∧((r0_41 && (Int.tmod c0 (2:Int) == 1 || !zj.Bol (gd (api_Spec.Rules s0) i_3)))=false→J227 start_9)))))∧((decide (i_3 < (↑(List.length (api_Spec.Rules s0)):Int)))=false→((List.length a_Starts_4+(1:Nat)) * (24:Nat)≤(2:Nat) ^ (47:Nat))∧(Inv171 (a_Starts_4++[start_9]) (w64 (c0+1))∧mu172 (a_Starts_4++[start_9]) (w64 (c0+1)) < mu172 a_Starts_4 c0))))))∧((decide (c0 < w64 ((2:Int) * (↑(List.length (api_Spec.Conds s0)):Int))))=false→(res=({ Sets:=a_Sets_1,Owner:=a_Owner_1,Follow:=a_Follow_1,Ends:=a_Ends_1,Starts:=a_Starts_4 })∧res_1=0))))))))))))))):za5 s0 res res_1:=by
 unfold za5;have kk:=cfOk [91] 92;refine fD (x:=bodyOf Tryz.f16) kk Tryz.func16 ?_;refine wkS [1] [(1,zK s0)] (by kernel_rfl) ?_;refine sOE kk oN [1] [(4,.ptr 8 0),(7,.ptr 14 0),(8,zK s0),(14,.agg [.own 25 ([]),.own 3 ([]),.own 40 ([]),.own 4 ([]),.own 40 ([])])] [(4,.ptr 8 0),(7,.ptr 14 0),(8,zK s0),(14,.agg [oL 25 ze ([]),oL 3 zf ([]),oL 40 zg ([]),oL 4 zr ([]),oL 40 zg ([])])] ?_;refine qD ?_;obtain ⟨r0,hc0,h⟩:=h;refine sO kk (ca hc0 oN) [] [(40,vB (!r0))] ?_;refine cH 13 h (fun hb1 h=>?_) (fun hb1 h=>?_)
 ·refine sOE kk oN [4,8,40] [(10,vi 1),(14,.agg [.own 25 ([]),.own 3 ([]),.own 40 ([]),.own 4 ([]),.own 40 ([])])] [(10,vi 1),(14,.agg [oL 25 ze ([]),oL 3 zf ([]),oL 40 zg ([]),oL 4 zr ([]),oL 40 zg ([])])] ?_;refine tD ?_;obtain ⟨he0,he1⟩:=h;subst res res_1;exact (endD [] (.tup [.agg [.f (FV.sl (List.take (List.length (List.map ze [])) (List.drop (0:Nat) (List.map ze [])))),.f (FV.sl (List.take (List.length (List.map zf [])) (List.drop (0:Nat) (List.map zf [])))),.f (FV.sl (List.take (List.length (List.map zg [])) (List.drop (0:Nat) (List.map zg [])))),.f (FV.sl (List.take (List.length (List.map zr [])) (List.drop (0:Nat) (List.map zr [])))),.f (FV.sl (List.take (List.length (List.map zg [])) (List.drop (0:Nat) (List.map zg []))))],vi 1]) []).1
 ·refine kD ?_;show Sem _ _ _ _ _;refine wkD [40] ?_;refine sOE kk oN [] [(13,.ptr 26 0),(26,.agg [.own 25 ([]),.own 3 ([]),.own 40 ([]),.own 4 ([]),.own 40 ([])])] [(13,.ptr 26 0),(26,.agg [oL 25 ze ([]),oL 3 zf ([]),oL 40 zg ([]),oL 4 zr ([]),oL 40 zg ([])])] ?_;refine sOE kk oN [] [(16,.own 40 ([]))] [(16,oL 40 zg ([]))] ?_;refine qD ?_;refine sO kk oN [] [(19,vi 0)] ?_;refine bD (id:=0) ?_;obtain ⟨Inv27,mu28,h0Inv27,hInv27⟩:=h;refine loE [] (fun (q:List zc×List Int×List (List Int)×List Bool×List (List Int)×List (List Int)×Int)=>(fun (a_Sets_1:List zc) (a_Owner_1:List Int) (a_Follow_1:List (List Int)) (a_Ends_1:List Bool) (a_Starts_1:List (List Int)) (begins:List (List Int)) (i:Int)=>([(16,oL 40 zg begins),(19,vi i),(26,.agg [oL 25 ze a_Sets_1,oL 3 zf a_Owner_1,oL 40 zg a_Follow_1,oL 4 zr a_Ends_1,oL 40 zg a_Starts_1])]:Sta)) q.1 q.2.1 q.2.2.1 q.2.2.2.1 q.2.2.2.2.1 q.2.2.2.2.2.1 q.2.2.2.2.2.2) (fun (q:List zc×List Int×List (List Int)×List Bool×List (List Int)×List (List Int)×Int)=>Inv27 q.1 q.2.1 q.2.2.1 q.2.2.2.1 q.2.2.2.2.1 q.2.2.2.2.2.1 q.2.2.2.2.2.2) (fun (q:List zc×List Int×List (List Int)×List Bool×List (List Int)×List (List Int)×Int)=>mu28 q.1 q.2.1 q.2.2.1 q.2.2.2.1 q.2.2.2.2.1 q.2.2.2.2.2.1 q.2.2.2.2.2.2) (([]),([]),([]),([]),([]),([]),0) [] h0Inv27 ?_;rintro ⟨a_Sets_1,a_Owner_1,a_Follow_1,a_Ends_1,a_Starts_1,begins,i⟩ hi;have h:=hInv27 a_Sets_1 a_Owner_1 a_Follow_1 a_Ends_1 a_Starts_1 begins i hi;refine qD ?_;refine sOE kk oN [] [(58,vB (decide (i < (↑(List.length (List.map zw (api_Spec.Rules s0))):Int))))] [(58,vB (decide (i < (↑(List.length (api_Spec.Rules s0)):Int))))] ?_;refine cH 19 h (fun hb29 h=>?_) (fun hb29 h=>?_)
  ·refine kD ?_;show Sem _ _ _ _ _;refine wkD [58] ?_;refine qD ?_;refine bD (id:=1) ?_;refine sOE kk oN [] [(22,.own 3 ([]))] [(22,oL 3 zf ([]))] ?_;obtain ⟨J36,hJ36,h⟩:=h;refine sjE (fun (q:List zc×List Int×List (List Int)×List Bool×List (List Int)×List Int)=>J36 q.1 q.2.1 q.2.2.1 q.2.2.2.1 q.2.2.2.2.1 q.2.2.2.2.2) [] (fun (q:List zc×List Int×List (List Int)×List Bool×List (List Int)×List Int)=>(fun (a_Sets_3:List zc) (a_Owner_3:List Int) (a_Follow_3:List (List Int)) (a_Ends_3:List Bool) (a_Starts_3:List (List Int)) (first_2:List Int)=>([(22,oL 3 zf first_2),(26,.agg [oL 25 ze a_Sets_3,oL 3 zf a_Owner_3,oL 40 zg a_Follow_3,oL 4 zr a_Ends_3,oL 40 zg a_Starts_3])]:Sta)) q.1 q.2.1 q.2.2.1 q.2.2.2.1 q.2.2.2.2.1 q.2.2.2.2.2) ?_ ?_
   ·rintro ⟨a_Sets_3,a_Owner_3,a_Follow_3,a_Ends_3,a_Starts_3,first_2⟩ hj;have h:=hJ36 a_Sets_3 a_Owner_3 a_Follow_3 a_Ends_3 a_Starts_3 first_2 hj;obtain ⟨h37,h⟩:=h;refine rOE kk (apo zg begins h37 oN) [22] [(16,.own 40 (List.map zg begins++[FV.sl (List.take (List.length (List.map zf first_2)) (List.drop (0:Nat) (List.map zf first_2)))]))] [(16,oL 40 zg (begins++[first_2]))] ?_;show Sem _ _ _ _ _;refine rO kk oN [] [(19,vi (w64 (i+1)))] ?_;exact lD (a_Sets_3,a_Owner_3,a_Follow_3,a_Ends_3,a_Starts_3,(begins++[first_2]),(w64 (i+1))) [] h
   ·obtain ⟨h38,h⟩:=h;obtain ⟨h39,h⟩:=h;refine sO kk (nd h38 (el (zF zw (api_Spec.Rules s0) i _ (z7 _) h38 h39) oN)) [] [(85,vB (!zj.Eof (gd (api_Spec.Rules s0) i)))] ?_;refine cH 28 h (fun hb40 h=>?_) (fun hb40 h=>?_)
    ·obtain ⟨h41,h⟩:=h;obtain ⟨h42,h⟩:=h;obtain ⟨r0_6,o_5,hc43,h⟩:=h;refine rO kk (nd h41 (el (zF zw (api_Spec.Rules s0) i _ (z7 _) h41 h42) (ca hc43 oN))) [85] [(22,oL 3 zf r0_6),(26,zbc o_5)] ?_;exact jD ((zh.Sets o_5),(zh.Owner o_5),(zh.Follow o_5),(zh.Ends o_5),(zh.Starts o_5),r0_6) [] h
    ·refine kD ?_;exact jD (a_Sets_1,a_Owner_1,a_Follow_1,a_Ends_1,a_Starts_1,([])) [] h
  ·refine xD (i:=0) ?_;show Sem _ _ _ _ _;refine wkD [19,58] ?_;refine qD ?_;refine sOE kk oN [] [(130,vB (decide ((↑(List.length (List.map ze a_Sets_1)):Int) > (600:Int))))] [(130,vB (decide ((↑(List.length a_Sets_1):Int) > (600:Int))))] ?_;refine cH 43 h (fun hb44 h=>?_) (fun hb44 h=>?_)
   ·refine sOE kk oN [4,8,13,16,26,130] [(10,vi 2),(14,.agg [.own 25 ([]),.own 3 ([]),.own 40 ([]),.own 4 ([]),.own 40 ([])])] [(10,vi 2),(14,.agg [oL 25 ze ([]),oL 3 zf ([]),oL 40 zg ([]),oL 4 zr ([]),oL 40 zg ([])])] ?_;refine tD ?_;obtain ⟨he0,he1⟩:=h;subst res res_1;exact (endD [] (.tup [.agg [.f (FV.sl (List.take (List.length (List.map ze [])) (List.drop (0:Nat) (List.map ze [])))),.f (FV.sl (List.take (List.length (List.map zf [])) (List.drop (0:Nat) (List.map zf [])))),.f (FV.sl (List.take (List.length (List.map zg [])) (List.drop (0:Nat) (List.map zg [])))),.f (FV.sl (List.take (List.length (List.map zr [])) (List.drop (0:Nat) (List.map zr [])))),.f (FV.sl (List.take (List.length (List.map zg [])) (List.drop (0:Nat) (List.map zg []))))],vi 2]) []).1
   ·refine kD ?_;show Sem _ _ _ _ _;refine wkD [130] ?_;refine qD ?_;refine sO kk oN [] [(25,vi 0)] ?_;refine bD (id:=2) ?_;obtain ⟨Inv171,mu172,h0Inv171,hInv171⟩:=h;refine loE [] (fun (q:List (List Int)×Int)=>(fun (a_Starts_4:List (List Int)) (c0:Int)=>([(25,vi c0),(26,.agg [oL 25 ze a_Sets_1,oL 3 zf a_Owner_1,oL 40 zg a_Follow_1,oL 4 zr a_Ends_1,oL 40 zg a_Starts_4])]:Sta)) q.1 q.2) (fun (q:List (List Int)×Int)=>Inv171 q.1 q.2) (fun (q:List (List Int)×Int)=>mu172 q.1 q.2) (a_Starts_1,0) [] h0Inv171 ?_;rintro ⟨a_Starts_4,c0⟩ hi;have h:=hInv171 a_Starts_4 c0 hi;refine qD ?_;refine sOE kk oN [] [(151,vB (decide (c0 < w64 ((2:Int) * (↑(List.length (List.map zu (api_Spec.Conds s0))):Int)))))] [(151,vB (decide (c0 < w64 ((2:Int) * (↑(List.length (api_Spec.Conds s0)):Int)))))] ?_;refine cH 50 h (fun hb173 h=>?_) (fun hb173 h=>?_)
    ·refine kD ?_;show Sem _ _ _ _ _;refine wkD [151] ?_;refine qD ?_;refine bD (id:=3) ?_;refine sOE kk oN [] [(28,.own 3 ([]))] [(28,oL 3 zf ([]))] ?_;refine qD ?_;refine sO kk oN [] [(31,vi 0)] ?_;refine bD (id:=4) ?_;obtain ⟨Inv214,mu215,h0Inv214,hInv214⟩:=h;refine loE [] (fun (q:List Int×Int)=>(fun (start_9:List Int) (i_3:Int)=>([(28,vL zf start_9),(31,vi i_3)]:Sta)) q.1 q.2) (fun (q:List Int×Int)=>Inv214 q.1 q.2) (fun (q:List Int×Int)=>mu215 q.1 q.2) (([]),0) [(28,0)] h0Inv214 ?_;rintro ⟨start_9,i_3⟩ hi;have h:=hInv214 start_9 i_3 hi;refine qD ?_;refine sOE kk oN [] [(172,vB (decide (i_3 < (↑(List.length (List.map zw (api_Spec.Rules s0))):Int))))] [(172,vB (decide (i_3 < (↑(List.length (api_Spec.Rules s0)):Int))))] ?_;refine cH 57 h (fun hb216 h=>?_) (fun hb216 h=>?_)
     ·refine kD ?_;show Sem _ _ _ _ _;refine wkD [172] ?_;obtain ⟨J227,hJ227,h⟩:=h;refine sjE (fun (q:List Int)=>J227 q) [] (fun (q:List Int)=>(fun (start_11:List Int)=>([(28,vL zf start_11)]:Sta)) q) ?_ ?_
      ·rintro start_11 hj;have h:=hJ227 start_11 hj;refine rO kk oN [] [(31,vi (w64 (i_3+1)))] ?_;exact lD (start_11,(w64 (i_3+1))) [] h
      ·refine bD (id:=5) ?_;obtain ⟨r0_41,hc228,h⟩:=h;obtain ⟨h231,h232,h⟩:=h;refine sM [] [(235,vB (r0_41 && (Int.tmod c0 (2:Int) == 1 || !zj.Bol (gd (api_Spec.Rules s0) i_3))))] ?_ (fun hk0=>?_)
       ·refine cH 78 h (fun hb233 h=>?_) (fun hb233 h=>?_)
        ·obtain ⟨h234,h⟩:=h;obtain ⟨h235,h⟩:=h;obtain ⟨h236,h⟩:=h;obtain ⟨r0_42,hc237,h⟩:=h;refine rO kk (nd h234 (nd (show Int.toNat i_3 < List.length (List.map zg begins) from by simpa only [nm] using h235) (el (show (List.map zg begins)[((0:Nat)+Int.toNat i_3:Nat)]?=some (fL zf (gd begins i_3)) from by have:=zF zg begins i_3 _ rfl h234 h236;simpa only [nm,enq,zg] using this) (ca hc237 oN)))) [235] [(28,vL zf r0_42)] ?_;exact jD r0_42 [] h
        ·refine kD ?_;exact jD start_9 [] h
       ·rcases eft (r0_41) with hb229 | hb229
        ·rcases eft (Int.tmod c0 (2:Int) == 1) with hb230 | hb230
         ·refine sO kk (nd (show (2:Int)≠(0:Int) from by first | decide | rfl | trivial) (ca hc228 (g1 hb229 11 (nd (show (2:Int)≠(0:Int) from by first | decide | rfl | trivial) (g2 hb229 hb230 115555555163 oN))))) [] [(235,vB true)] ?_;exact Sem.cast (by try rw [hb229];try rw [hb230];kernel_rfl) hk0
         ·refine sO kk (nd (show (2:Int)≠(0:Int) from by first | decide | rfl | trivial) (ca hc228 (g1 hb229 11 (nd (show (2:Int)≠(0:Int) from by first | decide | rfl | trivial) (g2 hb230 hb229 442222 (nd ((h231 hb229) hb230) (el (zF zw (api_Spec.Rules s0) i_3 _ (z7 _) ((h231 hb229) hb230) ((h232 hb229) hb230)) (g2 hb229 hb230 555163 oN)))))))) [] [(235,vB (!zj.Bol (gd (api_Spec.Rules s0) i_3)))] ?_;exact Sem.cast (by try rw [hb229];try rw [hb230];kernel_rfl) hk0
        ·refine sO kk (nd (show (2:Int)≠(0:Int) from by first | decide | rfl | trivial) (ca hc228 (g1 hb229 111113 oN))) [] [(235,vB false)] ?_;exact Sem.cast (by try rw [hb229];kernel_rfl) hk0
     ·refine xD (i:=4) ?_;show Sem _ _ _ _ _;refine wkD [31,172] ?_;obtain ⟨h238,h⟩:=h;refine rOE kk (apo zg a_Starts_4 h238 oN) [28] [(26,.agg [oL 25 ze a_Sets_1,oL 3 zf a_Owner_1,oL 40 zg a_Follow_1,oL 4 zr a_Ends_1,.own 40 (List.map zg a_Starts_4++[FV.sl (List.map zf start_9)])])] [(26,.agg [oL 25 ze a_Sets_1,oL 3 zf a_Owner_1,oL 40 zg a_Follow_1,oL 4 zr a_Ends_1,oL 40 zg (a_Starts_4++[start_9])])] ?_;show Sem _ _ _ _ _;refine rO kk oN [] [(25,vi (w64 (c0+1)))] ?_;exact lD ((a_Starts_4++[start_9]),(w64 (c0+1))) [] h
    ·refine xD (i:=2) ?_;show Sem _ _ _ _ _;refine wkD [4,8,16,25,151] ?_;refine sO kk (nd (show (0:Nat)=(0:Nat)∧List.length (List.map ze a_Sets_1)=List.length (List.map ze a_Sets_1) from ⟨rfl,rfl⟩) (nd (show (0:Nat)=(0:Nat)∧List.length (List.map zf a_Owner_1)=List.length (List.map zf a_Owner_1) from ⟨rfl,rfl⟩) (nd (show (0:Nat)=(0:Nat)∧List.length (List.map zg a_Follow_1)=List.length (List.map zg a_Follow_1) from ⟨rfl,rfl⟩) (nd (show (0:Nat)=(0:Nat)∧List.length (List.map zr a_Ends_1)=List.length (List.map zr a_Ends_1) from ⟨rfl,rfl⟩) (nd (show (0:Nat)=(0:Nat)∧List.length (List.map zg a_Starts_4)=List.length (List.map zg a_Starts_4) from ⟨rfl,rfl⟩) oN))))) [13,26] [(10,vi 0),(14,.agg [oL 25 ze a_Sets_1,oL 3 zf a_Owner_1,oL 40 zg a_Follow_1,oL 4 zr a_Ends_1,oL 40 zg a_Starts_4])] ?_;refine tD ?_;obtain ⟨he0,he1⟩:=h;subst res res_1;exact (endD [] (.tup [.agg [.f (FV.sl (List.take (List.length (List.map ze a_Sets_1)) (List.drop (0:Nat) (List.map ze a_Sets_1)))),.f (FV.sl (List.take (List.length (List.map zf a_Owner_1)) (List.drop (0:Nat) (List.map zf a_Owner_1)))),.f (FV.sl (List.take (List.length (List.map zg a_Follow_1)) (List.drop (0:Nat) (List.map zg a_Follow_1)))),.f (FV.sl (List.take (List.length (List.map zr a_Ends_1)) (List.drop (0:Nat) (List.map zr a_Ends_1)))),.f (FV.sl (List.take (List.length (List.map zg a_Starts_4)) (List.drop (0:Nat) (List.map zg a_Starts_4))))],vi 0]) []).1
theorem zfj (a:(List Int)) (b:(List Int)) (res:Bool)
 (h:((((↑(List.length a):Int) != (↑(List.length b):Int))=true→(res=false))∧(((↑(List.length a):Int) != (↑(List.length b):Int))=false→(∃ (Inv11:Int→Prop) (mu12:Int→Nat),Inv11 0∧(∀ (i:Int),Inv11 i→(((decide (i < (↑(List.length a):Int)))=true→((0:Int)≤i)∧i < ↑(List.length a)∧((0:Int)≤i)∧i < ↑(List.length b)∧(((gd a i != gd b i)=true→(res=false))∧((gd a i != gd b i)=false→(Inv11 (w64 (i+1))∧mu12 (w64 (i+1)) < mu12 i))))∧((decide (i < (↑(List.length a):Int)))=false→(res=true)))))))):zaS a b res:=by
 unfold zaS;have kk:=cfOk [] 26;refine fD (x:=bodyOf Tryz.f88) kk Tryz.func88 ?_;refine wkS [1,4] [(1,vL zf a),(4,vL zf b)] (by kernel_rfl) ?_;refine sO kk oN [] [] ?_;refine qD ?_;refine sOE kk oN [] [(31,vB ((↑(List.length (List.map zf a)):Int) != (↑(List.length (List.map zf b)):Int)))] [(31,vB ((↑(List.length a):Int) != (↑(List.length b):Int)))] ?_;refine cH 10 h (fun hb0 h=>?_) (fun hb0 h=>?_)
 ·refine sO kk oN [1,4,31] [(13,vB false)] ?_;refine tD ?_;subst h;exact (endQ []).1
 ·refine kD ?_;show Sem _ _ _ _ _;refine wkD [31] ?_;refine qD ?_;refine sO kk oN [] [(16,vi 0)] ?_;refine bD (id:=0) ?_;obtain ⟨Inv11,mu12,h0Inv11,hInv11⟩:=h;refine loE [] (fun (q:Int)=>(fun (i:Int)=>([(16,vi i)]:Sta)) q) (fun (q:Int)=>Inv11 q) (fun (q:Int)=>mu12 q) 0 [] h0Inv11 ?_;rintro i hi;have h:=hInv11 i hi;refine qD ?_;refine sOE kk oN [] [(43,vB (decide (i < (↑(List.length (List.map zf a)):Int))))] [(43,vB (decide (i < (↑(List.length a):Int))))] ?_;refine cH 14 h (fun hb13 h=>?_) (fun hb13 h=>?_)
  ·refine kD ?_;show Sem _ _ _ _ _;refine wkD [43] ?_;refine qD ?_;refine bD (id:=1) ?_;obtain ⟨h14,h⟩:=h;obtain ⟨h15,h⟩:=h;obtain ⟨h16,h⟩:=h;obtain ⟨h17,h⟩:=h;refine sO kk (nd h14 (el (zF zf a i _ rfl h14 h15) (nd h16 (el (zF zf b i _ rfl h16 h17) oN)))) [] [(76,vB (gd a i != gd b i))] ?_;refine cH 25 h (fun hb18 h=>?_) (fun hb18 h=>?_)
   ·refine sO kk oN [1,4,16,76] [(13,vB false)] ?_;refine tD ?_;subst h;exact (endQ []).1
   ·refine kD ?_;show Sem _ _ _ _ _;refine wkD [76] ?_;refine rO kk oN [] [(16,vi (w64 (i+1)))] ?_;exact lD (w64 (i+1)) [] h
  ·refine xD (i:=0) ?_;show Sem _ _ _ _ _;refine wkD [1,4,16,43] ?_;refine sO kk oN [] [(13,vB true)] ?_;refine tD ?_;subst h;exact (endQ []).1
theorem zfl (a:za) (b:za) (res:Bool)
 (h:((((↑(List.length (List.map ze (za.Sets a))):Int) != (↑(List.length (List.map ze (za.Sets b))):Int))=true→(res=false))∧(((↑(List.length (List.map ze (za.Sets a))):Int) != (↑(List.length (List.map ze (za.Sets b))):Int))=false→((((↑(List.length (List.map zg (za.Follow a))):Int) != (↑(List.length (List.map zg (za.Follow b))):Int))=true→(res=false))∧(((↑(List.length (List.map zg (za.Follow a))):Int) != (↑(List.length (List.map zg (za.Follow b))):Int))=false→(((!za.Null a == za.Null b)=true→(res=false))∧((!za.Null a == za.Null b)=false→(∃ r0:Bool,zaS (za.First a) (za.First b) r0∧(((!r0)=true→(res=false))∧((!r0)=false→(∃ r0_1:Bool,zaS (za.Last a) (za.Last b) r0_1∧(((!r0_1)=true→(res=false))∧((!r0_1)=false→(∃ (Inv17:Int→Prop) (mu18:Int→Nat),Inv17 0∧(∀ (i:Int),Inv17 i→(((decide (i < (↑(List.length (za.Sets a)):Int)))=true→((0:Int)≤i)∧i < ↑(List.length (za.Sets a))∧((0:Int)≤i)∧i < ↑(List.length (za.Sets b))∧(((!(zc.e0 (gd (za.Sets a) i) == zc.e0 (gd (za.Sets b) i) && (zc.e1 (gd (za.Sets a) i) == zc.e1 (gd (za.Sets b) i) && (zc.e2 (gd (za.Sets a) i) == zc.e2 (gd (za.Sets b) i) && (zc.e3 (gd (za.Sets a) i) == zc.e3 (gd (za.Sets b) i) && true)))))=true→(res=false))∧((!(zc.e0 (gd (za.Sets a) i) == zc.e0 (gd (za.Sets b) i) && (zc.e1 (gd (za.Sets a) i) == zc.e1 (gd (za.Sets b) i) && (zc.e2 (gd (za.Sets a) i) == zc.e2 (gd (za.Sets b) i) && (zc.e3 (gd (za.Sets a) i) == zc.e3 (gd (za.Sets b) i) && true)))))=false→(Inv17 (w64 (i+1))∧mu18 (w64 (i+1)) < mu18 i))))∧((decide (i < (↑(List.length (za.Sets a)):Int)))=false→(∃ (Inv37:Int→Prop) (mu38:Int→Nat),Inv37 0∧(∀ (i_1:Int),Inv37 i_1→(((decide (i_1 < (↑(List.length (za.Follow a)):Int)))=true→((0:Int)≤i_1)∧i_1 < ↑(List.length (za.Follow a))∧((0:Int)≤i_1)∧i_1 < ↑(List.length (za.Follow b))∧(∃ r0_4:Bool,zaS (gd (za.Follow a) i_1) (gd (za.Follow b) i_1) r0_4∧(((!r0_4)=true→(res=false))∧((!r0_4)=false→(Inv37 (w64 (i_1+1))∧mu38 (w64 (i_1+1)) < mu38 i_1)))))∧((decide (i_1 < (↑(List.length (za.Follow a)):Int)))=false→(res=true)))))))))))))))))))))):zab a b res:=by
 unfold zab;have kk:=cfOk [] 83;refine fD (x:=bodyOf Tryz.f48) kk Tryz.func48 ?_;refine wkS [1,4] [(1,zq a),(4,zq b)] (by kernel_rfl) ?_;refine sO kk oN [1,4] [(7,.ptr 14 0),(10,.ptr 20 0),(14,zq a),(20,zq b)] ?_;refine qD ?_;rcases eft ((↑(List.length (List.map ze (za.Sets a))):Int) != (↑(List.length (List.map ze (za.Sets b))):Int)) with hb0 | hb0
 ·have h:=h.1 hb0;refine sO kk (g1 hb0 2222222388888788888878888887 oN) [] [(136,vB true)] ?_;refine cD (t:=45) (b:=true) (fun hb49=>?_) (fun hb49=>?_)
  ·refine sO kk oN [7,10,14,20,136] [(13,vB false)] ?_;refine tD ?_;subst h;exact (endQ []).1
  ·cases hb49
 ·have h:=h.2 hb0;rcases eft ((↑(List.length (List.map zg (za.Follow a))):Int) != (↑(List.length (List.map zg (za.Follow b))):Int)) with hb1 | hb1
  ·have h:=h.1 hb1;refine sO kk (g2 hb1 hb0 5555555622222388888878888887 oN) [] [(136,vB true)] ?_;refine cD (t:=45) (b:=true) (fun hb48=>?_) (fun hb48=>?_)
   ·refine sO kk oN [7,10,14,20,136] [(13,vB false)] ?_;refine tD ?_;subst h;exact (endQ []).1
   ·cases hb48
  ·have h:=h.2 hb1;rcases eft (!za.Null a == za.Null b) with hb2 | hb2
   ·have h:=h.1 hb2;refine sO kk (g1 hb0 22222223 (g2 hb2 hb1 55555622222238888887 oN)) [] [(136,vB true)] ?_;refine cD (t:=45) (b:=true) (fun hb47=>?_) (fun hb47=>?_)
    ·refine sO kk oN [7,10,14,20,136] [(13,vB false)] ?_;refine tD ?_;subst h;exact (endQ []).1
    ·cases hb47
   ·have h:=h.2 hb2;obtain ⟨r0,hc3,h⟩:=h;rcases eft (!r0) with hb4 | hb4
    ·have h:=h.1 hb4;refine sO kk (g1 hb0 22222223 (g2 hb2 hb1 55555622222 (ca hc3 (g2 hb4 hb2 562222223 oN)))) [] [(136,vB true)] ?_;refine cD (t:=45) (b:=true) (fun hb46=>?_) (fun hb46=>?_)
     ·refine sO kk oN [7,10,14,20,136] [(13,vB false)] ?_;refine tD ?_;subst h;exact (endQ []).1
     ·cases hb46
    ·have h:=h.2 hb4;obtain ⟨r0_1,hc5,h⟩:=h;refine sO kk (g1 hb0 22222223 (g2 hb2 hb1 55555622222 (ca hc3 (g2 hb4 hb2 5622222 (ca hc5 (g1 hb4 23 oN)))))) [] [(136,vB (!r0_1))] ?_;refine cH 45 h (fun hb6 h=>?_) (fun hb6 h=>?_)
     ·refine sO kk oN [7,10,14,20,136] [(13,vB false)] ?_;refine tD ?_;subst h;exact (endQ []).1
     ·refine kD ?_;show Sem _ _ _ _ _;refine wkD [136] ?_;refine qD ?_;refine sO kk oN [] [(16,vi 0)] ?_;refine bD (id:=0) ?_;obtain ⟨Inv17,mu18,h0Inv17,hInv17⟩:=h;refine loE [] (fun (q:Int)=>(fun (i:Int)=>([(16,vi i)]:Sta)) q) (fun (q:Int)=>Inv17 q) (fun (q:Int)=>mu18 q) 0 [] h0Inv17 ?_;rintro i hi;have h:=hInv17 i hi;refine qD ?_;refine sOE kk oN [] [(151,vB (decide (i < (↑(List.length (List.map ze (za.Sets a))):Int))))] [(151,vB (decide (i < (↑(List.length (za.Sets a)):Int))))] ?_;refine cH 50 h (fun hb19 h=>?_) (fun hb19 h=>?_)
      ·refine kD ?_;show Sem _ _ _ _ _;refine wkD [151] ?_;refine qD ?_;refine bD (id:=1) ?_;obtain ⟨h20,h⟩:=h;obtain ⟨h21,h⟩:=h;obtain ⟨h22,h⟩:=h;obtain ⟨h23,h⟩:=h;refine sO kk (nd h20 (el (zF ze (za.Sets a) i _ (zak _) h20 h21) (nd h22 (el (zF ze (za.Sets b) i _ (zak _) h22 h23) oN)))) [] [(190,vB (!(zc.e0 (gd (za.Sets a) i) == zc.e0 (gd (za.Sets b) i) && (zc.e1 (gd (za.Sets a) i) == zc.e1 (gd (za.Sets b) i) && (zc.e2 (gd (za.Sets a) i) == zc.e2 (gd (za.Sets b) i) && (zc.e3 (gd (za.Sets a) i) == zc.e3 (gd (za.Sets b) i) && true))))))] ?_;refine cH 63 h (fun hb24 h=>?_) (fun hb24 h=>?_)
       ·refine sO kk oN [7,10,14,16,20,190] [(13,vB false)] ?_;refine tD ?_;subst h;exact (endQ []).1
       ·refine kD ?_;show Sem _ _ _ _ _;refine wkD [190] ?_;refine rO kk oN [] [(16,vi (w64 (i+1)))] ?_;exact lD (w64 (i+1)) [] h
      ·refine xD (i:=0) ?_;show Sem _ _ _ _ _;refine wkD [16,151] ?_;refine qD ?_;refine sO kk oN [] [(19,vi 0)] ?_;refine bD (id:=2) ?_;obtain ⟨Inv37,mu38,h0Inv37,hInv37⟩:=h;refine loE [] (fun (q:Int)=>(fun (i_1:Int)=>([(19,vi i_1)]:Sta)) q) (fun (q:Int)=>Inv37 q) (fun (q:Int)=>mu38 q) 0 [] h0Inv37 ?_;rintro i_1 hi;have h:=hInv37 i_1 hi;refine qD ?_;refine sOE kk oN [] [(205,vB (decide (i_1 < (↑(List.length (List.map zg (za.Follow a))):Int))))] [(205,vB (decide (i_1 < (↑(List.length (za.Follow a)):Int))))] ?_;refine cH 68 h (fun hb39 h=>?_) (fun hb39 h=>?_)
       ·refine kD ?_;show Sem _ _ _ _ _;refine wkD [205] ?_;refine qD ?_;refine bD (id:=3) ?_;obtain ⟨h40,h⟩:=h;obtain ⟨h41,h⟩:=h;obtain ⟨h42,h⟩:=h;obtain ⟨h43,h⟩:=h;obtain ⟨r0_4,hc44,h⟩:=h;refine sO kk (nd h40 (el (zF zg (za.Follow a) i_1 _ rfl h40 h41) (nd h42 (el (zF zg (za.Follow b) i_1 _ rfl h42 h43) (ca hc44 oN))))) [] [(247,vB (!r0_4))] ?_;refine cH 82 h (fun hb45 h=>?_) (fun hb45 h=>?_)
        ·refine sO kk oN [7,10,14,19,20,247] [(13,vB false)] ?_;refine tD ?_;subst h;exact (endQ []).1
        ·refine kD ?_;show Sem _ _ _ _ _;refine wkD [247] ?_;refine rO kk oN [] [(19,vi (w64 (i_1+1)))] ?_;exact lD (w64 (i_1+1)) [] h
       ·refine xD (i:=2) ?_;show Sem _ _ _ _ _;refine wkD [7,10,14,19,20,205] ?_;refine sO kk oN [] [(13,vB true)] ?_;refine tD ?_;subst h;exact (endQ []).1
theorem zfi (a:zh) (b:zh) (res:Bool)
 (h:(List.length (zh.Follow a) * (24:Nat)≤(2:Nat) ^ (47:Nat))∧((List.length (zh.Follow a)+List.length (zh.Starts a)) * (24:Nat)≤(2:Nat) ^ (47:Nat))∧(List.length (zh.Follow b) * (24:Nat)≤(2:Nat) ^ (47:Nat))∧((List.length (zh.Follow b)+List.length (zh.Starts b)) * (24:Nat)≤(2:Nat) ^ (47:Nat))∧(∃ r0:Bool,zab ({ Sets:=zh.Sets a,First:=zh.Owner a,Last:=[],Follow:=zh.Follow a++zh.Starts a,Null:=false }) ({ Sets:=zh.Sets b,First:=zh.Owner b,Last:=[],Follow:=zh.Follow b++zh.Starts b,Null:=false }) r0∧(((!r0 || ((↑(List.length (List.map zg (zh.Follow a))):Int) != (↑(List.length (List.map zg (zh.Follow b))):Int) || (↑(List.length (zh.Ends a)):Int) != (↑(List.length (zh.Ends b)):Int)))=true→(res=false))∧((!r0 || ((↑(List.length (List.map zg (zh.Follow a))):Int) != (↑(List.length (List.map zg (zh.Follow b))):Int) || (↑(List.length (zh.Ends a)):Int) != (↑(List.length (zh.Ends b)):Int)))=false→(∃ (Inv18:Int→Prop) (mu19:Int→Nat),Inv18 0∧(∀ (i:Int),Inv18 i→(((decide (i < (↑(List.length (zh.Ends a)):Int)))=true→((0:Int)≤i)∧i < ↑(List.length (zh.Ends a))∧((0:Int)≤i)∧i < ↑(List.length (zh.Ends b))∧(((!gd (zh.Ends a) i == gd (zh.Ends b) i)=true→(res=false))∧((!gd (zh.Ends a) i == gd (zh.Ends b) i)=false→(Inv18 (w64 (i+1))∧mu19 (w64 (i+1)) < mu19 i))))∧((decide (i < (↑(List.length (zh.Ends a)):Int)))=false→(res=true))))))))):zaR a b res:=by
 unfold zaR;have kk:=cfOk [] 70;refine fD (x:=bodyOf Tryz.f17) kk Tryz.func17 ?_;refine wkS [1,4] [(1,zaC a),(4,zaC b)] (by kernel_rfl) ?_;refine sO kk oN [1,4] [(7,.ptr 14 0),(10,.ptr 20 0),(14,zaC a),(20,zaC b)] ?_;obtain ⟨h0,h⟩:=h;obtain ⟨h1,h⟩:=h;refine sOE kk (nd (show ((0:Nat)+List.length (List.map zg (zh.Follow a))) * (24:Nat)≤(2:Nat) ^ (47:Nat) from by simpa only [nm] using h0) (nd (show List.all (List.map zg (zh.Follow a)) (FV.fits (1:Nat))=true from by first | exact ze5 _ | exact keysencs_i64 _ | rfl | simp [isByteF,FV.fits,FV.size,FV.cells,FV.one,zg]) (nd (show (List.length (List.map zg (zh.Follow a))+List.length (List.map zg (zh.Starts a))) * (24:Nat)≤(2:Nat) ^ (47:Nat) from by simpa only [nm] using h1) (nd (show List.all (List.map zg (zh.Starts a)) (FV.fits (1:Nat))=true from by first | exact ze5 _ | exact keysencs_i64 _ | rfl | simp [isByteF,FV.fits,FV.size,FV.cells,FV.one,zg]) oN)))) [] [(16,.ptr 32 0),(32,.agg [vL ze (zh.Sets a),vL zf (zh.Owner a),.own 3 ([]),.f (FV.sl (List.take (List.length (List.map zg (zh.Follow a)++List.map zg (zh.Starts a))) (List.drop (0:Nat) (List.map zg (zh.Follow a)++List.map zg (zh.Starts a))))),vB false])] [(16,.ptr 32 0),(32,.agg [vL ze (zh.Sets a),vL zf (zh.Owner a),oL 3 zf ([]),vL zg (zh.Follow a++zh.Starts a),vB false])] ?_;obtain ⟨h2,h⟩:=h;obtain ⟨h3,h⟩:=h;refine sOE kk (nd (show ((0:Nat)+List.length (List.map zg (zh.Follow b))) * (24:Nat)≤(2:Nat) ^ (47:Nat) from by simpa only [nm] using h2) (nd (show List.all (List.map zg (zh.Follow b)) (FV.fits (1:Nat))=true from by first | exact ze5 _ | exact keysencs_i64 _ | rfl | simp [isByteF,FV.fits,FV.size,FV.cells,FV.one,zg]) (nd (show (List.length (List.map zg (zh.Follow b))+List.length (List.map zg (zh.Starts b))) * (24:Nat)≤(2:Nat) ^ (47:Nat) from by simpa only [nm] using h3) (nd (show List.all (List.map zg (zh.Starts b)) (FV.fits (1:Nat))=true from by first | exact ze5 _ | exact keysencs_i64 _ | rfl | simp [isByteF,FV.fits,FV.size,FV.cells,FV.one,zg]) oN)))) [] [(19,.ptr 38 0),(38,.agg [vL ze (zh.Sets b),vL zf (zh.Owner b),.own 3 ([]),.f (FV.sl (List.take (List.length (List.map zg (zh.Follow b)++List.map zg (zh.Starts b))) (List.drop (0:Nat) (List.map zg (zh.Follow b)++List.map zg (zh.Starts b))))),vB false])] [(19,.ptr 38 0),(38,.agg [vL ze (zh.Sets b),vL zf (zh.Owner b),oL 3 zf ([]),vL zg (zh.Follow b++zh.Starts b),vB false])] ?_;refine qD ?_;obtain ⟨r0,hc4,h⟩:=h;refine sM [16,19,32,38] [(154,vB (!r0 || ((↑(List.length (List.map zg (zh.Follow a))):Int) != (↑(List.length (List.map zg (zh.Follow b))):Int) || (↑(List.length (zh.Ends a)):Int) != (↑(List.length (zh.Ends b)):Int))))] ?_ (fun hk0=>?_)
 ·refine cH 51 h (fun hb7 h=>?_) (fun hb7 h=>?_)
  ·refine sO kk oN [7,10,14,20,154] [(13,vB false)] ?_;refine tD ?_;subst h;exact (endQ []).1
  ·refine kD ?_;show Sem _ _ _ _ _;refine wkD [154] ?_;refine qD ?_;refine sO kk oN [] [(22,vi 0)] ?_;refine bD (id:=0) ?_;obtain ⟨Inv18,mu19,h0Inv18,hInv18⟩:=h;refine loE [] (fun (q:Int)=>(fun (i:Int)=>([(22,vi i)]:Sta)) q) (fun (q:Int)=>Inv18 q) (fun (q:Int)=>mu19 q) 0 [] h0Inv18 ?_;rintro i hi;have h:=hInv18 i hi;refine qD ?_;refine sOE kk oN [] [(169,vB (decide (i < (↑(List.length (List.map zr (zh.Ends a))):Int))))] [(169,vB (decide (i < (↑(List.length (zh.Ends a)):Int))))] ?_;refine cH 56 h (fun hb20 h=>?_) (fun hb20 h=>?_)
   ·refine kD ?_;show Sem _ _ _ _ _;refine wkD [169] ?_;refine qD ?_;refine bD (id:=1) ?_;obtain ⟨h21,h⟩:=h;obtain ⟨h22,h⟩:=h;obtain ⟨h23,h⟩:=h;obtain ⟨h24,h⟩:=h;refine sO kk (nd h21 (el (zF zr (zh.Ends a) i _ rfl h21 h22) (nd h23 (el (zF zr (zh.Ends b) i _ rfl h23 h24) oN)))) [] [(208,vB (!gd (zh.Ends a) i == gd (zh.Ends b) i))] ?_;refine cH 69 h (fun hb25 h=>?_) (fun hb25 h=>?_)
    ·refine sO kk oN [7,10,14,20,22,208] [(13,vB false)] ?_;refine tD ?_;subst h;exact (endQ []).1
    ·refine kD ?_;show Sem _ _ _ _ _;refine wkD [208] ?_;refine rO kk oN [] [(22,vi (w64 (i+1)))] ?_;exact lD (w64 (i+1)) [] h
   ·refine xD (i:=0) ?_;show Sem _ _ _ _ _;refine wkD [7,10,14,20,22,169] ?_;refine sO kk oN [] [(13,vB true)] ?_;refine tD ?_;subst h;exact (endQ []).1
 ·rcases eft (!r0) with hb5 | hb5
  ·refine sO kk (ca (Eq.mp (by unfold zab;(try simp only [List.drop_zero,List.take_length]);first | done | simp only [nm,enq]:zab ({ Sets:=zh.Sets a,First:=zh.Owner a,Last:=[],Follow:=zh.Follow a++zh.Starts a,Null:=false }) ({ Sets:=zh.Sets b,First:=zh.Owner b,Last:=[],Follow:=zh.Follow b++zh.Starts b,Null:=false }) r0=CallE Tryz.prog 48 [.agg [vL ze (zh.Sets a),vL zf (zh.Owner a),.f (FV.sl (List.take (0:Nat) (List.drop (0:Nat) (List.map zf [])))),vL zg (zh.Follow a++zh.Starts a),vB false],.agg [vL ze (zh.Sets b),vL zf (zh.Owner b),.f (FV.sl (List.take (0:Nat) (List.drop (0:Nat) (List.map zf [])))),vL zg (zh.Follow b++zh.Starts b),vB false]] [] (vB r0) []) hc4) (g1 hb5 2222222388888887 oN)) [16,19,32,38] [(154,vB true)] ?_;exact Sem.cast (by try rw [hb5];kernel_rfl) hk0
  ·rcases eft ((↑(List.length (List.map zg (zh.Follow a))):Int) != (↑(List.length (List.map zg (zh.Follow b))):Int)) with hb6 | hb6
   ·refine sO kk (ca (Eq.mp (by unfold zab;(try simp only [List.drop_zero,List.take_length]);first | done | simp only [nm,enq]:zab ({ Sets:=zh.Sets a,First:=zh.Owner a,Last:=[],Follow:=zh.Follow a++zh.Starts a,Null:=false }) ({ Sets:=zh.Sets b,First:=zh.Owner b,Last:=[],Follow:=zh.Follow b++zh.Starts b,Null:=false }) r0=CallE Tryz.prog 48 [.agg [vL ze (zh.Sets a),vL zf (zh.Owner a),.f (FV.sl (List.take (0:Nat) (List.drop (0:Nat) (List.map zf [])))),vL zg (zh.Follow a++zh.Starts a),vB false],.agg [vL ze (zh.Sets b),vL zf (zh.Owner b),.f (FV.sl (List.take (0:Nat) (List.drop (0:Nat) (List.map zf [])))),vL zg (zh.Follow b++zh.Starts b),vB false]] [] (vB r0) []) hc4) (g2 hb6 hb5 5555555622222223 oN)) [16,19,32,38] [(154,vB true)] ?_;exact Sem.cast (by try rw [hb5];try rw [hb6];kernel_rfl) hk0
   ·refine sOE kk (ca (Eq.mp (by unfold zab;(try simp only [List.drop_zero,List.take_length]);first | done | simp only [nm,enq]:zab ({ Sets:=zh.Sets a,First:=zh.Owner a,Last:=[],Follow:=zh.Follow a++zh.Starts a,Null:=false }) ({ Sets:=zh.Sets b,First:=zh.Owner b,Last:=[],Follow:=zh.Follow b++zh.Starts b,Null:=false }) r0=CallE Tryz.prog 48 [.agg [vL ze (zh.Sets a),vL zf (zh.Owner a),.f (FV.sl (List.take (0:Nat) (List.drop (0:Nat) (List.map zf [])))),vL zg (zh.Follow a++zh.Starts a),vB false],.agg [vL ze (zh.Sets b),vL zf (zh.Owner b),.f (FV.sl (List.take (0:Nat) (List.drop (0:Nat) (List.map zf [])))),vL zg (zh.Follow b++zh.Starts b),vB false]] [] (vB r0) []) hc4) (g2 hb6 hb5 5555555622222223 oN)) [16,19,32,38] [(154,vB ((↑(List.length (List.map zr (zh.Ends a))):Int) != (↑(List.length (List.map zr (zh.Ends b))):Int)))] [(154,vB ((↑(List.length (zh.Ends a)):Int) != (↑(List.length (zh.Ends b)):Int)))] ?_;exact Sem.cast (by try rw [hb5];try rw [hb6];kernel_rfl) hk0
end Go.Ev
namespace Go.Ev
open Go Go.Proofs
set_option maxRecDepth 8000
set_option maxHeartbeats 1000000
theorem zfQ (s0:zc) (b:Int) (res:zc)
 (h:((w64 (Int.tdiv b (64:Int))=0∨w64 (Int.tdiv b (64:Int))=1∨w64 (Int.tdiv b (64:Int))=2∨w64 (Int.tdiv b (64:Int))=3)∧((decide (w64 (Int.tdiv b (64:Int))=(0:Int)))=true→((decide (w64 (Int.tdiv b (64:Int))=(0:Int)))=true→((0:Int)≤Int.tmod b (64:Int)))∧(res=({ e0:=IntKind.wrap IntKind.u64 (↑(BitVec.toNat (BitVec.ofInt (IntKind.bits IntKind.u64) (zc.e0 s0) ||| BitVec.ofInt (IntKind.bits IntKind.u64) (IntKind.wrap IntKind.u64 ((1:Int) * (2:Int) ^ Min.min (Int.toNat (Int.tmod b (64:Int))) (IntKind.bits IntKind.u64))))):Int),e1:=zc.e1 s0,e2:=zc.e2 s0,e3:=zc.e3 s0 })))∧((decide (w64 (Int.tdiv b (64:Int))=(1:Int)))=true→((decide (w64 (Int.tdiv b (64:Int))=(1:Int)))=true→((0:Int)≤Int.tmod b (64:Int)))∧(res=({ e0:=zc.e0 s0,e1:=IntKind.wrap IntKind.u64 (↑(BitVec.toNat (BitVec.ofInt (IntKind.bits IntKind.u64) (zc.e1 s0) ||| BitVec.ofInt (IntKind.bits IntKind.u64) (IntKind.wrap IntKind.u64 ((1:Int) * (2:Int) ^ Min.min (Int.toNat (Int.tmod b (64:Int))) (IntKind.bits IntKind.u64))))):Int),e2:=zc.e2 s0,e3:=zc.e3 s0 })))∧((decide (w64 (Int.tdiv b (64:Int))=(2:Int)))=true→((decide (w64 (Int.tdiv b (64:Int))=(2:Int)))=true→((0:Int)≤Int.tmod b (64:Int)))∧(res=({ e0:=zc.e0 s0,e1:=zc.e1 s0,e2:=IntKind.wrap IntKind.u64 (↑(BitVec.toNat (BitVec.ofInt (IntKind.bits IntKind.u64) (zc.e2 s0) ||| BitVec.ofInt (IntKind.bits IntKind.u64) (IntKind.wrap IntKind.u64 ((1:Int) * (2:Int) ^ Min.min (Int.toNat (Int.tmod b (64:Int))) (IntKind.bits IntKind.u64))))):Int),e3:=zc.e3 s0 })))∧((decide (w64 (Int.tdiv b (64:Int))=(3:Int)))=true→((decide (w64 (Int.tdiv b (64:Int))=(3:Int)))=true→((0:Int)≤Int.tmod b (64:Int)))∧(res=({ e0:=zc.e0 s0,e1:=zc.e1 s0,e2:=zc.e2 s0,e3:=IntKind.wrap IntKind.u64 (↑(BitVec.toNat (BitVec.ofInt (IntKind.bits IntKind.u64) (zc.e3 s0) ||| BitVec.ofInt (IntKind.bits IntKind.u64) (IntKind.wrap IntKind.u64 ((1:Int) * (2:Int) ^ Min.min (Int.toNat (Int.tmod b (64:Int))) (IntKind.bits IntKind.u64))))):Int) }))))):zcd s0 b res:=by
 unfold zcd;have kk:=cfOk [16] 17;refine fD (x:=bodyOf Tryz.f95) kk Tryz.func95 ?_;refine wkS [1,4] [(1,zZ s0),(4,vi b)] (by kernel_rfl) ?_;refine sO kk oN [1] [(7,.ptr 14 0),(13,.ptr 26 0),(14,zZ s0),(26,.agg [vI .u64 0,vI .u64 0,vI .u64 0,vI .u64 0])] ?_;obtain ⟨hor,h⟩:=h;rcases hor with hb0 | hb0 | hb0 | hb0
 ·have hb0:=decide_eq_true hb0;have h:=h.1 hb0;obtain ⟨h1,h⟩:=h;refine sO kk (nd (show (64:Int)≠(0:Int) from by first | decide | rfl | trivial) (nd (show (64:Int)≠(0:Int) from by first | decide | rfl | trivial) (op (.n 0) (of_decide_eq_true hb0) (nd (show (64:Int)≠(0:Int) from by first | decide | rfl | trivial) (nd (h1 hb0) (op (.n 0) (of_decide_eq_true hb0) oN)))))) [4] [(14,.agg [vI .u64 (IntKind.wrap IntKind.u64 (↑(BitVec.toNat (BitVec.ofInt (IntKind.bits IntKind.u64) (zc.e0 s0) ||| BitVec.ofInt (IntKind.bits IntKind.u64) (IntKind.wrap IntKind.u64 ((1:Int) * (2:Int) ^ Min.min (Int.toNat (Int.tmod b (64:Int))) (IntKind.bits IntKind.u64))))):Int)),vI .u64 (zc.e1 s0),vI .u64 (zc.e2 s0),vI .u64 (zc.e3 s0)])] ?_;refine sO kk oN [7,14] [(26,.agg [vI .u64 (IntKind.wrap IntKind.u64 (↑(BitVec.toNat (BitVec.ofInt (IntKind.bits IntKind.u64) (zc.e0 s0) ||| BitVec.ofInt (IntKind.bits IntKind.u64) (IntKind.wrap IntKind.u64 ((1:Int) * (2:Int) ^ Min.min (Int.toNat (Int.tmod b (64:Int))) (IntKind.bits IntKind.u64))))):Int)),vI .u64 (zc.e1 s0),vI .u64 (zc.e2 s0),vI .u64 (zc.e3 s0)])] ?_;refine tD ?_;subst h;exact (endQ []).1
 ·have hb0:=decide_eq_true hb0;have h:=h.2.1 hb0;obtain ⟨h2,h⟩:=h;refine sO kk (nd (show (64:Int)≠(0:Int) from by first | decide | rfl | trivial) (nd (show (64:Int)≠(0:Int) from by first | decide | rfl | trivial) (op (.n 1) (of_decide_eq_true hb0) (nd (show (64:Int)≠(0:Int) from by first | decide | rfl | trivial) (nd (h2 hb0) (op (.n 1) (of_decide_eq_true hb0) oN)))))) [4] [(14,.agg [vI .u64 (zc.e0 s0),vI .u64 (IntKind.wrap IntKind.u64 (↑(BitVec.toNat (BitVec.ofInt (IntKind.bits IntKind.u64) (zc.e1 s0) ||| BitVec.ofInt (IntKind.bits IntKind.u64) (IntKind.wrap IntKind.u64 ((1:Int) * (2:Int) ^ Min.min (Int.toNat (Int.tmod b (64:Int))) (IntKind.bits IntKind.u64))))):Int)),vI .u64 (zc.e2 s0),vI .u64 (zc.e3 s0)])] ?_;refine sO kk oN [7,14] [(26,.agg [vI .u64 (zc.e0 s0),vI .u64 (IntKind.wrap IntKind.u64 (↑(BitVec.toNat (BitVec.ofInt (IntKind.bits IntKind.u64) (zc.e1 s0) ||| BitVec.ofInt (IntKind.bits IntKind.u64) (IntKind.wrap IntKind.u64 ((1:Int) * (2:Int) ^ Min.min (Int.toNat (Int.tmod b (64:Int))) (IntKind.bits IntKind.u64))))):Int)),vI .u64 (zc.e2 s0),vI .u64 (zc.e3 s0)])] ?_;refine tD ?_;subst h;exact (endQ []).1
 ·have hb0:=decide_eq_true hb0;have h:=h.2.2.1 hb0;obtain ⟨h3,h⟩:=h;refine sO kk (nd (show (64:Int)≠(0:Int) from by first | decide | rfl | trivial) (nd (show (64:Int)≠(0:Int) from by first | decide | rfl | trivial) (op (.n 2) (of_decide_eq_true hb0) (nd (show (64:Int)≠(0:Int) from by first | decide | rfl | trivial) (nd (h3 hb0) (op (.n 2) (of_decide_eq_true hb0) oN)))))) [4] [(14,.agg [vI .u64 (zc.e0 s0),vI .u64 (zc.e1 s0),vI .u64 (IntKind.wrap IntKind.u64 (↑(BitVec.toNat (BitVec.ofInt (IntKind.bits IntKind.u64) (zc.e2 s0) ||| BitVec.ofInt (IntKind.bits IntKind.u64) (IntKind.wrap IntKind.u64 ((1:Int) * (2:Int) ^ Min.min (Int.toNat (Int.tmod b (64:Int))) (IntKind.bits IntKind.u64))))):Int)),vI .u64 (zc.e3 s0)])] ?_;refine sO kk oN [7,14] [(26,.agg [vI .u64 (zc.e0 s0),vI .u64 (zc.e1 s0),vI .u64 (IntKind.wrap IntKind.u64 (↑(BitVec.toNat (BitVec.ofInt (IntKind.bits IntKind.u64) (zc.e2 s0) ||| BitVec.ofInt (IntKind.bits IntKind.u64) (IntKind.wrap IntKind.u64 ((1:Int) * (2:Int) ^ Min.min (Int.toNat (Int.tmod b (64:Int))) (IntKind.bits IntKind.u64))))):Int)),vI .u64 (zc.e3 s0)])] ?_;refine tD ?_;subst h;exact (endQ []).1
 ·have hb0:=decide_eq_true hb0;have h:=h.2.2.2 hb0;obtain ⟨h4,h⟩:=h;refine sO kk (nd (show (64:Int)≠(0:Int) from by first | decide | rfl | trivial) (nd (show (64:Int)≠(0:Int) from by first | decide | rfl | trivial) (op (.n 3) (of_decide_eq_true hb0) (nd (show (64:Int)≠(0:Int) from by first | decide | rfl | trivial) (nd (h4 hb0) (op (.n 3) (of_decide_eq_true hb0) oN)))))) [4] [(14,.agg [vI .u64 (zc.e0 s0),vI .u64 (zc.e1 s0),vI .u64 (zc.e2 s0),vI .u64 (IntKind.wrap IntKind.u64 (↑(BitVec.toNat (BitVec.ofInt (IntKind.bits IntKind.u64) (zc.e3 s0) ||| BitVec.ofInt (IntKind.bits IntKind.u64) (IntKind.wrap IntKind.u64 ((1:Int) * (2:Int) ^ Min.min (Int.toNat (Int.tmod b (64:Int))) (IntKind.bits IntKind.u64))))):Int))])] ?_;refine sO kk oN [7,14] [(26,.agg [vI .u64 (zc.e0 s0),vI .u64 (zc.e1 s0),vI .u64 (zc.e2 s0),vI .u64 (IntKind.wrap IntKind.u64 (↑(BitVec.toNat (BitVec.ofInt (IntKind.bits IntKind.u64) (zc.e3 s0) ||| BitVec.ofInt (IntKind.bits IntKind.u64) (IntKind.wrap IntKind.u64 ((1:Int) * (2:Int) ^ Min.min (Int.toNat (Int.tmod b (64:Int))) (IntKind.bits IntKind.u64))))):Int))])] ?_;refine tD ?_;subst h;exact (endQ []).1
end Go.Ev
namespace Go.Ev
open Go Go.Proofs
set_option maxRecDepth 8000
set_option maxHeartbeats 1000000
theorem zhI (i:Int) (res:Bool)
 (h:(res=(decide (i < (0:Int)) || decide (i≥(40:Int))))):zcG i res:=by
 unfold zcG;have kk:=cfOk [] 9;refine fD (x:=bodyOf Tryz.f51) kk Tryz.func51 ?_;refine wkS [1] [(1,vi i)] (by kernel_rfl) ?_;refine sO kk oN [] [] ?_;refine sM [1] [(7,vB (decide (i < (0:Int)) || decide (i≥(40:Int))))] ?_ (fun hk0=>?_)
 ·refine tD ?_;subst h;exact (endQ []).1
 ·rcases eft (decide (i < (0:Int))) with hb0 | hb0
  ·refine sO kk (g1 hb0 223 oN) [1] [(7,vB true)] ?_;exact Sem.cast (by try rw [hb0];kernel_rfl) hk0
  ·refine sO kk (g1 hb0 223 oN) [1] [(7,vB (decide (i≥(40:Int))))] ?_;exact Sem.cast (by try rw [hb0];kernel_rfl) hk0
theorem zcb (s0:(List zc)) (v:zc) (res:Int)
 (h:(∃ (Inv7:Int→Prop) (mu8:Int→Nat),Inv7 0∧(∀ (t8:Int),Inv7 t8→(((decide (t8 < (↑(List.length s0):Int)))=true→((0:Int)≤t8)∧t8 < ↑(List.length s0)∧(((zc.e0 v == zc.e0 (gd s0 t8) && (zc.e1 v == zc.e1 (gd s0 t8) && (zc.e2 v == zc.e2 (gd s0 t8) && (zc.e3 v == zc.e3 (gd s0 t8) && true))))=true→(res=t8))∧((zc.e0 v == zc.e0 (gd s0 t8) && (zc.e1 v == zc.e1 (gd s0 t8) && (zc.e2 v == zc.e2 (gd s0 t8) && (zc.e3 v == zc.e3 (gd s0 t8) && true))))=false→(Inv7 (w64 (t8+1))∧mu8 (w64 (t8+1)) < mu8 t8))))∧((decide (t8 < (↑(List.length s0):Int)))=false→(res=(-1))))))):zaJ s0 v res:=by
 unfold zaJ;have kk:=cfOk [17] 19;refine fD (x:=bodyOf Tryz.f91) kk Tryz.func91 ?_;refine wkS [1,4] [(1,vL ze s0),(4,zZ v)] (by kernel_rfl) ?_;refine sO kk oN [4] [(10,.ptr 20 0),(20,zZ v)] ?_;refine qD ?_;refine sOE kk oN [] [(22,vi ((↑(List.length (List.map ze s0)):Int))),(25,vi 0)] [(22,vi ((↑(List.length s0):Int))),(25,vi 0)] ?_;refine bD (id:=0) ?_;obtain ⟨Inv7,mu8,h0Inv7,hInv7⟩:=h;refine loE [] (fun (q:Int)=>(fun (t8:Int)=>([(25,vi t8)]:Sta)) q) (fun (q:Int)=>Inv7 q) (fun (q:Int)=>mu8 q) 0 [] h0Inv7 ?_;rintro t8 hi;have h:=hInv7 t8 hi;refine sO kk oN [] [(28,vB (decide (t8 < (↑(List.length s0):Int))))] ?_;refine qD ?_;refine cH 9 h (fun hb9 h=>?_) (fun hb9 h=>?_)
 ·refine kD ?_;show Sem _ _ _ _ _;refine wkD [28] ?_;refine qD ?_;refine bD (id:=1) ?_;refine sO kk oN [] [(16,vi t8)] ?_;obtain ⟨h10,h⟩:=h;obtain ⟨h11,h⟩:=h;refine sO kk (nd h10 (el (zF ze s0 t8 _ (zak _) h10 h11) oN)) [] [(49,vB (zc.e0 v == zc.e0 (gd s0 t8) && (zc.e1 v == zc.e1 (gd s0 t8) && (zc.e2 v == zc.e2 (gd s0 t8) && (zc.e3 v == zc.e3 (gd s0 t8) && true)))))] ?_;refine cH 16 h (fun hb12 h=>?_) (fun hb12 h=>?_)
  ·refine sO kk oN [1,10,16,20,22,25,49] [(13,vi t8)] ?_;refine tD ?_;subst h;exact (endQ []).1
  ·refine kD ?_;show Sem _ _ _ _ _;refine wkD [16,49] ?_;refine rO kk oN [] [(25,vi (w64 (t8+1)))] ?_;exact lD (w64 (t8+1)) [] h
 ·refine xD (i:=0) ?_;show Sem _ _ _ _ _;refine wkD [1,10,20,22,25,28] ?_;refine sO kk oN [] [(13,vi (-1))] ?_;refine tD ?_;subst h;exact (endQ []).1
theorem zbT (s0:(List zc)) (v:zc) (res:Bool)
 (h:(∃ r0:Int,zaJ s0 v r0∧(res=(decide (r0≥(0:Int)))))):zai s0 v res:=by
 unfold zai;have kk:=cfOk [] 9;refine fD (x:=bodyOf Tryz.f53) kk Tryz.func53 ?_;refine wkS [1,4] [(1,vL ze s0),(4,zZ v)] (by kernel_rfl) ?_;refine sO kk oN [4] [(10,.ptr 20 0),(20,zZ v)] ?_;obtain ⟨r0,hc0,h⟩:=h;refine sO kk (ca hc0 oN) [1,10,20] [(13,vB (decide (r0≥(0:Int))))] ?_;refine tD ?_;subst h;exact (endQ []).1
theorem W_auto_places (l:(List Int)) (many:Int) (res:Bool)
 (h:(∃ (Inv9:Int→Int→Prop) (mu10:Int→Int→Nat),Inv9 (-1) 0∧(∀ (last:Int) (t10:Int),Inv9 last t10→(((decide (t10 < (↑(List.length l):Int)))=true→((0:Int)≤t10)∧t10 < ↑(List.length l)∧(((decide (gd l t10≤last) || decide (gd l t10≥many))=true→(res=false))∧((decide (gd l t10≤last) || decide (gd l t10≥many))=false→(Inv9 (gd l t10) (w64 (t10+1))∧mu10 (gd l t10) (w64 (t10+1)) < mu10 last t10))))∧((decide (t10 < (↑(List.length l):Int)))=false→(res=true)))))):zcu l many res:=by
 unfold zcu;have kk:=cfOk [] 24;refine fD (x:=bodyOf Tryz.f55) kk Tryz.func55 ?_;refine wkS [1,4] [(1,vL zf l),(4,vi many)] (by kernel_rfl) ?_;refine sO kk oN [] [] ?_;refine sO kk oN [] [(16,vi (-1))] ?_;refine qD ?_;refine sOE kk oN [1] [(25,vL zf l),(28,vi ((↑(List.length (List.map zf l)):Int))),(31,vi 0)] [(25,vL zf l),(28,vi ((↑(List.length l):Int))),(31,vi 0)] ?_;refine bD (id:=0) ?_;obtain ⟨Inv9,mu10,h0Inv9,hInv9⟩:=h;refine loE [] (fun (q:Int×Int)=>(fun (last:Int) (t10:Int)=>([(16,vi last),(31,vi t10)]:Sta)) q.1 q.2) (fun (q:Int×Int)=>Inv9 q.1 q.2) (fun (q:Int×Int)=>mu10 q.1 q.2) ((-1),0) [] h0Inv9 ?_;rintro ⟨last,t10⟩ hi;have h:=hInv9 last t10 hi;refine sO kk oN [] [(34,vB (decide (t10 < (↑(List.length l):Int))))] ?_;refine qD ?_;refine cH 11 h (fun hb11 h=>?_) (fun hb11 h=>?_)
 ·refine kD ?_;show Sem _ _ _ _ _;refine wkD [34] ?_;refine qD ?_;refine bD (id:=1) ?_;obtain ⟨h12,h⟩:=h;obtain ⟨h13,h⟩:=h;refine sO kk (nd h12 (el (zF zf l t10 _ rfl h12 h13) oN)) [] [(22,vi (gd l t10))] ?_;refine qD ?_;refine sM [16] [(64,vB (decide (gd l t10≤last) || decide (gd l t10≥many)))] ?_ (fun hk0=>?_)
  ·refine cH 21 h (fun hb15 h=>?_) (fun hb15 h=>?_)
   ·refine sO kk oN [4,22,25,28,31,64] [(13,vB false)] ?_;refine tD ?_;subst h;exact (endQ []).1
   ·refine kD ?_;show Sem _ _ _ _ _;refine wkD [64] ?_;refine rO kk oN [22] [(16,vi (gd l t10))] ?_;show Sem _ _ _ _ _;refine rO kk oN [] [(31,vi (w64 (t10+1)))] ?_;exact lD ((gd l t10),(w64 (t10+1))) [] h
  ·rcases eft (decide (gd l t10≤last)) with hb14 | hb14
   ·refine sO kk (g1 hb14 2223 oN) [16] [(64,vB true)] ?_;exact Sem.cast (by try rw [hb14];kernel_rfl) hk0
   ·refine sO kk (g1 hb14 2223 oN) [16] [(64,vB (decide (gd l t10≥many)))] ?_;exact Sem.cast (by try rw [hb14];kernel_rfl) hk0
 ·refine xD (i:=0) ?_;show Sem _ _ _ _ _;refine wkD [4,16,25,28,31,34] ?_;refine sO kk oN [] [(13,vB true)] ?_;refine tD ?_;subst h;exact (endQ []).1
theorem zbg (s0:(List Int)) (res:Int)
 (h:(∃ (Inv9:Int→Prop) (mu10:Int→Nat),Inv9 0∧(∀ (t8:Int),Inv9 t8→(((decide (t8 < (↑(List.length s0):Int)))=true→((0:Int)≤t8)∧t8 < ↑(List.length s0)∧(∃ r0_2:Bool,zcG (gd s0 t8) r0_2∧(((r0_2)=true→(res=t8))∧((r0_2)=false→(Inv9 (w64 (t8+1))∧mu10 (w64 (t8+1)) < mu10 t8)))))∧((decide (t8 < (↑(List.length s0):Int)))=false→(res=(-1))))))):zac s0 res:=by
 unfold zac;have kk:=cfOk [17] 19;refine fD (x:=bodyOf Tryz.f90) kk Tryz.func90 ?_;refine wkS [1,4] [(1,vL zf s0),(4,.clo 51 [])] (by kernel_rfl) ?_;refine sO kk oN [] [] ?_;refine qD ?_;refine sOE kk oN [] [(22,vi ((↑(List.length (List.map zf s0)):Int))),(25,vi 0)] [(22,vi ((↑(List.length s0):Int))),(25,vi 0)] ?_;refine bD (id:=0) ?_;obtain ⟨Inv9,mu10,h0Inv9,hInv9⟩:=h;refine loE [] (fun (q:Int)=>(fun (t8:Int)=>([(25,vi t8)]:Sta)) q) (fun (q:Int)=>Inv9 q) (fun (q:Int)=>mu10 q) 0 [] h0Inv9 ?_;rintro t8 hi;have h:=hInv9 t8 hi;refine sO kk oN [] [(28,vB (decide (t8 < (↑(List.length s0):Int))))] ?_;refine qD ?_;refine cH 9 h (fun hb11 h=>?_) (fun hb11 h=>?_)
 ·refine kD ?_;show Sem _ _ _ _ _;refine wkD [28] ?_;refine qD ?_;refine bD (id:=1) ?_;refine sO kk oN [] [(16,vi t8)] ?_;obtain ⟨h12,h⟩:=h;obtain ⟨h13,h⟩:=h;obtain ⟨r0_2,hc14,h⟩:=h;refine sO kk (nd h12 (el (zF zf s0 t8 _ rfl h12 h13) (ca hc14 oN))) [] [(49,vB r0_2)] ?_;refine cH 16 h (fun hb15 h=>?_) (fun hb15 h=>?_)
  ·refine sO kk oN [1,4,16,22,25,49] [(13,vi t8)] ?_;refine tD ?_;subst h;exact (endQ []).1
  ·refine kD ?_;show Sem _ _ _ _ _;refine wkD [16,49] ?_;refine rO kk oN [] [(25,vi (w64 (t8+1)))] ?_;exact lD (w64 (t8+1)) [] h
 ·refine xD (i:=0) ?_;show Sem _ _ _ _ _;refine wkD [1,4,22,25,28] ?_;refine sO kk oN [] [(13,vi (-1))] ?_;refine tD ?_;subst h;exact (endQ []).1
theorem zbd (s0:(List Int)) (res:Bool)
 (h:(∃ r0:Int,zac s0 r0∧(res=(decide (r0≥(0:Int)))))):zS s0 res:=by
 unfold zS;have kk:=cfOk [] 9;refine fD (x:=bodyOf Tryz.f52) kk Tryz.func52 ?_;refine wkS [1,4] [(1,vL zf s0),(4,.clo 51 [])] (by kernel_rfl) ?_;refine sO kk oN [] [] ?_;obtain ⟨r0,hc0,h⟩:=h;refine sO kk (ca hc0 oN) [1,4] [(13,vB (decide (r0≥(0:Int))))] ?_;refine tD ?_;subst h;exact (endQ []).1
theorem W_auto_Right (a:zh) (res:Bool)
 (h:(((decide ((↑(List.length (zh.Sets a)):Int) > (600:Int)) || ((↑(List.length (List.map zf (zh.Owner a))):Int) != (↑(List.length (zh.Sets a)):Int) || ((↑(List.length (List.map zg (zh.Follow a))):Int) != (↑(List.length (zh.Sets a)):Int) || ((↑(List.length (List.map zr (zh.Ends a))):Int) != (↑(List.length (zh.Sets a)):Int) || decide ((↑(List.length (zh.Starts a)):Int) > (16:Int))))))=true→(res=false))∧((decide ((↑(List.length (zh.Sets a)):Int) > (600:Int)) || ((↑(List.length (List.map zf (zh.Owner a))):Int) != (↑(List.length (zh.Sets a)):Int) || ((↑(List.length (List.map zg (zh.Follow a))):Int) != (↑(List.length (zh.Sets a)):Int) || ((↑(List.length (List.map zr (zh.Ends a))):Int) != (↑(List.length (zh.Sets a)):Int) || decide ((↑(List.length (zh.Starts a)):Int) > (16:Int))))))=false→(∃ r0:Bool,zS (zh.Owner a) r0∧(((r0)=true→(res=false))∧((r0)=false→(∃ r0_1:Bool,zai (zh.Sets a) ({ e0:=(0:Int),e1:=(0:Int),e2:=(0:Int),e3:=(0:Int) }) r0_1∧(((r0_1)=true→(res=false))∧((r0_1)=false→(C_auto_lists a∧((List.length (zh.Follow a) < 1099511627776∧List.length (zh.Starts a) < 1099511627776)∧∃ (Inv12:Nat→Prop) (Stp14:Prop),Inv12 0∧(∀ (i:Nat) (y:(List Int)),i < (List.length (zh.Follow a)+List.length (zh.Starts a))→y=List.getD (zh.Follow a++zh.Starts a) i []→Inv12 i→(∃ r0_3:Bool,zcu y ((↑(List.length (zh.Sets a)):Int)) r0_3∧(((!r0_3)=true→Stp14)∧((!r0_3)=false→Inv12 (i+1)))))∧(Inv12 ((List.length (zh.Follow a)+List.length (zh.Starts a)))→(res=true))∧(Stp14→(res=false))))))))))))):zdT a res:=by
 unfold zdT;have kk:=cfOk [] 55;refine fD (x:=bodyOf Tryz.f19) kk Tryz.func19 ?_;refine wkS [1] [(1,zaC a)] (by kernel_rfl) ?_;refine sO kk oN [1] [(4,.ptr 8 0),(7,.ptr 14 0),(8,zaC a),(14,vB false)] ?_;refine sOE kk oN [] [(10,.ptr 20 0),(20,vi ((↑(List.length (List.map ze (zh.Sets a))):Int)))] [(10,.ptr 20 0),(20,vi ((↑(List.length (zh.Sets a)):Int)))] ?_;refine sO kk oN [] [(13,.clo 51 [])] ?_;refine qD ?_;refine sM [] [(112,vB (decide ((↑(List.length (zh.Sets a)):Int) > (600:Int)) || ((↑(List.length (List.map zf (zh.Owner a))):Int) != (↑(List.length (zh.Sets a)):Int) || ((↑(List.length (List.map zg (zh.Follow a))):Int) != (↑(List.length (zh.Sets a)):Int) || ((↑(List.length (List.map zr (zh.Ends a))):Int) != (↑(List.length (zh.Sets a)):Int) || decide ((↑(List.length (zh.Starts a)):Int) > (16:Int)))))))] ?_ (fun hk0=>?_)
 ·refine cH 37 h (fun hb4 h=>?_) (fun hb4 h=>?_)
  ·refine sO kk oN [4,8,10,13,20,112] [] ?_;refine tD ?_;subst h;exact (endQ []).1
  ·refine kD ?_;show Sem _ _ _ _ _;refine wkD [112] ?_;refine qD ?_;obtain ⟨r0,hc5,h⟩:=h;rcases eft (r0) with hb6 | hb6
   ·have h:=h.1 hb6;refine sO kk (ca hc5 (g1 hb6 22223 oN)) [13] [(142,vB true)] ?_;refine cD (t:=47) (b:=true) (fun hb17=>?_) (fun hb17=>?_)
    ·refine sO kk oN [4,8,10,20,142] [] ?_;refine tD ?_;subst h;exact (endQ []).1
    ·cases hb17
   ·have h:=h.2 hb6;obtain ⟨r0_1,hc7,h⟩:=h;refine sO kk (ca hc5 (g1 hb6 2222 (ca hc7 (g1 hb6 3 oN)))) [13] [(142,vB r0_1)] ?_;refine cH 47 h (fun hb8 h=>?_) (fun hb8 h=>?_)
    ·refine sO kk oN [4,8,10,20,142] [] ?_;refine tD ?_;subst h;exact (endQ []).1
    ·refine kD ?_;show Sem _ _ _ _ _;refine wkD [142] ?_;refine qD ?_;obtain ⟨hc9,h⟩:=h;refine sO kk (ca hc9 oN) [4,8] [(148,.clo 92 [.fp (zhg a) 0])] ?_;refine bD (id:=0) ?_;obtain ⟨hl13,Inv12,Stp14,h0Inv12,hRInv12,hDInv12,hSInv12⟩:=h;refine Sem.rangeG (σ:=Unit) (c:=(cf [] 55)) (by rfl) (tg:=49) (ps:=[50]) (by kernel_rfl) (by kernel_rfl) (lists_it2 a hl13) (fun i _=>⟨rfl,fun y hy=>⟨1,by rw [List.mem_singleton.1 hy];rfl⟩⟩) [(7,.ptr 14 0),(10,.ptr 20 0)] [14,20] (fun (_:Unit)=>([vB false,vi ((↑(List.length (zh.Sets a)):Int))]:List AV)) (fun (i:Nat) (q:Unit)=>Inv12 i ) (fun (q:Unit)=>Stp14 ) () ((wkE (G':=[(7,.ptr 14 0),(10,.ptr 20 0),(14,vB false),(20,vi ((↑(List.length (zh.Sets a)):Int)))]) [] [7,10,14,20] (by kernel_rfl)).trans (Wk.pick [7,10,14,20] (by kernel_rfl))) h0Inv12 (by rfl) (fun q=>by rfl) (by rfl) (by decide) (fun q q'=>by rfl) (by decide) (by decide) ?_ ?_ ?_
     ·rintro i _ hi hinv;obtain ⟨y,hy⟩:∃ y:(List Int),y=List.getD (zh.Follow a++zh.Starts a) i []:=⟨_,rfl⟩;have h:=hRInv12 i y hi hy hinv;refine Sem.weak (Wk.pick [3,6,7,10,151] (G':=[(3,vB false),(6,vi ((↑(List.length (zh.Sets a)):Int))),(7,.ptr 3 0),(10,.ptr 6 0),(151,vL zf y)]) (by rw [hy];kernel_rfl)) ?_;show Sem _ (cfr [] 55) (sq1 (sq1 (sq2 (sq1 (sq2 (sq2 (sq2 (sq2 (sq2 (bodyOf Tryz.f19)))))))))) _ _;have kr:=cfrOk [] 55;refine rO kr oN [151] [(16,vL zf y)] ?_;refine ⟨rfl,?_⟩;show Sem _ (cfr [] 55) (sq2 (sq1 (sq2 (sq1 (sq2 (sq2 (sq2 (sq2 (sq2 (bodyOf Tryz.f19)))))))))) _ _;refine bD (id:=1) ?_;obtain ⟨r0_3,hc15,h⟩:=h;refine sO kr (ca hc15 oN) [10,16] [(163,vB (!r0_3))] ?_;refine cH 54 h (fun hb16 h=>?_) (fun hb16 h=>?_)
      ·refine sO kr oN [163] [] ?_;refine tD ?_;exact rndSr (wkE [] [3,6] (by rfl)) (by kernel_rfl) ⟨(),rfl,h⟩
      ·refine kD ?_;exact rndSn (wkE [] [3,6] (by rfl)) (by kernel_rfl) ⟨(),rfl,h⟩
     ·rintro _ hinv;have h:=hDInv12 hinv;refine ⟨[(7,.ptr 14 0),(14,vB false)],Wk.pick [7,14] (by kernel_rfl),?_⟩;show Sem _ _ _ _ _;refine sO kk oN [] [(14,vB true)] ?_;refine tD ?_;subst h;exact (endQ []).1
     ·rintro _ hinv;have h:=hSInv12 hinv;refine ⟨[(7,.ptr 14 0),(14,vB false)],Wk.pick [7,14] (by kernel_rfl),?_⟩;subst h;exact (endQ []).1
 ·rcases eft (decide ((↑(List.length (zh.Sets a)):Int) > (600:Int))) with hb0 | hb0
  ·refine sO kk (g1 hb0 22222388888788888788887 oN) [] [(112,vB true)] ?_;exact Sem.cast (by try rw [hb0];kernel_rfl) hk0
  ·rcases eft ((↑(List.length (List.map zf (zh.Owner a))):Int) != (↑(List.length (zh.Sets a)):Int)) with hb1 | hb1
   ·refine sO kk (g2 hb1 hb0 55555622222388888788887 oN) [] [(112,vB true)] ?_;exact Sem.cast (by try rw [hb0];try rw [hb1];kernel_rfl) hk0
   ·rcases eft ((↑(List.length (List.map zg (zh.Follow a))):Int) != (↑(List.length (zh.Sets a)):Int)) with hb2 | hb2
    ·refine sO kk (g1 hb0 222223 (g2 hb2 hb1 55555622222388887 oN)) [] [(112,vB true)] ?_;exact Sem.cast (by try rw [hb0];try rw [hb1];try rw [hb2];kernel_rfl) hk0
    ·rcases eft ((↑(List.length (List.map zr (zh.Ends a))):Int) != (↑(List.length (zh.Sets a)):Int)) with hb3 | hb3
     ·refine sO kk (g2 hb1 hb0 555556222223 (g2 hb3 hb2 55555622223 oN)) [] [(112,vB true)] ?_;exact Sem.cast (by try rw [hb0];try rw [hb1];try rw [hb2];try rw [hb3];kernel_rfl) hk0
     ·refine sOE kk (g2 hb1 hb0 555556222223 (g2 hb3 hb2 55555622223 oN)) [] [(112,vB (decide ((↑(List.length (List.map zg (zh.Starts a))):Int) > (16:Int))))] [(112,vB (decide ((↑(List.length (zh.Starts a)):Int) > (16:Int))))] ?_;exact Sem.cast (by try rw [hb0];try rw [hb1];try rw [hb2];try rw [hb3];kernel_rfl) hk0
end Go.Ev
namespace Go.Ev
open Go Go.Proofs
set_option maxRecDepth 8000
set_option maxHeartbeats 1000000
theorem zdR (s0:api_Spec) (res:Bool)
 (h:(∃ r0:Bool,zbH s0 ((300:Int)) r0∧(((!r0)=true→(∃ r0_1:Bool,zbO r0_1∧(res=r0_1)))∧((!r0)=false→(∃ r0_2:zh,∃ r0_3:Int,zci s0 r0_2 r0_3∧(∃ r0_4:zh,∃ r0_5:Int,za5 s0 r0_4 r0_5∧(∃ r0_6:Bool,zbO r0_6∧(((r0_6)=true→(∃ r0_7:Bool,zaR r0_2 r0_4 r0_7∧(((r0_7)=true→(res=(r0_3 == r0_5)))∧((r0_7)=false→(res=false)))))∧((r0_6)=false→(res=false)))))))))):zbA s0 res:=by
 unfold zbA;have kk:=cfOk [] 32;refine fD (x:=bodyOf Tryz.f4) kk Tryz.func4 ?_;refine wkS [1] [(1,zK s0)] (by kernel_rfl) ?_;refine sO kk oN [1] [(4,.ptr 8 0),(8,zK s0)] ?_;refine qD ?_;obtain ⟨r0,hc0,h⟩:=h;refine sO kk (ca hc0 oN) [] [(28,vB (!r0))] ?_;refine cH 9 h (fun hb1 h=>?_) (fun hb1 h=>?_)
 ·obtain ⟨r0_1,hc2,h⟩:=h;refine sO kk (ca hc2 oN) [4,8,28] [(7,vB r0_1)] ?_;refine tD ?_;subst h;exact (endQ []).1
 ·refine kD ?_;show Sem _ _ _ _ _;refine wkD [28] ?_;obtain ⟨r0_2,r0_3,hc3,h⟩:=h;refine sO kk (ca hc3 oN) [] [(10,.ptr 20 0),(13,vi r0_3),(20,zaC r0_2)] ?_;obtain ⟨r0_4,r0_5,hc4,h⟩:=h;refine sO kk (ca hc4 oN) [4,8] [(16,.ptr 32 0),(19,vi r0_5),(32,zaC r0_4)] ?_;obtain ⟨r0_6,hc5,h⟩:=h;rcases eft (r0_6) with hb6 | hb6
  ·have h:=h.1 hb6;obtain ⟨r0_7,hc7,h⟩:=h;rcases eft (r0_7) with hb9 | hb9
   ·have h:=h.1 hb9;refine sO kk (ca hc5 (g1 hb6 111 (ca hc7 (g2 hb9 hb6 61113 oN)))) [10,13,16,19,20,32] [(7,vB (r0_3 == r0_5))] ?_;refine tD ?_;subst h;exact (endQ []).1
   ·have h:=h.2 hb9;refine sO kk (ca hc5 (g1 hb6 111 (ca hc7 (g2 hb9 hb6 61113 oN)))) [10,13,16,19,20,32] [(7,vB false)] ?_;refine tD ?_;subst h;exact (endQ []).1
  ·have h:=h.2 hb6;refine sO kk (ca hc5 (g1 hb6 11138888 oN)) [10,13,16,19,20,32] [(7,vB false)] ?_;refine tD ?_;subst h;exact (endQ []).1
end Go.Ev
namespace Go.Ev
open Go Go.Proofs
def orBit (w:Int) (i:Int):Int:=IntKind.u64.wrap (BitVec.ofInt IntKind.u64.bits w ||| BitVec.ofInt IntKind.u64.bits (IntKind.u64.wrap (1 * 2 ^ min i.toNat IntKind.u64.bits))).toNat
def setAdd (s:zc) (i:Int):zc:=
 if i < 64 then { s with e0:=orBit s.e0 i } else if i < 128 then { s with e1:=orBit s.e1 (i - 64) } else if i < 192 then { s with e2:=orBit s.e2 (i - 128) } else { s with e3:=orBit s.e3 (i - 192) }
theorem w64_id0 {n:Int} (h0:-2 ^ 63≤n) (h1:n < 2 ^ 63):w64 n=n:=wrap64 (by omega) (by omega)
theorem quot64 (i:Int) (h0:0≤i) (h1:i < 256):w64 (Int.tdiv i 64)=i / 64∧i.tmod 64=i - 64 * (i / 64)∧0≤i.tmod 64:=by
 rw [Int.tdiv_eq_ediv_of_nonneg h0,Int.tmod_eq_emod_of_nonneg h0]
 exact ⟨w64_id0 (by omega) (by omega),by omega,by omega⟩
theorem zff (s:zc) (i:Int) (h0:0≤i) (h1:i < 256):zcd s i (setAdd s i):=by
 obtain ⟨q,m,hm⟩:=quot64 i h0 h1
 refine zfQ s i _ ?_
 rw [q,m]
 refine ⟨by omega,fun h=>⟨fun _=>by omega,?_⟩,fun h=>⟨fun _=>by omega,?_⟩,fun h=>⟨fun _=>by omega,?_⟩,fun h=>⟨fun _=>by omega,?_⟩⟩
 all_goals
  have h:=of_decide_eq_true h
  rw [h]
 ·simp [setAdd,show i < 64 by omega,orBit]
 ·simp [setAdd,show ¬ i < 64 by omega,show i < 128 by omega,orBit]
 ·simp [setAdd,show ¬ i < 64 by omega,show ¬ i < 128 by omega,show i < 192 by omega,orBit]
 ·simp [setAdd,show ¬ i < 64 by omega,show ¬ i < 128 by omega,show ¬ i < 192 by omega,orBit]
def bitOf (w:Int) (i:Int):Bool:=IntKind.u64.wrap (BitVec.ofInt IntKind.u64.bits (w.fdiv (2 ^ min i.toNat IntKind.u64.bits)) &&& BitVec.ofInt IntKind.u64.bits 1).toNat == 1
def setHas (s:zc) (i:Int):Bool:=
 if i < 0 then false else if i < 64 then bitOf s.e0 i else if i < 128 then bitOf s.e1 (i - 64) else if i < 192 then bitOf s.e2 (i - 128) else if i < 256 then bitOf s.e3 (i - 192) else false
end Go.Ev
namespace Go.Ev
open Go Go.Proofs
theorem zQ {x:Int} (h0:-9223372036854775808≤x) (h1:x≤9223372036854775807):w64 x=x:=wrap64 h0 (by omega)
end Go.Ev
namespace Go.Ev.Pl
open Go Go.Ev
abbrev SS (l:List Int):Prop:=l.Pairwise (· < ·)
theorem zhQ:∀ {a b:List Int},SS a→SS b→(∀ x,x∈a↔x∈b)→a=b
 | [],[],_,_,_=>rfl
 | [],y :: b,_,_,h=>by have:=(h y).2 (List.mem_cons_self ..);simp at this
 | x :: a,[],_,_,h=>by have:=(h x).1 (List.mem_cons_self ..);simp at this
 | x :: a,y :: b,ha,hb,h=>by
   have ha:=List.pairwise_cons.1 ha
   have hb:=List.pairwise_cons.1 hb
   have hxy:x=y:=by
    rcases List.mem_cons.1 ((h x).1 (List.mem_cons_self ..)) with e | e
    ·exact e
    ·rcases List.mem_cons.1 ((h y).2 (List.mem_cons_self ..)) with e' | e'
     ·exact e'.symm
     ·have:=hb.1 x e;have:=ha.1 y e';omega
   subst hxy
   rw [zhQ ha.2 hb.2]
   intro z
   constructor
   ·intro hz
    rcases List.mem_cons.1 ((h z).1 (List.mem_cons_of_mem _ hz)) with e | e
    ·subst e;have:=ha.1 z hz;omega
    ·exact e
   ·intro hz
    rcases List.mem_cons.1 ((h z).2 (List.mem_cons_of_mem _ hz)) with e | e
    ·subst e;have:=hb.1 z hz;omega
    ·exact e
def join (a b:List Int):List Int:=compactInts (sortInts (a++b))
theorem upTo_spec (zs:List Int) (hs:zs.Pairwise (·≤·)):∀ m,m≤zs.length→SS (Lib.compactUpTo zs.toArray m)∧∀ x,x∈Lib.compactUpTo zs.toArray m↔x∈zs.take m:=by
 intro m
 induction m with
 | zero=>intro _;simp [Lib.compactUpTo]
 | succ m ih=>
   intro hm
   obtain ⟨h1,h2⟩:=ih (by omega)
   have hg:zs.toArray[m]! = zs[m]'(by omega):=by simp [getElem!_pos,show m < zs.length by omega]
   have ht:∀ x,x∈zs.take (m+1)↔x∈zs.take m∨x=zs[m]'(by omega):=by
    intro x;rw [List.take_succ_eq_append_getElem (by omega),List.mem_append,List.mem_singleton]
   have hle:∀ x∈zs.take m,x≤zs[m]'(by omega):=by
    intro x hx
    obtain ⟨i,hi,rfl⟩:=List.mem_iff_getElem.1 hx
    simp only [List.length_take] at hi
    rw [List.getElem_take]
    exact List.pairwise_iff_getElem.1 hs i m (by omega) (by omega) (by omega)
   rw [Lib.compactUpTo_succ,hg]
   by_cases hk:Lib.keeps zs.toArray m=true
   ·rw [if_pos hk]
    refine ⟨List.pairwise_append.2 ⟨h1,by simp,fun x hx y hy=>?_⟩,fun x=>?_⟩
    ·simp at hy;subst hy
     have hx:=(h2 x).1 hx
     have h3:=hle x hx
     simp only [Lib.keeps,decide_eq_true_eq] at hk
     rcases hk with rfl | hk
     ·simp at hx
     ·have hm0:m≠0:=by rintro rfl;simp at hx
      have hg':zs.toArray[m - 1]! = zs[m - 1]'(by omega):=by simp [getElem!_pos,show m - 1 < zs.length by omega]
      rw [hg,hg'] at hk
      obtain ⟨i,hi,rfl⟩:=List.mem_iff_getElem.1 hx
      simp only [List.length_take] at hi
      rw [List.getElem_take] at h3 ⊢
      have h5:zs[i]'(by omega)≤zs[m - 1]'(by omega):=by
       by_cases e:i=m - 1
       ·subst e;exact Int.le_refl _
       ·exact List.pairwise_iff_getElem.1 hs i (m - 1) (by omega) (by omega) (by omega)
      have h6:zs[m - 1]'(by omega)≤zs[m]'(by omega):=List.pairwise_iff_getElem.1 hs (m - 1) m (by omega) (by omega) (by omega)
      have:zs[m - 1]'(by omega)≠zs[m]'(by omega):=fun e=>hk e.symm
      omega
    ·rw [ht];simp [h2]
   ·rw [if_neg hk]
    refine ⟨by simpa using h1,fun x=>?_⟩
    rw [List.append_nil,ht,h2]
    constructor
    ·exact .inl
    ·rintro (h | rfl)
     ·exact h
     ·simp only [Lib.keeps,decide_eq_true_eq,not_or,Decidable.not_not] at hk
      obtain ⟨hm0,hk⟩:=hk
      have hg':zs.toArray[m - 1]! = zs[m - 1]'(by omega):=by simp [getElem!_pos,show m - 1 < zs.length by omega]
      rw [hg,hg'] at hk
      rw [hk]
      refine List.mem_iff_getElem.2 ⟨m - 1,by simp;omega,by rw [List.getElem_take]⟩
theorem sort_spec (l:List Int):(sortInts l).Pairwise (·≤·)∧∀ x,x∈sortInts l↔x∈l:=by
 refine ⟨?_,fun x=>by simp [sortInts]⟩
 have:=List.pairwise_mergeSort (le:=fun x y:Int=>decide (x≤y)) (fun a b c h1 h2=>by simp at *;omega) (fun a b=>by simp;omega) l
 exact this.imp (by simp)
theorem zcg (a b:List Int):SS (join a b)∧∀ x,x∈join a b↔x∈a∨x∈b:=by
 obtain ⟨h1,h2⟩:=sort_spec (a++b)
 obtain ⟨h3,h4⟩:=upTo_spec _ h1 _ (Nat.le_refl _)
 refine ⟨h3,fun x=>?_⟩
 show x∈Lib.compactUpTo _ _↔_
 rw [h4,List.take_length,h2,List.mem_append]
theorem sort_len (l:List Int):(sortInts l).length=l.length:=by simp [sortInts]
theorem join_len (a b:List Int):(join a b).length≤a.length+b.length:=by
 have:=Lib.compact_length_le (sortInts (a++b))
 rw [sort_len,List.length_append] at this
 exact this
def addL:List Int→List Int→List Int
 | [],b=>b
 | a,[]=>a
 | x :: a,y :: b=>if x < y then x :: addL a (y :: b) else if y < x then y :: addL (x :: a) b else x :: addL a b
 termination_by a b=>a.length+b.length
theorem zdl:∀ (a b:List Int) (x:Int),x∈addL a b↔x∈a∨x∈b
 | [],b,z=>by simp [addL]
 | x :: a,[],z=>by simp [addL]
 | x :: a,y :: b,z=>by
   rw [addL]
   split
   ·rw [List.mem_cons,zdl a (y :: b)];grind
   ·split
    ·rw [List.mem_cons,zdl (x :: a) b];grind
    ·rw [List.mem_cons,zdl a b];grind
 termination_by a b=>a.length+b.length
theorem zhD:∀ {a b:List Int},SS a→SS b→SS (addL a b)
 | [],b,_,hb=>by rw [addL];exact hb
 | x :: a,[],ha,_=>by rw [addL];exact ha;simp
 | x :: a,y :: b,ha,hb=>by
   have ha':=List.pairwise_cons.1 ha
   have hb':=List.pairwise_cons.1 hb
   rw [addL]
   split
   ·refine List.pairwise_cons.2 ⟨fun z hz=>?_,zhD ha'.2 hb⟩
    rw [zdl] at hz;grind
   ·split
    ·refine List.pairwise_cons.2 ⟨fun z hz=>?_,zhD ha hb'.2⟩
     rw [zdl] at hz;grind
    ·refine List.pairwise_cons.2 ⟨fun z hz=>?_,zhD ha'.2 hb'.2⟩
     rw [zdl] at hz;grind
 termination_by a b=>a.length+b.length
theorem zdG {a b:List Int} (ha:SS a) (hb:SS b):join a b=addL a b:=
 zhQ (zcg a b).1 (zhD ha hb) fun x=>by rw [(zcg a b).2,zdl]
end Go.Ev.Pl
namespace Go.Ev.Pl
open Go Go.Ev
theorem zQ {x:Int} (h0:-9223372036854775808≤x) (h1:x≤9223372036854775807):w64 x=x:=wrap64 h0 (by omega)
theorem rx_sizeOf {x y:zb} (h:y∈x.Kids):SizeOf.sizeOf y < SizeOf.sizeOf x:=by
 cases x with
 | mk k s lo hi kids=>
   have:=List.sizeOf_lt_of_mem h
   simp only [zb.mk.sizeOf_spec]
   simp at this
   omega
theorem rxInd {P:zb→Prop} (h:∀ x,(∀ y∈x.Kids,P y)→P x) (x:zb):P x:=
 h x fun y hy=>rxInd h y
 termination_by SizeOf.sizeOf x
 decreasing_by exact rx_sizeOf hy
mutual
def cata {α:Type} (f:zb→List α→α):zb→α
 | ⟨k,s,lo,hi,kids⟩=>f ⟨k,s,lo,hi,kids⟩ (cataL f kids)
def cataL {α:Type} (f:zb→List α→α):List zb→List α
 | []=>[]
 | x :: r=>cata f x :: cataL f r
end
theorem cataL_map {α:Type} (f:zb→List α→α):∀ l,cataL f l=l.map (cata f)
 | []=>rfl
 | x :: r=>by rw [cataL,cataL_map f r];rfl
theorem zey {α:Type} (f:zb→List α→α) (x:zb):cata f x=f x (x.Kids.map (cata f)):=by
 cases x;rw [cata,cataL_map]
def Wf (x:zb):Prop:=cata (α:=Prop) (fun x l=>x.Kids.length < 1099511627776∧∀ p∈l,p) x
theorem wf_eq (x:zb):Wf x↔x.Kids.length < 1099511627776∧∀ y∈x.Kids,Wf y:=by
 show cata (α:=Prop) _ x↔_
 rw [zey]
 constructor
 ·rintro ⟨h1,h2⟩;exact ⟨h1,fun y hy=>h2 _ (List.mem_map.2 ⟨y,hy,rfl⟩)⟩
 ·rintro ⟨h1,h2⟩
  refine ⟨h1,fun p hp=>?_⟩
  obtain ⟨y,hy,rfl⟩:=List.mem_map.1 hp
  exact h2 y hy
theorem zW {α:Type} [Inhabited α] {l:List α} {i:Nat} (h:i < l.length):gd l (i:Int)=l[i]:=by
 simp [gd,List.getD,h]
def timesN (x:zb):Nat:=(max 1 (min 1000 (max x.Lo x.Hi))).toNat
def sizeN:zb→Nat:=cata fun x l=>if x.Kind=2 then 1 else if 3≤x.Kind∧x.Kind≤5 then l.sum * (if x.Kind=5 then timesN x else 1) else 0
theorem zcp (x:zb):sizeN x=if x.Kind=2 then 1 else if 3≤x.Kind∧x.Kind≤5 then (x.Kids.map sizeN).sum * (if x.Kind=5 then timesN x else 1) else 0:=zey _ x
def sizeZ (x:zb):Int:=min (sizeN x:Int) (1000000:Int)
theorem zeO {l:List Nat} {i:Nat} (h:i < l.length):(l.take (i+1)).sum=(l.take i).sum+l[i]:=by
 rw [List.take_succ_eq_append_getElem h,List.sum_append];simp
theorem rxSize_ok:∀ x,Wf x→zc2 x (sizeZ x):=by
 refine rxInd fun x ih hw=>?_
 obtain ⟨hl,hk⟩:=(wf_eq x).1 hw
 refine W_rx_Size x _ ⟨fun h=>?_,fun h=>⟨fun h2=>?_,fun h2=>?_⟩⟩
 ·have h:x.Kind=2:=by simpa using h
  simp [sizeZ,zcp,h];omega
 ·have:x.Kind < 3∨x.Kind > 5:=by simpa using h2
  have h:x.Kind≠2:=by simpa using h
  rw [sizeZ,zcp,if_neg h,if_neg (by omega)];omega
 ·have h:x.Kind≠2:=by simpa using h
  have h2:3≤x.Kind∧x.Kind≤5:=by simp at h2;omega
  have hT:(timesN x:Int)=max 1 (min 1000 (max x.Lo x.Hi)):=by simp only [timesN];omega
  refine ⟨fun n t=>∃ i:Nat,t=i∧i≤x.Kids.length∧n=min (((x.Kids.map sizeN).take i).sum:Int) 1000000,fun n t=>(x.Kids.length - t).toNat,⟨0,rfl,by omega,by simp;omega⟩,?_⟩
  rintro n t ⟨i,rfl,hi,hn⟩
  refine ⟨fun ht=>?_,fun ht=>?_⟩
  ·have ht:i < x.Kids.length:=by simpa using ht
   refine ⟨by omega,by omega,sizeZ x.Kids[i],by rw [zW ht];exact ih _ (List.getElem_mem ht) (hk _ (List.getElem_mem ht)),?_⟩
   have hs:=zeO (l:=x.Kids.map sizeN) (i:=i) (by simpa using ht)
   rw [List.getElem_map] at hs
   have hz:sizeZ x.Kids[i]=min (sizeN x.Kids[i]:Int) (1000000:Int):=rfl
   have hw1:w64 (n+sizeZ x.Kids[i])=n+sizeZ x.Kids[i]:=zQ (by omega) (by omega)
   have hw2:w64 ((i:Int)+1)=((i+1:Nat):Int):=zQ (by omega) (by omega)
   rw [hw1,hw2]
   refine ⟨⟨i+1,rfl,by omega,?_⟩,by dsimp only;omega⟩
   rw [hs];simp;omega
  ·have ht:i=x.Kids.length:=by have:¬ i < x.Kids.length:=by simpa using ht
                               omega
   subst ht
   rw [List.take_of_length_le (by simp)] at hn
   refine ⟨fun m=>m=n * (if x.Kind=5 then (timesN x:Int) else 1),fun m hm=>?_,fun h5=>?_,fun h5=>?_⟩
   ·subst hm
    rw [sizeZ,zcp,if_neg h,if_pos h2]
    by_cases h5:x.Kind=5
    ·simp only [if_pos h5]
     have hp:(1:Int)≤timesN x:=by omega
     have hp2:(timesN x:Int)≤1000:=by omega
     generalize (x.Kids.map sizeN).sum=S at hn ⊢
     subst hn
     rw [Int.natCast_mul]
     generalize (timesN x:Int)=T at hp hp2 ⊢
     simp
     rcases Int.le_total (S:Int) 1000000 with hS | hS
     ·rw [Int.min_eq_left hS];omega
     ·rw [Int.min_eq_right hS]
      have h1:(1000000:Int) * 1≤1000000 * T:=Int.mul_le_mul_of_nonneg_left hp (by omega)
      have h2:(1000000:Int) * T≤S * T:=Int.mul_le_mul_of_nonneg_right hS (by omega)
      omega
    ·simp only [if_neg h5];simp;omega
   ·have h5:x.Kind=5:=by simpa using h5
    rw [if_pos h5,hT]
    have:∀ a:Int,0≤a→a≤1000000→w64 (a * max 1 (min 1000 (max x.Lo x.Hi)))=a * max 1 (min 1000 (max x.Lo x.Hi)):=fun a h1 h2=>by
     have e1:0≤a * max 1 (min 1000 (max x.Lo x.Hi)):=Int.mul_nonneg h1 (by omega)
     have e2:a * max 1 (min 1000 (max x.Lo x.Hi))≤1000000 * 1000:=Int.mul_le_mul h2 (by omega) (by omega) (by omega)
     exact zQ (by omega) (by omega)
    rw [← this n (by omega) (by omega)]
    congr 1;congr 1
    simp;omega
   ·have h5:x.Kind≠5:=by simpa using h5
    rw [if_neg h5];omega
theorem refSize_ok:∀ x,Wf x→zba x (sizeZ x):=by
 refine rxInd fun x ih hw=>?_
 obtain ⟨hl,hk⟩:=(wf_eq x).1 hw
 refine zfp x _ ⟨fun h=>?_,fun h=>?_⟩
 ·have h:x.Kind=2:=by simpa using h
  simp [sizeZ,zcp,h];omega
 have h:x.Kind≠2:=by simpa using h
 refine ⟨fun b=>b=decide (3≤x.Kind∧x.Kind≤5),fun b hb=>⟨fun hbt=>?_,fun hbf=>?_⟩,fun h3=>?_,fun h3=>⟨fun h4=>?_,fun h4=>?_⟩⟩
 ·have h2:3≤x.Kind∧x.Kind≤5:=by rw [hbt] at hb;simpa using hb.symm
  have hT:(timesN x:Int)=max 1 (min 1000 (max x.Lo x.Hi)):=by simp only [timesN];omega
  have hp:(1:Int)≤timesN x:=by omega
  have hp2:(timesN x:Int)≤1000:=by omega
  refine ⟨fun n t=>∃ i:Nat,t=i∧i≤x.Kids.length∧n=min (((x.Kids.map sizeN).take i).sum:Int) 1000000,fun n t=>(x.Kids.length - t).toNat,⟨0,rfl,by omega,by simp;omega⟩,?_⟩
  rintro n t ⟨i,rfl,hi,hn⟩
  refine ⟨fun ht=>?_,fun ht=>?_⟩
  ·have ht:i < x.Kids.length:=by simpa using ht
   refine ⟨by omega,by omega,sizeZ x.Kids[i],by rw [zW ht];exact ih _ (List.getElem_mem ht) (hk _ (List.getElem_mem ht)),?_⟩
   have hs:=zeO (l:=x.Kids.map sizeN) (i:=i) (by simpa using ht)
   rw [List.getElem_map] at hs
   have hz:sizeZ x.Kids[i]=min (sizeN x.Kids[i]:Int) (1000000:Int):=rfl
   have hw1:w64 (n+sizeZ x.Kids[i])=n+sizeZ x.Kids[i]:=zQ (by omega) (by omega)
   have hw2:w64 ((i:Int)+1)=((i+1:Nat):Int):=zQ (by omega) (by omega)
   rw [hw1,hw2]
   refine ⟨fun hg=>?_,fun hg=>?_⟩
   ·have hg:n+sizeZ x.Kids[i] > 1000000:=by simpa using hg
    have hsum:(x.Kids.map sizeN).sum≥((x.Kids.map sizeN).take (i+1)).sum:=by
     conv=>lhs;rw [← List.take_append_drop (i+1) (x.Kids.map sizeN),List.sum_append]
     omega
    rw [sizeZ,zcp,if_neg h,if_pos h2]
    have:(1000001:Int)≤(((x.Kids.map sizeN).sum * (if x.Kind=5 then timesN x else 1):Nat):Int):=by
     split
     ·have h3:(x.Kids.map sizeN).sum * 1≤(x.Kids.map sizeN).sum * timesN x:=Nat.mul_le_mul_left _ (by omega)
      omega
     ·omega
    omega
   ·have hg:¬ n+sizeZ x.Kids[i] > 1000000:=by simpa using hg
    exact ⟨⟨i+1,rfl,by omega,by rw [hs];simp;omega⟩,by dsimp only;omega⟩
  ·have ht:i=x.Kids.length:=by have:¬ i < x.Kids.length:=by simpa using ht
                               omega
   subst ht
   rw [List.take_of_length_le (by simp)] at hn
   refine ⟨fun m=>m=n * (if x.Kind=5 then (timesN x:Int) else 1),fun m hm=>?_,fun h5=>?_,fun h5=>?_⟩
   ·subst hm
    rw [sizeZ,zcp,if_neg h,if_pos h2]
    by_cases h5:x.Kind=5
    ·simp only [if_pos h5]
     generalize (x.Kids.map sizeN).sum=S at hn ⊢
     subst hn
     rw [Int.natCast_mul]
     generalize (timesN x:Int)=T at hp hp2 ⊢
     simp
     rcases Int.le_total (S:Int) 1000000 with hS | hS
     ·rw [Int.min_eq_left hS];omega
     ·rw [Int.min_eq_right hS]
      have h1:(1000000:Int) * 1≤1000000 * T:=Int.mul_le_mul_of_nonneg_left hp (by omega)
      have h2:(1000000:Int) * T≤S * T:=Int.mul_le_mul_of_nonneg_right hS (by omega)
      omega
    ·simp only [if_neg h5];simp;omega
   ·have h5:x.Kind=5:=by simpa using h5
    rw [if_pos h5,hT]
    have:∀ a:Int,0≤a→a≤1000000→w64 (a * max 1 (min 1000 (max x.Lo x.Hi)))=a * max 1 (min 1000 (max x.Lo x.Hi)):=fun a h1 h2=>by
     have e1:0≤a * max 1 (min 1000 (max x.Lo x.Hi)):=Int.mul_nonneg h1 (by omega)
     have e2:a * max 1 (min 1000 (max x.Lo x.Hi))≤1000000 * 1000:=Int.mul_le_mul h2 (by omega) (by omega) (by omega)
     exact zQ (by omega) (by omega)
    rw [← this n (by omega) (by omega)]
    congr 1;congr 1
    simp;omega
   ·have h5:x.Kind≠5:=by simpa using h5
    rw [if_neg h5];omega
 ·have h2:¬ (3≤x.Kind∧x.Kind≤5):=by rw [hbf] at hb;simpa using hb.symm
  rw [sizeZ,zcp,if_neg h,if_neg h2];omega
 ·have h3':x.Kind=3:=by simpa using h3
  simp [h3']
 ·have h4':x.Kind=4:=by simpa using h4
  simp [h4']
 ·have h3':x.Kind≠3:=by simpa using h3
  have h4':x.Kind≠4:=by simpa using h4
  show decide (x.Kind=5)=decide (3≤x.Kind∧x.Kind≤5)
  rw [decide_eq_decide];omega
def nodesZ:zb→Int→Int:=cata fun x l most=>l.foldl (fun m g=>if m≥0 then g m else m) (most - 1)
theorem zeW (x:zb) (most:Int):nodesZ x most=x.Kids.foldl (fun m y=>if m≥0 then nodesZ y m else m) (most - 1):=by
 unfold nodesZ
 rw [zey,List.foldl_map]
theorem zeV:∀ x most,0≤most→nodesZ x most≤most - 1∧-1≤nodesZ x most:=by
 refine rxInd fun x ih most hm=>?_
 rw [zeW]
 have key:∀ (l:List zb) (m:Int),(∀ y∈l,y∈x.Kids)→-1≤m→(l.foldl (fun m y=>if m≥0 then nodesZ y m else m) m)≤m∧-1≤l.foldl (fun m y=>if m≥0 then nodesZ y m else m) m:=by
  intro l
  induction l with
  | nil=>intro m _ h;exact ⟨Int.le_refl _,h⟩
  | cons y r ih2=>
    intro m hl h
    simp only [List.foldl_cons]
    split
    ·rename_i h0
     obtain ⟨h1,h2⟩:=ih y (hl y (List.mem_cons_self ..)) m h0
     obtain ⟨h3,h4⟩:=ih2 _ (fun z hz=>hl z (List.mem_cons_of_mem _ hz)) h2
     exact ⟨by omega,h4⟩
    ·exact ih2 m (fun z hz=>hl z (List.mem_cons_of_mem _ hz)) h
 exact key x.Kids (most - 1) (fun _ h=>h) (by omega)
theorem zaA {α β:Type} {f:β→α→β} {b:β} {l:List α} {i:Nat} (h:i < l.length):(l.take (i+1)).foldl f b=f ((l.take i).foldl f b) l[i]:=by
 rw [List.take_succ_eq_append_getElem h,List.foldl_append];rfl
theorem nodes_pre {x:zb} {most:Int} (hm:0≤most) (i:Nat):-1≤(x.Kids.take i).foldl (fun m y=>if m≥0 then nodesZ y m else m) (most - 1)∧(x.Kids.take i).foldl (fun m y=>if m≥0 then nodesZ y m else m) (most - 1) < most:=by
 induction i with
 | zero=>simp;omega
 | succ i ih=>
   by_cases h:i < x.Kids.length
   ·rw [zaA h]
    split
    ·rename_i h0
     have:=zeV x.Kids[i] _ h0
     omega
    ·exact ih
   ·rw [List.take_of_length_le (by omega)] at ih ⊢;exact ih
theorem rxNodes_ok:∀ x,Wf x→∀ most,0≤most→most≤1000000→zc1 x most (nodesZ x most):=by
 refine rxInd fun x ih hw most hm0 hm1=>?_
 obtain ⟨hl,hk⟩:=(wf_eq x).1 hw
 rw [zeW]
 have hw0:w64 (most - 1)=most - 1:=zQ (by omega) (by omega)
 refine W_rx_nodes x most _ ⟨fun m t=>∃ i:Nat,t=i∧i≤x.Kids.length∧m=(x.Kids.take i).foldl (fun m y=>if m≥0 then nodesZ y m else m) (most - 1),fun m t=>(x.Kids.length - t).toNat,⟨0,rfl,by omega,by rw [hw0];rfl⟩,?_⟩
 rintro m t ⟨i,rfl,hi,hm⟩
 have hb:=nodes_pre (x:=x) hm0 i
 rw [← hm] at hb
 refine ⟨fun ht=>?_,fun ht=>?_⟩
 ·have ht:i < x.Kids.length:=by simpa using ht
  have hw2:w64 ((i:Int)+1)=((i+1:Nat):Int):=zQ (by omega) (by omega)
  have hs:=zaA (f:=fun m y=>if m≥0 then nodesZ y m else m) (b:=most - 1) ht
  rw [← hm] at hs
  refine ⟨fun m'=>m'=if m≥0 then nodesZ x.Kids[i] m else m,fun m' hm'=>?_,by omega,by omega,fun hg=>?_,fun hg=>?_⟩
  ·rw [hw2]
   exact ⟨⟨i+1,rfl,by omega,by rw [hs,hm']⟩,by dsimp only;omega⟩
  ·have hg:m≥0:=by simpa using hg
   refine ⟨nodesZ x.Kids[i] m,?_,by rw [if_pos hg]⟩
   rw [zW ht]
   exact ih _ (List.getElem_mem ht) (hk _ (List.getElem_mem ht)) _ hg (by omega)
  ·have hg:¬ m≥0:=by simpa using hg
   rw [if_neg hg]
 ·have ht:i=x.Kids.length:=by have:¬ i < x.Kids.length:=by simpa using ht
                              omega
  subst ht
  rw [hm,List.take_of_length_le (Nat.le_refl _)]
def WfB (x:zb):Prop:=cata (α:=Prop) (fun x l=>x.Kids.length < 9223372036854775808∧∀ p∈l,p) x
theorem wfB_eq (x:zb):WfB x↔x.Kids.length < 9223372036854775808∧∀ y∈x.Kids,WfB y:=by
 unfold WfB
 rw [zey]
 simp only [List.mem_map,forall_exists_index,and_imp,forall_apply_eq_imp_iff₂]
theorem wfB_of_wf:∀ x,Wf x→WfB x:=by
 refine rxInd fun x ih hw=>?_
 obtain ⟨hl,hk⟩:=(wf_eq x).1 hw
 exact (wfB_eq x).2 ⟨by omega,fun y hy=>ih y hy (hk y hy)⟩
theorem zdA:∀ x,WfB x→∀ most,0≤most→most≤1000000→zaq x most (nodesZ x most):=by
 refine rxInd fun x ih hw most hm0 hm1=>?_
 obtain ⟨hl,hk⟩:=(wfB_eq x).1 hw
 rw [zeW]
 have hw0:w64 (most - 1)=most - 1:=zQ (by omega) (by omega)
 refine zeL x most _ ⟨fun m t=>∃ i:Nat,t=i∧i≤x.Kids.length∧m=(x.Kids.take i).foldl (fun m y=>if m≥0 then nodesZ y m else m) (most - 1),fun m t=>(x.Kids.length - t).toNat,⟨0,rfl,by omega,by rw [hw0];rfl⟩,?_⟩
 rintro m t ⟨i,rfl,hi,hm⟩
 have hb:=nodes_pre (x:=x) hm0 i
 rw [← hm] at hb
 have hstay:∀ (l:List zb) (m:Int),m < 0→l.foldl (fun m y=>if m≥0 then nodesZ y m else m) m=m:=by
  intro l
  induction l with
  | nil=>intro m _;rfl
  | cons y r ih2=>intro m h;rw [List.foldl_cons,if_neg (by omega)];exact ih2 m h
 refine ⟨fun ht=>?_,fun ht=>?_⟩
 ·simp only [List.length_map,Bool.and_eq_true,decide_eq_true_eq] at ht
  obtain ⟨ht,hg⟩:=ht
  have ht:i < x.Kids.length:=by omega
  have hw2:w64 ((i:Int)+1)=((i+1:Nat):Int):=zQ (by omega) (by omega)
  have hs:=zaA (f:=fun m y=>if m≥0 then nodesZ y m else m) (b:=most - 1) ht
  rw [← hm,if_pos hg] at hs
  refine ⟨by omega,by omega,nodesZ x.Kids[i] m,?_,?_⟩
  ·rw [zW ht]
   exact ih _ (List.getElem_mem ht) (hk _ (List.getElem_mem ht)) _ hg (by omega)
  ·rw [hw2]
   exact ⟨⟨i+1,rfl,by omega,hs.symm⟩,by dsimp only;omega⟩
 ·simp only [List.length_map,Bool.and_eq_false_iff,decide_eq_false_iff_not] at ht
  rcases Nat.lt_or_ge i x.Kids.length with hlt | hge
  ·have hneg:m < 0:=by omega
   have e:=List.foldl_append (f:=fun m y=>if m≥0 then nodesZ y m else m) (b:=most - 1) (l:=x.Kids.take i) (l':=x.Kids.drop i)
   rw [List.take_append_drop,← hm,hstay _ _ hneg] at e
   exact e
  ·rw [hm,List.take_of_length_le hge]
theorem refNodes_ok (x:zb) (hw:Wf x) (most:Int) (h0:0≤most) (h1:most≤1000000):zaq x most (nodesZ x most):=zdA x (wfB_of_wf x hw) most h0 h1
theorem zgE:∀ x most,most≤1000000→0≤nodesZ x most→Wf x:=by
 refine rxInd fun x ih most hm h=>?_
 rw [zeW] at h
 have hstay:∀ (l:List zb) (m:Int),m < 0→l.foldl (fun m y=>if m≥0 then nodesZ y m else m) m=m:=by
  intro l
  induction l with
  | nil=>intro m _;rfl
  | cons y r ih2=>intro m h;rw [List.foldl_cons,if_neg (by omega)];exact ih2 m h
 have key:∀ (l:List zb) (m:Int),(∀ y∈l,y∈x.Kids)→m≤1000000→0≤l.foldl (fun m y=>if m≥0 then nodesZ y m else m) m→(l.length:Int)≤m∧∀ y∈l,Wf y:=by
  intro l
  induction l with
  | nil=>intro m _ _ h;exact ⟨by simpa using h,fun y hy=>by simp at hy⟩
  | cons y r ih2=>
    intro m hl hm h
    simp only [List.foldl_cons] at h
    rcases (show m < 0∨m≥0 by omega) with hn | hp
    ·rw [if_neg (by omega),hstay _ _ hn] at h;omega
    ·rw [if_pos hp] at h
     have hle:=(zeV y m hp).1
     obtain ⟨h1,h2⟩:=ih2 (nodesZ y m) (fun z hz=>hl z (List.mem_cons_of_mem _ hz)) (by omega) h
     refine ⟨by rw [List.length_cons];omega,fun z hz=>?_⟩
     rcases List.mem_cons.1 hz with rfl | hz
     ·exact ih z (hl z (List.mem_cons_self ..)) m hm (by omega)
     ·exact h2 z hz
 obtain ⟨h1,h2⟩:=key x.Kids (most - 1) (fun _ h=>h) (by omega) h
 exact (wf_eq x).2 ⟨by omega,h2⟩
def noSet (s:zc):Bool:=s.e0 == 0 && (s.e1 == 0 && (s.e2 == 0 && (s.e3 == 0 && true)))
def timesB (lo hi:Int):Bool:=decide (0≤lo) && (decide (lo≤20) && (hi == -1 || decide (hi≥max 1 lo) && decide (hi≤20)))
def ownB (x:zb):Bool:=
 if x.Kind=5 then noSet x.Set && (decide (x.Kids.length=1) && timesB x.Lo x.Hi)
 else if x.Kind=1 then noSet x.Set && (x.Lo == 0 && x.Hi == 0 && decide (x.Kids.length=0))
 else if x.Kind=2 then !noSet x.Set && (x.Lo == 0 && x.Hi == 0 && decide (x.Kids.length=0))
 else if x.Kind=3∨x.Kind=4 then noSet x.Set && (x.Lo == 0 && x.Hi == 0 && decide (x.Kids.length≥2))
 else false
def oddK (x k:zb):Bool:=k.Kind == x.Kind && x.Kind != 5
def rgt:zb→Int→Bool:=cata fun x l deep=>decide (deep > 0) && ownB x && (x.Kids.zip l).all fun (k,g)=>!oddK x k && g (deep - 1)
theorem rgt_eq (x:zb) (deep:Int):rgt x deep=(decide (deep > 0) && ownB x && x.Kids.all fun k=>!oddK x k && rgt k (deep - 1)):=by
 unfold rgt
 rw [zey]
 congr 1
 rw [List.zip_map_right,List.all_map]
 generalize x.Kids=l
 induction l with
 | nil=>rfl
 | cons y r ih=>simp only [List.zip_cons_cons,List.all_cons,Function.comp] at ih ⊢;rw [ih];rfl
def pat (x:zb):zl:={ Kind:=x.Kind,Set:=x.Set,Lo:=x.Lo,Hi:=x.Hi,Kids:=x.Kids }
theorem times_ok (x:zl):zbu x (timesB x.Lo x.Hi):=by
 refine zfg x _ ⟨fun h=>?_,fun h=>?_⟩
 ·simp only [Bool.or_eq_true,decide_eq_true_eq] at h
  simp only [timesB,Bool.and_eq_false_iff,decide_eq_false_iff_not];omega
 ·simp only [Bool.or_eq_false_iff,decide_eq_false_iff_not] at h
  have h1:decide (0≤x.Lo)=true:=by simp;omega
  have h2:decide (x.Lo≤20)=true:=by simp;omega
  simp only [timesB,h1,h2,Bool.true_and]
  congr 2
  have:(if x.Lo > 1 then x.Lo else 1)=max 1 x.Lo:=by omega
  rw [this]
theorem len0 (l:List zb):decide (l=[])=(decide ((2:Int)≤(l.length:Int)+2) && (l.length:Int)+2 == 2):=by
 cases l with
 | nil=>rfl
 | cons a r=>
   have:((((a :: r).length:Nat):Int)+2 == 2)=false:=by
    show decide _=false
    simp only [decide_eq_false_iff_not,List.length_cons];omega
   rw [this];simp
theorem own_ok (x:zb) (hl:x.Kids.length < 1099511627776):zbK (pat x) (ownB x):=by
 refine zgj (pat x) _ ⟨fun many=>many=(if x.Kind=1∨x.Kind=2 then (x.Kids.length:Int)+2 else x.Kids.length)∧(x.Kind=1∨x.Kind=2∨x.Kind=3∨x.Kind=4),?_,fun h5=>?_,fun h5=>?_⟩
 ·rintro many ⟨rfl,hk⟩
  show ownB x=((!noSet x.Set) == (x.Kind == 2) && (x.Lo == 0 && (x.Hi == 0 && (decide (_≥2) && (!decide (x.Kind < 3) || _ == 2)))))
  rcases hk with h | h | h | h
  all_goals simp only [ownB,h]
  ·cases noSet x.Set<;>cases hlo:(x.Lo == 0)<;>cases hhi:(x.Hi == 0)<;>simp [len0]
  ·cases noSet x.Set<;>cases hlo:(x.Lo == 0)<;>cases hhi:(x.Hi == 0)<;>simp [len0]
  ·cases noSet x.Set<;>cases hlo:(x.Lo == 0)<;>cases hhi:(x.Hi == 0)<;>simp<;>omega
  ·cases noSet x.Set<;>cases hlo:(x.Lo == 0)<;>cases hhi:(x.Hi == 0)<;>simp<;>omega
 ·have h5:x.Kind=5:=by simpa [pat] using h5
  refine ⟨fun hs=>⟨fun h1=>⟨_,times_ok (pat x),?_⟩,fun h1=>?_⟩,fun hs=>?_⟩
  ·have h1:x.Kids.length=1:=by simp [pat] at h1;omega
   have hs:noSet x.Set=true:=by rw [Bool.not_not] at hs;exact hs
   simp only [ownB,if_pos h5,hs,h1];rfl
  ·have h1:x.Kids.length≠1:=by simp [pat] at h1;omega
   simp [ownB,if_pos h5,h1]
  ·have hs:noSet x.Set=false:=by rw [Bool.not_not] at hs;exact hs
   simp [ownB,if_pos h5,hs]
 ·have h5:x.Kind≠5:=by simpa [pat] using h5
  refine ⟨fun b=>b=decide (x.Kind=1∨x.Kind=2),fun b hb=>⟨fun h=>?_,fun h=>?_⟩,fun h=>?_,fun h=>?_⟩
  ·have h12:x.Kind=1∨x.Kind=2:=by rw [h] at hb;simpa using hb.symm
   refine ⟨?_,by omega⟩
   rw [if_pos h12];exact zQ (by show _≤(x.Kids.length:Int)+2;omega) (by show (x.Kids.length:Int)+2≤_;omega)
  ·have h12:¬ (x.Kind=1∨x.Kind=2):=by rw [h] at hb;simpa using hb.symm
   refine ⟨fun b=>b=decide (x.Kind=3∨x.Kind=4),fun b' hb'=>⟨fun h'=>?_,fun h'=>?_⟩,fun h'=>?_,fun h'=>?_⟩
   ·have h34:x.Kind=3∨x.Kind=4:=by rw [h'] at hb';simpa using hb'.symm
    exact ⟨by rw [if_neg h12];rfl,by omega⟩
   ·have h34:¬ (x.Kind=3∨x.Kind=4):=by rw [h'] at hb';simpa using hb'.symm
    simp only [ownB];rw [if_neg h5,if_neg (by omega),if_neg (by omega),if_neg h34]
   ·have:x.Kind=3:=by simpa [pat] using h'
    simp [pat,this]
   ·have:x.Kind≠3:=by simpa [pat] using h'
    simp [pat,this];rfl
  ·have:x.Kind=1:=by simpa [pat] using h
   simp [pat,this]
  ·have:x.Kind≠1:=by simpa [pat] using h
   simp [pat,this];rfl
theorem rxRight_ok:∀ x,Wf x→∀ deep,-1000≤deep→deep≤1000→zaD (pat x) deep (rgt x deep):=by
 refine rxInd fun x ih hw deep hd0 hd1=>?_
 obtain ⟨hl,hk⟩:=(wf_eq x).1 hw
 have hodd:∀ k∈x.Kids,0 < deep→za9 k (pat x) deep (oddK x k || !rgt k (deep - 1)) (pat x) deep:=by
  intro k hkm hpos
  have hw1:w64 (deep - 1)=deep - 1:=zQ (by omega) (by omega)
  have hrec:zaD ({ Kind:=zb.Kind k,Set:=zb.Set k,Lo:=zb.Lo k,Hi:=zb.Hi k,Kids:=zb.Kids k }) (w64 (deep - 1)) (rgt k (deep - 1)):=by
   rw [hw1];exact ih k hkm (hk k hkm) _ (by omega) (by omega)
  refine zdO k (pat x) deep _ _ _ ⟨fun h1=>⟨fun h2=>?_,fun h2=>⟨_,hrec,?_,rfl,rfl⟩⟩,fun h1=>⟨_,hrec,?_,rfl,rfl⟩⟩
  ·have h1:(k.Kind == x.Kind)=true:=h1
   have h2:(x.Kind != 5)=true:=h2
   simp [oddK,h1,h2]
  ·have h2:(x.Kind != 5)=false:=h2
   simp [oddK,h2]
  ·have h1:(k.Kind == x.Kind)=false:=h1
   simp [oddK,h1]
 have hall:∀ l:List zb,l.length < 1099511627776→(∀ k∈l,k∈x.Kids)→0 < deep→zH l (pat x) deep (l.any fun k=>oddK x k || !rgt k (deep - 1)) (pat x) deep:=by
  intro l hll hlm hpos
  obtain ⟨z,hz,hz2⟩:∃ z:Int,(decide (z≥0)=l.any fun k=>oddK x k || !rgt k (deep - 1))∧zJ l (pat x) deep z (pat x) deep:=by
   have hfind:∀ i:Nat,(∀ (j:Nat) (hj:j < l.length),j < i→(oddK x l[j] || !rgt l[j] (deep - 1))=false)→(i=l.length→(l.any fun k=>oddK x k || !rgt k (deep - 1))=false):=by
    intro i h e
    subst e
    rw [List.any_eq_false]
    intro k hkm
    obtain ⟨j,hj,rfl⟩:=List.mem_iff_getElem.1 hkm
    rw [h j hj hj];simp
   cases hany:l.any fun k=>oddK x k || !rgt k (deep - 1) with
   | false=>
     refine ⟨-1,by simp,?_⟩
     refine zaf l (pat x) deep _ _ _ ⟨fun a b c d e f g h o t=>(⟨a,⟨b,c,d,e⟩,f,g,h⟩:zl)=pat x∧o=deep∧∃ i:Nat,t=i∧i≤l.length,fun _ _ _ _ _ _ _ _ _ t=>(l.length - t).toNat,⟨rfl,rfl,0,rfl,by omega⟩,?_⟩
     rintro a b c d e f g h o t ⟨hp,rfl,i,rfl,hi⟩
     refine ⟨fun ht=>?_,fun ht=>⟨rfl,hp.symm,rfl⟩⟩
     have ht:i < l.length:=by simpa using ht
     have hw2:w64 ((i:Int)+1)=((i+1:Nat):Int):=zQ (by omega) (by omega)
     refine ⟨by omega,by omega,_,pat x,o,by rw [zW ht,hp];exact hodd l[i] (hlm _ (List.getElem_mem ht)) hpos,fun hb=>?_,fun hb=>?_⟩
     ·rw [List.any_eq_false] at hany
      exact absurd hb (hany _ (List.getElem_mem ht))
     ·rw [hw2]
      exact ⟨⟨rfl,rfl,i+1,rfl,by omega⟩,by dsimp only;omega⟩
   | true=>
     obtain ⟨k0,hk0,hk1⟩:=List.any_eq_true.1 hany
     have hex:∃ i:Nat,∃ hi:i < l.length,(oddK x l[i] || !rgt l[i] (deep - 1))=true∧∀ (j:Nat) (hj:j < i),(oddK x (l[j]'(by omega)) || !rgt (l[j]'(by omega)) (deep - 1))=false:=by
      obtain ⟨j0,hj0,rfl⟩:=List.mem_iff_getElem.1 hk0
      induction j0 using Nat.strongRecOn with
      | _ j0 ihj=>
        by_cases hex:∃ j:Nat,∃ hj:j < j0,(oddK x (l[j]'(by omega)) || !rgt (l[j]'(by omega)) (deep - 1))=true
        ·obtain ⟨j,hj,hj1⟩:=hex
         exact ihj j hj (by omega) (List.getElem_mem _) hj1
        ·refine ⟨j0,hj0,hk1,fun j hj=>?_⟩
         cases hb:(oddK x (l[j]'(by omega)) || !rgt (l[j]'(by omega)) (deep - 1)) with
         | false=>rfl
         | true=>exact absurd ⟨j,hj,hb⟩ hex
     obtain ⟨n,hn,hn1,hn2⟩:=hex
     refine ⟨n,by simp,?_⟩
     refine zaf l (pat x) deep _ _ _ ⟨fun a b c d e f g h o t=>(⟨a,⟨b,c,d,e⟩,f,g,h⟩:zl)=pat x∧o=deep∧∃ i:Nat,t=i∧i≤n,fun _ _ _ _ _ _ _ _ _ t=>(l.length - t).toNat,⟨rfl,rfl,0,rfl,by omega⟩,?_⟩
     rintro a b c d e f g h o t ⟨hp,rfl,i,rfl,hi⟩
     refine ⟨fun ht=>?_,fun ht=>?_⟩
     ·have ht:i < l.length:=by simpa using ht
      have hw2:w64 ((i:Int)+1)=((i+1:Nat):Int):=zQ (by omega) (by omega)
      refine ⟨by omega,by omega,_,pat x,o,by rw [zW ht,hp];exact hodd l[i] (hlm _ (List.getElem_mem ht)) hpos,fun hb=>⟨?_,rfl,rfl⟩,fun hb=>?_⟩
      ·rcases Nat.lt_or_ge i n with hlt | hge
       ·rw [hn2 i hlt] at hb;cases hb
       ·have:i=n:=by omega
        rw [this]
      ·rcases Nat.lt_or_ge i n with hlt | hge
       ·rw [hw2]
        exact ⟨⟨rfl,rfl,i+1,rfl,by omega⟩,by dsimp only;omega⟩
       ·have:i=n:=by omega
        subst this
        rw [hn1] at hb;cases hb
     ·have:¬ i < l.length:=by simpa using ht
      omega
  refine zaI l (pat x) deep _ _ _ ⟨z,_,_,hz2,hz.symm,rfl,rfl⟩
 rw [rgt_eq]
 refine zfh (pat x) deep _ ⟨fun hd=>⟨_,own_ok x hl,fun ho=>⟨_,_,_,hall x.Kids hl (fun _ h=>h) (by simpa using hd),?_⟩,fun ho=>?_⟩,fun hd=>?_⟩
 ·rw [hd,ho]
  simp only [Bool.true_and]
  rw [List.any_eq_not_all_not,Bool.not_not]
  congr 1
  funext k
  cases oddK x k<;>cases rgt k (deep - 1)<;>rfl
 ·rw [ho];simp
 ·rw [hd];simp
def rightB (x:zb):Bool:=rgt x 20 && (decide (sizeZ x≤200) && decide (nodesZ x 1000≥0))
theorem zc6 (x:zb) (hw:Wf x):zcx x (rightB x):=by
 refine W_rx_Right x _ ⟨_,rxRight_ok x hw 20 (by omega) (by omega),fun h=>⟨_,rxSize_ok x hw,fun h2=>⟨_,rxNodes_ok x hw 1000 (by omega) (by omega),?_⟩,fun h2=>?_⟩,fun h=>?_⟩
 ·rw [rightB,h,h2];rfl
 ·rw [rightB,h2];simp
 ·rw [rightB,h];simp
end Go.Ev.Pl
namespace Go.Ev.Pl
open Go Go.Ev
theorem noSet_eq (s:zc):(s.e0 == 0 && (s.e1 == 0 && (s.e2 == 0 && (s.e3 == 0 && true))))=noSet s:=rfl
theorem zgt (l:List zb):((l.length:Int) == 0)=decide (l.length=0):=by
 show decide _=decide _
 simp only [decide_eq_decide];omega
theorem refRight_ok:∀ x,Wf x→∀ deep,-1000≤deep→deep≤1000→zaN x deep (rgt x deep):=by
 refine rxInd fun x ih hw deep hd0 hd1=>?_
 obtain ⟨hl,hk⟩:=(wf_eq x).1 hw
 have hw1:w64 (deep - 1)=deep - 1:=zQ (by omega) (by omega)
 rw [rgt_eq]
 refine zeJ x deep _ ⟨fun h=>?_,fun h=>?_⟩
 ·have:¬ deep > 0:=by have:deep < 1:=by simpa using h
                      omega
  simp [this]
 have hd:decide (deep > 0)=true:=by have:¬ deep < 1:=by simpa using h
                                    simp;omega
 have hpos:0 < deep:=by simpa using hd
 rw [hd,Bool.true_and]
 simp only [noSet_eq,Bool.not_not]
 refine ⟨fun h1=>?_,fun h1=>⟨fun h2=>?_,fun h2=>⟨fun h5=>?_,fun h5=>?_⟩⟩⟩
 ·have h1:x.Kind=1:=by simpa using h1
  have:x.Kids.all (fun k=>!oddK x k && rgt k (deep - 1))=true∨¬ x.Kids.length=0:=by
   cases x.Kids with
   | nil=>exact .inl rfl
   | cons a r=>right;simp
  simp only [ownB,h1]
  rcases this with h | h
  ·rw [h,zgt];simp
  ·rw [zgt];simp [h]
 ·have h2:x.Kind=2:=by simpa using h2
  have:x.Kids.all (fun k=>!oddK x k && rgt k (deep - 1))=true∨¬ x.Kids.length=0:=by
   cases x.Kids with
   | nil=>exact .inl rfl
   | cons a r=>right;simp
  simp only [ownB,h2]
  rcases this with h | h
  ·rw [h,zgt];simp
  ·rw [zgt];simp [h]
 ·have h5:x.Kind=5:=by simpa using h5
  have hmax:(if true=true then if x.Lo > 1 then x.Lo else 1 else if x.Lo < 1 then x.Lo else 1)=max 1 x.Lo:=by simp;omega
  have hmax2:(if x.Lo > 1 then x.Lo else 1)=max 1 x.Lo:=by omega
  simp only [eq_self,if_true,hmax2]
  have hown:ownB x=(noSet x.Set && (decide (x.Kids.length=1) && timesB x.Lo x.Hi)):=by simp only [ownB,if_pos h5]
  refine ⟨fun hs=>⟨fun hlo=>⟨fun hlo2=>⟨fun hhi=>⟨fun h1=>⟨fun _ _ _ _ _=>?_,_,ih _ ?_ (hk _ ?_) _ (by omega) (by omega),?_⟩,fun h1=>?_⟩,fun hhi=>?_⟩,fun hlo2=>?_⟩,fun hlo=>?_⟩,fun hs=>?_⟩
  ·have h1':x.Kids.length=1:=by (rw [List.length_map] at h1;have:(x.Kids.length:Int)=1:=by simpa using h1);omega
   omega
  ·have h1':x.Kids.length=1:=by (rw [List.length_map] at h1;have:(x.Kids.length:Int)=1:=by simpa using h1);omega
   match hq:x.Kids,h1' with
   | [a],_=>simp
  ·have h1':x.Kids.length=1:=by (rw [List.length_map] at h1;have:(x.Kids.length:Int)=1:=by simpa using h1);omega
   match hq:x.Kids,h1' with
   | [a],_=>simp
  ·-- the kid's word
   have h1':x.Kids.length=1:=by (rw [List.length_map] at h1;have:(x.Kids.length:Int)=1:=by simpa using h1);omega
   match hq:x.Kids,h1' with
   | [a],_=>
     have ht:timesB x.Lo x.Hi=true:=by
      have a1:decide (0≤x.Lo)=true:=by have:x.Lo≥0:=by simpa using hlo
                                       simp;omega
      simp only [timesB,a1,hlo2,hhi,Bool.true_and]
     rw [hown,hs,hq,ht,hw1]
     have ho:oddK x a=false:=by simp [oddK,h5]
     simp [ho]
  ·have h1':x.Kids.length≠1:=by intro e;rw [List.length_map,e] at h1;simp at h1
   rw [hown];simp [h1']
  ·rw [hown];simp only [timesB];rw [hhi];simp
  ·rw [hown];simp only [timesB];rw [hlo2];simp
  ·have:decide (0≤x.Lo)=false:=by have:¬ x.Lo≥0:=by simpa using hlo
                                  simp;omega
   rw [hown];simp only [timesB];rw [this];simp
  ·rw [hown,hs];simp
 ·have h1:x.Kind≠1:=by simpa using h1
  have h2:x.Kind≠2:=by simpa using h2
  have h5:x.Kind≠5:=by simpa using h5
  have hodd:∀ k,oddK x k=(k.Kind == x.Kind):=fun k=>by simp [oddK,h5]
  refine ⟨fun b=>b=decide (x.Kind=3∨x.Kind=4),fun b hb=>⟨fun hbt=>⟨fun hg=>?_,fun hg=>?_⟩,fun hbf=>?_⟩,fun h3=>?_,fun h3=>?_⟩
  ·have h34:x.Kind=3∨x.Kind=4:=by rw [hbt] at hb;simpa using hb.symm
   have:ownB x=false:=by
    simp only [ownB,if_neg h5,if_neg h1,if_neg h2,if_pos h34]
    simp only [Bool.or_eq_true,decide_eq_true_eq,Bool.not_eq_true',Bool.and_eq_false_iff] at hg ⊢
    rcases hg with hg | hg | hg
    ·exact .inl hg
    ·exact .inr (.inl (hg.imp id id))
    ·right;right;simp;omega
   rw [this];simp
  ·have h34:x.Kind=3∨x.Kind=4:=by rw [hbt] at hb;simpa using hb.symm
   have hown:ownB x=true:=by
    simp only [ownB,if_neg h5,if_neg h1,if_neg h2,if_pos h34]
    simp only [Bool.or_eq_false_iff,decide_eq_false_iff_not,Bool.not_eq_false',Bool.and_eq_true,decide_eq_true_eq] at hg ⊢
    obtain ⟨g1,g2,g3⟩:=hg
    exact ⟨g1,g2,by omega⟩
   rw [hown,Bool.true_and]
   refine ⟨fun t=>∃ i:Nat,t=i∧i≤x.Kids.length∧(x.Kids.take i).all (fun k=>!oddK x k && rgt k (deep - 1))=true,fun t=>(x.Kids.length - t).toNat,⟨0,rfl,by omega,rfl⟩,?_⟩
   rintro t ⟨i,rfl,hi,hall⟩
   refine ⟨fun ht=>?_,fun ht=>?_⟩
   ·have ht:i < x.Kids.length:=by simpa using ht
    have hw2:w64 ((i:Int)+1)=((i+1:Nat):Int):=zQ (by omega) (by omega)
    have hm:=List.getElem_mem ht
    have hfail:∀ {b:Bool},(!oddK x x.Kids[i] && rgt x.Kids[i] (deep - 1))=false→(x.Kids.all fun k=>!oddK x k && rgt k (deep - 1))=false:=fun h=>by
     rw [List.all_eq_false];exact ⟨_,hm,by rw [h];simp⟩
    refine ⟨by omega,by omega,fun ho=>?_,fun ho=>⟨fun _=>by omega,fun _=>by omega,_,by rw [zW ht,hw1];exact ih _ hm (hk _ hm) _ (by omega) (by omega),fun hr=>?_,fun hr=>?_⟩⟩
    ·rw [zW ht] at ho
     exact (hfail (b:=true) (by rw [hodd,ho];rfl)).symm▸rfl
    ·have hr:rgt x.Kids[i] (deep - 1)=false:=by simpa using hr
     exact hfail (b:=true) (by rw [hr];simp)
    ·have hr:rgt x.Kids[i] (deep - 1)=true:=by simpa using hr
     rw [zW ht] at ho
     rw [hw2]
     refine ⟨⟨i+1,rfl,by omega,?_⟩,by dsimp only;omega⟩
     rw [List.take_succ_eq_append_getElem ht,List.all_append,hall]
     simp [hodd,ho,hr]
   ·have ht:i=x.Kids.length:=by have:¬ i < x.Kids.length:=by simpa using ht
                                omega
    subst ht
    rw [List.take_of_length_le (Nat.le_refl _)] at hall
    exact hall
  ·have h34:¬ (x.Kind=3∨x.Kind=4):=by rw [hbf] at hb;simpa using hb.symm
   have:ownB x=false:=by simp only [ownB,if_neg h5,if_neg h1,if_neg h2,if_neg h34]
   rw [this];simp
  ·have:x.Kind=3:=by simpa using h3
   simp [this]
  ·have:x.Kind≠3:=by simpa using h3
   simp [this];rfl
theorem zcO (x:zb) (hw:Wf x):zaO x (rightB x):=by
 refine zeK x _ ⟨_,refRight_ok x hw 20 (by omega) (by omega),fun h=>⟨_,refSize_ok x hw,fun h2=>⟨_,refNodes_ok x hw 1000 (by omega) (by omega),?_⟩,fun h2=>?_⟩,fun h=>?_⟩
 ·rw [rightB,h,h2];rfl
 ·rw [rightB,h2];simp
 ·rw [rightB,h];simp
def nullB:zb→Bool:=cata fun x l=>if x.Kind=1 then true else if x.Kind=3 then l.all id else if x.Kind=4 then l.any id else if x.Kind=5 then decide (x.Lo≤0) || l.all id else false
theorem nullB_eq (x:zb):nullB x=if x.Kind=1 then true else if x.Kind=3 then x.Kids.all nullB else if x.Kind=4 then x.Kids.any nullB else if x.Kind=5 then decide (x.Lo≤0) || x.Kids.all nullB else false:=by
 unfold nullB;rw [zey];simp only [List.all_map,List.any_map];rfl
end Go.Ev.Pl
namespace Go.Ev.Pl
open Go Go.Ev
structure GA where
 n:Nat
 sets:List zc
 null:Bool
 first:Nat→Bool
 last:Nat→Bool
 follow:Nat→Nat→Bool
def gEmpty:GA:=⟨0,[],true,fun _=>false,fun _=>false,fun _ _=>false⟩
def gNone:GA:=⟨0,[],false,fun _=>false,fun _=>false,fun _ _=>false⟩
def gByte (s:zc):GA:=⟨1,[s],false,fun i=>i == 0,fun i=>i == 0,fun _ _=>false⟩
def blk (n:Nat) (p q:Nat→Nat→Bool) (r:Nat→Nat→Bool) (i j:Nat):Bool:=
 if i < n then (if j < n then p i j else r i (j - n)) else (if j < n then false else q (i - n) (j - n))
def gCat (a b:GA):GA:=
 ⟨a.n+b.n,a.sets++b.sets,a.null && b.null,fun i=>if i < a.n then a.first i else a.null && b.first (i - a.n),
   fun i=>if i < a.n then b.null && a.last i else b.last (i - a.n),blk a.n a.follow b.follow fun i j=>a.last i && b.first j⟩
def gAlt (a b:GA):GA:=
 ⟨a.n+b.n,a.sets++b.sets,a.null || b.null,fun i=>if i < a.n then a.first i else b.first (i - a.n),
   fun i=>if i < a.n then a.last i else b.last (i - a.n),blk a.n a.follow b.follow fun _ _=>false⟩
def gAgain (a:GA):GA:={ a with follow:=fun i j=>a.follow i j || a.last i && a.first j }
def gMaybe (a:GA):GA:={ a with null:=true }
theorem cat_empty_l (a:GA):gCat gEmpty a=a:=by
 cases a;simp [gCat,gEmpty];funext i j;simp [blk]
theorem alt_none_l (a:GA):gAlt gNone a=a:=by
 cases a;simp [gAlt,gNone];funext i j;simp [blk]
theorem cat_assoc (a b c:GA):gCat (gCat a b) c=gCat a (gCat b c):=by
 obtain ⟨an,asx,au,af,al,ao⟩:=a
 obtain ⟨bn,bs,bu,bf,bl,bo⟩:=b
 obtain ⟨cn,cs,cu,cf,cl,co⟩:=c
 simp only [gCat,GA.mk.injEq,List.append_assoc,Nat.add_assoc,true_and,Bool.and_assoc]
 refine ⟨?_,?_,?_⟩
 ·funext i
  have e:i - (an+bn)=i - an - bn:=by omega
  rw [e]
  by_cases h1:i < an
  ·simp [h1,show i < an+bn by omega]
  ·by_cases h2:i < an+bn
   ·simp [h1,h2,show i - an < bn by omega]
   ·simp [h1,h2,show ¬ i - an < bn by omega]
 ·funext i
  have e:i - (an+bn)=i - an - bn:=by omega
  rw [e]
  by_cases h1:i < an
  ·simp only [h1,show i < an+bn by omega,if_true]
   cases bu<;>cases cu<;>simp
  ·by_cases h2:i < an+bn
   ·simp [h1,h2,show i - an < bn by omega]
   ·simp [h1,h2,show ¬ i - an < bn by omega]
 ·funext i j
  simp only [blk]
  have e:i - (an+bn)=i - an - bn:=by omega
  have e':j - (an+bn)=j - an - bn:=by omega
  rw [e,e']
  by_cases h1:i < an<;>by_cases h2:i < an+bn<;>by_cases h3:j < an<;>by_cases h4:j < an+bn
  all_goals first | omega | skip
  ·simp [h1,h2,h3,h4]
  ·simp [h1,h2,h3,h4,show j - an < bn by omega]
  ·simp [h1,h2,h3,h4,show ¬ j - an < bn by omega]
   cases bu<;>simp
  ·simp [h1,h2,h3,h4,show i - an < bn by omega]
  ·simp [h1,h2,h3,h4,show i - an < bn by omega,show j - an < bn by omega]
  ·simp [h1,h2,h3,h4,show i - an < bn by omega,show ¬ j - an < bn by omega]
  ·simp [h1,h2,h3,h4,show ¬ i - an < bn by omega]
  ·simp [h1,h2,h3,h4,show ¬ i - an < bn by omega,show j - an < bn by omega]
  ·simp [h1,h2,h3,h4,show ¬ i - an < bn by omega,show ¬ j - an < bn by omega]
structure Canon (a:GA):Prop where
 sets:a.sets.length=a.n
 first:∀ i,a.n≤i→a.first i=false
 last:∀ i,a.n≤i→a.last i=false
 follow:∀ i j,a.n≤i∨a.n≤j→a.follow i j=false
theorem cat_empty_r {a:GA} (h:Canon a):gCat a gEmpty=a:=by
 obtain ⟨n,sets,null,f,l,fo⟩:=a
 simp only [gCat,gEmpty,GA.mk.injEq,Nat.add_zero,List.append_nil,Bool.and_true,Bool.and_false,true_and]
 refine ⟨?_,?_,?_⟩
 ·funext i;split
  ·rfl
  ·rename_i hi;exact (h.first i (by show n≤i;omega)).symm
 ·funext i;split
  ·rfl
  ·rename_i hi;exact (h.last i (by show n≤i;omega)).symm
 ·funext i j
  simp only [blk]
  split<;>split
  ·rfl
  ·rename_i h1 h2;exact (h.follow i j (by show n≤i∨n≤j;omega)).symm
  ·rename_i h1 h2;exact (h.follow i j (by show n≤i∨n≤j;omega)).symm
  ·rename_i h1 h2;exact (h.follow i j (by show n≤i∨n≤j;omega)).symm
theorem canon_zero {a:GA} (h:Canon a) (hn:a.n=0) (hnull:a.null=true):a=gEmpty:=by
 obtain ⟨n,sets,null,f,l,fo⟩:=a
 simp only at hn hnull;subst hn hnull
 have hs:sets=[]:=List.length_eq_zero_iff.1 h.sets
 subst hs
 simp only [gEmpty,GA.mk.injEq,true_and]
 exact ⟨funext fun i=>h.first i (Nat.zero_le _),funext fun i=>h.last i (Nat.zero_le _),funext fun i=>funext fun j=>h.follow i j (.inl (Nat.zero_le _))⟩
theorem zbm:Canon gEmpty:=⟨rfl,fun _ _=>rfl,fun _ _=>rfl,fun _ _ _=>rfl⟩
theorem zd1:Canon gNone:=⟨rfl,fun _ _=>rfl,fun _ _=>rfl,fun _ _ _=>rfl⟩
theorem canon_byte (s:zc):Canon (gByte s):=⟨rfl,fun i h=>by simp [gByte] at h ⊢;omega,fun i h=>by simp [gByte] at h ⊢;omega,fun _ _ _=>rfl⟩
theorem zbI {a b:GA} (ha:Canon a) (hb:Canon b):Canon (gCat a b):=by
 refine ⟨by simp [gCat,ha.sets,hb.sets],fun i h=>?_,fun i h=>?_,fun i j h=>?_⟩
 ·simp only [gCat] at h ⊢;rw [if_neg (by omega),hb.first _ (by omega)];simp
 ·simp only [gCat] at h ⊢;rw [if_neg (by omega),hb.last _ (by omega)]
 ·simp only [gCat,blk] at h ⊢
  split<;>split
  ·omega
  ·rw [hb.first _ (by omega)];simp
  ·rfl
  ·exact hb.follow _ _ (by omega)
theorem zhy {a b:GA} (ha:Canon a) (hb:Canon b):Canon (gAlt a b):=by
 refine ⟨by simp [gAlt,ha.sets,hb.sets],fun i h=>?_,fun i h=>?_,fun i j h=>?_⟩
 ·simp only [gAlt] at h ⊢;rw [if_neg (by omega),hb.first _ (by omega)]
 ·simp only [gAlt] at h ⊢;rw [if_neg (by omega),hb.last _ (by omega)]
 ·simp only [gAlt,blk] at h ⊢
  split<;>split
  ·omega
  ·rfl
  ·rfl
  ·exact hb.follow _ _ (by omega)
theorem zca {a:GA} (h:Canon a):Canon (gAgain a):=
 ⟨h.sets,h.first,h.last,fun i j hij=>by
   simp only [gAgain] at hij ⊢
   rw [h.follow i j hij]
   rcases hij with hi | hj
   ·rw [h.last i hi];rfl
   ·rw [h.first j hj];simp⟩
theorem zcE {a:GA} (h:Canon a):Canon (gMaybe a):=⟨h.sets,h.first,h.last,h.follow⟩
def iter (f:GA→GA):Nat→GA→GA
 | 0,z=>z
 | k+1,z=>f (iter f k z)
theorem iter_in (f:GA→GA):∀ k z,iter f (k+1) z=iter f k (f z)
 | 0,_=>rfl
 | k+1,z=>by rw [iter,iter_in f k];rfl
def leftp (a:GA) (k:Nat):GA:=iter (fun o=>gCat o a) k gEmpty
theorem leftp_cat (a:GA):∀ k z,gCat (leftp a k) z=iter (gCat a) k z
 | 0,z=>cat_empty_l z
 | k+1,z=>by
   show gCat (gCat (leftp a k) a) z=_
   rw [cat_assoc,leftp_cat a k,← iter_in]
theorem zb9 {f:GA→GA} (hf:∀ a,Canon a→Canon (f a)):∀ k {z},Canon z→Canon (iter f k z)
 | 0,_,h=>h
 | k+1,_,h=>hf _ (zb9 hf k h)
def gRep (a:GA) (lo hi:Int):GA:=
 if hi < 0 then iter (gCat a) (max lo 1 - 1).toNat (if lo=0 then gMaybe (gAgain a) else gAgain a)
 else iter (gCat a) lo.toNat (iter (fun o=>gMaybe (gCat a o)) (hi - lo).toNat gEmpty)
theorem canon_rep {a:GA} (h:Canon a) (lo hi:Int):Canon (gRep a lo hi):=by
 unfold gRep
 split
 ·refine zb9 (fun b hb=>zbI h hb) _ ?_
  split
  ·exact zcE (zca h)
  ·exact zca h
 ·exact zb9 (fun b hb=>zbI h hb) _ (zb9 (fun b hb=>zcE (zbI h hb)) _ zbm)
def gof:zb→GA:=cata fun x l=>
 if x.Kind=2 then gByte x.Set else if x.Kind=3 then l.foldl gCat gEmpty else if x.Kind=4 then l.foldl gAlt gNone
 else if x.Kind=5 then gRep (l.headD gEmpty) x.Lo x.Hi else gEmpty
theorem zcT (x:zb):gof x=if x.Kind=2 then gByte x.Set else if x.Kind=3 then x.Kids.foldl (fun o y=>gCat o (gof y)) gEmpty else if x.Kind=4 then x.Kids.foldl (fun o y=>gAlt o (gof y)) gNone
 else if x.Kind=5 then gRep ((x.Kids.map gof).headD gEmpty) x.Lo x.Hi else gEmpty:=by
 unfold gof;rw [zey];simp only [List.foldl_map]
theorem zaB:∀ x,Canon (gof x):=by
 refine rxInd fun x ih=>?_
 have key:∀ (f:GA→GA→GA),(∀ a b,Canon a→Canon b→Canon (f a b))→∀ (l:List zb) (z:GA),(∀ y∈l,y∈x.Kids)→Canon z→Canon (l.foldl (fun o y=>f o (gof y)) z):=by
  intro f hf l
  induction l with
  | nil=>intro z _ h;exact h
  | cons y r ih2=>intro z hl h;exact ih2 _ (fun a ha=>hl a (List.mem_cons_of_mem _ ha)) (hf _ _ h (ih y (hl y (List.mem_cons_self ..))))
 rw [zcT]
 split
 ·exact canon_byte _
 ·split
  ·exact key gCat (fun a b=>zbI) _ _ (fun _ h=>h) zbm
  ·split
   ·exact key gAlt (fun a b=>zhy) _ _ (fun _ h=>h) zd1
   ·split
    ·refine canon_rep ?_ _ _
     cases hq:x.Kids with
     | nil=>exact zbm
     | cons y r=>exact ih y (by rw [hq];exact List.mem_cons_self ..)
    ·exact zbm
end Go.Ev.Pl
namespace Go.Ev.Pl
open Go Go.Ev
def lst (n:Nat) (p:Nat→Bool) (off:Nat):List Int:=((List.range n).filter p).map fun i=>((i+off:Nat):Int)
theorem za4 {n:Nat} {p:Nat→Bool} {off:Nat} {x:Int}:x∈lst n p off↔∃ i,i < n∧p i=true∧x=((i+off:Nat):Int):=by
 simp only [lst,List.mem_map,List.mem_filter,List.mem_range]
 constructor
 ·rintro ⟨i,⟨h1,h2⟩,rfl⟩;exact ⟨i,h1,h2,rfl⟩
 ·rintro ⟨i,h1,h2,rfl⟩;exact ⟨i,⟨h1,h2⟩,rfl⟩
theorem zbh (n:Nat) (p:Nat→Bool) (off:Nat):SS (lst n p off):=by
 unfold lst SS
 rw [List.pairwise_map]
 refine List.Pairwise.filter _ ?_
 exact List.pairwise_lt_range.imp fun h=>by omega
theorem zaj (n:Nat) (p:Nat→Bool) (off:Nat):(lst n p off).length≤n:=by
 unfold lst
 rw [List.length_map]
 exact Nat.le_trans (List.length_filter_le _ _) (by simp)
theorem lst_congr {n:Nat} {p q:Nat→Bool} {off:Nat} (h:∀ i,i < n→p i=q i):lst n p off=lst n q off:=by
 unfold lst
 rw [List.filter_congr fun i hi=>h i (List.mem_range.1 hi)]
theorem lst_left {n m:Nat} {p:Nat→Bool} {off:Nat} {q:Nat→Bool} (h1:∀ i,i < n→q i=p i) (h2:∀ i,n≤i→i < n+m→q i=false):lst n p off=lst (n+m) q off:=by
 refine zhQ (zbh _ _ _) (zbh _ _ _) fun x=>?_
 rw [za4,za4]
 constructor
 ·rintro ⟨i,hi,hp,rfl⟩;exact ⟨i,by omega,by rw [h1 i hi];exact hp,rfl⟩
 ·rintro ⟨i,hi,hp,rfl⟩
  rcases Nat.lt_or_ge i n with h | h
  ·exact ⟨i,h,by rw [← h1 i h];exact hp,rfl⟩
  ·rw [h2 i h hi] at hp;cases hp
theorem zgZ {n m:Nat} {p:Nat→Bool} {off:Nat} {q:Nat→Bool} (h1:∀ i,i < n→q i=false) (h2:∀ i,i < m→q (n+i)=p i):lst m p (off+n)=lst (n+m) q off:=by
 refine zhQ (zbh _ _ _) (zbh _ _ _) fun x=>?_
 rw [za4,za4]
 constructor
 ·rintro ⟨i,hi,hp,rfl⟩;exact ⟨n+i,by omega,by rw [h2 i hi];exact hp,by omega⟩
 ·rintro ⟨i,hi,hp,rfl⟩
  rcases Nat.lt_or_ge i n with h | h
  ·rw [h1 i h] at hp;cases hp
  ·exact ⟨i - n,by omega,by rw [← h2 _ (by omega),show n+(i - n)=i by omega];exact hp,by omega⟩
theorem ze0 {n m:Nat} {p p':Nat→Bool} {off:Nat} {q:Nat→Bool} {l:List Int} (hs:SS l) (hm:∀ x,x∈l↔x∈lst n p off∨x∈lst m p' (off+n)) (h1:∀ i,i < n→q i=p i) (h2:∀ i,i < m→q (n+i)=p' i):l=lst (n+m) q off:=by
 refine zhQ hs (zbh _ _ _) fun x=>?_
 rw [hm,za4,za4,za4]
 constructor
 ·rintro (⟨i,hi,hp,rfl⟩ | ⟨i,hi,hp,rfl⟩)
  ·exact ⟨i,by omega,by rw [h1 i hi];exact hp,rfl⟩
  ·exact ⟨n+i,by omega,by rw [h2 i hi];exact hp,by omega⟩
 ·rintro ⟨i,hi,hp,rfl⟩
  rcases Nat.lt_or_ge i n with h | h
  ·exact .inl ⟨i,h,by rw [← h1 i h];exact hp,rfl⟩
  ·exact .inr ⟨i - n,by omega,by rw [← h2 _ (by omega),show n+(i - n)=i by omega];exact hp,by omega⟩
def flw (g:GA) (off:Nat):List (List Int):=(List.range g.n).map fun i=>lst g.n (g.follow i) off
theorem zX (g:GA) (off:Nat):(flw g off).length=g.n:=by simp [flw]
theorem zbN (g:GA) (off:Nat) {i:Nat} (h:i < g.n):(flw g off)[i]'(by rw [zX];exact h)=lst g.n (g.follow i) off:=by simp [flw]
theorem flw_ext {g:GA} {off:Nat} {l:List (List Int)} (hl:l.length=g.n) (h:∀ (i:Nat) (hi:i < l.length),l[i]=lst g.n (g.follow i) off):l=flw g off:=by
 apply List.ext_getElem
 ·rw [hl,zX]
 ·intro i h1 h2
  rw [h i h1,zbN g off (by rw [hl] at h1;exact h1)]
def leadF (F:List (List Int)) (fr to:List Int):List (List Int):=F.mapIdx fun i f=>if (i:Int)∈fr then join f to else f
theorem zaz (F:List (List Int)) (fr to:List Int):(leadF F fr to).length=F.length:=by simp [leadF]
theorem zaV (F:List (List Int)) (fr to:List Int) {i:Nat} (h:i < F.length):(leadF F fr to)[i]'(by rw [zaz];exact h)=if (i:Int)∈fr then join F[i] to else F[i]:=by simp [leadF]
theorem zgu (F0:List (List Int)) (a b:GA):leadF (F0++flw a F0.length++flw b (F0.length+a.n)) (lst a.n a.last F0.length) (lst b.n b.first (F0.length+a.n))=F0++flw (gCat a b) F0.length:=by
 apply List.ext_getElem
 ·rw [zaz];simp only [List.length_append,zX];simp only [gCat];omega
 ·intro i h1 h2
  rw [zaz] at h1
  rw [zaV _ _ _ h1]
  simp only [List.length_append,zX] at h1
  have hin:(i:Int)∈lst a.n a.last F0.length↔F0.length≤i∧i < F0.length+a.n∧a.last (i - F0.length)=true:=by
   rw [za4]
   constructor
   ·rintro ⟨j,hj,hp,e⟩
    have:i=j+F0.length:=by omega
    subst this
    exact ⟨by omega,by omega,by rw [Nat.add_sub_cancel];exact hp⟩
   ·rintro ⟨q1,q2,q3⟩
    exact ⟨i - F0.length,by omega,q3,by omega⟩
  rcases Nat.lt_or_ge i F0.length with hi | hi
  ·rw [if_neg (by rw [hin];omega),List.getElem_append_left (by simp only [List.length_append,zX];omega),List.getElem_append_left hi,List.getElem_append_left hi]
  ·have hr:(F0++flw (gCat a b) F0.length)[i]'h2=lst (a.n+b.n) ((gCat a b).follow (i - F0.length)) F0.length:=by
    rw [List.getElem_append_right hi,zbN _ _ (by show _ < a.n+b.n;omega)];rfl
   rw [hr]
   rcases Nat.lt_or_ge i (F0.length+a.n) with hi2 | hi2
   ·have hl:(F0++flw a F0.length++flw b (F0.length+a.n))[i]'(by simp only [List.length_append,zX];omega)=lst a.n (a.follow (i - F0.length)) F0.length:=by
     rw [List.getElem_append_left (by simp only [List.length_append,zX];omega),List.getElem_append_right hi,zbN _ _ (by omega)]
    rw [hl]
    by_cases hla:a.last (i - F0.length)=true
    ·rw [if_pos (hin.2 ⟨hi,hi2,hla⟩)]
     obtain ⟨j1,j2⟩:=zcg (lst a.n (a.follow (i - F0.length)) F0.length) (lst b.n b.first (F0.length+a.n))
     refine ze0 j1 j2 (fun j hj=>?_) (fun j hj=>?_)
     ·simp only [gCat,blk];rw [if_pos (by omega),if_pos hj]
     ·simp only [gCat,blk];rw [if_pos (by omega),if_neg (by omega),hla,Nat.add_sub_cancel_left];rfl
    ·rw [if_neg (fun h=>hla (hin.1 h).2.2)]
     have hla:a.last (i - F0.length)=false:=by simpa using hla
     refine lst_left (fun j hj=>?_) (fun j h1 h2=>?_)
     ·simp only [gCat,blk];rw [if_pos (by omega),if_pos hj]
     ·simp only [gCat,blk];rw [if_pos (by omega),if_neg (by omega),hla];rfl
   ·rw [if_neg (by rw [hin];omega)]
    have hl:(F0++flw a F0.length++flw b (F0.length+a.n))[i]'(by simp only [List.length_append,zX];omega)=lst b.n (b.follow (i - (F0.length+a.n))) (F0.length+a.n):=by
     rw [List.getElem_append_right (by simp only [List.length_append,zX];omega)]
     simp only [List.length_append,zX]
     rw [zbN _ _ (by omega)]
    rw [hl]
    refine zgZ (fun j hj=>?_) (fun j hj=>?_)
    ·simp only [gCat,blk];rw [if_neg (by omega),if_pos hj]
    ·simp only [gCat,blk];rw [if_neg (by omega),if_neg (by omega),show i - F0.length - a.n=i - (F0.length+a.n) by omega,Nat.add_sub_cancel_left]
theorem zh3 (F0:List (List Int)) (a:GA):leadF (F0++flw a F0.length) (lst a.n a.last F0.length) (lst a.n a.first F0.length)=F0++flw (gAgain a) F0.length:=by
 apply List.ext_getElem
 ·rw [zaz];simp only [List.length_append,zX];rfl
 ·intro i h1 h2
  rw [zaz] at h1
  rw [zaV _ _ _ h1]
  simp only [List.length_append,zX] at h1
  have hin:(i:Int)∈lst a.n a.last F0.length↔F0.length≤i∧i < F0.length+a.n∧a.last (i - F0.length)=true:=by
   rw [za4]
   constructor
   ·rintro ⟨j,hj,hp,e⟩
    have:i=j+F0.length:=by omega
    subst this
    exact ⟨by omega,by omega,by rw [Nat.add_sub_cancel];exact hp⟩
   ·rintro ⟨q1,q2,q3⟩
    exact ⟨i - F0.length,by omega,q3,by omega⟩
  rcases Nat.lt_or_ge i F0.length with hi | hi
  ·rw [if_neg (by rw [hin];omega),List.getElem_append_left hi,List.getElem_append_left hi]
  ·have hr:(F0++flw (gAgain a) F0.length)[i]'h2=lst a.n ((gAgain a).follow (i - F0.length)) F0.length:=by
    rw [List.getElem_append_right hi,zbN _ _ (by show _ < a.n;omega)];rfl
   have hl:(F0++flw a F0.length)[i]'(by simp only [List.length_append,zX];omega)=lst a.n (a.follow (i - F0.length)) F0.length:=by
    rw [List.getElem_append_right hi,zbN _ _ (by omega)]
   rw [hr,hl]
   by_cases hla:a.last (i - F0.length)=true
   ·rw [if_pos (hin.2 ⟨hi,by omega,hla⟩)]
    obtain ⟨j1,j2⟩:=zcg (lst a.n (a.follow (i - F0.length)) F0.length) (lst a.n a.first F0.length)
    refine zhQ j1 (zbh _ _ _) fun x=>?_
    rw [j2,za4,za4,za4]
    simp only [gAgain,hla,Bool.true_and,Bool.or_eq_true]
    constructor
    ·rintro (⟨j,q1,q2,rfl⟩ | ⟨j,q1,q2,rfl⟩)
     ·exact ⟨j,q1,.inl q2,rfl⟩
     ·exact ⟨j,q1,.inr q2,rfl⟩
    ·rintro ⟨j,q1,q2 | q2,rfl⟩
     ·exact .inl ⟨j,q1,q2,rfl⟩
     ·exact .inr ⟨j,q1,q2,rfl⟩
   ·rw [if_neg (fun h=>hla (hin.1 h).2.2)]
    have hla:a.last (i - F0.length)=false:=by simpa using hla
    exact lst_congr fun j hj=>by simp [gAgain,hla]
theorem flw_alt (a b:GA) (off:Nat):flw a off++flw b (off+a.n)=flw (gAlt a b) off:=by
 refine flw_ext (by simp [zX,gAlt]) fun i hi=>?_
 simp only [List.length_append,zX] at hi
 show _=lst (a.n+b.n) _ off
 rcases Nat.lt_or_ge i a.n with h | h
 ·rw [List.getElem_append_left (by rw [zX];exact h),zbN _ _ h]
  refine lst_left (fun j hj=>?_) (fun j h1 h2=>?_)
  ·simp only [gAlt,blk];rw [if_pos h,if_pos hj]
  ·simp only [gAlt,blk];rw [if_pos h,if_neg (by omega)]
 ·rw [List.getElem_append_right (by rw [zX];exact h)]
  simp only [zX]
  rw [zbN _ _ (by omega)]
  refine zgZ (fun j hj=>?_) (fun j hj=>?_)
  ·simp only [gAlt,blk];rw [if_neg (by omega),if_pos hj]
  ·simp only [gAlt,blk];rw [if_neg (by omega),if_neg (by omega),Nat.add_sub_cancel_left]
def pc (g:GA) (off:Nat):zi:=⟨lst g.n g.first off,lst g.n g.last off,g.null⟩
theorem zhw (a b:GA) (off:Nat):(if a.null=true then join (lst a.n a.first off) (lst b.n b.first (off+a.n)) else lst a.n a.first off)=lst (a.n+b.n) (gCat a b).first off:=by
 split
 ·rename_i h
  obtain ⟨j1,j2⟩:=zcg (lst a.n a.first off) (lst b.n b.first (off+a.n))
  exact ze0 j1 j2 (fun j hj=>by simp only [gCat];rw [if_pos hj]) (fun j hj=>by simp only [gCat];rw [if_neg (by omega),h,Nat.add_sub_cancel_left];rfl)
 ·rename_i h
  have h:a.null=false:=by simpa using h
  exact lst_left (fun j hj=>by simp only [gCat];rw [if_pos hj]) (fun j h1 h2=>by simp only [gCat];rw [if_neg (by omega),h];rfl)
theorem zfd (a b:GA) (off:Nat):(if b.null=true then join (lst a.n a.last off) (lst b.n b.last (off+a.n)) else lst b.n b.last (off+a.n))=lst (a.n+b.n) (gCat a b).last off:=by
 split
 ·rename_i h
  obtain ⟨j1,j2⟩:=zcg (lst a.n a.last off) (lst b.n b.last (off+a.n))
  exact ze0 j1 j2 (fun j hj=>by simp only [gCat];rw [if_pos hj,h];rfl) (fun j hj=>by simp only [gCat];rw [if_neg (by omega),Nat.add_sub_cancel_left])
 ·rename_i h
  have h:b.null=false:=by simpa using h
  exact zgZ (fun j hj=>by simp only [gCat];rw [if_pos hj,h];rfl) (fun j hj=>by simp only [gCat];rw [if_neg (by omega),Nat.add_sub_cancel_left])
theorem alt_first (a b:GA) (off:Nat):join (lst a.n a.first off) (lst b.n b.first (off+a.n))=lst (a.n+b.n) (gAlt a b).first off:=by
 obtain ⟨j1,j2⟩:=zcg (lst a.n a.first off) (lst b.n b.first (off+a.n))
 exact ze0 j1 j2 (fun j hj=>by simp only [gAlt];rw [if_pos hj]) (fun j hj=>by simp only [gAlt];rw [if_neg (by omega),Nat.add_sub_cancel_left])
theorem alt_last (a b:GA) (off:Nat):join (lst a.n a.last off) (lst b.n b.last (off+a.n))=lst (a.n+b.n) (gAlt a b).last off:=by
 obtain ⟨j1,j2⟩:=zcg (lst a.n a.last off) (lst b.n b.last (off+a.n))
 exact ze0 j1 j2 (fun j hj=>by simp only [gAlt];rw [if_pos hj]) (fun j hj=>by simp only [gAlt];rw [if_neg (by omega),Nat.add_sub_cancel_left])
end Go.Ev.Pl
namespace Go.Ev.Pl
open Go Go.Ev
theorem set_eq {α:Type} {l:List α} {i:Nat} {x:α} {m:List α} (hl:m.length=l.length) (h1:∀ (j:Nat) (h:j < l.length),j≠i→m[j]'(by omega)=l[j]) (h2:∀ h:i < l.length,m[i]'(by omega)=x):l.set i x=m:=by
 apply List.ext_getElem
 ·simp [hl]
 ·intro j a b
  rw [List.getElem_set]
  split
  ·rename_i e;subst e;exact (h2 (by simpa using a)).symm
  ·rename_i e;exact (h1 j (by simpa using a) (fun h=>e h.symm)).symm
theorem zcW {α:Type} {L:List (List α)} {i:Nat} (h:i < L.length):(L.take (i+1)).flatten=(L.take i).flatten++L[i]:=by
 rw [List.take_succ_eq_append_getElem h,List.flatten_append];simp
theorem zbW {α:Type} (L:List (List α)) (i:Nat):(L.take i).flatten.length≤L.flatten.length:=by
 conv=>rhs;rw [← List.take_append_drop i L]
 rw [List.flatten_append,List.length_append];omega
theorem concat_ok (L:List (List Int)) (hL:L.length < 1099511627776) (hT:L.flatten.length < 1000000000):zam L L.flatten:=by
 refine zc0 L _ ⟨fun s t=>∃ i:Nat,t=i∧i≤L.length∧s=(L.take i).flatten.length,fun s t=>(L.length - t).toNat,⟨0,rfl,by omega,by simp⟩,?_⟩
 rintro s t ⟨i,rfl,hi,rfl⟩
 have hb:=zbW L i
 refine ⟨fun ht=>?_,fun ht=>?_⟩
 ·have ht:i < L.length:=by simpa using ht
  have hs:=congrArg List.length (zcW ht)
  rw [List.length_append] at hs
  have hb2:=zbW L (i+1)
  have hg:gd L (i:Int)=L[i]:=zW ht
  have hw1:w64 (((L.take i).flatten.length:Int)+(gd L (i:Int)).length)=((L.take (i+1)).flatten.length:Int):=by
   rw [hg,hs];exact (zQ (by omega) (by omega)).trans (by omega)
  have hw2:w64 ((i:Int)+1)=((i+1:Nat):Int):=zQ (by omega) (by omega)
  rw [hw1,hw2]
  exact ⟨True,fun _=>⟨⟨i+1,rfl,by omega,rfl⟩,by dsimp only;omega⟩,by omega,by omega,fun h=>absurd (of_decide_eq_true h) (by omega),fun _=>trivial⟩
 ·refine ⟨⟨by omega,by omega⟩,fun l t=>∃ i:Nat,t=i∧i≤L.length∧l=(L.take i).flatten,fun l t=>(L.length - t).toNat,⟨0,rfl,by omega,rfl⟩,?_⟩
  rintro l t ⟨j,rfl,hj,rfl⟩
  have hb3:=zbW L j
  refine ⟨fun ht=>?_,fun ht=>?_⟩
  ·have ht:j < L.length:=by simpa using ht
   have hg:gd L (j:Int)=L[j]:=zW ht
   have hs:=zcW ht
   have hs2:=congrArg List.length hs
   rw [List.length_append] at hs2
   have hb2:=zbW L (j+1)
   have hw2:w64 ((j:Int)+1)=((j+1:Nat):Int):=zQ (by omega) (by omega)
   rw [hw2,hg]
   exact ⟨by omega,by omega,by omega,⟨j+1,rfl,by omega,hs.symm⟩,by dsimp only;omega⟩
  ·have:j=L.length:=by have:¬ j < L.length:=by simpa using ht
                       omega
   subst this
   rw [List.take_of_length_le (Nat.le_refl _)]
theorem zdF (a b:List Int) (ha:a.length < 100000000) (hb:b.length < 100000000):zah a b (join a b):=by
 have h:=concat_ok [a,b] (by simp) (by simp;omega)
 have e:[a,b].flatten=a++b:=by simp
 rw [e] at h
 exact zgk a b _ ⟨_,h,by simp;omega,sort_len _,by rw [sort_len];simp;omega,rfl⟩
theorem lead_ok (fr to:List Int) (b:zk) (hfr:SS fr) (hin:∀ x∈fr,0≤x∧x < b.follow.length) (hto:to.length < 10000000) (hF:∀ f∈b.follow,f.length < 10000000) (hlen:fr.length < 10000000):zaX fr to b { sets:=b.sets,follow:=leadF b.follow fr to }:=by
 refine zd9 fr to b _ ⟨fun F t=>∃ i:Nat,t=i∧i≤fr.length∧F=leadF b.follow (fr.take i) to,fun F t=>(fr.length - t).toNat,⟨0,rfl,by omega,by simp [leadF];exact (List.ext_getElem (by simp) (fun j h1 h2=>by simp))⟩,?_⟩
 rintro F t ⟨i,rfl,hi,rfl⟩
 refine ⟨fun ht=>?_,fun ht=>?_⟩
 ·have ht:i < fr.length:=by simpa using ht
  have hg:gd fr (i:Int)=fr[i]:=zW ht
  rw [hg]
  obtain ⟨q0,q1⟩:=hin _ (List.getElem_mem ht)
  obtain ⟨e,he⟩:∃ e:Nat,fr[i]=e:=⟨fr[i].toNat,by omega⟩
  rw [he] at q1 ⊢
  have he2:e < b.follow.length:=by omega
  have hl:(leadF b.follow (fr.take i) to).length=b.follow.length:=zaz _ _ _
  have hnot:∀ j:Nat,(hj:j < b.follow.length)→j=e→¬ ((j:Int)∈fr.take i):=by
   rintro j hj rfl hm
   obtain ⟨k,hk,hk2⟩:=List.mem_iff_getElem.1 hm
   simp only [List.length_take] at hk
   rw [List.getElem_take] at hk2
   have:=List.pairwise_iff_getElem.1 hfr k i (by omega) ht (by omega)
   omega
  have hge:gd (leadF b.follow (fr.take i) to) (e:Int)=b.follow[e]:=by
   rw [zW (by rw [hl];exact he2),zaV _ _ _ he2,if_neg (hnot e he2 rfl)]
  have hw2:w64 ((i:Int)+1)=((i+1:Nat):Int):=zQ (by omega) (by omega)
  refine ⟨by omega,by omega,by omega,by rw [hl];omega,by rw [hl];omega,join b.follow[e] to,?_,by omega,by rw [hl];omega,by rw [hl];omega,?_⟩
  ·rw [hge];exact zdF _ _ (by have:=hF _ (List.getElem_mem he2);omega) (by omega)
  ·rw [hw2]
   refine ⟨⟨i+1,rfl,by omega,?_⟩,by dsimp only;omega⟩
   show List.set _ e _=_
   refine set_eq (by rw [zaz,zaz]) (fun j hj hne=>?_) (fun hj=>?_)
   ·rw [hl] at hj
    rw [zaV _ _ _ hj,zaV _ _ _ hj,List.take_succ_eq_append_getElem ht,he]
    have:((j:Int)∈fr.take i++[(e:Int)])↔(j:Int)∈fr.take i:=by
     rw [List.mem_append,List.mem_singleton]
     constructor
     ·rintro (h | h)
      ·exact h
      ·exact absurd (by omega) hne
     ·exact .inl
    simp only [this]
   ·rw [zaV _ _ _ he2,List.take_succ_eq_append_getElem ht,he,if_pos (by simp)]
 ·have:i=fr.length:=by have:¬ i < fr.length:=by simpa using ht
                       omega
  subst this
  rw [List.take_of_length_le (Nat.le_refl _)]
theorem zdK (g:GA) (off:Nat) (h:g.n < 10000000):∀ f∈flw g off,f.length < 10000000:=by
 intro f hf
 simp only [flw,List.mem_map,List.mem_range] at hf
 obtain ⟨i,_,rfl⟩:=hf
 have:=zaj g.n (g.follow i) off
 omega
theorem cat_ok (F0:List (List Int)) (S:List zc) (a b:GA) (hF:∀ f∈F0,f.length < 10000000) (hab:a.n+b.n < 1000000) (hF2:F0.length < 1000000) :
 zaK (pc a F0.length) (pc b (F0.length+a.n)) { sets:=S,follow:=F0++flw a F0.length++flw b (F0.length+a.n) } (pc (gCat a b) F0.length) { sets:=S,follow:=F0++flw (gCat a b) F0.length }:=by
 have hla:=zaj a.n a.last F0.length
 have hlb:=zaj b.n b.first (F0.length+a.n)
 have hlb2:=zaj b.n b.last (F0.length+a.n)
 have hla2:=zaj a.n a.first F0.length
 have hlead:=lead_ok (lst a.n a.last F0.length) (lst b.n b.first (F0.length+a.n)) { sets:=S,follow:=F0++flw a F0.length++flw b (F0.length+a.n) } (zbh _ _ _) (fun x hx=>by
  obtain ⟨i,hi,_,rfl⟩:=za4.1 hx
  simp only [List.length_append,zX];omega) (by omega) (fun f hf=>by
  rcases List.mem_append.1 hf with hf | hf
  ·rcases List.mem_append.1 hf with hf | hf
   ·exact hF f hf
   ·exact zdK a _ (by omega) f hf
  ·exact zdK b _ (by omega) f hf) (by omega)
 simp only [zgu] at hlead
 refine zeC _ _ _ _ _ ⟨_,hlead,fun l=>l=lst (a.n+b.n) (gCat a b).first F0.length,?_,fun hn=>⟨_,zdF _ _ (by show (lst _ _ _).length < _;omega) (by show (lst _ _ _).length < _;omega),?_⟩,fun hn=>?_⟩
 ·rintro l rfl
  refine ⟨fun l=>l=lst (a.n+b.n) (gCat a b).last F0.length,?_,fun hn=>⟨_,zdF _ _ (by show (lst _ _ _).length < _;omega) (by show (lst _ _ _).length < _;omega),?_⟩,fun hn=>?_⟩
  ·rintro l rfl;exact ⟨rfl,rfl⟩
  ·have:=zfd a b F0.length
   rw [if_pos (show b.null=true from hn)] at this;exact this
  ·have:=zfd a b F0.length
   rw [if_neg (by show ¬ (b.null=true);have:b.null=false:=hn;simp [this])] at this;exact this
 ·have:=zhw a b F0.length
  rw [if_pos (show a.null=true from hn)] at this;exact this
 ·have:=zhw a b F0.length
  rw [if_neg (by show ¬ (a.null=true);have:a.null=false:=hn;simp [this])] at this;exact this
end Go.Ev.Pl
namespace Go.Ev.Pl
open Go Go.Ev
def Rgt (x:zb):Prop:=∃ d,rgt x d=true
theorem zfy {x:zb} (h:Rgt x):ownB x=true∧∀ k∈x.Kids,Rgt k:=by
 obtain ⟨d,h⟩:=h
 rw [rgt_eq] at h
 simp only [Bool.and_eq_true,List.all_eq_true] at h
 exact ⟨h.1.2,fun k hk=>⟨d - 1,(h.2 k hk).2⟩⟩
theorem zgU {x:zb} (h:ownB x=true) (h5:x.Kind=5):(∃ k,x.Kids=[k])∧0≤x.Lo∧x.Lo≤20∧(x.Hi = -1∨1≤x.Hi∧x.Lo≤x.Hi∧x.Hi≤20):=by
 simp only [ownB,if_pos h5,timesB,Bool.and_eq_true,decide_eq_true_eq,Bool.or_eq_true,beq_iff_eq] at h
 obtain ⟨_,h1,h2,h3,h4⟩:=h
 refine ⟨?_,h2,h3,?_⟩
 ·match hq:x.Kids,h1 with
  | [k],_=>exact ⟨k,rfl⟩
 ·rcases h4 with h4 | ⟨h4,h5⟩
  ·exact .inl h4
  ·exact .inr (by omega)
theorem own_kids {x:zb} (h:ownB x=true) (h34:x.Kind=3∨x.Kind=4):2≤x.Kids.length:=by
 simp only [ownB] at h
 rw [if_neg (by omega),if_neg (by omega),if_neg (by omega),if_pos h34] at h
 simp only [Bool.and_eq_true,decide_eq_true_eq] at h
 exact h.2.2
theorem zeT {x:zb} (h:ownB x=true):x.Kind=1∨x.Kind=2∨x.Kind=3∨x.Kind=4∨x.Kind=5:=by
 simp only [ownB] at h
 split at h
 ·omega
 ·split at h
  ·omega
  ·split at h
   ·omega
   ·split at h
    ·omega
    ·cases h
theorem zg6 {f:GA→GA} {a:GA} (hf:∀ o,(f o).n=a.n+o.n):∀ k z,(iter f k z).n=k * a.n+z.n
 | 0,z=>by simp [iter]
 | k+1,z=>by rw [iter,hf,zg6 hf k,Nat.succ_mul];omega
def cpS (a:GA) (k:Nat):List zc:=(List.replicate k a.sets).flatten
theorem ze2 {f:GA→GA} {a:GA} (hf:∀ o,(f o).sets=a.sets++o.sets):∀ k z,(iter f k z).sets=cpS a k++z.sets
 | 0,z=>by simp [iter,cpS]
 | k+1,z=>by rw [iter,hf,ze2 hf k];simp [cpS,List.replicate_succ]
theorem zg5 (a:GA):∀ k z,(iter (gCat a) k z).null=(z.null && (decide (k=0) || a.null))
 | 0,z=>by simp [iter]
 | k+1,z=>by
   rw [iter]
   show (a.null && (iter (gCat a) k z).null)=_
   rw [zg5 a k z]
   cases a.null<;>cases z.null<;>simp
theorem rep_n (a:GA) {lo hi:Int} (h1:0≤lo) (h2:hi = -1∨1≤hi∧lo≤hi):(gRep a lo hi).n=(max 1 (max lo hi)).toNat * a.n:=by
 unfold gRep
 split
 ·rw [zg6 (f:=gCat a) (a:=a) (fun _=>rfl)]
  have:(if lo=0 then gMaybe (gAgain a) else gAgain a).n=a.n:=by split<;>rfl
  rw [this,← Nat.succ_mul]
  congr 1
  omega
 ·rw [zg6 (f:=gCat a) (a:=a) (fun _=>rfl),zg6 (f:=fun o=>gMaybe (gCat a o)) (a:=a) (fun _=>rfl)]
  show _+(_+0)=_
  rw [Nat.add_zero,← Nat.add_mul]
  congr 1
  omega
theorem rep_sets (a:GA) {lo hi:Int} (h1:0≤lo) (h2:hi = -1∨1≤hi∧lo≤hi):(gRep a lo hi).sets=cpS a (max 1 (max lo hi)).toNat:=by
 have key:∀ j k,cpS a j++cpS a k=cpS a (j+k):=fun j k=>by
  simp only [cpS];rw [← List.flatten_append,List.replicate_append_replicate]
 unfold gRep
 split
 ·rw [ze2 (f:=gCat a) (a:=a) (fun _=>rfl)]
  have:(if lo=0 then gMaybe (gAgain a) else gAgain a).sets=cpS a 1:=by split<;>simp [cpS,gMaybe,gAgain]
  rw [this,key]
  congr 1
  omega
 ·rw [ze2 (f:=gCat a) (a:=a) (fun _=>rfl),ze2 (f:=fun o=>gMaybe (gCat a o)) (a:=a) (fun _=>rfl)]
  show _++(_++[])=_
  rw [List.append_nil,key]
  congr 1
  omega
theorem rep_null (a:GA) {lo hi:Int} (h1:0≤lo) (h2:hi = -1∨1≤hi∧lo≤hi):(gRep a lo hi).null=(decide (lo≤0) || a.null):=by
 unfold gRep
 split
 ·rw [zg5]
  by_cases h:lo=0
  ·subst h;simp [gMaybe,gAgain];left;rfl
  ·have:¬ lo≤0:=by omega
   simp only [if_neg h,gAgain,this,decide_false,Bool.false_or]
   cases a.null<;>simp
 ·rw [zg5]
  have hin:∀ k,(iter (fun o=>gMaybe (gCat a o)) k gEmpty).null=true:=by
   intro k;cases k<;>rfl
  rw [hin,Bool.true_and]
  congr 1
  simp only [decide_eq_decide];omega
theorem zhk {f:GA→GA→GA} (hf:∀ a b,(f a b).n=a.n+b.n):∀ (l:List zb) (z:GA),(l.foldl (fun o y=>f o (gof y)) z).n=z.n+(l.map fun y=>(gof y).n).sum
 | [],z=>by simp
 | y :: r,z=>by rw [List.foldl_cons,zhk hf r,hf];simp;omega
theorem gof_n:∀ x,Rgt x→(gof x).n=sizeN x:=by
 refine rxInd fun x ih hr=>?_
 obtain ⟨ho,hk⟩:=zfy hr
 have hkn:(x.Kids.map fun y=>(gof y).n)=x.Kids.map sizeN:=List.map_congr_left fun y hy=>ih y hy (hk y hy)
 rw [zcT,zcp]
 rcases zeT ho with h | h | h | h | h
 ·simp [h,gEmpty]
 ·simp [h,gByte]
 ·simp only [h]
  simp only [show ¬ ((3:Int)=2) by omega,if_false,if_true,show (3:Int)≤3∧(3:Int)≤5 from ⟨by omega,by omega⟩,show ¬ ((3:Int)=5) by omega]
  rw [zhk (f:=gCat) (fun _ _=>rfl),hkn]
  show 0+_=_;simp
 ·simp only [h]
  simp only [show ¬ ((4:Int)=2) by omega,show ¬ ((4:Int)=3) by omega,if_false,if_true,show (3:Int)≤4∧(4:Int)≤5 from ⟨by omega,by omega⟩,show ¬ ((4:Int)=5) by omega]
  rw [zhk (f:=gAlt) (fun _ _=>rfl),hkn]
  show 0+_=_;simp
 ·obtain ⟨⟨k,hq⟩,h1,h2,h3⟩:=zgU ho h
  simp only [h]
  simp only [show ¬ ((5:Int)=2) by omega,show ¬ ((5:Int)=3) by omega,show ¬ ((5:Int)=4) by omega,if_false,if_true,show (3:Int)≤5∧(5:Int)≤5 from ⟨by omega,by omega⟩]
  rw [hq]
  simp only [List.map_cons,List.map_nil,List.headD_cons,List.sum_cons,List.sum_nil,Nat.add_zero]
  rw [rep_n _ h1 (by omega),ih k (by rw [hq];simp) (hk k (by rw [hq];simp)),Nat.mul_comm]
  congr 1
  simp only [timesN];omega
theorem zeg:∀ (l:List zb) (z:GA),(l.foldl (fun o y=>gCat o (gof y)) z).null=(z.null && l.all fun y=>(gof y).null)
 | [],z=>by simp
 | y :: r,z=>by rw [List.foldl_cons,zeg r];simp [gCat,Bool.and_assoc]
theorem zeh:∀ (l:List zb) (z:GA),(l.foldl (fun o y=>gAlt o (gof y)) z).null=(z.null || l.any fun y=>(gof y).null)
 | [],z=>by simp
 | y :: r,z=>by rw [List.foldl_cons,zeh r];simp [gAlt,Bool.or_assoc]
theorem all_congr' {l:List zb} {p q:zb→Bool} (h:∀ y∈l,p y=q y):l.all p=l.all q:=by
 induction l with
 | nil=>rfl
 | cons y r ih=>simp only [List.all_cons];rw [h y (List.mem_cons_self ..),ih fun z hz=>h z (List.mem_cons_of_mem _ hz)]
theorem any_congr' {l:List zb} {p q:zb→Bool} (h:∀ y∈l,p y=q y):l.any p=l.any q:=by
 induction l with
 | nil=>rfl
 | cons y r ih=>simp only [List.any_cons];rw [h y (List.mem_cons_self ..),ih fun z hz=>h z (List.mem_cons_of_mem _ hz)]
theorem gof_null:∀ x,Rgt x→(gof x).null=nullB x:=by
 refine rxInd fun x ih hr=>?_
 obtain ⟨ho,hk⟩:=zfy hr
 rw [zcT,nullB_eq]
 rcases zeT ho with h | h | h | h | h
 ·simp [h,gEmpty]
 ·simp [h,gByte]
 ·simp only [h]
  simp only [show ¬ ((3:Int)=2) by omega,show ¬ ((3:Int)=1) by omega,if_false,if_true]
  rw [zeg,all_congr' fun y hy=>ih y hy (hk y hy)];rfl
 ·simp only [h]
  simp only [show ¬ ((4:Int)=2) by omega,show ¬ ((4:Int)=3) by omega,show ¬ ((4:Int)=1) by omega,if_false,if_true]
  rw [zeh,any_congr' fun y hy=>ih y hy (hk y hy)];rfl
 ·obtain ⟨⟨k,hq⟩,h1,h2,h3⟩:=zgU ho h
  simp only [h]
  simp only [show ¬ ((5:Int)=2) by omega,show ¬ ((5:Int)=3) by omega,show ¬ ((5:Int)=4) by omega,show ¬ ((5:Int)=1) by omega,if_false,if_true]
  rw [hq]
  simp only [List.map_cons,List.map_nil,List.headD_cons,List.all_cons,List.all_nil,Bool.and_true]
  rw [rep_null _ h1 (by omega),ih k (by rw [hq];simp) (hk k (by rw [hq];simp))]
theorem zero_null:∀ x,Rgt x→sizeN x=0→nullB x=true:=by
 refine rxInd fun x ih hr h0=>?_
 obtain ⟨ho,hk⟩:=zfy hr
 rw [zcp] at h0
 rw [nullB_eq]
 have hsum:(x.Kids.map sizeN).sum=0→∀ y∈x.Kids,nullB y=true:=fun h y hy=>ih y hy (hk y hy) (by
  have:=List.sum_eq_zero_iff_forall_eq_nat.1 h (sizeN y) (List.mem_map.2 ⟨y,hy,rfl⟩);exact this)
 rcases zeT ho with h | h | h | h | h
 ·simp [h]
 ·simp [h] at h0
 ·simp only [h] at h0 ⊢
  simp at h0
  simp only [show ¬ ((3:Int)=1) by omega,if_false,if_true,List.all_eq_true]
  exact hsum h0
 ·simp only [h] at h0 ⊢
  simp at h0
  have h2:=own_kids ho (.inr h)
  simp only [show ¬ ((4:Int)=1) by omega,show ¬ ((4:Int)=3) by omega,if_false,if_true]
  have hm:x.Kids[0]'(by omega)∈x.Kids:=List.getElem_mem _
  exact List.any_eq_true.2 ⟨_,hm,hsum h0 _ hm⟩
 ·obtain ⟨⟨k,hq⟩,h1,h2,h3⟩:=zgU ho h
  simp only [h] at h0 ⊢
  simp only [show ¬ ((5:Int)=2) by omega,if_false,if_true,show (3:Int)≤5∧(5:Int)≤5 from ⟨by omega,by omega⟩] at h0
  have ht:1≤timesN x:=by simp only [timesN];omega
  have hs:(x.Kids.map sizeN).sum=0:=by
   rcases Nat.mul_eq_zero.1 h0 with h | h
   ·exact h
   ·omega
  simp only [show ¬ ((5:Int)=3) by omega,show ¬ ((5:Int)=4) by omega,show ¬ ((5:Int)=1) by omega,if_false,if_true]
  have:x.Kids.all nullB=true:=List.all_eq_true.2 (hsum hs)
  rw [this];simp
theorem gof_zero {x:zb} (hr:Rgt x) (h0:sizeN x=0):gof x=gEmpty:=
 canon_zero (zaB x) ((gof_n x hr).trans h0) ((gof_null x hr).trans (zero_null x hr h0))
end Go.Ev.Pl
namespace Go.Ev.Pl
open Go Go.Ev
def hF (h:Nat→GA) (m n:Nat):Nat→List (List Int)
 | 0=>[]
 | N+1=>hF h m n N++flw (h N) (m+N * n)
theorem hF_len {h:Nat→GA} {m n:Nat} (hn:∀ j,(h j).n=n):∀ N,(hF h m n N).length=N * n
 | 0=>by simp [hF]
 | N+1=>by rw [hF,List.length_append,hF_len hn N,zX,hn,Nat.succ_mul]
theorem hF_congr {h h':Nat→GA} {m n:Nat}:∀ N,(∀ j,j < N→h j=h' j)→hF h m n N=hF h' m n N
 | 0,_=>rfl
 | N+1,e=>by rw [hF,hF,hF_congr N (fun j hj=>e j (by omega)),e N (by omega)]
theorem zgx {h:Nat→GA} {m n:Nat} (hs:∀ j,(h j).n < 10000000):∀ N,∀ f∈hF h m n N,f.length < 10000000
 | 0,f,hf=>by simp [hF] at hf
 | N+1,f,hf=>by
   rw [hF,List.mem_append] at hf
   rcases hf with hf | hf
   ·exact zgx hs N f hf
   ·exact zdK _ _ (hs N) f hf
theorem cpS_succ (a:GA) (k:Nat):cpS a (k+1)=cpS a k++a.sets:=by
 simp only [cpS,List.replicate_succ',List.flatten_append];simp
structure Room (F0:List (List Int)) (S:List zc) (n:Nat):Prop where
 same:S.length=F0.length
 small:∀ f∈F0,f.length < 10000000
 room:F0.length+n < 1000000
def PieceOk (x:zb):Prop:=∀ F0 S,Room F0 S (gof x).n→zao x { sets:=S,follow:=F0 } (pc (gof x) F0.length) { sets:=S++(gof x).sets,follow:=F0++flw (gof x) F0.length }
theorem copies_ok {k:zb} (hp:PieceOk k) (N:Nat) (hN:N≤1000) (F0:List (List Int)) (S:List zc) (hr:Room F0 S (N * (gof k).n)) :
 zav k N { sets:=S,follow:=F0 } ((List.range N).map fun i=>pc (gof k) (F0.length+i * (gof k).n)) { sets:=S++cpS (gof k) N,follow:=F0++hF (fun _=>gof k) F0.length (gof k).n N }:=by
 have hc:=zaB k
 refine zds k N _ _ _ ⟨fun s f o t=>∃ i:Nat,t=i∧i≤N∧s=S++cpS (gof k) i∧f=F0++hF (fun _=>gof k) F0.length (gof k).n i∧o=(List.range i).map fun i=>pc (gof k) (F0.length+i * (gof k).n),
  fun _ _ _ t=>(N - t).toNat,⟨0,rfl,by omega,by simp [cpS],by simp [hF],rfl⟩,?_⟩
 rintro s f o t ⟨i,rfl,hi,rfl,rfl,rfl⟩
 refine ⟨fun ht=>?_,fun ht=>?_⟩
 ·have ht:i < N:=by simpa using ht
  have hle:(i+1) * (gof k).n≤N * (gof k).n:=Nat.mul_le_mul_right _ ht
  rw [Nat.add_mul,Nat.one_mul] at hle
  have hlen:(F0++hF (fun _=>gof k) F0.length (gof k).n i).length=F0.length+i * (gof k).n:=by rw [List.length_append,hF_len fun _=>rfl]
  have hroom:=hr.room
  have hsl:∀ j,(cpS (gof k) j).length=j * (gof k).n:=fun j=>by simp [cpS,hc.sets]
  have:=hp (F0++hF (fun _=>gof k) F0.length (gof k).n i) (S++cpS (gof k) i) ⟨by rw [hlen,List.length_append,hr.same,hsl],fun f hf=>by
   rcases List.mem_append.1 hf with hf | hf
   ·exact hr.small f hf
   ·exact zgx (fun _=>by omega) i f hf,by rw [hlen];omega⟩
  rw [hlen,List.append_assoc,List.append_assoc,← cpS_succ] at this
  have hw2:w64 ((i:Int)+1)=((i+1:Nat):Int):=zQ (by omega) (by omega)
  refine ⟨_,_,this,by simp;omega,?_⟩
  rw [hw2]
  exact ⟨⟨i+1,rfl,by omega,rfl,rfl,by rw [List.range_succ,List.map_append];rfl⟩,by dsimp only;omega⟩
 ·have:i=N:=by have:¬ i < N:=by simpa using ht
               omega
  subst this
  exact ⟨rfl,rfl⟩
def fromEnd (h:Nat→GA) (mb:Nat→Bool) (N:Nat):Nat→GA
 | 0=>gEmpty
 | i+1=>let o:=gCat (h (N - 1 - i)) (fromEnd h mb N i);if mb (N - 1 - i)=true then gMaybe o else o
theorem fromEnd_n {h:Nat→GA} {mb:Nat→Bool} {N n:Nat} (hn:∀ j,(h j).n=n):∀ i,(fromEnd h mb N i).n=i * n
 | 0=>by simp [fromEnd,gEmpty]
 | i+1=>by
   simp only [fromEnd]
   have:(gCat (h (N - 1 - i)) (fromEnd h mb N i)).n=(i+1) * n:=by
    show (h (N - 1 - i)).n+(fromEnd h mb N i).n=_
    rw [hn,fromEnd_n hn i,Nat.succ_mul];omega
   split
   ·exact this
   ·exact this
theorem rep_loop {x:zb} {h:Nat→GA} {N n:Nat} {F0:List (List Int)} {S S':List zc} (hn:∀ j,(h j).n=n) (hr:Room F0 S (N * n)) (hN:N≤1000) {l:List zi} (hl:l=(List.range N).map fun j=>pc (h j) (F0.length+j * n))
 {res:zi} {fin:zk} (hres:res=pc (fromEnd h (fun j=>decide (x.Hi≥0) && decide ((j:Int)≥x.Lo)) N N) F0.length)
 (hfin:fin={ sets:=S',follow:=F0++flw (fromEnd h (fun j=>decide (x.Hi≥0) && decide ((j:Int)≥x.Lo)) N N) F0.length }) :
 (List.length l < 1099511627776∧∃ (Inv24:Nat→List zc→List (List Int)→List Int→List Int→Bool→Prop),Inv24 0 S' (F0++hF h F0.length n N) [] [] Bool.true∧
   (∀ (i:Nat) (y:zi),i < List.length l→l[List.length l - 1 - i]?=some y→∀ (s:List zc) (f:List (List Int)) (o1 o2:List Int) (o3:Bool),Inv24 i s f o1 o2 o3→
     (∃ r0_6:zi,∃ o_4:zk,zaK y { first:=o1,last:=o2,null:=o3 } { sets:=s,follow:=f } r0_6 o_4∧
       (((decide (x.Hi≥0) && decide ((List.length l:Int) - 1 - i≥x.Lo))=true→(∃ r0_7:zi,zct r0_6 r0_7∧Inv24 (i+1) o_4.sets o_4.follow r0_7.first r0_7.last r0_7.null))∧
         ((decide (x.Hi≥0) && decide ((List.length l:Int) - 1 - i≥x.Lo))=false→Inv24 (i+1) o_4.sets o_4.follow r0_6.first r0_6.last r0_6.null))))∧
   (∀ (s:List zc) (f:List (List Int)) (o1 o2:List Int) (o3:Bool),Inv24 (List.length l) s f o1 o2 o3→(res={ first:=o1,last:=o2,null:=o3 }∧fin={ sets:=s,follow:=f }))):=by
 have hll:l.length=N:=by rw [hl];simp
 obtain ⟨mb,hmb⟩:∃ mb:Nat→Bool,mb=fun j:Nat=>decide (x.Hi≥0) && decide ((j:Int)≥x.Lo):=⟨_,rfl⟩
 rw [← hmb] at hres hfin
 have hroom:=hr.room
 rw [hll]
 refine ⟨by omega,fun i s f o1 o2 o3=>i≤N∧s=S'∧f=F0++hF h F0.length n (N - i)++flw (fromEnd h mb N i) (F0.length+(N - i) * n)∧(⟨o1,o2,o3⟩:zi)=pc (fromEnd h mb N i) (F0.length+(N - i) * n),⟨by omega,rfl,by simp [fromEnd,flw,gEmpty],rfl⟩,?_,?_⟩
 ·rintro i y hi hy s f o1 o2 o3 ⟨_,rfl,rfl,hp⟩
  have hy:y=pc (h (N - 1 - i)) (F0.length+(N - 1 - i) * n):=by
   rw [hl,List.getElem?_map,List.getElem?_range (by omega)] at hy
   simpa using hy.symm
  have e1:N - i=(N - 1 - i)+1:=by omega
  have hlen:(F0++hF h F0.length n (N - 1 - i)).length=F0.length+(N - 1 - i) * n:=by rw [List.length_append,hF_len hn]
  have hmul:(N - 1 - i) * n+(n+i * n)=N * n:=by
   have:N=(N - 1 - i)+(1+i):=by omega
   conv=>rhs;rw [this,Nat.add_mul,Nat.add_mul,Nat.one_mul]
  have hcat:=cat_ok (F0++hF h F0.length n (N - 1 - i)) s (h (N - 1 - i)) (fromEnd h mb N i) (fun f hf=>by
   rcases List.mem_append.1 hf with hf | hf
   ·exact hr.small f hf
   ·exact zgx (fun j=>by have:=hn j;omega) _ f hf) (by rw [hn,fromEnd_n hn];omega) (by rw [hlen];omega)
  rw [hlen,hn] at hcat
  have hpos:F0.length+(N - 1 - i) * n+n=F0.length+(N - i) * n:=by rw [e1,Nat.succ_mul];omega
  rw [hpos] at hcat
  have hfl:F0++hF h F0.length n (N - i)=F0++hF h F0.length n (N - 1 - i)++flw (h (N - 1 - i)) (F0.length+(N - 1 - i) * n):=by
   rw [e1,hF,List.append_assoc]
  rw [hfl,hp,hy]
  refine ⟨_,_,hcat,fun hm=>⟨_,W_place_maybe _ _ rfl,?_⟩,fun hm=>?_⟩
  all_goals have hidx:((N:Int) - 1 - i)=((N - 1 - i:Nat):Int):=by omega
  all_goals rw [hidx] at hm
  all_goals have e2:N - (i+1)=N - 1 - i:=by omega
  ·have hf:fromEnd h mb N (i+1)=gMaybe (gCat (h (N - 1 - i)) (fromEnd h mb N i)):=by
    simp only [fromEnd];rw [if_pos];rw [hmb];exact hm
   dsimp only;rw [hf,e2]
   exact ⟨by omega,rfl,rfl,rfl⟩
  ·have hf:fromEnd h mb N (i+1)=gCat (h (N - 1 - i)) (fromEnd h mb N i):=by
    simp only [fromEnd];rw [if_neg];rw [hmb];simpa using hm
   dsimp only;rw [hf,e2]
   exact ⟨by omega,rfl,rfl,rfl⟩
 ·rintro s f o1 o2 o3 ⟨_,rfl,rfl,hp⟩
  rw [Nat.sub_self,Nat.zero_mul,Nat.add_zero] at hp
  refine ⟨by rw [hres,hp],?_⟩
  rw [hfin]
  simp [hF]
end Go.Ev.Pl
namespace Go.Ev.Pl
open Go Go.Ev
theorem zhj {g z:GA} {h:Nat→GA} {mb:Nat→Bool} {N:Nat} (hz:Canon z) (hN:1≤N) (hh:∀ j,j < N - 1→h j=g) (hl:h (N - 1)=z) (hm:∀ j,mb j=false):∀ i,i < N→fromEnd h mb N (i+1)=iter (gCat g) i z
 | 0,hi=>by
   simp only [fromEnd,hm]
   rw [if_neg (by simp),Nat.sub_zero,hl,cat_empty_r hz];rfl
 | i+1,hi=>by
   have ih:=zhj hz hN hh hl hm i (by omega)
   rw [fromEnd]
   simp only [hm]
   rw [if_neg (by simp),ih,hh _ (by omega)];rfl
theorem zhi {g:GA} {h:Nat→GA} {mb:Nat→Bool} {N L:Nat} (hL:L≤N) (hh:∀ j,h j=g) (hm:∀ j,j < N→mb j=decide (L≤j)):∀ i,i≤N→
 fromEnd h mb N i=iter (gCat g) (i - (N - L)) (iter (fun o=>gMaybe (gCat g o)) (min i (N - L)) gEmpty)
 | 0,_=>by simp [fromEnd,iter]
 | i+1,hi=>by
   have ih:=zhi hL hh hm i (by omega)
   rw [fromEnd]
   simp only [hh,ih]
   rw [hm _ (by omega)]
   by_cases hc:L≤N - 1 - i
   ·rw [if_pos (by simpa using hc),show i - (N - L)=0 by omega,show i+1 - (N - L)=0 by omega,show min i (N - L)=i by omega,show min (i+1) (N - L)=i+1 by omega];rfl
   ·rw [if_neg (by simpa using hc),show i+1 - (N - L)=(i - (N - L))+1 by omega,show min i (N - L)=N - L by omega,show min (i+1) (N - L)=N - L by omega];rfl
theorem flw_again (g:GA) (b:Prop) [Decidable b] (off:Nat):flw (if b then gMaybe (gAgain g) else gAgain g) off=flw (gAgain g) off:=by split<;>rfl
theorem map_range_set {α:Type} {f:Nat→α} {N i:Nat} {v:α} (h:i < N):((List.range N).map f).set i v=(List.range N).map fun j=>if j=i then v else f j:=by
 refine set_eq (by simp) (fun j hj hne=>?_) (fun hj=>?_)
 ·simp only [List.getElem_map,List.getElem_range];rw [if_neg hne]
 ·simp only [List.getElem_map,List.getElem_range,if_true]
theorem rep_ok {x:zb} (hr:Rgt x) (h5:x.Kind=5) (hw:Wf x) (hp:∀ k∈x.Kids,PieceOk k) (F0:List (List Int)) (S:List zc) (hroom:Room F0 S (gof x).n) :
 zbo x { sets:=S,follow:=F0 } (pc (gof x) F0.length) { sets:=S++(gof x).sets,follow:=F0++flw (gof x) F0.length }:=by
 obtain ⟨ho,hk⟩:=zfy hr
 obtain ⟨⟨k,hq⟩,h1,h2,h3⟩:=zgU ho h5
 have hkm:k∈x.Kids:=by rw [hq];simp
 have hgn:=gof_n x hr
 have hgof:gof x=gRep (gof k) x.Lo x.Hi:=by
  rw [zcT,h5,hq];simp
 refine zeB x _ _ _ ⟨_,rxSize_ok x hw,fun h0=>?_,fun h0=>?_⟩
 ·have h0:sizeN x=0:=by
   have:sizeZ x=0:=by simpa using h0
   simp only [sizeZ] at this;omega
  rw [gof_zero hr h0]
  exact ⟨rfl,by simp [gEmpty,flw]⟩
 obtain ⟨N,hN⟩:∃ N:Nat,N=(max 1 (max x.Lo x.Hi)).toNat:=⟨_,rfl⟩
 have hN1:1≤N:=by omega
 have hN2:N≤20:=by omega
 have hNi:(N:Int)=max 1 (max x.Lo x.Hi):=by omega
 have hn:(gof x).n=N * (gof k).n:=by rw [hgof,rep_n _ h1 (by omega),hN]
 have hs:(gof x).sets=cpS (gof k) N:=by rw [hgof,rep_sets _ h1 (by omega),hN]
 have hroom2:Room F0 S (N * (gof k).n):=by rw [← hn];exact hroom
 have hcp:=copies_ok (hp k hkm) N (by omega) F0 S hroom2
 have hlen2:F0.length+N * (gof k).n < 1000000:=hroom2.room
 have hcnt:(if (1:Int) > if x.Hi > x.Lo then x.Hi else x.Lo then (1:Int) else if x.Hi > x.Lo then x.Hi else x.Lo)=(N:Int):=by rw [hNi];split<;>omega
 rw [hcnt,hq]
 simp only [List.length_cons,List.length_nil,List.getD_cons_zero]
 refine ⟨by omega,_,_,hcp,?_⟩
 rw [← hs]
 by_cases hneg:x.Hi < 0
 ·-- from some times on
  obtain ⟨z,hz⟩:∃ z:GA,z=if x.Lo=0 then gMaybe (gAgain (gof k)) else gAgain (gof k):=⟨_,rfl⟩
  have hzc:Canon z:=by rw [hz];split;exact zcE (zca (zaB k));exact zca (zaB k)
  have hzn:z.n=(gof k).n:=by rw [hz];split<;>rfl
  obtain ⟨h,hh⟩:∃ h:Nat→GA,h=fun j=>if j=N - 1 then z else gof k:=⟨_,rfl⟩
  have hhn:∀ j,(h j).n=(gof k).n:=fun j=>by rw [hh];dsimp only;split;exact hzn;rfl
  have hfe:fromEnd h (fun j:Nat=>decide (x.Hi≥0) && decide ((j:Int)≥x.Lo)) N N=gof x:=by
   have:=zhj (mb:=fun j:Nat=>decide (x.Hi≥0) && decide ((j:Int)≥x.Lo)) hzc hN1 (h:=h) (g:=gof k) (fun j hj=>by rw [hh];dsimp only;rw [if_neg (by omega)]) (by rw [hh];simp) (fun j=>by simp;omega) (N - 1) (by omega)
   rw [show N - 1+1=N by omega] at this
   rw [this,hgof]
   unfold gRep
   rw [if_pos hneg,← hz]
   congr 1;omega
  obtain ⟨N1,rfl⟩:∃ N1,N=N1+1:=⟨N - 1,by omega⟩
  have hF1:hF h F0.length (gof k).n (N1+1)=hF (fun _=>gof k) F0.length (gof k).n N1++flw (gAgain (gof k)) (F0.length+N1 * (gof k).n):=by
   rw [hF,hF_congr N1 (h':=fun _=>gof k) (fun j hj=>by rw [hh];dsimp only;rw [if_neg (by omega)])]
   congr 1
   rw [hh];dsimp only;rw [if_pos (by omega),hz,flw_again]
  refine ⟨fun s f l=>s=S++(gof x).sets∧f=F0++hF h F0.length (gof k).n (N1+1)∧l=(List.range (N1+1)).map fun j=>pc (h j) (F0.length+j * (gof k).n),?_,fun _=>?_,fun hc=>absurd (of_decide_eq_false hc) (by omega)⟩
  ·rintro s f l ⟨rfl,rfl,hl⟩
   exact ⟨zel l,rep_loop (x:=x) (h:=h) (N:=N1+1) (S:=S) hhn hroom2 (by omega) hl (by rw [hfe]) (by rw [hfe])⟩
  ·have hwl:w64 ((((List.range (N1+1)).map fun i=>pc (gof k) (F0.length+i * (gof k).n)).length:Int) - 1)=(N1:Int):=by
    rw [List.length_map,List.length_range];exact (zQ (by omega) (by omega)).trans (by omega)
   have hgl:gd ((List.range (N1+1)).map fun i=>pc (gof k) (F0.length+i * (gof k).n)) (N1:Int)=pc (gof k) (F0.length+N1 * (gof k).n):=by
    rw [zW (by simp)];simp
   rw [hwl,hgl]
   have hlen:(F0++hF (fun _=>gof k) F0.length (gof k).n N1).length=F0.length+N1 * (gof k).n:=by rw [List.length_append,hF_len fun _=>rfl]
   have hmul:(N1+1) * (gof k).n=N1 * (gof k).n+(gof k).n:=Nat.succ_mul _ _
   have hla:=zaj (gof k).n (gof k).last (F0.length+N1 * (gof k).n)
   have hlf:=zaj (gof k).n (gof k).first (F0.length+N1 * (gof k).n)
   have hlead:=lead_ok (lst (gof k).n (gof k).last (F0.length+N1 * (gof k).n)) (lst (gof k).n (gof k).first (F0.length+N1 * (gof k).n)) { sets:=S++(gof x).sets,follow:=F0++hF (fun _=>gof k) F0.length (gof k).n (N1+1) } (zbh _ _ _) (fun y hy=>by
    obtain ⟨i,hi,_,rfl⟩:=za4.1 hy
    simp only [List.length_append,hF_len fun _=>rfl];omega) (by omega) (fun f hf=>by
    rcases List.mem_append.1 hf with hf | hf
    ·exact hroom.small f hf
    ·exact zgx (fun _=>by omega) _ f hf) (by omega)
   have hag:=zh3 (F0++hF (fun _=>gof k) F0.length (gof k).n N1) (gof k)
   rw [hlen,List.append_assoc,List.append_assoc] at hag
   have hag2:leadF (F0++hF (fun _=>gof k) F0.length (gof k).n (N1+1)) (lst (gof k).n (gof k).last (F0.length+N1 * (gof k).n)) (lst (gof k).n (gof k).first (F0.length+N1 * (gof k).n))=F0++hF h F0.length (gof k).n (N1+1):=by
    rw [hF1];exact hag
   simp only [hag2] at hlead
   have hset:∀ b:Bool,b=z.null→List.set ((List.range (N1+1)).map fun i=>pc (gof k) (F0.length+i * (gof k).n)) (Int.toNat (N1:Int)) { first:=(pc (gof k) (F0.length+N1 * (gof k).n)).first,last:=(pc (gof k) (F0.length+N1 * (gof k).n)).last,null:=b }=(List.range (N1+1)).map fun j=>pc (h j) (F0.length+j * (gof k).n):=by
    intro b hb
    rw [Int.toNat_natCast,map_range_set (by omega)]
    refine List.map_congr_left fun j hj=>?_
    rw [hh];dsimp only
    by_cases e:j=N1
    ·subst e
     rw [if_pos rfl,if_pos (by omega)]
     have e1:z.first=(gof k).first:=by rw [hz];split<;>rfl
     have e2:z.last=(gof k).last:=by rw [hz];split<;>rfl
     rw [hb]
     simp only [pc,hzn,e1,e2]
    ·rw [if_neg e,if_neg (by omega)]
   have hll:((List.range (N1+1)).map fun i=>pc (gof k) (F0.length+i * (gof k).n)).length=N1+1:=by simp
   rw [hll]
   refine ⟨by omega,by omega,by omega,by omega,_,hlead,by omega,fun hn=>⟨fun _=>by omega,rfl,rfl,hset _ ?_⟩,fun hn=>⟨fun _=>by omega,rfl,rfl,hset _ ?_⟩⟩
   ·have hn:(gof k).null=true:=hn
    rw [hz];split<;>simp [gMaybe,gAgain,hn]
   ·have hn:(gof k).null=false:=hn
    rw [hz]
    by_cases e:x.Lo=0
    ·rw [if_pos e,e];rfl
    ·rw [if_neg e]
     show (x.Lo == 0)=(gof k).null
     rw [hn];simpa using e
 ·-- from some times to others
  have hhi:1≤x.Hi∧x.Lo≤x.Hi:=by omega
  have hfe:fromEnd (fun _=>gof k) (fun j:Nat=>decide (x.Hi≥0) && decide ((j:Int)≥x.Lo)) N N=gof x:=by
   have:=zhi (h:=fun _=>gof k) (g:=gof k) (mb:=fun j:Nat=>decide (x.Hi≥0) && decide ((j:Int)≥x.Lo)) (N:=N) (L:=x.Lo.toNat) (by omega) (fun _=>rfl) (fun j hj=>by
    have:decide (x.Hi≥0)=true:=by simp;omega
    simp only [this,Bool.true_and,decide_eq_decide];omega) N (Nat.le_refl _)
   rw [this,hgof]
   unfold gRep
   rw [if_neg hneg]
   congr 1
   ·omega
   ·congr 1;omega
  refine ⟨fun s f l=>s=S++(gof x).sets∧f=F0++hF (fun _=>gof k) F0.length (gof k).n N∧l=(List.range N).map fun j=>pc (gof k) (F0.length+j * (gof k).n),?_,fun hc=>absurd (of_decide_eq_true hc) hneg,fun _=>⟨rfl,rfl,rfl⟩⟩
  rintro s f l ⟨rfl,rfl,hl⟩
  exact ⟨zel l,rep_loop (x:=x) (h:=fun _=>gof k) (N:=N) (S:=S) (fun _=>rfl) hroom2 (by omega) hl (by rw [hfe]) (by rw [hfe])⟩
end Go.Ev.Pl
namespace Go.Ev.Pl
open Go Go.Ev
theorem pc_first (g:GA) (off:Nat):(pc g off).first=lst g.n g.first off:=rfl
theorem pc_last (g:GA) (off:Nat):(pc g off).last=lst g.n g.last off:=rfl
theorem pc_null (g:GA) (off:Nat):(pc g off).null=g.null:=rfl
theorem pre_n {f:GA→GA→GA} (hf:∀ a b,(f a b).n=a.n+b.n) {z:GA} (hz:z.n=0) {l:List zb} {i:Nat} (h:i < l.length) :
 ((l.take i).foldl (fun o y=>f o (gof y)) z).n+(gof l[i]).n≤(l.foldl (fun o y=>f o (gof y)) z).n:=by
 have e:=zhk hf (l.take (i+1)) z
 rw [zaA h,hf] at e
 rw [e,zhk hf]
 have:(l.map fun y=>(gof y).n).sum=((l.take (i+1)).map fun y=>(gof y).n).sum+((l.drop (i+1)).map fun y=>(gof y).n).sum:=by
  rw [← List.sum_append,← List.map_append,List.take_append_drop]
 omega
theorem piece_ok:∀ x,Wf x→Rgt x→PieceOk x:=by
 refine rxInd fun x ih hw hr=>?_
 obtain ⟨hl,hkw⟩:=(wf_eq x).1 hw
 obtain ⟨ho,hk⟩:=zfy hr
 intro F0 S hroom
 have hrm:=hroom.room
 refine zdQ x _ _ _ ⟨fun h=>?_,fun h2=>⟨fun h=>?_,fun h3=>⟨fun h=>?_,fun h4=>⟨fun h=>?_,fun h5=>?_⟩⟩⟩⟩
 ·have h:x.Kind=2:=by simpa using h
  have hg:gof x=gByte x.Set:=by rw [zcT,if_pos h]
  rw [hg] at hrm ⊢
  have hrm:F0.length+1 < 1000000:=hrm
  refine ⟨_,_,zdP _ _ _ _ ⟨?_,?_,rfl,rfl⟩,?_,?_⟩
  ·have:=hroom.same;simp only;omega
  ·simp only;omega
  ·have:lst 1 (fun i=>i == 0) F0.length=[(S.length:Int)]:=by
    rw [hroom.same];simp [lst,List.range_succ]
   simp only [pc,gByte,this]
  ·rfl
 ·have h:x.Kind=3:=by simpa using h
  have hg:gof x=x.Kids.foldl (fun o y=>gCat o (gof y)) gEmpty:=by rw [zcT];simp [h]
  refine ⟨fun s f a b c t=>∃ i:Nat,t=i∧i≤x.Kids.length∧s=S++((x.Kids.take i).foldl (fun o y=>gCat o (gof y)) gEmpty).sets∧f=F0++flw ((x.Kids.take i).foldl (fun o y=>gCat o (gof y)) gEmpty) F0.length∧(⟨a,b,c⟩:zi)=pc ((x.Kids.take i).foldl (fun o y=>gCat o (gof y)) gEmpty) F0.length,
   fun _ _ _ _ _ t=>(x.Kids.length - t).toNat,⟨0,rfl,by omega,by simp [gEmpty],by simp [gEmpty,flw],rfl⟩,?_⟩
  rintro s f a b c t ⟨i,rfl,hi,rfl,rfl,hp⟩
  refine ⟨fun ht=>?_,fun ht=>?_⟩
  ·have ht:i < x.Kids.length:=by simpa using ht
   have hm:=List.getElem_mem ht
   obtain ⟨o,ho'⟩:∃ o,o=(x.Kids.take i).foldl (fun o y=>gCat o (gof y)) gEmpty:=⟨_,rfl⟩
   have hn:=pre_n (f:=gCat) (fun _ _=>rfl) (z:=gEmpty) rfl ht
   rw [← hg,← ho'] at hn
   have hsucc:=zaA (f:=fun o y=>gCat o (gof y)) (b:=gEmpty) ht
   rw [← ho'] at hsucc hp ⊢
   have hoc:Canon o:=by
    rw [ho']
    have:∀ (l:List zb) (z:GA),Canon z→Canon (l.foldl (fun o y=>gCat o (gof y)) z):=by
     intro l
     induction l with
     | nil=>intro z h;exact h
     | cons y r ih2=>intro z h;exact ih2 _ (zbI h (zaB y))
    exact this _ _ zbm
   have hlen:(F0++flw o F0.length).length=F0.length+o.n:=by rw [List.length_append,zX]
   have hpk:=ih _ hm (hkw _ hm) (hk _ hm) (F0++flw o F0.length) (S++o.sets) ⟨by rw [hlen,List.length_append,hroom.same,hoc.sets],fun f hf=>by
    rcases List.mem_append.1 hf with hf | hf
    ·exact hroom.small f hf
    ·exact zdK _ _ (by omega) f hf,by rw [hlen];omega⟩
   rw [hlen] at hpk
   have hcat:=cat_ok F0 ((S++o.sets)++(gof x.Kids[i]).sets) o (gof x.Kids[i]) hroom.small (by omega) (by omega)
   have hw2:w64 ((i:Int)+1)=((i+1:Nat):Int):=zQ (by omega) (by omega)
   rw [zW ht,hp]
   refine ⟨by omega,by omega,_,_,hpk,_,_,hcat,?_⟩
   rw [hw2]
   exact ⟨⟨i+1,rfl,by omega,by rw [hsucc];simp [gCat],by rw [hsucc],by rw [hsucc]⟩,by dsimp only;omega⟩
  ·have:i=x.Kids.length:=by have:¬ i < x.Kids.length:=by simpa using ht
                            omega
   subst this
   rw [List.take_of_length_le (Nat.le_refl _),← hg] at hp ⊢
   exact ⟨hp.symm,rfl⟩
 ·have h:x.Kind=4:=by simpa using h
  have hg:gof x=x.Kids.foldl (fun o y=>gAlt o (gof y)) gNone:=by rw [zcT];simp [h]
  refine ⟨fun s f a b c t=>∃ i:Nat,t=i∧i≤x.Kids.length∧s=S++((x.Kids.take i).foldl (fun o y=>gAlt o (gof y)) gNone).sets∧f=F0++flw ((x.Kids.take i).foldl (fun o y=>gAlt o (gof y)) gNone) F0.length∧(⟨a,b,c⟩:zi)=pc ((x.Kids.take i).foldl (fun o y=>gAlt o (gof y)) gNone) F0.length,
   fun _ _ _ _ _ t=>(x.Kids.length - t).toNat,⟨0,rfl,by omega,by simp [gNone],by simp [gNone,flw],rfl⟩,?_⟩
  rintro s f a b c t ⟨i,rfl,hi,rfl,rfl,hp⟩
  refine ⟨fun ht=>?_,fun ht=>?_⟩
  ·have ht:i < x.Kids.length:=by simpa using ht
   have hm:=List.getElem_mem ht
   obtain ⟨o,ho'⟩:∃ o,o=(x.Kids.take i).foldl (fun o y=>gAlt o (gof y)) gNone:=⟨_,rfl⟩
   have hn:=pre_n (f:=gAlt) (fun _ _=>rfl) (z:=gNone) rfl ht
   rw [← hg,← ho'] at hn
   have hsucc:=zaA (f:=fun o y=>gAlt o (gof y)) (b:=gNone) ht
   rw [← ho'] at hsucc hp ⊢
   have hoc:Canon o:=by
    rw [ho']
    have:∀ (l:List zb) (z:GA),Canon z→Canon (l.foldl (fun o y=>gAlt o (gof y)) z):=by
     intro l
     induction l with
     | nil=>intro z h;exact h
     | cons y r ih2=>intro z h;exact ih2 _ (zhy h (zaB y))
    exact this _ _ zd1
   have hlen:(F0++flw o F0.length).length=F0.length+o.n:=by rw [List.length_append,zX]
   have hpk:=ih _ hm (hkw _ hm) (hk _ hm) (F0++flw o F0.length) (S++o.sets) ⟨by rw [hlen,List.length_append,hroom.same,hoc.sets],fun f hf=>by
    rcases List.mem_append.1 hf with hf | hf
    ·exact hroom.small f hf
    ·exact zdK _ _ (by omega) f hf,by rw [hlen];omega⟩
   rw [hlen] at hpk
   have hw2:w64 ((i:Int)+1)=((i+1:Nat):Int):=zQ (by omega) (by omega)
   rw [zW ht]
   have hpa:a=lst o.n o.first F0.length:=congrArg zi.first hp
   have hpb:b=lst o.n o.last F0.length:=congrArg zi.last hp
   have hpc:c=o.null:=congrArg zi.null hp
   have l1:=zaj o.n o.first F0.length
   have l2:=zaj o.n o.last F0.length
   have l3:=zaj (gof x.Kids[i]).n (gof x.Kids[i]).first (F0.length+o.n)
   have l4:=zaj (gof x.Kids[i]).n (gof x.Kids[i]).last (F0.length+o.n)
   refine ⟨by omega,by omega,_,_,hpk,_,zdF _ _ (by rw [hpa];omega) (by rw [pc_first];omega),_,zdF _ _ (by rw [hpb];omega) (by rw [pc_last];omega),?_⟩
   rw [hw2]
   refine ⟨⟨i+1,rfl,by omega,by rw [hsucc];simp [gAlt],?_,?_⟩,by dsimp only;omega⟩
   ·rw [hsucc,← flw_alt,← List.append_assoc]
   ·rw [hsucc,hpa,hpb,hpc,pc_first,pc_last,pc_null,alt_first,alt_last];rfl
  ·have:i=x.Kids.length:=by have:¬ i < x.Kids.length:=by simpa using ht
                            omega
   subst this
   rw [List.take_of_length_le (Nat.le_refl _),← hg] at hp ⊢
   exact ⟨hp.symm,rfl⟩
 ·have h:x.Kind=5:=by simpa using h
  exact ⟨_,_,rep_ok hr h hw (fun k hkm=>ih k hkm (hkw k hkm) (hk k hkm)) F0 S hroom,rfl,rfl⟩
 ·have h1:x.Kind=1:=by
   simp only [beq_eq_false_iff_ne,ne_eq] at h2 h3 h4 h5
   have:=zeT ho;omega
  have hg:gof x=gEmpty:=by rw [zcT];simp [h1]
  rw [hg]
  exact ⟨rfl,by simp [gEmpty,flw]⟩
def plc (g:GA):za:=⟨g.sets,lst g.n g.first 0,lst g.n g.last 0,flw g 0,g.null⟩
def noPl:za:=⟨[],[],[],[],false⟩
theorem zc4 {x:zb} (h:rightB x=true):Rgt x∧sizeN x≤200:=by
 simp only [rightB,Bool.and_eq_true,decide_eq_true_eq] at h
 refine ⟨⟨20,h.1⟩,?_⟩
 have:=h.2.1
 simp only [sizeZ] at this;omega
theorem placeOf_ok (x:zb) (hw:Wf x):zd4 x (if rightB x=true then plc (gof x) else noPl) (if rightB x=true then 0 else 1):=by
 refine W_place_Of x _ _ ⟨_,zc6 x hw,fun h=>?_,fun h=>?_⟩
 ·have h:rightB x=false:=by simpa using h
  rw [h];exact ⟨rfl,rfl⟩
 ·have h:rightB x=true:=by simpa using h
  obtain ⟨hr,hs⟩:=zc4 h
  have hn:=gof_n x hr
  have:=piece_ok x hw hr [] [] ⟨rfl,fun f hf=>by simp at hf,by simp;omega⟩
  refine ⟨_,_,this,?_,?_⟩
  ·rw [if_pos h];simp [plc,pc]
  ·rw [if_pos h]
end Go.Ev.Pl
