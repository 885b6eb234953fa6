import Derived.Test.YtkeiahjelpjegaaA02
set_option linter.unusedSimpArgs false
set_option linter.unusedVariables false
namespace Go.Ev
open Go Go.Proofs
set_option maxRecDepth 8000
set_option maxHeartbeats 1000000 in
theorem W_set_Has (s0:arr4_uint64) (b:Int) (res:Bool)
 (h:(((decide (b≥(0:Int)))=true→(((decide (b < (256:Int)))=true→((w64 (Int.tdiv b (64:Int))=0∨w64 (Int.tdiv b (64:Int))=1∨w64 (Int.tdiv b (64:Int))=2∨w64 (Int.tdiv b (64:Int))=3)∧((decide (w64 (Int.tdiv b (64:Int))=(0:Int)))=true→((decide (b≥(0:Int)))=true→((decide (b < (256:Int)))=true→((decide (w64 (Int.tdiv b (64:Int))=(0:Int)))=true→((0:Int)≤Int.tmod b (64:Int)))))∧(res=(IntKind.wrap IntKind.u64 (↑(BitVec.toNat (BitVec.ofInt (IntKind.bits IntKind.u64) (arr4_uint64.e0 s0) &&& BitVec.ofInt (IntKind.bits IntKind.u64) (IntKind.wrap IntKind.u64 ((1:Int) * (2:Int) ^ Min.min (Int.toNat (Int.tmod b (64:Int))) (IntKind.bits IntKind.u64))))):Int) != (0:Int))))∧((decide (w64 (Int.tdiv b (64:Int))=(1:Int)))=true→((decide (b≥(0:Int)))=true→((decide (b < (256:Int)))=true→((decide (w64 (Int.tdiv b (64:Int))=(1:Int)))=true→((0:Int)≤Int.tmod b (64:Int)))))∧(res=(IntKind.wrap IntKind.u64 (↑(BitVec.toNat (BitVec.ofInt (IntKind.bits IntKind.u64) (arr4_uint64.e1 s0) &&& BitVec.ofInt (IntKind.bits IntKind.u64) (IntKind.wrap IntKind.u64 ((1:Int) * (2:Int) ^ Min.min (Int.toNat (Int.tmod b (64:Int))) (IntKind.bits IntKind.u64))))):Int) != (0:Int))))∧((decide (w64 (Int.tdiv b (64:Int))=(2:Int)))=true→((decide (b≥(0:Int)))=true→((decide (b < (256:Int)))=true→((decide (w64 (Int.tdiv b (64:Int))=(2:Int)))=true→((0:Int)≤Int.tmod b (64:Int)))))∧(res=(IntKind.wrap IntKind.u64 (↑(BitVec.toNat (BitVec.ofInt (IntKind.bits IntKind.u64) (arr4_uint64.e2 s0) &&& BitVec.ofInt (IntKind.bits IntKind.u64) (IntKind.wrap IntKind.u64 ((1:Int) * (2:Int) ^ Min.min (Int.toNat (Int.tmod b (64:Int))) (IntKind.bits IntKind.u64))))):Int) != (0:Int))))∧((decide (w64 (Int.tdiv b (64:Int))=(3:Int)))=true→((decide (b≥(0:Int)))=true→((decide (b < (256:Int)))=true→((decide (w64 (Int.tdiv b (64:Int))=(3:Int)))=true→((0:Int)≤Int.tmod b (64:Int)))))∧(res=(IntKind.wrap IntKind.u64 (↑(BitVec.toNat (BitVec.ofInt (IntKind.bits IntKind.u64) (arr4_uint64.e3 s0) &&& BitVec.ofInt (IntKind.bits IntKind.u64) (IntKind.wrap IntKind.u64 ((1:Int) * (2:Int) ^ Min.min (Int.toNat (Int.tmod b (64:Int))) (IntKind.bits IntKind.u64))))):Int) != (0:Int))))))∧((decide (b < (256:Int)))=false→(res=false))))∧((decide (b≥(0:Int)))=false→(res=false)))):C_set_Has s0 b res:=by
 unfold C_set_Has
 have kk:=cfOk [] 22
 refine fD (x:=bodyOf Try.f62) kk Try.func62 ?_
 refine wkS [1,4] [(1,av_arr4_uint64 s0),(4,vi b)] (by kernel_rfl) ?_
 refine sD kk [] [1] [(7,.ptr 8 0),(8,av_arr4_uint64 s0)] obN ?_
 rcases Bool.eq_false_or_eq_true (decide (b≥(0:Int))) with hb0 | hb0
 ·have h:=h.1 hb0
  rcases Bool.eq_false_or_eq_true (decide (b < (256:Int))) with hb1 | hb1
  ·have h:=h.1 hb1
   obtain ⟨hor,h⟩:=h
   rcases hor with hb2 | hb2 | hb2 | hb2
   ·have hb2:=decide_eq_true hb2
    have h:=h.1 hb2
    obtain ⟨h3,h⟩:=h
    refine sD kk [.b true,.b true,.b true,.b true,.b true,.b true,.n 0,.b true,.b true,.b true,.b true,.b true,.b true,.b true] [4,7,8] [(13,vB (IntKind.wrap IntKind.u64 (↑(BitVec.toNat (BitVec.ofInt (IntKind.bits IntKind.u64) (arr4_uint64.e0 s0) &&& BitVec.ofInt (IntKind.bits IntKind.u64) (IntKind.wrap IntKind.u64 ((1:Int) * (2:Int) ^ Min.min (Int.toNat (Int.tmod b (64:Int))) (IntKind.bits IntKind.u64))))):Int) != (0:Int)))] (obC (gtt hb0) (obC (gtt hb0) (obC hb0 (obC (gtt hb1) (obC (gtt hb1) (obC (show (64:Int)≠(0:Int) from by first | decide | rfl | trivial | (simp only [nm]<;>first | decide | rfl | omega)) (obC (gtt hb1) (obC (of_decide_eq_true hb2) (obC (gtt hb1) (obC (gtt hb1) (obC (gtt hb1) (obC (show (64:Int)≠(0:Int) from by first | decide | rfl | trivial | (simp only [nm]<;>first | decide | rfl | omega)) (obC (gtt hb1) (obC (((h3 hb0) hb1) hb2) (obC (gtt hb1) (obC (gtt hb1) (obC hb1 obN))))))))))))))))) ?_
    refine tD ?_
    obtain he0:=h
    subst res
    exact (endD [] (vB (IntKind.wrap IntKind.u64 (↑(BitVec.toNat (BitVec.ofInt (IntKind.bits IntKind.u64) (arr4_uint64.e0 s0) &&& BitVec.ofInt (IntKind.bits IntKind.u64) (IntKind.wrap IntKind.u64 ((1:Int) * (2:Int) ^ Min.min (Int.toNat (Int.tmod b (64:Int))) (IntKind.bits IntKind.u64))))):Int) != (0:Int))) []).1
   ·have hb2:=decide_eq_true hb2
    have h:=h.2.1 hb2
    obtain ⟨h4,h⟩:=h
    refine sD kk [.b true,.b true,.b true,.b true,.b true,.b true,.n 1,.b true,.b true,.b true,.b true,.b true,.b true,.b true] [4,7,8] [(13,vB (IntKind.wrap IntKind.u64 (↑(BitVec.toNat (BitVec.ofInt (IntKind.bits IntKind.u64) (arr4_uint64.e1 s0) &&& BitVec.ofInt (IntKind.bits IntKind.u64) (IntKind.wrap IntKind.u64 ((1:Int) * (2:Int) ^ Min.min (Int.toNat (Int.tmod b (64:Int))) (IntKind.bits IntKind.u64))))):Int) != (0:Int)))] (obC (gtt hb0) (obC (gtt hb0) (obC hb0 (obC (gtt hb1) (obC (gtt hb1) (obC (show (64:Int)≠(0:Int) from by first | decide | rfl | trivial | (simp only [nm]<;>first | decide | rfl | omega)) (obC (gtt hb1) (obC (of_decide_eq_true hb2) (obC (gtt hb1) (obC (gtt hb1) (obC (gtt hb1) (obC (show (64:Int)≠(0:Int) from by first | decide | rfl | trivial | (simp only [nm]<;>first | decide | rfl | omega)) (obC (gtt hb1) (obC (((h4 hb0) hb1) hb2) (obC (gtt hb1) (obC (gtt hb1) (obC hb1 obN))))))))))))))))) ?_
    refine tD ?_
    obtain he0:=h
    subst res
    exact (endD [] (vB (IntKind.wrap IntKind.u64 (↑(BitVec.toNat (BitVec.ofInt (IntKind.bits IntKind.u64) (arr4_uint64.e1 s0) &&& BitVec.ofInt (IntKind.bits IntKind.u64) (IntKind.wrap IntKind.u64 ((1:Int) * (2:Int) ^ Min.min (Int.toNat (Int.tmod b (64:Int))) (IntKind.bits IntKind.u64))))):Int) != (0:Int))) []).1
   ·have hb2:=decide_eq_true hb2
    have h:=h.2.2.1 hb2
    obtain ⟨h5,h⟩:=h
    refine sD kk [.b true,.b true,.b true,.b true,.b true,.b true,.n 2,.b true,.b true,.b true,.b true,.b true,.b true,.b true] [4,7,8] [(13,vB (IntKind.wrap IntKind.u64 (↑(BitVec.toNat (BitVec.ofInt (IntKind.bits IntKind.u64) (arr4_uint64.e2 s0) &&& BitVec.ofInt (IntKind.bits IntKind.u64) (IntKind.wrap IntKind.u64 ((1:Int) * (2:Int) ^ Min.min (Int.toNat (Int.tmod b (64:Int))) (IntKind.bits IntKind.u64))))):Int) != (0:Int)))] (obC (gtt hb0) (obC (gtt hb0) (obC hb0 (obC (gtt hb1) (obC (gtt hb1) (obC (show (64:Int)≠(0:Int) from by first | decide | rfl | trivial | (simp only [nm]<;>first | decide | rfl | omega)) (obC (gtt hb1) (obC (of_decide_eq_true hb2) (obC (gtt hb1) (obC (gtt hb1) (obC (gtt hb1) (obC (show (64:Int)≠(0:Int) from by first | decide | rfl | trivial | (simp only [nm]<;>first | decide | rfl | omega)) (obC (gtt hb1) (obC (((h5 hb0) hb1) hb2) (obC (gtt hb1) (obC (gtt hb1) (obC hb1 obN))))))))))))))))) ?_
    refine tD ?_
    obtain he0:=h
    subst res
    exact (endD [] (vB (IntKind.wrap IntKind.u64 (↑(BitVec.toNat (BitVec.ofInt (IntKind.bits IntKind.u64) (arr4_uint64.e2 s0) &&& BitVec.ofInt (IntKind.bits IntKind.u64) (IntKind.wrap IntKind.u64 ((1:Int) * (2:Int) ^ Min.min (Int.toNat (Int.tmod b (64:Int))) (IntKind.bits IntKind.u64))))):Int) != (0:Int))) []).1
   ·have hb2:=decide_eq_true hb2
    have h:=h.2.2.2 hb2
    obtain ⟨h6,h⟩:=h
    refine sD kk [.b true,.b true,.b true,.b true,.b true,.b true,.n 3,.b true,.b true,.b true,.b true,.b true,.b true,.b true] [4,7,8] [(13,vB (IntKind.wrap IntKind.u64 (↑(BitVec.toNat (BitVec.ofInt (IntKind.bits IntKind.u64) (arr4_uint64.e3 s0) &&& BitVec.ofInt (IntKind.bits IntKind.u64) (IntKind.wrap IntKind.u64 ((1:Int) * (2:Int) ^ Min.min (Int.toNat (Int.tmod b (64:Int))) (IntKind.bits IntKind.u64))))):Int) != (0:Int)))] (obC (gtt hb0) (obC (gtt hb0) (obC hb0 (obC (gtt hb1) (obC (gtt hb1) (obC (show (64:Int)≠(0:Int) from by first | decide | rfl | trivial | (simp only [nm]<;>first | decide | rfl | omega)) (obC (gtt hb1) (obC (of_decide_eq_true hb2) (obC (gtt hb1) (obC (gtt hb1) (obC (gtt hb1) (obC (show (64:Int)≠(0:Int) from by first | decide | rfl | trivial | (simp only [nm]<;>first | decide | rfl | omega)) (obC (gtt hb1) (obC (((h6 hb0) hb1) hb2) (obC (gtt hb1) (obC (gtt hb1) (obC hb1 obN))))))))))))))))) ?_
    refine tD ?_
    obtain he0:=h
    subst res
    exact (endD [] (vB (IntKind.wrap IntKind.u64 (↑(BitVec.toNat (BitVec.ofInt (IntKind.bits IntKind.u64) (arr4_uint64.e3 s0) &&& BitVec.ofInt (IntKind.bits IntKind.u64) (IntKind.wrap IntKind.u64 ((1:Int) * (2:Int) ^ Min.min (Int.toNat (Int.tmod b (64:Int))) (IntKind.bits IntKind.u64))))):Int) != (0:Int))) []).1
  ·have h:=h.2 hb1
   refine sD kk [.b true,.b true,.b true,.b false,.b false,.b false,.b false,.b false,.b false,.b false,.b false,.b false,.b false] [4,7,8] [(13,vB false)] (obC (gtt hb0) (obC (gtt hb0) (obC hb0 (obC (gtf hb1) (obC (gtf hb1) (obC (gtf hb1) (obC (gtf hb1) (obC (gtf hb1) (obC (gtf hb1) (obC (gtf hb1) (obC (gtf hb1) (obC (gtf hb1) (obC hb1 obN))))))))))))) ?_
   refine tD ?_
   obtain he0:=h
   subst res
   exact (endD [] (vB false) []).1
 ·have h:=h.2 hb0
  refine sD kk [.b false,.b false,.b false,.b false,.b false,.b false,.b false,.b false,.b false,.b false,.b false,.b false,.b false] [4,7,8] [(13,vB false)] (obC (gtf hb0) (obC (gtf hb0) (obC hb0 (obC (rfl:false=false) (obC (rfl:false=false) (obC (rfl:false=false) (obC (rfl:false=false) (obC (rfl:false=false) (obC (rfl:false=false) (obC (rfl:false=false) (obC (rfl:false=false) (obC (rfl:false=false) (obC (rfl:false=false) obN))))))))))))) ?_
  refine tD ?_
  obtain he0:=h
  subst res
  exact (endD [] (vB false) []).1
set_option maxHeartbeats 1000000 in
theorem W_hecklelaw03_Maker_Pick (n:Int) (m:hecklelaw03_Maker) (res:Int) (fin:hecklelaw03_Maker)
 (h:(((decide (w64 (hecklelaw03_Maker.At m+1) > (↑(List.length (hecklelaw03_Maker.L m)):Int)))=true→(res=0∧fin=({ L:=hecklelaw03_Maker.L m,At:=w64 (hecklelaw03_Maker.At m+1) })))∧((decide (w64 (hecklelaw03_Maker.At m+1) > (↑(List.length (hecklelaw03_Maker.L m)):Int)))=false→((0:Int)≤w64 (w64 (hecklelaw03_Maker.At m+1) - 1))∧w64 (w64 (hecklelaw03_Maker.At m+1) - 1) < ↑(List.length (hecklelaw03_Maker.L m))∧(n≠(0:Int))∧(res=(Int.tmod (w64 (gd (hecklelaw03_Maker.L m) (w64 (w64 (hecklelaw03_Maker.At m+1) - 1)))) n)∧fin=({ L:=hecklelaw03_Maker.L m,At:=w64 (hecklelaw03_Maker.At m+1) }))))):C_hecklelaw03_Maker_Pick n m res fin:=by
 unfold C_hecklelaw03_Maker_Pick
 have kk:=cfOk [] 36
 refine fD (x:=bodyOf Try.f27) kk Try.func27 ?_
 refine wkS [1,3,4] [(1,.ptr 3 0),(3,av_hecklelaw03_Maker m),(4,vi n)] (by kernel_rfl) ?_
 refine sD kk [] [] [] obN ?_
 refine sD kk [] [] [(3,.agg [vL enc_u8 (hecklelaw03_Maker.L m),vi (w64 (hecklelaw03_Maker.At m+1))])] obN ?_
 refine qD ?_
 refine sDE kk [] [] [(64,vB (decide (w64 (hecklelaw03_Maker.At m+1) > (↑(List.length (List.map enc_u8 (hecklelaw03_Maker.L m))):Int))))] [(64,vB (decide (w64 (hecklelaw03_Maker.At m+1) > (↑(List.length (hecklelaw03_Maker.L m)):Int))))] obN ?_
 refine cD (t:=21) (b:=decide (w64 (hecklelaw03_Maker.At m+1) > (↑(List.length (hecklelaw03_Maker.L m)):Int))) (fun hb0=>?_) (fun hb0=>?_)
 ·have h:=h.1 hb0
  refine sD kk [] [1,4,64] [(13,vi 0)] obN ?_
  refine tD ?_
  obtain ⟨he0,he1⟩:=h
  subst res fin
  exact (endD [] (vi 0) [.agg [vL enc_u8 (hecklelaw03_Maker.L m),vi (w64 (hecklelaw03_Maker.At m+1))]]).1
 ·have h:=h.2 hb0
  refine Sem.skip' (by kernel_rfl) Wk.refl ?_
  show Sem _ _ _ _ _
  refine wkD [64] ?_
  obtain ⟨h1,h⟩:=h
  obtain ⟨h2,h⟩:=h
  obtain ⟨h3,h⟩:=h
  refine sD kk [.e (.pv (.int .u8 (gd (hecklelaw03_Maker.L m) (w64 (w64 (hecklelaw03_Maker.At m+1) - 1)))))] [1,4] [(13,vi (Int.tmod (w64 (gd (hecklelaw03_Maker.L m) (w64 (w64 (hecklelaw03_Maker.At m+1) - 1)))) n))] (obC h1 (obC (idx_ok enc_u8 (hecklelaw03_Maker.L m) (w64 (w64 (hecklelaw03_Maker.At m+1) - 1)) _ rfl h1 h2) (obC h3 obN))) ?_
  refine tD ?_
  obtain ⟨he0,he1⟩:=h
  subst res fin
  exact (endD [] (vi (Int.tmod (w64 (gd (hecklelaw03_Maker.L m) (w64 (w64 (hecklelaw03_Maker.At m+1) - 1)))) n)) [.agg [vL enc_u8 (hecklelaw03_Maker.L m),vi (w64 (hecklelaw03_Maker.At m+1))]]).1
set_option maxHeartbeats 1000000 in
theorem W_heckleref01_add (s0:arr4_uint64) (b:Int) (res:arr4_uint64)
 (h:((w64 (Int.tdiv b (64:Int))=0∨w64 (Int.tdiv b (64:Int))=1∨w64 (Int.tdiv b (64:Int))=2∨w64 (Int.tdiv b (64:Int))=3)∧((decide (w64 (Int.tdiv b (64:Int))=(0:Int)))=true→((decide (w64 (Int.tdiv b (64:Int))=(0:Int)))=true→((0:Int)≤Int.tmod b (64:Int)))∧(res=({ e0:=IntKind.wrap IntKind.u64 (↑(BitVec.toNat (BitVec.ofInt (IntKind.bits IntKind.u64) (arr4_uint64.e0 s0) ||| BitVec.ofInt (IntKind.bits IntKind.u64) (IntKind.wrap IntKind.u64 ((1:Int) * (2:Int) ^ Min.min (Int.toNat (Int.tmod b (64:Int))) (IntKind.bits IntKind.u64))))):Int),e1:=arr4_uint64.e1 s0,e2:=arr4_uint64.e2 s0,e3:=arr4_uint64.e3 s0 })))∧((decide (w64 (Int.tdiv b (64:Int))=(1:Int)))=true→((decide (w64 (Int.tdiv b (64:Int))=(1:Int)))=true→((0:Int)≤Int.tmod b (64:Int)))∧(res=({ e0:=arr4_uint64.e0 s0,e1:=IntKind.wrap IntKind.u64 (↑(BitVec.toNat (BitVec.ofInt (IntKind.bits IntKind.u64) (arr4_uint64.e1 s0) ||| BitVec.ofInt (IntKind.bits IntKind.u64) (IntKind.wrap IntKind.u64 ((1:Int) * (2:Int) ^ Min.min (Int.toNat (Int.tmod b (64:Int))) (IntKind.bits IntKind.u64))))):Int),e2:=arr4_uint64.e2 s0,e3:=arr4_uint64.e3 s0 })))∧((decide (w64 (Int.tdiv b (64:Int))=(2:Int)))=true→((decide (w64 (Int.tdiv b (64:Int))=(2:Int)))=true→((0:Int)≤Int.tmod b (64:Int)))∧(res=({ e0:=arr4_uint64.e0 s0,e1:=arr4_uint64.e1 s0,e2:=IntKind.wrap IntKind.u64 (↑(BitVec.toNat (BitVec.ofInt (IntKind.bits IntKind.u64) (arr4_uint64.e2 s0) ||| BitVec.ofInt (IntKind.bits IntKind.u64) (IntKind.wrap IntKind.u64 ((1:Int) * (2:Int) ^ Min.min (Int.toNat (Int.tmod b (64:Int))) (IntKind.bits IntKind.u64))))):Int),e3:=arr4_uint64.e3 s0 })))∧((decide (w64 (Int.tdiv b (64:Int))=(3:Int)))=true→((decide (w64 (Int.tdiv b (64:Int))=(3:Int)))=true→((0:Int)≤Int.tmod b (64:Int)))∧(res=({ e0:=arr4_uint64.e0 s0,e1:=arr4_uint64.e1 s0,e2:=arr4_uint64.e2 s0,e3:=IntKind.wrap IntKind.u64 (↑(BitVec.toNat (BitVec.ofInt (IntKind.bits IntKind.u64) (arr4_uint64.e3 s0) ||| BitVec.ofInt (IntKind.bits IntKind.u64) (IntKind.wrap IntKind.u64 ((1:Int) * (2:Int) ^ Min.min (Int.toNat (Int.tmod b (64:Int))) (IntKind.bits IntKind.u64))))):Int) }))))):C_heckleref01_add s0 b res:=by
 unfold C_heckleref01_add
 have kk:=cfOk [16] 17
 refine fD (x:=bodyOf Try.f97) kk Try.func97 ?_
 refine wkS [1,4] [(1,av_arr4_uint64 s0),(4,vi b)] (by kernel_rfl) ?_
 refine sD kk [] [1] [(7,.ptr 8 0),(8,av_arr4_uint64 s0),(13,.ptr 14 0),(14,.agg [vI .u64 0,vI .u64 0,vI .u64 0,vI .u64 0])] obN ?_
 obtain ⟨hor,h⟩:=h
 rcases hor with hb0 | hb0 | hb0 | hb0
 ·have hb0:=decide_eq_true hb0
  have h:=h.1 hb0
  obtain ⟨h1,h⟩:=h
  refine sD kk [.n 0,.n 0] [4] [(8,.agg [vI .u64 (IntKind.wrap IntKind.u64 (↑(BitVec.toNat (BitVec.ofInt (IntKind.bits IntKind.u64) (arr4_uint64.e0 s0) ||| BitVec.ofInt (IntKind.bits IntKind.u64) (IntKind.wrap IntKind.u64 ((1:Int) * (2:Int) ^ Min.min (Int.toNat (Int.tmod b (64:Int))) (IntKind.bits IntKind.u64))))):Int)),vI .u64 (arr4_uint64.e1 s0),vI .u64 (arr4_uint64.e2 s0),vI .u64 (arr4_uint64.e3 s0)])] (obC (show (64:Int)≠(0:Int) from by first | decide | rfl | trivial | (simp only [nm]<;>first | decide | rfl | omega)) (obC (show (64:Int)≠(0:Int) from by first | decide | rfl | trivial | (simp only [nm]<;>first | decide | rfl | omega)) (obC (of_decide_eq_true hb0) (obC (show (64:Int)≠(0:Int) from by first | decide | rfl | trivial | (simp only [nm]<;>first | decide | rfl | omega)) (obC (h1 hb0) (obC (of_decide_eq_true hb0) obN)))))) ?_
  refine sD kk [] [7,8] [(14,.agg [vI .u64 (IntKind.wrap IntKind.u64 (↑(BitVec.toNat (BitVec.ofInt (IntKind.bits IntKind.u64) (arr4_uint64.e0 s0) ||| BitVec.ofInt (IntKind.bits IntKind.u64) (IntKind.wrap IntKind.u64 ((1:Int) * (2:Int) ^ Min.min (Int.toNat (Int.tmod b (64:Int))) (IntKind.bits IntKind.u64))))):Int)),vI .u64 (arr4_uint64.e1 s0),vI .u64 (arr4_uint64.e2 s0),vI .u64 (arr4_uint64.e3 s0)])] obN ?_
  refine tD ?_
  obtain he0:=h
  subst res
  exact (endD [] (.agg [vI .u64 (IntKind.wrap IntKind.u64 (↑(BitVec.toNat (BitVec.ofInt (IntKind.bits IntKind.u64) (arr4_uint64.e0 s0) ||| BitVec.ofInt (IntKind.bits IntKind.u64) (IntKind.wrap IntKind.u64 ((1:Int) * (2:Int) ^ Min.min (Int.toNat (Int.tmod b (64:Int))) (IntKind.bits IntKind.u64))))):Int)),vI .u64 (arr4_uint64.e1 s0),vI .u64 (arr4_uint64.e2 s0),vI .u64 (arr4_uint64.e3 s0)]) []).1
 ·have hb0:=decide_eq_true hb0
  have h:=h.2.1 hb0
  obtain ⟨h2,h⟩:=h
  refine sD kk [.n 1,.n 1] [4] [(8,.agg [vI .u64 (arr4_uint64.e0 s0),vI .u64 (IntKind.wrap IntKind.u64 (↑(BitVec.toNat (BitVec.ofInt (IntKind.bits IntKind.u64) (arr4_uint64.e1 s0) ||| BitVec.ofInt (IntKind.bits IntKind.u64) (IntKind.wrap IntKind.u64 ((1:Int) * (2:Int) ^ Min.min (Int.toNat (Int.tmod b (64:Int))) (IntKind.bits IntKind.u64))))):Int)),vI .u64 (arr4_uint64.e2 s0),vI .u64 (arr4_uint64.e3 s0)])] (obC (show (64:Int)≠(0:Int) from by first | decide | rfl | trivial | (simp only [nm]<;>first | decide | rfl | omega)) (obC (show (64:Int)≠(0:Int) from by first | decide | rfl | trivial | (simp only [nm]<;>first | decide | rfl | omega)) (obC (of_decide_eq_true hb0) (obC (show (64:Int)≠(0:Int) from by first | decide | rfl | trivial | (simp only [nm]<;>first | decide | rfl | omega)) (obC (h2 hb0) (obC (of_decide_eq_true hb0) obN)))))) ?_
  refine sD kk [] [7,8] [(14,.agg [vI .u64 (arr4_uint64.e0 s0),vI .u64 (IntKind.wrap IntKind.u64 (↑(BitVec.toNat (BitVec.ofInt (IntKind.bits IntKind.u64) (arr4_uint64.e1 s0) ||| BitVec.ofInt (IntKind.bits IntKind.u64) (IntKind.wrap IntKind.u64 ((1:Int) * (2:Int) ^ Min.min (Int.toNat (Int.tmod b (64:Int))) (IntKind.bits IntKind.u64))))):Int)),vI .u64 (arr4_uint64.e2 s0),vI .u64 (arr4_uint64.e3 s0)])] obN ?_
  refine tD ?_
  obtain he0:=h
  subst res
  exact (endD [] (.agg [vI .u64 (arr4_uint64.e0 s0),vI .u64 (IntKind.wrap IntKind.u64 (↑(BitVec.toNat (BitVec.ofInt (IntKind.bits IntKind.u64) (arr4_uint64.e1 s0) ||| BitVec.ofInt (IntKind.bits IntKind.u64) (IntKind.wrap IntKind.u64 ((1:Int) * (2:Int) ^ Min.min (Int.toNat (Int.tmod b (64:Int))) (IntKind.bits IntKind.u64))))):Int)),vI .u64 (arr4_uint64.e2 s0),vI .u64 (arr4_uint64.e3 s0)]) []).1
 ·have hb0:=decide_eq_true hb0
  have h:=h.2.2.1 hb0
  obtain ⟨h3,h⟩:=h
  refine sD kk [.n 2,.n 2] [4] [(8,.agg [vI .u64 (arr4_uint64.e0 s0),vI .u64 (arr4_uint64.e1 s0),vI .u64 (IntKind.wrap IntKind.u64 (↑(BitVec.toNat (BitVec.ofInt (IntKind.bits IntKind.u64) (arr4_uint64.e2 s0) ||| BitVec.ofInt (IntKind.bits IntKind.u64) (IntKind.wrap IntKind.u64 ((1:Int) * (2:Int) ^ Min.min (Int.toNat (Int.tmod b (64:Int))) (IntKind.bits IntKind.u64))))):Int)),vI .u64 (arr4_uint64.e3 s0)])] (obC (show (64:Int)≠(0:Int) from by first | decide | rfl | trivial | (simp only [nm]<;>first | decide | rfl | omega)) (obC (show (64:Int)≠(0:Int) from by first | decide | rfl | trivial | (simp only [nm]<;>first | decide | rfl | omega)) (obC (of_decide_eq_true hb0) (obC (show (64:Int)≠(0:Int) from by first | decide | rfl | trivial | (simp only [nm]<;>first | decide | rfl | omega)) (obC (h3 hb0) (obC (of_decide_eq_true hb0) obN)))))) ?_
  refine sD kk [] [7,8] [(14,.agg [vI .u64 (arr4_uint64.e0 s0),vI .u64 (arr4_uint64.e1 s0),vI .u64 (IntKind.wrap IntKind.u64 (↑(BitVec.toNat (BitVec.ofInt (IntKind.bits IntKind.u64) (arr4_uint64.e2 s0) ||| BitVec.ofInt (IntKind.bits IntKind.u64) (IntKind.wrap IntKind.u64 ((1:Int) * (2:Int) ^ Min.min (Int.toNat (Int.tmod b (64:Int))) (IntKind.bits IntKind.u64))))):Int)),vI .u64 (arr4_uint64.e3 s0)])] obN ?_
  refine tD ?_
  obtain he0:=h
  subst res
  exact (endD [] (.agg [vI .u64 (arr4_uint64.e0 s0),vI .u64 (arr4_uint64.e1 s0),vI .u64 (IntKind.wrap IntKind.u64 (↑(BitVec.toNat (BitVec.ofInt (IntKind.bits IntKind.u64) (arr4_uint64.e2 s0) ||| BitVec.ofInt (IntKind.bits IntKind.u64) (IntKind.wrap IntKind.u64 ((1:Int) * (2:Int) ^ Min.min (Int.toNat (Int.tmod b (64:Int))) (IntKind.bits IntKind.u64))))):Int)),vI .u64 (arr4_uint64.e3 s0)]) []).1
 ·have hb0:=decide_eq_true hb0
  have h:=h.2.2.2 hb0
  obtain ⟨h4,h⟩:=h
  refine sD kk [.n 3,.n 3] [4] [(8,.agg [vI .u64 (arr4_uint64.e0 s0),vI .u64 (arr4_uint64.e1 s0),vI .u64 (arr4_uint64.e2 s0),vI .u64 (IntKind.wrap IntKind.u64 (↑(BitVec.toNat (BitVec.ofInt (IntKind.bits IntKind.u64) (arr4_uint64.e3 s0) ||| BitVec.ofInt (IntKind.bits IntKind.u64) (IntKind.wrap IntKind.u64 ((1:Int) * (2:Int) ^ Min.min (Int.toNat (Int.tmod b (64:Int))) (IntKind.bits IntKind.u64))))):Int))])] (obC (show (64:Int)≠(0:Int) from by first | decide | rfl | trivial | (simp only [nm]<;>first | decide | rfl | omega)) (obC (show (64:Int)≠(0:Int) from by first | decide | rfl | trivial | (simp only [nm]<;>first | decide | rfl | omega)) (obC (of_decide_eq_true hb0) (obC (show (64:Int)≠(0:Int) from by first | decide | rfl | trivial | (simp only [nm]<;>first | decide | rfl | omega)) (obC (h4 hb0) (obC (of_decide_eq_true hb0) obN)))))) ?_
  refine sD kk [] [7,8] [(14,.agg [vI .u64 (arr4_uint64.e0 s0),vI .u64 (arr4_uint64.e1 s0),vI .u64 (arr4_uint64.e2 s0),vI .u64 (IntKind.wrap IntKind.u64 (↑(BitVec.toNat (BitVec.ofInt (IntKind.bits IntKind.u64) (arr4_uint64.e3 s0) ||| BitVec.ofInt (IntKind.bits IntKind.u64) (IntKind.wrap IntKind.u64 ((1:Int) * (2:Int) ^ Min.min (Int.toNat (Int.tmod b (64:Int))) (IntKind.bits IntKind.u64))))):Int))])] obN ?_
  refine tD ?_
  obtain he0:=h
  subst res
  exact (endD [] (.agg [vI .u64 (arr4_uint64.e0 s0),vI .u64 (arr4_uint64.e1 s0),vI .u64 (arr4_uint64.e2 s0),vI .u64 (IntKind.wrap IntKind.u64 (↑(BitVec.toNat (BitVec.ofInt (IntKind.bits IntKind.u64) (arr4_uint64.e3 s0) ||| BitVec.ofInt (IntKind.bits IntKind.u64) (IntKind.wrap IntKind.u64 ((1:Int) * (2:Int) ^ Min.min (Int.toNat (Int.tmod b (64:Int))) (IntKind.bits IntKind.u64))))):Int))]) []).1
set_option maxHeartbeats 1000000 in
theorem W_heckleref01_Of (from0:Int) (to0:Int) (res:arr4_uint64)
 (h:(∃ (Inv16:Int→Int→Int→Int→Int→Prop) (mu17:Int→Int→Int→Int→Int→Nat),Inv16 0 0 0 0 0∧(∀ (s_e0_1:Int) (s_e1_1:Int) (s_e2_1:Int) (s_e3_1:Int) (b:Int),Inv16 s_e0_1 s_e1_1 s_e2_1 s_e3_1 b→(((decide (b < (256:Int)))=true→(∃ J22:Int→Int→Int→Int→Prop,(∀ (s_e0_3:Int) (s_e1_3:Int) (s_e2_3:Int) (s_e3_3:Int),J22 s_e0_3 s_e1_3 s_e2_3 s_e3_3→(Inv16 s_e0_3 s_e1_3 s_e2_3 s_e3_3 (w64 (b+1))∧mu17 s_e0_3 s_e1_3 s_e2_3 s_e3_3 (w64 (b+1)) < mu17 s_e0_1 s_e1_1 s_e2_1 s_e3_1 b))∧(((decide (b≥from0) && decide (b≤to0))=true→(∃ r0_5:arr4_uint64,C_heckleref01_add ({ e0:=s_e0_1,e1:=s_e1_1,e2:=s_e2_1,e3:=s_e3_1 }) b r0_5∧J22 (arr4_uint64.e0 r0_5) (arr4_uint64.e1 r0_5) (arr4_uint64.e2 r0_5) (arr4_uint64.e3 r0_5)))∧((decide (b≥from0) && decide (b≤to0))=false→J22 s_e0_1 s_e1_1 s_e2_1 s_e3_1))))∧((decide (b < (256:Int)))=false→(res=({ e0:=s_e0_1,e1:=s_e1_1,e2:=s_e2_1,e3:=s_e3_1 }))))))):C_heckleref01_Of from0 to0 res:=by
 unfold C_heckleref01_Of
 have kk:=cfOk [22] 23
 refine fD (x:=bodyOf Try.f67) kk Try.func67 ?_
 refine wkS [1,4] [(1,vi from0),(4,vi to0)] (by kernel_rfl) ?_
 refine sD kk [] [] [(13,.ptr 14 0),(14,.agg [vI .u64 0,vI .u64 0,vI .u64 0,vI .u64 0])] obN ?_
 refine sD kk [] [] [(16,.ptr 17 0),(17,.agg [vI .u64 0,vI .u64 0,vI .u64 0,vI .u64 0])] obN ?_
 refine qD ?_
 refine sD kk [] [] [(19,vi 0)] obN ?_
 refine bD (id:=0) ?_
 obtain ⟨Inv16,mu17,h0Inv16,hInv16⟩:=h
 refine loD (fun (q:Int×Int×Int×Int×Int)=>(fun (s_e0_1:Int) (s_e1_1:Int) (s_e2_1:Int) (s_e3_1:Int) (b:Int)=>([(1,vi from0),(4,vi to0),(13,.ptr 14 0),(14,.agg [vI .u64 0,vI .u64 0,vI .u64 0,vI .u64 0]),(16,.ptr 17 0),(17,.agg [vI .u64 s_e0_1,vI .u64 s_e1_1,vI .u64 s_e2_1,vI .u64 s_e3_1]),(19,vi b)]:Sta)) q.1 q.2.1 q.2.2.1 q.2.2.2.1 q.2.2.2.2) (fun (q:Int×Int×Int×Int×Int)=>Inv16 q.1 q.2.1 q.2.2.1 q.2.2.2.1 q.2.2.2.2) (fun (q:Int×Int×Int×Int×Int)=>mu17 q.1 q.2.1 q.2.2.1 q.2.2.2.1 q.2.2.2.2) (0,0,0,0,0) [] h0Inv16 ?_
 rintro ⟨s_e0_1,s_e1_1,s_e2_1,s_e3_1,b⟩ hi
 have h:=hInv16 s_e0_1 s_e1_1 s_e2_1 s_e3_1 b hi
 refine qD ?_
 refine sD kk [] [] [(25,vB (decide (b < (256:Int))))] obN ?_
 refine cD (t:=8) (b:=decide (b < (256:Int))) (fun hb18=>?_) (fun hb18=>?_)
 ·have h:=h.1 hb18
  refine Sem.skip' (by kernel_rfl) Wk.refl ?_
  show Sem _ _ _ _ _
  refine wkD [25] ?_
  obtain ⟨J22,hJ22,h⟩:=h
  refine sjD (fun (q:Int×Int×Int×Int)=>J22 q.1 q.2.1 q.2.2.1 q.2.2.2) (fun (q:Int×Int×Int×Int)=>(fun (s_e0_3:Int) (s_e1_3:Int) (s_e2_3:Int) (s_e3_3:Int)=>([(1,vi from0),(4,vi to0),(13,.ptr 14 0),(14,.agg [vI .u64 0,vI .u64 0,vI .u64 0,vI .u64 0]),(16,.ptr 17 0),(17,.agg [vI .u64 s_e0_3,vI .u64 s_e1_3,vI .u64 s_e2_3,vI .u64 s_e3_3]),(19,vi b)]:Sta)) q.1 q.2.1 q.2.2.1 q.2.2.2) ?_ ?_
  ·rintro ⟨s_e0_3,s_e1_3,s_e2_3,s_e3_3⟩ hj
   have h:=hJ22 s_e0_3 s_e1_3 s_e2_3 s_e3_3 hj
   refine rD kk [] [] [(19,vi (w64 (b+1)))] obN ?_
   exact lD (s_e0_3,s_e1_3,s_e2_3,s_e3_3,(w64 (b+1))) [] h
  ·refine bD (id:=1) ?_
   refine sM [] [(55,vB (decide (b≥from0) && decide (b≤to0)))] ?_ (fun hk0=>?_)
   ·refine cD (t:=18) (b:=decide (b≥from0) && decide (b≤to0)) (fun hb24=>?_) (fun hb24=>?_)
    ·have h:=h.1 hb24
     obtain ⟨r0_5,hc25,h⟩:=h
     refine rD kk [.c (av_arr4_uint64 r0_5) []] [55] [(17,av_arr4_uint64 r0_5)] (obC hc25 obN) ?_
     exact jD ((arr4_uint64.e0 r0_5),(arr4_uint64.e1 r0_5),(arr4_uint64.e2 r0_5),(arr4_uint64.e3 r0_5)) [] h
    ·have h:=h.2 hb24
     refine Sem.skip' (by kernel_rfl) Wk.refl ?_
     exact jD (s_e0_1,s_e1_1,s_e2_1,s_e3_1) [] h
   ·rcases Bool.eq_false_or_eq_true (decide (b≥from0)) with hb23 | hb23
    ·refine sD kk [.b true,.b true,.b true,.b true] [] [(55,vB (decide (b≤to0)))] (obC (gtt hb23) (obC (gtt hb23) (obC (gtt hb23) (obC hb23 obN)))) ?_
     exact Sem.cast (by try rw [hb23];kernel_rfl) hk0
    ·refine sD kk [.b false,.b false,.b false,.b false] [] [(55,vB false)] (obC (gtf hb23) (obC (gtf hb23) (obC (gtf hb23) (obC hb23 obN)))) ?_
     exact Sem.cast (by try rw [hb23];kernel_rfl) hk0
 ·have h:=h.2 hb18
  refine xD (i:=0) ?_
  show Sem _ _ _ _ _
  refine wkD [1,4,19,25] ?_
  refine sD kk [] [16,17] [(14,.agg [vI .u64 s_e0_1,vI .u64 s_e1_1,vI .u64 s_e2_1,vI .u64 s_e3_1])] obN ?_
  refine tD ?_
  obtain he0:=h
  subst res
  exact (endD [] (.agg [vI .u64 s_e0_1,vI .u64 s_e1_1,vI .u64 s_e2_1,vI .u64 s_e3_1]) []).1
set_option maxHeartbeats 1000000 in
theorem W_heckleref01_Has (s0:arr4_uint64) (b:Int) (res:Bool)
 (h:(((decide (b≥(0:Int)))=true→(((decide (b < (256:Int)))=true→((w64 (Int.tdiv b (64:Int))=0∨w64 (Int.tdiv b (64:Int))=1∨w64 (Int.tdiv b (64:Int))=2∨w64 (Int.tdiv b (64:Int))=3)∧((decide (w64 (Int.tdiv b (64:Int))=(0:Int)))=true→((decide (b≥(0:Int)))=true→((decide (b < (256:Int)))=true→((decide (w64 (Int.tdiv b (64:Int))=(0:Int)))=true→((0:Int)≤Int.tmod b (64:Int)))))∧(res=(IntKind.wrap IntKind.u64 (↑(BitVec.toNat (BitVec.ofInt (IntKind.bits IntKind.u64) (Int.fdiv (arr4_uint64.e0 s0) ((2:Int) ^ Min.min (Int.toNat (Int.tmod b (64:Int))) (IntKind.bits IntKind.u64))) &&& BitVec.ofInt (IntKind.bits IntKind.u64) (1:Int))):Int) == 1)))∧((decide (w64 (Int.tdiv b (64:Int))=(1:Int)))=true→((decide (b≥(0:Int)))=true→((decide (b < (256:Int)))=true→((decide (w64 (Int.tdiv b (64:Int))=(1:Int)))=true→((0:Int)≤Int.tmod b (64:Int)))))∧(res=(IntKind.wrap IntKind.u64 (↑(BitVec.toNat (BitVec.ofInt (IntKind.bits IntKind.u64) (Int.fdiv (arr4_uint64.e1 s0) ((2:Int) ^ Min.min (Int.toNat (Int.tmod b (64:Int))) (IntKind.bits IntKind.u64))) &&& BitVec.ofInt (IntKind.bits IntKind.u64) (1:Int))):Int) == 1)))∧((decide (w64 (Int.tdiv b (64:Int))=(2:Int)))=true→((decide (b≥(0:Int)))=true→((decide (b < (256:Int)))=true→((decide (w64 (Int.tdiv b (64:Int))=(2:Int)))=true→((0:Int)≤Int.tmod b (64:Int)))))∧(res=(IntKind.wrap IntKind.u64 (↑(BitVec.toNat (BitVec.ofInt (IntKind.bits IntKind.u64) (Int.fdiv (arr4_uint64.e2 s0) ((2:Int) ^ Min.min (Int.toNat (Int.tmod b (64:Int))) (IntKind.bits IntKind.u64))) &&& BitVec.ofInt (IntKind.bits IntKind.u64) (1:Int))):Int) == 1)))∧((decide (w64 (Int.tdiv b (64:Int))=(3:Int)))=true→((decide (b≥(0:Int)))=true→((decide (b < (256:Int)))=true→((decide (w64 (Int.tdiv b (64:Int))=(3:Int)))=true→((0:Int)≤Int.tmod b (64:Int)))))∧(res=(IntKind.wrap IntKind.u64 (↑(BitVec.toNat (BitVec.ofInt (IntKind.bits IntKind.u64) (Int.fdiv (arr4_uint64.e3 s0) ((2:Int) ^ Min.min (Int.toNat (Int.tmod b (64:Int))) (IntKind.bits IntKind.u64))) &&& BitVec.ofInt (IntKind.bits IntKind.u64) (1:Int))):Int) == 1)))))∧((decide (b < (256:Int)))=false→(res=false))))∧((decide (b≥(0:Int)))=false→(res=false)))):C_heckleref01_Has s0 b res:=by
 unfold C_heckleref01_Has
 have kk:=cfOk [] 22
 refine fD (x:=bodyOf Try.f51) kk Try.func51 ?_
 refine wkS [1,4] [(1,av_arr4_uint64 s0),(4,vi b)] (by kernel_rfl) ?_
 refine sD kk [] [1] [(7,.ptr 8 0),(8,av_arr4_uint64 s0)] obN ?_
 rcases Bool.eq_false_or_eq_true (decide (b≥(0:Int))) with hb0 | hb0
 ·have h:=h.1 hb0
  rcases Bool.eq_false_or_eq_true (decide (b < (256:Int))) with hb1 | hb1
  ·have h:=h.1 hb1
   obtain ⟨hor,h⟩:=h
   rcases hor with hb2 | hb2 | hb2 | hb2
   ·have hb2:=decide_eq_true hb2
    have h:=h.1 hb2
    obtain ⟨h3,h⟩:=h
    refine sD kk [.b true,.b true,.b true,.b true,.b true,.b true,.n 0,.b true,.b true,.b true,.b true,.b true,.b true,.b true] [4,7,8] [(13,vB (IntKind.wrap IntKind.u64 (↑(BitVec.toNat (BitVec.ofInt (IntKind.bits IntKind.u64) (Int.fdiv (arr4_uint64.e0 s0) ((2:Int) ^ Min.min (Int.toNat (Int.tmod b (64:Int))) (IntKind.bits IntKind.u64))) &&& BitVec.ofInt (IntKind.bits IntKind.u64) (1:Int))):Int) == 1))] (obC (gtt hb0) (obC (gtt hb0) (obC hb0 (obC (gtt hb1) (obC (gtt hb1) (obC (show (64:Int)≠(0:Int) from by first | decide | rfl | trivial | (simp only [nm]<;>first | decide | rfl | omega)) (obC (gtt hb1) (obC (of_decide_eq_true hb2) (obC (gtt hb1) (obC (gtt hb1) (obC (gtt hb1) (obC (show (64:Int)≠(0:Int) from by first | decide | rfl | trivial | (simp only [nm]<;>first | decide | rfl | omega)) (obC (gtt hb1) (obC (((h3 hb0) hb1) hb2) (obC (gtt hb1) (obC (gtt hb1) (obC hb1 obN))))))))))))))))) ?_
    refine tD ?_
    obtain he0:=h
    subst res
    exact (endD [] (vB (IntKind.wrap IntKind.u64 (↑(BitVec.toNat (BitVec.ofInt (IntKind.bits IntKind.u64) (Int.fdiv (arr4_uint64.e0 s0) ((2:Int) ^ Min.min (Int.toNat (Int.tmod b (64:Int))) (IntKind.bits IntKind.u64))) &&& BitVec.ofInt (IntKind.bits IntKind.u64) (1:Int))):Int) == 1)) []).1
   ·have hb2:=decide_eq_true hb2
    have h:=h.2.1 hb2
    obtain ⟨h4,h⟩:=h
    refine sD kk [.b true,.b true,.b true,.b true,.b true,.b true,.n 1,.b true,.b true,.b true,.b true,.b true,.b true,.b true] [4,7,8] [(13,vB (IntKind.wrap IntKind.u64 (↑(BitVec.toNat (BitVec.ofInt (IntKind.bits IntKind.u64) (Int.fdiv (arr4_uint64.e1 s0) ((2:Int) ^ Min.min (Int.toNat (Int.tmod b (64:Int))) (IntKind.bits IntKind.u64))) &&& BitVec.ofInt (IntKind.bits IntKind.u64) (1:Int))):Int) == 1))] (obC (gtt hb0) (obC (gtt hb0) (obC hb0 (obC (gtt hb1) (obC (gtt hb1) (obC (show (64:Int)≠(0:Int) from by first | decide | rfl | trivial | (simp only [nm]<;>first | decide | rfl | omega)) (obC (gtt hb1) (obC (of_decide_eq_true hb2) (obC (gtt hb1) (obC (gtt hb1) (obC (gtt hb1) (obC (show (64:Int)≠(0:Int) from by first | decide | rfl | trivial | (simp only [nm]<;>first | decide | rfl | omega)) (obC (gtt hb1) (obC (((h4 hb0) hb1) hb2) (obC (gtt hb1) (obC (gtt hb1) (obC hb1 obN))))))))))))))))) ?_
    refine tD ?_
    obtain he0:=h
    subst res
    exact (endD [] (vB (IntKind.wrap IntKind.u64 (↑(BitVec.toNat (BitVec.ofInt (IntKind.bits IntKind.u64) (Int.fdiv (arr4_uint64.e1 s0) ((2:Int) ^ Min.min (Int.toNat (Int.tmod b (64:Int))) (IntKind.bits IntKind.u64))) &&& BitVec.ofInt (IntKind.bits IntKind.u64) (1:Int))):Int) == 1)) []).1
   ·have hb2:=decide_eq_true hb2
    have h:=h.2.2.1 hb2
    obtain ⟨h5,h⟩:=h
    refine sD kk [.b true,.b true,.b true,.b true,.b true,.b true,.n 2,.b true,.b true,.b true,.b true,.b true,.b true,.b true] [4,7,8] [(13,vB (IntKind.wrap IntKind.u64 (↑(BitVec.toNat (BitVec.ofInt (IntKind.bits IntKind.u64) (Int.fdiv (arr4_uint64.e2 s0) ((2:Int) ^ Min.min (Int.toNat (Int.tmod b (64:Int))) (IntKind.bits IntKind.u64))) &&& BitVec.ofInt (IntKind.bits IntKind.u64) (1:Int))):Int) == 1))] (obC (gtt hb0) (obC (gtt hb0) (obC hb0 (obC (gtt hb1) (obC (gtt hb1) (obC (show (64:Int)≠(0:Int) from by first | decide | rfl | trivial | (simp only [nm]<;>first | decide | rfl | omega)) (obC (gtt hb1) (obC (of_decide_eq_true hb2) (obC (gtt hb1) (obC (gtt hb1) (obC (gtt hb1) (obC (show (64:Int)≠(0:Int) from by first | decide | rfl | trivial | (simp only [nm]<;>first | decide | rfl | omega)) (obC (gtt hb1) (obC (((h5 hb0) hb1) hb2) (obC (gtt hb1) (obC (gtt hb1) (obC hb1 obN))))))))))))))))) ?_
    refine tD ?_
    obtain he0:=h
    subst res
    exact (endD [] (vB (IntKind.wrap IntKind.u64 (↑(BitVec.toNat (BitVec.ofInt (IntKind.bits IntKind.u64) (Int.fdiv (arr4_uint64.e2 s0) ((2:Int) ^ Min.min (Int.toNat (Int.tmod b (64:Int))) (IntKind.bits IntKind.u64))) &&& BitVec.ofInt (IntKind.bits IntKind.u64) (1:Int))):Int) == 1)) []).1
   ·have hb2:=decide_eq_true hb2
    have h:=h.2.2.2 hb2
    obtain ⟨h6,h⟩:=h
    refine sD kk [.b true,.b true,.b true,.b true,.b true,.b true,.n 3,.b true,.b true,.b true,.b true,.b true,.b true,.b true] [4,7,8] [(13,vB (IntKind.wrap IntKind.u64 (↑(BitVec.toNat (BitVec.ofInt (IntKind.bits IntKind.u64) (Int.fdiv (arr4_uint64.e3 s0) ((2:Int) ^ Min.min (Int.toNat (Int.tmod b (64:Int))) (IntKind.bits IntKind.u64))) &&& BitVec.ofInt (IntKind.bits IntKind.u64) (1:Int))):Int) == 1))] (obC (gtt hb0) (obC (gtt hb0) (obC hb0 (obC (gtt hb1) (obC (gtt hb1) (obC (show (64:Int)≠(0:Int) from by first | decide | rfl | trivial | (simp only [nm]<;>first | decide | rfl | omega)) (obC (gtt hb1) (obC (of_decide_eq_true hb2) (obC (gtt hb1) (obC (gtt hb1) (obC (gtt hb1) (obC (show (64:Int)≠(0:Int) from by first | decide | rfl | trivial | (simp only [nm]<;>first | decide | rfl | omega)) (obC (gtt hb1) (obC (((h6 hb0) hb1) hb2) (obC (gtt hb1) (obC (gtt hb1) (obC hb1 obN))))))))))))))))) ?_
    refine tD ?_
    obtain he0:=h
    subst res
    exact (endD [] (vB (IntKind.wrap IntKind.u64 (↑(BitVec.toNat (BitVec.ofInt (IntKind.bits IntKind.u64) (Int.fdiv (arr4_uint64.e3 s0) ((2:Int) ^ Min.min (Int.toNat (Int.tmod b (64:Int))) (IntKind.bits IntKind.u64))) &&& BitVec.ofInt (IntKind.bits IntKind.u64) (1:Int))):Int) == 1)) []).1
  ·have h:=h.2 hb1
   refine sD kk [.b true,.b true,.b true,.b false,.b false,.b false,.b false,.b false,.b false,.b false,.b false,.b false,.b false] [4,7,8] [(13,vB false)] (obC (gtt hb0) (obC (gtt hb0) (obC hb0 (obC (gtf hb1) (obC (gtf hb1) (obC (gtf hb1) (obC (gtf hb1) (obC (gtf hb1) (obC (gtf hb1) (obC (gtf hb1) (obC (gtf hb1) (obC (gtf hb1) (obC hb1 obN))))))))))))) ?_
   refine tD ?_
   obtain he0:=h
   subst res
   exact (endD [] (vB false) []).1
 ·have h:=h.2 hb0
  refine sD kk [.b false,.b false,.b false,.b false,.b false,.b false,.b false,.b false,.b false,.b false,.b false,.b false,.b false] [4,7,8] [(13,vB false)] (obC (gtf hb0) (obC (gtf hb0) (obC hb0 (obC (rfl:false=false) (obC (rfl:false=false) (obC (rfl:false=false) (obC (rfl:false=false) (obC (rfl:false=false) (obC (rfl:false=false) (obC (rfl:false=false) (obC (rfl:false=false) (obC (rfl:false=false) (obC (rfl:false=false) obN))))))))))))) ?_
  refine tD ?_
  obtain he0:=h
  subst res
  exact (endD [] (vB false) []).1
set_option maxHeartbeats 1000000 in
theorem W_heckleref01_Not (a:arr4_uint64) (res:arr4_uint64)
 (h:(∃ (Inv16:Int→Int→Int→Int→Int→Prop) (mu17:Int→Int→Int→Int→Int→Nat),Inv16 0 0 0 0 0∧(∀ (s_e0_1:Int) (s_e1_1:Int) (s_e2_1:Int) (s_e3_1:Int) (i:Int),Inv16 s_e0_1 s_e1_1 s_e2_1 s_e3_1 i→(((decide (i < (256:Int)))=true→(∃ J22:Int→Int→Int→Int→Prop,(∀ (s_e0_3:Int) (s_e1_3:Int) (s_e2_3:Int) (s_e3_3:Int),J22 s_e0_3 s_e1_3 s_e2_3 s_e3_3→(Inv16 s_e0_3 s_e1_3 s_e2_3 s_e3_3 (w64 (i+1))∧mu17 s_e0_3 s_e1_3 s_e2_3 s_e3_3 (w64 (i+1)) < mu17 s_e0_1 s_e1_1 s_e2_1 s_e3_1 i))∧(∃ r0_10:Bool,C_heckleref01_Has a i r0_10∧(((!r0_10)=true→(∃ r0_11:arr4_uint64,C_heckleref01_add ({ e0:=s_e0_1,e1:=s_e1_1,e2:=s_e2_1,e3:=s_e3_1 }) i r0_11∧J22 (arr4_uint64.e0 r0_11) (arr4_uint64.e1 r0_11) (arr4_uint64.e2 r0_11) (arr4_uint64.e3 r0_11)))∧((!r0_10)=false→J22 s_e0_1 s_e1_1 s_e2_1 s_e3_1)))))∧((decide (i < (256:Int)))=false→(res=({ e0:=s_e0_1,e1:=s_e1_1,e2:=s_e2_1,e3:=s_e3_1 }))))))):C_heckleref01_Not a res:=by
 unfold C_heckleref01_Not
 have kk:=cfOk [16] 17
 refine fD (x:=bodyOf Try.f100) kk Try.func100 ?_
 refine wkS [1] [(1,av_arr4_uint64 a)] (by kernel_rfl) ?_
 refine sD kk [] [1] [(4,.ptr 5 0),(5,av_arr4_uint64 a),(7,.ptr 8 0),(8,.agg [vI .u64 0,vI .u64 0,vI .u64 0,vI .u64 0])] obN ?_
 refine sD kk [] [] [(10,.ptr 11 0),(11,.agg [vI .u64 0,vI .u64 0,vI .u64 0,vI .u64 0])] obN ?_
 refine qD ?_
 refine sD kk [] [] [(13,vi 0)] obN ?_
 refine bD (id:=0) ?_
 obtain ⟨Inv16,mu17,h0Inv16,hInv16⟩:=h
 refine loD (fun (q:Int×Int×Int×Int×Int)=>(fun (s_e0_1:Int) (s_e1_1:Int) (s_e2_1:Int) (s_e3_1:Int) (i:Int)=>([(4,.ptr 5 0),(5,av_arr4_uint64 a),(7,.ptr 8 0),(8,.agg [vI .u64 0,vI .u64 0,vI .u64 0,vI .u64 0]),(10,.ptr 11 0),(11,.agg [vI .u64 s_e0_1,vI .u64 s_e1_1,vI .u64 s_e2_1,vI .u64 s_e3_1]),(13,vi i)]:Sta)) q.1 q.2.1 q.2.2.1 q.2.2.2.1 q.2.2.2.2) (fun (q:Int×Int×Int×Int×Int)=>Inv16 q.1 q.2.1 q.2.2.1 q.2.2.2.1 q.2.2.2.2) (fun (q:Int×Int×Int×Int×Int)=>mu17 q.1 q.2.1 q.2.2.1 q.2.2.2.1 q.2.2.2.2) (0,0,0,0,0) [] h0Inv16 ?_
 rintro ⟨s_e0_1,s_e1_1,s_e2_1,s_e3_1,i⟩ hi
 have h:=hInv16 s_e0_1 s_e1_1 s_e2_1 s_e3_1 i hi
 refine qD ?_
 refine sD kk [] [] [(19,vB (decide (i < (256:Int))))] obN ?_
 refine cD (t:=6) (b:=decide (i < (256:Int))) (fun hb18=>?_) (fun hb18=>?_)
 ·have h:=h.1 hb18
  refine Sem.skip' (by kernel_rfl) Wk.refl ?_
  show Sem _ _ _ _ _
  refine wkD [19] ?_
  obtain ⟨J22,hJ22,h⟩:=h
  refine sjD (fun (q:Int×Int×Int×Int)=>J22 q.1 q.2.1 q.2.2.1 q.2.2.2) (fun (q:Int×Int×Int×Int)=>(fun (s_e0_3:Int) (s_e1_3:Int) (s_e2_3:Int) (s_e3_3:Int)=>([(4,.ptr 5 0),(5,av_arr4_uint64 a),(7,.ptr 8 0),(8,.agg [vI .u64 0,vI .u64 0,vI .u64 0,vI .u64 0]),(10,.ptr 11 0),(11,.agg [vI .u64 s_e0_3,vI .u64 s_e1_3,vI .u64 s_e2_3,vI .u64 s_e3_3]),(13,vi i)]:Sta)) q.1 q.2.1 q.2.2.1 q.2.2.2) ?_ ?_
  ·rintro ⟨s_e0_3,s_e1_3,s_e2_3,s_e3_3⟩ hj
   have h:=hJ22 s_e0_3 s_e1_3 s_e2_3 s_e3_3 hj
   refine rD kk [] [] [(13,vi (w64 (i+1)))] obN ?_
   exact lD (s_e0_3,s_e1_3,s_e2_3,s_e3_3,(w64 (i+1))) [] h
  ·refine bD (id:=1) ?_
   obtain ⟨r0_10,hc23,h⟩:=h
   refine sD kk [.c (vB r0_10) []] [] [(37,vB (!r0_10))] (obC hc23 obN) ?_
   refine cD (t:=12) (b:=!r0_10) (fun hb24=>?_) (fun hb24=>?_)
   ·have h:=h.1 hb24
    obtain ⟨r0_11,hc25,h⟩:=h
    refine rD kk [.c (av_arr4_uint64 r0_11) []] [37] [(11,av_arr4_uint64 r0_11)] (obC hc25 obN) ?_
    exact jD ((arr4_uint64.e0 r0_11),(arr4_uint64.e1 r0_11),(arr4_uint64.e2 r0_11),(arr4_uint64.e3 r0_11)) [] h
   ·have h:=h.2 hb24
    refine Sem.skip' (by kernel_rfl) Wk.refl ?_
    exact jD (s_e0_1,s_e1_1,s_e2_1,s_e3_1) [] h
 ·have h:=h.2 hb18
  refine xD (i:=0) ?_
  show Sem _ _ _ _ _
  refine wkD [4,5,13,19] ?_
  refine sD kk [] [10,11] [(8,.agg [vI .u64 s_e0_1,vI .u64 s_e1_1,vI .u64 s_e2_1,vI .u64 s_e3_1])] obN ?_
  refine tD ?_
  obtain he0:=h
  subst res
  exact (endD [] (.agg [vI .u64 s_e0_1,vI .u64 s_e1_1,vI .u64 s_e2_1,vI .u64 s_e3_1]) []).1
set_option maxHeartbeats 1000000 in
theorem W_hecklelaw03_char (b:Int) (res:api_Rx)
 (h:(∃ r0:arr4_uint64,C_heckleref01_Of b b r0∧(res=({ Kind:=(2:Int),Set:=r0,Lo:=(0:Int),Hi:=(0:Int),Kids:=[] })))):C_hecklelaw03_char b res:=by
 unfold C_hecklelaw03_char
 have kk:=cfOk [] 7
 refine fD (x:=bodyOf Try.f38) kk Try.func38 ?_
 refine wkS [1] [(1,vi b)] (by kernel_rfl) ?_
 refine sDE kk [] [] [(7,.ptr 8 0),(8,.agg [vi 0,vI .u64 0,vI .u64 0,vI .u64 0,vI .u64 0,vi 0,vi 0,.own 36 ([])])] [(7,.ptr 8 0),(8,.agg [vi 0,vI .u64 0,vI .u64 0,vI .u64 0,vI .u64 0,vi 0,vi 0,oL 36 enc_api_Rx ([])])] obN ?_
 obtain ⟨r0,hc0,h⟩:=h
 refine sDE kk [.c (av_arr4_uint64 r0) []] [1] [(8,.agg [vi 2,vI .u64 (arr4_uint64.e0 r0),vI .u64 (arr4_uint64.e1 r0),vI .u64 (arr4_uint64.e2 r0),vI .u64 (arr4_uint64.e3 r0),vi 0,vi 0,.own 36 ([])])] [(8,.agg [vi 2,vI .u64 (arr4_uint64.e0 r0),vI .u64 (arr4_uint64.e1 r0),vI .u64 (arr4_uint64.e2 r0),vI .u64 (arr4_uint64.e3 r0),vi 0,vi 0,oL 36 enc_api_Rx ([])])] (obC hc0 obN) ?_
 refine tD ?_
 obtain he0:=h
 subst res
 exact (endD [] (.agg [vi 2,vI .u64 (arr4_uint64.e0 r0),vI .u64 (arr4_uint64.e1 r0),vI .u64 (arr4_uint64.e2 r0),vI .u64 (arr4_uint64.e3 r0),vi 0,vi 0,oL 36 enc_api_Rx ([])]) []).1
set_option maxHeartbeats 1000000 in
theorem W_hecklelaw03_Maker_leaf (m:hecklelaw03_Maker) (res:api_Rx) (fin:hecklelaw03_Maker)
 (h:(∃ r0:Int,∃ o:hecklelaw03_Maker,C_hecklelaw03_Maker_Pick 8 m r0 o∧(((r0 == 0)=true→(res=({ Kind:=(1:Int),Set:={ e0:=(0:Int),e1:=(0:Int),e2:=(0:Int),e3:=(0:Int) },Lo:=(0:Int),Hi:=(0:Int),Kids:=[] })∧fin=o))∧((r0 == 0)=false→(((r0 == 1)=true→(∃ r0_1:arr4_uint64,C_heckleref01_Of ((97:Int)) ((99:Int)) r0_1∧(res=({ Kind:=(2:Int),Set:=r0_1,Lo:=(0:Int),Hi:=(0:Int),Kids:=[] })∧fin=o)))∧((r0 == 1)=false→(((r0 == (2:Int))=true→(∃ r0_2:arr4_uint64,C_heckleref01_Of ((97:Int)) ((97:Int)) r0_2∧(∃ r0_3:arr4_uint64,C_heckleref01_Not r0_2 r0_3∧(res=({ Kind:=(2:Int),Set:=r0_3,Lo:=(0:Int),Hi:=(0:Int),Kids:=[] })∧fin=o))))∧((r0 == (2:Int))=false→(((r0 == (3:Int))=true→(∃ r0_4:Int,∃ o_1:hecklelaw03_Maker,C_hecklelaw03_Maker_Pick ((6:Int)) o r0_4 o_1∧((0:Int)≤r0_4)∧(Int.toNat r0_4 < (6:Nat))∧r0_4 < ↑(List.length ([(10:Int),(45:Int),(90:Int),(0:Int),(255:Int),(48:Int)]))∧(∃ r0_5:api_Rx,C_hecklelaw03_char (gd [(10:Int),(45:Int),(90:Int),(0:Int),(255:Int),(48:Int)] r0_4) r0_5∧(res=r0_5∧fin=o_1))))∧((r0 == (3:Int))=false→(∃ r0_6:Int,∃ o_2:hecklelaw03_Maker,C_hecklelaw03_Maker_Pick 3 o r0_6 o_2∧(∃ r0_7:api_Rx,C_hecklelaw03_char (w64 ((97:Int)+r0_6)) r0_7∧(res=r0_7∧fin=o_2))))))))))))):C_hecklelaw03_Maker_leaf m res fin:=by
 unfold C_hecklelaw03_Maker_leaf
 have kk:=cfOk [] 29
 refine fD (x:=bodyOf Try.f71) kk Try.func71 ?_
 refine wkS [1,3] [(1,.ptr 3 0),(3,av_hecklelaw03_Maker m)] (by kernel_rfl) ?_
 refine sDE kk [] [] [(7,.ptr 8 0),(8,.agg [vi 0,vI .u64 0,vI .u64 0,vI .u64 0,vI .u64 0,vi 0,vi 0,.own 36 ([])])] [(7,.ptr 8 0),(8,.agg [vi 0,vI .u64 0,vI .u64 0,vI .u64 0,vI .u64 0,vi 0,vi 0,oL 36 enc_api_Rx ([])])] obN ?_
 refine qD ?_
 obtain ⟨r0,o,hc0,h⟩:=h
 refine sD kk [.c (vi r0) [av_hecklelaw03_Maker o]] [] [(3,av_hecklelaw03_Maker o),(13,vi r0)] (obC hc0 obN) ?_
 refine bD (id:=0) ?_
 refine sD kk [] [] [(16,vB (r0 == 0))] obN ?_
 refine cD (t:=5) (b:=r0 == 0) (fun hb1=>?_) (fun hb1=>?_)
 ·have h:=h.1 hb1
  refine sDE kk [] [1,13,16] [(8,.agg [vi 1,vI .u64 0,vI .u64 0,vI .u64 0,vI .u64 0,vi 0,vi 0,.own 36 ([])])] [(8,.agg [vi 1,vI .u64 0,vI .u64 0,vI .u64 0,vI .u64 0,vi 0,vi 0,oL 36 enc_api_Rx ([])])] obN ?_
  refine tD ?_
  obtain ⟨he0,he1⟩:=h
  subst res fin
  exact (endD [] (.agg [vi 1,vI .u64 0,vI .u64 0,vI .u64 0,vI .u64 0,vi 0,vi 0,oL 36 enc_api_Rx ([])]) [av_hecklelaw03_Maker o]).1
 ·have h:=h.2 hb1
  refine sD kk [] [16] [(25,vB (r0 == 1))] obN ?_
  refine cD (t:=8) (b:=r0 == 1) (fun hb2=>?_) (fun hb2=>?_)
  ·have h:=h.1 hb2
   obtain ⟨r0_1,hc3,h⟩:=h
   refine sDE kk [.c (av_arr4_uint64 r0_1) []] [1,13,25] [(8,.agg [vi 2,vI .u64 (arr4_uint64.e0 r0_1),vI .u64 (arr4_uint64.e1 r0_1),vI .u64 (arr4_uint64.e2 r0_1),vI .u64 (arr4_uint64.e3 r0_1),vi 0,vi 0,.own 36 ([])])] [(8,.agg [vi 2,vI .u64 (arr4_uint64.e0 r0_1),vI .u64 (arr4_uint64.e1 r0_1),vI .u64 (arr4_uint64.e2 r0_1),vI .u64 (arr4_uint64.e3 r0_1),vi 0,vi 0,oL 36 enc_api_Rx ([])])] (obC hc3 obN) ?_
   refine tD ?_
   obtain ⟨he0,he1⟩:=h
   subst res fin
   exact (endD [] (.agg [vi 2,vI .u64 (arr4_uint64.e0 r0_1),vI .u64 (arr4_uint64.e1 r0_1),vI .u64 (arr4_uint64.e2 r0_1),vI .u64 (arr4_uint64.e3 r0_1),vi 0,vi 0,oL 36 enc_api_Rx ([])]) [av_hecklelaw03_Maker o]).1
  ·have h:=h.2 hb2
   refine sD kk [] [25] [(37,vB (r0 == (2:Int)))] obN ?_
   refine cD (t:=12) (b:=r0 == (2:Int)) (fun hb4=>?_) (fun hb4=>?_)
   ·have h:=h.1 hb4
    obtain ⟨r0_2,hc5,h⟩:=h
    obtain ⟨r0_3,hc6,h⟩:=h
    refine sDE kk [.c (av_arr4_uint64 r0_2) [],.c (av_arr4_uint64 r0_3) []] [1,13,37] [(8,.agg [vi 2,vI .u64 (arr4_uint64.e0 r0_3),vI .u64 (arr4_uint64.e1 r0_3),vI .u64 (arr4_uint64.e2 r0_3),vI .u64 (arr4_uint64.e3 r0_3),vi 0,vi 0,.own 36 ([])])] [(8,.agg [vi 2,vI .u64 (arr4_uint64.e0 r0_3),vI .u64 (arr4_uint64.e1 r0_3),vI .u64 (arr4_uint64.e2 r0_3),vI .u64 (arr4_uint64.e3 r0_3),vi 0,vi 0,oL 36 enc_api_Rx ([])])] (obC hc5 (obC hc6 obN)) ?_
    refine tD ?_
    obtain ⟨he0,he1⟩:=h
    subst res fin
    exact (endD [] (.agg [vi 2,vI .u64 (arr4_uint64.e0 r0_3),vI .u64 (arr4_uint64.e1 r0_3),vI .u64 (arr4_uint64.e2 r0_3),vI .u64 (arr4_uint64.e3 r0_3),vi 0,vi 0,oL 36 enc_api_Rx ([])]) [av_hecklelaw03_Maker o]).1
   ·have h:=h.2 hb4
    refine sD kk [] [13,37] [(52,vB (r0 == (3:Int)))] obN ?_
    refine cD (t:=17) (b:=r0 == (3:Int)) (fun hb7=>?_) (fun hb7=>?_)
    ·have h:=h.1 hb7
     obtain ⟨r0_4,o_1,hc8,h⟩:=h
     obtain ⟨h9,h⟩:=h
     obtain ⟨h10,h⟩:=h
     obtain ⟨h11,h⟩:=h
     obtain ⟨r0_5,hc12,h⟩:=h
     refine sD kk [.c (vi r0_4) [av_hecklelaw03_Maker o_1],.e (fi (gd [(10:Int),(45:Int),(90:Int),(0:Int),(255:Int),(48:Int)] r0_4)),.c (ao_api_Rx r0_5) []] [1,52] [(3,av_hecklelaw03_Maker o_1),(8,ao_api_Rx r0_5)] (obC hc8 (obC h9 (obC h10 (obC (show ([FV.pv (Value.int IntKind.i64 (10)),FV.pv (Value.int IntKind.i64 (45:Int)),FV.pv (Value.int IntKind.i64 (90:Int)),FV.pv (Value.int IntKind.i64 (0)),FV.pv (Value.int IntKind.i64 (255:Int)),FV.pv (Value.int IntKind.i64 (48:Int))])[((0:Nat)+Int.toNat r0_4:Nat)]?=some (fi (gd [(10:Int),(45:Int),(90:Int),(0:Int),(255:Int),(48:Int)] r0_4)) from by have:=idx_ok enc_i64 ([(10:Int),(45:Int),(90:Int),(0:Int),(255:Int),(48:Int)]) r0_4 _ rfl h9 h11;simpa only [nm,enq,enc_i64] using this) (obC hc12 obN))))) ?_
     refine tD ?_
     obtain ⟨he0,he1⟩:=h
     subst res fin
     exact (endD [] (ao_api_Rx r0_5) [av_hecklelaw03_Maker o_1]).1
    ·have h:=h.2 hb7
     refine Sem.skip' (by kernel_rfl) Wk.refl ?_
     show Sem _ _ _ _ _
     refine wkD [52] ?_
     obtain ⟨r0_6,o_2,hc13,h⟩:=h
     obtain ⟨r0_7,hc14,h⟩:=h
     refine sD kk [.c (vi r0_6) [av_hecklelaw03_Maker o_2],.c (ao_api_Rx r0_7) []] [1] [(3,av_hecklelaw03_Maker o_2),(8,ao_api_Rx r0_7)] (obC hc13 (obC hc14 obN)) ?_
     refine tD ?_
     obtain ⟨he0,he1⟩:=h
     subst res fin
     exact (endD [] (ao_api_Rx r0_7) [av_hecklelaw03_Maker o_2]).1
set_option maxHeartbeats 1000000 in
theorem W_hecklelaw03_joined (kind:Int) (l:(List api_Rx)) (res:api_Rx)
 (h:(∃ (Inv32:List api_Rx→Int→Prop) (mu33:List api_Rx→Int→Nat),Inv32 ([]) 0∧(∀ (x_Kids_1:List api_Rx) (i:Int),Inv32 x_Kids_1 i→(((decide (i < (↑(List.length l):Int)))=true→(∃ J44:List api_Rx→Prop,(∀ (x_Kids_3:List api_Rx),J44 x_Kids_3→(Inv32 x_Kids_3 (w64 (i+1))∧mu33 x_Kids_3 (w64 (i+1)) < mu33 x_Kids_1 i))∧((0:Int)≤i)∧i < ↑(List.length l)∧(((api_Rx.Kind (gd l i) == kind)=true→((0:Int)≤i)∧i < ↑(List.length l)∧((List.length x_Kids_1+List.length (api_Rx.Kids (gd l i))) * (80:Nat)≤(2:Nat) ^ (47:Nat))∧J44 (x_Kids_1++api_Rx.Kids (gd l i)))∧((api_Rx.Kind (gd l i) == kind)=false→((0:Int)≤i)∧i < ↑(List.length l)∧((List.length x_Kids_1+(1:Nat)) * (80:Nat)≤(2:Nat) ^ (47:Nat))∧J44 (x_Kids_1++[gd l i])))))∧((decide (i < (↑(List.length l):Int)))=false→(res=({ Kind:=kind,Set:={ e0:=(0:Int),e1:=(0:Int),e2:=(0:Int),e3:=(0:Int) },Lo:=(0:Int),Hi:=(0:Int),Kids:=x_Kids_1 }))))))):C_hecklelaw03_joined kind l res:=by
 unfold C_hecklelaw03_joined
 have kk:=cfOk [40] 41
 refine fD (x:=bodyOf Try.f72) kk Try.func72 ?_
 refine wkS [1,4] [(1,vi kind),(4,vL enc_api_Rx l)] (by kernel_rfl) ?_
 refine sDE kk [] [] [(13,.ptr 14 0),(14,.agg [vi 0,vI .u64 0,vI .u64 0,vI .u64 0,vI .u64 0,vi 0,vi 0,.own 36 ([])])] [(13,.ptr 14 0),(14,.agg [vi 0,vI .u64 0,vI .u64 0,vI .u64 0,vI .u64 0,vi 0,vi 0,oL 36 enc_api_Rx ([])])] obN ?_
 refine sDE kk [] [] [(16,.ptr 17 0),(17,.agg [vi kind,vI .u64 0,vI .u64 0,vI .u64 0,vI .u64 0,vi 0,vi 0,.own 36 ([])])] [(16,.ptr 17 0),(17,.agg [vi kind,vI .u64 0,vI .u64 0,vI .u64 0,vI .u64 0,vi 0,vi 0,oL 36 enc_api_Rx ([])])] obN ?_
 refine qD ?_
 refine sD kk [] [] [(19,vi 0)] obN ?_
 refine bD (id:=0) ?_
 obtain ⟨Inv32,mu33,h0Inv32,hInv32⟩:=h
 refine loD (fun (q:List api_Rx×Int)=>(fun (x_Kids_1:List api_Rx) (i:Int)=>([(1,vi kind),(4,vL enc_api_Rx l),(13,.ptr 14 0),(14,.agg [vi 0,vI .u64 0,vI .u64 0,vI .u64 0,vI .u64 0,vi 0,vi 0,oL 36 enc_api_Rx ([])]),(16,.ptr 17 0),(17,.agg [vi kind,vI .u64 0,vI .u64 0,vI .u64 0,vI .u64 0,vi 0,vi 0,oL 36 enc_api_Rx x_Kids_1]),(19,vi i)]:Sta)) q.1 q.2) (fun (q:List api_Rx×Int)=>Inv32 q.1 q.2) (fun (q:List api_Rx×Int)=>mu33 q.1 q.2) (([]),0) [] h0Inv32 ?_
 rintro ⟨x_Kids_1,i⟩ hi
 have h:=hInv32 x_Kids_1 i hi
 refine qD ?_
 refine sDE kk [] [] [(37,vB (decide (i < (↑(List.length (List.map enc_api_Rx l)):Int))))] [(37,vB (decide (i < (↑(List.length l):Int))))] obN ?_
 refine cD (t:=12) (b:=decide (i < (↑(List.length l):Int))) (fun hb34=>?_) (fun hb34=>?_)
 ·have h:=h.1 hb34
  refine Sem.skip' (by kernel_rfl) Wk.refl ?_
  show Sem _ _ _ _ _
  refine wkD [37] ?_
  obtain ⟨J44,hJ44,h⟩:=h
  refine sjD (fun (q:List api_Rx)=>J44 q) (fun (q:List api_Rx)=>(fun (x_Kids_3:List api_Rx)=>([(1,vi kind),(4,vL enc_api_Rx l),(13,.ptr 14 0),(14,.agg [vi 0,vI .u64 0,vI .u64 0,vI .u64 0,vI .u64 0,vi 0,vi 0,oL 36 enc_api_Rx ([])]),(16,.ptr 17 0),(17,.agg [vi kind,vI .u64 0,vI .u64 0,vI .u64 0,vI .u64 0,vi 0,vi 0,oL 36 enc_api_Rx x_Kids_3]),(19,vi i)]:Sta)) q) ?_ ?_
  ·rintro x_Kids_3 hj
   have h:=hJ44 x_Kids_3 hj
   refine rD kk [] [] [(19,vi (w64 (i+1)))] obN ?_
   exact lD (x_Kids_3,(w64 (i+1))) [] h
  ·refine bD (id:=1) ?_
   obtain ⟨h45,h⟩:=h
   obtain ⟨h46,h⟩:=h
   refine sD kk [.e (fv_api_Rx (gd l i))] [] [(64,vB (api_Rx.Kind (gd l i) == kind))] (obC h45 (obC (idx_ok enc_api_Rx l i _ (enc_api_Rx_eq _) h45 h46) obN)) ?_
   refine cD (t:=21) (b:=api_Rx.Kind (gd l i) == kind) (fun hb47=>?_) (fun hb47=>?_)
   ·have h:=h.1 hb47
    obtain ⟨h48,h⟩:=h
    obtain ⟨h49,h⟩:=h
    obtain ⟨h50,h⟩:=h
    refine rDE kk [.e (fv_api_Rx (gd l i))] [64] [(17,.agg [vi kind,vI .u64 0,vI .u64 0,vI .u64 0,vI .u64 0,vi 0,vi 0,.own 36 (List.map enc_api_Rx x_Kids_1++List.map enc_api_Rx (api_Rx.Kids (gd l i)))])] [(17,.agg [vi kind,vI .u64 0,vI .u64 0,vI .u64 0,vI .u64 0,vi 0,vi 0,oL 36 enc_api_Rx (x_Kids_1++api_Rx.Kids (gd l i))])] (obC h48 (obC (idx_ok enc_api_Rx l i _ (enc_api_Rx_eq _) h48 h49) (obC (show (0:Nat)=(0:Nat)∧List.length (List.map enc_api_Rx x_Kids_1)=List.length (List.map enc_api_Rx x_Kids_1) from by first | decide | rfl | trivial | (simp only [nm]<;>first | decide | rfl | omega)) (obC (show (List.length (List.map enc_api_Rx x_Kids_1)+List.length (List.map enc_api_Rx (api_Rx.Kids (gd l i)))) * (80:Nat)≤(2:Nat) ^ (47:Nat) from by simpa only [nm] using h50) (obC (show List.all (List.map enc_api_Rx (api_Rx.Kids (gd l i))) (FV.fits (8:Nat))=true from by first | exact fits_api_Rx _ | rfl | simp [isByteF,FV.fits,FV.size,FV.cells,FV.one,enc_api_Rx_eq]) obN))))) ?_
    exact jD (x_Kids_1++api_Rx.Kids (gd l i)) [] h
   ·have h:=h.2 hb47
    obtain ⟨h51,h⟩:=h
    obtain ⟨h52,h⟩:=h
    obtain ⟨h53,h⟩:=h
    refine rDE kk [.e (fv_api_Rx (gd l i))] [64] [(17,.agg [vi kind,vI .u64 0,vI .u64 0,vI .u64 0,vI .u64 0,vi 0,vi 0,.own 36 (List.map enc_api_Rx x_Kids_1++List.take (List.length [FV.agg [FV.pv (Value.int IntKind.i64 (api_Rx.Kind (gd l i))),FV.pv (Value.int IntKind.u64 (arr4_uint64.e0 (api_Rx.Set (gd l i)))),FV.pv (Value.int IntKind.u64 (arr4_uint64.e1 (api_Rx.Set (gd l i)))),FV.pv (Value.int IntKind.u64 (arr4_uint64.e2 (api_Rx.Set (gd l i)))),FV.pv (Value.int IntKind.u64 (arr4_uint64.e3 (api_Rx.Set (gd l i)))),FV.pv (Value.int IntKind.i64 (api_Rx.Lo (gd l i))),FV.pv (Value.int IntKind.i64 (api_Rx.Hi (gd l i))),FV.sl (List.map enc_api_Rx (api_Rx.Kids (gd l i)))]]) (List.drop (0:Nat) [FV.agg [FV.pv (Value.int IntKind.i64 (api_Rx.Kind (gd l i))),FV.pv (Value.int IntKind.u64 (arr4_uint64.e0 (api_Rx.Set (gd l i)))),FV.pv (Value.int IntKind.u64 (arr4_uint64.e1 (api_Rx.Set (gd l i)))),FV.pv (Value.int IntKind.u64 (arr4_uint64.e2 (api_Rx.Set (gd l i)))),FV.pv (Value.int IntKind.u64 (arr4_uint64.e3 (api_Rx.Set (gd l i)))),FV.pv (Value.int IntKind.i64 (api_Rx.Lo (gd l i))),FV.pv (Value.int IntKind.i64 (api_Rx.Hi (gd l i))),FV.sl (List.map enc_api_Rx (api_Rx.Kids (gd l i)))]]))])] [(17,.agg [vi kind,vI .u64 0,vI .u64 0,vI .u64 0,vI .u64 0,vi 0,vi 0,oL 36 enc_api_Rx (x_Kids_1++[gd l i])])] (obC h51 (obC (idx_ok enc_api_Rx l i _ (enc_api_Rx_eq _) h51 h52) (obC (show (0:Nat)=(0:Nat)∧List.length (List.map enc_api_Rx x_Kids_1)=List.length (List.map enc_api_Rx x_Kids_1) from by first | decide | rfl | trivial | (simp only [nm]<;>first | decide | rfl | omega)) (obC (show (List.length (List.map enc_api_Rx x_Kids_1)+List.length (List.take (1:Nat) (List.drop (0:Nat) [FV.agg [FV.pv (Value.int IntKind.i64 (api_Rx.Kind (gd l i))),FV.pv (Value.int IntKind.u64 (arr4_uint64.e0 (api_Rx.Set (gd l i)))),FV.pv (Value.int IntKind.u64 (arr4_uint64.e1 (api_Rx.Set (gd l i)))),FV.pv (Value.int IntKind.u64 (arr4_uint64.e2 (api_Rx.Set (gd l i)))),FV.pv (Value.int IntKind.u64 (arr4_uint64.e3 (api_Rx.Set (gd l i)))),FV.pv (Value.int IntKind.i64 (api_Rx.Lo (gd l i))),FV.pv (Value.int IntKind.i64 (api_Rx.Hi (gd l i))),FV.sl (List.map enc_api_Rx (api_Rx.Kids (gd l i)))]]))) * (80:Nat)≤(2:Nat) ^ (47:Nat) from by simpa only [nm] using h53) (obC (show List.all (List.take (1:Nat) (List.drop (0:Nat) [FV.agg [FV.pv (Value.int IntKind.i64 (api_Rx.Kind (gd l i))),FV.pv (Value.int IntKind.u64 (arr4_uint64.e0 (api_Rx.Set (gd l i)))),FV.pv (Value.int IntKind.u64 (arr4_uint64.e1 (api_Rx.Set (gd l i)))),FV.pv (Value.int IntKind.u64 (arr4_uint64.e2 (api_Rx.Set (gd l i)))),FV.pv (Value.int IntKind.u64 (arr4_uint64.e3 (api_Rx.Set (gd l i)))),FV.pv (Value.int IntKind.i64 (api_Rx.Lo (gd l i))),FV.pv (Value.int IntKind.i64 (api_Rx.Hi (gd l i))),FV.sl (List.map enc_api_Rx (api_Rx.Kids (gd l i)))]])) (FV.fits (8:Nat))=true from by first | exact fits_i64 _ | rfl | simp [isByteF,FV.fits,FV.size,FV.cells,FV.one,enc_api_Rx_eq]) obN))))) ?_
    exact jD (x_Kids_1++[gd l i]) [] h
 ·have h:=h.2 hb34
  refine xD (i:=0) ?_
  show Sem _ _ _ _ _
  refine wkD [1,4,19,37] ?_
  refine sD kk [] [16,17] [(14,.agg [vi kind,vI .u64 0,vI .u64 0,vI .u64 0,vI .u64 0,vi 0,vi 0,oL 36 enc_api_Rx x_Kids_1])] (obC (show (0:Nat)=(0:Nat)∧List.length (List.map enc_api_Rx x_Kids_1)=List.length (List.map enc_api_Rx x_Kids_1) from by first | decide | rfl | trivial | (simp only [nm]<;>first | decide | rfl | omega)) obN) ?_
  refine tD ?_
  obtain he0:=h
  subst res
  exact (endD [] (.agg [vi kind,vI .u64 0,vI .u64 0,vI .u64 0,vI .u64 0,vi 0,vi 0,oL 36 enc_api_Rx x_Kids_1]) []).1
set_option maxHeartbeats 1000000 in
theorem W_hecklelaw03_Maker_Rx (deep:Int) (m:hecklelaw03_Maker) (res:api_Rx) (fin:hecklelaw03_Maker)
 (h:(∃ r0:Int,∃ o:hecklelaw03_Maker,C_hecklelaw03_Maker_Pick 8 m r0 o∧(((decide (deep < (1:Int)) || (decide (r0 < (2:Int)) || decide (hecklelaw03_Maker.At o≥(↑(List.length (hecklelaw03_Maker.L o)):Int))))=true→(∃ r0_1:api_Rx,∃ o_1:hecklelaw03_Maker,C_hecklelaw03_Maker_leaf o r0_1 o_1∧(res=r0_1∧fin=o_1)))∧((decide (deep < (1:Int)) || (decide (r0 < (2:Int)) || decide (hecklelaw03_Maker.At o≥(↑(List.length (hecklelaw03_Maker.L o)):Int))))=false→(((decide (r0 < (5:Int)))=true→(∃ r0_2:api_Rx,∃ o_2:hecklelaw03_Maker,C_hecklelaw03_Maker_Rx (w64 (deep - 1)) o r0_2 o_2∧(∃ r0_3:api_Rx,∃ o_3:hecklelaw03_Maker,C_hecklelaw03_Maker_Rx (w64 (deep - 1)) o_2 r0_3 o_3∧(∃ r0_4:api_Rx,C_hecklelaw03_joined 3 ([r0_2,r0_3]) r0_4∧(res=r0_4∧fin=o_3)))))∧((decide (r0 < (5:Int)))=false→(((r0 == (5:Int))=true→(∃ r0_5:api_Rx,∃ o_4:hecklelaw03_Maker,C_hecklelaw03_Maker_Rx (w64 (deep - 1)) o r0_5 o_4∧(∃ r0_6:api_Rx,∃ o_5:hecklelaw03_Maker,C_hecklelaw03_Maker_Rx (w64 (deep - 1)) o_4 r0_6 o_5∧(∃ r0_7:api_Rx,C_hecklelaw03_joined 4 ([r0_5,r0_6]) r0_7∧(res=r0_7∧fin=o_5)))))∧((r0 == (5:Int))=false→(∃ r0_8:Int,∃ o_6:hecklelaw03_Maker,C_hecklelaw03_Maker_Pick 3 o r0_8 o_6∧(∃ J17:List Int→Int→Int→Prop,(∀ (o0_L:List Int) (o0_At:Int) (x_Hi:Int),J17 o0_L o0_At x_Hi→(∃ r0_11:api_Rx,∃ o_9:hecklelaw03_Maker,C_hecklelaw03_Maker_Rx (w64 (deep - 2)) ({ L:=o0_L,At:=o0_At }) r0_11 o_9∧(res=({ Kind:=(5:Int),Set:={ e0:=(0:Int),e1:=(0:Int),e2:=(0:Int),e3:=(0:Int) },Lo:=r0_8,Hi:=x_Hi,Kids:=[r0_11] })∧fin=o_9)))∧(∃ r0_12:Int,∃ o_10:hecklelaw03_Maker,C_hecklelaw03_Maker_Pick 2 o_6 r0_12 o_10∧(((r0_12 == 1)=true→(∃ r0_13:Int,∃ o_11:hecklelaw03_Maker,C_hecklelaw03_Maker_Pick 2 o_10 r0_13 o_11∧J17 (hecklelaw03_Maker.L o_11) (hecklelaw03_Maker.At o_11) (w64 ((if r0_8 > (1:Int) then r0_8 else (1:Int))+r0_13))))∧((r0_12 == 1)=false→J17 (hecklelaw03_Maker.L o_10) (hecklelaw03_Maker.At o_10) (-1)))))))))))))):C_hecklelaw03_Maker_Rx deep m res fin:=by
 unfold C_hecklelaw03_Maker_Rx
 have kk:=cfOk [74] 75
 refine fD (x:=bodyOf Try.f37) kk Try.func37 ?_
 refine wkS [1,3,4] [(1,.ptr 3 0),(3,av_hecklelaw03_Maker m),(4,vi deep)] (by kernel_rfl) ?_
 refine sDE kk [] [] [(13,.ptr 14 0),(14,.agg [vi 0,vI .u64 0,vI .u64 0,vI .u64 0,vI .u64 0,vi 0,vi 0,.own 36 ([])])] [(13,.ptr 14 0),(14,.agg [vi 0,vI .u64 0,vI .u64 0,vI .u64 0,vI .u64 0,vi 0,vi 0,oL 36 enc_api_Rx ([])])] obN ?_
 obtain ⟨r0,o,hc0,h⟩:=h
 refine sD kk [.c (vi r0) [av_hecklelaw03_Maker o]] [] [(3,av_hecklelaw03_Maker o),(16,vi r0)] (obC hc0 obN) ?_
 refine qD ?_
 refine sM [] [(79,vB (decide (deep < (1:Int)) || (decide (r0 < (2:Int)) || decide (hecklelaw03_Maker.At o≥(↑(List.length (hecklelaw03_Maker.L o)):Int)))))] ?_ (fun hk0=>?_)
 ·refine cD (t:=26) (b:=decide (deep < (1:Int)) || (decide (r0 < (2:Int)) || decide (hecklelaw03_Maker.At o≥(↑(List.length (hecklelaw03_Maker.L o)):Int)))) (fun hb3=>?_) (fun hb3=>?_)
  ·have h:=h.1 hb3
   obtain ⟨r0_1,o_1,hc4,h⟩:=h
   refine sD kk [.c (ao_api_Rx r0_1) [av_hecklelaw03_Maker o_1]] [1,4,16,79] [(3,av_hecklelaw03_Maker o_1),(14,ao_api_Rx r0_1)] (obC hc4 obN) ?_
   refine tD ?_
   obtain ⟨he0,he1⟩:=h
   subst res fin
   exact (endD [] (ao_api_Rx r0_1) [av_hecklelaw03_Maker o_1]).1
  ·have h:=h.2 hb3
   refine Sem.skip' (by kernel_rfl) Wk.refl ?_
   show Sem _ _ _ _ _
   refine wkD [79] ?_
   refine qD ?_
   refine bD (id:=0) ?_
   refine sD kk [] [] [(88,vB (decide (r0 < (5:Int))))] obN ?_
   refine cD (t:=29) (b:=decide (r0 < (5:Int))) (fun hb5=>?_) (fun hb5=>?_)
   ·have h:=h.1 hb5
    obtain ⟨r0_2,o_2,hc6,h⟩:=h
    obtain ⟨r0_3,o_3,hc7,h⟩:=h
    obtain ⟨r0_4,hc8,h⟩:=h
    refine sD kk [.c (ao_api_Rx r0_2) [av_hecklelaw03_Maker o_2],.c (ao_api_Rx r0_3) [av_hecklelaw03_Maker o_3],.c (ao_api_Rx r0_4) []] [1,4,16,88] [(3,av_hecklelaw03_Maker o_3),(14,ao_api_Rx r0_4)] (obC hc6 (obC hc7 (obC (Eq.mp (by unfold C_hecklelaw03_joined;(try simp only [List.drop_zero,List.take_length]);first | done | simp only [nm,enq]:C_hecklelaw03_joined 3 ([r0_2,r0_3]) r0_4=CallE Try.prog 72 [vi 3,.f (FV.sl (List.take (List.length [FV.agg [FV.pv (Value.int IntKind.i64 (api_Rx.Kind r0_2)),FV.pv (Value.int IntKind.u64 (arr4_uint64.e0 (api_Rx.Set r0_2))),FV.pv (Value.int IntKind.u64 (arr4_uint64.e1 (api_Rx.Set r0_2))),FV.pv (Value.int IntKind.u64 (arr4_uint64.e2 (api_Rx.Set r0_2))),FV.pv (Value.int IntKind.u64 (arr4_uint64.e3 (api_Rx.Set r0_2))),FV.pv (Value.int IntKind.i64 (api_Rx.Lo r0_2)),FV.pv (Value.int IntKind.i64 (api_Rx.Hi r0_2)),FV.sl (List.take (List.length (List.map enc_api_Rx (api_Rx.Kids r0_2))) (List.drop (0:Nat) (List.map enc_api_Rx (api_Rx.Kids r0_2))))],FV.agg [FV.pv (Value.int IntKind.i64 (api_Rx.Kind r0_3)),FV.pv (Value.int IntKind.u64 (arr4_uint64.e0 (api_Rx.Set r0_3))),FV.pv (Value.int IntKind.u64 (arr4_uint64.e1 (api_Rx.Set r0_3))),FV.pv (Value.int IntKind.u64 (arr4_uint64.e2 (api_Rx.Set r0_3))),FV.pv (Value.int IntKind.u64 (arr4_uint64.e3 (api_Rx.Set r0_3))),FV.pv (Value.int IntKind.i64 (api_Rx.Lo r0_3)),FV.pv (Value.int IntKind.i64 (api_Rx.Hi r0_3)),FV.sl (List.take (List.length (List.map enc_api_Rx (api_Rx.Kids r0_3))) (List.drop (0:Nat) (List.map enc_api_Rx (api_Rx.Kids r0_3))))]]) (List.drop (0:Nat) [FV.agg [FV.pv (Value.int IntKind.i64 (api_Rx.Kind r0_2)),FV.pv (Value.int IntKind.u64 (arr4_uint64.e0 (api_Rx.Set r0_2))),FV.pv (Value.int IntKind.u64 (arr4_uint64.e1 (api_Rx.Set r0_2))),FV.pv (Value.int IntKind.u64 (arr4_uint64.e2 (api_Rx.Set r0_2))),FV.pv (Value.int IntKind.u64 (arr4_uint64.e3 (api_Rx.Set r0_2))),FV.pv (Value.int IntKind.i64 (api_Rx.Lo r0_2)),FV.pv (Value.int IntKind.i64 (api_Rx.Hi r0_2)),FV.sl (List.take (List.length (List.map enc_api_Rx (api_Rx.Kids r0_2))) (List.drop (0:Nat) (List.map enc_api_Rx (api_Rx.Kids r0_2))))],FV.agg [FV.pv (Value.int IntKind.i64 (api_Rx.Kind r0_3)),FV.pv (Value.int IntKind.u64 (arr4_uint64.e0 (api_Rx.Set r0_3))),FV.pv (Value.int IntKind.u64 (arr4_uint64.e1 (api_Rx.Set r0_3))),FV.pv (Value.int IntKind.u64 (arr4_uint64.e2 (api_Rx.Set r0_3))),FV.pv (Value.int IntKind.u64 (arr4_uint64.e3 (api_Rx.Set r0_3))),FV.pv (Value.int IntKind.i64 (api_Rx.Lo r0_3)),FV.pv (Value.int IntKind.i64 (api_Rx.Hi r0_3)),FV.sl (List.take (List.length (List.map enc_api_Rx (api_Rx.Kids r0_3))) (List.drop (0:Nat) (List.map enc_api_Rx (api_Rx.Kids r0_3))))]])))] [] (ao_api_Rx r0_4) []) hc8) obN))) ?_
    refine tD ?_
    obtain ⟨he0,he1⟩:=h
    subst res fin
    exact (endD [] (ao_api_Rx r0_4) [av_hecklelaw03_Maker o_3]).1
   ·have h:=h.2 hb5
    refine sD kk [] [16,88] [(127,vB (r0 == (5:Int)))] obN ?_
    refine cD (t:=42) (b:=r0 == (5:Int)) (fun hb9=>?_) (fun hb9=>?_)
    ·have h:=h.1 hb9
     obtain ⟨r0_5,o_4,hc10,h⟩:=h
     obtain ⟨r0_6,o_5,hc11,h⟩:=h
     obtain ⟨r0_7,hc12,h⟩:=h
     refine sD kk [.c (ao_api_Rx r0_5) [av_hecklelaw03_Maker o_4],.c (ao_api_Rx r0_6) [av_hecklelaw03_Maker o_5],.c (ao_api_Rx r0_7) []] [1,4,127] [(3,av_hecklelaw03_Maker o_5),(14,ao_api_Rx r0_7)] (obC hc10 (obC hc11 (obC (Eq.mp (by unfold C_hecklelaw03_joined;(try simp only [List.drop_zero,List.take_length]);first | done | simp only [nm,enq]:C_hecklelaw03_joined 4 ([r0_5,r0_6]) r0_7=CallE Try.prog 72 [vi 4,.f (FV.sl (List.take (List.length [FV.agg [FV.pv (Value.int IntKind.i64 (api_Rx.Kind r0_5)),FV.pv (Value.int IntKind.u64 (arr4_uint64.e0 (api_Rx.Set r0_5))),FV.pv (Value.int IntKind.u64 (arr4_uint64.e1 (api_Rx.Set r0_5))),FV.pv (Value.int IntKind.u64 (arr4_uint64.e2 (api_Rx.Set r0_5))),FV.pv (Value.int IntKind.u64 (arr4_uint64.e3 (api_Rx.Set r0_5))),FV.pv (Value.int IntKind.i64 (api_Rx.Lo r0_5)),FV.pv (Value.int IntKind.i64 (api_Rx.Hi r0_5)),FV.sl (List.take (List.length (List.map enc_api_Rx (api_Rx.Kids r0_5))) (List.drop (0:Nat) (List.map enc_api_Rx (api_Rx.Kids r0_5))))],FV.agg [FV.pv (Value.int IntKind.i64 (api_Rx.Kind r0_6)),FV.pv (Value.int IntKind.u64 (arr4_uint64.e0 (api_Rx.Set r0_6))),FV.pv (Value.int IntKind.u64 (arr4_uint64.e1 (api_Rx.Set r0_6))),FV.pv (Value.int IntKind.u64 (arr4_uint64.e2 (api_Rx.Set r0_6))),FV.pv (Value.int IntKind.u64 (arr4_uint64.e3 (api_Rx.Set r0_6))),FV.pv (Value.int IntKind.i64 (api_Rx.Lo r0_6)),FV.pv (Value.int IntKind.i64 (api_Rx.Hi r0_6)),FV.sl (List.take (List.length (List.map enc_api_Rx (api_Rx.Kids r0_6))) (List.drop (0:Nat) (List.map enc_api_Rx (api_Rx.Kids r0_6))))]]) (List.drop (0:Nat) [FV.agg [FV.pv (Value.int IntKind.i64 (api_Rx.Kind r0_5)),FV.pv (Value.int IntKind.u64 (arr4_uint64.e0 (api_Rx.Set r0_5))),FV.pv (Value.int IntKind.u64 (arr4_uint64.e1 (api_Rx.Set r0_5))),FV.pv (Value.int IntKind.u64 (arr4_uint64.e2 (api_Rx.Set r0_5))),FV.pv (Value.int IntKind.u64 (arr4_uint64.e3 (api_Rx.Set r0_5))),FV.pv (Value.int IntKind.i64 (api_Rx.Lo r0_5)),FV.pv (Value.int IntKind.i64 (api_Rx.Hi r0_5)),FV.sl (List.take (List.length (List.map enc_api_Rx (api_Rx.Kids r0_5))) (List.drop (0:Nat) (List.map enc_api_Rx (api_Rx.Kids r0_5))))],FV.agg [FV.pv (Value.int IntKind.i64 (api_Rx.Kind r0_6)),FV.pv (Value.int IntKind.u64 (arr4_uint64.e0 (api_Rx.Set r0_6))),FV.pv (Value.int IntKind.u64 (arr4_uint64.e1 (api_Rx.Set r0_6))),FV.pv (Value.int IntKind.u64 (arr4_uint64.e2 (api_Rx.Set r0_6))),FV.pv (Value.int IntKind.u64 (arr4_uint64.e3 (api_Rx.Set r0_6))),FV.pv (Value.int IntKind.i64 (api_Rx.Lo r0_6)),FV.pv (Value.int IntKind.i64 (api_Rx.Hi r0_6)),FV.sl (List.take (List.length (List.map enc_api_Rx (api_Rx.Kids r0_6))) (List.drop (0:Nat) (List.map enc_api_Rx (api_Rx.Kids r0_6))))]])))] [] (ao_api_Rx r0_7) []) hc12) obN))) ?_
     refine tD ?_
     obtain ⟨he0,he1⟩:=h
     subst res fin
     exact (endD [] (ao_api_Rx r0_7) [av_hecklelaw03_Maker o_5]).1
    ·have h:=h.2 hb9
     refine Sem.skip' (by kernel_rfl) Wk.refl ?_
     show Sem _ _ _ _ _
     refine wkD [127] ?_
     obtain ⟨r0_8,o_6,hc13,h⟩:=h
     refine sDE kk [.c (vi r0_8) [av_hecklelaw03_Maker o_6]] [] [(3,av_hecklelaw03_Maker o_6),(19,.ptr 20 0),(20,.agg [vi 5,vI .u64 0,vI .u64 0,vI .u64 0,vI .u64 0,vi r0_8,vi (-1),.own 36 ([])])] [(3,av_hecklelaw03_Maker o_6),(19,.ptr 20 0),(20,.agg [vi 5,vI .u64 0,vI .u64 0,vI .u64 0,vI .u64 0,vi r0_8,vi (-1),oL 36 enc_api_Rx ([])])] (obC hc13 obN) ?_
     obtain ⟨J17,hJ17,h⟩:=h
     refine sjD (fun (q:List Int×Int×Int)=>J17 q.1 q.2.1 q.2.2) (fun (q:List Int×Int×Int)=>(fun (o0_L:List Int) (o0_At:Int) (x_Hi:Int)=>([(1,.ptr 3 0),(3,.agg [vL enc_u8 o0_L,vi o0_At]),(4,vi deep),(13,.ptr 14 0),(14,.agg [vi 0,vI .u64 0,vI .u64 0,vI .u64 0,vI .u64 0,vi 0,vi 0,oL 36 enc_api_Rx ([])]),(19,.ptr 20 0),(20,.agg [vi 5,vI .u64 0,vI .u64 0,vI .u64 0,vI .u64 0,vi r0_8,vi x_Hi,oL 36 enc_api_Rx ([])])]:Sta)) q.1 q.2.1 q.2.2) ?_ ?_
     ·rintro ⟨o0_L,o0_At,x_Hi⟩ hj
      have h:=hJ17 o0_L o0_At x_Hi hj
      obtain ⟨r0_11,o_9,hc18,h⟩:=h
      refine sDE kk [.c (ao_api_Rx r0_11) [av_hecklelaw03_Maker o_9]] [1,4] [(3,av_hecklelaw03_Maker o_9),(20,.agg [vi 5,vI .u64 0,vI .u64 0,vI .u64 0,vI .u64 0,vi r0_8,vi x_Hi,.own 36 ([FV.agg [FV.pv (Value.int IntKind.i64 (api_Rx.Kind r0_11)),FV.pv (Value.int IntKind.u64 (arr4_uint64.e0 (api_Rx.Set r0_11))),FV.pv (Value.int IntKind.u64 (arr4_uint64.e1 (api_Rx.Set r0_11))),FV.pv (Value.int IntKind.u64 (arr4_uint64.e2 (api_Rx.Set r0_11))),FV.pv (Value.int IntKind.u64 (arr4_uint64.e3 (api_Rx.Set r0_11))),FV.pv (Value.int IntKind.i64 (api_Rx.Lo r0_11)),FV.pv (Value.int IntKind.i64 (api_Rx.Hi r0_11)),FV.sl (List.take (List.length (List.map enc_api_Rx (api_Rx.Kids r0_11))) (List.drop (0:Nat) (List.map enc_api_Rx (api_Rx.Kids r0_11))))]])])] [(3,av_hecklelaw03_Maker o_9),(20,.agg [vi 5,vI .u64 0,vI .u64 0,vI .u64 0,vI .u64 0,vi r0_8,vi x_Hi,oL 36 enc_api_Rx ([r0_11])])] (obC hc18 obN) ?_
      refine sD kk [] [19,20] [(14,.agg [vi 5,vI .u64 0,vI .u64 0,vI .u64 0,vI .u64 0,vi r0_8,vi x_Hi,oL 36 enc_api_Rx ([r0_11])])] (obC (show (0:Nat)=(0:Nat)∧(1:Nat)=List.length (List.map enc_api_Rx [r0_11]) from by first | decide | rfl | trivial | (simp only [nm]<;>first | decide | rfl | omega)) obN) ?_
      refine tD ?_
      obtain ⟨he0,he1⟩:=h
      subst res fin
      exact (endD [] (.agg [vi 5,vI .u64 0,vI .u64 0,vI .u64 0,vI .u64 0,vi r0_8,vi x_Hi,oL 36 enc_api_Rx ([r0_11])]) [av_hecklelaw03_Maker o_9]).1
     ·obtain ⟨r0_12,o_10,hc19,h⟩:=h
      refine sD kk [.c (vi r0_12) [av_hecklelaw03_Maker o_10]] [] [(3,av_hecklelaw03_Maker o_10),(181,vB (r0_12 == 1))] (obC hc19 obN) ?_
      refine cD (t:=60) (b:=r0_12 == 1) (fun hb20=>?_) (fun hb20=>?_)
      ·have h:=h.1 hb20
       obtain ⟨r0_13,o_11,hc21,h⟩:=h
       refine rDE kk [.c (vi r0_13) [av_hecklelaw03_Maker o_11]] [181] [(3,av_hecklelaw03_Maker o_11),(20,.agg [vi 5,vI .u64 0,vI .u64 0,vI .u64 0,vI .u64 0,vi r0_8,vi (w64 ((if true=true then if r0_8 > (1:Int) then r0_8 else (1:Int) else if r0_8 < (1:Int) then r0_8 else (1:Int))+r0_13)),oL 36 enc_api_Rx ([])])] [(3,av_hecklelaw03_Maker o_11),(20,.agg [vi 5,vI .u64 0,vI .u64 0,vI .u64 0,vI .u64 0,vi r0_8,vi (w64 ((if r0_8 > (1:Int) then r0_8 else (1:Int))+r0_13)),oL 36 enc_api_Rx ([])])] (obC hc21 obN) ?_
       exact jD ((hecklelaw03_Maker.L o_11),(hecklelaw03_Maker.At o_11),(w64 ((if r0_8 > (1:Int) then r0_8 else (1:Int))+r0_13))) [] h
      ·have h:=h.2 hb20
       refine Sem.skip' (by kernel_rfl) Wk.refl ?_
       exact jD ((hecklelaw03_Maker.L o_10),(hecklelaw03_Maker.At o_10),(-1)) [] h
 ·rcases Bool.eq_false_or_eq_true (decide (deep < (1:Int))) with hb1 | hb1
  ·refine sD kk [.b false,.b false,.b true,.b false,.b false,.b false,.b false,.b false,.b false,.b false,.b false,.b false,.b false,.b true] [] [(79,vB true)] (obC (gff hb1) (obC (gff hb1) (obC hb1 (obC (rfl:false=false) (obC (rfl:false=false) (obC (rfl:false=false) (obC (rfl:false=false) (obC (rfl:false=false) (obC (rfl:false=false) (obC (rfl:false=false) (obC (rfl:false=false) (obC (rfl:false=false) (obC (rfl:false=false) (obC (rfl:true=true) obN)))))))))))))) ?_
   exact Sem.cast (by try rw [hb1];kernel_rfl) hk0
  ·rcases Bool.eq_false_or_eq_true (decide (r0 < (2:Int))) with hb2 | hb2
   ·refine sD kk [.b true,.b true,.b false,.b false,.b false,.b false,.b false,.b false,.b false,.b false,.b false,.b false,.b false,.b true] [] [(79,vB true)] (obC (gft hb1) (obC (gft hb1) (obC hb1 (obC (gff hb2) (obC (gff hb2) (obC (gff hb2) (obC (gff hb2) (obC (gff hb2) (obC (gff hb2) (obC (gff hb2) (obC (gff hb2) (obC (gff hb2) (obC (gff hb2) (obC hb2 obN)))))))))))))) ?_
    exact Sem.cast (by try rw [hb1];try rw [hb2];kernel_rfl) hk0
   ·refine sDE kk [.b true,.b true,.b false,.b true,.b true,.b true,.b true,.b true,.b true,.b true,.b true,.b true,.b true,.b false] [] [(79,vB (decide (hecklelaw03_Maker.At o≥(↑(List.length (List.map enc_u8 (hecklelaw03_Maker.L o))):Int))))] [(79,vB (decide (hecklelaw03_Maker.At o≥(↑(List.length (hecklelaw03_Maker.L o)):Int))))] (obC (gft hb1) (obC (gft hb1) (obC hb1 (obC (gft hb2) (obC (gft hb2) (obC (gft hb2) (obC (gft hb2) (obC (gft hb2) (obC (gft hb2) (obC (gft hb2) (obC (gft hb2) (obC (gft hb2) (obC (gft hb2) (obC hb2 obN)))))))))))))) ?_
    exact Sem.cast (by try rw [hb1];try rw [hb2];kernel_rfl) hk0
set_option maxHeartbeats 1000000 in
theorem W_heckleref03_Size (x:api_Rx) (res:Int)
 (h:(((api_Rx.Kind x == (2:Int))=true→(res=1))∧((api_Rx.Kind x == (2:Int))=false→(∃ J3:Bool→Prop,(∀ (t9:Bool),J3 t9→(((t9)=true→(∃ (Inv14:Int→Int→Prop) (mu15:Int→Int→Nat),Inv14 0 0∧(∀ (n:Int) (i:Int),Inv14 n i→(((decide (i < (↑(List.length (api_Rx.Kids x)):Int)))=true→((0:Int)≤i)∧i < ↑(List.length (api_Rx.Kids x))∧(∃ r0_2:Int,C_heckleref03_Size (gd (api_Rx.Kids x) i) r0_2∧(((decide (w64 (n+r0_2) > (1000000:Int)))=true→(res=((1000000:Int))))∧((decide (w64 (n+r0_2) > (1000000:Int)))=false→(Inv14 (w64 (n+r0_2)) (w64 (i+1))∧mu15 (w64 (n+r0_2)) (w64 (i+1)) < mu15 n i)))))∧((decide (i < (↑(List.length (api_Rx.Kids x)):Int)))=false→(∃ J22:Int→Prop,(∀ (n_1:Int),J22 n_1→(res=(if false=true then if (1000000:Int) > n_1 then (1000000:Int) else n_1 else if (1000000:Int) < n_1 then (1000000:Int) else n_1)))∧(((api_Rx.Kind x == (5:Int))=true→J22 (w64 (n * if (if false=true then if (if api_Rx.Hi x > api_Rx.Lo x then api_Rx.Hi x else api_Rx.Lo x) > (1000:Int) then if api_Rx.Hi x > api_Rx.Lo x then api_Rx.Hi x else api_Rx.Lo x else (1000:Int) else if (if api_Rx.Hi x > api_Rx.Lo x then api_Rx.Hi x else api_Rx.Lo x) < (1000:Int) then if api_Rx.Hi x > api_Rx.Lo x then api_Rx.Hi x else api_Rx.Lo x else (1000:Int)) > (1:Int) then if false=true then if (if api_Rx.Hi x > api_Rx.Lo x then api_Rx.Hi x else api_Rx.Lo x) > (1000:Int) then if api_Rx.Hi x > api_Rx.Lo x then api_Rx.Hi x else api_Rx.Lo x else (1000:Int) else if (if api_Rx.Hi x > api_Rx.Lo x then api_Rx.Hi x else api_Rx.Lo x) < (1000:Int) then if api_Rx.Hi x > api_Rx.Lo x then api_Rx.Hi x else api_Rx.Lo x else (1000:Int) else (1:Int))))∧((api_Rx.Kind x == (5:Int))=false→J22 n))))))))∧((t9)=false→(res=0))))∧(((api_Rx.Kind x == (3:Int))=true→J3 (api_Rx.Kind x == (3:Int)))∧((api_Rx.Kind x == (3:Int))=false→(((api_Rx.Kind x == (4:Int))=true→J3 (api_Rx.Kind x == (4:Int)))∧((api_Rx.Kind x == (4:Int))=false→J3 (api_Rx.Kind x == (5:Int)))))))))):C_heckleref03_Size x res:=by
 unfold C_heckleref03_Size
 have kk:=cfOk [] 44
 refine fD (x:=bodyOf Try.f26) kk Try.func26 ?_
 refine wkS [1] [(1,av_api_Rx x)] (by kernel_rfl) ?_
 refine sD kk [] [1] [(4,.ptr 5 0),(5,av_api_Rx x)] obN ?_
 refine qD ?_
 refine sD kk [] [] [(19,vi (api_Rx.Kind x))] obN ?_
 refine bD (id:=0) ?_
 refine sD kk [] [] [(22,vB (api_Rx.Kind x == (2:Int)))] obN ?_
 refine cD (t:=7) (b:=api_Rx.Kind x == (2:Int)) (fun hb0=>?_) (fun hb0=>?_)
 ·have h:=h.1 hb0
  refine sD kk [] [4,5,19,22] [(7,vi 1)] obN ?_
  refine tD ?_
  obtain he0:=h
  subst res
  exact (endD [] (vi 1) []).1
 ·have h:=h.2 hb0
  obtain ⟨J3,hJ3,h⟩:=h
  refine sjD (fun (q:Bool)=>J3 q) (fun (q:Bool)=>(fun (t9:Bool)=>([(4,.ptr 5 0),(5,av_api_Rx x),(28,vB t9)]:Sta)) q) ?_ ?_
  ·rintro t9 hj
   have h:=hJ3 t9 hj
   refine cD (t:=9) (b:=t9) (fun hb4=>?_) (fun hb4=>?_)
   ·have h:=h.1 hb4
    refine sD kk [] [28] [(10,vi 0)] obN ?_
    refine qD ?_
    refine sD kk [] [] [(13,vi 0)] obN ?_
    refine bD (id:=1) ?_
    obtain ⟨Inv14,mu15,h0Inv14,hInv14⟩:=h
    refine loD (fun (q:Int×Int)=>(fun (n:Int) (i:Int)=>([(4,.ptr 5 0),(5,av_api_Rx x),(10,vi n),(13,vi i)]:Sta)) q.1 q.2) (fun (q:Int×Int)=>Inv14 q.1 q.2) (fun (q:Int×Int)=>mu15 q.1 q.2) (0,0) [] h0Inv14 ?_
    rintro ⟨n,i⟩ hi
    have h:=hInv14 n i hi
    refine qD ?_
    refine sDE kk [] [] [(52,vB (decide (i < (↑(List.length (List.map enc_api_Rx (api_Rx.Kids x))):Int))))] [(52,vB (decide (i < (↑(List.length (api_Rx.Kids x)):Int))))] obN ?_
    refine cD (t:=17) (b:=decide (i < (↑(List.length (api_Rx.Kids x)):Int))) (fun hb16=>?_) (fun hb16=>?_)
    ·have h:=h.1 hb16
     refine Sem.skip' (by kernel_rfl) Wk.refl ?_
     show Sem _ _ _ _ _
     refine wkD [52] ?_
     refine qD ?_
     refine bD (id:=2) ?_
     obtain ⟨h17,h⟩:=h
     obtain ⟨h18,h⟩:=h
     obtain ⟨r0_2,hc19,h⟩:=h
     refine sD kk [.e (fv_api_Rx (gd (api_Rx.Kids x) i)),.c (vi r0_2) []] [] [(10,vi (w64 (n+r0_2)))] (obC h17 (obC (idx_ok enc_api_Rx (api_Rx.Kids x) i _ (enc_api_Rx_eq _) h17 h18) (obC hc19 obN))) ?_
     refine sD kk [] [] [(88,vB (decide (w64 (n+r0_2) > (1000000:Int))))] obN ?_
     refine cD (t:=29) (b:=decide (w64 (n+r0_2) > (1000000:Int))) (fun hb20=>?_) (fun hb20=>?_)
     ·have h:=h.1 hb20
      refine sD kk [] [4,5,10,13,88] [(7,vi ((1000000:Int)))] obN ?_
      refine tD ?_
      obtain he0:=h
      subst res
      exact (endD [] (vi ((1000000:Int))) []).1
     ·have h:=h.2 hb20
      refine Sem.skip' (by kernel_rfl) Wk.refl ?_
      show Sem _ _ _ _ _
      refine wkD [88] ?_
      refine rD kk [] [] [(13,vi (w64 (i+1)))] obN ?_
      exact lD ((w64 (n+r0_2)),(w64 (i+1))) [] h
    ·have h:=h.2 hb16
     refine xD (i:=1) ?_
     show Sem _ _ _ _ _
     refine wkD [13,52] ?_
     obtain ⟨J22,hJ22,h⟩:=h
     refine sjD (fun (q:Int)=>J22 q) (fun (q:Int)=>(fun (n_1:Int)=>([(10,vi n_1)]:Sta)) q) ?_ ?_
     ·rintro n_1 hj
      have h:=hJ22 n_1 hj
      refine sD kk [] [10] [(7,vi (if false=true then if (1000000:Int) > n_1 then (1000000:Int) else n_1 else if (1000000:Int) < n_1 then (1000000:Int) else n_1))] obN ?_
      refine tD ?_
      obtain he0:=h
      subst res
      exact (endD [] (vi (if false=true then if (1000000:Int) > n_1 then (1000000:Int) else n_1 else if (1000000:Int) < n_1 then (1000000:Int) else n_1)) []).1
     ·refine sD kk [] [] [(97,vB (api_Rx.Kind x == (5:Int)))] obN ?_
      refine cD (t:=32) (b:=api_Rx.Kind x == (5:Int)) (fun hb23=>?_) (fun hb23=>?_)
      ·have h:=h.1 hb23
       refine rDE kk [] [4,5,97] [(10,vi (w64 (n * if true=true then if (if false=true then if (if true=true then if api_Rx.Hi x > api_Rx.Lo x then api_Rx.Hi x else api_Rx.Lo x else if api_Rx.Hi x < api_Rx.Lo x then api_Rx.Hi x else api_Rx.Lo x) > (1000:Int) then if true=true then if api_Rx.Hi x > api_Rx.Lo x then api_Rx.Hi x else api_Rx.Lo x else if api_Rx.Hi x < api_Rx.Lo x then api_Rx.Hi x else api_Rx.Lo x else (1000:Int) else if (if true=true then if api_Rx.Hi x > api_Rx.Lo x then api_Rx.Hi x else api_Rx.Lo x else if api_Rx.Hi x < api_Rx.Lo x then api_Rx.Hi x else api_Rx.Lo x) < (1000:Int) then if true=true then if api_Rx.Hi x > api_Rx.Lo x then api_Rx.Hi x else api_Rx.Lo x else if api_Rx.Hi x < api_Rx.Lo x then api_Rx.Hi x else api_Rx.Lo x else (1000:Int)) > (1:Int) then if false=true then if (if true=true then if api_Rx.Hi x > api_Rx.Lo x then api_Rx.Hi x else api_Rx.Lo x else if api_Rx.Hi x < api_Rx.Lo x then api_Rx.Hi x else api_Rx.Lo x) > (1000:Int) then if true=true then if api_Rx.Hi x > api_Rx.Lo x then api_Rx.Hi x else api_Rx.Lo x else if api_Rx.Hi x < api_Rx.Lo x then api_Rx.Hi x else api_Rx.Lo x else (1000:Int) else if (if true=true then if api_Rx.Hi x > api_Rx.Lo x then api_Rx.Hi x else api_Rx.Lo x else if api_Rx.Hi x < api_Rx.Lo x then api_Rx.Hi x else api_Rx.Lo x) < (1000:Int) then if true=true then if api_Rx.Hi x > api_Rx.Lo x then api_Rx.Hi x else api_Rx.Lo x else if api_Rx.Hi x < api_Rx.Lo x then api_Rx.Hi x else api_Rx.Lo x else (1000:Int) else (1:Int) else if (if false=true then if (if true=true then if api_Rx.Hi x > api_Rx.Lo x then api_Rx.Hi x else api_Rx.Lo x else if api_Rx.Hi x < api_Rx.Lo x then api_Rx.Hi x else api_Rx.Lo x) > (1000:Int) then if true=true then if api_Rx.Hi x > api_Rx.Lo x then api_Rx.Hi x else api_Rx.Lo x else if api_Rx.Hi x < api_Rx.Lo x then api_Rx.Hi x else api_Rx.Lo x else (1000:Int) else if (if true=true then if api_Rx.Hi x > api_Rx.Lo x then api_Rx.Hi x else api_Rx.Lo x else if api_Rx.Hi x < api_Rx.Lo x then api_Rx.Hi x else api_Rx.Lo x) < (1000:Int) then if true=true then if api_Rx.Hi x > api_Rx.Lo x then api_Rx.Hi x else api_Rx.Lo x else if api_Rx.Hi x < api_Rx.Lo x then api_Rx.Hi x else api_Rx.Lo x else (1000:Int)) < (1:Int) then if false=true then if (if true=true then if api_Rx.Hi x > api_Rx.Lo x then api_Rx.Hi x else api_Rx.Lo x else if api_Rx.Hi x < api_Rx.Lo x then api_Rx.Hi x else api_Rx.Lo x) > (1000:Int) then if true=true then if api_Rx.Hi x > api_Rx.Lo x then api_Rx.Hi x else api_Rx.Lo x else if api_Rx.Hi x < api_Rx.Lo x then api_Rx.Hi x else api_Rx.Lo x else (1000:Int) else if (if true=true then if api_Rx.Hi x > api_Rx.Lo x then api_Rx.Hi x else api_Rx.Lo x else if api_Rx.Hi x < api_Rx.Lo x then api_Rx.Hi x else api_Rx.Lo x) < (1000:Int) then if true=true then if api_Rx.Hi x > api_Rx.Lo x then api_Rx.Hi x else api_Rx.Lo x else if api_Rx.Hi x < api_Rx.Lo x then api_Rx.Hi x else api_Rx.Lo x else (1000:Int) else (1:Int))))] [(10,vi (w64 (n * if (if false=true then if (if api_Rx.Hi x > api_Rx.Lo x then api_Rx.Hi x else api_Rx.Lo x) > (1000:Int) then if api_Rx.Hi x > api_Rx.Lo x then api_Rx.Hi x else api_Rx.Lo x else (1000:Int) else if (if api_Rx.Hi x > api_Rx.Lo x then api_Rx.Hi x else api_Rx.Lo x) < (1000:Int) then if api_Rx.Hi x > api_Rx.Lo x then api_Rx.Hi x else api_Rx.Lo x else (1000:Int)) > (1:Int) then if false=true then if (if api_Rx.Hi x > api_Rx.Lo x then api_Rx.Hi x else api_Rx.Lo x) > (1000:Int) then if api_Rx.Hi x > api_Rx.Lo x then api_Rx.Hi x else api_Rx.Lo x else (1000:Int) else if (if api_Rx.Hi x > api_Rx.Lo x then api_Rx.Hi x else api_Rx.Lo x) < (1000:Int) then if api_Rx.Hi x > api_Rx.Lo x then api_Rx.Hi x else api_Rx.Lo x else (1000:Int) else (1:Int))))] obN ?_
       exact jD (w64 (n * if (if false=true then if (if api_Rx.Hi x > api_Rx.Lo x then api_Rx.Hi x else api_Rx.Lo x) > (1000:Int) then if api_Rx.Hi x > api_Rx.Lo x then api_Rx.Hi x else api_Rx.Lo x else (1000:Int) else if (if api_Rx.Hi x > api_Rx.Lo x then api_Rx.Hi x else api_Rx.Lo x) < (1000:Int) then if api_Rx.Hi x > api_Rx.Lo x then api_Rx.Hi x else api_Rx.Lo x else (1000:Int)) > (1:Int) then if false=true then if (if api_Rx.Hi x > api_Rx.Lo x then api_Rx.Hi x else api_Rx.Lo x) > (1000:Int) then if api_Rx.Hi x > api_Rx.Lo x then api_Rx.Hi x else api_Rx.Lo x else (1000:Int) else if (if api_Rx.Hi x > api_Rx.Lo x then api_Rx.Hi x else api_Rx.Lo x) < (1000:Int) then if api_Rx.Hi x > api_Rx.Lo x then api_Rx.Hi x else api_Rx.Lo x else (1000:Int) else (1:Int))) [] h
      ·have h:=h.2 hb23
       refine Sem.skip' (by kernel_rfl) Wk.refl ?_
       exact jD n [] h
   ·have h:=h.2 hb4
    refine Sem.skip' (by kernel_rfl) Wk.refl ?_
    show Sem _ _ _ _ _
    refine wkD [4,5,28] ?_
    refine sD kk [] [] [(7,vi 0)] obN ?_
    refine tD ?_
    obtain he0:=h
    subst res
    exact (endD [] (vi 0) []).1
  ·refine sD kk [] [22] [(28,vB (api_Rx.Kind x == (3:Int)))] obN ?_
   refine cD (t:=9) (b:=api_Rx.Kind x == (3:Int)) (fun hb24=>?_) (fun hb24=>?_)
   ·have h:=h.1 hb24
    refine Sem.skip' (by kernel_rfl) Wk.refl ?_
    exact jD (api_Rx.Kind x == (3:Int)) [] h
   ·have h:=h.2 hb24
    refine sD kk [] [] [(28,vB (api_Rx.Kind x == (4:Int)))] obN ?_
    refine cD (t:=9) (b:=api_Rx.Kind x == (4:Int)) (fun hb25=>?_) (fun hb25=>?_)
    ·have h:=h.1 hb25
     refine Sem.skip' (by kernel_rfl) Wk.refl ?_
     exact jD (api_Rx.Kind x == (4:Int)) [] h
    ·have h:=h.2 hb25
     refine rD kk [] [19] [(28,vB (api_Rx.Kind x == (5:Int)))] obN ?_
     exact jD (api_Rx.Kind x == (5:Int)) [] h
set_option maxHeartbeats 1000000 in
theorem W_hecklelaw05_Text (l:(List Int)) (res:ByteArray)
 (h:(∃ (Inv14:ByteArray→Int→Prop) (mu15:ByteArray→Int→Nat),Inv14 ({ data:=#[] }) 0∧(∀ (s0:ByteArray) (i:Int),Inv14 s0 i→(((decide (i < (↑(List.length (List.map enc_u8 l)):Int)) && decide (i < (12:Int)))=true→((0:Int)≤i)∧i < ↑(List.length l)∧((0:Int)≤i)∧i < ↑(List.length l)∧((0:Int)≤Int.tmod (w64 (gd l i)) (12:Int)∧(0:Int)≤w64 (Int.tmod (w64 (gd l i)) (12:Int)+1)∧Int.toNat (Int.tmod (w64 (gd l i)) (12:Int))≤Int.toNat (w64 (Int.tmod (w64 (gd l i)) (12:Int)+1))∧Int.toNat (w64 (Int.tmod (w64 (gd l i)) (12:Int)+1))≤ByteArray.size { data:=#[(97:UInt8),(97:UInt8),(98:UInt8),(98:UInt8),(99:UInt8),(99:UInt8),(45:UInt8),(90:UInt8),(10:UInt8),(48:UInt8),(0:UInt8),(255:UInt8)] })∧((↑(ByteArray.size s0+ByteArray.size (ByteArray.extract { data:=#[(97:UInt8),(97:UInt8),(98:UInt8),(98:UInt8),(99:UInt8),(99:UInt8),(45:UInt8),(90:UInt8),(10:UInt8),(48:UInt8),(0:UInt8),(255:UInt8)] } (Int.toNat (Int.tmod (w64 (gd l i)) (12:Int))) (Int.toNat (w64 (Int.tmod (w64 (gd l i)) (12:Int)+1))))):Int)≤IntKind.max IntKind.i64)∧(Inv14 (s0++ByteArray.extract { data:=#[(97:UInt8),(97:UInt8),(98:UInt8),(98:UInt8),(99:UInt8),(99:UInt8),(45:UInt8),(90:UInt8),(10:UInt8),(48:UInt8),(0:UInt8),(255:UInt8)] } (Int.toNat (Int.tmod (w64 (gd l i)) (12:Int))) (Int.toNat (w64 (Int.tmod (w64 (gd l i)) (12:Int)+1)))) (w64 (i+1))∧mu15 (s0++ByteArray.extract { data:=#[(97:UInt8),(97:UInt8),(98:UInt8),(98:UInt8),(99:UInt8),(99:UInt8),(45:UInt8),(90:UInt8),(10:UInt8),(48:UInt8),(0:UInt8),(255:UInt8)] } (Int.toNat (Int.tmod (w64 (gd l i)) (12:Int))) (Int.toNat (w64 (Int.tmod (w64 (gd l i)) (12:Int)+1)))) (w64 (i+1)) < mu15 s0 i))∧((decide (i < (↑(List.length (List.map enc_u8 l)):Int)) && decide (i < (12:Int)))=false→(res=s0)))))):C_hecklelaw05_Text l res:=by
 unfold C_hecklelaw05_Text
 have kk:=cfOk [31] 32
 refine fD (x:=bodyOf Try.f9) kk Try.func9 ?_
 refine wkS [1] [(1,vL enc_u8 l)] (by kernel_rfl) ?_
 refine sD kk [] [] [] obN ?_
 refine sD kk [] [] [(10,vS ({ data:=#[] }))] obN ?_
 refine qD ?_
 refine sD kk [] [] [(13,vi 0)] obN ?_
 refine bD (id:=0) ?_
 obtain ⟨Inv14,mu15,h0Inv14,hInv14⟩:=h
 refine loD (fun (q:ByteArray×Int)=>(fun (s0:ByteArray) (i:Int)=>([(1,vL enc_u8 l),(10,vS s0),(13,vi i)]:Sta)) q.1 q.2) (fun (q:ByteArray×Int)=>Inv14 q.1 q.2) (fun (q:ByteArray×Int)=>mu15 q.1 q.2) (({ data:=#[] }),0) [] h0Inv14 ?_
 rintro ⟨s0,i⟩ hi
 have h:=hInv14 s0 i hi
 refine qD ?_
 refine sM [] [(37,vB (decide (i < (↑(List.length (List.map enc_u8 l)):Int)) && decide (i < (12:Int))))] ?_ (fun hk0=>?_)
 ·refine cD (t:=12) (b:=decide (i < (↑(List.length (List.map enc_u8 l)):Int)) && decide (i < (12:Int))) (fun hb17=>?_) (fun hb17=>?_)
  ·have h:=h.1 hb17
   refine Sem.skip' (by kernel_rfl) Wk.refl ?_
   show Sem _ _ _ _ _
   refine wkD [37] ?_
   refine qD ?_
   refine bD (id:=1) ?_
   obtain ⟨h18,h⟩:=h
   obtain ⟨h19,h⟩:=h
   obtain ⟨h20,h⟩:=h
   obtain ⟨h21,h⟩:=h
   obtain ⟨h22,h⟩:=h
   obtain ⟨h23,h⟩:=h
   refine rD kk [.e (.pv (.int .u8 (gd l i))),.e (.pv (.int .u8 (gd l i)))] [] [(10,vS (s0++ByteArray.extract { data:=#[(97:UInt8),(97:UInt8),(98:UInt8),(98:UInt8),(99:UInt8),(99:UInt8),(45:UInt8),(90:UInt8),(10:UInt8),(48:UInt8),(0:UInt8),(255:UInt8)] } (Int.toNat (Int.tmod (w64 (gd l i)) (12:Int))) (Int.toNat (w64 (Int.tmod (w64 (gd l i)) (12:Int)+1)))))] (obC h18 (obC (idx_ok enc_u8 l i _ rfl h18 h19) (obC (show (12:Int)≠(0:Int) from by first | decide | rfl | trivial | (simp only [nm]<;>first | decide | rfl | omega)) (obC h20 (obC (idx_ok enc_u8 l i _ rfl h20 h21) (obC (show (12:Int)≠(0:Int) from by first | decide | rfl | trivial | (simp only [nm]<;>first | decide | rfl | omega)) (obC h22 (obC h23 obN)))))))) ?_
   show Sem _ _ _ _ _
   refine rD kk [] [] [(13,vi (w64 (i+1)))] obN ?_
   exact lD ((s0++ByteArray.extract { data:=#[(97:UInt8),(97:UInt8),(98:UInt8),(98:UInt8),(99:UInt8),(99:UInt8),(45:UInt8),(90:UInt8),(10:UInt8),(48:UInt8),(0:UInt8),(255:UInt8)] } (Int.toNat (Int.tmod (w64 (gd l i)) (12:Int))) (Int.toNat (w64 (Int.tmod (w64 (gd l i)) (12:Int)+1)))),(w64 (i+1))) [] h
  ·have h:=h.2 hb17
   refine xD (i:=0) ?_
   show Sem _ _ _ _ _
   refine wkD [1,13,37] ?_
   refine sD kk [] [10] [(7,vS s0)] obN ?_
   refine tD ?_
   obtain he0:=h
   subst res
   exact (endD [] (vS s0) []).1
 ·rcases Bool.eq_false_or_eq_true (decide (i < (↑(List.length (List.map enc_u8 l)):Int))) with hb16 | hb16
  ·refine sD kk [.b true,.b true,.b true] [] [(37,vB (decide (i < (12:Int))))] (obC (gtt hb16) (obC (gtt hb16) (obC hb16 obN))) ?_
   exact Sem.cast (by try rw [hb16];kernel_rfl) hk0
  ·refine sD kk [.b false,.b false,.b false] [] [(37,vB false)] (obC (gtf hb16) (obC (gtf hb16) (obC hb16 obN))) ?_
   exact Sem.cast (by try rw [hb16];kernel_rfl) hk0
set_option maxHeartbeats 1000000 in
theorem W_rx_pattern_times (x:rx_pattern) (res:Bool)
 (h:(((decide (rx_pattern.Lo x < (0:Int)) || decide (rx_pattern.Lo x > (20:Int)))=true→(res=false))∧((decide (rx_pattern.Lo x < (0:Int)) || decide (rx_pattern.Lo x > (20:Int)))=false→(res=(rx_pattern.Hi x == (-1:Int) || decide (rx_pattern.Hi x≥if rx_pattern.Lo x > (1:Int) then rx_pattern.Lo x else (1:Int)) && decide (rx_pattern.Hi x≤(20:Int))))))):C_rx_pattern_times x res:=by
 unfold C_rx_pattern_times
 have kk:=cfOk [] 27
 refine fD (x:=bodyOf Try.f110) kk Try.func110 ?_
 refine wkS [1] [(1,av_rx_pattern x)] (by kernel_rfl) ?_
 refine sD kk [] [1] [(4,.ptr 5 0),(5,av_rx_pattern x)] obN ?_
 refine qD ?_
 refine sM [] [(31,vB (decide (rx_pattern.Lo x < (0:Int)) || decide (rx_pattern.Lo x > (20:Int))))] ?_ (fun hk0=>?_)
 ·refine cD (t:=10) (b:=decide (rx_pattern.Lo x < (0:Int)) || decide (rx_pattern.Lo x > (20:Int))) (fun hb1=>?_) (fun hb1=>?_)
  ·have h:=h.1 hb1
   refine sD kk [] [4,5,31] [(7,vB false)] obN ?_
   refine tD ?_
   obtain he0:=h
   subst res
   exact (endD [] (vB false) []).1
  ·have h:=h.2 hb1
   refine Sem.skip' (by kernel_rfl) Wk.refl ?_
   show Sem _ _ _ _ _
   refine wkD [31] ?_
   refine sM [4,5] [(7,vB (rx_pattern.Hi x == (-1:Int) || decide (rx_pattern.Hi x≥if true=true then if rx_pattern.Lo x > (1:Int) then rx_pattern.Lo x else (1:Int) else if rx_pattern.Lo x < (1:Int) then rx_pattern.Lo x else (1:Int)) && decide (rx_pattern.Hi x≤(20:Int))))] ?_ (fun hk0=>?_)
   ·refine tD ?_
    obtain he0:=h
    subst res
    exact (endD [] (vB (rx_pattern.Hi x == (-1:Int) || decide (rx_pattern.Hi x≥if true=true then if rx_pattern.Lo x > (1:Int) then rx_pattern.Lo x else (1:Int) else if rx_pattern.Lo x < (1:Int) then rx_pattern.Lo x else (1:Int)) && decide (rx_pattern.Hi x≤(20:Int)))) []).1
   ·rcases Bool.eq_false_or_eq_true (rx_pattern.Hi x == (-1:Int)) with hb2 | hb2
    ·refine sD kk [.b false,.b false,.b false,.b false,.b false,.b false,.b false,.b false,.b true] [4,5] [(7,vB true)] (obC (gff hb2) (obC (gff hb2) (obC (gff hb2) (obC (gff hb2) (obC (gff hb2) (obC (gff hb2) (obC (gff hb2) (obC (gff hb2) (obC hb2 obN))))))))) ?_
     exact Sem.cast (by try rw [hb2];kernel_rfl) hk0
    ·rcases Bool.eq_false_or_eq_true (decide (rx_pattern.Hi x≥if true=true then if rx_pattern.Lo x > (1:Int) then rx_pattern.Lo x else (1:Int) else if rx_pattern.Lo x < (1:Int) then rx_pattern.Lo x else (1:Int))) with hb3 | hb3
     ·refine sD kk [.b true,.b true,.b true,.b true,.b true,.b true,.b true,.b true,.b true,.b true,.b true,.b true,.b false] [4,5] [(7,vB (decide (rx_pattern.Hi x≤(20:Int))))] (obC (gft hb2) (obC (gft hb2) (obC (gft hb2) (obC (gft hb2) (obC (gft hb2) (obC (gft hb2) (obC (gft hb2) (obC (gtt hb3) (obC (gtt hb3) (obC (gtt hb3) (obC (gft hb2) (obC hb3 (obC hb2 obN))))))))))))) ?_
      exact Sem.cast (by try rw [hb2];try rw [hb3];kernel_rfl) hk0
     ·refine sD kk [.b true,.b true,.b true,.b true,.b true,.b true,.b true,.b false,.b false,.b false,.b true,.b false,.b false] [4,5] [(7,vB false)] (obC (gft hb2) (obC (gft hb2) (obC (gft hb2) (obC (gft hb2) (obC (gft hb2) (obC (gft hb2) (obC (gft hb2) (obC (gtf hb3) (obC (gtf hb3) (obC (gtf hb3) (obC (gft hb2) (obC hb3 (obC hb2 obN))))))))))))) ?_
      exact Sem.cast (by try rw [hb2];try rw [hb3];kernel_rfl) hk0
 ·rcases Bool.eq_false_or_eq_true (decide (rx_pattern.Lo x < (0:Int))) with hb0 | hb0
  ·refine sD kk [.b false,.b false,.b false,.b true] [] [(31,vB true)] (obC (gff hb0) (obC (gff hb0) (obC (gff hb0) (obC hb0 obN)))) ?_
   exact Sem.cast (by try rw [hb0];kernel_rfl) hk0
  ·refine sD kk [.b true,.b true,.b true,.b false] [] [(31,vB (decide (rx_pattern.Lo x > (20:Int))))] (obC (gft hb0) (obC (gft hb0) (obC (gft hb0) (obC hb0 obN)))) ?_
   exact Sem.cast (by try rw [hb0];kernel_rfl) hk0
set_option maxHeartbeats 1000000 in
theorem W_rx_pattern_own (x:rx_pattern) (res:Bool)
 (h:(∃ J12:Int→Prop,(∀ (many:Int),J12 many→(res=((!(arr4_uint64.e0 (rx_pattern.Set x) == 0 && (arr4_uint64.e1 (rx_pattern.Set x) == 0 && (arr4_uint64.e2 (rx_pattern.Set x) == 0 && (arr4_uint64.e3 (rx_pattern.Set x) == 0 && true))))) == (rx_pattern.Kind x == (2:Int)) && (rx_pattern.Lo x == 0 && (rx_pattern.Hi x == 0 && (decide (many≥(2:Int)) && (!decide (rx_pattern.Kind x < (3:Int)) || many == (2:Int))))))))∧(((rx_pattern.Kind x == (5:Int))=true→(((!!(arr4_uint64.e0 (rx_pattern.Set x) == 0 && (arr4_uint64.e1 (rx_pattern.Set x) == 0 && (arr4_uint64.e2 (rx_pattern.Set x) == 0 && (arr4_uint64.e3 (rx_pattern.Set x) == 0 && true)))))=true→((((↑(List.length (rx_pattern.Kids x)):Int) == 1)=true→(∃ r0_1:Bool,C_rx_pattern_times x r0_1∧(res=r0_1)))∧(((↑(List.length (rx_pattern.Kids x)):Int) == 1)=false→(res=false))))∧((!!(arr4_uint64.e0 (rx_pattern.Set x) == 0 && (arr4_uint64.e1 (rx_pattern.Set x) == 0 && (arr4_uint64.e2 (rx_pattern.Set x) == 0 && (arr4_uint64.e3 (rx_pattern.Set x) == 0 && true)))))=false→(res=false))))∧((rx_pattern.Kind x == (5:Int))=false→(∃ J23:Bool→Prop,(∀ (t17_1:Bool),J23 t17_1→(((t17_1)=true→J12 (w64 ((↑(List.length (rx_pattern.Kids x)):Int)+2)))∧((t17_1)=false→(∃ J26:Bool→Prop,(∀ (t20_1:Bool),J26 t20_1→(((t20_1)=true→J12 ((↑(List.length (rx_pattern.Kids x)):Int)))∧((t20_1)=false→(res=false))))∧(((rx_pattern.Kind x == (3:Int))=true→J26 (rx_pattern.Kind x == (3:Int)))∧((rx_pattern.Kind x == (3:Int))=false→J26 (rx_pattern.Kind x == (4:Int))))))))∧(((rx_pattern.Kind x == 1)=true→J23 (rx_pattern.Kind x == 1))∧((rx_pattern.Kind x == 1)=false→J23 (rx_pattern.Kind x == (2:Int))))))))):C_rx_pattern_own x res:=by
 unfold C_rx_pattern_own
 have kk:=cfOk [] 65
 refine fD (x:=bodyOf Try.f89) kk Try.func89 ?_
 refine wkS [1] [(1,av_rx_pattern x)] (by kernel_rfl) ?_
 refine sD kk [] [1] [(4,.ptr 5 0),(5,av_rx_pattern x)] obN ?_
 refine sDE kk [] [] [(10,vB (!(arr4_uint64.e0 (rx_pattern.Set x) == 0 && (arr4_uint64.e1 (rx_pattern.Set x) == 0 && (arr4_uint64.e2 (rx_pattern.Set x) == 0 && (arr4_uint64.e3 (rx_pattern.Set x) == 0 && true)))))),(13,vi ((↑(List.length (List.map enc_api_Rx (rx_pattern.Kids x))):Int)))] [(10,vB (!(arr4_uint64.e0 (rx_pattern.Set x) == 0 && (arr4_uint64.e1 (rx_pattern.Set x) == 0 && (arr4_uint64.e2 (rx_pattern.Set x) == 0 && (arr4_uint64.e3 (rx_pattern.Set x) == 0 && true)))))),(13,vi ((↑(List.length (rx_pattern.Kids x)):Int)))] obN ?_
 refine qD ?_
 refine sD kk [] [] [(43,vi (rx_pattern.Kind x))] obN ?_
 refine bD (id:=0) ?_
 obtain ⟨J12,hJ12,h⟩:=h
 refine sjD (fun (q:Int)=>J12 q) (fun (q:Int)=>(fun (many:Int)=>([(4,.ptr 5 0),(5,av_rx_pattern x),(10,vB (!(arr4_uint64.e0 (rx_pattern.Set x) == 0 && (arr4_uint64.e1 (rx_pattern.Set x) == 0 && (arr4_uint64.e2 (rx_pattern.Set x) == 0 && (arr4_uint64.e3 (rx_pattern.Set x) == 0 && true)))))),(13,vi many)]:Sta)) q) ?_ ?_
 ·rintro many hj
  have h:=hJ12 many hj
  refine qD ?_
  refine sD kk [] [] [(16,vB (decide (rx_pattern.Kind x < (3:Int))))] obN ?_
  refine sM [4,5,10,13,16] [(7,vB ((!(arr4_uint64.e0 (rx_pattern.Set x) == 0 && (arr4_uint64.e1 (rx_pattern.Set x) == 0 && (arr4_uint64.e2 (rx_pattern.Set x) == 0 && (arr4_uint64.e3 (rx_pattern.Set x) == 0 && true))))) == (rx_pattern.Kind x == (2:Int)) && (rx_pattern.Lo x == 0 && (rx_pattern.Hi x == 0 && (decide (many≥(2:Int)) && (!decide (rx_pattern.Kind x < (3:Int)) || many == (2:Int)))))))] ?_ (fun hk0=>?_)
  ·refine tD ?_
   obtain he0:=h
   subst res
   exact (endD [] (vB ((!(arr4_uint64.e0 (rx_pattern.Set x) == 0 && (arr4_uint64.e1 (rx_pattern.Set x) == 0 && (arr4_uint64.e2 (rx_pattern.Set x) == 0 && (arr4_uint64.e3 (rx_pattern.Set x) == 0 && true))))) == (rx_pattern.Kind x == (2:Int)) && (rx_pattern.Lo x == 0 && (rx_pattern.Hi x == 0 && (decide (many≥(2:Int)) && (!decide (rx_pattern.Kind x < (3:Int)) || many == (2:Int))))))) []).1
  ·rcases Bool.eq_false_or_eq_true ((!(arr4_uint64.e0 (rx_pattern.Set x) == 0 && (arr4_uint64.e1 (rx_pattern.Set x) == 0 && (arr4_uint64.e2 (rx_pattern.Set x) == 0 && (arr4_uint64.e3 (rx_pattern.Set x) == 0 && true))))) == (rx_pattern.Kind x == (2:Int))) with hb13 | hb13
   ·rcases Bool.eq_false_or_eq_true (rx_pattern.Lo x == 0) with hb14 | hb14
    ·rcases Bool.eq_false_or_eq_true (rx_pattern.Hi x == 0) with hb15 | hb15
     ·rcases Bool.eq_false_or_eq_true (decide (many≥(2:Int))) with hb16 | hb16
      ·rcases Bool.eq_false_or_eq_true (!decide (rx_pattern.Kind x < (3:Int))) with hb17 | hb17
       ·refine sD kk [.b true,.b true,.b true,.b true,.b true,.b true,.b true,.b true,.b true,.b true,.b true,.b true,.b true,.b true,.b false,.b false,.b true,.b true,.b true] [4,5,10,13,16] [(7,vB true)] (obC (gtt hb13) (obC (gtt hb13) (obC (gtt hb13) (obC hb13 (obC (gtt hb14) (obC (gtt hb14) (obC (gtt hb14) (obC hb14 (obC (gtt hb15) (obC (gtt hb15) (obC hb15 (obC (gtt hb16) (obC (gtt hb16) (obC (gtt hb16) (obC (gff hb17) (obC (gff hb17) (obC (gtt hb16) (obC hb17 (obC hb16 obN))))))))))))))))))) ?_
        exact Sem.cast (by try rw [hb13];try rw [hb14];try rw [hb15];try rw [hb16];try rw [hb17];kernel_rfl) hk0
       ·refine sD kk [.b true,.b true,.b true,.b true,.b true,.b true,.b true,.b true,.b true,.b true,.b true,.b true,.b true,.b true,.b true,.b true,.b true,.b false,.b true] [4,5,10,13,16] [(7,vB (many == (2:Int)))] (obC (gtt hb13) (obC (gtt hb13) (obC (gtt hb13) (obC hb13 (obC (gtt hb14) (obC (gtt hb14) (obC (gtt hb14) (obC hb14 (obC (gtt hb15) (obC (gtt hb15) (obC hb15 (obC (gtt hb16) (obC (gtt hb16) (obC (gtt hb16) (obC (gft hb17) (obC (gft hb17) (obC (gtt hb16) (obC hb17 (obC hb16 obN))))))))))))))))))) ?_
        exact Sem.cast (by try rw [hb13];try rw [hb14];try rw [hb15];try rw [hb16];try rw [hb17];kernel_rfl) hk0
      ·refine sD kk [.b true,.b true,.b true,.b true,.b true,.b true,.b true,.b true,.b true,.b true,.b true,.b false,.b false,.b false,.b false,.b false] [4,5,10,13,16] [(7,vB false)] (obC (gtt hb13) (obC (gtt hb13) (obC (gtt hb13) (obC hb13 (obC (gtt hb14) (obC (gtt hb14) (obC (gtt hb14) (obC hb14 (obC (gtt hb15) (obC (gtt hb15) (obC hb15 (obC (gtf hb16) (obC (gtf hb16) (obC (gtf hb16) (obC (gtf hb16) (obC hb16 obN)))))))))))))))) ?_
       exact Sem.cast (by try rw [hb13];try rw [hb14];try rw [hb15];try rw [hb16];kernel_rfl) hk0
     ·refine sD kk [.b true,.b true,.b true,.b true,.b true,.b true,.b true,.b true,.b false,.b false,.b false,.b false,.b false,.b false,.b false,.b false] [4,5,10,13,16] [(7,vB false)] (obC (gtt hb13) (obC (gtt hb13) (obC (gtt hb13) (obC hb13 (obC (gtt hb14) (obC (gtt hb14) (obC (gtt hb14) (obC hb14 (obC (gtf hb15) (obC (gtf hb15) (obC hb15 (obC (rfl:false=false) (obC (rfl:false=false) (obC (rfl:false=false) (obC (rfl:false=false) (obC (rfl:false=false) obN)))))))))))))))) ?_
      exact Sem.cast (by try rw [hb13];try rw [hb14];try rw [hb15];kernel_rfl) hk0
    ·refine sD kk [.b true,.b true,.b true,.b true,.b false,.b false,.b false,.b false,.b false,.b false,.b false,.b false,.b false,.b false,.b false,.b false] [4,5,10,13,16] [(7,vB false)] (obC (gtt hb13) (obC (gtt hb13) (obC (gtt hb13) (obC hb13 (obC (gtf hb14) (obC (gtf hb14) (obC (gtf hb14) (obC hb14 (obC (rfl:false=false) (obC (rfl:false=false) (obC (rfl:false=false) (obC (rfl:false=false) (obC (rfl:false=false) (obC (rfl:false=false) (obC (rfl:false=false) (obC (rfl:false=false) obN)))))))))))))))) ?_
     exact Sem.cast (by try rw [hb13];try rw [hb14];kernel_rfl) hk0
   ·refine sD kk [.b false,.b false,.b false,.b false,.b false,.b false,.b false,.b false,.b false,.b false,.b false,.b false,.b false,.b false,.b false,.b false] [4,5,10,13,16] [(7,vB false)] (obC (gtf hb13) (obC (gtf hb13) (obC (gtf hb13) (obC hb13 (obC (rfl:false=false) (obC (rfl:false=false) (obC (rfl:false=false) (obC (rfl:false=false) (obC (rfl:false=false) (obC (rfl:false=false) (obC (rfl:false=false) (obC (rfl:false=false) (obC (rfl:false=false) (obC (rfl:false=false) (obC (rfl:false=false) (obC (rfl:false=false) obN)))))))))))))))) ?_
    exact Sem.cast (by try rw [hb13];kernel_rfl) hk0
 ·refine bD (id:=3) ?_
  refine qD ?_
  refine bD (id:=2) ?_
  refine qD ?_
  refine bD (id:=1) ?_
  refine qD ?_
  refine qD ?_
  refine sD kk [] [] [(46,vB (rx_pattern.Kind x == (5:Int)))] obN ?_
  refine cD (t:=15) (b:=rx_pattern.Kind x == (5:Int)) (fun hb18=>?_) (fun hb18=>?_)
  ·have h:=h.1 hb18
   refine xD (i:=1) ?_
   show Sem _ _ _ _ _
   refine wkD [43,46] ?_
   refine qD ?_
   rcases Bool.eq_false_or_eq_true (!!(arr4_uint64.e0 (rx_pattern.Set x) == 0 && (arr4_uint64.e1 (rx_pattern.Set x) == 0 && (arr4_uint64.e2 (rx_pattern.Set x) == 0 && (arr4_uint64.e3 (rx_pattern.Set x) == 0 && true))))) with hb19 | hb19
   ·have h:=h.1 hb19
    rcases Bool.eq_false_or_eq_true ((↑(List.length (rx_pattern.Kids x)):Int) == 1) with hb20 | hb20
    ·have h:=h.1 hb20
     obtain ⟨r0_1,hc21,h⟩:=h
     refine sD kk [.b true,.b true,.b true,.b true,.b true,.c (vB r0_1) [],.b true] [4,5,10,13] [(7,vB r0_1)] (obC (gtt hb19) (obC (gtt hb19) (obC hb19 (obC (gtt hb20) (obC (gtt hb20) (obC hc21 (obC hb20 obN))))))) ?_
     refine tD ?_
     obtain he0:=h
     subst res
     exact (endD [] (vB r0_1) []).1
    ·have h:=h.2 hb20
     refine sD kk [.b true,.b true,.b true,.b false,.b false,.b false] [4,5,10,13] [(7,vB false)] (obC (gtt hb19) (obC (gtt hb19) (obC hb19 (obC (gtf hb20) (obC (gtf hb20) (obC hb20 obN)))))) ?_
     refine tD ?_
     obtain he0:=h
     subst res
     exact (endD [] (vB false) []).1
   ·have h:=h.2 hb19
    refine sD kk [.b false,.b false,.b false,.b false,.b false,.b false] [4,5,10,13] [(7,vB false)] (obC (gtf hb19) (obC (gtf hb19) (obC hb19 (obC (rfl:false=false) (obC (rfl:false=false) (obC (rfl:false=false) obN)))))) ?_
    refine tD ?_
    obtain he0:=h
    subst res
    exact (endD [] (vB false) []).1
  ·have h:=h.2 hb18
   refine Sem.skip' (by kernel_rfl) Wk.refl ?_
   show Sem _ _ _ _ _
   refine wkD [46] ?_
   refine qD ?_
   obtain ⟨J23,hJ23,h⟩:=h
   refine sjD (fun (q:Bool)=>J23 q) (fun (q:Bool)=>(fun (t17_1:Bool)=>([(4,.ptr 5 0),(5,av_rx_pattern x),(10,vB (!(arr4_uint64.e0 (rx_pattern.Set x) == 0 && (arr4_uint64.e1 (rx_pattern.Set x) == 0 && (arr4_uint64.e2 (rx_pattern.Set x) == 0 && (arr4_uint64.e3 (rx_pattern.Set x) == 0 && true)))))),(13,vi ((↑(List.length (rx_pattern.Kids x)):Int))),(43,vi (rx_pattern.Kind x)),(52,vB t17_1)]:Sta)) q) ?_ ?_
   ·rintro t17_1 hj
    have h:=hJ23 t17_1 hj
    refine cD (t:=17) (b:=t17_1) (fun hb24=>?_) (fun hb24=>?_)
    ·have h:=h.1 hb24
     refine xD (i:=2) ?_
     show Sem _ _ _ _ _
     refine wkD [43,52] ?_
     refine rD kk [] [] [(13,vi (w64 ((↑(List.length (rx_pattern.Kids x)):Int)+2)))] obN ?_
     exact jD (w64 ((↑(List.length (rx_pattern.Kids x)):Int)+2)) [] h
    ·have h:=h.2 hb24
     refine Sem.skip' (by kernel_rfl) Wk.refl ?_
     show Sem _ _ _ _ _
     refine wkD [52] ?_
     obtain ⟨J26,hJ26,h⟩:=h
     refine sjD (fun (q:Bool)=>J26 q) (fun (q:Bool)=>(fun (t20_1:Bool)=>([(4,.ptr 5 0),(5,av_rx_pattern x),(10,vB (!(arr4_uint64.e0 (rx_pattern.Set x) == 0 && (arr4_uint64.e1 (rx_pattern.Set x) == 0 && (arr4_uint64.e2 (rx_pattern.Set x) == 0 && (arr4_uint64.e3 (rx_pattern.Set x) == 0 && true)))))),(13,vi ((↑(List.length (rx_pattern.Kids x)):Int))),(61,vB t20_1)]:Sta)) q) ?_ ?_
     ·rintro t20_1 hj
      have h:=hJ26 t20_1 hj
      refine cD (t:=20) (b:=t20_1) (fun hb27=>?_) (fun hb27=>?_)
      ·have h:=h.1 hb27
       refine xD (i:=3) ?_
       exact jD ((↑(List.length (rx_pattern.Kids x)):Int)) [] h
      ·have h:=h.2 hb27
       refine Sem.skip' (by kernel_rfl) Wk.refl ?_
       show Sem _ _ _ _ _
       refine wkD [4,5,10,13,61] ?_
       refine xD (i:=0) ?_
       show Sem _ _ _ _ _
       refine sD kk [] [] [(7,vB false)] obN ?_
       refine tD ?_
       obtain he0:=h
       subst res
       exact (endD [] (vB false) []).1
     ·refine sD kk [] [] [(61,vB (rx_pattern.Kind x == (3:Int)))] obN ?_
      refine cD (t:=20) (b:=rx_pattern.Kind x == (3:Int)) (fun hb28=>?_) (fun hb28=>?_)
      ·have h:=h.1 hb28
       refine Sem.skip' (by kernel_rfl) Wk.refl ?_
       exact jD (rx_pattern.Kind x == (3:Int)) [] h
      ·have h:=h.2 hb28
       refine rD kk [] [43] [(61,vB (rx_pattern.Kind x == (4:Int)))] obN ?_
       exact jD (rx_pattern.Kind x == (4:Int)) [] h
   ·refine sD kk [] [] [(52,vB (rx_pattern.Kind x == 1))] obN ?_
    refine cD (t:=17) (b:=rx_pattern.Kind x == 1) (fun hb29=>?_) (fun hb29=>?_)
    ·have h:=h.1 hb29
     refine Sem.skip' (by kernel_rfl) Wk.refl ?_
     exact jD (rx_pattern.Kind x == 1) [] h
    ·have h:=h.2 hb29
     refine rD kk [] [] [(52,vB (rx_pattern.Kind x == (2:Int)))] obN ?_
     exact jD (rx_pattern.Kind x == (2:Int)) [] h
set_option maxHeartbeats 1000000 in
theorem W_rx_pattern_right_L1 (k:api_Rx) (v:rx_pattern) (v_1:Int) (res:Bool) (fin:rx_pattern) (fin_1:Int)
 (h:(((api_Rx.Kind k == rx_pattern.Kind v)=true→(((rx_pattern.Kind v != (5:Int))=true→(res=true∧fin=v∧fin_1=v_1))∧((rx_pattern.Kind v != (5:Int))=false→(∃ r0:Bool,C_rx_pattern_right ({ Kind:=api_Rx.Kind k,Set:=api_Rx.Set k,Lo:=api_Rx.Lo k,Hi:=api_Rx.Hi k,Kids:=api_Rx.Kids k }) (w64 (v_1 - 1)) r0∧(res=(!r0)∧fin=v∧fin_1=v_1)))))∧((api_Rx.Kind k == rx_pattern.Kind v)=false→(∃ r0_1:Bool,C_rx_pattern_right ({ Kind:=api_Rx.Kind k,Set:=api_Rx.Set k,Lo:=api_Rx.Lo k,Hi:=api_Rx.Hi k,Kids:=api_Rx.Kids k }) (w64 (v_1 - 1)) r0_1∧(res=(!r0_1)∧fin=v∧fin_1=v_1))))):C_rx_pattern_right_L1 k v v_1 res fin fin_1:=by
 unfold C_rx_pattern_right_L1
 have kk:=cfOk [] 22
 refine fD (x:=bodyOf Try.f88) kk Try.func88 ?_
 refine wkS [1,3,4,6,7] [(1,av_api_Rx k),(3,av_rx_pattern v),(4,.ptr 3 0),(6,vi v_1),(7,.ptr 6 0)] (by kernel_rfl) ?_
 refine sD kk [] [1] [(10,.ptr 11 0),(11,av_api_Rx k)] obN ?_
 rcases Bool.eq_false_or_eq_true (api_Rx.Kind k == rx_pattern.Kind v) with hb0 | hb0
 ·have h:=h.1 hb0
  rcases Bool.eq_false_or_eq_true (rx_pattern.Kind v != (5:Int)) with hb1 | hb1
  ·have h:=h.1 hb1
   refine sD kk [.b true,.b true,.b true,.b true,.b false,.b false,.b false,.b false,.b false,.b true] [4,7,10,11] [(13,vB true)] (obC (gtt hb0) (obC (gtt hb0) (obC (gtt hb0) (obC hb0 (obC (gff hb1) (obC (gff hb1) (obC (gff hb1) (obC (gff hb1) (obC (gff hb1) (obC hb1 obN)))))))))) ?_
   refine tD ?_
   obtain ⟨he0,he1,he2⟩:=h
   subst res fin fin_1
   exact (endD [] (vB true) [av_rx_pattern v,vi v_1]).1
  ·have h:=h.2 hb1
   obtain ⟨r0,hc2,h⟩:=h
   refine sD kk [.b true,.b true,.b true,.b true,.b true,.b true,.b true,.b true,.c (vB r0) [],.b true,.b false] [4,7,10,11] [(13,vB (!r0))] (obC (gtt hb0) (obC (gtt hb0) (obC (gtt hb0) (obC hb0 (obC (gft hb1) (obC (gft hb1) (obC (gft hb1) (obC (gft hb1) (obC hc2 (obC (gft hb1) (obC hb1 obN))))))))))) ?_
   refine tD ?_
   obtain ⟨he0,he1,he2⟩:=h
   subst res fin fin_1
   exact (endD [] (vB (!r0)) [av_rx_pattern v,vi v_1]).1
 ·have h:=h.2 hb0
  obtain ⟨r0_1,hc3,h⟩:=h
  refine sD kk [.b false,.b false,.b false,.b false,.b true,.b true,.b true,.b true,.c (vB r0_1) [],.b true,.b false] [4,7,10,11] [(13,vB (!r0_1))] (obC (gtf hb0) (obC (gtf hb0) (obC (gtf hb0) (obC hb0 (obC (rfl:true=true) (obC (rfl:true=true) (obC (rfl:true=true) (obC (rfl:true=true) (obC hc3 (obC (rfl:true=true) (obC (rfl:false=false) obN))))))))))) ?_
  refine tD ?_
  obtain ⟨he0,he1,he2⟩:=h
  subst res fin fin_1
  exact (endD [] (vB (!r0_1)) [av_rx_pattern v,vi v_1]).1
set_option maxHeartbeats 1000000 in
theorem W_slices_IndexFunc__api_Rx_api_Rx_at_rx_pattern_right_L1 (s0:(List api_Rx)) (cap:rx_pattern) (cap_1:Int) (res:Int) (fin:rx_pattern) (fin_1:Int)
 (h:(∃ (Inv9:Int→Int→Int→Int→Int→Int→Int→List api_Rx→Int→Int→Prop) (mu10:Int→Int→Int→Int→Int→Int→Int→List api_Rx→Int→Int→Nat),Inv9 (rx_pattern.Kind cap) (arr4_uint64.e0 (rx_pattern.Set cap)) (arr4_uint64.e1 (rx_pattern.Set cap)) (arr4_uint64.e2 (rx_pattern.Set cap)) (arr4_uint64.e3 (rx_pattern.Set cap)) (rx_pattern.Lo cap) (rx_pattern.Hi cap) (rx_pattern.Kids cap) cap_1 0∧(∀ (o0_Kind:Int) (o0_Set_e0:Int) (o0_Set_e1:Int) (o0_Set_e2:Int) (o0_Set_e3:Int) (o0_Lo:Int) (o0_Hi:Int) (o0_Kids:List api_Rx) (o1:Int) (t8:Int),Inv9 o0_Kind o0_Set_e0 o0_Set_e1 o0_Set_e2 o0_Set_e3 o0_Lo o0_Hi o0_Kids o1 t8→(((decide (t8 < (↑(List.length s0):Int)))=true→((0:Int)≤t8)∧t8 < ↑(List.length s0)∧(∃ r0_2:Bool,∃ o_4:rx_pattern,∃ o_5:Int,C_rx_pattern_right_L1 (gd s0 t8) ({ Kind:=o0_Kind,Set:={ e0:=o0_Set_e0,e1:=o0_Set_e1,e2:=o0_Set_e2,e3:=o0_Set_e3 },Lo:=o0_Lo,Hi:=o0_Hi,Kids:=o0_Kids }) o1 r0_2 o_4 o_5∧(((r0_2)=true→(res=t8∧fin=o_4∧fin_1=o_5))∧((r0_2)=false→(Inv9 (rx_pattern.Kind o_4) (arr4_uint64.e0 (rx_pattern.Set o_4)) (arr4_uint64.e1 (rx_pattern.Set o_4)) (arr4_uint64.e2 (rx_pattern.Set o_4)) (arr4_uint64.e3 (rx_pattern.Set o_4)) (rx_pattern.Lo o_4) (rx_pattern.Hi o_4) (rx_pattern.Kids o_4) o_5 (w64 (t8+1))∧mu10 (rx_pattern.Kind o_4) (arr4_uint64.e0 (rx_pattern.Set o_4)) (arr4_uint64.e1 (rx_pattern.Set o_4)) (arr4_uint64.e2 (rx_pattern.Set o_4)) (arr4_uint64.e3 (rx_pattern.Set o_4)) (rx_pattern.Lo o_4) (rx_pattern.Hi o_4) (rx_pattern.Kids o_4) o_5 (w64 (t8+1)) < mu10 o0_Kind o0_Set_e0 o0_Set_e1 o0_Set_e2 o0_Set_e3 o0_Lo o0_Hi o0_Kids o1 t8)))))∧((decide (t8 < (↑(List.length s0):Int)))=false→(res=(-1)∧fin=({ Kind:=o0_Kind,Set:={ e0:=o0_Set_e0,e1:=o0_Set_e1,e2:=o0_Set_e2,e3:=o0_Set_e3 },Lo:=o0_Lo,Hi:=o0_Hi,Kids:=o0_Kids })∧fin_1=o1)))))):C_slices_IndexFunc__api_Rx_api_Rx_at_rx_pattern_right_L1 s0 cap cap_1 res fin fin_1:=by
 unfold C_slices_IndexFunc__api_Rx_api_Rx_at_rx_pattern_right_L1
 have kk:=cfOk [17] 19
 refine fD (x:=bodyOf Try.f111) kk Try.func111 ?_
 refine wkS [1,3,4,6] [(1,vL enc_api_Rx s0),(3,av_rx_pattern cap),(4,.clo 88 [.ptr 3 0,.ptr 6 0]),(6,vi cap_1)] (by kernel_rfl) ?_
 refine sD kk [] [] [] obN ?_
 refine qD ?_
 refine sDE kk [] [] [(22,vi ((↑(List.length (List.map enc_api_Rx s0)):Int))),(25,vi 0)] [(22,vi ((↑(List.length s0):Int))),(25,vi 0)] obN ?_
 refine bD (id:=0) ?_
 obtain ⟨Inv9,mu10,h0Inv9,hInv9⟩:=h
 refine loD (fun (q:Int×Int×Int×Int×Int×Int×Int×List api_Rx×Int×Int)=>(fun (o0_Kind:Int) (o0_Set_e0:Int) (o0_Set_e1:Int) (o0_Set_e2:Int) (o0_Set_e3:Int) (o0_Lo:Int) (o0_Hi:Int) (o0_Kids:List api_Rx) (o1:Int) (t8:Int)=>([(1,vL enc_api_Rx s0),(3,.agg [vi o0_Kind,vI .u64 o0_Set_e0,vI .u64 o0_Set_e1,vI .u64 o0_Set_e2,vI .u64 o0_Set_e3,vi o0_Lo,vi o0_Hi,vL enc_api_Rx o0_Kids]),(4,.clo 88 [.ptr 3 0,.ptr 6 0]),(6,vi o1),(22,vi ((↑(List.length s0):Int))),(25,vi t8)]:Sta)) q.1 q.2.1 q.2.2.1 q.2.2.2.1 q.2.2.2.2.1 q.2.2.2.2.2.1 q.2.2.2.2.2.2.1 q.2.2.2.2.2.2.2.1 q.2.2.2.2.2.2.2.2.1 q.2.2.2.2.2.2.2.2.2) (fun (q:Int×Int×Int×Int×Int×Int×Int×List api_Rx×Int×Int)=>Inv9 q.1 q.2.1 q.2.2.1 q.2.2.2.1 q.2.2.2.2.1 q.2.2.2.2.2.1 q.2.2.2.2.2.2.1 q.2.2.2.2.2.2.2.1 q.2.2.2.2.2.2.2.2.1 q.2.2.2.2.2.2.2.2.2) (fun (q:Int×Int×Int×Int×Int×Int×Int×List api_Rx×Int×Int)=>mu10 q.1 q.2.1 q.2.2.1 q.2.2.2.1 q.2.2.2.2.1 q.2.2.2.2.2.1 q.2.2.2.2.2.2.1 q.2.2.2.2.2.2.2.1 q.2.2.2.2.2.2.2.2.1 q.2.2.2.2.2.2.2.2.2) ((rx_pattern.Kind cap),(arr4_uint64.e0 (rx_pattern.Set cap)),(arr4_uint64.e1 (rx_pattern.Set cap)),(arr4_uint64.e2 (rx_pattern.Set cap)),(arr4_uint64.e3 (rx_pattern.Set cap)),(rx_pattern.Lo cap),(rx_pattern.Hi cap),(rx_pattern.Kids cap),cap_1,0) [] h0Inv9 ?_
 rintro ⟨o0_Kind,o0_Set_e0,o0_Set_e1,o0_Set_e2,o0_Set_e3,o0_Lo,o0_Hi,o0_Kids,o1,t8⟩ hi
 have h:=hInv9 o0_Kind o0_Set_e0 o0_Set_e1 o0_Set_e2 o0_Set_e3 o0_Lo o0_Hi o0_Kids o1 t8 hi
 refine sD kk [] [] [(28,vB (decide (t8 < (↑(List.length s0):Int))))] obN ?_
 refine qD ?_
 refine cD (t:=9) (b:=decide (t8 < (↑(List.length s0):Int))) (fun hb11=>?_) (fun hb11=>?_)
 ·have h:=h.1 hb11
  refine Sem.skip' (by kernel_rfl) Wk.refl ?_
  show Sem _ _ _ _ _
  refine wkD [28] ?_
  refine qD ?_
  refine bD (id:=1) ?_
  refine sD kk [] [] [(16,vi t8)] obN ?_
  obtain ⟨h12,h⟩:=h
  obtain ⟨h13,h⟩:=h
  obtain ⟨r0_2,o_4,o_5,hc14,h⟩:=h
  refine sD kk [.e (fv_api_Rx (gd s0 t8)),.c (vB r0_2) [av_rx_pattern o_4,vi o_5]] [] [(3,av_rx_pattern o_4),(6,vi o_5),(49,vB r0_2)] (obC h12 (obC (idx_ok enc_api_Rx s0 t8 _ (enc_api_Rx_eq _) h12 h13) (obC hc14 obN))) ?_
  refine cD (t:=16) (b:=r0_2) (fun hb15=>?_) (fun hb15=>?_)
  ·have h:=h.1 hb15
   refine sD kk [] [1,4,16,22,25,49] [(13,vi t8)] obN ?_
   refine tD ?_
   obtain ⟨he0,he1,he2⟩:=h
   subst res fin fin_1
   exact (endD [] (vi t8) [av_rx_pattern o_4,vi o_5]).1
  ·have h:=h.2 hb15
   refine Sem.skip' (by kernel_rfl) Wk.refl ?_
   show Sem _ _ _ _ _
   refine wkD [16,49] ?_
   refine rD kk [] [] [(25,vi (w64 (t8+1)))] obN ?_
   exact lD ((rx_pattern.Kind o_4),(arr4_uint64.e0 (rx_pattern.Set o_4)),(arr4_uint64.e1 (rx_pattern.Set o_4)),(arr4_uint64.e2 (rx_pattern.Set o_4)),(arr4_uint64.e3 (rx_pattern.Set o_4)),(rx_pattern.Lo o_4),(rx_pattern.Hi o_4),(rx_pattern.Kids o_4),o_5,(w64 (t8+1))) [] h
 ·have h:=h.2 hb11
  refine xD (i:=0) ?_
  show Sem _ _ _ _ _
  refine wkD [1,4,22,25,28] ?_
  refine sD kk [] [] [(13,vi (-1))] obN ?_
  refine tD ?_
  obtain ⟨he0,he1,he2⟩:=h
  subst res fin fin_1
  exact (endD [] (vi (-1)) [.agg [vi o0_Kind,vI .u64 o0_Set_e0,vI .u64 o0_Set_e1,vI .u64 o0_Set_e2,vI .u64 o0_Set_e3,vi o0_Lo,vi o0_Hi,vL enc_api_Rx o0_Kids],vi o1]).1
set_option maxHeartbeats 1000000 in
theorem W_slices_ContainsFunc__api_Rx_api_Rx_at_rx_pattern_right_L1 (s0:(List api_Rx)) (cap:rx_pattern) (cap_1:Int) (res:Bool) (fin:rx_pattern) (fin_1:Int)
 (h:(∃ r0:Int,∃ o:rx_pattern,∃ o_1:Int,C_slices_IndexFunc__api_Rx_api_Rx_at_rx_pattern_right_L1 s0 cap cap_1 r0 o o_1∧(res=(decide (r0≥(0:Int)))∧fin=o∧fin_1=o_1))):C_slices_ContainsFunc__api_Rx_api_Rx_at_rx_pattern_right_L1 s0 cap cap_1 res fin fin_1:=by
 unfold C_slices_ContainsFunc__api_Rx_api_Rx_at_rx_pattern_right_L1
 have kk:=cfOk [] 9
 refine fD (x:=bodyOf Try.f90) kk Try.func90 ?_
 refine wkS [1,3,4,6] [(1,vL enc_api_Rx s0),(3,av_rx_pattern cap),(4,.clo 88 [.ptr 3 0,.ptr 6 0]),(6,vi cap_1)] (by kernel_rfl) ?_
 refine sD kk [] [] [] obN ?_
 obtain ⟨r0,o,o_1,hc0,h⟩:=h
 refine sD kk [.c (vi r0) [av_rx_pattern o,vi o_1]] [1,4] [(3,av_rx_pattern o),(6,vi o_1),(13,vB (decide (r0≥(0:Int))))] (obC hc0 obN) ?_
 refine tD ?_
 obtain ⟨he0,he1,he2⟩:=h
 subst res fin fin_1
 exact (endD [] (vB (decide (r0≥(0:Int)))) [av_rx_pattern o,vi o_1]).1
set_option maxHeartbeats 1000000 in
theorem W_rx_pattern_right (x:rx_pattern) (deep:Int) (res:Bool)
 (h:(((decide (deep > (0:Int)))=true→(∃ r0:Bool,C_rx_pattern_own x r0∧(((r0)=true→(∃ r0_1:Bool,∃ o:rx_pattern,∃ o_1:Int,C_slices_ContainsFunc__api_Rx_api_Rx_at_rx_pattern_right_L1 (rx_pattern.Kids x) x deep r0_1 o o_1∧(res=(!r0_1))))∧((r0)=false→(res=false)))))∧((decide (deep > (0:Int)))=false→(res=false)))):C_rx_pattern_right x deep res:=by
 unfold C_rx_pattern_right
 have kk:=cfOk [] 20
 refine fD (x:=bodyOf Try.f57) kk Try.func57 ?_
 refine wkS [1,4] [(1,av_rx_pattern x),(4,vi deep)] (by kernel_rfl) ?_
 refine sD kk [] [1,4] [(7,.ptr 8 0),(8,av_rx_pattern x),(10,.ptr 11 0),(11,vi deep)] obN ?_
 refine sD kk [] [] [(16,.clo 88 [.ptr 8 0,.ptr 11 0])] obN ?_
 rcases Bool.eq_false_or_eq_true (decide (deep > (0:Int))) with hb0 | hb0
 ·have h:=h.1 hb0
  obtain ⟨r0,hc1,h⟩:=h
  rcases Bool.eq_false_or_eq_true (r0) with hb2 | hb2
  ·have h:=h.1 hb2
   obtain ⟨r0_1,o,o_1,hc3,h⟩:=h
   refine sD kk [.b true,.b true,.c (vB r0) [],.b true,.b true,.b true,.b true,.b true,.c (vB r0_1) [av_rx_pattern o,vi o_1],.b true,.b true] [7,8,10,11,16] [(13,vB (!r0_1))] (obC (gtt hb0) (obC (gtt hb0) (obC hc1 (obC hb0 (obC (gtt hb2) (obC (gtt hb2) (obC (gtt hb2) (obC (gtt hb2) (obC hc3 (obC (gtt hb2) (obC hb2 obN))))))))))) ?_
   refine tD ?_
   obtain he0:=h
   subst res
   exact (endD [] (vB (!r0_1)) []).1
  ·have h:=h.2 hb2
   refine sD kk [.b true,.b true,.c (vB r0) [],.b true,.b false,.b false,.b false,.b false,.b false,.b false] [7,8,10,11,16] [(13,vB false)] (obC (gtt hb0) (obC (gtt hb0) (obC hc1 (obC hb0 (obC (gtf hb2) (obC (gtf hb2) (obC (gtf hb2) (obC (gtf hb2) (obC (gtf hb2) (obC hb2 obN)))))))))) ?_
   refine tD ?_
   obtain he0:=h
   subst res
   exact (endD [] (vB false) []).1
 ·have h:=h.2 hb0
  refine sD kk [.b false,.b false,.b false,.b false,.b false,.b false,.b false,.b false,.b false] [7,8,10,11,16] [(13,vB false)] (obC (gtf hb0) (obC (gtf hb0) (obC hb0 (obC (rfl:false=false) (obC (rfl:false=false) (obC (rfl:false=false) (obC (rfl:false=false) (obC (rfl:false=false) (obC (rfl:false=false) obN))))))))) ?_
  refine tD ?_
  obtain he0:=h
  subst res
  exact (endD [] (vB false) []).1
set_option maxHeartbeats 1000000 in
theorem W_rx_Size (x:api_Rx) (res:Int)
 (h:(((api_Rx.Kind x == (2:Int))=true→(res=1))∧((api_Rx.Kind x == (2:Int))=false→(((decide (api_Rx.Kind x < (3:Int)) || decide (api_Rx.Kind x > (5:Int)))=true→(res=0))∧((decide (api_Rx.Kind x < (3:Int)) || decide (api_Rx.Kind x > (5:Int)))=false→(∃ (Inv10:Int→Int→Prop) (mu11:Int→Int→Nat),Inv10 0 0∧(∀ (n:Int) (t19:Int),Inv10 n t19→(((decide (t19 < (↑(List.length (api_Rx.Kids x)):Int)))=true→((0:Int)≤t19)∧t19 < ↑(List.length (api_Rx.Kids x))∧(∃ r0_2:Int,C_rx_Size (gd (api_Rx.Kids x) t19) r0_2∧(Inv10 (if false=true then if (1000000:Int) > w64 (n+r0_2) then (1000000:Int) else w64 (n+r0_2) else if (1000000:Int) < w64 (n+r0_2) then (1000000:Int) else w64 (n+r0_2)) (w64 (t19+1))∧mu11 (if false=true then if (1000000:Int) > w64 (n+r0_2) then (1000000:Int) else w64 (n+r0_2) else if (1000000:Int) < w64 (n+r0_2) then (1000000:Int) else w64 (n+r0_2)) (w64 (t19+1)) < mu11 n t19)))∧((decide (t19 < (↑(List.length (api_Rx.Kids x)):Int)))=false→(∃ J17:Int→Prop,(∀ (n_1:Int),J17 n_1→(res=(if false=true then if (1000000:Int) > n_1 then (1000000:Int) else n_1 else if (1000000:Int) < n_1 then (1000000:Int) else n_1)))∧(((api_Rx.Kind x == (5:Int))=true→J17 (w64 (n * if (if false=true then if (if api_Rx.Hi x > api_Rx.Lo x then api_Rx.Hi x else api_Rx.Lo x) > (1000:Int) then if api_Rx.Hi x > api_Rx.Lo x then api_Rx.Hi x else api_Rx.Lo x else (1000:Int) else if (if api_Rx.Hi x > api_Rx.Lo x then api_Rx.Hi x else api_Rx.Lo x) < (1000:Int) then if api_Rx.Hi x > api_Rx.Lo x then api_Rx.Hi x else api_Rx.Lo x else (1000:Int)) > (1:Int) then if false=true then if (if api_Rx.Hi x > api_Rx.Lo x then api_Rx.Hi x else api_Rx.Lo x) > (1000:Int) then if api_Rx.Hi x > api_Rx.Lo x then api_Rx.Hi x else api_Rx.Lo x else (1000:Int) else if (if api_Rx.Hi x > api_Rx.Lo x then api_Rx.Hi x else api_Rx.Lo x) < (1000:Int) then if api_Rx.Hi x > api_Rx.Lo x then api_Rx.Hi x else api_Rx.Lo x else (1000:Int) else (1:Int))))∧((api_Rx.Kind x == (5:Int))=false→J17 n)))))))))))):C_rx_Size x res:=by
 unfold C_rx_Size
 have kk:=cfOk [] 43
 refine fD (x:=bodyOf Try.f58) kk Try.func58 ?_
 refine wkS [1] [(1,av_api_Rx x)] (by kernel_rfl) ?_
 refine sD kk [] [1] [(4,.ptr 5 0),(5,av_api_Rx x),(7,vi 0)] obN ?_
 refine qD ?_
 refine sD kk [] [] [(22,vB (api_Rx.Kind x == (2:Int)))] obN ?_
 refine cD (t:=7) (b:=api_Rx.Kind x == (2:Int)) (fun hb0=>?_) (fun hb0=>?_)
 ·have h:=h.1 hb0
  refine sD kk [] [4,5,22] [(7,vi 1)] obN ?_
  refine tD ?_
  obtain he0:=h
  subst res
  exact (endD [] (vi 1) []).1
 ·have h:=h.2 hb0
  refine Sem.skip' (by kernel_rfl) Wk.refl ?_
  show Sem _ _ _ _ _
  refine wkD [22] ?_
  refine qD ?_
  refine sM [] [(46,vB (decide (api_Rx.Kind x < (3:Int)) || decide (api_Rx.Kind x > (5:Int))))] ?_ (fun hk0=>?_)
  ·refine cD (t:=15) (b:=decide (api_Rx.Kind x < (3:Int)) || decide (api_Rx.Kind x > (5:Int))) (fun hb2=>?_) (fun hb2=>?_)
   ·have h:=h.1 hb2
    refine sD kk [] [4,5,46] [] obN ?_
    refine tD ?_
    obtain he0:=h
    subst res
    exact (endD [] (vi 0) []).1
   ·have h:=h.2 hb2
    refine Sem.skip' (by kernel_rfl) Wk.refl ?_
    show Sem _ _ _ _ _
    refine wkD [46] ?_
    refine qD ?_
    refine sDE kk [] [] [(52,vL enc_api_Rx (api_Rx.Kids x)),(55,vi ((↑(List.length (List.map enc_api_Rx (api_Rx.Kids x))):Int))),(58,vi 0)] [(52,vL enc_api_Rx (api_Rx.Kids x)),(55,vi ((↑(List.length (api_Rx.Kids x)):Int))),(58,vi 0)] obN ?_
    refine bD (id:=0) ?_
    obtain ⟨Inv10,mu11,h0Inv10,hInv10⟩:=h
    refine loD (fun (q:Int×Int)=>(fun (n:Int) (t19:Int)=>([(4,.ptr 5 0),(5,av_api_Rx x),(7,vi n),(52,vL enc_api_Rx (api_Rx.Kids x)),(55,vi ((↑(List.length (api_Rx.Kids x)):Int))),(58,vi t19)]:Sta)) q.1 q.2) (fun (q:Int×Int)=>Inv10 q.1 q.2) (fun (q:Int×Int)=>mu11 q.1 q.2) (0,0) [] h0Inv10 ?_
    rintro ⟨n,t19⟩ hi
    have h:=hInv10 n t19 hi
    refine sD kk [] [] [(61,vB (decide (t19 < (↑(List.length (api_Rx.Kids x)):Int))))] obN ?_
    refine qD ?_
    refine cD (t:=20) (b:=decide (t19 < (↑(List.length (api_Rx.Kids x)):Int))) (fun hb12=>?_) (fun hb12=>?_)
    ·have h:=h.1 hb12
     refine Sem.skip' (by kernel_rfl) Wk.refl ?_
     show Sem _ _ _ _ _
     refine wkD [61] ?_
     refine qD ?_
     refine bD (id:=1) ?_
     obtain ⟨h13,h⟩:=h
     obtain ⟨h14,h⟩:=h
     refine sD kk [.e (fv_api_Rx (gd (api_Rx.Kids x) t19))] [] [(13,.ptr 14 0),(14,av_api_Rx (gd (api_Rx.Kids x) t19))] (obC h13 (obC (idx_ok enc_api_Rx (api_Rx.Kids x) t19 _ (enc_api_Rx_eq _) h13 h14) obN)) ?_
     obtain ⟨r0_2,hc15,h⟩:=h
     refine rD kk [.c (vi r0_2) []] [13,14] [(7,vi (if false=true then if (1000000:Int) > w64 (n+r0_2) then (1000000:Int) else w64 (n+r0_2) else if (1000000:Int) < w64 (n+r0_2) then (1000000:Int) else w64 (n+r0_2)))] (obC hc15 obN) ?_
     show Sem _ _ _ _ _
     refine rD kk [] [] [(58,vi (w64 (t19+1)))] obN ?_
     exact lD ((if false=true then if (1000000:Int) > w64 (n+r0_2) then (1000000:Int) else w64 (n+r0_2) else if (1000000:Int) < w64 (n+r0_2) then (1000000:Int) else w64 (n+r0_2)),(w64 (t19+1))) [] h
    ·have h:=h.2 hb12
     refine xD (i:=0) ?_
     show Sem _ _ _ _ _
     refine wkD [52,55,58,61] ?_
     obtain ⟨J17,hJ17,h⟩:=h
     refine sjD (fun (q:Int)=>J17 q) (fun (q:Int)=>(fun (n_1:Int)=>([(7,vi n_1)]:Sta)) q) ?_ ?_
     ·rintro n_1 hj
      have h:=hJ17 n_1 hj
      refine sD kk [] [] [(7,vi (if false=true then if (1000000:Int) > n_1 then (1000000:Int) else n_1 else if (1000000:Int) < n_1 then (1000000:Int) else n_1))] obN ?_
      refine tD ?_
      obtain he0:=h
      subst res
      exact (endD [] (vi (if false=true then if (1000000:Int) > n_1 then (1000000:Int) else n_1 else if (1000000:Int) < n_1 then (1000000:Int) else n_1)) []).1
     ·refine sD kk [] [] [(94,vB (api_Rx.Kind x == (5:Int)))] obN ?_
      refine cD (t:=31) (b:=api_Rx.Kind x == (5:Int)) (fun hb18=>?_) (fun hb18=>?_)
      ·have h:=h.1 hb18
       refine rDE kk [] [4,5,94] [(7,vi (w64 (n * if true=true then if (if false=true then if (if true=true then if api_Rx.Hi x > api_Rx.Lo x then api_Rx.Hi x else api_Rx.Lo x else if api_Rx.Hi x < api_Rx.Lo x then api_Rx.Hi x else api_Rx.Lo x) > (1000:Int) then if true=true then if api_Rx.Hi x > api_Rx.Lo x then api_Rx.Hi x else api_Rx.Lo x else if api_Rx.Hi x < api_Rx.Lo x then api_Rx.Hi x else api_Rx.Lo x else (1000:Int) else if (if true=true then if api_Rx.Hi x > api_Rx.Lo x then api_Rx.Hi x else api_Rx.Lo x else if api_Rx.Hi x < api_Rx.Lo x then api_Rx.Hi x else api_Rx.Lo x) < (1000:Int) then if true=true then if api_Rx.Hi x > api_Rx.Lo x then api_Rx.Hi x else api_Rx.Lo x else if api_Rx.Hi x < api_Rx.Lo x then api_Rx.Hi x else api_Rx.Lo x else (1000:Int)) > (1:Int) then if false=true then if (if true=true then if api_Rx.Hi x > api_Rx.Lo x then api_Rx.Hi x else api_Rx.Lo x else if api_Rx.Hi x < api_Rx.Lo x then api_Rx.Hi x else api_Rx.Lo x) > (1000:Int) then if true=true then if api_Rx.Hi x > api_Rx.Lo x then api_Rx.Hi x else api_Rx.Lo x else if api_Rx.Hi x < api_Rx.Lo x then api_Rx.Hi x else api_Rx.Lo x else (1000:Int) else if (if true=true then if api_Rx.Hi x > api_Rx.Lo x then api_Rx.Hi x else api_Rx.Lo x else if api_Rx.Hi x < api_Rx.Lo x then api_Rx.Hi x else api_Rx.Lo x) < (1000:Int) then if true=true then if api_Rx.Hi x > api_Rx.Lo x then api_Rx.Hi x else api_Rx.Lo x else if api_Rx.Hi x < api_Rx.Lo x then api_Rx.Hi x else api_Rx.Lo x else (1000:Int) else (1:Int) else if (if false=true then if (if true=true then if api_Rx.Hi x > api_Rx.Lo x then api_Rx.Hi x else api_Rx.Lo x else if api_Rx.Hi x < api_Rx.Lo x then api_Rx.Hi x else api_Rx.Lo x) > (1000:Int) then if true=true then if api_Rx.Hi x > api_Rx.Lo x then api_Rx.Hi x else api_Rx.Lo x else if api_Rx.Hi x < api_Rx.Lo x then api_Rx.Hi x else api_Rx.Lo x else (1000:Int) else if (if true=true then if api_Rx.Hi x > api_Rx.Lo x then api_Rx.Hi x else api_Rx.Lo x else if api_Rx.Hi x < api_Rx.Lo x then api_Rx.Hi x else api_Rx.Lo x) < (1000:Int) then if true=true then if api_Rx.Hi x > api_Rx.Lo x then api_Rx.Hi x else api_Rx.Lo x else if api_Rx.Hi x < api_Rx.Lo x then api_Rx.Hi x else api_Rx.Lo x else (1000:Int)) < (1:Int) then if false=true then if (if true=true then if api_Rx.Hi x > api_Rx.Lo x then api_Rx.Hi x else api_Rx.Lo x else if api_Rx.Hi x < api_Rx.Lo x then api_Rx.Hi x else api_Rx.Lo x) > (1000:Int) then if true=true then if api_Rx.Hi x > api_Rx.Lo x then api_Rx.Hi x else api_Rx.Lo x else if api_Rx.Hi x < api_Rx.Lo x then api_Rx.Hi x else api_Rx.Lo x else (1000:Int) else if (if true=true then if api_Rx.Hi x > api_Rx.Lo x then api_Rx.Hi x else api_Rx.Lo x else if api_Rx.Hi x < api_Rx.Lo x then api_Rx.Hi x else api_Rx.Lo x) < (1000:Int) then if true=true then if api_Rx.Hi x > api_Rx.Lo x then api_Rx.Hi x else api_Rx.Lo x else if api_Rx.Hi x < api_Rx.Lo x then api_Rx.Hi x else api_Rx.Lo x else (1000:Int) else (1:Int))))] [(7,vi (w64 (n * if (if false=true then if (if api_Rx.Hi x > api_Rx.Lo x then api_Rx.Hi x else api_Rx.Lo x) > (1000:Int) then if api_Rx.Hi x > api_Rx.Lo x then api_Rx.Hi x else api_Rx.Lo x else (1000:Int) else if (if api_Rx.Hi x > api_Rx.Lo x then api_Rx.Hi x else api_Rx.Lo x) < (1000:Int) then if api_Rx.Hi x > api_Rx.Lo x then api_Rx.Hi x else api_Rx.Lo x else (1000:Int)) > (1:Int) then if false=true then if (if api_Rx.Hi x > api_Rx.Lo x then api_Rx.Hi x else api_Rx.Lo x) > (1000:Int) then if api_Rx.Hi x > api_Rx.Lo x then api_Rx.Hi x else api_Rx.Lo x else (1000:Int) else if (if api_Rx.Hi x > api_Rx.Lo x then api_Rx.Hi x else api_Rx.Lo x) < (1000:Int) then if api_Rx.Hi x > api_Rx.Lo x then api_Rx.Hi x else api_Rx.Lo x else (1000:Int) else (1:Int))))] obN ?_
       exact jD (w64 (n * if (if false=true then if (if api_Rx.Hi x > api_Rx.Lo x then api_Rx.Hi x else api_Rx.Lo x) > (1000:Int) then if api_Rx.Hi x > api_Rx.Lo x then api_Rx.Hi x else api_Rx.Lo x else (1000:Int) else if (if api_Rx.Hi x > api_Rx.Lo x then api_Rx.Hi x else api_Rx.Lo x) < (1000:Int) then if api_Rx.Hi x > api_Rx.Lo x then api_Rx.Hi x else api_Rx.Lo x else (1000:Int)) > (1:Int) then if false=true then if (if api_Rx.Hi x > api_Rx.Lo x then api_Rx.Hi x else api_Rx.Lo x) > (1000:Int) then if api_Rx.Hi x > api_Rx.Lo x then api_Rx.Hi x else api_Rx.Lo x else (1000:Int) else if (if api_Rx.Hi x > api_Rx.Lo x then api_Rx.Hi x else api_Rx.Lo x) < (1000:Int) then if api_Rx.Hi x > api_Rx.Lo x then api_Rx.Hi x else api_Rx.Lo x else (1000:Int) else (1:Int))) [] h
      ·have h:=h.2 hb18
       refine Sem.skip' (by kernel_rfl) Wk.refl ?_
       exact jD n [] h
  ·rcases Bool.eq_false_or_eq_true (decide (api_Rx.Kind x < (3:Int))) with hb1 | hb1
   ·refine sD kk [.b false,.b false,.b false,.b true] [] [(46,vB true)] (obC (gff hb1) (obC (gff hb1) (obC (gff hb1) (obC hb1 obN)))) ?_
    exact Sem.cast (by try rw [hb1];kernel_rfl) hk0
   ·refine sD kk [.b true,.b true,.b true,.b false] [] [(46,vB (decide (api_Rx.Kind x > (5:Int))))] (obC (gft hb1) (obC (gft hb1) (obC (gft hb1) (obC hb1 obN)))) ?_
    exact Sem.cast (by try rw [hb1];kernel_rfl) hk0
set_option maxHeartbeats 1000000 in
theorem W_rx_nodes (x:api_Rx) (most:Int) (res:Int)
 (h:(∃ (Inv18:Int→Int→Prop) (mu19:Int→Int→Nat),Inv18 (w64 (most - 1)) 0∧(∀ (most_2:Int) (t12:Int),Inv18 most_2 t12→(((decide (t12 < (↑(List.length (api_Rx.Kids x)):Int)))=true→(∃ J25:Int→Prop,(∀ (most_4:Int),J25 most_4→(Inv18 most_4 (w64 (t12+1))∧mu19 most_4 (w64 (t12+1)) < mu19 most_2 t12))∧((0:Int)≤t12)∧t12 < ↑(List.length (api_Rx.Kids x))∧(((decide (most_2≥(0:Int)))=true→(∃ r0_5:Int,C_rx_nodes (gd (api_Rx.Kids x) t12) most_2 r0_5∧J25 r0_5))∧((decide (most_2≥(0:Int)))=false→J25 most_2))))∧((decide (t12 < (↑(List.length (api_Rx.Kids x)):Int)))=false→(res=most_2)))))):C_rx_nodes x most res:=by
 unfold C_rx_nodes
 have kk:=cfOk [22] 23
 refine fD (x:=bodyOf Try.f59) kk Try.func59 ?_
 refine wkS [1,4] [(1,av_api_Rx x),(4,vi most)] (by kernel_rfl) ?_
 refine sD kk [] [1] [(7,.ptr 8 0),(8,av_api_Rx x)] obN ?_
 refine sD kk [] [] [(4,vi (w64 (most - 1)))] obN ?_
 refine qD ?_
 refine sDE kk [] [7,8] [(31,vL enc_api_Rx (api_Rx.Kids x)),(34,vi ((↑(List.length (List.map enc_api_Rx (api_Rx.Kids x))):Int))),(37,vi 0)] [(31,vL enc_api_Rx (api_Rx.Kids x)),(34,vi ((↑(List.length (api_Rx.Kids x)):Int))),(37,vi 0)] obN ?_
 refine bD (id:=0) ?_
 obtain ⟨Inv18,mu19,h0Inv18,hInv18⟩:=h
 refine loD (fun (q:Int×Int)=>(fun (most_2:Int) (t12:Int)=>([(4,vi most_2),(31,vL enc_api_Rx (api_Rx.Kids x)),(34,vi ((↑(List.length (api_Rx.Kids x)):Int))),(37,vi t12)]:Sta)) q.1 q.2) (fun (q:Int×Int)=>Inv18 q.1 q.2) (fun (q:Int×Int)=>mu19 q.1 q.2) ((w64 (most - 1)),0) [] h0Inv18 ?_
 rintro ⟨most_2,t12⟩ hi
 have h:=hInv18 most_2 t12 hi
 refine sD kk [] [] [(40,vB (decide (t12 < (↑(List.length (api_Rx.Kids x)):Int))))] obN ?_
 refine qD ?_
 refine cD (t:=13) (b:=decide (t12 < (↑(List.length (api_Rx.Kids x)):Int))) (fun hb20=>?_) (fun hb20=>?_)
 ·have h:=h.1 hb20
  refine Sem.skip' (by kernel_rfl) Wk.refl ?_
  show Sem _ _ _ _ _
  refine wkD [40] ?_
  obtain ⟨J25,hJ25,h⟩:=h
  refine sjD (fun (q:Int)=>J25 q) (fun (q:Int)=>(fun (most_4:Int)=>([(4,vi most_4),(31,vL enc_api_Rx (api_Rx.Kids x)),(34,vi ((↑(List.length (api_Rx.Kids x)):Int))),(37,vi t12)]:Sta)) q) ?_ ?_
  ·rintro most_4 hj
   have h:=hJ25 most_4 hj
   refine rD kk [] [] [(37,vi (w64 (t12+1)))] obN ?_
   exact lD (most_4,(w64 (t12+1))) [] h
  ·refine bD (id:=1) ?_
   obtain ⟨h26,h⟩:=h
   obtain ⟨h27,h⟩:=h
   refine sD kk [.e (fv_api_Rx (gd (api_Rx.Kids x) t12))] [] [(19,.ptr 20 0),(20,av_api_Rx (gd (api_Rx.Kids x) t12))] (obC h26 (obC (idx_ok enc_api_Rx (api_Rx.Kids x) t12 _ (enc_api_Rx_eq _) h26 h27) obN)) ?_
   refine sD kk [] [] [(52,vB (decide (most_2≥(0:Int))))] obN ?_
   refine cD (t:=17) (b:=decide (most_2≥(0:Int))) (fun hb28=>?_) (fun hb28=>?_)
   ·have h:=h.1 hb28
    obtain ⟨r0_5,hc29,h⟩:=h
    refine rD kk [.c (vi r0_5) []] [19,20,52] [(4,vi r0_5)] (obC hc29 obN) ?_
    exact jD r0_5 [] h
   ·have h:=h.2 hb28
    refine Sem.skip' (by kernel_rfl) Wk.refl ?_
    exact jD most_2 [] h
 ·have h:=h.2 hb20
  refine xD (i:=0) ?_
  show Sem _ _ _ _ _
  refine wkD [31,34,37,40] ?_
  refine sD kk [] [4] [(13,vi most_2)] obN ?_
  refine tD ?_
  obtain he0:=h
  subst res
  exact (endD [] (vi most_2) []).1
set_option maxHeartbeats 1000000 in
theorem W_rx_Right (x:api_Rx) (res:Bool)
 (h:(∃ r0:Bool,C_rx_pattern_right ({ Kind:=api_Rx.Kind x,Set:=api_Rx.Set x,Lo:=api_Rx.Lo x,Hi:=api_Rx.Hi x,Kids:=api_Rx.Kids x }) 20 r0∧(((r0)=true→(∃ r0_1:Int,C_rx_Size x r0_1∧(((decide (r0_1≤(200:Int)))=true→(∃ r0_2:Int,C_rx_nodes x ((1000:Int)) r0_2∧(res=(decide (r0_2≥(0:Int))))))∧((decide (r0_1≤(200:Int)))=false→(res=false)))))∧((r0)=false→(res=false))))):C_rx_Right x res:=by
 unfold C_rx_Right
 have kk:=cfOk [] 15
 refine fD (x:=bodyOf Try.f29) kk Try.func29 ?_
 refine wkS [1] [(1,av_api_Rx x)] (by kernel_rfl) ?_
 refine sD kk [] [1] [(4,.ptr 5 0),(5,av_api_Rx x)] obN ?_
 obtain ⟨r0,hc0,h⟩:=h
 rcases Bool.eq_false_or_eq_true (r0) with hb1 | hb1
 ·have h:=h.1 hb1
  obtain ⟨r0_1,hc2,h⟩:=h
  rcases Bool.eq_false_or_eq_true (decide (r0_1≤(200:Int))) with hb3 | hb3
  ·have h:=h.1 hb3
   obtain ⟨r0_2,hc4,h⟩:=h
   refine sD kk [.c (vB r0) [],.b true,.b true,.c (vi r0_1) [],.b true,.b true,.b true,.b true,.c (vi r0_2) [],.b true,.b true] [4,5] [(7,vB (decide (r0_2≥(0:Int))))] (obC hc0 (obC (gtt hb1) (obC (gtt hb1) (obC hc2 (obC (gtt hb1) (obC hb1 (obC (gtt hb3) (obC (gtt hb3) (obC hc4 (obC (gtt hb3) (obC hb3 obN))))))))))) ?_
   refine tD ?_
   obtain he0:=h
   subst res
   exact (endD [] (vB (decide (r0_2≥(0:Int)))) []).1
  ·have h:=h.2 hb3
   refine sD kk [.c (vB r0) [],.b true,.b true,.c (vi r0_1) [],.b true,.b true,.b false,.b false,.b false,.b false] [4,5] [(7,vB false)] (obC hc0 (obC (gtt hb1) (obC (gtt hb1) (obC hc2 (obC (gtt hb1) (obC hb1 (obC (gtf hb3) (obC (gtf hb3) (obC (gtf hb3) (obC hb3 obN)))))))))) ?_
   refine tD ?_
   obtain he0:=h
   subst res
   exact (endD [] (vB false) []).1
 ·have h:=h.2 hb1
  refine sD kk [.c (vB r0) [],.b false,.b false,.b false,.b false,.b false,.b false,.b false,.b false] [4,5] [(7,vB false)] (obC hc0 (obC (gtf hb1) (obC (gtf hb1) (obC (gtf hb1) (obC hb1 (obC (rfl:false=false) (obC (rfl:false=false) (obC (rfl:false=false) (obC (rfl:false=false) obN))))))))) ?_
  refine tD ?_
  obtain he0:=h
  subst res
  exact (endD [] (vB false) []).1
set_option maxHeartbeats 1000000 in
theorem W_place_builder_place (s0:arr4_uint64) (b:place_builder) (res:place_piece) (fin:place_builder)
 (h:((List.length (place_builder.sets b)+(1:Nat)) * (32:Nat)≤(2:Nat) ^ (47:Nat))∧((List.length (place_builder.follow b)+(1:Nat)) * (24:Nat)≤(2:Nat) ^ (47:Nat))∧(res=({ first:=[(↑(List.length (place_builder.sets b)):Int)],last:=[(↑(List.length (place_builder.sets b)):Int)],null:=false })∧fin=({ sets:=place_builder.sets b++[s0],follow:=place_builder.follow b++[[]] }))):C_place_builder_place s0 b res fin:=by
 unfold C_place_builder_place
 have kk:=cfOk [] 34
 refine fD (x:=bodyOf Try.f112) kk Try.func112 ?_
 refine wkS [1,3,4] [(1,.ptr 3 0),(3,ao_place_builder b),(4,av_arr4_uint64 s0)] (by kernel_rfl) ?_
 refine sDE kk [] [4] [(10,.ptr 11 0),(11,av_arr4_uint64 s0),(13,.ptr 14 0),(14,.agg [.own 3 ([]),.own 3 ([]),vB false])] [(10,.ptr 11 0),(11,av_arr4_uint64 s0),(13,.ptr 14 0),(14,.agg [oL 3 enc_i64 ([]),oL 3 enc_i64 ([]),vB false])] obN ?_
 refine sDE kk [] [] [(16,.own 3 ([FV.pv (Value.int IntKind.i64 (↑(List.length (List.map enc_arr4_uint64 (place_builder.sets b))):Int))]))] [(16,oL 3 enc_i64 ([(↑(List.length (place_builder.sets b)):Int)]))] obN ?_
 obtain ⟨h0,h⟩:=h
 obtain ⟨h1,h⟩:=h
 refine sDE kk [] [1,10,11] [(3,.agg [.own 33 (List.map enc_arr4_uint64 (place_builder.sets b)++List.take (List.length [FV.agg [FV.pv (Value.int IntKind.u64 (arr4_uint64.e0 s0)),FV.pv (Value.int IntKind.u64 (arr4_uint64.e1 s0)),FV.pv (Value.int IntKind.u64 (arr4_uint64.e2 s0)),FV.pv (Value.int IntKind.u64 (arr4_uint64.e3 s0))]]) (List.drop (0:Nat) [FV.agg [FV.pv (Value.int IntKind.u64 (arr4_uint64.e0 s0)),FV.pv (Value.int IntKind.u64 (arr4_uint64.e1 s0)),FV.pv (Value.int IntKind.u64 (arr4_uint64.e2 s0)),FV.pv (Value.int IntKind.u64 (arr4_uint64.e3 s0))]])),.own 30 (List.map encs_i64 (place_builder.follow b)++List.take (List.length [FV.sl []]) (List.drop (0:Nat) [FV.sl []]))])] [(3,.agg [oL 33 enc_arr4_uint64 (place_builder.sets b++[s0]),oL 30 encs_i64 (place_builder.follow b++[[]])])] (obC (show (0:Nat)=(0:Nat)∧List.length (List.map enc_arr4_uint64 (place_builder.sets b))=List.length (List.map enc_arr4_uint64 (place_builder.sets b)) from by first | decide | rfl | trivial | (simp only [nm]<;>first | decide | rfl | omega)) (obC (show (List.length (List.map enc_arr4_uint64 (place_builder.sets b))+List.length (List.take (1:Nat) (List.drop (0:Nat) [FV.agg [FV.pv (Value.int IntKind.u64 (arr4_uint64.e0 s0)),FV.pv (Value.int IntKind.u64 (arr4_uint64.e1 s0)),FV.pv (Value.int IntKind.u64 (arr4_uint64.e2 s0)),FV.pv (Value.int IntKind.u64 (arr4_uint64.e3 s0))]]))) * (32:Nat)≤(2:Nat) ^ (47:Nat) from by simpa only [nm] using h0) (obC (show List.all (List.take (1:Nat) (List.drop (0:Nat) [FV.agg [FV.pv (Value.int IntKind.u64 (arr4_uint64.e0 s0)),FV.pv (Value.int IntKind.u64 (arr4_uint64.e1 s0)),FV.pv (Value.int IntKind.u64 (arr4_uint64.e2 s0)),FV.pv (Value.int IntKind.u64 (arr4_uint64.e3 s0))]])) (FV.fits (4:Nat))=true from by first | exact fits_u64 _ | rfl | simp [isByteF,FV.fits,FV.size,FV.cells,FV.one,]) (obC (show (0:Nat)=(0:Nat)∧List.length (List.map encs_i64 (place_builder.follow b))=List.length (List.map encs_i64 (place_builder.follow b)) from by first | decide | rfl | trivial | (simp only [nm]<;>first | decide | rfl | omega)) (obC (show (List.length (List.map encs_i64 (place_builder.follow b))+List.length (List.take (1:Nat) (List.drop (0:Nat) [FV.sl []]))) * (24:Nat)≤(2:Nat) ^ (47:Nat) from by simpa only [nm] using h1) (obC (show List.all (List.take (1:Nat) (List.drop (0:Nat) [FV.sl []])) (FV.fits (1:Nat))=true from by first | decide | rfl | trivial | (simp only [nm]<;>first | decide | rfl | omega)) obN)))))) ?_
 refine sDE kk [] [16] [(14,.agg [.f (FV.sl (List.take (1:Nat) (List.drop (0:Nat) (List.map enc_i64 [(↑(List.length (place_builder.sets b)):Int)])))),.f (FV.sl (List.take (1:Nat) (List.drop (0:Nat) (List.map enc_i64 [(↑(List.length (place_builder.sets b)):Int)])))),vB false])] [(14,.agg [vL enc_i64 ([(↑(List.length (place_builder.sets b)):Int)]),vL enc_i64 ([(↑(List.length (place_builder.sets b)):Int)]),vB false])] obN ?_
 refine tD ?_
 obtain ⟨he0,he1⟩:=h
 subst res fin
 exact (endD [] (.agg [vL enc_i64 ([(↑(List.length (place_builder.sets b)):Int)]),vL enc_i64 ([(↑(List.length (place_builder.sets b)):Int)]),vB false]) [.agg [oL 33 enc_arr4_uint64 (place_builder.sets b++[s0]),oL 30 encs_i64 (place_builder.follow b++[[]])]]).1
set_option maxHeartbeats 1000000 in
theorem W_slices_Concat__int_int (slices:(List (List Int))) (res:(List Int))
 (h:(∃ (Inv14:Int→Int→Prop) (mu15:Int→Int→Nat),Inv14 0 0∧(∀ (size:Int) (t11:Int),Inv14 size t11→(((decide (t11 < (↑(List.length slices):Int)))=true→(∃ J20:Prop,(J20→(Inv14 (w64 (size+(↑(List.length (gd slices t11)):Int))) (w64 (t11+1))∧mu15 (w64 (size+(↑(List.length (gd slices t11)):Int))) (w64 (t11+1)) < mu15 size t11))∧((0:Int)≤t11)∧t11 < ↑(List.length slices)∧(((decide (w64 (size+(↑(List.length (gd slices t11)):Int)) < (0:Int)))=true→False)∧((decide (w64 (size+(↑(List.length (gd slices t11)):Int)) < (0:Int)))=false→J20))))∧((decide (t11 < (↑(List.length slices):Int)))=false→((0:Int)≤size∧size≤(2:Int) ^ (40:Nat))∧(∃ (Inv32:List Int→Int→Prop) (mu33:List Int→Int→Nat),Inv32 ([]) 0∧(∀ (newslice:List Int) (t27:Int),Inv32 newslice t27→(((decide (t27 < (↑(List.length slices):Int)))=true→((0:Int)≤t27)∧t27 < ↑(List.length slices)∧((List.length newslice+List.length (gd slices t27)) * (8:Nat)≤(2:Nat) ^ (47:Nat))∧(Inv32 (newslice++gd slices t27) (w64 (t27+1))∧mu33 (newslice++gd slices t27) (w64 (t27+1)) < mu33 newslice t27))∧((decide (t27 < (↑(List.length slices):Int)))=false→(res=newslice)))))))))):C_slices_Concat__int_int slices res:=by
 unfold C_slices_Concat__int_int
 have kk:=cfOk [35] 36
 refine fD (x:=bodyOf Try.f79) kk Try.func79 ?_
 refine wkS [1] [(1,vL encs_i64 slices)] (by kernel_rfl) ?_
 refine sD kk [] [] [] obN ?_
 refine sD kk [] [] [(10,vi 0)] obN ?_
 refine qD ?_
 refine sDE kk [] [] [(28,vL encs_i64 slices),(31,vi ((↑(List.length (List.map encs_i64 slices)):Int))),(34,vi 0)] [(28,vL encs_i64 slices),(31,vi ((↑(List.length slices):Int))),(34,vi 0)] obN ?_
 refine bD (id:=0) ?_
 obtain ⟨Inv14,mu15,h0Inv14,hInv14⟩:=h
 refine loD (fun (q:Int×Int)=>(fun (size:Int) (t11:Int)=>([(1,vL encs_i64 slices),(10,vi size),(28,vL encs_i64 slices),(31,vi ((↑(List.length slices):Int))),(34,vi t11)]:Sta)) q.1 q.2) (fun (q:Int×Int)=>Inv14 q.1 q.2) (fun (q:Int×Int)=>mu15 q.1 q.2) (0,0) [] h0Inv14 ?_
 rintro ⟨size,t11⟩ hi
 have h:=hInv14 size t11 hi
 refine sD kk [] [] [(37,vB (decide (t11 < (↑(List.length slices):Int))))] obN ?_
 refine qD ?_
 refine cD (t:=12) (b:=decide (t11 < (↑(List.length slices):Int))) (fun hb16=>?_) (fun hb16=>?_)
 ·have h:=h.1 hb16
  refine Sem.skip' (by kernel_rfl) Wk.refl ?_
  show Sem _ _ _ _ _
  refine wkD [37] ?_
  obtain ⟨J20,hJ20,h⟩:=h
  refine sjD (fun (_:Unit)=>J20) (fun (_:Unit)=>[(1,vL encs_i64 slices),(10,vi (w64 (size+(↑(List.length (gd slices t11)):Int)))),(28,vL encs_i64 slices),(31,vi ((↑(List.length slices):Int))),(34,vi t11)]) ?_ ?_
  ·rintro _ hj
   have h:=hJ20 hj
   refine rD kk [] [] [(34,vi (w64 (t11+1)))] obN ?_
   exact lD ((w64 (size+(↑(List.length (gd slices t11)):Int))),(w64 (t11+1))) [] h
  ·refine bD (id:=1) ?_
   obtain ⟨h21,h⟩:=h
   obtain ⟨h22,h⟩:=h
   refine sD kk [.e (fL enc_i64 (gd slices t11))] [] [(16,vL enc_i64 (gd slices t11))] (obC h21 (obC (idx_ok encs_i64 slices t11 _ rfl h21 h22) obN)) ?_
   refine sDE kk [] [16] [(10,vi (w64 (size+(↑(List.length (List.map enc_i64 (gd slices t11))):Int))))] [(10,vi (w64 (size+(↑(List.length (gd slices t11)):Int))))] obN ?_
   refine sD kk [] [] [(61,vB (decide (w64 (size+(↑(List.length (gd slices t11)):Int)) < (0:Int))))] obN ?_
   refine cD (t:=20) (b:=decide (w64 (size+(↑(List.length (gd slices t11)):Int)) < (0:Int))) (fun hb23=>?_) (fun hb23=>?_)
   ·have h:=h.1 hb23
    exact h.elim
   ·have h:=h.2 hb23
    refine Sem.skip' (by kernel_rfl) Wk.refl ?_
    exact jD () [] h
 ·have h:=h.2 hb16
  refine xD (i:=0) ?_
  show Sem _ _ _ _ _
  refine wkD [28,31,34,37] ?_
  obtain ⟨h24,h⟩:=h
  refine sDE kk [] [10] [(19,.own 3 ([]))] [(19,oL 3 enc_i64 ([]))] (obC h24 obN) ?_
  refine qD ?_
  refine sDE kk [] [1] [(76,vL encs_i64 slices),(79,vi ((↑(List.length (List.map encs_i64 slices)):Int))),(82,vi 0)] [(76,vL encs_i64 slices),(79,vi ((↑(List.length slices):Int))),(82,vi 0)] obN ?_
  refine bD (id:=2) ?_
  obtain ⟨Inv32,mu33,h0Inv32,hInv32⟩:=h
  refine loD (fun (q:List Int×Int)=>(fun (newslice:List Int) (t27:Int)=>([(19,oL 3 enc_i64 newslice),(76,vL encs_i64 slices),(79,vi ((↑(List.length slices):Int))),(82,vi t27)]:Sta)) q.1 q.2) (fun (q:List Int×Int)=>Inv32 q.1 q.2) (fun (q:List Int×Int)=>mu33 q.1 q.2) (([]),0) [] h0Inv32 ?_
  rintro ⟨newslice,t27⟩ hi
  have h:=hInv32 newslice t27 hi
  refine sD kk [] [] [(85,vB (decide (t27 < (↑(List.length slices):Int))))] obN ?_
  refine qD ?_
  refine cD (t:=28) (b:=decide (t27 < (↑(List.length slices):Int))) (fun hb34=>?_) (fun hb34=>?_)
  ·have h:=h.1 hb34
   refine Sem.skip' (by kernel_rfl) Wk.refl ?_
   show Sem _ _ _ _ _
   refine wkD [85] ?_
   refine qD ?_
   refine bD (id:=3) ?_
   obtain ⟨h35,h⟩:=h
   obtain ⟨h36,h⟩:=h
   refine sD kk [.e (fL enc_i64 (gd slices t27))] [] [(25,vL enc_i64 (gd slices t27))] (obC h35 (obC (idx_ok encs_i64 slices t27 _ rfl h35 h36) obN)) ?_
   obtain ⟨h37,h⟩:=h
   refine rDE kk [] [25] [(19,.own 3 (List.map enc_i64 newslice++List.map enc_i64 (gd slices t27)))] [(19,oL 3 enc_i64 (newslice++gd slices t27))] (obC (show (0:Nat)=(0:Nat)∧List.length (List.map enc_i64 newslice)=List.length (List.map enc_i64 newslice) from by first | decide | rfl | trivial | (simp only [nm]<;>first | decide | rfl | omega)) (obC (show (List.length (List.map enc_i64 newslice)+List.length (List.map enc_i64 (gd slices t27))) * (8:Nat)≤(2:Nat) ^ (47:Nat) from by simpa only [nm] using h37) (obC (show List.all (List.map enc_i64 (gd slices t27)) (FV.fits (1:Nat))=true from by first | exact fits_i64 _ | rfl | simp [isByteF,FV.fits,FV.size,FV.cells,FV.one,enc_i64]) obN))) ?_
   show Sem _ _ _ _ _
   refine rD kk [] [] [(82,vi (w64 (t27+1)))] obN ?_
   exact lD ((newslice++gd slices t27),(w64 (t27+1))) [] h
  ·have h:=h.2 hb34
   refine xD (i:=2) ?_
   show Sem _ _ _ _ _
   refine wkD [76,79,82,85] ?_
   refine sD kk [] [19] [(7,oL 3 enc_i64 newslice)] obN ?_
   refine tD ?_
   obtain he0:=h
   subst res
   exact (endD [] (oL 3 enc_i64 newslice) []).1
end Go.Ev
set_option linter.unusedSimpArgs false
set_option linter.unusedVariables false
namespace Go.Ev
open Go Go.Proofs
set_option maxRecDepth 8000
set_option maxHeartbeats 1000000 in
theorem W_place_Join_int (a:(List Int)) (b:(List Int)) (res:(List Int))
 (h:(∃ r0:List Int,C_slices_Concat__int_int ([a,b]) r0∧List.length r0 < 1099511627776∧(List.length (sortInts r0)=List.length r0)∧List.length (sortInts r0) < 1099511627776∧(res=(compactInts (sortInts r0))))):C_place_Join_int a b res:=by
 unfold C_place_Join_int
 have kk:=cfOk [] 14
 refine fD (x:=bodyOf Try.f64) kk Try.func64 ?_
 refine wkS [1,4] [(1,vL enc_i64 a),(4,vL enc_i64 b)] (by kernel_rfl) ?_
 refine sD kk [] [] [] obN ?_
 obtain ⟨r0,hc0,h⟩:=h
 refine sD kk [.c (oL 3 enc_i64 r0) []] [1,4] [(16,oL 3 enc_i64 r0)] (obC (Eq.mp (by unfold C_slices_Concat__int_int;(try simp only [List.drop_zero,List.take_length]);first | done | simp only [nm,enq]:C_slices_Concat__int_int ([a,b]) r0=CallE Try.prog 79 [.f (FV.sl (List.take (List.length [FV.sl (List.map enc_i64 a),FV.sl (List.map enc_i64 b)]) (List.drop (0:Nat) [FV.sl (List.map enc_i64 a),FV.sl (List.map enc_i64 b)])))] [] (oL 3 enc_i64 r0) []) hc0) obN) ?_
 obtain ⟨h1,h⟩:=h
 obtain ⟨h2,h⟩:=h
 refine sD kk [.l (List.map enc_i64 (sortInts r0))] [] [(16,oL 3 enc_i64 (sortInts r0))] (obC (show (0:Nat)=(0:Nat)∧List.length (List.map enc_i64 r0)=List.length (List.map enc_i64 r0) from by first | decide | rfl | trivial | (simp only [nm]<;>first | decide | rfl | omega)) (obC (show Prod.fst (sortF,false) (List.map enc_i64 r0)=some (List.map enc_i64 (sortInts r0)) from by first | exact sortF_map enc_i64 (fun _=>rfl) _ h1 | (have:=sortF_map enc_i64 (fun _=>rfl) _ h1;simpa only [nm,enq] using this)) (obC (show List.length (List.map enc_i64 (sortInts r0))=List.length (List.map enc_i64 r0) from by simpa only [nm] using h2) obN))) ?_
 obtain ⟨h3,h⟩:=h
 refine sD kk [.l (List.map enc_i64 (compactInts (sortInts r0)))] [16] [(13,oL 3 enc_i64 (compactInts (sortInts r0)))] (obC (show (0:Nat)=(0:Nat)∧List.length (List.map enc_i64 (sortInts r0))=List.length (List.map enc_i64 (sortInts r0)) from by first | decide | rfl | trivial | (simp only [nm]<;>first | decide | rfl | omega)) (obC (show Prod.fst (compactF,true) (List.map enc_i64 (sortInts r0))=some (List.map enc_i64 (compactInts (sortInts r0))) from by first | exact compactF_map enc_i64 (fun _=>rfl) _ h3 | (have:=compactF_map enc_i64 (fun _=>rfl) _ h3;simpa only [nm,enq] using this)) obN)) ?_
 refine tD ?_
 obtain he0:=h
 subst res
 exact (endD [(13,0)] (vL enc_i64 (compactInts (sortInts r0))) []).1
set_option maxHeartbeats 1000000 in
theorem W_place_builder_lead (from0:(List Int)) (to0:(List Int)) (b:place_builder) (fin:place_builder)
 (h:(∃ (Inv19:List (List Int)→Int→Prop) (mu20:List (List Int)→Int→Nat),Inv19 (place_builder.follow b) 0∧(∀ (o0_follow:List (List Int)) (t10:Int),Inv19 o0_follow t10→(((decide (t10 < (↑(List.length from0):Int)))=true→((0:Int)≤t10)∧t10 < ↑(List.length from0)∧((0:Int)≤gd from0 t10)∧(Int.toNat (gd from0 t10) < List.length o0_follow)∧gd from0 t10 < ↑(List.length o0_follow)∧(∃ r0_2:List Int,C_place_Join_int (gd o0_follow (gd from0 t10)) to0 r0_2∧((0:Int)≤gd from0 t10)∧(Int.toNat (gd from0 t10) < List.length o0_follow)∧gd from0 t10 < ↑(List.length o0_follow)∧(Inv19 (List.set o0_follow (Int.toNat (gd from0 t10)) r0_2) (w64 (t10+1))∧mu20 (List.set o0_follow (Int.toNat (gd from0 t10)) r0_2) (w64 (t10+1)) < mu20 o0_follow t10)))∧((decide (t10 < (↑(List.length from0):Int)))=false→(fin=({ sets:=place_builder.sets b,follow:=o0_follow }))))))):C_place_builder_lead from0 to0 b fin:=by
 unfold C_place_builder_lead
 have kk:=cfOk [] 30
 refine fD (x:=bodyOf Try.f119) kk Try.func119 ?_
 refine wkS [1,3,4,7] [(1,.ptr 3 0),(3,ao_place_builder b),(4,vL enc_i64 from0),(7,vL enc_i64 to0)] (by kernel_rfl) ?_
 refine sDE kk [] [4] [(25,vL enc_i64 from0),(28,vi ((↑(List.length (List.map enc_i64 from0)):Int))),(31,vi 0)] [(25,vL enc_i64 from0),(28,vi ((↑(List.length from0):Int))),(31,vi 0)] obN ?_
 refine bD (id:=0) ?_
 obtain ⟨Inv19,mu20,h0Inv19,hInv19⟩:=h
 refine loD (fun (q:List (List Int)×Int)=>(fun (o0_follow:List (List Int)) (t10:Int)=>([(1,.ptr 3 0),(3,.agg [oL 33 enc_arr4_uint64 (place_builder.sets b),oL 30 encs_i64 o0_follow]),(7,vL enc_i64 to0),(25,vL enc_i64 from0),(28,vi ((↑(List.length from0):Int))),(31,vi t10)]:Sta)) q.1 q.2) (fun (q:List (List Int)×Int)=>Inv19 q.1 q.2) (fun (q:List (List Int)×Int)=>mu20 q.1 q.2) ((place_builder.follow b),0) [] h0Inv19 ?_
 rintro ⟨o0_follow,t10⟩ hi
 have h:=hInv19 o0_follow t10 hi
 refine sD kk [] [] [(34,vB (decide (t10 < (↑(List.length from0):Int))))] obN ?_
 refine qD ?_
 refine cD (t:=11) (b:=decide (t10 < (↑(List.length from0):Int))) (fun hb21=>?_) (fun hb21=>?_)
 ·have h:=h.1 hb21
  refine Sem.skip' (by kernel_rfl) Wk.refl ?_
  show Sem _ _ _ _ _
  refine wkD [34] ?_
  refine qD ?_
  refine bD (id:=1) ?_
  obtain ⟨h22,h⟩:=h
  obtain ⟨h23,h⟩:=h
  refine sD kk [.e (fi (gd from0 t10))] [] [(22,vi (gd from0 t10))] (obC h22 (obC (idx_ok enc_i64 from0 t10 _ rfl h22 h23) obN)) ?_
  obtain ⟨h24,h⟩:=h
  obtain ⟨h25,h⟩:=h
  obtain ⟨h26,h⟩:=h
  obtain ⟨r0_2,hc27,h⟩:=h
  obtain ⟨h28,h⟩:=h
  obtain ⟨h29,h⟩:=h
  obtain ⟨h30,h⟩:=h
  refine rDE kk [.e (fL enc_i64 (gd o0_follow (gd from0 t10))),.c (vL enc_i64 r0_2) [],.e (fL enc_i64 (gd o0_follow (gd from0 t10)))] [22] [(3,.agg [oL 33 enc_arr4_uint64 (place_builder.sets b),.own 30 (List.set (List.map encs_i64 o0_follow) ((0:Nat)+Int.toNat (gd from0 t10)) (FV.sl (List.map enc_i64 r0_2)))])] [(3,.agg [oL 33 enc_arr4_uint64 (place_builder.sets b),oL 30 encs_i64 (List.set o0_follow (Int.toNat (gd from0 t10)) r0_2)])] (obC h24 (obC (show Int.toNat (gd from0 t10) < List.length (List.map encs_i64 o0_follow) from by simpa only [nm] using h25) (obC (show (List.map encs_i64 o0_follow)[((0:Nat)+Int.toNat (gd from0 t10):Nat)]?=some (fL enc_i64 (gd o0_follow (gd from0 t10))) from by have:=idx_ok encs_i64 o0_follow (gd from0 t10) _ rfl h24 h26;simpa only [nm,enq,encs_i64] using this) (obC hc27 (obC h28 (obC (show Int.toNat (gd from0 t10) < List.length (List.map encs_i64 o0_follow) from by simpa only [nm] using h29) (obC (show (List.map encs_i64 o0_follow)[((0:Nat)+Int.toNat (gd from0 t10):Nat)]?=some (fL enc_i64 (gd o0_follow (gd from0 t10))) from by have:=idx_ok encs_i64 o0_follow (gd from0 t10) _ rfl h28 h30;simpa only [nm,enq,encs_i64] using this) obN))))))) ?_
  show Sem _ _ _ _ _
  refine rD kk [] [] [(31,vi (w64 (t10+1)))] obN ?_
  exact lD ((List.set o0_follow (Int.toNat (gd from0 t10)) r0_2),(w64 (t10+1))) [] h
 ·have h:=h.2 hb21
  refine xD (i:=0) ?_
  obtain he0:=h
  subst fin
  exact (endD [] (.tup []) [.agg [oL 33 enc_arr4_uint64 (place_builder.sets b),oL 30 encs_i64 o0_follow]]).2
set_option maxHeartbeats 1000000 in
theorem W_place_builder_cat (x:place_piece) (y:place_piece) (b:place_builder) (res:place_piece) (fin:place_builder)
 (h:(∃ o:place_builder,C_place_builder_lead (place_piece.last x) (place_piece.first y) b o∧(∃ J4:List Int→Prop,(∀ (out_first:List Int),J4 out_first→(∃ J7:List Int→Prop,(∀ (out_last:List Int),J7 out_last→(res=({ first:=out_first,last:=out_last,null:=place_piece.null x && place_piece.null y })∧fin=o))∧(((place_piece.null y)=true→(∃ r0_2:List Int,C_place_Join_int (place_piece.last x) (place_piece.last y) r0_2∧J7 r0_2))∧((place_piece.null y)=false→J7 (place_piece.last y)))))∧(((place_piece.null x)=true→(∃ r0_3:List Int,C_place_Join_int (place_piece.first x) (place_piece.first y) r0_3∧J4 r0_3))∧((place_piece.null x)=false→J4 (place_piece.first x)))))):C_place_builder_cat x y b res fin:=by
 unfold C_place_builder_cat
 have kk:=cfOk [41] 42
 refine fD (x:=bodyOf Try.f113) kk Try.func113 ?_
 refine wkS [1,3,4,7] [(1,.ptr 3 0),(3,ao_place_builder b),(4,av_place_piece x),(7,av_place_piece y)] (by kernel_rfl) ?_
 refine sDE kk [] [4,7] [(13,.ptr 14 0),(14,av_place_piece x),(16,.ptr 17 0),(17,av_place_piece y),(19,.ptr 20 0),(20,.agg [.own 3 ([]),.own 3 ([]),vB false])] [(13,.ptr 14 0),(14,av_place_piece x),(16,.ptr 17 0),(17,av_place_piece y),(19,.ptr 20 0),(20,.agg [oL 3 enc_i64 ([]),oL 3 enc_i64 ([]),vB false])] obN ?_
 obtain ⟨o,hc0,h⟩:=h
 refine sD kk [.c (.tup []) [ao_place_builder o]] [1] [(3,ao_place_builder o)] (obC hc0 obN) ?_
 refine sM [] [(22,.ptr 23 0),(23,.agg [vL enc_i64 (place_piece.first x),vL enc_i64 (place_piece.last y),vB (place_piece.null x && place_piece.null y)])] ?_ (fun hk0=>?_)
 ·obtain ⟨J4,hJ4,h⟩:=h
  refine sjD (fun (q:List Int)=>J4 q) (fun (q:List Int)=>(fun (out_first:List Int)=>([(3,ao_place_builder o),(13,.ptr 14 0),(14,av_place_piece x),(16,.ptr 17 0),(17,av_place_piece y),(19,.ptr 20 0),(20,.agg [oL 3 enc_i64 ([]),oL 3 enc_i64 ([]),vB false]),(22,.ptr 23 0),(23,.agg [vL enc_i64 out_first,vL enc_i64 (place_piece.last y),vB (place_piece.null x && place_piece.null y)])]:Sta)) q) ?_ ?_
  ·rintro out_first hj
   have h:=hJ4 out_first hj
   obtain ⟨J7,hJ7,h⟩:=h
   refine sjD (fun (q:List Int)=>J7 q) (fun (q:List Int)=>(fun (out_last:List Int)=>([(3,ao_place_builder o),(19,.ptr 20 0),(20,.agg [oL 3 enc_i64 ([]),oL 3 enc_i64 ([]),vB false]),(22,.ptr 23 0),(23,.agg [vL enc_i64 out_first,vL enc_i64 out_last,vB (place_piece.null x && place_piece.null y)])]:Sta)) q) ?_ ?_
   ·rintro out_last hj
    have h:=hJ7 out_last hj
    refine sD kk [] [22,23] [(20,.agg [vL enc_i64 out_first,vL enc_i64 out_last,vB (place_piece.null x && place_piece.null y)])] obN ?_
    refine tD ?_
    obtain ⟨he0,he1⟩:=h
    subst res fin
    exact (endD [] (.agg [vL enc_i64 out_first,vL enc_i64 out_last,vB (place_piece.null x && place_piece.null y)]) [ao_place_builder o]).1
   ·refine sD kk [] [] [(103,vB (place_piece.null y))] obN ?_
    refine cD (t:=34) (b:=place_piece.null y) (fun hb8=>?_) (fun hb8=>?_)
    ·have h:=h.1 hb8
     obtain ⟨r0_2,hc9,h⟩:=h
     refine rD kk [.c (vL enc_i64 r0_2) []] [13,14,16,17,103] [(23,.agg [vL enc_i64 out_first,vL enc_i64 r0_2,vB (place_piece.null x && place_piece.null y)])] (obC hc9 obN) ?_
     exact jD r0_2 [] h
    ·have h:=h.2 hb8
     refine Sem.skip' (by kernel_rfl) Wk.refl ?_
     exact jD (place_piece.last y) [] h
  ·refine sD kk [] [] [(79,vB (place_piece.null x))] obN ?_
   refine cD (t:=26) (b:=place_piece.null x) (fun hb10=>?_) (fun hb10=>?_)
   ·have h:=h.1 hb10
    obtain ⟨r0_3,hc11,h⟩:=h
    refine rD kk [.c (vL enc_i64 r0_3) []] [79] [(23,.agg [vL enc_i64 r0_3,vL enc_i64 (place_piece.last y),vB (place_piece.null x && place_piece.null y)])] (obC hc11 obN) ?_
    exact jD r0_3 [] h
   ·have h:=h.2 hb10
    refine Sem.skip' (by kernel_rfl) Wk.refl ?_
    exact jD (place_piece.first x) [] h
 ·rcases Bool.eq_false_or_eq_true (place_piece.null x) with hb1 | hb1
  ·refine sD kk [.b true,.b true,.b true] [] [(22,.ptr 23 0),(23,.agg [vL enc_i64 (place_piece.first x),vL enc_i64 (place_piece.last y),vB (place_piece.null y)])] (obC (gtt hb1) (obC (gtt hb1) (obC hb1 obN))) ?_
   exact Sem.cast (by try rw [hb1];kernel_rfl) hk0
  ·refine sD kk [.b false,.b false,.b false] [] [(22,.ptr 23 0),(23,.agg [vL enc_i64 (place_piece.first x),vL enc_i64 (place_piece.last y),vB false])] (obC (gtf hb1) (obC (gtf hb1) (obC hb1 obN))) ?_
   exact Sem.cast (by try rw [hb1];kernel_rfl) hk0
set_option maxHeartbeats 1000000 in
theorem W_place_builder_copies (x:api_Rx) (n:Int) (b:place_builder) (res:(List place_piece)) (fin:place_builder)
 (h:(∃ (Inv5:List arr4_uint64→List (List Int)→List place_piece→Int→Prop) (mu6:List arr4_uint64→List (List Int)→List place_piece→Int→Nat),Inv5 (place_builder.sets b) (place_builder.follow b) ([]) 0∧(∀ (o0_sets:List arr4_uint64) (o0_follow:List (List Int)) (out:List place_piece) (t8:Int),Inv5 o0_sets o0_follow out t8→(((decide (t8 < n))=true→(∃ r0_2:place_piece,∃ o_2:place_builder,C_place_builder_piece x ({ sets:=o0_sets,follow:=o0_follow }) r0_2 o_2∧((List.length out+(1:Nat)) * (56:Nat)≤(2:Nat) ^ (47:Nat))∧(Inv5 (place_builder.sets o_2) (place_builder.follow o_2) (out++[r0_2]) (w64 (t8+1))∧mu6 (place_builder.sets o_2) (place_builder.follow o_2) (out++[r0_2]) (w64 (t8+1)) < mu6 o0_sets o0_follow out t8)))∧((decide (t8 < n))=false→(res=out∧fin=({ sets:=o0_sets,follow:=o0_follow }))))))):C_place_builder_copies x n b res fin:=by
 unfold C_place_builder_copies
 have kk:=cfOk [17] 18
 refine fD (x:=bodyOf Try.f120) kk Try.func120 ?_
 refine wkS [1,3,4,7] [(1,.ptr 3 0),(3,ao_place_builder b),(4,av_api_Rx x),(7,vi n)] (by kernel_rfl) ?_
 refine sDE kk [] [4] [(13,.ptr 14 0),(14,av_api_Rx x),(19,.own 133 ([]))] [(13,.ptr 14 0),(14,av_api_Rx x),(19,oL 133 enc_place_piece ([]))] obN ?_
 refine qD ?_
 refine sD kk [] [7] [(22,vi n),(25,vi 0)] obN ?_
 refine bD (id:=0) ?_
 obtain ⟨Inv5,mu6,h0Inv5,hInv5⟩:=h
 refine loD (fun (q:List arr4_uint64×List (List Int)×List place_piece×Int)=>(fun (o0_sets:List arr4_uint64) (o0_follow:List (List Int)) (out:List place_piece) (t8:Int)=>([(1,.ptr 3 0),(3,.agg [oL 33 enc_arr4_uint64 o0_sets,oL 30 encs_i64 o0_follow]),(13,.ptr 14 0),(14,av_api_Rx x),(19,oL 133 enc_place_piece out),(22,vi n),(25,vi t8)]:Sta)) q.1 q.2.1 q.2.2.1 q.2.2.2) (fun (q:List arr4_uint64×List (List Int)×List place_piece×Int)=>Inv5 q.1 q.2.1 q.2.2.1 q.2.2.2) (fun (q:List arr4_uint64×List (List Int)×List place_piece×Int)=>mu6 q.1 q.2.1 q.2.2.1 q.2.2.2) ((place_builder.sets b),(place_builder.follow b),([]),0) [] h0Inv5 ?_
 rintro ⟨o0_sets,o0_follow,out,t8⟩ hi
 have h:=hInv5 o0_sets o0_follow out t8 hi
 refine sD kk [] [] [(28,vB (decide (t8 < n)))] obN ?_
 refine qD ?_
 refine cD (t:=9) (b:=decide (t8 < n)) (fun hb7=>?_) (fun hb7=>?_)
 ·have h:=h.1 hb7
  refine Sem.skip' (by kernel_rfl) Wk.refl ?_
  show Sem _ _ _ _ _
  refine wkD [28] ?_
  refine qD ?_
  refine bD (id:=1) ?_
  obtain ⟨r0_2,o_2,hc8,h⟩:=h
  obtain ⟨h9,h⟩:=h
  refine rDE kk [.c (av_place_piece r0_2) [ao_place_builder o_2]] [] [(3,ao_place_builder o_2),(19,.own 133 (List.map enc_place_piece out++List.take (List.length [FV.agg [FV.sl (List.map enc_i64 (place_piece.first r0_2)),FV.sl (List.map enc_i64 (place_piece.last r0_2)),FV.pv (Value.bool (place_piece.null r0_2))]]) (List.drop (0:Nat) [FV.agg [FV.sl (List.map enc_i64 (place_piece.first r0_2)),FV.sl (List.map enc_i64 (place_piece.last r0_2)),FV.pv (Value.bool (place_piece.null r0_2))]])))] [(3,ao_place_builder o_2),(19,oL 133 enc_place_piece (out++[r0_2]))] (obC hc8 (obC (show (0:Nat)=(0:Nat)∧List.length (List.map enc_place_piece out)=List.length (List.map enc_place_piece out) from by first | decide | rfl | trivial | (simp only [nm]<;>first | decide | rfl | omega)) (obC (show (List.length (List.map enc_place_piece out)+List.length (List.take (1:Nat) (List.drop (0:Nat) [FV.agg [FV.sl (List.map enc_i64 (place_piece.first r0_2)),FV.sl (List.map enc_i64 (place_piece.last r0_2)),FV.pv (Value.bool (place_piece.null r0_2))]]))) * (56:Nat)≤(2:Nat) ^ (47:Nat) from by simpa only [nm] using h9) (obC (show List.all (List.take (1:Nat) (List.drop (0:Nat) [FV.agg [FV.sl (List.map enc_i64 (place_piece.first r0_2)),FV.sl (List.map enc_i64 (place_piece.last r0_2)),FV.pv (Value.bool (place_piece.null r0_2))]])) (FV.fits (3:Nat))=true from by first | exact fits_i64 _ | rfl | simp [isByteF,FV.fits,FV.size,FV.cells,FV.one,enc_i64]) obN)))) ?_
  show Sem _ _ _ _ _
  refine rD kk [] [] [(25,vi (w64 (t8+1)))] obN ?_
  exact lD ((place_builder.sets o_2),(place_builder.follow o_2),(out++[r0_2]),(w64 (t8+1))) [] h
 ·have h:=h.2 hb7
  refine xD (i:=0) ?_
  show Sem _ _ _ _ _
  refine wkD [1,13,14,22,25,28] ?_
  refine sD kk [] [] [] obN ?_
  refine tD ?_
  obtain ⟨he0,he1⟩:=h
  subst res fin
  exact (endD [] (oL 133 enc_place_piece out) [.agg [oL 33 enc_arr4_uint64 o0_sets,oL 30 encs_i64 o0_follow]]).1
set_option maxHeartbeats 1000000 in
theorem W_place_maybe (x:place_piece) (res:place_piece)
 (h:(res=({ first:=place_piece.first x,last:=place_piece.last x,null:=true }))):C_place_maybe x res:=by
 unfold C_place_maybe
 have kk:=cfOk [4] 5
 refine fD (x:=bodyOf Try.f122) kk Try.func122 ?_
 refine wkS [1] [(1,av_place_piece x)] (by kernel_rfl) ?_
 refine sDE kk [] [1] [(4,.ptr 5 0),(5,av_place_piece x),(7,.ptr 8 0),(8,.agg [.own 3 ([]),.own 3 ([]),vB false])] [(4,.ptr 5 0),(5,av_place_piece x),(7,.ptr 8 0),(8,.agg [oL 3 enc_i64 ([]),oL 3 enc_i64 ([]),vB false])] obN ?_
 refine sD kk [] [] [(5,.agg [vL enc_i64 (place_piece.first x),vL enc_i64 (place_piece.last x),vB true])] obN ?_
 refine sD kk [] [4,5] [(8,.agg [vL enc_i64 (place_piece.first x),vL enc_i64 (place_piece.last x),vB true])] obN ?_
 refine tD ?_
 obtain he0:=h
 subst res
 exact (endD [] (.agg [vL enc_i64 (place_piece.first x),vL enc_i64 (place_piece.last x),vB true]) []).1
set_option maxHeartbeats 1000000 in
theorem W_place_builder_rep (x:api_Rx) (b:place_builder) (res:place_piece) (fin:place_builder)
 (h:(∃ r0:Int,C_rx_Size x r0∧(((r0 == 0)=true→(res=({ first:=[],last:=[],null:=true })∧fin=b))∧((r0 == 0)=false→(0:Nat) < List.length (api_Rx.Kids x)∧(∃ r0_1:List place_piece,∃ o:place_builder,C_place_builder_copies (List.getD (api_Rx.Kids x) (0:Nat) default) (if (1:Int) > if api_Rx.Hi x > api_Rx.Lo x then api_Rx.Hi x else api_Rx.Lo x then (1:Int) else if api_Rx.Hi x > api_Rx.Lo x then api_Rx.Hi x else api_Rx.Lo x) b r0_1 o∧(∃ J14:List arr4_uint64→List (List Int)→List place_piece→Prop,(∀ (o0_sets:List arr4_uint64) (o0_follow:List (List Int)) (l:List place_piece),J14 o0_sets o0_follow l→(C_slices_Backward__place_piece_place_piece l∧(List.length l < 1099511627776∧∃ (Inv24:Nat→List arr4_uint64→List (List Int)→List Int→List Int→Bool→Prop),Inv24 0 o0_sets o0_follow ([]) ([]) true∧(∀ (i:Nat) (y:place_piece),i < List.length l→l[List.length l - 1 - i]?=some y→∀ (o0_sets_1:List arr4_uint64) (o0_follow_1:List (List Int)) (out_first:List Int) (out_last:List Int) (out_null:Bool),Inv24 i o0_sets_1 o0_follow_1 out_first out_last out_null→(∃ r0_6:place_piece,∃ o_4:place_builder,C_place_builder_cat y ({ first:=out_first,last:=out_last,null:=out_null }) ({ sets:=o0_sets_1,follow:=o0_follow_1 }) r0_6 o_4∧(((decide (api_Rx.Hi x≥(0:Int)) && decide ((↑(List.length l):Int) - 1 - (↑i:Int)≥api_Rx.Lo x))=true→(∃ r0_7:place_piece,C_place_maybe r0_6 r0_7∧Inv24 (i+1) (place_builder.sets o_4) (place_builder.follow o_4) (place_piece.first r0_7) (place_piece.last r0_7) (place_piece.null r0_7)))∧((decide (api_Rx.Hi x≥(0:Int)) && decide ((↑(List.length l):Int) - 1 - (↑i:Int)≥api_Rx.Lo x))=false→Inv24 (i+1) (place_builder.sets o_4) (place_builder.follow o_4) (place_piece.first r0_6) (place_piece.last r0_6) (place_piece.null r0_6)))))∧(∀ (o0_sets_1:List arr4_uint64) (o0_follow_1:List (List Int)) (out_first:List Int) (out_last:List Int) (out_null:Bool),Inv24 (List.length l) o0_sets_1 o0_follow_1 out_first out_last out_null→(res=({ first:=out_first,last:=out_last,null:=out_null })∧fin=({ sets:=o0_sets_1,follow:=o0_follow_1 }))))))∧(((decide (api_Rx.Hi x < (0:Int)))=true→((0:Int)≤w64 ((↑(List.length r0_1):Int) - 1))∧(Int.toNat (w64 ((↑(List.length r0_1):Int) - 1)) < List.length r0_1)∧Int.toNat (w64 ((↑(List.length r0_1):Int) - 1)) < List.length r0_1∧Int.toNat (w64 ((↑(List.length r0_1):Int) - 1)) < List.length r0_1∧(∃ o_5:place_builder,C_place_builder_lead (place_piece.last (gd r0_1 (w64 ((↑(List.length r0_1):Int) - 1)))) (place_piece.first (gd r0_1 (w64 ((↑(List.length r0_1):Int) - 1)))) o o_5∧Int.toNat (w64 ((↑(List.length r0_1):Int) - 1)) < List.length r0_1∧(((place_piece.null (gd r0_1 (w64 ((↑(List.length r0_1):Int) - 1))))=true→((place_piece.null (gd r0_1 (w64 ((↑(List.length r0_1):Int) - 1))))=true→Int.toNat (w64 ((↑(List.length r0_1):Int) - 1)) < List.length r0_1)∧J14 (place_builder.sets o_5) (place_builder.follow o_5) (List.set r0_1 (Int.toNat (w64 ((↑(List.length r0_1):Int) - 1))) { first:=place_piece.first (gd r0_1 (w64 ((↑(List.length r0_1):Int) - 1))),last:=place_piece.last (gd r0_1 (w64 ((↑(List.length r0_1):Int) - 1))),null:=true }))∧((place_piece.null (gd r0_1 (w64 ((↑(List.length r0_1):Int) - 1))))=false→((place_piece.null (gd r0_1 (w64 ((↑(List.length r0_1):Int) - 1))))=false→Int.toNat (w64 ((↑(List.length r0_1):Int) - 1)) < List.length r0_1)∧J14 (place_builder.sets o_5) (place_builder.follow o_5) (List.set r0_1 (Int.toNat (w64 ((↑(List.length r0_1):Int) - 1))) { first:=place_piece.first (gd r0_1 (w64 ((↑(List.length r0_1):Int) - 1))),last:=place_piece.last (gd r0_1 (w64 ((↑(List.length r0_1):Int) - 1))),null:=api_Rx.Lo x == 0 })))))∧((decide (api_Rx.Hi x < (0:Int)))=false→J14 (place_builder.sets o) (place_builder.follow o) r0_1)))))))):C_place_builder_rep x b res fin:=by
 unfold C_place_builder_rep
 have kk:=cfOk [75] 76
 refine fD (x:=bodyOf Try.f114) kk Try.func114 ?_
 refine wkS [1,3,4] [(1,.ptr 3 0),(3,ao_place_builder b),(4,av_api_Rx x)] (by kernel_rfl) ?_
 refine sDE kk [] [1,4] [(7,.ptr 8 0),(8,.ptr 3 0),(10,.ptr 11 0),(11,av_api_Rx x),(13,.ptr 14 0),(14,.agg [.own 3 ([]),.own 3 ([]),vB false])] [(7,.ptr 8 0),(8,.ptr 3 0),(10,.ptr 11 0),(11,av_api_Rx x),(13,.ptr 14 0),(14,.agg [oL 3 enc_i64 ([]),oL 3 enc_i64 ([]),vB false])] obN ?_
 refine qD ?_
 obtain ⟨r0,hc0,h⟩:=h
 refine sD kk [.c (vi r0) []] [] [(37,vB (r0 == 0))] (obC hc0 obN) ?_
 refine cD (t:=12) (b:=r0 == 0) (fun hb1=>?_) (fun hb1=>?_)
 ·have h:=h.1 hb1
  refine sDE kk [] [7,8,10,11,37] [(14,.agg [.own 3 ([]),.own 3 ([]),vB true])] [(14,.agg [oL 3 enc_i64 ([]),oL 3 enc_i64 ([]),vB true])] obN ?_
  refine tD ?_
  obtain ⟨he0,he1⟩:=h
  subst res fin
  exact (endD [(14,0),(14,1)] (.agg [vL enc_i64 ([]),vL enc_i64 ([]),vB true]) [ao_place_builder b]).1
 ·have h:=h.2 hb1
  refine Sem.skip' (by kernel_rfl) Wk.refl ?_
  show Sem _ _ _ _ _
  refine wkD [37] ?_
  obtain ⟨h2,h⟩:=h
  obtain ⟨r0_1,o,hc3,h⟩:=h
  refine sD kk [.e (fv_api_Rx (List.getD (api_Rx.Kids x) (0:Nat) default)),.c (oL 133 enc_place_piece r0_1) [ao_place_builder o]] [] [(3,ao_place_builder o),(16,oL 133 enc_place_piece r0_1)] (obC (show (0:Int)≤(0:Int) from by first | decide | rfl | trivial | (simp only [nm]<;>first | decide | rfl | omega)) (obC (show (List.map enc_api_Rx (api_Rx.Kids x))[(Int.toNat (0:Int):Nat)]?=some (fv_api_Rx (List.getD (api_Rx.Kids x) (0:Nat) default)) from by have:=idx_ok' enc_api_Rx (api_Rx.Kids x) ((0:Nat)) _ (enc_api_Rx_eq _) h2;simpa only [nm,enq,enc_api_Rx_eq] using this) (obC (Eq.mp (by unfold C_place_builder_copies;(try simp only [List.drop_zero,List.take_length]);first | done | simp only [nm,enq]:C_place_builder_copies (List.getD (api_Rx.Kids x) (0:Nat) default) (if (1:Int) > if api_Rx.Hi x > api_Rx.Lo x then api_Rx.Hi x else api_Rx.Lo x then (1:Int) else if api_Rx.Hi x > api_Rx.Lo x then api_Rx.Hi x else api_Rx.Lo x) b r0_1 o=CallE Try.prog 120 [.ptr 3 0,.agg [vi (api_Rx.Kind (List.getD (api_Rx.Kids x) (0:Nat) default)),vI .u64 (arr4_uint64.e0 (api_Rx.Set (List.getD (api_Rx.Kids x) (0:Nat) default))),vI .u64 (arr4_uint64.e1 (api_Rx.Set (List.getD (api_Rx.Kids x) (0:Nat) default))),vI .u64 (arr4_uint64.e2 (api_Rx.Set (List.getD (api_Rx.Kids x) (0:Nat) default))),vI .u64 (arr4_uint64.e3 (api_Rx.Set (List.getD (api_Rx.Kids x) (0:Nat) default))),vi (api_Rx.Lo (List.getD (api_Rx.Kids x) (0:Nat) default)),vi (api_Rx.Hi (List.getD (api_Rx.Kids x) (0:Nat) default)),vL enc_api_Rx (api_Rx.Kids (List.getD (api_Rx.Kids x) (0:Nat) default))],vi (if true=true then if (1:Int) > if true=true then if api_Rx.Hi x > api_Rx.Lo x then api_Rx.Hi x else api_Rx.Lo x else if api_Rx.Hi x < api_Rx.Lo x then api_Rx.Hi x else api_Rx.Lo x then (1:Int) else if true=true then if api_Rx.Hi x > api_Rx.Lo x then api_Rx.Hi x else api_Rx.Lo x else if api_Rx.Hi x < api_Rx.Lo x then api_Rx.Hi x else api_Rx.Lo x else if (1:Int) < if true=true then if api_Rx.Hi x > api_Rx.Lo x then api_Rx.Hi x else api_Rx.Lo x else if api_Rx.Hi x < api_Rx.Lo x then api_Rx.Hi x else api_Rx.Lo x then (1:Int) else if true=true then if api_Rx.Hi x > api_Rx.Lo x then api_Rx.Hi x else api_Rx.Lo x else if api_Rx.Hi x < api_Rx.Lo x then api_Rx.Hi x else api_Rx.Lo x)] [.agg [oL 33 enc_arr4_uint64 (place_builder.sets b),oL 30 encs_i64 (place_builder.follow b)]] (oL 133 enc_place_piece r0_1) [ao_place_builder o]) hc3) obN))) ?_
  refine sDE kk [] [] [(19,.ptr 20 0),(20,.agg [.own 3 ([]),.own 3 ([]),vB true])] [(19,.ptr 20 0),(20,.agg [oL 3 enc_i64 ([]),oL 3 enc_i64 ([]),vB true])] obN ?_
  obtain ⟨J14,hJ14,h⟩:=h
  refine sjD (fun (q:List arr4_uint64×List (List Int)×List place_piece)=>J14 q.1 q.2.1 q.2.2) (fun (q:List arr4_uint64×List (List Int)×List place_piece)=>(fun (o0_sets:List arr4_uint64) (o0_follow:List (List Int)) (l:List place_piece)=>([(3,.agg [oL 33 enc_arr4_uint64 o0_sets,oL 30 encs_i64 o0_follow]),(7,.ptr 8 0),(8,.ptr 3 0),(10,.ptr 11 0),(11,av_api_Rx x),(13,.ptr 14 0),(14,.agg [oL 3 enc_i64 ([]),oL 3 enc_i64 ([]),vB false]),(16,oL 133 enc_place_piece l),(19,.ptr 20 0),(20,.agg [oL 3 enc_i64 ([]),oL 3 enc_i64 ([]),vB true])]:Sta)) q.1 q.2.1 q.2.2) ?_ ?_
  ·rintro ⟨o0_sets,o0_follow,l⟩ hj
   have h:=hJ14 o0_sets o0_follow l hj
   refine qD ?_
   obtain ⟨hc15,h⟩:=h
   refine sD kk [.c (.clo 134 [.fp (fL enc_place_piece l) 0]) []] [16] [(172,.clo 134 [.fp (fL enc_place_piece l) 0])] (obC (Eq.mp (by unfold C_slices_Backward__place_piece_place_piece;(try simp only [List.drop_zero,List.take_length]);first | done | simp only [nm,enq]:C_slices_Backward__place_piece_place_piece l=CallE Try.prog 121 [.f (FV.sl (List.take (List.length (List.map enc_place_piece l)) (List.drop (0:Nat) (List.map enc_place_piece l))))] [] (.clo 134 [.fp (fL enc_place_piece l) 0]) []) hc15) obN) ?_
   refine bD (id:=0) ?_
   obtain ⟨hl25,Inv24,h0Inv24,hRInv24,hDInv24⟩:=h
   refine Sem.range (α:=place_piece) (σ:=List arr4_uint64×List (List Int)×List Int×List Int×Bool) (c:=(cf [75] 76)) (by rfl) (tg:=57) (p0:=58) (p1:=59) (by kernel_rfl) (xs:=l) (by kernel_rfl) back_ok_134 (ey:=(fun (y:place_piece)=>(fv_place_piece y:FV))) (sz:=3) (fun y=>enc_place_piece_eq y) (fun y=>by simp [FV.fits,FV.size,FV.cells,FV.one,enc_place_piece_eq]) (by omega) [(7,.ptr 8 0),(10,.ptr 11 0),(13,.ptr 14 0),(19,.ptr 20 0)] [3,8,11,14,20] (fun (q:List arr4_uint64×List (List Int)×List Int×List Int×Bool)=>(fun (o0_sets_1:List arr4_uint64) (o0_follow_1:List (List Int)) (out_first:List Int) (out_last:List Int) (out_null:Bool)=>([.agg [oL 33 enc_arr4_uint64 o0_sets_1,oL 30 encs_i64 o0_follow_1],.ptr 3 0,av_api_Rx x,.agg [oL 3 enc_i64 ([]),oL 3 enc_i64 ([]),vB false],.agg [vL enc_i64 out_first,vL enc_i64 out_last,vB out_null]]:List AV)) q.1 q.2.1 q.2.2.1 q.2.2.2.1 q.2.2.2.2) (fun (i:Nat) (q:List arr4_uint64×List (List Int)×List Int×List Int×Bool)=>Inv24 i q.1 q.2.1 q.2.2.1 q.2.2.2.1 q.2.2.2.2) (o0_sets,o0_follow,([]),([]),true) ((wkE (G':=[(3,.agg [oL 33 enc_arr4_uint64 o0_sets,oL 30 encs_i64 o0_follow]),(7,.ptr 8 0),(8,.ptr 3 0),(10,.ptr 11 0),(11,av_api_Rx x),(13,.ptr 14 0),(14,.agg [oL 3 enc_i64 ([]),oL 3 enc_i64 ([]),vB false]),(19,.ptr 20 0),(20,.agg [vL enc_i64 ([]),vL enc_i64 ([]),vB true])]) [(20,0),(20,1)] [3,7,8,10,11,13,14,19,20] (by kernel_rfl)).trans (Wk.pick [7,10,13,19,3,8,11,14,20] (by kernel_rfl))) h0Inv24 (by rfl) (fun q=>by rfl) (by rfl) (by decide) (fun q q'=>by rfl) (Nat.le_of_ble_eq_true rfl) (Nat.le_of_ble_eq_true rfl) (by decide) ?_ ?_
   ·rintro i ⟨o0_sets_1,o0_follow_1,out_first,out_last,out_null⟩ y hi hy hinv
    have h:=hRInv24 i y hi hy o0_sets_1 o0_follow_1 out_first out_last out_null hinv
    refine Sem.weak (Wk.pick [3,6,7,9,10,12,13,15,19,175,178] (G':=[(3,.agg [oL 33 enc_arr4_uint64 o0_sets_1,oL 30 encs_i64 o0_follow_1]),(6,.ptr 3 0),(7,.ptr 6 0),(9,av_api_Rx x),(10,.ptr 9 0),(12,.agg [oL 3 enc_i64 ([]),oL 3 enc_i64 ([]),vB false]),(13,.ptr 12 0),(15,.agg [vL enc_i64 out_first,vL enc_i64 out_last,vB out_null]),(19,.ptr 15 0),(175,vi ((↑(List.length l):Int) - 1 - (↑i:Int))),(178,av_place_piece y)]) (by kernel_rfl)) ?_
    show Sem _ (cfr [75] 76) (sq1 (sq1 (sq2 (sq1 (sq2 (sq2 (sq2 (sq2 (sq2 (bodyOf Try.f114)))))))))) _ _
    have kr:=cfrOk [75] 76
    refine sD kr [] [13,175] [(25,vi ((↑(List.length l):Int) - 1 - (↑i:Int)))] obN ?_
    refine rD kr [] [178] [(28,.ptr 29 0),(29,av_place_piece y)] obN ?_
    refine ⟨rfl,?_⟩
    show Sem _ (cfr [75] 76) (sq2 (sq1 (sq2 (sq1 (sq2 (sq2 (sq2 (sq2 (sq2 (bodyOf Try.f114)))))))))) _ _
    refine bD (id:=1) ?_
    obtain ⟨r0_6,o_4,hc26,h⟩:=h
    refine sD kr [.c (av_place_piece r0_6) [ao_place_builder o_4]] [7,28,29] [(3,ao_place_builder o_4),(15,av_place_piece r0_6)] (obC hc26 obN) ?_
    refine sM [10,25] [(217,vB (decide (api_Rx.Hi x≥(0:Int)) && decide ((↑(List.length l):Int) - 1 - (↑i:Int)≥api_Rx.Lo x)))] ?_ (fun hk0=>?_)
    ·refine cD (t:=72) (b:=decide (api_Rx.Hi x≥(0:Int)) && decide ((↑(List.length l):Int) - 1 - (↑i:Int)≥api_Rx.Lo x)) (fun hb28=>?_) (fun hb28=>?_)
     ·have h:=h.1 hb28
      obtain ⟨r0_7,hc29,h⟩:=h
      refine rD kr [.c (av_place_piece r0_7) []] [19,217] [(15,av_place_piece r0_7)] (obC hc29 obN) ?_
      exact rndE (wkE [] [3,6,9,12,15] (by rfl)) (by kernel_rfl) ⟨((place_builder.sets o_4),(place_builder.follow o_4),(place_piece.first r0_7),(place_piece.last r0_7),(place_piece.null r0_7)),rfl,h⟩
     ·have h:=h.2 hb28
      refine Sem.skip' (by kernel_rfl) Wk.refl ?_
      exact rndE (wkE [] [3,6,9,12,15] (by rfl)) (by kernel_rfl) ⟨((place_builder.sets o_4),(place_builder.follow o_4),(place_piece.first r0_6),(place_piece.last r0_6),(place_piece.null r0_6)),rfl,h⟩
    ·rcases Bool.eq_false_or_eq_true (decide (api_Rx.Hi x≥(0:Int))) with hb27 | hb27
     ·refine sD kr [.b true,.b true,.b true,.b true,.b true] [10,25] [(217,vB (decide ((↑(List.length l):Int) - 1 - (↑i:Int)≥api_Rx.Lo x)))] (obC (gtt hb27) (obC (gtt hb27) (obC (gtt hb27) (obC (gtt hb27) (obC hb27 obN))))) ?_
      exact Sem.cast (by try rw [hb27];kernel_rfl) hk0
     ·refine sD kr [.b false,.b false,.b false,.b false,.b false] [10,25] [(217,vB false)] (obC (gtf hb27) (obC (gtf hb27) (obC (gtf hb27) (obC (gtf hb27) (obC hb27 obN))))) ?_
      exact Sem.cast (by try rw [hb27];kernel_rfl) hk0
   ·rintro ⟨o0_sets_1,o0_follow_1,out_first,out_last,out_null⟩ hinv
    have h:=hDInv24 o0_sets_1 o0_follow_1 out_first out_last out_null hinv
    refine ⟨[(3,.agg [oL 33 enc_arr4_uint64 o0_sets_1,oL 30 encs_i64 o0_follow_1]),(13,.ptr 14 0),(14,.agg [oL 3 enc_i64 ([]),oL 3 enc_i64 ([]),vB false]),(19,.ptr 20 0),(20,.agg [vL enc_i64 out_first,vL enc_i64 out_last,vB out_null])],Wk.pick [3,13,14,19,20] (by kernel_rfl),?_⟩
    show Sem _ _ _ _ _
    refine sD kk [] [19,20] [(14,.agg [vL enc_i64 out_first,vL enc_i64 out_last,vB out_null])] obN ?_
    refine tD ?_
    obtain ⟨he0,he1⟩:=h
    subst res fin
    exact (endD [] (.agg [vL enc_i64 out_first,vL enc_i64 out_last,vB out_null]) [.agg [oL 33 enc_arr4_uint64 o0_sets_1,oL 30 encs_i64 o0_follow_1]]).1
  ·refine sD kk [] [] [(85,vB (decide (api_Rx.Hi x < (0:Int))))] obN ?_
   refine cD (t:=28) (b:=decide (api_Rx.Hi x < (0:Int))) (fun hb30=>?_) (fun hb30=>?_)
   ·have h:=h.1 hb30
    obtain ⟨h31,h⟩:=h
    obtain ⟨h32,h⟩:=h
    refine sDE kk [] [85] [(22,AV.ep (16:Nat) (0:Nat) ((0:Nat)+Int.toNat (w64 ((↑(List.length (List.map enc_place_piece r0_1)):Int) - 1))) (0:Nat))] [(22,AV.ep (16:Nat) (0:Nat) (Int.toNat (w64 ((↑(List.length r0_1):Int) - 1))) (0:Nat))] (obC (show (0:Int)≤w64 ((↑(List.length (List.map enc_place_piece r0_1)):Int) - 1) from by simpa only [nm] using h31) (obC (show Int.toNat (w64 ((↑(List.length (List.map enc_place_piece r0_1)):Int) - 1)) < List.length (List.map enc_place_piece r0_1) from by simpa only [nm] using h32) obN)) ?_
    obtain ⟨h33,h⟩:=h
    obtain ⟨h34,h⟩:=h
    obtain ⟨o_5,hc35,h⟩:=h
    refine sD kk [.e (fv_place_piece (gd r0_1 (w64 ((↑(List.length r0_1):Int) - 1)))),.e (fv_place_piece (gd r0_1 (w64 ((↑(List.length r0_1):Int) - 1)))),.c (.tup []) [ao_place_builder o_5]] [] [(3,ao_place_builder o_5)] (obC (idx_ok' enc_place_piece r0_1 (Int.toNat (w64 ((↑(List.length r0_1):Int) - 1))) _ (enc_place_piece_eq _) h33) (obC (idx_ok' enc_place_piece r0_1 (Int.toNat (w64 ((↑(List.length r0_1):Int) - 1))) _ (enc_place_piece_eq _) h34) (obC hc35 obN))) ?_
    obtain ⟨h36,h⟩:=h
    rcases Bool.eq_false_or_eq_true (place_piece.null (gd r0_1 (w64 ((↑(List.length r0_1):Int) - 1)))) with hb37 | hb37
    ·have h:=h.1 hb37
     obtain ⟨h39,h⟩:=h
     refine rDE kk [.e (fv_place_piece (gd r0_1 (w64 ((↑(List.length r0_1):Int) - 1)))),.b false,.b false,.b false,.b true,.e (fv_place_piece (gd r0_1 (w64 ((↑(List.length r0_1):Int) - 1))))] [22] [(16,.own 133 (List.set (List.map enc_place_piece r0_1) (Int.toNat (w64 ((↑(List.length r0_1):Int) - 1))) (FV.agg [FV.sl (List.map enc_i64 (place_piece.first (gd r0_1 (w64 ((↑(List.length r0_1):Int) - 1))))),FV.sl (List.map enc_i64 (place_piece.last (gd r0_1 (w64 ((↑(List.length r0_1):Int) - 1))))),FV.pv (Value.bool true)])))] [(16,oL 133 enc_place_piece (List.set r0_1 (Int.toNat (w64 ((↑(List.length r0_1):Int) - 1))) { first:=place_piece.first (gd r0_1 (w64 ((↑(List.length r0_1):Int) - 1))),last:=place_piece.last (gd r0_1 (w64 ((↑(List.length r0_1):Int) - 1))),null:=true }))] (obC (idx_ok' enc_place_piece r0_1 (Int.toNat (w64 ((↑(List.length r0_1):Int) - 1))) _ (enc_place_piece_eq _) h36) (obC (gff hb37) (obC (gff hb37) (obC (gff hb37) (obC hb37 (obC (idx_ok' enc_place_piece r0_1 (Int.toNat (w64 ((↑(List.length r0_1):Int) - 1))) _ (enc_place_piece_eq _) (h39 hb37)) obN)))))) ?_
     exact jD ((place_builder.sets o_5),(place_builder.follow o_5),(List.set r0_1 (Int.toNat (w64 ((↑(List.length r0_1):Int) - 1))) { first:=place_piece.first (gd r0_1 (w64 ((↑(List.length r0_1):Int) - 1))),last:=place_piece.last (gd r0_1 (w64 ((↑(List.length r0_1):Int) - 1))),null:=true })) [] h
    ·have h:=h.2 hb37
     obtain ⟨h38,h⟩:=h
     refine rDE kk [.e (fv_place_piece (gd r0_1 (w64 ((↑(List.length r0_1):Int) - 1)))),.b true,.b true,.b true,.b false,.e (fv_place_piece (gd r0_1 (w64 ((↑(List.length r0_1):Int) - 1))))] [22] [(16,.own 133 (List.set (List.map enc_place_piece r0_1) (Int.toNat (w64 ((↑(List.length r0_1):Int) - 1))) (FV.agg [FV.sl (List.map enc_i64 (place_piece.first (gd r0_1 (w64 ((↑(List.length r0_1):Int) - 1))))),FV.sl (List.map enc_i64 (place_piece.last (gd r0_1 (w64 ((↑(List.length r0_1):Int) - 1))))),FV.pv (Value.bool (api_Rx.Lo x == 0))])))] [(16,oL 133 enc_place_piece (List.set r0_1 (Int.toNat (w64 ((↑(List.length r0_1):Int) - 1))) { first:=place_piece.first (gd r0_1 (w64 ((↑(List.length r0_1):Int) - 1))),last:=place_piece.last (gd r0_1 (w64 ((↑(List.length r0_1):Int) - 1))),null:=api_Rx.Lo x == 0 }))] (obC (idx_ok' enc_place_piece r0_1 (Int.toNat (w64 ((↑(List.length r0_1):Int) - 1))) _ (enc_place_piece_eq _) h36) (obC (gft hb37) (obC (gft hb37) (obC (gft hb37) (obC hb37 (obC (idx_ok' enc_place_piece r0_1 (Int.toNat (w64 ((↑(List.length r0_1):Int) - 1))) _ (enc_place_piece_eq _) (h38 hb37)) obN)))))) ?_
     exact jD ((place_builder.sets o_5),(place_builder.follow o_5),(List.set r0_1 (Int.toNat (w64 ((↑(List.length r0_1):Int) - 1))) { first:=place_piece.first (gd r0_1 (w64 ((↑(List.length r0_1):Int) - 1))),last:=place_piece.last (gd r0_1 (w64 ((↑(List.length r0_1):Int) - 1))),null:=api_Rx.Lo x == 0 })) [] h
   ·have h:=h.2 hb30
    refine Sem.skip' (by kernel_rfl) Wk.refl ?_
    exact jD ((place_builder.sets o),(place_builder.follow o),r0_1) [] h
set_option maxHeartbeats 1000000 in
theorem W_place_builder_piece (x:api_Rx) (b:place_builder) (res:place_piece) (fin:place_builder)
 (h:(((api_Rx.Kind x == (2:Int))=true→(∃ r0:place_piece,∃ o:place_builder,C_place_builder_place (api_Rx.Set x) b r0 o∧(res=r0∧fin=o)))∧((api_Rx.Kind x == (2:Int))=false→(((api_Rx.Kind x == (3:Int))=true→(∃ (Inv12:List arr4_uint64→List (List Int)→List Int→List Int→Bool→Int→Prop) (mu13:List arr4_uint64→List (List Int)→List Int→List Int→Bool→Int→Nat),Inv12 (place_builder.sets b) (place_builder.follow b) ([]) ([]) true 0∧(∀ (o0_sets:List arr4_uint64) (o0_follow:List (List Int)) (out_first:List Int) (out_last:List Int) (out_null:Bool) (t26:Int),Inv12 o0_sets o0_follow out_first out_last out_null t26→(((decide (t26 < (↑(List.length (api_Rx.Kids x)):Int)))=true→((0:Int)≤t26)∧t26 < ↑(List.length (api_Rx.Kids x))∧(∃ r0_5:place_piece,∃ o_5:place_builder,C_place_builder_piece (gd (api_Rx.Kids x) t26) ({ sets:=o0_sets,follow:=o0_follow }) r0_5 o_5∧(∃ r0_6:place_piece,∃ o_6:place_builder,C_place_builder_cat ({ first:=out_first,last:=out_last,null:=out_null }) r0_5 o_5 r0_6 o_6∧(Inv12 (place_builder.sets o_6) (place_builder.follow o_6) (place_piece.first r0_6) (place_piece.last r0_6) (place_piece.null r0_6) (w64 (t26+1))∧mu13 (place_builder.sets o_6) (place_builder.follow o_6) (place_piece.first r0_6) (place_piece.last r0_6) (place_piece.null r0_6) (w64 (t26+1)) < mu13 o0_sets o0_follow out_first out_last out_null t26))))∧((decide (t26 < (↑(List.length (api_Rx.Kids x)):Int)))=false→(res=({ first:=out_first,last:=out_last,null:=out_null })∧fin=({ sets:=o0_sets,follow:=o0_follow })))))))∧((api_Rx.Kind x == (3:Int))=false→(((api_Rx.Kind x == (4:Int))=true→(∃ (Inv32:List arr4_uint64→List (List Int)→List Int→List Int→Bool→Int→Prop) (mu33:List arr4_uint64→List (List Int)→List Int→List Int→Bool→Int→Nat),Inv32 (place_builder.sets b) (place_builder.follow b) ([]) ([]) false 0∧(∀ (o0_sets_1:List arr4_uint64) (o0_follow_1:List (List Int)) (out_first_1:List Int) (out_last_1:List Int) (out_null_1:Bool) (t43:Int),Inv32 o0_sets_1 o0_follow_1 out_first_1 out_last_1 out_null_1 t43→(((decide (t43 < (↑(List.length (api_Rx.Kids x)):Int)))=true→((0:Int)≤t43)∧t43 < ↑(List.length (api_Rx.Kids x))∧(∃ r0_13:place_piece,∃ o_9:place_builder,C_place_builder_piece (gd (api_Rx.Kids x) t43) ({ sets:=o0_sets_1,follow:=o0_follow_1 }) r0_13 o_9∧(∃ r0_14:List Int,C_place_Join_int out_first_1 (place_piece.first r0_13) r0_14∧(∃ r0_15:List Int,C_place_Join_int out_last_1 (place_piece.last r0_13) r0_15∧(Inv32 (place_builder.sets o_9) (place_builder.follow o_9) r0_14 r0_15 (out_null_1 || place_piece.null r0_13) (w64 (t43+1))∧mu33 (place_builder.sets o_9) (place_builder.follow o_9) r0_14 r0_15 (out_null_1 || place_piece.null r0_13) (w64 (t43+1)) < mu33 o0_sets_1 o0_follow_1 out_first_1 out_last_1 out_null_1 t43)))))∧((decide (t43 < (↑(List.length (api_Rx.Kids x)):Int)))=false→(res=({ first:=out_first_1,last:=out_last_1,null:=out_null_1 })∧fin=({ sets:=o0_sets_1,follow:=o0_follow_1 })))))))∧((api_Rx.Kind x == (4:Int))=false→(((api_Rx.Kind x == (5:Int))=true→(∃ r0_16:place_piece,∃ o_10:place_builder,C_place_builder_rep x b r0_16 o_10∧(res=r0_16∧fin=o_10)))∧((api_Rx.Kind x == (5:Int))=false→(res=({ first:=[],last:=[],null:=true })∧fin=b)))))))))):C_place_builder_piece x b res fin:=by
 unfold C_place_builder_piece
 have kk:=cfOk [37,68] 75
 refine fD (x:=bodyOf Try.f91) kk Try.func91 ?_
 refine wkS [1,3,4] [(1,.ptr 3 0),(3,ao_place_builder b),(4,av_api_Rx x)] (by kernel_rfl) ?_
 refine sDE kk [] [4] [(10,.ptr 11 0),(11,av_api_Rx x),(13,.ptr 14 0),(14,.agg [.own 3 ([]),.own 3 ([]),vB false])] [(10,.ptr 11 0),(11,av_api_Rx x),(13,.ptr 14 0),(14,.agg [oL 3 enc_i64 ([]),oL 3 enc_i64 ([]),vB false])] obN ?_
 refine qD ?_
 refine sD kk [] [] [(40,vi (api_Rx.Kind x))] obN ?_
 refine bD (id:=0) ?_
 refine sD kk [] [] [(43,vB (api_Rx.Kind x == (2:Int)))] obN ?_
 refine cD (t:=14) (b:=api_Rx.Kind x == (2:Int)) (fun hb0=>?_) (fun hb0=>?_)
 ·have h:=h.1 hb0
  obtain ⟨r0,o,hc1,h⟩:=h
  refine sD kk [.c (av_place_piece r0) [ao_place_builder o]] [1,10,11,40,43] [(3,ao_place_builder o),(14,av_place_piece r0)] (obC hc1 obN) ?_
  refine tD ?_
  obtain ⟨he0,he1⟩:=h
  subst res fin
  exact (endD [] (av_place_piece r0) [ao_place_builder o]).1
 ·have h:=h.2 hb0
  refine sD kk [] [43] [(61,vB (api_Rx.Kind x == (3:Int)))] obN ?_
  refine cD (t:=20) (b:=api_Rx.Kind x == (3:Int)) (fun hb2=>?_) (fun hb2=>?_)
  ·have h:=h.1 hb2
   refine sDE kk [] [40,61] [(16,.ptr 17 0),(17,.agg [.own 3 ([]),.own 3 ([]),vB true])] [(16,.ptr 17 0),(17,.agg [oL 3 enc_i64 ([]),oL 3 enc_i64 ([]),vB true])] obN ?_
   refine qD ?_
   refine sDE kk [] [10,11] [(73,vL enc_api_Rx (api_Rx.Kids x)),(76,vi ((↑(List.length (List.map enc_api_Rx (api_Rx.Kids x))):Int))),(79,vi 0)] [(73,vL enc_api_Rx (api_Rx.Kids x)),(76,vi ((↑(List.length (api_Rx.Kids x)):Int))),(79,vi 0)] obN ?_
   refine bD (id:=1) ?_
   obtain ⟨Inv12,mu13,h0Inv12,hInv12⟩:=h
   refine loD (fun (q:List arr4_uint64×List (List Int)×List Int×List Int×Bool×Int)=>(fun (o0_sets:List arr4_uint64) (o0_follow:List (List Int)) (out_first:List Int) (out_last:List Int) (out_null:Bool) (t26:Int)=>([(1,.ptr 3 0),(3,.agg [oL 33 enc_arr4_uint64 o0_sets,oL 30 encs_i64 o0_follow]),(13,.ptr 14 0),(14,.agg [oL 3 enc_i64 ([]),oL 3 enc_i64 ([]),vB false]),(16,.ptr 17 0),(17,.agg [vL enc_i64 out_first,vL enc_i64 out_last,vB out_null]),(73,vL enc_api_Rx (api_Rx.Kids x)),(76,vi ((↑(List.length (api_Rx.Kids x)):Int))),(79,vi t26)]:Sta)) q.1 q.2.1 q.2.2.1 q.2.2.2.1 q.2.2.2.2.1 q.2.2.2.2.2) (fun (q:List arr4_uint64×List (List Int)×List Int×List Int×Bool×Int)=>Inv12 q.1 q.2.1 q.2.2.1 q.2.2.2.1 q.2.2.2.2.1 q.2.2.2.2.2) (fun (q:List arr4_uint64×List (List Int)×List Int×List Int×Bool×Int)=>mu13 q.1 q.2.1 q.2.2.1 q.2.2.2.1 q.2.2.2.2.1 q.2.2.2.2.2) ((place_builder.sets b),(place_builder.follow b),([]),([]),true,0) [(17,0),(17,1)] h0Inv12 ?_
   rintro ⟨o0_sets,o0_follow,out_first,out_last,out_null,t26⟩ hi
   have h:=hInv12 o0_sets o0_follow out_first out_last out_null t26 hi
   refine sD kk [] [] [(82,vB (decide (t26 < (↑(List.length (api_Rx.Kids x)):Int))))] obN ?_
   refine qD ?_
   refine cD (t:=27) (b:=decide (t26 < (↑(List.length (api_Rx.Kids x)):Int))) (fun hb14=>?_) (fun hb14=>?_)
   ·have h:=h.1 hb14
    refine Sem.skip' (by kernel_rfl) Wk.refl ?_
    show Sem _ _ _ _ _
    refine wkD [82] ?_
    refine qD ?_
    refine bD (id:=2) ?_
    obtain ⟨h15,h⟩:=h
    obtain ⟨h16,h⟩:=h
    refine sD kk [.e (fv_api_Rx (gd (api_Rx.Kids x) t26))] [] [(22,.ptr 23 0),(23,av_api_Rx (gd (api_Rx.Kids x) t26))] (obC h15 (obC (idx_ok enc_api_Rx (api_Rx.Kids x) t26 _ (enc_api_Rx_eq _) h15 h16) obN)) ?_
    obtain ⟨r0_5,o_5,hc17,h⟩:=h
    obtain ⟨r0_6,o_6,hc18,h⟩:=h
    refine rD kk [.c (av_place_piece r0_5) [ao_place_builder o_5],.c (av_place_piece r0_6) [ao_place_builder o_6]] [22,23] [(3,ao_place_builder o_6),(17,av_place_piece r0_6)] (obC hc17 (obC hc18 obN)) ?_
    show Sem _ _ _ _ _
    refine rD kk [] [] [(79,vi (w64 (t26+1)))] obN ?_
    exact lD ((place_builder.sets o_6),(place_builder.follow o_6),(place_piece.first r0_6),(place_piece.last r0_6),(place_piece.null r0_6),(w64 (t26+1))) [] h
   ·have h:=h.2 hb14
    refine xD (i:=1) ?_
    show Sem _ _ _ _ _
    refine wkD [1,73,76,79,82] ?_
    refine sD kk [] [16,17] [(14,.agg [vL enc_i64 out_first,vL enc_i64 out_last,vB out_null])] obN ?_
    refine tD ?_
    obtain ⟨he0,he1⟩:=h
    subst res fin
    exact (endD [] (.agg [vL enc_i64 out_first,vL enc_i64 out_last,vB out_null]) [.agg [oL 33 enc_arr4_uint64 o0_sets,oL 30 encs_i64 o0_follow]]).1
  ·have h:=h.2 hb2
   refine sD kk [] [61] [(115,vB (api_Rx.Kind x == (4:Int)))] obN ?_
   refine cD (t:=38) (b:=api_Rx.Kind x == (4:Int)) (fun hb19=>?_) (fun hb19=>?_)
   ·have h:=h.1 hb19
    refine sDE kk [] [40,115] [(25,.ptr 26 0),(26,.agg [.own 3 ([]),.own 3 ([]),vB false])] [(25,.ptr 26 0),(26,.agg [oL 3 enc_i64 ([]),oL 3 enc_i64 ([]),vB false])] obN ?_
    refine qD ?_
    refine sDE kk [] [10,11] [(124,vL enc_api_Rx (api_Rx.Kids x)),(127,vi ((↑(List.length (List.map enc_api_Rx (api_Rx.Kids x))):Int))),(130,vi 0)] [(124,vL enc_api_Rx (api_Rx.Kids x)),(127,vi ((↑(List.length (api_Rx.Kids x)):Int))),(130,vi 0)] obN ?_
    refine bD (id:=3) ?_
    obtain ⟨Inv32,mu33,h0Inv32,hInv32⟩:=h
    refine loD (fun (q:List arr4_uint64×List (List Int)×List Int×List Int×Bool×Int)=>(fun (o0_sets_1:List arr4_uint64) (o0_follow_1:List (List Int)) (out_first_1:List Int) (out_last_1:List Int) (out_null_1:Bool) (t43:Int)=>([(1,.ptr 3 0),(3,.agg [oL 33 enc_arr4_uint64 o0_sets_1,oL 30 encs_i64 o0_follow_1]),(13,.ptr 14 0),(14,.agg [oL 3 enc_i64 ([]),oL 3 enc_i64 ([]),vB false]),(25,.ptr 26 0),(26,.agg [vL enc_i64 out_first_1,vL enc_i64 out_last_1,vB out_null_1]),(124,vL enc_api_Rx (api_Rx.Kids x)),(127,vi ((↑(List.length (api_Rx.Kids x)):Int))),(130,vi t43)]:Sta)) q.1 q.2.1 q.2.2.1 q.2.2.2.1 q.2.2.2.2.1 q.2.2.2.2.2) (fun (q:List arr4_uint64×List (List Int)×List Int×List Int×Bool×Int)=>Inv32 q.1 q.2.1 q.2.2.1 q.2.2.2.1 q.2.2.2.2.1 q.2.2.2.2.2) (fun (q:List arr4_uint64×List (List Int)×List Int×List Int×Bool×Int)=>mu33 q.1 q.2.1 q.2.2.1 q.2.2.2.1 q.2.2.2.2.1 q.2.2.2.2.2) ((place_builder.sets b),(place_builder.follow b),([]),([]),false,0) [(26,0),(26,1)] h0Inv32 ?_
    rintro ⟨o0_sets_1,o0_follow_1,out_first_1,out_last_1,out_null_1,t43⟩ hi
    have h:=hInv32 o0_sets_1 o0_follow_1 out_first_1 out_last_1 out_null_1 t43 hi
    refine sD kk [] [] [(133,vB (decide (t43 < (↑(List.length (api_Rx.Kids x)):Int))))] obN ?_
    refine qD ?_
    refine cD (t:=44) (b:=decide (t43 < (↑(List.length (api_Rx.Kids x)):Int))) (fun hb34=>?_) (fun hb34=>?_)
    ·have h:=h.1 hb34
     refine Sem.skip' (by kernel_rfl) Wk.refl ?_
     show Sem _ _ _ _ _
     refine wkD [133] ?_
     refine qD ?_
     refine bD (id:=4) ?_
     obtain ⟨h35,h⟩:=h
     obtain ⟨h36,h⟩:=h
     refine sD kk [.e (fv_api_Rx (gd (api_Rx.Kids x) t43))] [] [(31,.ptr 32 0),(32,av_api_Rx (gd (api_Rx.Kids x) t43))] (obC h35 (obC (idx_ok enc_api_Rx (api_Rx.Kids x) t43 _ (enc_api_Rx_eq _) h35 h36) obN)) ?_
     obtain ⟨r0_13,o_9,hc37,h⟩:=h
     refine sD kk [.c (av_place_piece r0_13) [ao_place_builder o_9]] [31,32] [(3,ao_place_builder o_9),(34,.ptr 35 0),(35,av_place_piece r0_13)] (obC hc37 obN) ?_
     obtain ⟨r0_14,hc38,h⟩:=h
     obtain ⟨r0_15,hc39,h⟩:=h
     refine rM [34,35] [(26,.agg [vL enc_i64 r0_14,vL enc_i64 r0_15,vB (out_null_1 || place_piece.null r0_13)])] ?_ (fun hk0=>?_)
     ·show Sem _ _ _ _ _
      refine rD kk [] [] [(130,vi (w64 (t43+1)))] obN ?_
      exact lD ((place_builder.sets o_9),(place_builder.follow o_9),r0_14,r0_15,(out_null_1 || place_piece.null r0_13),(w64 (t43+1))) [] h
     ·rcases Bool.eq_false_or_eq_true (out_null_1) with hb40 | hb40
      ·refine rD kk [.c (vL enc_i64 r0_14) [],.c (vL enc_i64 r0_15) [],.b false,.b false,.b true] [34,35] [(26,.agg [vL enc_i64 r0_14,vL enc_i64 r0_15,vB true])] (obC hc38 (obC hc39 (obC (gff hb40) (obC (gff hb40) (obC hb40 obN))))) ?_
       exact kcast (by try rw [hb40];kernel_rfl) hk0
      ·refine rD kk [.c (vL enc_i64 r0_14) [],.c (vL enc_i64 r0_15) [],.b true,.b true,.b false] [34,35] [(26,.agg [vL enc_i64 r0_14,vL enc_i64 r0_15,vB (place_piece.null r0_13)])] (obC hc38 (obC hc39 (obC (gft hb40) (obC (gft hb40) (obC hb40 obN))))) ?_
       exact kcast (by try rw [hb40];kernel_rfl) hk0
    ·have h:=h.2 hb34
     refine xD (i:=3) ?_
     show Sem _ _ _ _ _
     refine wkD [1,124,127,130,133] ?_
     refine sD kk [] [25,26] [(14,.agg [vL enc_i64 out_first_1,vL enc_i64 out_last_1,vB out_null_1])] obN ?_
     refine tD ?_
     obtain ⟨he0,he1⟩:=h
     subst res fin
     exact (endD [] (.agg [vL enc_i64 out_first_1,vL enc_i64 out_last_1,vB out_null_1]) [.agg [oL 33 enc_arr4_uint64 o0_sets_1,oL 30 encs_i64 o0_follow_1]]).1
   ·have h:=h.2 hb19
    refine sD kk [] [40,115] [(208,vB (api_Rx.Kind x == (5:Int)))] obN ?_
    refine cD (t:=69) (b:=api_Rx.Kind x == (5:Int)) (fun hb41=>?_) (fun hb41=>?_)
    ·have h:=h.1 hb41
     obtain ⟨r0_16,o_10,hc42,h⟩:=h
     refine sD kk [.c (av_place_piece r0_16) [ao_place_builder o_10]] [1,10,11,208] [(3,ao_place_builder o_10),(14,av_place_piece r0_16)] (obC hc42 obN) ?_
     refine tD ?_
     obtain ⟨he0,he1⟩:=h
     subst res fin
     exact (endD [] (av_place_piece r0_16) [ao_place_builder o_10]).1
    ·have h:=h.2 hb41
     refine Sem.skip' (by kernel_rfl) Wk.refl ?_
     show Sem _ _ _ _ _
     refine wkD [1,10,11,208] ?_
     refine sDE kk [] [] [(14,.agg [.own 3 ([]),.own 3 ([]),vB true])] [(14,.agg [oL 3 enc_i64 ([]),oL 3 enc_i64 ([]),vB true])] obN ?_
     refine tD ?_
     obtain ⟨he0,he1⟩:=h
     subst res fin
     exact (endD [(14,0),(14,1)] (.agg [vL enc_i64 ([]),vL enc_i64 ([]),vB true]) [ao_place_builder b]).1
set_option maxHeartbeats 1000000 in
theorem W_place_Of (x:api_Rx) (res:api_Places) (res_1:Int)
 (h:(∃ r0:Bool,C_rx_Right x r0∧(((!r0)=true→(res=({ Sets:=[],First:=[],Last:=[],Follow:=[],Null:=false })∧res_1=1))∧((!r0)=false→(∃ r0_1:place_piece,∃ o:place_builder,C_place_builder_piece x ({ sets:=[],follow:=[] }) r0_1 o∧(res=({ Sets:=place_builder.sets o,First:=place_piece.first r0_1,Last:=place_piece.last r0_1,Follow:=place_builder.follow o,Null:=place_piece.null r0_1 })∧res_1=0)))))):C_place_Of x res res_1:=by
 unfold C_place_Of
 have kk:=cfOk [] 30
 refine fD (x:=bodyOf Try.f60) kk Try.func60 ?_
 refine wkS [1] [(1,av_api_Rx x)] (by kernel_rfl) ?_
 refine sDE kk [] [1] [(4,.ptr 5 0),(5,av_api_Rx x),(7,.ptr 8 0),(8,.agg [.own 33 ([]),.own 3 ([]),.own 3 ([]),.own 30 ([]),vB false])] [(4,.ptr 5 0),(5,av_api_Rx x),(7,.ptr 8 0),(8,.agg [oL 33 enc_arr4_uint64 ([]),oL 3 enc_i64 ([]),oL 3 enc_i64 ([]),oL 30 encs_i64 ([]),vB false])] obN ?_
 refine qD ?_
 obtain ⟨r0,hc0,h⟩:=h
 refine sD kk [.c (vB r0) []] [] [(25,vB (!r0))] (obC hc0 obN) ?_
 refine cD (t:=8) (b:=!r0) (fun hb1=>?_) (fun hb1=>?_)
 ·have h:=h.1 hb1
  refine sDE kk [] [4,5,25] [(8,.agg [.own 33 ([]),.own 3 ([]),.own 3 ([]),.own 30 ([]),vB false]),(10,vi 1)] [(8,.agg [oL 33 enc_arr4_uint64 ([]),oL 3 enc_i64 ([]),oL 3 enc_i64 ([]),oL 30 encs_i64 ([]),vB false]),(10,vi 1)] obN ?_
  refine tD ?_
  obtain ⟨he0,he1⟩:=h
  subst res res_1
  exact (endD [] (.tup [.agg [.f (FV.sl (List.take (List.length (List.map enc_arr4_uint64 [])) (List.drop (0:Nat) (List.map enc_arr4_uint64 [])))),.f (FV.sl (List.take (List.length (List.map enc_i64 [])) (List.drop (0:Nat) (List.map enc_i64 [])))),.f (FV.sl (List.take (List.length (List.map enc_i64 [])) (List.drop (0:Nat) (List.map enc_i64 [])))),.f (FV.sl (List.take (List.length (List.map encs_i64 [])) (List.drop (0:Nat) (List.map encs_i64 [])))),vB false],vi 1]) []).1
 ·have h:=h.2 hb1
  refine Sem.skip' (by kernel_rfl) Wk.refl ?_
  show Sem _ _ _ _ _
  refine wkD [25] ?_
  refine sDE kk [] [] [(13,.ptr 35 0),(35,.agg [.own 33 ([]),.own 30 ([])])] [(13,.ptr 35 0),(35,.agg [oL 33 enc_arr4_uint64 ([]),oL 30 encs_i64 ([])])] obN ?_
  obtain ⟨r0_1,o,hc2,h⟩:=h
  refine sD kk [.c (av_place_piece r0_1) [ao_place_builder o]] [4,5] [(16,.ptr 17 0),(17,av_place_piece r0_1),(35,ao_place_builder o)] (obC hc2 obN) ?_
  refine sDE kk [] [13,16,17,35] [(8,.agg [.f (FV.sl (List.take (List.length (List.map enc_arr4_uint64 (place_builder.sets o))) (List.drop (0:Nat) (List.map enc_arr4_uint64 (place_builder.sets o))))),vL enc_i64 (place_piece.first r0_1),vL enc_i64 (place_piece.last r0_1),.f (FV.sl (List.take (List.length (List.map encs_i64 (place_builder.follow o))) (List.drop (0:Nat) (List.map encs_i64 (place_builder.follow o))))),vB (place_piece.null r0_1)]),(10,vi 0)] [(8,.agg [vL enc_arr4_uint64 (place_builder.sets o),vL enc_i64 (place_piece.first r0_1),vL enc_i64 (place_piece.last r0_1),vL encs_i64 (place_builder.follow o),vB (place_piece.null r0_1)]),(10,vi 0)] obN ?_
  refine tD ?_
  obtain ⟨he0,he1⟩:=h
  subst res res_1
  exact (endD [] (.tup [.agg [vL enc_arr4_uint64 (place_builder.sets o),vL enc_i64 (place_piece.first r0_1),vL enc_i64 (place_piece.last r0_1),vL encs_i64 (place_builder.follow o),vB (place_piece.null r0_1)],vi 0]) []).1
set_option maxHeartbeats 1000000 in
theorem W_slices_Index__int_int (s0:(List Int)) (v:Int) (res:Int)
 (h:(∃ (Inv7:Int→Prop) (mu8:Int→Nat),Inv7 0∧(∀ (t8:Int),Inv7 t8→(((decide (t8 < (↑(List.length s0):Int)))=true→((0:Int)≤t8)∧t8 < ↑(List.length s0)∧(((v == gd s0 t8)=true→(res=t8))∧((v == gd s0 t8)=false→(Inv7 (w64 (t8+1))∧mu8 (w64 (t8+1)) < mu8 t8))))∧((decide (t8 < (↑(List.length s0):Int)))=false→(res=(-1))))))):C_slices_Index__int_int s0 v res:=by
 unfold C_slices_Index__int_int
 have kk:=cfOk [17] 19
 refine fD (x:=bodyOf Try.f92) kk Try.func92 ?_
 refine wkS [1,4] [(1,vL enc_i64 s0),(4,vi v)] (by kernel_rfl) ?_
 refine sD kk [] [] [] obN ?_
 refine qD ?_
 refine sDE kk [] [] [(22,vi ((↑(List.length (List.map enc_i64 s0)):Int))),(25,vi 0)] [(22,vi ((↑(List.length s0):Int))),(25,vi 0)] obN ?_
 refine bD (id:=0) ?_
 obtain ⟨Inv7,mu8,h0Inv7,hInv7⟩:=h
 refine loD (fun (q:Int)=>(fun (t8:Int)=>([(1,vL enc_i64 s0),(4,vi v),(22,vi ((↑(List.length s0):Int))),(25,vi t8)]:Sta)) q) (fun (q:Int)=>Inv7 q) (fun (q:Int)=>mu8 q) 0 [] h0Inv7 ?_
 rintro t8 hi
 have h:=hInv7 t8 hi
 refine sD kk [] [] [(28,vB (decide (t8 < (↑(List.length s0):Int))))] obN ?_
 refine qD ?_
 refine cD (t:=9) (b:=decide (t8 < (↑(List.length s0):Int))) (fun hb9=>?_) (fun hb9=>?_)
 ·have h:=h.1 hb9
  refine Sem.skip' (by kernel_rfl) Wk.refl ?_
  show Sem _ _ _ _ _
  refine wkD [28] ?_
  refine qD ?_
  refine bD (id:=1) ?_
  refine sD kk [] [] [(16,vi t8)] obN ?_
  obtain ⟨h10,h⟩:=h
  obtain ⟨h11,h⟩:=h
  refine sD kk [.e (fi (gd s0 t8))] [] [(49,vB (v == gd s0 t8))] (obC h10 (obC (idx_ok enc_i64 s0 t8 _ rfl h10 h11) obN)) ?_
  refine cD (t:=16) (b:=v == gd s0 t8) (fun hb12=>?_) (fun hb12=>?_)
  ·have h:=h.1 hb12
   refine sD kk [] [1,4,16,22,25,49] [(13,vi t8)] obN ?_
   refine tD ?_
   obtain he0:=h
   subst res
   exact (endD [] (vi t8) []).1
  ·have h:=h.2 hb12
   refine Sem.skip' (by kernel_rfl) Wk.refl ?_
   show Sem _ _ _ _ _
   refine wkD [16,49] ?_
   refine rD kk [] [] [(25,vi (w64 (t8+1)))] obN ?_
   exact lD (w64 (t8+1)) [] h
 ·have h:=h.2 hb9
  refine xD (i:=0) ?_
  show Sem _ _ _ _ _
  refine wkD [1,4,22,25,28] ?_
  refine sD kk [] [] [(13,vi (-1))] obN ?_
  refine tD ?_
  obtain he0:=h
  subst res
  exact (endD [] (vi (-1)) []).1
set_option maxHeartbeats 1000000 in
theorem W_slices_Contains__int_int (s0:(List Int)) (v:Int) (res:Bool)
 (h:(∃ r0:Int,C_slices_Index__int_int s0 v r0∧(res=(decide (r0≥(0:Int)))))):C_slices_Contains__int_int s0 v res:=by
 unfold C_slices_Contains__int_int
 have kk:=cfOk [] 9
 refine fD (x:=bodyOf Try.f63) kk Try.func63 ?_
 refine wkS [1,4] [(1,vL enc_i64 s0),(4,vi v)] (by kernel_rfl) ?_
 refine sD kk [] [] [] obN ?_
 obtain ⟨r0,hc0,h⟩:=h
 refine sD kk [.c (vi r0) []] [1,4] [(13,vB (decide (r0≥(0:Int))))] (obC hc0 obN) ?_
 refine tD ?_
 obtain he0:=h
 subst res
 exact (endD [] (vB (decide (r0≥(0:Int)))) []).1
set_option maxHeartbeats 1000000 in
theorem W_split_ahead_L1 (k:Int) (v:api_Places) (v_1:ByteArray) (v_2:Int) (res:Bool) (fin:api_Places) (fin_1:ByteArray) (fin_2:Int)
 (h:((0:Int)≤k)∧k < ↑(List.length (api_Places.Sets v))∧((0:Int)≤v_2)∧v_2 < ↑(ByteArray.size v_1)∧(∃ r0:Bool,C_set_Has (gd (api_Places.Sets v) k) (w64 (↑(UInt8.toNat (byteAt v_1 v_2)):Int)) r0∧(res=r0∧fin=v∧fin_1=v_1∧fin_2=v_2))):C_split_ahead_L1 k v v_1 v_2 res fin fin_1 fin_2:=by
 unfold C_split_ahead_L1
 have kk:=cfOk [] 16
 refine fD (x:=bodyOf Try.f61) kk Try.func61 ?_
 refine wkS [1,3,4,6,7,9,10] [(1,vi k),(3,av_api_Places v),(4,.ptr 3 0),(6,vS v_1),(7,.ptr 6 0),(9,vi v_2),(10,.ptr 9 0)] (by kernel_rfl) ?_
 refine sD kk [] [] [] obN ?_
 obtain ⟨h0,h⟩:=h
 obtain ⟨h1,h⟩:=h
 obtain ⟨h2,h⟩:=h
 obtain ⟨h3,h⟩:=h
 obtain ⟨r0,hc4,h⟩:=h
 refine sD kk [.e (fv_arr4_uint64 (gd (api_Places.Sets v) k)),.y (byteAt v_1 v_2),.c (vB r0) []] [1,4,7,10] [(16,vB r0)] (obC h0 (obC (idx_ok enc_arr4_uint64 (api_Places.Sets v) k _ (enc_arr4_uint64_eq _) h0 h1) (obC h2 (obC (byte_ok v_1 v_2 h2 h3) (obC hc4 obN))))) ?_
 refine tD ?_
 obtain ⟨he0,he1,he2,he3⟩:=h
 subst res fin fin_1 fin_2
 exact (endD [] (vB r0) [av_api_Places v,vS v_1,vi v_2]).1
set_option maxHeartbeats 1000000 in
theorem W_split_ahead (x:api_Rx) (s0:ByteArray) (res:(List Bool))
 (h:(∃ r0:api_Places,∃ r0_1:Int,C_place_Of x r0 r0_1∧(∃ (Inv122:ByteArray→List arr4_uint64→List Int→List Int→List (List Int)→Bool→List Bool→List Int→Int→Prop) (mu123:ByteArray→List arr4_uint64→List Int→List Int→List (List Int)→Bool→List Bool→List Int→Int→Nat),Inv122 s0 (api_Places.Sets r0) (api_Places.First r0) (api_Places.Last r0) (api_Places.Follow r0) (api_Places.Null r0) ([api_Places.Null r0]) (api_Places.First r0) 0∧(∀ (s0_5:ByteArray) (p_Sets_4:List arr4_uint64) (p_First_4:List Int) (p_Last_4:List Int) (p_Follow_4:List (List Int)) (p_Null_4:Bool) (out:List Bool) (next:List Int) (t27:Int),Inv122 s0_5 p_Sets_4 p_First_4 p_Last_4 p_Follow_4 p_Null_4 out next t27→(((decide (t27 < (↑(ByteArray.size s0):Int)))=true→(∃ (Inv161:ByteArray→List arr4_uint64→List Int→List Int→List (List Int)→Bool→Int→List Int→Bool→Int→Prop) (mu162:ByteArray→List arr4_uint64→List Int→List Int→List (List Int)→Bool→Int→List Int→Bool→Int→Nat),Inv161 s0_5 p_Sets_4 p_First_4 p_Last_4 p_Follow_4 p_Null_4 t27 ([]) false 0∧(∀ (s0_11:ByteArray) (p_Sets_10:List arr4_uint64) (p_First_10:List Int) (p_Last_10:List Int) (p_Follow_10:List (List Int)) (p_Null_10:Bool) (i_9:Int) (then0_9:List Int) (is_9:Bool) (t33_2:Int),Inv161 s0_11 p_Sets_10 p_First_10 p_Last_10 p_Follow_10 p_Null_10 i_9 then0_9 is_9 t33_2→(((decide (t33_2 < (↑(List.length next):Int)))=true→(∃ J173:ByteArray→List arr4_uint64→List Int→List Int→List (List Int)→Bool→Int→List Int→Bool→Prop,(∀ (s0_13:ByteArray) (p_Sets_12:List arr4_uint64) (p_First_12:List Int) (p_Last_12:List Int) (p_Follow_12:List (List Int)) (p_Null_12:Bool) (i_11:Int) (then0_11:List Int) (is_11:Bool),J173 s0_13 p_Sets_12 p_First_12 p_Last_12 p_Follow_12 p_Null_12 i_11 then0_11 is_11→(Inv161 s0_13 p_Sets_12 p_First_12 p_Last_12 p_Follow_12 p_Null_12 i_11 then0_11 is_11 (w64 (t33_2+1))∧mu162 s0_13 p_Sets_12 p_First_12 p_Last_12 p_Follow_12 p_Null_12 i_11 then0_11 is_11 (w64 (t33_2+1)) < mu162 s0_11 p_Sets_10 p_First_10 p_Last_10 p_Follow_10 p_Null_10 i_9 then0_9 is_9 t33_2))∧((0:Int)≤t33_2)∧t33_2 < ↑(List.length next)∧(∃ r0_38:Bool,∃ o_51:api_Places,∃ o_52:ByteArray,∃ o_53:Int,C_split_ahead_L1 (gd next t33_2) ({ Sets:=p_Sets_10,First:=p_First_10,Last:=p_Last_10,Follow:=p_Follow_10,Null:=p_Null_10 }) s0_11 i_9 r0_38 o_51 o_52 o_53∧(((r0_38)=true→((0:Int)≤gd next t33_2)∧gd next t33_2 < ↑(List.length (api_Places.Follow o_51))∧((List.length then0_9+List.length (gd (api_Places.Follow o_51) (gd next t33_2))) * (8:Nat)≤(2:Nat) ^ (47:Nat))∧(((is_9)=true→J173 o_52 (api_Places.Sets o_51) (api_Places.First o_51) (api_Places.Last o_51) (api_Places.Follow o_51) (api_Places.Null o_51) o_53 (then0_9++gd (api_Places.Follow o_51) (gd next t33_2)) true)∧((is_9)=false→(∃ r0_39:Bool,C_slices_Contains__int_int (api_Places.Last o_51) (gd next t33_2) r0_39∧J173 o_52 (api_Places.Sets o_51) (api_Places.First o_51) (api_Places.Last o_51) (api_Places.Follow o_51) (api_Places.Null o_51) o_53 (then0_9++gd (api_Places.Follow o_51) (gd next t33_2)) r0_39))))∧((r0_38)=false→J173 o_52 (api_Places.Sets o_51) (api_Places.First o_51) (api_Places.Last o_51) (api_Places.Follow o_51) (api_Places.Null o_51) o_53 then0_9 is_9)))))∧((decide (t33_2 < (↑(List.length next):Int)))=false→(∃ r0_40:List Int,C_place_Join_int then0_9 ([]) r0_40∧((List.length out+(1:Nat)) * (1:Nat)≤(2:Nat) ^ (47:Nat))∧(Inv122 s0_11 p_Sets_10 p_First_10 p_Last_10 p_Follow_10 p_Null_10 (out++[is_9]) r0_40 (w64 (t27+1))∧mu123 s0_11 p_Sets_10 p_First_10 p_Last_10 p_Follow_10 p_Null_10 (out++[is_9]) r0_40 (w64 (t27+1)) < mu123 s0_5 p_Sets_4 p_First_4 p_Last_4 p_Follow_4 p_Null_4 out next t27)))))))∧((decide (t27 < (↑(ByteArray.size s0):Int)))=false→(res=out))))))):C_split_ahead x s0 res:=by
 unfold C_split_ahead
 have kk:=cfOk [62] 63
 refine fD (x:=bodyOf Try.f30) kk Try.func30 ?_
 refine wkS [1,4] [(1,av_api_Rx x),(4,vS s0)] (by kernel_rfl) ?_
 refine sD kk [] [1,4] [(7,.ptr 8 0),(8,av_api_Rx x),(10,.ptr 11 0),(11,vS s0)] obN ?_
 obtain ⟨r0,r0_1,hc0,h⟩:=h
 refine sD kk [.c (.tup [av_api_Places r0,vi r0_1]) []] [7,8] [(16,.ptr 17 0),(17,av_api_Places r0)] (obC hc0 obN) ?_
 refine sDE kk [] [] [(22,.own 4 ([FV.pv (Value.bool (api_Places.Null r0))]))] [(22,oL 4 enc_bool ([api_Places.Null r0]))] obN ?_
 refine sD kk [] [] [(25,vL enc_i64 (api_Places.First r0))] obN ?_
 refine qD ?_
 refine sD kk [] [] [(79,vi ((↑(ByteArray.size s0):Int))),(82,vi 0)] obN ?_
 refine bD (id:=0) ?_
 obtain ⟨Inv122,mu123,h0Inv122,hInv122⟩:=h
 refine loD (fun (q:ByteArray×List arr4_uint64×List Int×List Int×List (List Int)×Bool×List Bool×List Int×Int)=>(fun (s0_5:ByteArray) (p_Sets_4:List arr4_uint64) (p_First_4:List Int) (p_Last_4:List Int) (p_Follow_4:List (List Int)) (p_Null_4:Bool) (out:List Bool) (next:List Int) (t27:Int)=>([(10,.ptr 11 0),(11,vS s0_5),(16,.ptr 17 0),(17,.agg [vL enc_arr4_uint64 p_Sets_4,vL enc_i64 p_First_4,vL enc_i64 p_Last_4,vL encs_i64 p_Follow_4,vB p_Null_4]),(22,oL 4 enc_bool out),(25,vL enc_i64 next),(79,vi ((↑(ByteArray.size s0):Int))),(82,vi t27)]:Sta)) q.1 q.2.1 q.2.2.1 q.2.2.2.1 q.2.2.2.2.1 q.2.2.2.2.2.1 q.2.2.2.2.2.2.1 q.2.2.2.2.2.2.2.1 q.2.2.2.2.2.2.2.2) (fun (q:ByteArray×List arr4_uint64×List Int×List Int×List (List Int)×Bool×List Bool×List Int×Int)=>Inv122 q.1 q.2.1 q.2.2.1 q.2.2.2.1 q.2.2.2.2.1 q.2.2.2.2.2.1 q.2.2.2.2.2.2.1 q.2.2.2.2.2.2.2.1 q.2.2.2.2.2.2.2.2) (fun (q:ByteArray×List arr4_uint64×List Int×List Int×List (List Int)×Bool×List Bool×List Int×Int)=>mu123 q.1 q.2.1 q.2.2.1 q.2.2.2.1 q.2.2.2.2.1 q.2.2.2.2.2.1 q.2.2.2.2.2.2.1 q.2.2.2.2.2.2.2.1 q.2.2.2.2.2.2.2.2) (s0,(api_Places.Sets r0),(api_Places.First r0),(api_Places.Last r0),(api_Places.Follow r0),(api_Places.Null r0),([api_Places.Null r0]),(api_Places.First r0),0) [] h0Inv122 ?_
 rintro ⟨s0_5,p_Sets_4,p_First_4,p_Last_4,p_Follow_4,p_Null_4,out,next,t27⟩ hi
 have h:=hInv122 s0_5 p_Sets_4 p_First_4 p_Last_4 p_Follow_4 p_Null_4 out next t27 hi
 refine sD kk [] [] [(85,vB (decide (t27 < (↑(ByteArray.size s0):Int))))] obN ?_
 refine qD ?_
 refine cD (t:=28) (b:=decide (t27 < (↑(ByteArray.size s0):Int))) (fun hb124=>?_) (fun hb124=>?_)
 ·have h:=h.1 hb124
  refine Sem.skip' (by kernel_rfl) Wk.refl ?_
  show Sem _ _ _ _ _
  refine wkD [85] ?_
  refine qD ?_
  refine bD (id:=1) ?_
  refine sD kk [] [] [(28,.ptr 29 0),(29,vi t27)] obN ?_
  refine sD kk [] [28] [(31,.clo 61 [.ptr 17 0,.ptr 11 0,.ptr 29 0])] obN ?_
  refine sDE kk [] [] [(34,.own 3 ([]))] [(34,oL 3 enc_i64 ([]))] obN ?_
  refine sD kk [] [] [(37,vB false)] obN ?_
  refine qD ?_
  refine sDE kk [] [25] [(94,vL enc_i64 next),(97,vi ((↑(List.length (List.map enc_i64 next)):Int))),(100,vi 0)] [(94,vL enc_i64 next),(97,vi ((↑(List.length next):Int))),(100,vi 0)] obN ?_
  refine bD (id:=2) ?_
  obtain ⟨Inv161,mu162,h0Inv161,hInv161⟩:=h
  refine loD (fun (q:ByteArray×List arr4_uint64×List Int×List Int×List (List Int)×Bool×Int×List Int×Bool×Int)=>(fun (s0_11:ByteArray) (p_Sets_10:List arr4_uint64) (p_First_10:List Int) (p_Last_10:List Int) (p_Follow_10:List (List Int)) (p_Null_10:Bool) (i_9:Int) (then0_9:List Int) (is_9:Bool) (t33_2:Int)=>([(10,.ptr 11 0),(11,vS s0_11),(16,.ptr 17 0),(17,.agg [vL enc_arr4_uint64 p_Sets_10,vL enc_i64 p_First_10,vL enc_i64 p_Last_10,vL encs_i64 p_Follow_10,vB p_Null_10]),(22,oL 4 enc_bool out),(29,vi i_9),(31,.clo 61 [.ptr 17 0,.ptr 11 0,.ptr 29 0]),(34,oL 3 enc_i64 then0_9),(37,vB is_9),(79,vi ((↑(ByteArray.size s0):Int))),(82,vi t27),(94,vL enc_i64 next),(97,vi ((↑(List.length next):Int))),(100,vi t33_2)]:Sta)) q.1 q.2.1 q.2.2.1 q.2.2.2.1 q.2.2.2.2.1 q.2.2.2.2.2.1 q.2.2.2.2.2.2.1 q.2.2.2.2.2.2.2.1 q.2.2.2.2.2.2.2.2.1 q.2.2.2.2.2.2.2.2.2) (fun (q:ByteArray×List arr4_uint64×List Int×List Int×List (List Int)×Bool×Int×List Int×Bool×Int)=>Inv161 q.1 q.2.1 q.2.2.1 q.2.2.2.1 q.2.2.2.2.1 q.2.2.2.2.2.1 q.2.2.2.2.2.2.1 q.2.2.2.2.2.2.2.1 q.2.2.2.2.2.2.2.2.1 q.2.2.2.2.2.2.2.2.2) (fun (q:ByteArray×List arr4_uint64×List Int×List Int×List (List Int)×Bool×Int×List Int×Bool×Int)=>mu162 q.1 q.2.1 q.2.2.1 q.2.2.2.1 q.2.2.2.2.1 q.2.2.2.2.2.1 q.2.2.2.2.2.2.1 q.2.2.2.2.2.2.2.1 q.2.2.2.2.2.2.2.2.1 q.2.2.2.2.2.2.2.2.2) (s0_5,p_Sets_4,p_First_4,p_Last_4,p_Follow_4,p_Null_4,t27,([]),false,0) [] h0Inv161 ?_
  rintro ⟨s0_11,p_Sets_10,p_First_10,p_Last_10,p_Follow_10,p_Null_10,i_9,then0_9,is_9,t33_2⟩ hi
  have h:=hInv161 s0_11 p_Sets_10 p_First_10 p_Last_10 p_Follow_10 p_Null_10 i_9 then0_9 is_9 t33_2 hi
  refine sD kk [] [] [(103,vB (decide (t33_2 < (↑(List.length next):Int))))] obN ?_
  refine qD ?_
  refine cD (t:=34) (b:=decide (t33_2 < (↑(List.length next):Int))) (fun hb163=>?_) (fun hb163=>?_)
  ·have h:=h.1 hb163
   refine Sem.skip' (by kernel_rfl) Wk.refl ?_
   show Sem _ _ _ _ _
   refine wkD [103] ?_
   obtain ⟨J173,hJ173,h⟩:=h
   refine sjD (fun (q:ByteArray×List arr4_uint64×List Int×List Int×List (List Int)×Bool×Int×List Int×Bool)=>J173 q.1 q.2.1 q.2.2.1 q.2.2.2.1 q.2.2.2.2.1 q.2.2.2.2.2.1 q.2.2.2.2.2.2.1 q.2.2.2.2.2.2.2.1 q.2.2.2.2.2.2.2.2) (fun (q:ByteArray×List arr4_uint64×List Int×List Int×List (List Int)×Bool×Int×List Int×Bool)=>(fun (s0_13:ByteArray) (p_Sets_12:List arr4_uint64) (p_First_12:List Int) (p_Last_12:List Int) (p_Follow_12:List (List Int)) (p_Null_12:Bool) (i_11:Int) (then0_11:List Int) (is_11:Bool)=>([(10,.ptr 11 0),(11,vS s0_13),(16,.ptr 17 0),(17,.agg [vL enc_arr4_uint64 p_Sets_12,vL enc_i64 p_First_12,vL enc_i64 p_Last_12,vL encs_i64 p_Follow_12,vB p_Null_12]),(22,oL 4 enc_bool out),(29,vi i_11),(31,.clo 61 [.ptr 17 0,.ptr 11 0,.ptr 29 0]),(34,oL 3 enc_i64 then0_11),(37,vB is_11),(79,vi ((↑(ByteArray.size s0):Int))),(82,vi t27),(94,vL enc_i64 next),(97,vi ((↑(List.length next):Int))),(100,vi t33_2)]:Sta)) q.1 q.2.1 q.2.2.1 q.2.2.2.1 q.2.2.2.2.1 q.2.2.2.2.2.1 q.2.2.2.2.2.2.1 q.2.2.2.2.2.2.2.1 q.2.2.2.2.2.2.2.2) ?_ ?_
   ·rintro ⟨s0_13,p_Sets_12,p_First_12,p_Last_12,p_Follow_12,p_Null_12,i_11,then0_11,is_11⟩ hj
    have h:=hJ173 s0_13 p_Sets_12 p_First_12 p_Last_12 p_Follow_12 p_Null_12 i_11 then0_11 is_11 hj
    refine rD kk [] [] [(100,vi (w64 (t33_2+1)))] obN ?_
    exact lD (s0_13,p_Sets_12,p_First_12,p_Last_12,p_Follow_12,p_Null_12,i_11,then0_11,is_11,(w64 (t33_2+1))) [] h
   ·refine bD (id:=3) ?_
    obtain ⟨h174,h⟩:=h
    obtain ⟨h175,h⟩:=h
    refine sD kk [.e (fi (gd next t33_2))] [] [(43,vi (gd next t33_2))] (obC h174 (obC (idx_ok enc_i64 next t33_2 _ rfl h174 h175) obN)) ?_
    obtain ⟨r0_38,o_51,o_52,o_53,hc176,h⟩:=h
    refine sD kk [.c (vB r0_38) [av_api_Places o_51,vS o_52,vi o_53]] [] [(11,vS o_52),(17,av_api_Places o_51),(29,vi o_53),(118,vB r0_38)] (obC hc176 obN) ?_
    refine cD (t:=39) (b:=r0_38) (fun hb177=>?_) (fun hb177=>?_)
    ·have h:=h.1 hb177
     obtain ⟨h178,h⟩:=h
     obtain ⟨h179,h⟩:=h
     obtain ⟨h180,h⟩:=h
     refine sDE kk [.e (fL enc_i64 (gd (api_Places.Follow o_51) (gd next t33_2)))] [118] [(34,.own 3 (List.map enc_i64 then0_9++List.map enc_i64 (gd (api_Places.Follow o_51) (gd next t33_2))))] [(34,oL 3 enc_i64 (then0_9++gd (api_Places.Follow o_51) (gd next t33_2)))] (obC h178 (obC (idx_ok encs_i64 (api_Places.Follow o_51) (gd next t33_2) _ rfl h178 h179) (obC (show (0:Nat)=(0:Nat)∧List.length (List.map enc_i64 then0_9)=List.length (List.map enc_i64 then0_9) from by first | decide | rfl | trivial | (simp only [nm]<;>first | decide | rfl | omega)) (obC (show (List.length (List.map enc_i64 then0_9)+List.length (List.map enc_i64 (gd (api_Places.Follow o_51) (gd next t33_2)))) * (8:Nat)≤(2:Nat) ^ (47:Nat) from by simpa only [nm] using h180) (obC (show List.all (List.map enc_i64 (gd (api_Places.Follow o_51) (gd next t33_2))) (FV.fits (1:Nat))=true from by first | exact fits_i64 _ | rfl | simp [isByteF,FV.fits,FV.size,FV.cells,FV.one,enc_i64]) obN))))) ?_
     rcases Bool.eq_false_or_eq_true (is_9) with hb181 | hb181
     ·have h:=h.1 hb181
      refine rD kk [.b false,.b false,.b false,.b false,.b true] [43] [(37,vB true)] (obC (gff hb181) (obC (gff hb181) (obC (gff hb181) (obC (gff hb181) (obC hb181 obN))))) ?_
      exact jD (o_52,(api_Places.Sets o_51),(api_Places.First o_51),(api_Places.Last o_51),(api_Places.Follow o_51),(api_Places.Null o_51),o_53,(then0_9++gd (api_Places.Follow o_51) (gd next t33_2)),true) [] h
     ·have h:=h.2 hb181
      obtain ⟨r0_39,hc182,h⟩:=h
      refine rD kk [.b true,.b true,.b true,.b true,.c (vB r0_39) [],.b false] [43] [(37,vB r0_39)] (obC (gft hb181) (obC (gft hb181) (obC (gft hb181) (obC (gft hb181) (obC hc182 (obC hb181 obN)))))) ?_
      exact jD (o_52,(api_Places.Sets o_51),(api_Places.First o_51),(api_Places.Last o_51),(api_Places.Follow o_51),(api_Places.Null o_51),o_53,(then0_9++gd (api_Places.Follow o_51) (gd next t33_2)),r0_39) [] h
    ·have h:=h.2 hb177
     refine Sem.skip' (by kernel_rfl) Wk.refl ?_
     exact jD (o_52,(api_Places.Sets o_51),(api_Places.First o_51),(api_Places.Last o_51),(api_Places.Follow o_51),(api_Places.Null o_51),o_53,then0_9,is_9) [] h
  ·have h:=h.2 hb163
   refine xD (i:=2) ?_
   show Sem _ _ _ _ _
   refine wkD [29,31,94,97,100,103] ?_
   obtain ⟨r0_40,hc183,h⟩:=h
   refine sD kk [.c (vL enc_i64 r0_40) []] [34] [(25,vL enc_i64 r0_40)] (obC (Eq.mp (by unfold C_place_Join_int;(try simp only [List.drop_zero,List.take_length]);first | done | simp only [nm,enq]:C_place_Join_int then0_9 ([]) r0_40=CallE Try.prog 64 [.f (FV.sl (List.take (List.length (List.map enc_i64 then0_9)) (List.drop (0:Nat) (List.map enc_i64 then0_9)))),.f (FV.sl [])] [] (vL enc_i64 r0_40) []) hc183) obN) ?_
   obtain ⟨h184,h⟩:=h
   refine rDE kk [] [37] [(22,.own 4 (List.map enc_bool out++List.take (List.length [FV.pv (Value.bool is_9)]) (List.drop (0:Nat) [FV.pv (Value.bool is_9)])))] [(22,oL 4 enc_bool (out++[is_9]))] (obC (show (0:Nat)=(0:Nat)∧List.length (List.map enc_bool out)=List.length (List.map enc_bool out) from by first | decide | rfl | trivial | (simp only [nm]<;>first | decide | rfl | omega)) (obC (show (List.length (List.map enc_bool out)+List.length (List.take (1:Nat) (List.drop (0:Nat) [FV.pv (Value.bool is_9)]))) * (1:Nat)≤(2:Nat) ^ (47:Nat) from by simpa only [nm] using h184) (obC (show List.all (List.take (1:Nat) (List.drop (0:Nat) [FV.pv (Value.bool is_9)])) (FV.fits (1:Nat))=true from by first | exact fits_bool _ | rfl | simp [isByteF,FV.fits,FV.size,FV.cells,FV.one,]) obN))) ?_
   show Sem _ _ _ _ _
   refine rD kk [] [] [(82,vi (w64 (t27+1)))] obN ?_
   exact lD (s0_11,p_Sets_10,p_First_10,p_Last_10,p_Follow_10,p_Null_10,(out++[is_9]),r0_40,(w64 (t27+1))) [] h
 ·have h:=h.2 hb124
  refine xD (i:=0) ?_
  show Sem _ _ _ _ _
  refine wkD [10,11,16,17,25,79,82,85] ?_
  refine sD kk [] [22] [(13,oL 4 enc_bool out)] obN ?_
  refine tD ?_
  obtain he0:=h
  subst res
  exact (endD [] (oL 4 enc_bool out) []).1
set_option maxHeartbeats 1000000 in
theorem W_split_Ahead (x:api_Rx) (s0:ByteArray) (res:(List Bool))
 (h:(∃ r0:Bool,C_rx_Right x r0∧(((!r0 || decide ((↑(ByteArray.size s0):Int) > (10000:Int)))=true→(res=([])))∧((!r0 || decide ((↑(ByteArray.size s0):Int) > (10000:Int)))=false→(∃ r0_1:List Bool,C_split_ahead x s0 r0_1∧(res=r0_1)))))):C_split_Ahead x s0 res:=by
 unfold C_split_Ahead
 have kk:=cfOk [] 16
 refine fD (x:=bodyOf Try.f19) kk Try.func19 ?_
 refine wkS [1,4] [(1,av_api_Rx x),(4,vS s0)] (by kernel_rfl) ?_
 refine sD kk [] [1] [(7,.ptr 8 0),(8,av_api_Rx x)] obN ?_
 refine qD ?_
 obtain ⟨r0,hc0,h⟩:=h
 refine sM [] [(37,vB (!r0 || decide ((↑(ByteArray.size s0):Int) > (10000:Int))))] ?_ (fun hk0=>?_)
 ·refine cD (t:=12) (b:=!r0 || decide ((↑(ByteArray.size s0):Int) > (10000:Int))) (fun hb2=>?_) (fun hb2=>?_)
  ·have h:=h.1 hb2
   refine sDE kk [] [4,7,8,37] [(13,.own 4 ([]))] [(13,oL 4 enc_bool ([]))] obN ?_
   refine tD ?_
   obtain he0:=h
   subst res
   exact (endD [] (oL 4 enc_bool ([])) []).1
  ·have h:=h.2 hb2
   refine Sem.skip' (by kernel_rfl) Wk.refl ?_
   show Sem _ _ _ _ _
   refine wkD [37] ?_
   obtain ⟨r0_1,hc3,h⟩:=h
   refine sD kk [.c (oL 4 enc_bool r0_1) []] [4,7,8] [(13,oL 4 enc_bool r0_1)] (obC hc3 obN) ?_
   refine tD ?_
   obtain he0:=h
   subst res
   exact (endD [] (oL 4 enc_bool r0_1) []).1
 ·rcases Bool.eq_false_or_eq_true (!r0) with hb1 | hb1
  ·refine sD kk [.c (vB r0) [],.b false,.b false,.b false,.b true] [] [(37,vB true)] (obC hc0 (obC (gff hb1) (obC (gff hb1) (obC (gff hb1) (obC hb1 obN))))) ?_
   exact Sem.cast (by try rw [hb1];kernel_rfl) hk0
  ·refine sD kk [.c (vB r0) [],.b true,.b true,.b true,.b false] [] [(37,vB (decide ((↑(ByteArray.size s0):Int) > (10000:Int))))] (obC hc0 (obC (gft hb1) (obC (gft hb1) (obC (gft hb1) (obC hb1 obN))))) ?_
   exact Sem.cast (by try rw [hb1];kernel_rfl) hk0
set_option maxHeartbeats 1000000 in
theorem W_split_reverse (x:api_Rx) (res:api_Rx)
 (h:(∃ J2:List api_Rx→Prop,(∀ (x_Kids:List api_Rx),J2 x_Kids→(∃ (Inv11:List api_Rx→Int→Prop) (mu12:List api_Rx→Int→Nat),Inv11 ([]) 0∧(∀ (kids:List api_Rx) (t16:Int),Inv11 kids t16→(((decide (t16 < (↑(List.length x_Kids):Int)))=true→((0:Int)≤t16)∧t16 < ↑(List.length x_Kids)∧(∃ r0_3:api_Rx,C_split_reverse (gd x_Kids t16) r0_3∧((List.length kids+(1:Nat)) * (80:Nat)≤(2:Nat) ^ (47:Nat))∧(Inv11 (kids++[r0_3]) (w64 (t16+1))∧mu12 (kids++[r0_3]) (w64 (t16+1)) < mu12 kids t16)))∧((decide (t16 < (↑(List.length x_Kids):Int)))=false→(res=({ Kind:=api_Rx.Kind x,Set:=api_Rx.Set x,Lo:=api_Rx.Lo x,Hi:=api_Rx.Hi x,Kids:=kids })))))))∧(((api_Rx.Kind x == (3:Int))=true→(∃ r0_4:List api_Rx,C_split_turned_api_Rx (api_Rx.Kids x) r0_4∧J2 r0_4))∧((api_Rx.Kind x == (3:Int))=false→J2 (api_Rx.Kids x))))):C_split_reverse x res:=by
 unfold C_split_reverse
 have kk:=cfOk [28] 29
 refine fD (x:=bodyOf Try.f31) kk Try.func31 ?_
 refine wkS [1] [(1,av_api_Rx x)] (by kernel_rfl) ?_
 refine sDE kk [] [1] [(4,.ptr 5 0),(5,av_api_Rx x),(7,.ptr 8 0),(8,.agg [vi 0,vI .u64 0,vI .u64 0,vI .u64 0,vI .u64 0,vi 0,vi 0,.own 36 ([])])] [(4,.ptr 5 0),(5,av_api_Rx x),(7,.ptr 8 0),(8,.agg [vi 0,vI .u64 0,vI .u64 0,vI .u64 0,vI .u64 0,vi 0,vi 0,oL 36 enc_api_Rx ([])])] obN ?_
 obtain ⟨J2,hJ2,h⟩:=h
 refine sjD (fun (q:List api_Rx)=>J2 q) (fun (q:List api_Rx)=>(fun (x_Kids:List api_Rx)=>([(4,.ptr 5 0),(5,.agg [vi (api_Rx.Kind x),vI .u64 (arr4_uint64.e0 (api_Rx.Set x)),vI .u64 (arr4_uint64.e1 (api_Rx.Set x)),vI .u64 (arr4_uint64.e2 (api_Rx.Set x)),vI .u64 (arr4_uint64.e3 (api_Rx.Set x)),vi (api_Rx.Lo x),vi (api_Rx.Hi x),vL enc_api_Rx x_Kids]),(7,.ptr 8 0),(8,.agg [vi 0,vI .u64 0,vI .u64 0,vI .u64 0,vI .u64 0,vi 0,vi 0,oL 36 enc_api_Rx ([])])]:Sta)) q) ?_ ?_
 ·rintro x_Kids hj
  have h:=hJ2 x_Kids hj
  refine sDE kk [] [] [(10,.own 36 ([]))] [(10,oL 36 enc_api_Rx ([]))] obN ?_
  refine qD ?_
  refine sDE kk [] [] [(43,vL enc_api_Rx x_Kids),(46,vi ((↑(List.length (List.map enc_api_Rx x_Kids)):Int))),(49,vi 0)] [(43,vL enc_api_Rx x_Kids),(46,vi ((↑(List.length x_Kids):Int))),(49,vi 0)] obN ?_
  refine bD (id:=0) ?_
  obtain ⟨Inv11,mu12,h0Inv11,hInv11⟩:=h
  refine loD (fun (q:List api_Rx×Int)=>(fun (kids:List api_Rx) (t16:Int)=>([(4,.ptr 5 0),(5,.agg [vi (api_Rx.Kind x),vI .u64 (arr4_uint64.e0 (api_Rx.Set x)),vI .u64 (arr4_uint64.e1 (api_Rx.Set x)),vI .u64 (arr4_uint64.e2 (api_Rx.Set x)),vI .u64 (arr4_uint64.e3 (api_Rx.Set x)),vi (api_Rx.Lo x),vi (api_Rx.Hi x),vL enc_api_Rx x_Kids]),(7,.ptr 8 0),(8,.agg [vi 0,vI .u64 0,vI .u64 0,vI .u64 0,vI .u64 0,vi 0,vi 0,oL 36 enc_api_Rx ([])]),(10,oL 36 enc_api_Rx kids),(43,vL enc_api_Rx x_Kids),(46,vi ((↑(List.length x_Kids):Int))),(49,vi t16)]:Sta)) q.1 q.2) (fun (q:List api_Rx×Int)=>Inv11 q.1 q.2) (fun (q:List api_Rx×Int)=>mu12 q.1 q.2) (([]),0) [] h0Inv11 ?_
  rintro ⟨kids,t16⟩ hi
  have h:=hInv11 kids t16 hi
  refine sD kk [] [] [(52,vB (decide (t16 < (↑(List.length x_Kids):Int))))] obN ?_
  refine qD ?_
  refine cD (t:=17) (b:=decide (t16 < (↑(List.length x_Kids):Int))) (fun hb13=>?_) (fun hb13=>?_)
  ·have h:=h.1 hb13
   refine Sem.skip' (by kernel_rfl) Wk.refl ?_
   show Sem _ _ _ _ _
   refine wkD [52] ?_
   refine qD ?_
   refine bD (id:=1) ?_
   obtain ⟨h14,h⟩:=h
   obtain ⟨h15,h⟩:=h
   refine sD kk [.e (fv_api_Rx (gd x_Kids t16))] [] [(16,.ptr 17 0),(17,av_api_Rx (gd x_Kids t16))] (obC h14 (obC (idx_ok enc_api_Rx x_Kids t16 _ (enc_api_Rx_eq _) h14 h15) obN)) ?_
   obtain ⟨r0_3,hc16,h⟩:=h
   obtain ⟨h17,h⟩:=h
   refine rDE kk [.c (av_api_Rx r0_3) []] [16,17] [(10,.own 36 (List.map enc_api_Rx kids++List.take (List.length [FV.agg [FV.pv (Value.int IntKind.i64 (api_Rx.Kind r0_3)),FV.pv (Value.int IntKind.u64 (arr4_uint64.e0 (api_Rx.Set r0_3))),FV.pv (Value.int IntKind.u64 (arr4_uint64.e1 (api_Rx.Set r0_3))),FV.pv (Value.int IntKind.u64 (arr4_uint64.e2 (api_Rx.Set r0_3))),FV.pv (Value.int IntKind.u64 (arr4_uint64.e3 (api_Rx.Set r0_3))),FV.pv (Value.int IntKind.i64 (api_Rx.Lo r0_3)),FV.pv (Value.int IntKind.i64 (api_Rx.Hi r0_3)),FV.sl (List.map enc_api_Rx (api_Rx.Kids r0_3))]]) (List.drop (0:Nat) [FV.agg [FV.pv (Value.int IntKind.i64 (api_Rx.Kind r0_3)),FV.pv (Value.int IntKind.u64 (arr4_uint64.e0 (api_Rx.Set r0_3))),FV.pv (Value.int IntKind.u64 (arr4_uint64.e1 (api_Rx.Set r0_3))),FV.pv (Value.int IntKind.u64 (arr4_uint64.e2 (api_Rx.Set r0_3))),FV.pv (Value.int IntKind.u64 (arr4_uint64.e3 (api_Rx.Set r0_3))),FV.pv (Value.int IntKind.i64 (api_Rx.Lo r0_3)),FV.pv (Value.int IntKind.i64 (api_Rx.Hi r0_3)),FV.sl (List.map enc_api_Rx (api_Rx.Kids r0_3))]])))] [(10,oL 36 enc_api_Rx (kids++[r0_3]))] (obC hc16 (obC (show (0:Nat)=(0:Nat)∧List.length (List.map enc_api_Rx kids)=List.length (List.map enc_api_Rx kids) from by first | decide | rfl | trivial | (simp only [nm]<;>first | decide | rfl | omega)) (obC (show (List.length (List.map enc_api_Rx kids)+List.length (List.take (1:Nat) (List.drop (0:Nat) [FV.agg [FV.pv (Value.int IntKind.i64 (api_Rx.Kind r0_3)),FV.pv (Value.int IntKind.u64 (arr4_uint64.e0 (api_Rx.Set r0_3))),FV.pv (Value.int IntKind.u64 (arr4_uint64.e1 (api_Rx.Set r0_3))),FV.pv (Value.int IntKind.u64 (arr4_uint64.e2 (api_Rx.Set r0_3))),FV.pv (Value.int IntKind.u64 (arr4_uint64.e3 (api_Rx.Set r0_3))),FV.pv (Value.int IntKind.i64 (api_Rx.Lo r0_3)),FV.pv (Value.int IntKind.i64 (api_Rx.Hi r0_3)),FV.sl (List.map enc_api_Rx (api_Rx.Kids r0_3))]]))) * (80:Nat)≤(2:Nat) ^ (47:Nat) from by simpa only [nm] using h17) (obC (show List.all (List.take (1:Nat) (List.drop (0:Nat) [FV.agg [FV.pv (Value.int IntKind.i64 (api_Rx.Kind r0_3)),FV.pv (Value.int IntKind.u64 (arr4_uint64.e0 (api_Rx.Set r0_3))),FV.pv (Value.int IntKind.u64 (arr4_uint64.e1 (api_Rx.Set r0_3))),FV.pv (Value.int IntKind.u64 (arr4_uint64.e2 (api_Rx.Set r0_3))),FV.pv (Value.int IntKind.u64 (arr4_uint64.e3 (api_Rx.Set r0_3))),FV.pv (Value.int IntKind.i64 (api_Rx.Lo r0_3)),FV.pv (Value.int IntKind.i64 (api_Rx.Hi r0_3)),FV.sl (List.map enc_api_Rx (api_Rx.Kids r0_3))]])) (FV.fits (8:Nat))=true from by first | exact fits_i64 _ | rfl | simp [isByteF,FV.fits,FV.size,FV.cells,FV.one,enc_api_Rx_eq]) obN)))) ?_
   show Sem _ _ _ _ _
   refine rD kk [] [] [(49,vi (w64 (t16+1)))] obN ?_
   exact lD ((kids++[r0_3]),(w64 (t16+1))) [] h
  ·have h:=h.2 hb13
   refine xD (i:=0) ?_
   show Sem _ _ _ _ _
   refine wkD [43,46,49,52] ?_
   refine sDE kk [] [10] [(5,.agg [vi (api_Rx.Kind x),vI .u64 (arr4_uint64.e0 (api_Rx.Set x)),vI .u64 (arr4_uint64.e1 (api_Rx.Set x)),vI .u64 (arr4_uint64.e2 (api_Rx.Set x)),vI .u64 (arr4_uint64.e3 (api_Rx.Set x)),vi (api_Rx.Lo x),vi (api_Rx.Hi x),.f (FV.sl (List.take (List.length (List.map enc_api_Rx kids)) (List.drop (0:Nat) (List.map enc_api_Rx kids))))])] [(5,.agg [vi (api_Rx.Kind x),vI .u64 (arr4_uint64.e0 (api_Rx.Set x)),vI .u64 (arr4_uint64.e1 (api_Rx.Set x)),vI .u64 (arr4_uint64.e2 (api_Rx.Set x)),vI .u64 (arr4_uint64.e3 (api_Rx.Set x)),vi (api_Rx.Lo x),vi (api_Rx.Hi x),vL enc_api_Rx kids])] obN ?_
   refine sD kk [] [4,5] [(8,.agg [vi (api_Rx.Kind x),vI .u64 (arr4_uint64.e0 (api_Rx.Set x)),vI .u64 (arr4_uint64.e1 (api_Rx.Set x)),vI .u64 (arr4_uint64.e2 (api_Rx.Set x)),vI .u64 (arr4_uint64.e3 (api_Rx.Set x)),vi (api_Rx.Lo x),vi (api_Rx.Hi x),vL enc_api_Rx kids])] obN ?_
   refine tD ?_
   obtain he0:=h
   subst res
   exact (endD [] (.agg [vi (api_Rx.Kind x),vI .u64 (arr4_uint64.e0 (api_Rx.Set x)),vI .u64 (arr4_uint64.e1 (api_Rx.Set x)),vI .u64 (arr4_uint64.e2 (api_Rx.Set x)),vI .u64 (arr4_uint64.e3 (api_Rx.Set x)),vi (api_Rx.Lo x),vi (api_Rx.Hi x),vL enc_api_Rx kids]) []).1
 ·refine sD kk [] [] [(25,vB (api_Rx.Kind x == (3:Int)))] obN ?_
  refine cD (t:=8) (b:=api_Rx.Kind x == (3:Int)) (fun hb18=>?_) (fun hb18=>?_)
  ·have h:=h.1 hb18
   obtain ⟨r0_4,hc19,h⟩:=h
   refine rD kk [.c (vL enc_api_Rx r0_4) []] [25] [(5,.agg [vi (api_Rx.Kind x),vI .u64 (arr4_uint64.e0 (api_Rx.Set x)),vI .u64 (arr4_uint64.e1 (api_Rx.Set x)),vI .u64 (arr4_uint64.e2 (api_Rx.Set x)),vI .u64 (arr4_uint64.e3 (api_Rx.Set x)),vi (api_Rx.Lo x),vi (api_Rx.Hi x),vL enc_api_Rx r0_4])] (obC hc19 obN) ?_
   exact jD r0_4 [] h
  ·have h:=h.2 hb18
   refine Sem.skip' (by kernel_rfl) Wk.refl ?_
   exact jD (api_Rx.Kids x) [] h
set_option maxHeartbeats 1000000 in
theorem W_split_turned_byte (l:(List Int)) (res:(List Int))
 (h:((0:Int)≤(0:Int)∧(0:Int)≤(↑(List.length l):Int)∧(↑(List.length l):Int) < (2:Int) ^ (40:Nat)∧(↑(1:Nat):Int) * (↑(List.length l):Int)≤(2:Int) ^ (47:Nat))∧(C_slices_Backward__byte_byte l∧(List.length l < 1099511627776∧∃ (Inv3:Nat→List Int→Prop),Inv3 0 (List.replicate (0:Nat) (0:Int))∧(∀ (i:Nat) (y:Int),i < List.length l→l[List.length l - 1 - i]?=some y→∀ (out:List Int),Inv3 i out→((List.length out+(1:Nat)) * (1:Nat)≤(2:Nat) ^ (47:Nat))∧Inv3 (i+1) (out++[y]))∧(∀ (out:List Int),Inv3 (List.length l) out→(res=out))))):C_split_turned_byte l res:=by
 unfold C_split_turned_byte
 have kk:=cfOk [] 18
 refine fD (x:=bodyOf Try.f32) kk Try.func32 ?_
 refine wkS [1] [(1,vL enc_u8 l)] (by kernel_rfl) ?_
 refine sD kk [] [] [] obN ?_
 obtain ⟨h0,h⟩:=h
 refine sDE kk [] [] [(10,.ptr 11 0),(11,.own 5 (List.replicate (Int.toNat (0:Int)) (FV.pv (Value.int IntKind.u8 (0:Int)))))] [(10,.ptr 11 0),(11,oL 5 enc_u8 (List.replicate (0:Nat) (0:Int)))] (obC (show (0:Int)≤(0:Int)∧(0:Int)≤(↑(List.length (List.map enc_u8 l)):Int)∧(↑(List.length (List.map enc_u8 l)):Int) < (2:Int) ^ (40:Nat)∧(↑(1:Nat):Int) * (↑(List.length (List.map enc_u8 l)):Int)≤(2:Int) ^ (47:Nat) from by simpa only [nm] using h0) obN) ?_
 refine qD ?_
 obtain ⟨hc1,h⟩:=h
 refine sD kk [.c (.clo 96 [.fp (fL enc_u8 l) 0]) []] [1] [(31,.clo 96 [.fp (fL enc_u8 l) 0])] (obC hc1 obN) ?_
 refine bD (id:=0) ?_
 obtain ⟨hl4,Inv3,h0Inv3,hRInv3,hDInv3⟩:=h
 refine Sem.range (α:=Int) (σ:=List Int) (c:=(cf [] 18)) (by rfl) (tg:=10) (p0:=11) (p1:=12) (by kernel_rfl) (xs:=l) (by kernel_rfl) back_ok_96 (ey:=(fun (y:Int)=>(.pv (.int .u8 y):FV))) (sz:=1) (fun y=>rfl) (fun y=>by rfl) (by omega) [(10,.ptr 11 0)] [11] (fun (q:List Int)=>(fun (out:List Int)=>([oL 5 enc_u8 out]:List AV)) q) (fun (i:Nat) (q:List Int)=>Inv3 i q) (List.replicate (0:Nat) (0:Int)) ((wkE (G':=[(10,.ptr 11 0),(11,oL 5 enc_u8 (List.replicate (0:Nat) (0:Int)))]) [] [10,11] (by kernel_rfl)).trans (Wk.pick [10,11] (by kernel_rfl))) h0Inv3 (by rfl) (fun q=>by rfl) (by rfl) (by decide) (fun q q'=>by rfl) (Nat.le_of_ble_eq_true rfl) (Nat.le_of_ble_eq_true rfl) (by decide) ?_ ?_
 ·rintro i out y hi hy hinv
  have h:=hRInv3 i y hi hy out hinv
  refine Sem.weak (Wk.pick [3,10,34,37] (G':=[(3,oL 5 enc_u8 out),(10,.ptr 3 0),(34,vi ((↑(List.length l):Int) - 1 - (↑i:Int))),(37,vI .u8 y)]) (by kernel_rfl)) ?_
  show Sem _ (cfr [] 18) (sq1 (sq1 (sq2 (sq1 (sq2 (sq2 (bodyOf Try.f32))))))) _ _
  have kr:=cfrOk [] 18
  refine rD kr [] [34,37] [(16,vI .u8 y)] obN ?_
  refine ⟨rfl,?_⟩
  show Sem _ (cfr [] 18) (sq2 (sq1 (sq2 (sq1 (sq2 (sq2 (bodyOf Try.f32))))))) _ _
  refine bD (id:=1) ?_
  obtain ⟨h5,h⟩:=h
  refine rDE kr [] [10,16] [(3,.own 5 (List.map enc_u8 out++List.take (List.length [FV.pv (Value.int IntKind.u8 y)]) (List.drop (0:Nat) [FV.pv (Value.int IntKind.u8 y)])))] [(3,oL 5 enc_u8 (out++[y]))] (obC (show (0:Nat)=(0:Nat)∧List.length (List.map enc_u8 out)=List.length (List.map enc_u8 out) from by first | decide | rfl | trivial | (simp only [nm]<;>first | decide | rfl | omega)) (obC (show (List.length (List.map enc_u8 out)+List.length (List.take (1:Nat) (List.drop (0:Nat) [FV.pv (Value.int IntKind.u8 y)]))) * (1:Nat)≤(2:Nat) ^ (47:Nat) from by simpa only [nm] using h5) (obC (show List.all (List.take (1:Nat) (List.drop (0:Nat) [FV.pv (Value.int IntKind.u8 y)])) (FV.fits (1:Nat))=true from by first | exact fits_u8 _ | rfl | simp [isByteF,FV.fits,FV.size,FV.cells,FV.one,]) obN))) ?_
  exact rndE (wkE [] [3] (by rfl)) (by kernel_rfl) ⟨(out++[y]),rfl,h⟩
 ·rintro out hinv
  have h:=hDInv3 out hinv
  refine ⟨[(10,.ptr 11 0),(11,oL 5 enc_u8 out)],Wk.pick [10,11] (by kernel_rfl),?_⟩
  show Sem _ _ _ _ _
  refine sDE kk [] [10,11] [(7,.f (FV.sl (List.take (List.length (List.map enc_u8 out)) (List.drop (0:Nat) (List.map enc_u8 out)))))] [(7,vL enc_u8 out)] obN ?_
  refine tD ?_
  obtain he0:=h
  subst res
  exact (endD [] (vL enc_u8 out) []).1
set_option maxHeartbeats 1000000 in
theorem W_split_Split (r0:api_Rule) (text:ByteArray) (res:Int)
 (h:(∃ r0_1:List Bool,C_split_Ahead (api_Rule.Rx r0) text r0_1∧((((↑(List.length r0_1):Int) == 0)=true→(res=0))∧(((↑(List.length r0_1):Int) == 0)=false→(((api_Rx.Kind (api_Rule.Trail r0) == 0)=true→((0:Int)≤(↑(ByteArray.size text):Int))∧(ByteArray.size text < List.length r0_1)∧ByteArray.size text < List.length r0_1∧(((List.getD r0_1 (ByteArray.size text) default)=true→(res=((↑(ByteArray.size text):Int))))∧((List.getD r0_1 (ByteArray.size text) default)=false→(res=0))))∧((api_Rx.Kind (api_Rule.Trail r0) == 0)=false→(∃ r0_2:Bool,C_rx_Right (api_Rule.Trail r0) r0_2∧(((!r0_2)=true→(res=0))∧((!r0_2)=false→(∃ r0_3:api_Rx,C_split_reverse (api_Rule.Trail r0) r0_3∧(∃ r0_4:List Int,C_split_turned_byte (bytesOf text) r0_4∧(∃ r0_5:List Bool,C_split_ahead r0_3 (bytesT (List.map enc_u8 r0_4)) r0_5∧(∃ (Inv30:Int→Prop) (mu31:Int→Nat),Inv30 ((↑(ByteArray.size text):Int))∧(∀ (h0:Int),Inv30 h0→(((decide (h0 > (0:Int)))=true→((0:Int)≤h0)∧(Int.toNat h0 < List.length r0_1)∧h0 < ↑(List.length r0_1)∧((gd r0_1 h0)=true→((0:Int)≤w64 ((↑(ByteArray.size text):Int) - h0)))∧((gd r0_1 h0)=true→(Int.toNat (w64 ((↑(ByteArray.size text):Int) - h0)) < List.length r0_5))∧((gd r0_1 h0)=true→w64 ((↑(ByteArray.size text):Int) - h0) < ↑(List.length r0_5))∧(((gd r0_1 h0 && gd r0_5 (w64 ((↑(ByteArray.size text):Int) - h0)))=true→(res=h0))∧((gd r0_1 h0 && gd r0_5 (w64 ((↑(ByteArray.size text):Int) - h0)))=false→(Inv30 (w64 (h0 - 1))∧mu31 (w64 (h0 - 1)) < mu31 h0))))∧((decide (h0 > (0:Int)))=false→(res=0))))))))))))))))):C_split_Split r0 text res:=by
 unfold C_split_Split
 have kk:=cfOk [28,59] 60
 refine fD (x:=bodyOf Try.f10) kk Try.func10 ?_
 refine wkS [1,4] [(1,av_api_Rule r0),(4,vS text)] (by kernel_rfl) ?_
 refine sD kk [] [1] [(7,.ptr 8 0),(8,av_api_Rule r0)] obN ?_
 refine sD kk [] [] [(16,vi ((↑(ByteArray.size text):Int)))] obN ?_
 obtain ⟨r0_1,hc0,h⟩:=h
 refine sD kk [.c (oL 4 enc_bool r0_1) []] [] [(19,oL 4 enc_bool r0_1)] (obC hc0 obN) ?_
 refine qD ?_
 refine bD (id:=0) ?_
 refine sDE kk [] [] [(46,vB ((↑(List.length (List.map enc_bool r0_1)):Int) == 0))] [(46,vB ((↑(List.length r0_1):Int) == 0))] obN ?_
 refine cD (t:=15) (b:=(↑(List.length r0_1):Int) == 0) (fun hb1=>?_) (fun hb1=>?_)
 ·have h:=h.1 hb1
  refine sD kk [] [4,7,8,16,19,46] [(13,vi 0)] obN ?_
  refine tD ?_
  obtain he0:=h
  subst res
  exact (endD [] (vi 0) []).1
 ·have h:=h.2 hb1
  refine sD kk [] [46] [(58,vB (api_Rx.Kind (api_Rule.Trail r0) == 0))] obN ?_
  refine cD (t:=19) (b:=api_Rx.Kind (api_Rule.Trail r0) == 0) (fun hb2=>?_) (fun hb2=>?_)
  ·have h:=h.1 hb2
   refine qD ?_
   obtain ⟨h3,h⟩:=h
   obtain ⟨h4,h⟩:=h
   obtain ⟨h5,h⟩:=h
   refine sD kk [.e (fB (List.getD r0_1 (ByteArray.size text) default))] [4,7,8,19,58] [(82,vB (List.getD r0_1 (ByteArray.size text) default))] (obC h3 (obC (show Int.toNat (↑(ByteArray.size text):Int) < List.length (List.map enc_bool r0_1) from by simpa only [nm] using h4) (obC (show (List.map enc_bool r0_1)[((0:Nat)+Int.toNat (↑(ByteArray.size text):Int):Nat)]?=some (fB (List.getD r0_1 (ByteArray.size text) default)) from by have:=idx_ok' enc_bool r0_1 (ByteArray.size text) _ rfl h5;simpa only [nm,enq,enc_bool] using this) obN))) ?_
   refine cD (t:=27) (b:=List.getD r0_1 (ByteArray.size text) default) (fun hb6=>?_) (fun hb6=>?_)
   ·have h:=h.1 hb6
    refine sD kk [] [16,82] [(13,vi ((↑(ByteArray.size text):Int)))] obN ?_
    refine tD ?_
    obtain he0:=h
    subst res
    exact (endD [] (vi ((↑(ByteArray.size text):Int))) []).1
   ·have h:=h.2 hb6
    refine Sem.skip' (by kernel_rfl) Wk.refl ?_
    show Sem _ _ _ _ _
    refine wkD [16,82] ?_
    refine sD kk [] [] [(13,vi 0)] obN ?_
    refine tD ?_
    obtain he0:=h
    subst res
    exact (endD [] (vi 0) []).1
  ·have h:=h.2 hb2
   obtain ⟨r0_2,hc7,h⟩:=h
   refine sD kk [.c (vB r0_2) []] [58] [(88,vB (!r0_2))] (obC hc7 obN) ?_
   refine cD (t:=29) (b:=!r0_2) (fun hb8=>?_) (fun hb8=>?_)
   ·have h:=h.1 hb8
    refine sD kk [] [4,7,8,16,19,88] [(13,vi 0)] obN ?_
    refine tD ?_
    obtain he0:=h
    subst res
    exact (endD [] (vi 0) []).1
   ·have h:=h.2 hb8
    refine Sem.skip' (by kernel_rfl) Wk.refl ?_
    show Sem _ _ _ _ _
    refine wkD [88] ?_
    obtain ⟨r0_3,hc9,h⟩:=h
    obtain ⟨r0_4,hc10,h⟩:=h
    obtain ⟨r0_5,hc11,h⟩:=h
    refine sD kk [.c (av_api_Rx r0_3) [],.c (vL enc_u8 r0_4) [],.c (oL 4 enc_bool r0_5) []] [4,7,8] [(22,oL 4 enc_bool r0_5)] (obC hc9 (obC hc10 (obC (show List.all (List.map enc_u8 r0_4) isByteF=true from by first | exact fits_u8 _ | rfl | simp [isByteF,FV.fits,FV.size,FV.cells,FV.one,enc_u8]) (obC hc11 obN)))) ?_
    refine qD ?_
    refine sD kk [] [] [(25,vi ((↑(ByteArray.size text):Int)))] obN ?_
    refine bD (id:=1) ?_
    obtain ⟨Inv30,mu31,h0Inv30,hInv30⟩:=h
    refine loD (fun (q:Int)=>(fun (h0:Int)=>([(16,vi ((↑(ByteArray.size text):Int))),(19,oL 4 enc_bool r0_1),(22,oL 4 enc_bool r0_5),(25,vi h0)]:Sta)) q) (fun (q:Int)=>Inv30 q) (fun (q:Int)=>mu31 q) ((↑(ByteArray.size text):Int)) [] h0Inv30 ?_
    rintro h0 hi
    have h:=hInv30 h0 hi
    refine qD ?_
    refine sD kk [] [] [(133,vB (decide (h0 > (0:Int))))] obN ?_
    refine cD (t:=44) (b:=decide (h0 > (0:Int))) (fun hb32=>?_) (fun hb32=>?_)
    ·have h:=h.1 hb32
     refine Sem.skip' (by kernel_rfl) Wk.refl ?_
     show Sem _ _ _ _ _
     refine wkD [133] ?_
     refine qD ?_
     refine bD (id:=2) ?_
     obtain ⟨h33,h⟩:=h
     obtain ⟨h34,h⟩:=h
     obtain ⟨h35,h⟩:=h
     obtain ⟨h37,h38,h39,h⟩:=h
     refine sM [] [(175,vB (gd r0_1 h0 && gd r0_5 (w64 ((↑(ByteArray.size text):Int) - h0))))] ?_ (fun hk0=>?_)
     ·refine cD (t:=58) (b:=gd r0_1 h0 && gd r0_5 (w64 ((↑(ByteArray.size text):Int) - h0))) (fun hb40=>?_) (fun hb40=>?_)
      ·have h:=h.1 hb40
       refine sD kk [] [16,19,22,25,175] [(13,vi h0)] obN ?_
       refine tD ?_
       obtain he0:=h
       subst res
       exact (endD [] (vi h0) []).1
      ·have h:=h.2 hb40
       refine Sem.skip' (by kernel_rfl) Wk.refl ?_
       show Sem _ _ _ _ _
       refine wkD [175] ?_
       refine rD kk [] [] [(25,vi (w64 (h0 - 1)))] obN ?_
       exact lD (w64 (h0 - 1)) [] h
     ·rcases Bool.eq_false_or_eq_true (gd r0_1 h0) with hb36 | hb36
      ·refine sD kk [.e (fB (gd r0_1 h0)),.b true,.b true,.b true,.b true,.b true,.b true,.e (fB (gd r0_5 (w64 ((↑(ByteArray.size text):Int) - h0)))),.b true] [] [(175,vB (gd r0_5 (w64 ((↑(ByteArray.size text):Int) - h0))))] (obC h33 (obC (show Int.toNat h0 < List.length (List.map enc_bool r0_1) from by simpa only [nm] using h34) (obC (show (List.map enc_bool r0_1)[((0:Nat)+Int.toNat h0:Nat)]?=some (fB (gd r0_1 h0)) from by have:=idx_ok enc_bool r0_1 h0 _ rfl h33 h35;simpa only [nm,enq,enc_bool] using this) (obC (gtt hb36) (obC (gtt hb36) (obC (gtt hb36) (obC (gtt hb36) (obC (gtt hb36) (obC (h37 hb36) (obC (show Int.toNat (w64 ((↑(ByteArray.size text):Int) - h0)) < List.length (List.map enc_bool r0_5) from by simpa only [nm] using (h38 hb36)) (obC (gtt hb36) (obC (show (List.map enc_bool r0_5)[((0:Nat)+Int.toNat (w64 ((↑(ByteArray.size text):Int) - h0)):Nat)]?=some (fB (gd r0_5 (w64 ((↑(ByteArray.size text):Int) - h0)))) from by have:=idx_ok enc_bool r0_5 (w64 ((↑(ByteArray.size text):Int) - h0)) _ rfl (h37 hb36) (h39 hb36);simpa only [nm,enq,enc_bool] using this) (obC hb36 obN))))))))))))) ?_
       exact Sem.cast (by try rw [hb36];kernel_rfl) hk0
      ·refine sD kk [.e (fB (gd r0_1 h0)),.b false,.b false,.b false,.b false,.b false,.b false,.b false] [] [(175,vB false)] (obC h33 (obC (show Int.toNat h0 < List.length (List.map enc_bool r0_1) from by simpa only [nm] using h34) (obC (show (List.map enc_bool r0_1)[((0:Nat)+Int.toNat h0:Nat)]?=some (fB (gd r0_1 h0)) from by have:=idx_ok enc_bool r0_1 h0 _ rfl h33 h35;simpa only [nm,enq,enc_bool] using this) (obC (gtf hb36) (obC (gtf hb36) (obC (gtf hb36) (obC (gtf hb36) (obC (gtf hb36) (obC (gtf hb36) (obC hb36 obN)))))))))) ?_
       exact Sem.cast (by try rw [hb36];kernel_rfl) hk0
    ·have h:=h.2 hb32
     refine xD (i:=1) ?_
     show Sem _ _ _ _ _
     refine wkD [16,19,22,25,133] ?_
     refine sD kk [] [] [(13,vi 0)] obN ?_
     refine tD ?_
     obtain he0:=h
     subst res
     exact (endD [] (vi 0) []).1
end Go.Ev
