import Derived.Test.YtkeiahjelpjegaaA02
set_option linter.unusedSimpArgs false
set_option linter.unusedVariables false
namespace Go.Ev
open Go Go.Proofs
set_option maxRecDepth 8000
set_option maxHeartbeats 1000000 in
theorem W_set_Has (s0:arr4_uint64) (b:Int) (res:Bool)
 (h:(((decide (b≥(0:Int)))=true→(((decide (b < (256:Int)))=true→((w64 (Int.tdiv b (64:Int))=0∨w64 (Int.tdiv b (64:Int))=1∨w64 (Int.tdiv b (64:Int))=2∨w64 (Int.tdiv b (64:Int))=3)∧((decide (w64 (Int.tdiv b (64:Int))=(0:Int)))=true→((decide (b≥(0:Int)))=true→((decide (b < (256:Int)))=true→((decide (w64 (Int.tdiv b (64:Int))=(0:Int)))=true→((0:Int)≤Int.tmod b (64:Int)))))∧(res=(IntKind.wrap IntKind.u64 (↑(BitVec.toNat (BitVec.ofInt (IntKind.bits IntKind.u64) (arr4_uint64.e0 s0) &&& BitVec.ofInt (IntKind.bits IntKind.u64) (IntKind.wrap IntKind.u64 ((1:Int) * (2:Int) ^ Min.min (Int.toNat (Int.tmod b (64:Int))) (IntKind.bits IntKind.u64))))):Int) != (0:Int))))∧((decide (w64 (Int.tdiv b (64:Int))=(1:Int)))=true→((decide (b≥(0:Int)))=true→((decide (b < (256:Int)))=true→((decide (w64 (Int.tdiv b (64:Int))=(1:Int)))=true→((0:Int)≤Int.tmod b (64:Int)))))∧(res=(IntKind.wrap IntKind.u64 (↑(BitVec.toNat (BitVec.ofInt (IntKind.bits IntKind.u64) (arr4_uint64.e1 s0) &&& BitVec.ofInt (IntKind.bits IntKind.u64) (IntKind.wrap IntKind.u64 ((1:Int) * (2:Int) ^ Min.min (Int.toNat (Int.tmod b (64:Int))) (IntKind.bits IntKind.u64))))):Int) != (0:Int))))∧((decide (w64 (Int.tdiv b (64:Int))=(2:Int)))=true→((decide (b≥(0:Int)))=true→((decide (b < (256:Int)))=true→((decide (w64 (Int.tdiv b (64:Int))=(2:Int)))=true→((0:Int)≤Int.tmod b (64:Int)))))∧(res=(IntKind.wrap IntKind.u64 (↑(BitVec.toNat (BitVec.ofInt (IntKind.bits IntKind.u64) (arr4_uint64.e2 s0) &&& BitVec.ofInt (IntKind.bits IntKind.u64) (IntKind.wrap IntKind.u64 ((1:Int) * (2:Int) ^ Min.min (Int.toNat (Int.tmod b (64:Int))) (IntKind.bits IntKind.u64))))):Int) != (0:Int))))∧((decide (w64 (Int.tdiv b (64:Int))=(3:Int)))=true→((decide (b≥(0:Int)))=true→((decide (b < (256:Int)))=true→((decide (w64 (Int.tdiv b (64:Int))=(3:Int)))=true→((0:Int)≤Int.tmod b (64:Int)))))∧(res=(IntKind.wrap IntKind.u64 (↑(BitVec.toNat (BitVec.ofInt (IntKind.bits IntKind.u64) (arr4_uint64.e3 s0) &&& BitVec.ofInt (IntKind.bits IntKind.u64) (IntKind.wrap IntKind.u64 ((1:Int) * (2:Int) ^ Min.min (Int.toNat (Int.tmod b (64:Int))) (IntKind.bits IntKind.u64))))):Int) != (0:Int))))))∧((decide (b < (256:Int)))=false→(res=false))))∧((decide (b≥(0:Int)))=false→(res=false)))):C_set_Has s0 b res:=by
 unfold C_set_Has
 have kk:=cfOk [] 22
 refine fD (x:=bodyOf Try.f62) kk Try.func62 ?_
 refine wkS [1,4] [(1,av_arr4_uint64 s0),(4,vi b)] (by kernel_rfl) ?_
 refine sD kk [] [1] [(7,.ptr 8 0),(8,av_arr4_uint64 s0)] obN ?_
 rcases Bool.eq_false_or_eq_true (decide (b≥(0:Int))) with hb0 | hb0
 ·have h:=h.1 hb0
  rcases Bool.eq_false_or_eq_true (decide (b < (256:Int))) with hb1 | hb1
  ·have h:=h.1 hb1
   obtain ⟨hor,h⟩:=h
   rcases hor with hb2 | hb2 | hb2 | hb2
   ·have hb2:=decide_eq_true hb2
    have h:=h.1 hb2
    obtain ⟨h3,h⟩:=h
    refine sD kk [.b true,.b true,.b true,.b true,.b true,.b true,.n 0,.b true,.b true,.b true,.b true,.b true,.b true,.b true] [4,7,8] [(13,vB (IntKind.wrap IntKind.u64 (↑(BitVec.toNat (BitVec.ofInt (IntKind.bits IntKind.u64) (arr4_uint64.e0 s0) &&& BitVec.ofInt (IntKind.bits IntKind.u64) (IntKind.wrap IntKind.u64 ((1:Int) * (2:Int) ^ Min.min (Int.toNat (Int.tmod b (64:Int))) (IntKind.bits IntKind.u64))))):Int) != (0:Int)))] (obC (gtt hb0) (obC (gtt hb0) (obC hb0 (obC (gtt hb1) (obC (gtt hb1) (obC (show (64:Int)≠(0:Int) from by first | decide | rfl | trivial | (simp only [nm]<;>first | decide | rfl | omega)) (obC (gtt hb1) (obC (of_decide_eq_true hb2) (obC (gtt hb1) (obC (gtt hb1) (obC (gtt hb1) (obC (show (64:Int)≠(0:Int) from by first | decide | rfl | trivial | (simp only [nm]<;>first | decide | rfl | omega)) (obC (gtt hb1) (obC (((h3 hb0) hb1) hb2) (obC (gtt hb1) (obC (gtt hb1) (obC hb1 obN))))))))))))))))) ?_
    refine tD ?_
    obtain he0:=h
    subst res
    exact (endD [] (vB (IntKind.wrap IntKind.u64 (↑(BitVec.toNat (BitVec.ofInt (IntKind.bits IntKind.u64) (arr4_uint64.e0 s0) &&& BitVec.ofInt (IntKind.bits IntKind.u64) (IntKind.wrap IntKind.u64 ((1:Int) * (2:Int) ^ Min.min (Int.toNat (Int.tmod b (64:Int))) (IntKind.bits IntKind.u64))))):Int) != (0:Int))) []).1
   ·have hb2:=decide_eq_true hb2
    have h:=h.2.1 hb2
    obtain ⟨h4,h⟩:=h
    refine sD kk [.b true,.b true,.b true,.b true,.b true,.b true,.n 1,.b true,.b true,.b true,.b true,.b true,.b true,.b true] [4,7,8] [(13,vB (IntKind.wrap IntKind.u64 (↑(BitVec.toNat (BitVec.ofInt (IntKind.bits IntKind.u64) (arr4_uint64.e1 s0) &&& BitVec.ofInt (IntKind.bits IntKind.u64) (IntKind.wrap IntKind.u64 ((1:Int) * (2:Int) ^ Min.min (Int.toNat (Int.tmod b (64:Int))) (IntKind.bits IntKind.u64))))):Int) != (0:Int)))] (obC (gtt hb0) (obC (gtt hb0) (obC hb0 (obC (gtt hb1) (obC (gtt hb1) (obC (show (64:Int)≠(0:Int) from by first | decide | rfl | trivial | (simp only [nm]<;>first | decide | rfl | omega)) (obC (gtt hb1) (obC (of_decide_eq_true hb2) (obC (gtt hb1) (obC (gtt hb1) (obC (gtt hb1) (obC (show (64:Int)≠(0:Int) from by first | decide | rfl | trivial | (simp only [nm]<;>first | decide | rfl | omega)) (obC (gtt hb1) (obC (((h4 hb0) hb1) hb2) (obC (gtt hb1) (obC (gtt hb1) (obC hb1 obN))))))))))))))))) ?_
    refine tD ?_
    obtain he0:=h
    subst res
    exact (endD [] (vB (IntKind.wrap IntKind.u64 (↑(BitVec.toNat (BitVec.ofInt (IntKind.bits IntKind.u64) (arr4_uint64.e1 s0) &&& BitVec.ofInt (IntKind.bits IntKind.u64) (IntKind.wrap IntKind.u64 ((1:Int) * (2:Int) ^ Min.min (Int.toNat (Int.tmod b (64:Int))) (IntKind.bits IntKind.u64))))):Int) != (0:Int))) []).1
   ·have hb2:=decide_eq_true hb2
    have h:=h.2.2.1 hb2
    obtain ⟨h5,h⟩:=h
    refine sD kk [.b true,.b true,.b true,.b true,.b true,.b true,.n 2,.b true,.b true,.b true,.b true,.b true,.b true,.b true] [4,7,8] [(13,vB (IntKind.wrap IntKind.u64 (↑(BitVec.toNat (BitVec.ofInt (IntKind.bits IntKind.u64) (arr4_uint64.e2 s0) &&& BitVec.ofInt (IntKind.bits IntKind.u64) (IntKind.wrap IntKind.u64 ((1:Int) * (2:Int) ^ Min.min (Int.toNat (Int.tmod b (64:Int))) (IntKind.bits IntKind.u64))))):Int) != (0:Int)))] (obC (gtt hb0) (obC (gtt hb0) (obC hb0 (obC (gtt hb1) (obC (gtt hb1) (obC (show (64:Int)≠(0:Int) from by first | decide | rfl | trivial | (simp only [nm]<;>first | decide | rfl | omega)) (obC (gtt hb1) (obC (of_decide_eq_true hb2) (obC (gtt hb1) (obC (gtt hb1) (obC (gtt hb1) (obC (show (64:Int)≠(0:Int) from by first | decide | rfl | trivial | (simp only [nm]<;>first | decide | rfl | omega)) (obC (gtt hb1) (obC (((h5 hb0) hb1) hb2) (obC (gtt hb1) (obC (gtt hb1) (obC hb1 obN))))))))))))))))) ?_
    refine tD ?_
    obtain he0:=h
    subst res
    exact (endD [] (vB (IntKind.wrap IntKind.u64 (↑(BitVec.toNat (BitVec.ofInt (IntKind.bits IntKind.u64) (arr4_uint64.e2 s0) &&& BitVec.ofInt (IntKind.bits IntKind.u64) (IntKind.wrap IntKind.u64 ((1:Int) * (2:Int) ^ Min.min (Int.toNat (Int.tmod b (64:Int))) (IntKind.bits IntKind.u64))))):Int) != (0:Int))) []).1
   ·have hb2:=decide_eq_true hb2
    have h:=h.2.2.2 hb2
    obtain ⟨h6,h⟩:=h
    refine sD kk [.b true,.b true,.b true,.b true,.b true,.b true,.n 3,.b true,.b true,.b true,.b true,.b true,.b true,.b true] [4,7,8] [(13,vB (IntKind.wrap IntKind.u64 (↑(BitVec.toNat (BitVec.ofInt (IntKind.bits IntKind.u64) (arr4_uint64.e3 s0) &&& BitVec.ofInt (IntKind.bits IntKind.u64) (IntKind.wrap IntKind.u64 ((1:Int) * (2:Int) ^ Min.min (Int.toNat (Int.tmod b (64:Int))) (IntKind.bits IntKind.u64))))):Int) != (0:Int)))] (obC (gtt hb0) (obC (gtt hb0) (obC hb0 (obC (gtt hb1) (obC (gtt hb1) (obC (show (64:Int)≠(0:Int) from by first | decide | rfl | trivial | (simp only [nm]<;>first | decide | rfl | omega)) (obC (gtt hb1) (obC (of_decide_eq_true hb2) (obC (gtt hb1) (obC (gtt hb1) (obC (gtt hb1) (obC (show (64:Int)≠(0:Int) from by first | decide | rfl | trivial | (simp only [nm]<;>first | decide | rfl | omega)) (obC (gtt hb1) (obC (((h6 hb0) hb1) hb2) (obC (gtt hb1) (obC (gtt hb1) (obC hb1 obN))))))))))))))))) ?_
    refine tD ?_
    obtain he0:=h
    subst res
    exact (endD [] (vB (IntKind.wrap IntKind.u64 (↑(BitVec.toNat (BitVec.ofInt (IntKind.bits IntKind.u64) (arr4_uint64.e3 s0) &&& BitVec.ofInt (IntKind.bits IntKind.u64) (IntKind.wrap IntKind.u64 ((1:Int) * (2:Int) ^ Min.min (Int.toNat (Int.tmod b (64:Int))) (IntKind.bits IntKind.u64))))):Int) != (0:Int))) []).1
  ·have h:=h.2 hb1
   refine sD kk [.b true,.b true,.b true,.b false,.b false,.b false,.b false,.b false,.b false,.b false,.b false,.b false,.b false] [4,7,8] [(13,vB false)] (obC (gtt hb0) (obC (gtt hb0) (obC hb0 (obC (gtf hb1) (obC (gtf hb1) (obC (gtf hb1) (obC (gtf hb1) (obC (gtf hb1) (obC (gtf hb1) (obC (gtf hb1) (obC (gtf hb1) (obC (gtf hb1) (obC hb1 obN))))))))))))) ?_
   refine tD ?_
   obtain he0:=h
   subst res
   exact (endD [] (vB false) []).1
 ·have h:=h.2 hb0
  refine sD kk [.b false,.b false,.b false,.b false,.b false,.b false,.b false,.b false,.b false,.b false,.b false,.b false,.b false] [4,7,8] [(13,vB false)] (obC (gtf hb0) (obC (gtf hb0) (obC hb0 (obC (rfl:false=false) (obC (rfl:false=false) (obC (rfl:false=false) (obC (rfl:false=false) (obC (rfl:false=false) (obC (rfl:false=false) (obC (rfl:false=false) (obC (rfl:false=false) (obC (rfl:false=false) (obC (rfl:false=false) obN))))))))))))) ?_
  refine tD ?_
  obtain he0:=h
  subst res
  exact (endD [] (vB false) []).1
set_option maxHeartbeats 1000000 in
theorem W_hecklelaw03_Maker_Pick (n:Int) (m:hecklelaw03_Maker) (res:Int) (fin:hecklelaw03_Maker)
 (h:(((decide (w64 (hecklelaw03_Maker.At m+1) > (↑(List.length (hecklelaw03_Maker.L m)):Int)))=true→(res=0∧fin=({ L:=hecklelaw03_Maker.L m,At:=w64 (hecklelaw03_Maker.At m+1) })))∧((decide (w64 (hecklelaw03_Maker.At m+1) > (↑(List.length (hecklelaw03_Maker.L m)):Int)))=false→((0:Int)≤w64 (w64 (hecklelaw03_Maker.At m+1) - 1))∧w64 (w64 (hecklelaw03_Maker.At m+1) - 1) < ↑(List.length (hecklelaw03_Maker.L m))∧(n≠(0:Int))∧(res=(Int.tmod (w64 (gd (hecklelaw03_Maker.L m) (w64 (w64 (hecklelaw03_Maker.At m+1) - 1)))) n)∧fin=({ L:=hecklelaw03_Maker.L m,At:=w64 (hecklelaw03_Maker.At m+1) }))))):C_hecklelaw03_Maker_Pick n m res fin:=by
 unfold C_hecklelaw03_Maker_Pick
 have kk:=cfOk [] 36
 refine fD (x:=bodyOf Try.f27) kk Try.func27 ?_
 refine wkS [1,3,4] [(1,.ptr 3 0),(3,av_hecklelaw03_Maker m),(4,vi n)] (by kernel_rfl) ?_
 refine sD kk [] [] [] obN ?_
 refine sD kk [] [] [(3,.agg [vL enc_u8 (hecklelaw03_Maker.L m),vi (w64 (hecklelaw03_Maker.At m+1))])] obN ?_
 refine qD ?_
 refine sDE kk [] [] [(64,vB (decide (w64 (hecklelaw03_Maker.At m+1) > (↑(List.length (List.map enc_u8 (hecklelaw03_Maker.L m))):Int))))] [(64,vB (decide (w64 (hecklelaw03_Maker.At m+1) > (↑(List.length (hecklelaw03_Maker.L m)):Int))))] obN ?_
 refine cD (t:=21) (b:=decide (w64 (hecklelaw03_Maker.At m+1) > (↑(List.length (hecklelaw03_Maker.L m)):Int))) (fun hb0=>?_) (fun hb0=>?_)
 ·have h:=h.1 hb0
  refine sD kk [] [1,4,64] [(13,vi 0)] obN ?_
  refine tD ?_
  obtain ⟨he0,he1⟩:=h
  subst res fin
  exact (endD [] (vi 0) [.agg [vL enc_u8 (hecklelaw03_Maker.L m),vi (w64 (hecklelaw03_Maker.At m+1))]]).1
 ·have h:=h.2 hb0
  refine Sem.skip' (by kernel_rfl) Wk.refl ?_
  show Sem _ _ _ _ _
  refine wkD [64] ?_
  obtain ⟨h1,h⟩:=h
  obtain ⟨h2,h⟩:=h
  obtain ⟨h3,h⟩:=h
  refine sD kk [.e (.pv (.int .u8 (gd (hecklelaw03_Maker.L m) (w64 (w64 (hecklelaw03_Maker.At m+1) - 1)))))] [1,4] [(13,vi (Int.tmod (w64 (gd (hecklelaw03_Maker.L m) (w64 (w64 (hecklelaw03_Maker.At m+1) - 1)))) n))] (obC h1 (obC (idx_ok enc_u8 (hecklelaw03_Maker.L m) (w64 (w64 (hecklelaw03_Maker.At m+1) - 1)) _ rfl h1 h2) (obC h3 obN))) ?_
  refine tD ?_
  obtain ⟨he0,he1⟩:=h
  subst res fin
  exact (endD [] (vi (Int.tmod (w64 (gd (hecklelaw03_Maker.L m) (w64 (w64 (hecklelaw03_Maker.At m+1) - 1)))) n)) [.agg [vL enc_u8 (hecklelaw03_Maker.L m),vi (w64 (hecklelaw03_Maker.At m+1))]]).1
set_option maxHeartbeats 1000000 in
theorem W_heckleref01_add (s0:arr4_uint64) (b:Int) (res:arr4_uint64)
 (h:((w64 (Int.tdiv b (64:Int))=0∨w64 (Int.tdiv b (64:Int))=1∨w64 (Int.tdiv b (64:Int))=2∨w64 (Int.tdiv b (64:Int))=3)∧((decide (w64 (Int.tdiv b (64:Int))=(0:Int)))=true→((decide (w64 (Int.tdiv b (64:Int))=(0:Int)))=true→((0:Int)≤Int.tmod b (64:Int)))∧(res=({ e0:=IntKind.wrap IntKind.u64 (↑(BitVec.toNat (BitVec.ofInt (IntKind.bits IntKind.u64) (arr4_uint64.e0 s0) ||| BitVec.ofInt (IntKind.bits IntKind.u64) (IntKind.wrap IntKind.u64 ((1:Int) * (2:Int) ^ Min.min (Int.toNat (Int.tmod b (64:Int))) (IntKind.bits IntKind.u64))))):Int),e1:=arr4_uint64.e1 s0,e2:=arr4_uint64.e2 s0,e3:=arr4_uint64.e3 s0 })))∧((decide (w64 (Int.tdiv b (64:Int))=(1:Int)))=true→((decide (w64 (Int.tdiv b (64:Int))=(1:Int)))=true→((0:Int)≤Int.tmod b (64:Int)))∧(res=({ e0:=arr4_uint64.e0 s0,e1:=IntKind.wrap IntKind.u64 (↑(BitVec.toNat (BitVec.ofInt (IntKind.bits IntKind.u64) (arr4_uint64.e1 s0) ||| BitVec.ofInt (IntKind.bits IntKind.u64) (IntKind.wrap IntKind.u64 ((1:Int) * (2:Int) ^ Min.min (Int.toNat (Int.tmod b (64:Int))) (IntKind.bits IntKind.u64))))):Int),e2:=arr4_uint64.e2 s0,e3:=arr4_uint64.e3 s0 })))∧((decide (w64 (Int.tdiv b (64:Int))=(2:Int)))=true→((decide (w64 (Int.tdiv b (64:Int))=(2:Int)))=true→((0:Int)≤Int.tmod b (64:Int)))∧(res=({ e0:=arr4_uint64.e0 s0,e1:=arr4_uint64.e1 s0,e2:=IntKind.wrap IntKind.u64 (↑(BitVec.toNat (BitVec.ofInt (IntKind.bits IntKind.u64) (arr4_uint64.e2 s0) ||| BitVec.ofInt (IntKind.bits IntKind.u64) (IntKind.wrap IntKind.u64 ((1:Int) * (2:Int) ^ Min.min (Int.toNat (Int.tmod b (64:Int))) (IntKind.bits IntKind.u64))))):Int),e3:=arr4_uint64.e3 s0 })))∧((decide (w64 (Int.tdiv b (64:Int))=(3:Int)))=true→((decide (w64 (Int.tdiv b (64:Int))=(3:Int)))=true→((0:Int)≤Int.tmod b (64:Int)))∧(res=({ e0:=arr4_uint64.e0 s0,e1:=arr4_uint64.e1 s0,e2:=arr4_uint64.e2 s0,e3:=IntKind.wrap IntKind.u64 (↑(BitVec.toNat (BitVec.ofInt (IntKind.bits IntKind.u64) (arr4_uint64.e3 s0) ||| BitVec.ofInt (IntKind.bits IntKind.u64) (IntKind.wrap IntKind.u64 ((1:Int) * (2:Int) ^ Min.min (Int.toNat (Int.tmod b (64:Int))) (IntKind.bits IntKind.u64))))):Int) }))))):C_heckleref01_add s0 b res:=by
 unfold C_heckleref01_add
 have kk:=cfOk [16] 17
 refine fD (x:=bodyOf Try.f97) kk Try.func97 ?_
 refine wkS [1,4] [(1,av_arr4_uint64 s0),(4,vi b)] (by kernel_rfl) ?_
 refine sD kk [] [1] [(7,.ptr 8 0),(8,av_arr4_uint64 s0),(13,.ptr 14 0),(14,.agg [vI .u64 0,vI .u64 0,vI .u64 0,vI .u64 0])] obN ?_
 obtain ⟨hor,h⟩:=h
 rcases hor with hb0 | hb0 | hb0 | hb0
 ·have hb0:=decide_eq_true hb0
  have h:=h.1 hb0
  obtain ⟨h1,h⟩:=h
  refine sD kk [.n 0,.n 0] [4] [(8,.agg [vI .u64 (IntKind.wrap IntKind.u64 (↑(BitVec.toNat (BitVec.ofInt (IntKind.bits IntKind.u64) (arr4_uint64.e0 s0) ||| BitVec.ofInt (IntKind.bits IntKind.u64) (IntKind.wrap IntKind.u64 ((1:Int) * (2:Int) ^ Min.min (Int.toNat (Int.tmod b (64:Int))) (IntKind.bits IntKind.u64))))):Int)),vI .u64 (arr4_uint64.e1 s0),vI .u64 (arr4_uint64.e2 s0),vI .u64 (arr4_uint64.e3 s0)])] (obC (show (64:Int)≠(0:Int) from by first | decide | rfl | trivial | (simp only [nm]<;>first | decide | rfl | omega)) (obC (show (64:Int)≠(0:Int) from by first | decide | rfl | trivial | (simp only [nm]<;>first | decide | rfl | omega)) (obC (of_decide_eq_true hb0) (obC (show (64:Int)≠(0:Int) from by first | decide | rfl | trivial | (simp only [nm]<;>first | decide | rfl | omega)) (obC (h1 hb0) (obC (of_decide_eq_true hb0) obN)))))) ?_
  refine sD kk [] [7,8] [(14,.agg [vI .u64 (IntKind.wrap IntKind.u64 (↑(BitVec.toNat (BitVec.ofInt (IntKind.bits IntKind.u64) (arr4_uint64.e0 s0) ||| BitVec.ofInt (IntKind.bits IntKind.u64) (IntKind.wrap IntKind.u64 ((1:Int) * (2:Int) ^ Min.min (Int.toNat (Int.tmod b (64:Int))) (IntKind.bits IntKind.u64))))):Int)),vI .u64 (arr4_uint64.e1 s0),vI .u64 (arr4_uint64.e2 s0),vI .u64 (arr4_uint64.e3 s0)])] obN ?_
  refine tD ?_
  obtain he0:=h
  subst res
  exact (endD [] (.agg [vI .u64 (IntKind.wrap IntKind.u64 (↑(BitVec.toNat (BitVec.ofInt (IntKind.bits IntKind.u64) (arr4_uint64.e0 s0) ||| BitVec.ofInt (IntKind.bits IntKind.u64) (IntKind.wrap IntKind.u64 ((1:Int) * (2:Int) ^ Min.min (Int.toNat (Int.tmod b (64:Int))) (IntKind.bits IntKind.u64))))):Int)),vI .u64 (arr4_uint64.e1 s0),vI .u64 (arr4_uint64.e2 s0),vI .u64 (arr4_uint64.e3 s0)]) []).1
 ·have hb0:=decide_eq_true hb0
  have h:=h.2.1 hb0
  obtain ⟨h2,h⟩:=h
  refine sD kk [.n 1,.n 1] [4] [(8,.agg [vI .u64 (arr4_uint64.e0 s0),vI .u64 (IntKind.wrap IntKind.u64 (↑(BitVec.toNat (BitVec.ofInt (IntKind.bits IntKind.u64) (arr4_uint64.e1 s0) ||| BitVec.ofInt (IntKind.bits IntKind.u64) (IntKind.wrap IntKind.u64 ((1:Int) * (2:Int) ^ Min.min (Int.toNat (Int.tmod b (64:Int))) (IntKind.bits IntKind.u64))))):Int)),vI .u64 (arr4_uint64.e2 s0),vI .u64 (arr4_uint64.e3 s0)])] (obC (show (64:Int)≠(0:Int) from by first | decide | rfl | trivial | (simp only [nm]<;>first | decide | rfl | omega)) (obC (show (64:Int)≠(0:Int) from by first | decide | rfl | trivial | (simp only [nm]<;>first | decide | rfl | omega)) (obC (of_decide_eq_true hb0) (obC (show (64:Int)≠(0:Int) from by first | decide | rfl | trivial | (simp only [nm]<;>first | decide | rfl | omega)) (obC (h2 hb0) (obC (of_decide_eq_true hb0) obN)))))) ?_
  refine sD kk [] [7,8] [(14,.agg [vI .u64 (arr4_uint64.e0 s0),vI .u64 (IntKind.wrap IntKind.u64 (↑(BitVec.toNat (BitVec.ofInt (IntKind.bits IntKind.u64) (arr4_uint64.e1 s0) ||| BitVec.ofInt (IntKind.bits IntKind.u64) (IntKind.wrap IntKind.u64 ((1:Int) * (2:Int) ^ Min.min (Int.toNat (Int.tmod b (64:Int))) (IntKind.bits IntKind.u64))))):Int)),vI .u64 (arr4_uint64.e2 s0),vI .u64 (arr4_uint64.e3 s0)])] obN ?_
  refine tD ?_
  obtain he0:=h
  subst res
  exact (endD [] (.agg [vI .u64 (arr4_uint64.e0 s0),vI .u64 (IntKind.wrap IntKind.u64 (↑(BitVec.toNat (BitVec.ofInt (IntKind.bits IntKind.u64) (arr4_uint64.e1 s0) ||| BitVec.ofInt (IntKind.bits IntKind.u64) (IntKind.wrap IntKind.u64 ((1:Int) * (2:Int) ^ Min.min (Int.toNat (Int.tmod b (64:Int))) (IntKind.bits IntKind.u64))))):Int)),vI .u64 (arr4_uint64.e2 s0),vI .u64 (arr4_uint64.e3 s0)]) []).1
 ·have hb0:=decide_eq_true hb0
  have h:=h.2.2.1 hb0
  obtain ⟨h3,h⟩:=h
  refine sD kk [.n 2,.n 2] [4] [(8,.agg [vI .u64 (arr4_uint64.e0 s0),vI .u64 (arr4_uint64.e1 s0),vI .u64 (IntKind.wrap IntKind.u64 (↑(BitVec.toNat (BitVec.ofInt (IntKind.bits IntKind.u64) (arr4_uint64.e2 s0) ||| BitVec.ofInt (IntKind.bits IntKind.u64) (IntKind.wrap IntKind.u64 ((1:Int) * (2:Int) ^ Min.min (Int.toNat (Int.tmod b (64:Int))) (IntKind.bits IntKind.u64))))):Int)),vI .u64 (arr4_uint64.e3 s0)])] (obC (show (64:Int)≠(0:Int) from by first | decide | rfl | trivial | (simp only [nm]<;>first | decide | rfl | omega)) (obC (show (64:Int)≠(0:Int) from by first | decide | rfl | trivial | (simp only [nm]<;>first | decide | rfl | omega)) (obC (of_decide_eq_true hb0) (obC (show (64:Int)≠(0:Int) from by first | decide | rfl | trivial | (simp only [nm]<;>first | decide | rfl | omega)) (obC (h3 hb0) (obC (of_decide_eq_true hb0) obN)))))) ?_
  refine sD kk [] [7,8] [(14,.agg [vI .u64 (arr4_uint64.e0 s0),vI .u64 (arr4_uint64.e1 s0),vI .u64 (IntKind.wrap IntKind.u64 (↑(BitVec.toNat (BitVec.ofInt (IntKind.bits IntKind.u64) (arr4_uint64.e2 s0) ||| BitVec.ofInt (IntKind.bits IntKind.u64) (IntKind.wrap IntKind.u64 ((1:Int) * (2:Int) ^ Min.min (Int.toNat (Int.tmod b (64:Int))) (IntKind.bits IntKind.u64))))):Int)),vI .u64 (arr4_uint64.e3 s0)])] obN ?_
  refine tD ?_
  obtain he0:=h
  subst res
  exact (endD [] (.agg [vI .u64 (arr4_uint64.e0 s0),vI .u64 (arr4_uint64.e1 s0),vI .u64 (IntKind.wrap IntKind.u64 (↑(BitVec.toNat (BitVec.ofInt (IntKind.bits IntKind.u64) (arr4_uint64.e2 s0) ||| BitVec.ofInt (IntKind.bits IntKind.u64) (IntKind.wrap IntKind.u64 ((1:Int) * (2:Int) ^ Min.min (Int.toNat (Int.tmod b (64:Int))) (IntKind.bits IntKind.u64))))):Int)),vI .u64 (arr4_uint64.e3 s0)]) []).1
 ·have hb0:=decide_eq_true hb0
  have h:=h.2.2.2 hb0
  obtain ⟨h4,h⟩:=h
  refine sD kk [.n 3,.n 3] [4] [(8,.agg [vI .u64 (arr4_uint64.e0 s0),vI .u64 (arr4_uint64.e1 s0),vI .u64 (arr4_uint64.e2 s0),vI .u64 (IntKind.wrap IntKind.u64 (↑(BitVec.toNat (BitVec.ofInt (IntKind.bits IntKind.u64) (arr4_uint64.e3 s0) ||| BitVec.ofInt (IntKind.bits IntKind.u64) (IntKind.wrap IntKind.u64 ((1:Int) * (2:Int) ^ Min.min (Int.toNat (Int.tmod b (64:Int))) (IntKind.bits IntKind.u64))))):Int))])] (obC (show (64:Int)≠(0:Int) from by first | decide | rfl | trivial | (simp only [nm]<;>first | decide | rfl | omega)) (obC (show (64:Int)≠(0:Int) from by first | decide | rfl | trivial | (simp only [nm]<;>first | decide | rfl | omega)) (obC (of_decide_eq_true hb0) (obC (show (64:Int)≠(0:Int) from by first | decide | rfl | trivial | (simp only [nm]<;>first | decide | rfl | omega)) (obC (h4 hb0) (obC (of_decide_eq_true hb0) obN)))))) ?_
  refine sD kk [] [7,8] [(14,.agg [vI .u64 (arr4_uint64.e0 s0),vI .u64 (arr4_uint64.e1 s0),vI .u64 (arr4_uint64.e2 s0),vI .u64 (IntKind.wrap IntKind.u64 (↑(BitVec.toNat (BitVec.ofInt (IntKind.bits IntKind.u64) (arr4_uint64.e3 s0) ||| BitVec.ofInt (IntKind.bits IntKind.u64) (IntKind.wrap IntKind.u64 ((1:Int) * (2:Int) ^ Min.min (Int.toNat (Int.tmod b (64:Int))) (IntKind.bits IntKind.u64))))):Int))])] obN ?_
  refine tD ?_
  obtain he0:=h
  subst res
  exact (endD [] (.agg [vI .u64 (arr4_uint64.e0 s0),vI .u64 (arr4_uint64.e1 s0),vI .u64 (arr4_uint64.e2 s0),vI .u64 (IntKind.wrap IntKind.u64 (↑(BitVec.toNat (BitVec.ofInt (IntKind.bits IntKind.u64) (arr4_uint64.e3 s0) ||| BitVec.ofInt (IntKind.bits IntKind.u64) (IntKind.wrap IntKind.u64 ((1:Int) * (2:Int) ^ Min.min (Int.toNat (Int.tmod b (64:Int))) (IntKind.bits IntKind.u64))))):Int))]) []).1
set_option maxHeartbeats 1000000 in
theorem W_heckleref01_Of (from0:Int) (to0:Int) (res:arr4_uint64)
 (h:(∃ (Inv16:Int→Int→Int→Int→Int→Prop) (mu17:Int→Int→Int→Int→Int→Nat),Inv16 0 0 0 0 0∧(∀ (s_e0_1:Int) (s_e1_1:Int) (s_e2_1:Int) (s_e3_1:Int) (b:Int),Inv16 s_e0_1 s_e1_1 s_e2_1 s_e3_1 b→(((decide (b < (256:Int)))=true→(∃ J22:Int→Int→Int→Int→Prop,(∀ (s_e0_3:Int) (s_e1_3:Int) (s_e2_3:Int) (s_e3_3:Int),J22 s_e0_3 s_e1_3 s_e2_3 s_e3_3→(Inv16 s_e0_3 s_e1_3 s_e2_3 s_e3_3 (w64 (b+1))∧mu17 s_e0_3 s_e1_3 s_e2_3 s_e3_3 (w64 (b+1)) < mu17 s_e0_1 s_e1_1 s_e2_1 s_e3_1 b))∧(((decide (b≥from0) && decide (b≤to0))=true→(∃ r0_5:arr4_uint64,C_heckleref01_add ({ e0:=s_e0_1,e1:=s_e1_1,e2:=s_e2_1,e3:=s_e3_1 }) b r0_5∧J22 (arr4_uint64.e0 r0_5) (arr4_uint64.e1 r0_5) (arr4_uint64.e2 r0_5) (arr4_uint64.e3 r0_5)))∧((decide (b≥from0) && decide (b≤to0))=false→J22 s_e0_1 s_e1_1 s_e2_1 s_e3_1))))∧((decide (b < (256:Int)))=false→(res=({ e0:=s_e0_1,e1:=s_e1_1,e2:=s_e2_1,e3:=s_e3_1 }))))))):C_heckleref01_Of from0 to0 res:=by
 unfold C_heckleref01_Of
 have kk:=cfOk [22] 23
 refine fD (x:=bodyOf Try.f67) kk Try.func67 ?_
 refine wkS [1,4] [(1,vi from0),(4,vi to0)] (by kernel_rfl) ?_
 refine sD kk [] [] [(13,.ptr 14 0),(14,.agg [vI .u64 0,vI .u64 0,vI .u64 0,vI .u64 0])] obN ?_
 refine sD kk [] [] [(16,.ptr 17 0),(17,.agg [vI .u64 0,vI .u64 0,vI .u64 0,vI .u64 0])] obN ?_
 refine qD ?_
 refine sD kk [] [] [(19,vi 0)] obN ?_
 refine bD (id:=0) ?_
 obtain ⟨Inv16,mu17,h0Inv16,hInv16⟩:=h
 refine loD (fun (q:Int×Int×Int×Int×Int)=>(fun (s_e0_1:Int) (s_e1_1:Int) (s_e2_1:Int) (s_e3_1:Int) (b:Int)=>([(1,vi from0),(4,vi to0),(13,.ptr 14 0),(14,.agg [vI .u64 0,vI .u64 0,vI .u64 0,vI .u64 0]),(16,.ptr 17 0),(17,.agg [vI .u64 s_e0_1,vI .u64 s_e1_1,vI .u64 s_e2_1,vI .u64 s_e3_1]),(19,vi b)]:Sta)) q.1 q.2.1 q.2.2.1 q.2.2.2.1 q.2.2.2.2) (fun (q:Int×Int×Int×Int×Int)=>Inv16 q.1 q.2.1 q.2.2.1 q.2.2.2.1 q.2.2.2.2) (fun (q:Int×Int×Int×Int×Int)=>mu17 q.1 q.2.1 q.2.2.1 q.2.2.2.1 q.2.2.2.2) (0,0,0,0,0) [] h0Inv16 ?_
 rintro ⟨s_e0_1,s_e1_1,s_e2_1,s_e3_1,b⟩ hi
 have h:=hInv16 s_e0_1 s_e1_1 s_e2_1 s_e3_1 b hi
 refine qD ?_
 refine sD kk [] [] [(25,vB (decide (b < (256:Int))))] obN ?_
 refine cD (t:=8) (b:=decide (b < (256:Int))) (fun hb18=>?_) (fun hb18=>?_)
 ·have h:=h.1 hb18
  refine Sem.skip' (by kernel_rfl) Wk.refl ?_
  show Sem _ _ _ _ _
  refine wkD [25] ?_
  obtain ⟨J22,hJ22,h⟩:=h
  refine sjD (fun (q:Int×Int×Int×Int)=>J22 q.1 q.2.1 q.2.2.1 q.2.2.2) (fun (q:Int×Int×Int×Int)=>(fun (s_e0_3:Int) (s_e1_3:Int) (s_e2_3:Int) (s_e3_3:Int)=>([(1,vi from0),(4,vi to0),(13,.ptr 14 0),(14,.agg [vI .u64 0,vI .u64 0,vI .u64 0,vI .u64 0]),(16,.ptr 17 0),(17,.agg [vI .u64 s_e0_3,vI .u64 s_e1_3,vI .u64 s_e2_3,vI .u64 s_e3_3]),(19,vi b)]:Sta)) q.1 q.2.1 q.2.2.1 q.2.2.2) ?_ ?_
  ·rintro ⟨s_e0_3,s_e1_3,s_e2_3,s_e3_3⟩ hj
   have h:=hJ22 s_e0_3 s_e1_3 s_e2_3 s_e3_3 hj
   refine rD kk [] [] [(19,vi (w64 (b+1)))] obN ?_
   exact lD (s_e0_3,s_e1_3,s_e2_3,s_e3_3,(w64 (b+1))) [] h
  ·refine bD (id:=1) ?_
   refine sM [] [(55,vB (decide (b≥from0) && decide (b≤to0)))] ?_ (fun hk0=>?_)
   ·refine cD (t:=18) (b:=decide (b≥from0) && decide (b≤to0)) (fun hb24=>?_) (fun hb24=>?_)
    ·have h:=h.1 hb24
     obtain ⟨r0_5,hc25,h⟩:=h
     refine rD kk [.c (av_arr4_uint64 r0_5) []] [55] [(17,av_arr4_uint64 r0_5)] (obC hc25 obN) ?_
     exact jD ((arr4_uint64.e0 r0_5),(arr4_uint64.e1 r0_5),(arr4_uint64.e2 r0_5),(arr4_uint64.e3 r0_5)) [] h
    ·have h:=h.2 hb24
     refine Sem.skip' (by kernel_rfl) Wk.refl ?_
     exact jD (s_e0_1,s_e1_1,s_e2_1,s_e3_1) [] h
   ·rcases Bool.eq_false_or_eq_true (decide (b≥from0)) with hb23 | hb23
    ·refine sD kk [.b true,.b true,.b true,.b true] [] [(55,vB (decide (b≤to0)))] (obC (gtt hb23) (obC (gtt hb23) (obC (gtt hb23) (obC hb23 obN)))) ?_
     exact Sem.cast (by try rw [hb23];kernel_rfl) hk0
    ·refine sD kk [.b false,.b false,.b false,.b false] [] [(55,vB false)] (obC (gtf hb23) (obC (gtf hb23) (obC (gtf hb23) (obC hb23 obN)))) ?_
     exact Sem.cast (by try rw [hb23];kernel_rfl) hk0
 ·have h:=h.2 hb18
  refine xD (i:=0) ?_
  show Sem _ _ _ _ _
  refine wkD [1,4,19,25] ?_
  refine sD kk [] [16,17] [(14,.agg [vI .u64 s_e0_1,vI .u64 s_e1_1,vI .u64 s_e2_1,vI .u64 s_e3_1])] obN ?_
  refine tD ?_
  obtain he0:=h
  subst res
  exact (endD [] (.agg [vI .u64 s_e0_1,vI .u64 s_e1_1,vI .u64 s_e2_1,vI .u64 s_e3_1]) []).1
set_option maxHeartbeats 1000000 in
theorem W_heckleref01_Has (s0:arr4_uint64) (b:Int) (res:Bool)
 (h:(((decide (b≥(0:Int)))=true→(((decide (b < (256:Int)))=true→((w64 (Int.tdiv b (64:Int))=0∨w64 (Int.tdiv b (64:Int))=1∨w64 (Int.tdiv b (64:Int))=2∨w64 (Int.tdiv b (64:Int))=3)∧((decide (w64 (Int.tdiv b (64:Int))=(0:Int)))=true→((decide (b≥(0:Int)))=true→((decide (b < (256:Int)))=true→((decide (w64 (Int.tdiv b (64:Int))=(0:Int)))=true→((0:Int)≤Int.tmod b (64:Int)))))∧(res=(IntKind.wrap IntKind.u64 (↑(BitVec.toNat (BitVec.ofInt (IntKind.bits IntKind.u64) (Int.fdiv (arr4_uint64.e0 s0) ((2:Int) ^ Min.min (Int.toNat (Int.tmod b (64:Int))) (IntKind.bits IntKind.u64))) &&& BitVec.ofInt (IntKind.bits IntKind.u64) (1:Int))):Int) == 1)))∧((decide (w64 (Int.tdiv b (64:Int))=(1:Int)))=true→((decide (b≥(0:Int)))=true→((decide (b < (256:Int)))=true→((decide (w64 (Int.tdiv b (64:Int))=(1:Int)))=true→((0:Int)≤Int.tmod b (64:Int)))))∧(res=(IntKind.wrap IntKind.u64 (↑(BitVec.toNat (BitVec.ofInt (IntKind.bits IntKind.u64) (Int.fdiv (arr4_uint64.e1 s0) ((2:Int) ^ Min.min (Int.toNat (Int.tmod b (64:Int))) (IntKind.bits IntKind.u64))) &&& BitVec.ofInt (IntKind.bits IntKind.u64) (1:Int))):Int) == 1)))∧((decide (w64 (Int.tdiv b (64:Int))=(2:Int)))=true→((decide (b≥(0:Int)))=true→((decide (b < (256:Int)))=true→((decide (w64 (Int.tdiv b (64:Int))=(2:Int)))=true→((0:Int)≤Int.tmod b (64:Int)))))∧(res=(IntKind.wrap IntKind.u64 (↑(BitVec.toNat (BitVec.ofInt (IntKind.bits IntKind.u64) (Int.fdiv (arr4_uint64.e2 s0) ((2:Int) ^ Min.min (Int.toNat (Int.tmod b (64:Int))) (IntKind.bits IntKind.u64))) &&& BitVec.ofInt (IntKind.bits IntKind.u64) (1:Int))):Int) == 1)))∧((decide (w64 (Int.tdiv b (64:Int))=(3:Int)))=true→((decide (b≥(0:Int)))=true→((decide (b < (256:Int)))=true→((decide (w64 (Int.tdiv b (64:Int))=(3:Int)))=true→((0:Int)≤Int.tmod b (64:Int)))))∧(res=(IntKind.wrap IntKind.u64 (↑(BitVec.toNat (BitVec.ofInt (IntKind.bits IntKind.u64) (Int.fdiv (arr4_uint64.e3 s0) ((2:Int) ^ Min.min (Int.toNat (Int.tmod b (64:Int))) (IntKind.bits IntKind.u64))) &&& BitVec.ofInt (IntKind.bits IntKind.u64) (1:Int))):Int) == 1)))))∧((decide (b < (256:Int)))=false→(res=false))))∧((decide (b≥(0:Int)))=false→(res=false)))):C_heckleref01_Has s0 b res:=by
 unfold C_heckleref01_Has
 have kk:=cfOk [] 22
 refine fD (x:=bodyOf Try.f51) kk Try.func51 ?_
 refine wkS [1,4] [(1,av_arr4_uint64 s0),(4,vi b)] (by kernel_rfl) ?_
 refine sD kk [] [1] [(7,.ptr 8 0),(8,av_arr4_uint64 s0)] obN ?_
 rcases Bool.eq_false_or_eq_true (decide (b≥(0:Int))) with hb0 | hb0
 ·have h:=h.1 hb0
  rcases Bool.eq_false_or_eq_true (decide (b < (256:Int))) with hb1 | hb1
  ·have h:=h.1 hb1
   obtain ⟨hor,h⟩:=h
   rcases hor with hb2 | hb2 | hb2 | hb2
   ·have hb2:=decide_eq_true hb2
    have h:=h.1 hb2
    obtain ⟨h3,h⟩:=h
    refine sD kk [.b true,.b true,.b true,.b true,.b true,.b true,.n 0,.b true,.b true,.b true,.b true,.b true,.b true,.b true] [4,7,8] [(13,vB (IntKind.wrap IntKind.u64 (↑(BitVec.toNat (BitVec.ofInt (IntKind.bits IntKind.u64) (Int.fdiv (arr4_uint64.e0 s0) ((2:Int) ^ Min.min (Int.toNat (Int.tmod b (64:Int))) (IntKind.bits IntKind.u64))) &&& BitVec.ofInt (IntKind.bits IntKind.u64) (1:Int))):Int) == 1))] (obC (gtt hb0) (obC (gtt hb0) (obC hb0 (obC (gtt hb1) (obC (gtt hb1) (obC (show (64:Int)≠(0:Int) from by first | decide | rfl | trivial | (simp only [nm]<;>first | decide | rfl | omega)) (obC (gtt hb1) (obC (of_decide_eq_true hb2) (obC (gtt hb1) (obC (gtt hb1) (obC (gtt hb1) (obC (show (64:Int)≠(0:Int) from by first | decide | rfl | trivial | (simp only [nm]<;>first | decide | rfl | omega)) (obC (gtt hb1) (obC (((h3 hb0) hb1) hb2) (obC (gtt hb1) (obC (gtt hb1) (obC hb1 obN))))))))))))))))) ?_
    refine tD ?_
    obtain he0:=h
    subst res
    exact (endD [] (vB (IntKind.wrap IntKind.u64 (↑(BitVec.toNat (BitVec.ofInt (IntKind.bits IntKind.u64) (Int.fdiv (arr4_uint64.e0 s0) ((2:Int) ^ Min.min (Int.toNat (Int.tmod b (64:Int))) (IntKind.bits IntKind.u64))) &&& BitVec.ofInt (IntKind.bits IntKind.u64) (1:Int))):Int) == 1)) []).1
   ·have hb2:=decide_eq_true hb2
    have h:=h.2.1 hb2
    obtain ⟨h4,h⟩:=h
    refine sD kk [.b true,.b true,.b true,.b true,.b true,.b true,.n 1,.b true,.b true,.b true,.b true,.b true,.b true,.b true] [4,7,8] [(13,vB (IntKind.wrap IntKind.u64 (↑(BitVec.toNat (BitVec.ofInt (IntKind.bits IntKind.u64) (Int.fdiv (arr4_uint64.e1 s0) ((2:Int) ^ Min.min (Int.toNat (Int.tmod b (64:Int))) (IntKind.bits IntKind.u64))) &&& BitVec.ofInt (IntKind.bits IntKind.u64) (1:Int))):Int) == 1))] (obC (gtt hb0) (obC (gtt hb0) (obC hb0 (obC (gtt hb1) (obC (gtt hb1) (obC (show (64:Int)≠(0:Int) from by first | decide | rfl | trivial | (simp only [nm]<;>first | decide | rfl | omega)) (obC (gtt hb1) (obC (of_decide_eq_true hb2) (obC (gtt hb1) (obC (gtt hb1) (obC (gtt hb1) (obC (show (64:Int)≠(0:Int) from by first | decide | rfl | trivial | (simp only [nm]<;>first | decide | rfl | omega)) (obC (gtt hb1) (obC (((h4 hb0) hb1) hb2) (obC (gtt hb1) (obC (gtt hb1) (obC hb1 obN))))))))))))))))) ?_
    refine tD ?_
    obtain he0:=h
    subst res
    exact (endD [] (vB (IntKind.wrap IntKind.u64 (↑(BitVec.toNat (BitVec.ofInt (IntKind.bits IntKind.u64) (Int.fdiv (arr4_uint64.e1 s0) ((2:Int) ^ Min.min (Int.toNat (Int.tmod b (64:Int))) (IntKind.bits IntKind.u64))) &&& BitVec.ofInt (IntKind.bits IntKind.u64) (1:Int))):Int) == 1)) []).1
   ·have hb2:=decide_eq_true hb2
    have h:=h.2.2.1 hb2
    obtain ⟨h5,h⟩:=h
    refine sD kk [.b true,.b true,.b true,.b true,.b true,.b true,.n 2,.b true,.b true,.b true,.b true,.b true,.b true,.b true] [4,7,8] [(13,vB (IntKind.wrap IntKind.u64 (↑(BitVec.toNat (BitVec.ofInt (IntKind.bits IntKind.u64) (Int.fdiv (arr4_uint64.e2 s0) ((2:Int) ^ Min.min (Int.toNat (Int.tmod b (64:Int))) (IntKind.bits IntKind.u64))) &&& BitVec.ofInt (IntKind.bits IntKind.u64) (1:Int))):Int) == 1))] (obC (gtt hb0) (obC (gtt hb0) (obC hb0 (obC (gtt hb1) (obC (gtt hb1) (obC (show (64:Int)≠(0:Int) from by first | decide | rfl | trivial | (simp only [nm]<;>first | decide | rfl | omega)) (obC (gtt hb1) (obC (of_decide_eq_true hb2) (obC (gtt hb1) (obC (gtt hb1) (obC (gtt hb1) (obC (show (64:Int)≠(0:Int) from by first | decide | rfl | trivial | (simp only [nm]<;>first | decide | rfl | omega)) (obC (gtt hb1) (obC (((h5 hb0) hb1) hb2) (obC (gtt hb1) (obC (gtt hb1) (obC hb1 obN))))))))))))))))) ?_
    refine tD ?_
    obtain he0:=h
    subst res
    exact (endD [] (vB (IntKind.wrap IntKind.u64 (↑(BitVec.toNat (BitVec.ofInt (IntKind.bits IntKind.u64) (Int.fdiv (arr4_uint64.e2 s0) ((2:Int) ^ Min.min (Int.toNat (Int.tmod b (64:Int))) (IntKind.bits IntKind.u64))) &&& BitVec.ofInt (IntKind.bits IntKind.u64) (1:Int))):Int) == 1)) []).1
   ·have hb2:=decide_eq_true hb2
    have h:=h.2.2.2 hb2
    obtain ⟨h6,h⟩:=h
    refine sD kk [.b true,.b true,.b true,.b true,.b true,.b true,.n 3,.b true,.b true,.b true,.b true,.b true,.b true,.b true] [4,7,8] [(13,vB (IntKind.wrap IntKind.u64 (↑(BitVec.toNat (BitVec.ofInt (IntKind.bits IntKind.u64) (Int.fdiv (arr4_uint64.e3 s0) ((2:Int) ^ Min.min (Int.toNat (Int.tmod b (64:Int))) (IntKind.bits IntKind.u64))) &&& BitVec.ofInt (IntKind.bits IntKind.u64) (1:Int))):Int) == 1))] (obC (gtt hb0) (obC (gtt hb0) (obC hb0 (obC (gtt hb1) (obC (gtt hb1) (obC (show (64:Int)≠(0:Int) from by first | decide | rfl | trivial | (simp only [nm]<;>first | decide | rfl | omega)) (obC (gtt hb1) (obC (of_decide_eq_true hb2) (obC (gtt hb1) (obC (gtt hb1) (obC (gtt hb1) (obC (show (64:Int)≠(0:Int) from by first | decide | rfl | trivial | (simp only [nm]<;>first | decide | rfl | omega)) (obC (gtt hb1) (obC (((h6 hb0) hb1) hb2) (obC (gtt hb1) (obC (gtt hb1) (obC hb1 obN))))))))))))))))) ?_
    refine tD ?_
    obtain he0:=h
    subst res
    exact (endD [] (vB (IntKind.wrap IntKind.u64 (↑(BitVec.toNat (BitVec.ofInt (IntKind.bits IntKind.u64) (Int.fdiv (arr4_uint64.e3 s0) ((2:Int) ^ Min.min (Int.toNat (Int.tmod b (64:Int))) (IntKind.bits IntKind.u64))) &&& BitVec.ofInt (IntKind.bits IntKind.u64) (1:Int))):Int) == 1)) []).1
  ·have h:=h.2 hb1
   refine sD kk [.b true,.b true,.b true,.b false,.b false,.b false,.b false,.b false,.b false,.b false,.b false,.b false,.b false] [4,7,8] [(13,vB false)] (obC (gtt hb0) (obC (gtt hb0) (obC hb0 (obC (gtf hb1) (obC (gtf hb1) (obC (gtf hb1) (obC (gtf hb1) (obC (gtf hb1) (obC (gtf hb1) (obC (gtf hb1) (obC (gtf hb1) (obC (gtf hb1) (obC hb1 obN))))))))))))) ?_
   refine tD ?_
   obtain he0:=h
   subst res
   exact (endD [] (vB false) []).1
 ·have h:=h.2 hb0
  refine sD kk [.b false,.b false,.b false,.b false,.b false,.b false,.b false,.b false,.b false,.b false,.b false,.b false,.b false] [4,7,8] [(13,vB false)] (obC (gtf hb0) (obC (gtf hb0) (obC hb0 (obC (rfl:false=false) (obC (rfl:false=false) (obC (rfl:false=false) (obC (rfl:false=false) (obC (rfl:false=false) (obC (rfl:false=false) (obC (rfl:false=false) (obC (rfl:false=false) (obC (rfl:false=false) (obC (rfl:false=false) obN))))))))))))) ?_
  refine tD ?_
  obtain he0:=h
  subst res
  exact (endD [] (vB false) []).1
set_option maxHeartbeats 1000000 in
theorem W_heckleref01_Not (a:arr4_uint64) (res:arr4_uint64)
 (h:(∃ (Inv16:Int→Int→Int→Int→Int→Prop) (mu17:Int→Int→Int→Int→Int→Nat),Inv16 0 0 0 0 0∧(∀ (s_e0_1:Int) (s_e1_1:Int) (s_e2_1:Int) (s_e3_1:Int) (i:Int),Inv16 s_e0_1 s_e1_1 s_e2_1 s_e3_1 i→(((decide (i < (256:Int)))=true→(∃ J22:Int→Int→Int→Int→Prop,(∀ (s_e0_3:Int) (s_e1_3:Int) (s_e2_3:Int) (s_e3_3:Int),J22 s_e0_3 s_e1_3 s_e2_3 s_e3_3→(Inv16 s_e0_3 s_e1_3 s_e2_3 s_e3_3 (w64 (i+1))∧mu17 s_e0_3 s_e1_3 s_e2_3 s_e3_3 (w64 (i+1)) < mu17 s_e0_1 s_e1_1 s_e2_1 s_e3_1 i))∧(∃ r0_10:Bool,C_heckleref01_Has a i r0_10∧(((!r0_10)=true→(∃ r0_11:arr4_uint64,C_heckleref01_add ({ e0:=s_e0_1,e1:=s_e1_1,e2:=s_e2_1,e3:=s_e3_1 }) i r0_11∧J22 (arr4_uint64.e0 r0_11) (arr4_uint64.e1 r0_11) (arr4_uint64.e2 r0_11) (arr4_uint64.e3 r0_11)))∧((!r0_10)=false→J22 s_e0_1 s_e1_1 s_e2_1 s_e3_1)))))∧((decide (i < (256:Int)))=false→(res=({ e0:=s_e0_1,e1:=s_e1_1,e2:=s_e2_1,e3:=s_e3_1 }))))))):C_heckleref01_Not a res:=by
 unfold C_heckleref01_Not
 have kk:=cfOk [16] 17
 refine fD (x:=bodyOf Try.f100) kk Try.func100 ?_
 refine wkS [1] [(1,av_arr4_uint64 a)] (by kernel_rfl) ?_
 refine sD kk [] [1] [(4,.ptr 5 0),(5,av_arr4_uint64 a),(7,.ptr 8 0),(8,.agg [vI .u64 0,vI .u64 0,vI .u64 0,vI .u64 0])] obN ?_
 refine sD kk [] [] [(10,.ptr 11 0),(11,.agg [vI .u64 0,vI .u64 0,vI .u64 0,vI .u64 0])] obN ?_
 refine qD ?_
 refine sD kk [] [] [(13,vi 0)] obN ?_
 refine bD (id:=0) ?_
 obtain ⟨Inv16,mu17,h0Inv16,hInv16⟩:=h
 refine loD (fun (q:Int×Int×Int×Int×Int)=>(fun (s_e0_1:Int) (s_e1_1:Int) (s_e2_1:Int) (s_e3_1:Int) (i:Int)=>([(4,.ptr 5 0),(5,av_arr4_uint64 a),(7,.ptr 8 0),(8,.agg [vI .u64 0,vI .u64 0,vI .u64 0,vI .u64 0]),(10,.ptr 11 0),(11,.agg [vI .u64 s_e0_1,vI .u64 s_e1_1,vI .u64 s_e2_1,vI .u64 s_e3_1]),(13,vi i)]:Sta)) q.1 q.2.1 q.2.2.1 q.2.2.2.1 q.2.2.2.2) (fun (q:Int×Int×Int×Int×Int)=>Inv16 q.1 q.2.1 q.2.2.1 q.2.2.2.1 q.2.2.2.2) (fun (q:Int×Int×Int×Int×Int)=>mu17 q.1 q.2.1 q.2.2.1 q.2.2.2.1 q.2.2.2.2) (0,0,0,0,0) [] h0Inv16 ?_
 rintro ⟨s_e0_1,s_e1_1,s_e2_1,s_e3_1,i⟩ hi
 have h:=hInv16 s_e0_1 s_e1_1 s_e2_1 s_e3_1 i hi
 refine qD ?_
 refine sD kk [] [] [(19,vB (decide (i < (256:Int))))] obN ?_
 refine cD (t:=6) (b:=decide (i < (256:Int))) (fun hb18=>?_) (fun hb18=>?_)
 ·have h:=h.1 hb18
  refine Sem.skip' (by kernel_rfl) Wk.refl ?_
  show Sem _ _ _ _ _
  refine wkD [19] ?_
  obtain ⟨J22,hJ22,h⟩:=h
  refine sjD (fun (q:Int×Int×Int×Int)=>J22 q.1 q.2.1 q.2.2.1 q.2.2.2) (fun (q:Int×Int×Int×Int)=>(fun (s_e0_3:Int) (s_e1_3:Int) (s_e2_3:Int) (s_e3_3:Int)=>([(4,.ptr 5 0),(5,av_arr4_uint64 a),(7,.ptr 8 0),(8,.agg [vI .u64 0,vI .u64 0,vI .u64 0,vI .u64 0]),(10,.ptr 11 0),(11,.agg [vI .u64 s_e0_3,vI .u64 s_e1_3,vI .u64 s_e2_3,vI .u64 s_e3_3]),(13,vi i)]:Sta)) q.1 q.2.1 q.2.2.1 q.2.2.2) ?_ ?_
  ·rintro ⟨s_e0_3,s_e1_3,s_e2_3,s_e3_3⟩ hj
   have h:=hJ22 s_e0_3 s_e1_3 s_e2_3 s_e3_3 hj
   refine rD kk [] [] [(13,vi (w64 (i+1)))] obN ?_
   exact lD (s_e0_3,s_e1_3,s_e2_3,s_e3_3,(w64 (i+1))) [] h
  ·refine bD (id:=1) ?_
   obtain ⟨r0_10,hc23,h⟩:=h
   refine sD kk [.c (vB r0_10) []] [] [(37,vB (!r0_10))] (obC hc23 obN) ?_
   refine cD (t:=12) (b:=!r0_10) (fun hb24=>?_) (fun hb24=>?_)
   ·have h:=h.1 hb24
    obtain ⟨r0_11,hc25,h⟩:=h
    refine rD kk [.c (av_arr4_uint64 r0_11) []] [37] [(11,av_arr4_uint64 r0_11)] (obC hc25 obN) ?_
    exact jD ((arr4_uint64.e0 r0_11),(arr4_uint64.e1 r0_11),(arr4_uint64.e2 r0_11),(arr4_uint64.e3 r0_11)) [] h
   ·have h:=h.2 hb24
    refine Sem.skip' (by kernel_rfl) Wk.refl ?_
    exact jD (s_e0_1,s_e1_1,s_e2_1,s_e3_1) [] h
 ·have h:=h.2 hb18
  refine xD (i:=0) ?_
  show Sem _ _ _ _ _
  refine wkD [4,5,13,19] ?_
  refine sD kk [] [10,11] [(8,.agg [vI .u64 s_e0_1,vI .u64 s_e1_1,vI .u64 s_e2_1,vI .u64 s_e3_1])] obN ?_
  refine tD ?_
  obtain he0:=h
  subst res
  exact (endD [] (.agg [vI .u64 s_e0_1,vI .u64 s_e1_1,vI .u64 s_e2_1,vI .u64 s_e3_1]) []).1
set_option maxHeartbeats 1000000 in
theorem W_hecklelaw03_char (b:Int) (res:api_Rx)
 (h:(∃ r0:arr4_uint64,C_heckleref01_Of b b r0∧(res=({ Kind:=(2:Int),Set:=r0,Lo:=(0:Int),Hi:=(0:Int),Kids:=[] })))):C_hecklelaw03_char b res:=by
 unfold C_hecklelaw03_char
 have kk:=cfOk [] 7
 refine fD (x:=bodyOf Try.f38) kk Try.func38 ?_
 refine wkS [1] [(1,vi b)] (by kernel_rfl) ?_
 refine sDE kk [] [] [(7,.ptr 8 0),(8,.agg [vi 0,vI .u64 0,vI .u64 0,vI .u64 0,vI .u64 0,vi 0,vi 0,.own 36 ([])])] [(7,.ptr 8 0),(8,.agg [vi 0,vI .u64 0,vI .u64 0,vI .u64 0,vI .u64 0,vi 0,vi 0,oL 36 enc_api_Rx ([])])] obN ?_
 obtain ⟨r0,hc0,h⟩:=h
 refine sDE kk [.c (av_arr4_uint64 r0) []] [1] [(8,.agg [vi 2,vI .u64 (arr4_uint64.e0 r0),vI .u64 (arr4_uint64.e1 r0),vI .u64 (arr4_uint64.e2 r0),vI .u64 (arr4_uint64.e3 r0),vi 0,vi 0,.own 36 ([])])] [(8,.agg [vi 2,vI .u64 (arr4_uint64.e0 r0),vI .u64 (arr4_uint64.e1 r0),vI .u64 (arr4_uint64.e2 r0),vI .u64 (arr4_uint64.e3 r0),vi 0,vi 0,oL 36 enc_api_Rx ([])])] (obC hc0 obN) ?_
 refine tD ?_
 obtain he0:=h
 subst res
 exact (endD [] (.agg [vi 2,vI .u64 (arr4_uint64.e0 r0),vI .u64 (arr4_uint64.e1 r0),vI .u64 (arr4_uint64.e2 r0),vI .u64 (arr4_uint64.e3 r0),vi 0,vi 0,oL 36 enc_api_Rx ([])]) []).1
set_option maxHeartbeats 1000000 in
theorem W_hecklelaw03_Maker_leaf (m:hecklelaw03_Maker) (res:api_Rx) (fin:hecklelaw03_Maker)
 (h:(∃ r0:Int,∃ o:hecklelaw03_Maker,C_hecklelaw03_Maker_Pick 8 m r0 o∧(((r0 == 0)=true→(res=({ Kind:=(1:Int),Set:={ e0:=(0:Int),e1:=(0:Int),e2:=(0:Int),e3:=(0:Int) },Lo:=(0:Int),Hi:=(0:Int),Kids:=[] })∧fin=o))∧((r0 == 0)=false→(((r0 == 1)=true→(∃ r0_1:arr4_uint64,C_heckleref01_Of ((97:Int)) ((99:Int)) r0_1∧(res=({ Kind:=(2:Int),Set:=r0_1,Lo:=(0:Int),Hi:=(0:Int),Kids:=[] })∧fin=o)))∧((r0 == 1)=false→(((r0 == (2:Int))=true→(∃ r0_2:arr4_uint64,C_heckleref01_Of ((97:Int)) ((97:Int)) r0_2∧(∃ r0_3:arr4_uint64,C_heckleref01_Not r0_2 r0_3∧(res=({ Kind:=(2:Int),Set:=r0_3,Lo:=(0:Int),Hi:=(0:Int),Kids:=[] })∧fin=o))))∧((r0 == (2:Int))=false→(((r0 == (3:Int))=true→(∃ r0_4:Int,∃ o_1:hecklelaw03_Maker,C_hecklelaw03_Maker_Pick ((6:Int)) o r0_4 o_1∧((0:Int)≤r0_4)∧(Int.toNat r0_4 < (6:Nat))∧r0_4 < ↑(List.length ([(10:Int),(45:Int),(90:Int),(0:Int),(255:Int),(48:Int)]))∧(∃ r0_5:api_Rx,C_hecklelaw03_char (gd [(10:Int),(45:Int),(90:Int),(0:Int),(255:Int),(48:Int)] r0_4) r0_5∧(res=r0_5∧fin=o_1))))∧((r0 == (3:Int))=false→(∃ r0_6:Int,∃ o_2:hecklelaw03_Maker,C_hecklelaw03_Maker_Pick 3 o r0_6 o_2∧(∃ r0_7:api_Rx,C_hecklelaw03_char (w64 ((97:Int)+r0_6)) r0_7∧(res=r0_7∧fin=o_2))))))))))))):C_hecklelaw03_Maker_leaf m res fin:=by
 unfold C_hecklelaw03_Maker_leaf
 have kk:=cfOk [] 29
 refine fD (x:=bodyOf Try.f71) kk Try.func71 ?_
 refine wkS [1,3] [(1,.ptr 3 0),(3,av_hecklelaw03_Maker m)] (by kernel_rfl) ?_
 refine sDE kk [] [] [(7,.ptr 8 0),(8,.agg [vi 0,vI .u64 0,vI .u64 0,vI .u64 0,vI .u64 0,vi 0,vi 0,.own 36 ([])])] [(7,.ptr 8 0),(8,.agg [vi 0,vI .u64 0,vI .u64 0,vI .u64 0,vI .u64 0,vi 0,vi 0,oL 36 enc_api_Rx ([])])] obN ?_
 refine qD ?_
 obtain ⟨r0,o,hc0,h⟩:=h
 refine sD kk [.c (vi r0) [av_hecklelaw03_Maker o]] [] [(3,av_hecklelaw03_Maker o),(13,vi r0)] (obC hc0 obN) ?_
 refine bD (id:=0) ?_
 refine sD kk [] [] [(16,vB (r0 == 0))] obN ?_
 refine cD (t:=5) (b:=r0 == 0) (fun hb1=>?_) (fun hb1=>?_)
 ·have h:=h.1 hb1
  refine sDE kk [] [1,13,16] [(8,.agg [vi 1,vI .u64 0,vI .u64 0,vI .u64 0,vI .u64 0,vi 0,vi 0,.own 36 ([])])] [(8,.agg [vi 1,vI .u64 0,vI .u64 0,vI .u64 0,vI .u64 0,vi 0,vi 0,oL 36 enc_api_Rx ([])])] obN ?_
  refine tD ?_
  obtain ⟨he0,he1⟩:=h
  subst res fin
  exact (endD [] (.agg [vi 1,vI .u64 0,vI .u64 0,vI .u64 0,vI .u64 0,vi 0,vi 0,oL 36 enc_api_Rx ([])]) [av_hecklelaw03_Maker o]).1
 ·have h:=h.2 hb1
  refine sD kk [] [16] [(25,vB (r0 == 1))] obN ?_
  refine cD (t:=8) (b:=r0 == 1) (fun hb2=>?_) (fun hb2=>?_)
  ·have h:=h.1 hb2
   obtain ⟨r0_1,hc3,h⟩:=h
   refine sDE kk [.c (av_arr4_uint64 r0_1) []] [1,13,25] [(8,.agg [vi 2,vI .u64 (arr4_uint64.e0 r0_1),vI .u64 (arr4_uint64.e1 r0_1),vI .u64 (arr4_uint64.e2 r0_1),vI .u64 (arr4_uint64.e3 r0_1),vi 0,vi 0,.own 36 ([])])] [(8,.agg [vi 2,vI .u64 (arr4_uint64.e0 r0_1),vI .u64 (arr4_uint64.e1 r0_1),vI .u64 (arr4_uint64.e2 r0_1),vI .u64 (arr4_uint64.e3 r0_1),vi 0,vi 0,oL 36 enc_api_Rx ([])])] (obC hc3 obN) ?_
   refine tD ?_
   obtain ⟨he0,he1⟩:=h
   subst res fin
   exact (endD [] (.agg [vi 2,vI .u64 (arr4_uint64.e0 r0_1),vI .u64 (arr4_uint64.e1 r0_1),vI .u64 (arr4_uint64.e2 r0_1),vI .u64 (arr4_uint64.e3 r0_1),vi 0,vi 0,oL 36 enc_api_Rx ([])]) [av_hecklelaw03_Maker o]).1
  ·have h:=h.2 hb2
   refine sD kk [] [25] [(37,vB (r0 == (2:Int)))] obN ?_
   refine cD (t:=12) (b:=r0 == (2:Int)) (fun hb4=>?_) (fun hb4=>?_)
   ·have h:=h.1 hb4
    obtain ⟨r0_2,hc5,h⟩:=h
    obtain ⟨r0_3,hc6,h⟩:=h
    refine sDE kk [.c (av_arr4_uint64 r0_2) [],.c (av_arr4_uint64 r0_3) []] [1,13,37] [(8,.agg [vi 2,vI .u64 (arr4_uint64.e0 r0_3),vI .u64 (arr4_uint64.e1 r0_3),vI .u64 (arr4_uint64.e2 r0_3),vI .u64 (arr4_uint64.e3 r0_3),vi 0,vi 0,.own 36 ([])])] [(8,.agg [vi 2,vI .u64 (arr4_uint64.e0 r0_3),vI .u64 (arr4_uint64.e1 r0_3),vI .u64 (arr4_uint64.e2 r0_3),vI .u64 (arr4_uint64.e3 r0_3),vi 0,vi 0,oL 36 enc_api_Rx ([])])] (obC hc5 (obC hc6 obN)) ?_
    refine tD ?_
    obtain ⟨he0,he1⟩:=h
    subst res fin
    exact (endD [] (.agg [vi 2,vI .u64 (arr4_uint64.e0 r0_3),vI .u64 (arr4_uint64.e1 r0_3),vI .u64 (arr4_uint64.e2 r0_3),vI .u64 (arr4_uint64.e3 r0_3),vi 0,vi 0,oL 36 enc_api_Rx ([])]) [av_hecklelaw03_Maker o]).1
   ·have h:=h.2 hb4
    refine sD kk [] [13,37] [(52,vB (r0 == (3:Int)))] obN ?_
    refine cD (t:=17) (b:=r0 == (3:Int)) (fun hb7=>?_) (fun hb7=>?_)
    ·have h:=h.1 hb7
     obtain ⟨r0_4,o_1,hc8,h⟩:=h
     obtain ⟨h9,h⟩:=h
     obtain ⟨h10,h⟩:=h
     obtain ⟨h11,h⟩:=h
     obtain ⟨r0_5,hc12,h⟩:=h
     refine sD kk [.c (vi r0_4) [av_hecklelaw03_Maker o_1],.e (fi (gd [(10:Int),(45:Int),(90:Int),(0:Int),(255:Int),(48:Int)] r0_4)),.c (ao_api_Rx r0_5) []] [1,52] [(3,av_hecklelaw03_Maker o_1),(8,ao_api_Rx r0_5)] (obC hc8 (obC h9 (obC h10 (obC (show ([FV.pv (Value.int IntKind.i64 (10)),FV.pv (Value.int IntKind.i64 (45:Int)),FV.pv (Value.int IntKind.i64 (90:Int)),FV.pv (Value.int IntKind.i64 (0)),FV.pv (Value.int IntKind.i64 (255:Int)),FV.pv (Value.int IntKind.i64 (48:Int))])[((0:Nat)+Int.toNat r0_4:Nat)]?=some (fi (gd [(10:Int),(45:Int),(90:Int),(0:Int),(255:Int),(48:Int)] r0_4)) from by have:=idx_ok enc_i64 ([(10:Int),(45:Int),(90:Int),(0:Int),(255:Int),(48:Int)]) r0_4 _ rfl h9 h11;simpa only [nm,enq,enc_i64] using this) (obC hc12 obN))))) ?_
     refine tD ?_
     obtain ⟨he0,he1⟩:=h
     subst res fin
     exact (endD [] (ao_api_Rx r0_5) [av_hecklelaw03_Maker o_1]).1
    ·have h:=h.2 hb7
     refine Sem.skip' (by kernel_rfl) Wk.refl ?_
     show Sem _ _ _ _ _
     refine wkD [52] ?_
     obtain ⟨r0_6,o_2,hc13,h⟩:=h
     obtain ⟨r0_7,hc14,h⟩:=h
     refine sD kk [.c (vi r0_6) [av_hecklelaw03_Maker o_2],.c (ao_api_Rx r0_7) []] [1] [(3,av_hecklelaw03_Maker o_2),(8,ao_api_Rx r0_7)] (obC hc13 (obC hc14 obN)) ?_
     refine tD ?_
     obtain ⟨he0,he1⟩:=h
     subst res fin
     exact (endD [] (ao_api_Rx r0_7) [av_hecklelaw03_Maker o_2]).1
set_option maxHeartbeats 1000000 in
theorem W_hecklelaw03_joined (kind:Int) (l:(List api_Rx)) (res:api_Rx)
 (h:(∃ (Inv32:List api_Rx→Int→Prop) (mu33:List api_Rx→Int→Nat),Inv32 ([]) 0∧(∀ (x_Kids_1:List api_Rx) (i:Int),Inv32 x_Kids_1 i→(((decide (i < (↑(List.length l):Int)))=true→(∃ J44:List api_Rx→Prop,(∀ (x_Kids_3:List api_Rx),J44 x_Kids_3→(Inv32 x_Kids_3 (w64 (i+1))∧mu33 x_Kids_3 (w64 (i+1)) < mu33 x_Kids_1 i))∧((0:Int)≤i)∧i < ↑(List.length l)∧(((api_Rx.Kind (gd l i) == kind)=true→((0:Int)≤i)∧i < ↑(List.length l)∧((List.length x_Kids_1+List.length (api_Rx.Kids (gd l i))) * (80:Nat)≤(2:Nat) ^ (47:Nat))∧J44 (x_Kids_1++api_Rx.Kids (gd l i)))∧((api_Rx.Kind (gd l i) == kind)=false→((0:Int)≤i)∧i < ↑(List.length l)∧((List.length x_Kids_1+(1:Nat)) * (80:Nat)≤(2:Nat) ^ (47:Nat))∧J44 (x_Kids_1++[gd l i])))))∧((decide (i < (↑(List.length l):Int)))=false→(res=({ Kind:=kind,Set:={ e0:=(0:Int),e1:=(0:Int),e2:=(0:Int),e3:=(0:Int) },Lo:=(0:Int),Hi:=(0:Int),Kids:=x_Kids_1 }))))))):C_hecklelaw03_joined kind l res:=by
 unfold C_hecklelaw03_joined
 have kk:=cfOk [40] 41
 refine fD (x:=bodyOf Try.f72) kk Try.func72 ?_
 refine wkS [1,4] [(1,vi kind),(4,vL enc_api_Rx l)] (by kernel_rfl) ?_
 refine sDE kk [] [] [(13,.ptr 14 0),(14,.agg [vi 0,vI .u64 0,vI .u64 0,vI .u64 0,vI .u64 0,vi 0,vi 0,.own 36 ([])])] [(13,.ptr 14 0),(14,.agg [vi 0,vI .u64 0,vI .u64 0,vI .u64 0,vI .u64 0,vi 0,vi 0,oL 36 enc_api_Rx ([])])] obN ?_
 refine sDE kk [] [] [(16,.ptr 17 0),(17,.agg [vi kind,vI .u64 0,vI .u64 0,vI .u64 0,vI .u64 0,vi 0,vi 0,.own 36 ([])])] [(16,.ptr 17 0),(17,.agg [vi kind,vI .u64 0,vI .u64 0,vI .u64 0,vI .u64 0,vi 0,vi 0,oL 36 enc_api_Rx ([])])] obN ?_
 refine qD ?_
 refine sD kk [] [] [(19,vi 0)] obN ?_
 refine bD (id:=0) ?_
 obtain ⟨Inv32,mu33,h0Inv32,hInv32⟩:=h
 refine loD (fun (q:List api_Rx×Int)=>(fun (x_Kids_1:List api_Rx) (i:Int)=>([(1,vi kind),(4,vL enc_api_Rx l),(13,.ptr 14 0),(14,.agg [vi 0,vI .u64 0,vI .u64 0,vI .u64 0,vI .u64 0,vi 0,vi 0,oL 36 enc_api_Rx ([])]),(16,.ptr 17 0),(17,.agg [vi kind,vI .u64 0,vI .u64 0,vI .u64 0,vI .u64 0,vi 0,vi 0,oL 36 enc_api_Rx x_Kids_1]),(19,vi i)]:Sta)) q.1 q.2) (fun (q:List api_Rx×Int)=>Inv32 q.1 q.2) (fun (q:List api_Rx×Int)=>mu33 q.1 q.2) (([]),0) [] h0Inv32 ?_
 rintro ⟨x_Kids_1,i⟩ hi
 have h:=hInv32 x_Kids_1 i hi
 refine qD ?_
 refine sDE kk [] [] [(37,vB (decide (i < (↑(List.length (List.map enc_api_Rx l)):Int))))] [(37,vB (decide (i < (↑(List.length l):Int))))] obN ?_
 refine cD (t:=12) (b:=decide (i < (↑(List.length l):Int))) (fun hb34=>?_) (fun hb34=>?_)
 ·have h:=h.1 hb34
  refine Sem.skip' (by kernel_rfl) Wk.refl ?_
  show Sem _ _ _ _ _
  refine wkD [37] ?_
  obtain ⟨J44,hJ44,h⟩:=h
  refine sjD (fun (q:List api_Rx)=>J44 q) (fun (q:List api_Rx)=>(fun (x_Kids_3:List api_Rx)=>([(1,vi kind),(4,vL enc_api_Rx l),(13,.ptr 14 0),(14,.agg [vi 0,vI .u64 0,vI .u64 0,vI .u64 0,vI .u64 0,vi 0,vi 0,oL 36 enc_api_Rx ([])]),(16,.ptr 17 0),(17,.agg [vi kind,vI .u64 0,vI .u64 0,vI .u64 0,vI .u64 0,vi 0,vi 0,oL 36 enc_api_Rx x_Kids_3]),(19,vi i)]:Sta)) q) ?_ ?_
  ·rintro x_Kids_3 hj
   have h:=hJ44 x_Kids_3 hj
   refine rD kk [] [] [(19,vi (w64 (i+1)))] obN ?_
   exact lD (x_Kids_3,(w64 (i+1))) [] h
  ·refine bD (id:=1) ?_
   obtain ⟨h45,h⟩:=h
   obtain ⟨h46,h⟩:=h
   refine sD kk [.e (fv_api_Rx (gd l i))] [] [(64,vB (api_Rx.Kind (gd l i) == kind))] (obC h45 (obC (idx_ok enc_api_Rx l i _ (enc_api_Rx_eq _) h45 h46) obN)) ?_
   refine cD (t:=21) (b:=api_Rx.Kind (gd l i) == kind) (fun hb47=>?_) (fun hb47=>?_)
   ·have h:=h.1 hb47
    obtain ⟨h48,h⟩:=h
    obtain ⟨h49,h⟩:=h
    obtain ⟨h50,h⟩:=h
    refine rDE kk [.e (fv_api_Rx (gd l i))] [64] [(17,.agg [vi kind,vI .u64 0,vI .u64 0,vI .u64 0,vI .u64 0,vi 0,vi 0,.own 36 (List.map enc_api_Rx x_Kids_1++List.map enc_api_Rx (api_Rx.Kids (gd l i)))])] [(17,.agg [vi kind,vI .u64 0,vI .u64 0,vI .u64 0,vI .u64 0,vi 0,vi 0,oL 36 enc_api_Rx (x_Kids_1++api_Rx.Kids (gd l i))])] (obC h48 (obC (idx_ok enc_api_Rx l i _ (enc_api_Rx_eq _) h48 h49) (obC (show (0:Nat)=(0:Nat)∧List.length (List.map enc_api_Rx x_Kids_1)=List.length (List.map enc_api_Rx x_Kids_1) from by first | decide | rfl | trivial | (simp only [nm]<;>first | decide | rfl | omega)) (obC (show (List.length (List.map enc_api_Rx x_Kids_1)+List.length (List.map enc_api_Rx (api_Rx.Kids (gd l i)))) * (80:Nat)≤(2:Nat) ^ (47:Nat) from by simpa only [nm] using h50) (obC (show List.all (List.map enc_api_Rx (api_Rx.Kids (gd l i))) (FV.fits (8:Nat))=true from by first | exact fits_api_Rx _ | rfl | simp [isByteF,FV.fits,FV.size,FV.cells,FV.one,enc_api_Rx_eq]) obN))))) ?_
    exact jD (x_Kids_1++api_Rx.Kids (gd l i)) [] h
   ·have h:=h.2 hb47
    obtain ⟨h51,h⟩:=h
    obtain ⟨h52,h⟩:=h
    obtain ⟨h53,h⟩:=h
    refine rDE kk [.e (fv_api_Rx (gd l i))] [64] [(17,.agg [vi kind,vI .u64 0,vI .u64 0,vI .u64 0,vI .u64 0,vi 0,vi 0,.own 36 (List.map enc_api_Rx x_Kids_1++List.take (List.length [FV.agg [FV.pv (Value.int IntKind.i64 (api_Rx.Kind (gd l i))),FV.pv (Value.int IntKind.u64 (arr4_uint64.e0 (api_Rx.Set (gd l i)))),FV.pv (Value.int IntKind.u64 (arr4_uint64.e1 (api_Rx.Set (gd l i)))),FV.pv (Value.int IntKind.u64 (arr4_uint64.e2 (api_Rx.Set (gd l i)))),FV.pv (Value.int IntKind.u64 (arr4_uint64.e3 (api_Rx.Set (gd l i)))),FV.pv (Value.int IntKind.i64 (api_Rx.Lo (gd l i))),FV.pv (Value.int IntKind.i64 (api_Rx.Hi (gd l i))),FV.sl (List.map enc_api_Rx (api_Rx.Kids (gd l i)))]]) (List.drop (0:Nat) [FV.agg [FV.pv (Value.int IntKind.i64 (api_Rx.Kind (gd l i))),FV.pv (Value.int IntKind.u64 (arr4_uint64.e0 (api_Rx.Set (gd l i)))),FV.pv (Value.int IntKind.u64 (arr4_uint64.e1 (api_Rx.Set (gd l i)))),FV.pv (Value.int IntKind.u64 (arr4_uint64.e2 (api_Rx.Set (gd l i)))),FV.pv (Value.int IntKind.u64 (arr4_uint64.e3 (api_Rx.Set (gd l i)))),FV.pv (Value.int IntKind.i64 (api_Rx.Lo (gd l i))),FV.pv (Value.int IntKind.i64 (api_Rx.Hi (gd l i))),FV.sl (List.map enc_api_Rx (api_Rx.Kids (gd l i)))]]))])] [(17,.agg [vi kind,vI .u64 0,vI .u64 0,vI .u64 0,vI .u64 0,vi 0,vi 0,oL 36 enc_api_Rx (x_Kids_1++[gd l i])])] (obC h51 (obC (idx_ok enc_api_Rx l i _ (enc_api_Rx_eq _) h51 h52) (obC (show (0:Nat)=(0:Nat)∧List.length (List.map enc_api_Rx x_Kids_1)=List.length (List.map enc_api_Rx x_Kids_1) from by first | decide | rfl | trivial | (simp only [nm]<;>first | decide | rfl | omega)) (obC (show (List.length (List.map enc_api_Rx x_Kids_1)+List.length (List.take (1:Nat) (List.drop (0:Nat) [FV.agg [FV.pv (Value.int IntKind.i64 (api_Rx.Kind (gd l i))),FV.pv (Value.int IntKind.u64 (arr4_uint64.e0 (api_Rx.Set (gd l i)))),FV.pv (Value.int IntKind.u64 (arr4_uint64.e1 (api_Rx.Set (gd l i)))),FV.pv (Value.int IntKind.u64 (arr4_uint64.e2 (api_Rx.Set (gd l i)))),FV.pv (Value.int IntKind.u64 (arr4_uint64.e3 (api_Rx.Set (gd l i)))),FV.pv (Value.int IntKind.i64 (api_Rx.Lo (gd l i))),FV.pv (Value.int IntKind.i64 (api_Rx.Hi (gd l i))),FV.sl (List.map enc_api_Rx (api_Rx.Kids (gd l i)))]]))) * (80:Nat)≤(2:Nat) ^ (47:Nat) from by simpa only [nm] using h53) (obC (show List.all (List.take (1:Nat) (List.drop (0:Nat) [FV.agg [FV.pv (Value.int IntKind.i64 (api_Rx.Kind (gd l i))),FV.pv (Value.int IntKind.u64 (arr4_uint64.e0 (api_Rx.Set (gd l i)))),FV.pv (Value.int IntKind.u64 (arr4_uint64.e1 (api_Rx.Set (gd l i)))),FV.pv (Value.int IntKind.u64 (arr4_uint64.e2 (api_Rx.Set (gd l i)))),FV.pv (Value.int IntKind.u64 (arr4_uint64.e3 (api_Rx.Set (gd l i)))),FV.pv (Value.int IntKind.i64 (api_Rx.Lo (gd l i))),FV.pv (Value.int IntKind.i64 (api_Rx.Hi (gd l i))),FV.sl (List.map enc_api_Rx (api_Rx.Kids (gd l i)))]])) (FV.fits (8:Nat))=true from by first | exact fits_i64 _ | rfl | simp [isByteF,FV.fits,FV.size,FV.cells,FV.one,enc_api_Rx_eq]) obN))))) ?_
    exact jD (x_Kids_1++[gd l i]) [] h
 ·have h:=h.2 hb34
  refine xD (i:=0) ?_
  show Sem _ _ _ _ _
  refine wkD [1,4,19,37] ?_
  refine sD kk [] [16,17] [(14,.agg [vi kind,vI .u64 0,vI .u64 0,vI .u64 0,vI .u64 0,vi 0,vi 0,oL 36 enc_api_Rx x_Kids_1])] (obC (show (0:Nat)=(0:Nat)∧List.length (List.map enc_api_Rx x_Kids_1)=List.length (List.map enc_api_Rx x_Kids_1) from by first | decide | rfl | trivial | (simp only [nm]<;>first | decide | rfl | omega)) obN) ?_
  refine tD ?_
  obtain he0:=h
  subst res
  exact (endD [] (.agg [vi kind,vI .u64 0,vI .u64 0,vI .u64 0,vI .u64 0,vi 0,vi 0,oL 36 enc_api_Rx x_Kids_1]) []).1
set_option maxHeartbeats 1000000 in
theorem W_hecklelaw03_Maker_Rx (deep:Int) (m:hecklelaw03_Maker) (res:api_Rx) (fin:hecklelaw03_Maker)
 (h:(∃ r0:Int,∃ o:hecklelaw03_Maker,C_hecklelaw03_Maker_Pick 8 m r0 o∧(((decide (deep < (1:Int)) || (decide (r0 < (2:Int)) || decide (hecklelaw03_Maker.At o≥(↑(List.length (hecklelaw03_Maker.L o)):Int))))=true→(∃ r0_1:api_Rx,∃ o_1:hecklelaw03_Maker,C_hecklelaw03_Maker_leaf o r0_1 o_1∧(res=r0_1∧fin=o_1)))∧((decide (deep < (1:Int)) || (decide (r0 < (2:Int)) || decide (hecklelaw03_Maker.At o≥(↑(List.length (hecklelaw03_Maker.L o)):Int))))=false→(((decide (r0 < (5:Int)))=true→(∃ r0_2:api_Rx,∃ o_2:hecklelaw03_Maker,C_hecklelaw03_Maker_Rx (w64 (deep - 1)) o r0_2 o_2∧(∃ r0_3:api_Rx,∃ o_3:hecklelaw03_Maker,C_hecklelaw03_Maker_Rx (w64 (deep - 1)) o_2 r0_3 o_3∧(∃ r0_4:api_Rx,C_hecklelaw03_joined 3 ([r0_2,r0_3]) r0_4∧(res=r0_4∧fin=o_3)))))∧((decide (r0 < (5:Int)))=false→(((r0 == (5:Int))=true→(∃ r0_5:api_Rx,∃ o_4:hecklelaw03_Maker,C_hecklelaw03_Maker_Rx (w64 (deep - 1)) o r0_5 o_4∧(∃ r0_6:api_Rx,∃ o_5:hecklelaw03_Maker,C_hecklelaw03_Maker_Rx (w64 (deep - 1)) o_4 r0_6 o_5∧(∃ r0_7:api_Rx,C_hecklelaw03_joined 4 ([r0_5,r0_6]) r0_7∧(res=r0_7∧fin=o_5)))))∧((r0 == (5:Int))=false→(∃ r0_8:Int,∃ o_6:hecklelaw03_Maker,C_hecklelaw03_Maker_Pick 3 o r0_8 o_6∧(∃ J17:List Int→Int→Int→Prop,(∀ (o0_L:List Int) (o0_At:Int) (x_Hi:Int),J17 o0_L o0_At x_Hi→(∃ r0_11:api_Rx,∃ o_9:hecklelaw03_Maker,C_hecklelaw03_Maker_Rx (w64 (deep - 2)) ({ L:=o0_L,At:=o0_At }) r0_11 o_9∧(res=({ Kind:=(5:Int),Set:={ e0:=(0:Int),e1:=(0:Int),e2:=(0:Int),e3:=(0:Int) },Lo:=r0_8,Hi:=x_Hi,Kids:=[r0_11] })∧fin=o_9)))∧(∃ r0_12:Int,∃ o_10:hecklelaw03_Maker,C_hecklelaw03_Maker_Pick 2 o_6 r0_12 o_10∧(((r0_12 == 1)=true→(∃ r0_13:Int,∃ o_11:hecklelaw03_Maker,C_hecklelaw03_Maker_Pick 2 o_10 r0_13 o_11∧J17 (hecklelaw03_Maker.L o_11) (hecklelaw03_Maker.At o_11) (w64 ((if r0_8 > (1:Int) then r0_8 else (1:Int))+r0_13))))∧((r0_12 == 1)=false→J17 (hecklelaw03_Maker.L o_10) (hecklelaw03_Maker.At o_10) (-1)))))))))))))):C_hecklelaw03_Maker_Rx deep m res fin:=by
 unfold C_hecklelaw03_Maker_Rx
 have kk:=cfOk [74] 75
 refine fD (x:=bodyOf Try.f37) kk Try.func37 ?_
 refine wkS [1,3,4] [(1,.ptr 3 0),(3,av_hecklelaw03_Maker m),(4,vi deep)] (by kernel_rfl) ?_
 refine sDE kk [] [] [(13,.ptr 14 0),(14,.agg [vi 0,vI .u64 0,vI .u64 0,vI .u64 0,vI .u64 0,vi 0,vi 0,.own 36 ([])])] [(13,.ptr 14 0),(14,.agg [vi 0,vI .u64 0,vI .u64 0,vI .u64 0,vI .u64 0,vi 0,vi 0,oL 36 enc_api_Rx ([])])] obN ?_
 obtain ⟨r0,o,hc0,h⟩:=h
 refine sD kk [.c (vi r0) [av_hecklelaw03_Maker o]] [] [(3,av_hecklelaw03_Maker o),(16,vi r0)] (obC hc0 obN) ?_
 refine qD ?_
 refine sM [] [(79,vB (decide (deep < (1:Int)) || (decide (r0 < (2:Int)) || decide (hecklelaw03_Maker.At o≥(↑(List.length (hecklelaw03_Maker.L o)):Int)))))] ?_ (fun hk0=>?_)
 ·refine cD (t:=26) (b:=decide (deep < (1:Int)) || (decide (r0 < (2:Int)) || decide (hecklelaw03_Maker.At o≥(↑(List.length (hecklelaw03_Maker.L o)):Int)))) (fun hb3=>?_) (fun hb3=>?_)
  ·have h:=h.1 hb3
   obtain ⟨r0_1,o_1,hc4,h⟩:=h
   refine sD kk [.c (ao_api_Rx r0_1) [av_hecklelaw03_Maker o_1]] [1,4,16,79] [(3,av_hecklelaw03_Maker o_1),(14,ao_api_Rx r0_1)] (obC hc4 obN) ?_
   refine tD ?_
   obtain ⟨he0,he1⟩:=h
   subst res fin
   exact (endD [] (ao_api_Rx r0_1) [av_hecklelaw03_Maker o_1]).1
  ·have h:=h.2 hb3
   refine Sem.skip' (by kernel_rfl) Wk.refl ?_
   show Sem _ _ _ _ _
   refine wkD [79] ?_
   refine qD ?_
   refine bD (id:=0) ?_
   refine sD kk [] [] [(88,vB (decide (r0 < (5:Int))))] obN ?_
   refine cD (t:=29) (b:=decide (r0 < (5:Int))) (fun hb5=>?_) (fun hb5=>?_)
   ·have h:=h.1 hb5
    obtain ⟨r0_2,o_2,hc6,h⟩:=h
    obtain ⟨r0_3,o_3,hc7,h⟩:=h
    obtain ⟨r0_4,hc8,h⟩:=h
    refine sD kk [.c (ao_api_Rx r0_2) [av_hecklelaw03_Maker o_2],.c (ao_api_Rx r0_3) [av_hecklelaw03_Maker o_3],.c (ao_api_Rx r0_4) []] [1,4,16,88] [(3,av_hecklelaw03_Maker o_3),(14,ao_api_Rx r0_4)] (obC hc6 (obC hc7 (obC (Eq.mp (by unfold C_hecklelaw03_joined;(try simp only [List.drop_zero,List.take_length]);first | done | simp only [nm,enq]:C_hecklelaw03_joined 3 ([r0_2,r0_3]) r0_4=CallE Try.prog 72 [vi 3,.f (FV.sl (List.take (List.length [FV.agg [FV.pv (Value.int IntKind.i64 (api_Rx.Kind r0_2)),FV.pv (Value.int IntKind.u64 (arr4_uint64.e0 (api_Rx.Set r0_2))),FV.pv (Value.int IntKind.u64 (arr4_uint64.e1 (api_Rx.Set r0_2))),FV.pv (Value.int IntKind.u64 (arr4_uint64.e2 (api_Rx.Set r0_2))),FV.pv (Value.int IntKind.u64 (arr4_uint64.e3 (api_Rx.Set r0_2))),FV.pv (Value.int IntKind.i64 (api_Rx.Lo r0_2)),FV.pv (Value.int IntKind.i64 (api_Rx.Hi r0_2)),FV.sl (List.take (List.length (List.map enc_api_Rx (api_Rx.Kids r0_2))) (List.drop (0:Nat) (List.map enc_api_Rx (api_Rx.Kids r0_2))))],FV.agg [FV.pv (Value.int IntKind.i64 (api_Rx.Kind r0_3)),FV.pv (Value.int IntKind.u64 (arr4_uint64.e0 (api_Rx.Set r0_3))),FV.pv (Value.int IntKind.u64 (arr4_uint64.e1 (api_Rx.Set r0_3))),FV.pv (Value.int IntKind.u64 (arr4_uint64.e2 (api_Rx.Set r0_3))),FV.pv (Value.int IntKind.u64 (arr4_uint64.e3 (api_Rx.Set r0_3))),FV.pv (Value.int IntKind.i64 (api_Rx.Lo r0_3)),FV.pv (Value.int IntKind.i64 (api_Rx.Hi r0_3)),FV.sl (List.take (List.length (List.map enc_api_Rx (api_Rx.Kids r0_3))) (List.drop (0:Nat) (List.map enc_api_Rx (api_Rx.Kids r0_3))))]]) (List.drop (0:Nat) [FV.agg [FV.pv (Value.int IntKind.i64 (api_Rx.Kind r0_2)),FV.pv (Value.int IntKind.u64 (arr4_uint64.e0 (api_Rx.Set r0_2))),FV.pv (Value.int IntKind.u64 (arr4_uint64.e1 (api_Rx.Set r0_2))),FV.pv (Value.int IntKind.u64 (arr4_uint64.e2 (api_Rx.Set r0_2))),FV.pv (Value.int IntKind.u64 (arr4_uint64.e3 (api_Rx.Set r0_2))),FV.pv (Value.int IntKind.i64 (api_Rx.Lo r0_2)),FV.pv (Value.int IntKind.i64 (api_Rx.Hi r0_2)),FV.sl (List.take (List.length (List.map enc_api_Rx (api_Rx.Kids r0_2))) (List.drop (0:Nat) (List.map enc_api_Rx (api_Rx.Kids r0_2))))],FV.agg [FV.pv (Value.int IntKind.i64 (api_Rx.Kind r0_3)),FV.pv (Value.int IntKind.u64 (arr4_uint64.e0 (api_Rx.Set r0_3))),FV.pv (Value.int IntKind.u64 (arr4_uint64.e1 (api_Rx.Set r0_3))),FV.pv (Value.int IntKind.u64 (arr4_uint64.e2 (api_Rx.Set r0_3))),FV.pv (Value.int IntKind.u64 (arr4_uint64.e3 (api_Rx.Set r0_3))),FV.pv (Value.int IntKind.i64 (api_Rx.Lo r0_3)),FV.pv (Value.int IntKind.i64 (api_Rx.Hi r0_3)),FV.sl (List.take (List.length (List.map enc_api_Rx (api_Rx.Kids r0_3))) (List.drop (0:Nat) (List.map enc_api_Rx (api_Rx.Kids r0_3))))]])))] [] (ao_api_Rx r0_4) []) hc8) obN))) ?_
    refine tD ?_
    obtain ⟨he0,he1⟩:=h
    subst res fin
    exact (endD [] (ao_api_Rx r0_4) [av_hecklelaw03_Maker o_3]).1
   ·have h:=h.2 hb5
    refine sD kk [] [16,88] [(127,vB (r0 == (5:Int)))] obN ?_
    refine cD (t:=42) (b:=r0 == (5:Int)) (fun hb9=>?_) (fun hb9=>?_)
    ·have h:=h.1 hb9
     obtain ⟨r0_5,o_4,hc10,h⟩:=h
     obtain ⟨r0_6,o_5,hc11,h⟩:=h
     obtain ⟨r0_7,hc12,h⟩:=h
     refine sD kk [.c (ao_api_Rx r0_5) [av_hecklelaw03_Maker o_4],.c (ao_api_Rx r0_6) [av_hecklelaw03_Maker o_5],.c (ao_api_Rx r0_7) []] [1,4,127] [(3,av_hecklelaw03_Maker o_5),(14,ao_api_Rx r0_7)] (obC hc10 (obC hc11 (obC (Eq.mp (by unfold C_hecklelaw03_joined;(try simp only [List.drop_zero,List.take_length]);first | done | simp only [nm,enq]:C_hecklelaw03_joined 4 ([r0_5,r0_6]) r0_7=CallE Try.prog 72 [vi 4,.f (FV.sl (List.take (List.length [FV.agg [FV.pv (Value.int IntKind.i64 (api_Rx.Kind r0_5)),FV.pv (Value.int IntKind.u64 (arr4_uint64.e0 (api_Rx.Set r0_5))),FV.pv (Value.int IntKind.u64 (arr4_uint64.e1 (api_Rx.Set r0_5))),FV.pv (Value.int IntKind.u64 (arr4_uint64.e2 (api_Rx.Set r0_5))),FV.pv (Value.int IntKind.u64 (arr4_uint64.e3 (api_Rx.Set r0_5))),FV.pv (Value.int IntKind.i64 (api_Rx.Lo r0_5)),FV.pv (Value.int IntKind.i64 (api_Rx.Hi r0_5)),FV.sl (List.take (List.length (List.map enc_api_Rx (api_Rx.Kids r0_5))) (List.drop (0:Nat) (List.map enc_api_Rx (api_Rx.Kids r0_5))))],FV.agg [FV.pv (Value.int IntKind.i64 (api_Rx.Kind r0_6)),FV.pv (Value.int IntKind.u64 (arr4_uint64.e0 (api_Rx.Set r0_6))),FV.pv (Value.int IntKind.u64 (arr4_uint64.e1 (api_Rx.Set r0_6))),FV.pv (Value.int IntKind.u64 (arr4_uint64.e2 (api_Rx.Set r0_6))),FV.pv (Value.int IntKind.u64 (arr4_uint64.e3 (api_Rx.Set r0_6))),FV.pv (Value.int IntKind.i64 (api_Rx.Lo r0_6)),FV.pv (Value.int IntKind.i64 (api_Rx.Hi r0_6)),FV.sl (List.take (List.length (List.map enc_api_Rx (api_Rx.Kids r0_6))) (List.drop (0:Nat) (List.map enc_api_Rx (api_Rx.Kids r0_6))))]]) (List.drop (0:Nat) [FV.agg [FV.pv (Value.int IntKind.i64 (api_Rx.Kind r0_5)),FV.pv (Value.int IntKind.u64 (arr4_uint64.e0 (api_Rx.Set r0_5))),FV.pv (Value.int IntKind.u64 (arr4_uint64.e1 (api_Rx.Set r0_5))),FV.pv (Value.int IntKind.u64 (arr4_uint64.e2 (api_Rx.Set r0_5))),FV.pv (Value.int IntKind.u64 (arr4_uint64.e3 (api_Rx.Set r0_5))),FV.pv (Value.int IntKind.i64 (api_Rx.Lo r0_5)),FV.pv (Value.int IntKind.i64 (api_Rx.Hi r0_5)),FV.sl (List.take (List.length (List.map enc_api_Rx (api_Rx.Kids r0_5))) (List.drop (0:Nat) (List.map enc_api_Rx (api_Rx.Kids r0_5))))],FV.agg [FV.pv (Value.int IntKind.i64 (api_Rx.Kind r0_6)),FV.pv (Value.int IntKind.u64 (arr4_uint64.e0 (api_Rx.Set r0_6))),FV.pv (Value.int IntKind.u64 (arr4_uint64.e1 (api_Rx.Set r0_6))),FV.pv (Value.int IntKind.u64 (arr4_uint64.e2 (api_Rx.Set r0_6))),FV.pv (Value.int IntKind.u64 (arr4_uint64.e3 (api_Rx.Set r0_6))),FV.pv (Value.int IntKind.i64 (api_Rx.Lo r0_6)),FV.pv (Value.int IntKind.i64 (api_Rx.Hi r0_6)),FV.sl (List.take (List.length (List.map enc_api_Rx (api_Rx.Kids r0_6))) (List.drop (0:Nat) (List.map enc_api_Rx (api_Rx.Kids r0_6))))]])))] [] (ao_api_Rx r0_7) []) hc12) obN))) ?_
     refine tD ?_
     obtain ⟨he0,he1⟩:=h
     subst res fin
     exact (endD [] (ao_api_Rx r0_7) [av_hecklelaw03_Maker o_5]).1
    ·have h:=h.2 hb9
     refine Sem.skip' (by kernel_rfl) Wk.refl ?_
     show Sem _ _ _ _ _
     refine wkD [127] ?_
     obtain ⟨r0_8,o_6,hc13,h⟩:=h
     refine sDE kk [.c (vi r0_8) [av_hecklelaw03_Maker o_6]] [] [(3,av_hecklelaw03_Maker o_6),(19,.ptr 20 0),(20,.agg [vi 5,vI .u64 0,vI .u64 0,vI .u64 0,vI .u64 0,vi r0_8,vi (-1),.own 36 ([])])] [(3,av_hecklelaw03_Maker o_6),(19,.ptr 20 0),(20,.agg [vi 5,vI .u64 0,vI .u64 0,vI .u64 0,vI .u64 0,vi r0_8,vi (-1),oL 36 enc_api_Rx ([])])] (obC hc13 obN) ?_
     obtain ⟨J17,hJ17,h⟩:=h
     refine sjD (fun (q:List Int×Int×Int)=>J17 q.1 q.2.1 q.2.2) (fun (q:List Int×Int×Int)=>(fun (o0_L:List Int) (o0_At:Int) (x_Hi:Int)=>([(1,.ptr 3 0),(3,.agg [vL enc_u8 o0_L,vi o0_At]),(4,vi deep),(13,.ptr 14 0),(14,.agg [vi 0,vI .u64 0,vI .u64 0,vI .u64 0,vI .u64 0,vi 0,vi 0,oL 36 enc_api_Rx ([])]),(19,.ptr 20 0),(20,.agg [vi 5,vI .u64 0,vI .u64 0,vI .u64 0,vI .u64 0,vi r0_8,vi x_Hi,oL 36 enc_api_Rx ([])])]:Sta)) q.1 q.2.1 q.2.2) ?_ ?_
     ·rintro ⟨o0_L,o0_At,x_Hi⟩ hj
      have h:=hJ17 o0_L o0_At x_Hi hj
      obtain ⟨r0_11,o_9,hc18,h⟩:=h
      refine sDE kk [.c (ao_api_Rx r0_11) [av_hecklelaw03_Maker o_9]] [1,4] [(3,av_hecklelaw03_Maker o_9),(20,.agg [vi 5,vI .u64 0,vI .u64 0,vI .u64 0,vI .u64 0,vi r0_8,vi x_Hi,.own 36 ([FV.agg [FV.pv (Value.int IntKind.i64 (api_Rx.Kind r0_11)),FV.pv (Value.int IntKind.u64 (arr4_uint64.e0 (api_Rx.Set r0_11))),FV.pv (Value.int IntKind.u64 (arr4_uint64.e1 (api_Rx.Set r0_11))),FV.pv (Value.int IntKind.u64 (arr4_uint64.e2 (api_Rx.Set r0_11))),FV.pv (Value.int IntKind.u64 (arr4_uint64.e3 (api_Rx.Set r0_11))),FV.pv (Value.int IntKind.i64 (api_Rx.Lo r0_11)),FV.pv (Value.int IntKind.i64 (api_Rx.Hi r0_11)),FV.sl (List.take (List.length (List.map enc_api_Rx (api_Rx.Kids r0_11))) (List.drop (0:Nat) (List.map enc_api_Rx (api_Rx.Kids r0_11))))]])])] [(3,av_hecklelaw03_Maker o_9),(20,.agg [vi 5,vI .u64 0,vI .u64 0,vI .u64 0,vI .u64 0,vi r0_8,vi x_Hi,oL 36 enc_api_Rx ([r0_11])])] (obC hc18 obN) ?_
      refine sD kk [] [19,20] [(14,.agg [vi 5,vI .u64 0,vI .u64 0,vI .u64 0,vI .u64 0,vi r0_8,vi x_Hi,oL 36 enc_api_Rx ([r0_11])])] (obC (show (0:Nat)=(0:Nat)∧(1:Nat)=List.length (List.map enc_api_Rx [r0_11]) from by first | decide | rfl | trivial | (simp only [nm]<;>first | decide | rfl | omega)) obN) ?_
      refine tD ?_
      obtain ⟨he0,he1⟩:=h
      subst res fin
      exact (endD [] (.agg [vi 5,vI .u64 0,vI .u64 0,vI .u64 0,vI .u64 0,vi r0_8,vi x_Hi,oL 36 enc_api_Rx ([r0_11])]) [av_hecklelaw03_Maker o_9]).1
     ·obtain ⟨r0_12,o_10,hc19,h⟩:=h
      refine sD kk [.c (vi r0_12) [av_hecklelaw03_Maker o_10]] [] [(3,av_hecklelaw03_Maker o_10),(181,vB (r0_12 == 1))] (obC hc19 obN) ?_
      refine cD (t:=60) (b:=r0_12 == 1) (fun hb20=>?_) (fun hb20=>?_)
      ·have h:=h.1 hb20
       obtain ⟨r0_13,o_11,hc21,h⟩:=h
       refine rDE kk [.c (vi r0_13) [av_hecklelaw03_Maker o_11]] [181] [(3,av_hecklelaw03_Maker o_11),(20,.agg [vi 5,vI .u64 0,vI .u64 0,vI .u64 0,vI .u64 0,vi r0_8,vi (w64 ((if true=true then if r0_8 > (1:Int) then r0_8 else (1:Int) else if r0_8 < (1:Int) then r0_8 else (1:Int))+r0_13)),oL 36 enc_api_Rx ([])])] [(3,av_hecklelaw03_Maker o_11),(20,.agg [vi 5,vI .u64 0,vI .u64 0,vI .u64 0,vI .u64 0,vi r0_8,vi (w64 ((if r0_8 > (1:Int) then r0_8 else (1:Int))+r0_13)),oL 36 enc_api_Rx ([])])] (obC hc21 obN) ?_
       exact jD ((hecklelaw03_Maker.L o_11),(hecklelaw03_Maker.At o_11),(w64 ((if r0_8 > (1:Int) then r0_8 else (1:Int))+r0_13))) [] h
      ·have h:=h.2 hb20
       refine Sem.skip' (by kernel_rfl) Wk.refl ?_
       exact jD ((hecklelaw03_Maker.L o_10),(hecklelaw03_Maker.At o_10),(-1)) [] h
 ·rcases Bool.eq_false_or_eq_true (decide (deep < (1:Int))) with hb1 | hb1
  ·refine sD kk [.b false,.b false,.b true,.b false,.b false,.b false,.b false,.b false,.b false,.b false,.b false,.b false,.b false,.b true] [] [(79,vB true)] (obC (gff hb1) (obC (gff hb1) (obC hb1 (obC (rfl:false=false) (obC (rfl:false=false) (obC (rfl:false=false) (obC (rfl:false=false) (obC (rfl:false=false) (obC (rfl:false=false) (obC (rfl:false=false) (obC (rfl:false=false) (obC (rfl:false=false) (obC (rfl:false=false) (obC (rfl:true=true) obN)))))))))))))) ?_
   exact Sem.cast (by try rw [hb1];kernel_rfl) hk0
  ·rcases Bool.eq_false_or_eq_true (decide (r0 < (2:Int))) with hb2 | hb2
   ·refine sD kk [.b true,.b true,.b false,.b false,.b false,.b false,.b false,.b false,.b false,.b false,.b false,.b false,.b false,.b true] [] [(79,vB true)] (obC (gft hb1) (obC (gft hb1) (obC hb1 (obC (gff hb2) (obC (gff hb2) (obC (gff hb2) (obC (gff hb2) (obC (gff hb2) (obC (gff hb2) (obC (gff hb2) (obC (gff hb2) (obC (gff hb2) (obC (gff hb2) (obC hb2 obN)))))))))))))) ?_
    exact Sem.cast (by try rw [hb1];try rw [hb2];kernel_rfl) hk0
   ·refine sDE kk [.b true,.b true,.b false,.b true,.b true,.b true,.b true,.b true,.b true,.b true,.b true,.b true,.b true,.b false] [] [(79,vB (decide (hecklelaw03_Maker.At o≥(↑(List.length (List.map enc_u8 (hecklelaw03_Maker.L o))):Int))))] [(79,vB (decide (hecklelaw03_Maker.At o≥(↑(List.length (hecklelaw03_Maker.L o)):Int))))] (obC (gft hb1) (obC (gft hb1) (obC hb1 (obC (gft hb2) (obC (gft hb2) (obC (gft hb2) (obC (gft hb2) (obC (gft hb2) (obC (gft hb2) (obC (gft hb2) (obC (gft hb2) (obC (gft hb2) (obC (gft hb2) (obC hb2 obN)))))))))))))) ?_
    exact Sem.cast (by try rw [hb1];try rw [hb2];kernel_rfl) hk0
set_option maxHeartbeats 1000000 in
theorem W_heckleref03_Size (x:api_Rx) (res:Int)
 (h:(((api_Rx.Kind x == (2:Int))=true→(res=1))∧((api_Rx.Kind x == (2:Int))=false→(∃ J3:Bool→Prop,(∀ (t9:Bool),J3 t9→(((t9)=true→(∃ (Inv14:Int→Int→Prop) (mu15:Int→Int→Nat),Inv14 0 0∧(∀ (n:Int) (i:Int),Inv14 n i→(((decide (i < (↑(List.length (api_Rx.Kids x)):Int)))=true→((0:Int)≤i)∧i < ↑(List.length (api_Rx.Kids x))∧(∃ r0_2:Int,C_heckleref03_Size (gd (api_Rx.Kids x) i) r0_2∧(((decide (w64 (n+r0_2) > (1000000:Int)))=true→(res=((1000000:Int))))∧((decide (w64 (n+r0_2) > (1000000:Int)))=false→(Inv14 (w64 (n+r0_2)) (w64 (i+1))∧mu15 (w64 (n+r0_2)) (w64 (i+1)) < mu15 n i)))))∧((decide (i < (↑(List.length (api_Rx.Kids x)):Int)))=false→(∃ J22:Int→Prop,(∀ (n_1:Int),J22 n_1→(res=(if false=true then if (1000000:Int) > n_1 then (1000000:Int) else n_1 else if (1000000:Int) < n_1 then (1000000:Int) else n_1)))∧(((api_Rx.Kind x == (5:Int))=true→J22 (w64 (n * if (if false=true then if (if api_Rx.Hi x > api_Rx.Lo x then api_Rx.Hi x else api_Rx.Lo x) > (1000:Int) then if api_Rx.Hi x > api_Rx.Lo x then api_Rx.Hi x else api_Rx.Lo x else (1000:Int) else if (if api_Rx.Hi x > api_Rx.Lo x then api_Rx.Hi x else api_Rx.Lo x) < (1000:Int) then if api_Rx.Hi x > api_Rx.Lo x then api_Rx.Hi x else api_Rx.Lo x else (1000:Int)) > (1:Int) then if false=true then if (if api_Rx.Hi x > api_Rx.Lo x then api_Rx.Hi x else api_Rx.Lo x) > (1000:Int) then if api_Rx.Hi x > api_Rx.Lo x then api_Rx.Hi x else api_Rx.Lo x else (1000:Int) else if (if api_Rx.Hi x > api_Rx.Lo x then api_Rx.Hi x else api_Rx.Lo x) < (1000:Int) then if api_Rx.Hi x > api_Rx.Lo x then api_Rx.Hi x else api_Rx.Lo x else (1000:Int) else (1:Int))))∧((api_Rx.Kind x == (5:Int))=false→J22 n))))))))∧((t9)=false→(res=0))))∧(((api_Rx.Kind x == (3:Int))=true→J3 (api_Rx.Kind x == (3:Int)))∧((api_Rx.Kind x == (3:Int))=false→(((api_Rx.Kind x == (4:Int))=true→J3 (api_Rx.Kind x == (4:Int)))∧((api_Rx.Kind x == (4:Int))=false→J3 (api_Rx.Kind x == (5:Int)))))))))):C_heckleref03_Size x res:=by
 unfold C_heckleref03_Size
 have kk:=cfOk [] 44
 refine fD (x:=bodyOf Try.f26) kk Try.func26 ?_
 refine wkS [1] [(1,av_api_Rx x)] (by kernel_rfl) ?_
 refine sD kk [] [1] [(4,.ptr 5 0),(5,av_api_Rx x)] obN ?_
 refine qD ?_
 refine sD kk [] [] [(19,vi (api_Rx.Kind x))] obN ?_
 refine bD (id:=0) ?_
 refine sD kk [] [] [(22,vB (api_Rx.Kind x == (2:Int)))] obN ?_
 refine cD (t:=7) (b:=api_Rx.Kind x == (2:Int)) (fun hb0=>?_) (fun hb0=>?_)
 ·have h:=h.1 hb0
  refine sD kk [] [4,5,19,22] [(7,vi 1)] obN ?_
  refine tD ?_
  obtain he0:=h
  subst res
  exact (endD [] (vi 1) []).1
 ·have h:=h.2 hb0
  obtain ⟨J3,hJ3,h⟩:=h
  refine sjD (fun (q:Bool)=>J3 q) (fun (q:Bool)=>(fun (t9:Bool)=>([(4,.ptr 5 0),(5,av_api_Rx x),(28,vB t9)]:Sta)) q) ?_ ?_
  ·rintro t9 hj
   have h:=hJ3 t9 hj
   refine cD (t:=9) (b:=t9) (fun hb4=>?_) (fun hb4=>?_)
   ·have h:=h.1 hb4
    refine sD kk [] [28] [(10,vi 0)] obN ?_
    refine qD ?_
    refine sD kk [] [] [(13,vi 0)] obN ?_
    refine bD (id:=1) ?_
    obtain ⟨Inv14,mu15,h0Inv14,hInv14⟩:=h
    refine loD (fun (q:Int×Int)=>(fun (n:Int) (i:Int)=>([(4,.ptr 5 0),(5,av_api_Rx x),(10,vi n),(13,vi i)]:Sta)) q.1 q.2) (fun (q:Int×Int)=>Inv14 q.1 q.2) (fun (q:Int×Int)=>mu15 q.1 q.2) (0,0) [] h0Inv14 ?_
    rintro ⟨n,i⟩ hi
    have h:=hInv14 n i hi
    refine qD ?_
    refine sDE kk [] [] [(52,vB (decide (i < (↑(List.length (List.map enc_api_Rx (api_Rx.Kids x))):Int))))] [(52,vB (decide (i < (↑(List.length (api_Rx.Kids x)):Int))))] obN ?_
    refine cD (t:=17) (b:=decide (i < (↑(List.length (api_Rx.Kids x)):Int))) (fun hb16=>?_) (fun hb16=>?_)
    ·have h:=h.1 hb16
     refine Sem.skip' (by kernel_rfl) Wk.refl ?_
     show Sem _ _ _ _ _
     refine wkD [52] ?_
     refine qD ?_
     refine bD (id:=2) ?_
     obtain ⟨h17,h⟩:=h
     obtain ⟨h18,h⟩:=h
     obtain ⟨r0_2,hc19,h⟩:=h
     refine sD kk [.e (fv_api_Rx (gd (api_Rx.Kids x) i)),.c (vi r0_2) []] [] [(10,vi (w64 (n+r0_2)))] (obC h17 (obC (idx_ok enc_api_Rx (api_Rx.Kids x) i _ (enc_api_Rx_eq _) h17 h18) (obC hc19 obN))) ?_
     refine sD kk [] [] [(88,vB (decide (w64 (n+r0_2) > (1000000:Int))))] obN ?_
     refine cD (t:=29) (b:=decide (w64 (n+r0_2) > (1000000:Int))) (fun hb20=>?_) (fun hb20=>?_)
     ·have h:=h.1 hb20
      refine sD kk [] [4,5,10,13,88] [(7,vi ((1000000:Int)))] obN ?_
      refine tD ?_
      obtain he0:=h
      subst res
      exact (endD [] (vi ((1000000:Int))) []).1
     ·have h:=h.2 hb20
      refine Sem.skip' (by kernel_rfl) Wk.refl ?_
      show Sem _ _ _ _ _
      refine wkD [88] ?_
      refine rD kk [] [] [(13,vi (w64 (i+1)))] obN ?_
      exact lD ((w64 (n+r0_2)),(w64 (i+1))) [] h
    ·have h:=h.2 hb16
     refine xD (i:=1) ?_
     show Sem _ _ _ _ _
     refine wkD [13,52] ?_
     obtain ⟨J22,hJ22,h⟩:=h
     refine sjD (fun (q:Int)=>J22 q) (fun (q:Int)=>(fun (n_1:Int)=>([(10,vi n_1)]:Sta)) q) ?_ ?_
     ·rintro n_1 hj
      have h:=hJ22 n_1 hj
      refine sD kk [] [10] [(7,vi (if false=true then if (1000000:Int) > n_1 then (1000000:Int) else n_1 else if (1000000:Int) < n_1 then (1000000:Int) else n_1))] obN ?_
      refine tD ?_
      obtain he0:=h
      subst res
      exact (endD [] (vi (if false=true then if (1000000:Int) > n_1 then (1000000:Int) else n_1 else if (1000000:Int) < n_1 then (1000000:Int) else n_1)) []).1
     ·refine sD kk [] [] [(97,vB (api_Rx.Kind x == (5:Int)))] obN ?_
      refine cD (t:=32) (b:=api_Rx.Kind x == (5:Int)) (fun hb23=>?_) (fun hb23=>?_)
      ·have h:=h.1 hb23
       refine rDE kk [] [4,5,97] [(10,vi (w64 (n * if true=true then if (if false=true then if (if true=true then if api_Rx.Hi x > api_Rx.Lo x then api_Rx.Hi x else api_Rx.Lo x else if api_Rx.Hi x < api_Rx.Lo x then api_Rx.Hi x else api_Rx.Lo x) > (1000:Int) then if true=true then if api_Rx.Hi x > api_Rx.Lo x then api_Rx.Hi x else api_Rx.Lo x else if api_Rx.Hi x < api_Rx.Lo x then api_Rx.Hi x else api_Rx.Lo x else (1000:Int) else if (if true=true then if api_Rx.Hi x > api_Rx.Lo x then api_Rx.Hi x else api_Rx.Lo x else if api_Rx.Hi x < api_Rx.Lo x then api_Rx.Hi x else api_Rx.Lo x) < (1000:Int) then if true=true then if api_Rx.Hi x > api_Rx.Lo x then api_Rx.Hi x else api_Rx.Lo x else if api_Rx.Hi x < api_Rx.Lo x then api_Rx.Hi x else api_Rx.Lo x else (1000:Int)) > (1:Int) then if false=true then if (if true=true then if api_Rx.Hi x > api_Rx.Lo x then api_Rx.Hi x else api_Rx.Lo x else if api_Rx.Hi x < api_Rx.Lo x then api_Rx.Hi x else api_Rx.Lo x) > (1000:Int) then if true=true then if api_Rx.Hi x > api_Rx.Lo x then api_Rx.Hi x else api_Rx.Lo x else if api_Rx.Hi x < api_Rx.Lo x then api_Rx.Hi x else api_Rx.Lo x else (1000:Int) else if (if true=true then if api_Rx.Hi x > api_Rx.Lo x then api_Rx.Hi x else api_Rx.Lo x else if api_Rx.Hi x < api_Rx.Lo x then api_Rx.Hi x else api_Rx.Lo x) < (1000:Int) then if true=true then if api_Rx.Hi x > api_Rx.Lo x then api_Rx.Hi x else api_Rx.Lo x else if api_Rx.Hi x < api_Rx.Lo x then api_Rx.Hi x else api_Rx.Lo x else (1000:Int) else (1:Int) else if (if false=true then if (if true=true then if api_Rx.Hi x > api_Rx.Lo x then api_Rx.Hi x else api_Rx.Lo x else if api_Rx.Hi x < api_Rx.Lo x then api_Rx.Hi x else api_Rx.Lo x) > (1000:Int) then if true=true then if api_Rx.Hi x > api_Rx.Lo x then api_Rx.Hi x else api_Rx.Lo x else if api_Rx.Hi x < api_Rx.Lo x then api_Rx.Hi x else api_Rx.Lo x else (1000:Int) else if (if true=true then if api_Rx.Hi x > api_Rx.Lo x then api_Rx.Hi x else api_Rx.Lo x else if api_Rx.Hi x < api_Rx.Lo x then api_Rx.Hi x else api_Rx.Lo x) < (1000:Int) then if true=true then if api_Rx.Hi x > api_Rx.Lo x then api_Rx.Hi x else api_Rx.Lo x else if api_Rx.Hi x < api_Rx.Lo x then api_Rx.Hi x else api_Rx.Lo x else (1000:Int)) < (1:Int) then if false=true then if (if true=true then if api_Rx.Hi x > api_Rx.Lo x then api_Rx.Hi x else api_Rx.Lo x else if api_Rx.Hi x < api_Rx.Lo x then api_Rx.Hi x else api_Rx.Lo x) > (1000:Int) then if true=true then if api_Rx.Hi x > api_Rx.Lo x then api_Rx.Hi x else api_Rx.Lo x else if api_Rx.Hi x < api_Rx.Lo x then api_Rx.Hi x else api_Rx.Lo x else (1000:Int) else if (if true=true then if api_Rx.Hi x > api_Rx.Lo x then api_Rx.Hi x else api_Rx.Lo x else if api_Rx.Hi x < api_Rx.Lo x then api_Rx.Hi x else api_Rx.Lo x) < (1000:Int) then if true=true then if api_Rx.Hi x > api_Rx.Lo x then api_Rx.Hi x else api_Rx.Lo x else if api_Rx.Hi x < api_Rx.Lo x then api_Rx.Hi x else api_Rx.Lo x else (1000:Int) else (1:Int))))] [(10,vi (w64 (n * if (if false=true then if (if api_Rx.Hi x > api_Rx.Lo x then api_Rx.Hi x else api_Rx.Lo x) > (1000:Int) then if api_Rx.Hi x > api_Rx.Lo x then api_Rx.Hi x else api_Rx.Lo x else (1000:Int) else if (if api_Rx.Hi x > api_Rx.Lo x then api_Rx.Hi x else api_Rx.Lo x) < (1000:Int) then if api_Rx.Hi x > api_Rx.Lo x then api_Rx.Hi x else api_Rx.Lo x else (1000:Int)) > (1:Int) then if false=true then if (if api_Rx.Hi x > api_Rx.Lo x then api_Rx.Hi x else api_Rx.Lo x) > (1000:Int) then if api_Rx.Hi x > api_Rx.Lo x then api_Rx.Hi x else api_Rx.Lo x else (1000:Int) else if (if api_Rx.Hi x > api_Rx.Lo x then api_Rx.Hi x else api_Rx.Lo x) < (1000:Int) then if api_Rx.Hi x > api_Rx.Lo x then api_Rx.Hi x else api_Rx.Lo x else (1000:Int) else (1:Int))))] obN ?_
       exact jD (w64 (n * if (if false=true then if (if api_Rx.Hi x > api_Rx.Lo x then api_Rx.Hi x else api_Rx.Lo x) > (1000:Int) then if api_Rx.Hi x > api_Rx.Lo x then api_Rx.Hi x else api_Rx.Lo x else (1000:Int) else if (if api_Rx.Hi x > api_Rx.Lo x then api_Rx.Hi x else api_Rx.Lo x) < (1000:Int) then if api_Rx.Hi x > api_Rx.Lo x then api_Rx.Hi x else api_Rx.Lo x else (1000:Int)) > (1:Int) then if false=true then if (if api_Rx.Hi x > api_Rx.Lo x then api_Rx.Hi x else api_Rx.Lo x) > (1000:Int) then if api_Rx.Hi x > api_Rx.Lo x then api_Rx.Hi x else api_Rx.Lo x else (1000:Int) else if (if api_Rx.Hi x > api_Rx.Lo x then api_Rx.Hi x else api_Rx.Lo x) < (1000:Int) then if api_Rx.Hi x > api_Rx.Lo x then api_Rx.Hi x else api_Rx.Lo x else (1000:Int) else (1:Int))) [] h
      ·have h:=h.2 hb23
       refine Sem.skip' (by kernel_rfl) Wk.refl ?_
       exact jD n [] h
   ·have h:=h.2 hb4
    refine Sem.skip' (by kernel_rfl) Wk.refl ?_
    show Sem _ _ _ _ _
    refine wkD [4,5,28] ?_
    refine sD kk [] [] [(7,vi 0)] obN ?_
    refine tD ?_
    obtain he0:=h
    subst res
    exact (endD [] (vi 0) []).1
  ·refine sD kk [] [22] [(28,vB (api_Rx.Kind x == (3:Int)))] obN ?_
   refine cD (t:=9) (b:=api_Rx.Kind x == (3:Int)) (fun hb24=>?_) (fun hb24=>?_)
   ·have h:=h.1 hb24
    refine Sem.skip' (by kernel_rfl) Wk.refl ?_
    exact jD (api_Rx.Kind x == (3:Int)) [] h
   ·have h:=h.2 hb24
    refine sD kk [] [] [(28,vB (api_Rx.Kind x == (4:Int)))] obN ?_
    refine cD (t:=9) (b:=api_Rx.Kind x == (4:Int)) (fun hb25=>?_) (fun hb25=>?_)
    ·have h:=h.1 hb25
     refine Sem.skip' (by kernel_rfl) Wk.refl ?_
     exact jD (api_Rx.Kind x == (4:Int)) [] h
    ·have h:=h.2 hb25
     refine rD kk [] [19] [(28,vB (api_Rx.Kind x == (5:Int)))] obN ?_
     exact jD (api_Rx.Kind x == (5:Int)) [] h
set_option maxHeartbeats 1000000 in
theorem W_hecklelaw06_small (m:hecklelaw03_Maker) (res:api_Rx) (fin:hecklelaw03_Maker)
 (h:(∃ r0:api_Rx,∃ o:hecklelaw03_Maker,C_hecklelaw03_Maker_Rx 2 m r0 o∧(∃ r0_1:Int,C_heckleref03_Size r0 r0_1∧(((decide (r0_1 > (12:Int)))=true→(∃ r0_2:arr4_uint64,C_heckleref01_Of ((98:Int)) ((98:Int)) r0_2∧(res=({ Kind:=(2:Int),Set:=r0_2,Lo:=(0:Int),Hi:=(0:Int),Kids:=[] })∧fin=o)))∧((decide (r0_1 > (12:Int)))=false→(res=r0∧fin=o)))))):C_hecklelaw06_small m res fin:=by
 unfold C_hecklelaw06_small
 have kk:=cfOk [11] 12
 refine fD (x:=bodyOf Try.f56) kk Try.func56 ?_
 refine wkS [1,3] [(1,.ptr 3 0),(3,av_hecklelaw03_Maker m)] (by kernel_rfl) ?_
 refine sDE kk [] [] [(7,.ptr 8 0),(8,.agg [vi 0,vI .u64 0,vI .u64 0,vI .u64 0,vI .u64 0,vi 0,vi 0,.own 36 ([])])] [(7,.ptr 8 0),(8,.agg [vi 0,vI .u64 0,vI .u64 0,vI .u64 0,vI .u64 0,vi 0,vi 0,oL 36 enc_api_Rx ([])])] obN ?_
 obtain ⟨r0,o,hc0,h⟩:=h
 refine sD kk [.c (ao_api_Rx r0) [av_hecklelaw03_Maker o]] [1] [(3,av_hecklelaw03_Maker o),(10,.ptr 11 0),(11,ao_api_Rx r0)] (obC hc0 obN) ?_
 refine qD ?_
 obtain ⟨r0_1,hc1,h⟩:=h
 refine sD kk [.c (vi r0_1) []] [] [(11,av_api_Rx r0),(25,vB (decide (r0_1 > (12:Int))))] (obC (Eq.mp (by unfold C_heckleref03_Size;(try simp only [List.drop_zero,List.take_length]);first | done | simp only [nm,enq]:C_heckleref03_Size r0 r0_1=CallE Try.prog 26 [.agg [vi (api_Rx.Kind r0),vI .u64 (arr4_uint64.e0 (api_Rx.Set r0)),vI .u64 (arr4_uint64.e1 (api_Rx.Set r0)),vI .u64 (arr4_uint64.e2 (api_Rx.Set r0)),vI .u64 (arr4_uint64.e3 (api_Rx.Set r0)),vi (api_Rx.Lo r0),vi (api_Rx.Hi r0),.f (FV.sl (List.take (List.length (List.map enc_api_Rx (api_Rx.Kids r0))) (List.drop (0:Nat) (List.map enc_api_Rx (api_Rx.Kids r0)))))]] [] (vi r0_1) []) hc1) obN) ?_
 refine cD (t:=8) (b:=decide (r0_1 > (12:Int))) (fun hb2=>?_) (fun hb2=>?_)
 ·have h:=h.1 hb2
  obtain ⟨r0_2,hc3,h⟩:=h
  refine sDE kk [.c (av_arr4_uint64 r0_2) []] [10,11,25] [(8,.agg [vi 2,vI .u64 (arr4_uint64.e0 r0_2),vI .u64 (arr4_uint64.e1 r0_2),vI .u64 (arr4_uint64.e2 r0_2),vI .u64 (arr4_uint64.e3 r0_2),vi 0,vi 0,.own 36 ([])])] [(8,.agg [vi 2,vI .u64 (arr4_uint64.e0 r0_2),vI .u64 (arr4_uint64.e1 r0_2),vI .u64 (arr4_uint64.e2 r0_2),vI .u64 (arr4_uint64.e3 r0_2),vi 0,vi 0,oL 36 enc_api_Rx ([])])] (obC hc3 obN) ?_
  refine tD ?_
  obtain ⟨he0,he1⟩:=h
  subst res fin
  exact (endD [(8,7)] (.agg [vi 2,vI .u64 (arr4_uint64.e0 r0_2),vI .u64 (arr4_uint64.e1 r0_2),vI .u64 (arr4_uint64.e2 r0_2),vI .u64 (arr4_uint64.e3 r0_2),vi 0,vi 0,vL enc_api_Rx ([])]) [av_hecklelaw03_Maker o]).1
 ·have h:=h.2 hb2
  refine Sem.skip' (by kernel_rfl) Wk.refl ?_
  show Sem _ _ _ _ _
  refine wkD [25] ?_
  refine sD kk [] [10,11] [(8,av_api_Rx r0)] obN ?_
  refine tD ?_
  obtain ⟨he0,he1⟩:=h
  subst res fin
  exact (endD [] (av_api_Rx r0) [av_hecklelaw03_Maker o]).1
set_option maxHeartbeats 1000000 in
theorem W_hecklelaw06_rule (conds:Int) (plain:Bool) (m:hecklelaw03_Maker) (res:api_Rule) (fin:hecklelaw03_Maker)
 (h:(∃ r0:Int,∃ o:hecklelaw03_Maker,C_hecklelaw03_Maker_Pick 3 m r0 o∧(∃ J3:List Int→Int→Int→Prop,(∀ (o0_L:List Int) (o0_At:Int) (r_To:Int),J3 o0_L o0_At r_To→(∃ J31:List Int→Int→List Int→Bool→Prop,(∀ (o0_L_5:List Int) (o0_At_5:Int) (r_Conds_4:List Int) (r_All:Bool),J31 o0_L_5 o0_At_5 r_Conds_4 r_All→(∃ r0_9:Int,∃ o_9:hecklelaw03_Maker,C_hecklelaw03_Maker_Pick ((12:Int)) ({ L:=o0_L_5,At:=o0_At_5 }) r0_9 o_9∧(((r0_9 == (11:Int))=true→(res=({ Conds:=r_Conds_4,All:=r_All,Bol:=false,Rx:={ Kind:=(0:Int),Set:={ e0:=(0:Int),e1:=(0:Int),e2:=(0:Int),e3:=(0:Int) },Lo:=(0:Int),Hi:=(0:Int),Kids:=[] },Trail:={ Kind:=(0:Int),Set:={ e0:=(0:Int),e1:=(0:Int),e2:=(0:Int),e3:=(0:Int) },Lo:=(0:Int),Hi:=(0:Int),Kids:=[] },Eof:=true,Act:=w64 ((1:Int)+r0),To:=r_To })∧fin=o_9))∧((r0_9 == (11:Int))=false→(∃ r0_10:api_Rx,∃ o_10:hecklelaw03_Maker,C_hecklelaw06_small o_9 r0_10 o_10∧(∃ J40:List Int→Int→Bool→Int→Int→Int→Int→Int→Int→Int→List api_Rx→Prop,(∀ (o0_L_6:List Int) (o0_At_6:Int) (r_Bol:Bool) (r_Trail_Kind:Int) (r_Trail_Set_e0:Int) (r_Trail_Set_e1:Int) (r_Trail_Set_e2:Int) (r_Trail_Set_e3:Int) (r_Trail_Lo:Int) (r_Trail_Hi:Int) (r_Trail_Kids:List api_Rx),J40 o0_L_6 o0_At_6 r_Bol r_Trail_Kind r_Trail_Set_e0 r_Trail_Set_e1 r_Trail_Set_e2 r_Trail_Set_e3 r_Trail_Lo r_Trail_Hi r_Trail_Kids→(res=({ Conds:=r_Conds_4,All:=r_All,Bol:=r_Bol,Rx:=r0_10,Trail:={ Kind:=r_Trail_Kind,Set:={ e0:=r_Trail_Set_e0,e1:=r_Trail_Set_e1,e2:=r_Trail_Set_e2,e3:=r_Trail_Set_e3 },Lo:=r_Trail_Lo,Hi:=r_Trail_Hi,Kids:=r_Trail_Kids },Eof:=false,Act:=w64 ((1:Int)+r0),To:=r_To })∧fin=({ L:=o0_L_6,At:=o0_At_6 })))∧(((!plain)=true→(∃ r0_14:Int,∃ o_14:hecklelaw03_Maker,C_hecklelaw03_Maker_Pick ((6:Int)) o_10 r0_14 o_14∧(∃ r0_15:Int,∃ o_15:hecklelaw03_Maker,C_hecklelaw03_Maker_Pick 5 o_14 r0_15 o_15∧(((r0_15 == (4:Int))=true→(∃ r0_16:api_Rx,∃ o_16:hecklelaw03_Maker,C_hecklelaw06_small o_15 r0_16 o_16∧J40 (hecklelaw03_Maker.L o_16) (hecklelaw03_Maker.At o_16) (r0_14 == (5:Int)) (api_Rx.Kind r0_16) (arr4_uint64.e0 (api_Rx.Set r0_16)) (arr4_uint64.e1 (api_Rx.Set r0_16)) (arr4_uint64.e2 (api_Rx.Set r0_16)) (arr4_uint64.e3 (api_Rx.Set r0_16)) (api_Rx.Lo r0_16) (api_Rx.Hi r0_16) (api_Rx.Kids r0_16)))∧((r0_15 == (4:Int))=false→J40 (hecklelaw03_Maker.L o_15) (hecklelaw03_Maker.At o_15) (r0_14 == (5:Int)) 0 0 0 0 0 0 0 ([]))))))∧((!plain)=false→J40 (hecklelaw03_Maker.L o_10) (hecklelaw03_Maker.At o_10) false 0 0 0 0 0 0 0 ([])))))))))∧(∃ r0_17:Int,∃ o_17:hecklelaw03_Maker,C_hecklelaw03_Maker_Pick 4 ({ L:=o0_L,At:=o0_At }) r0_17 o_17∧(((r0_17 == 0)=true→J31 (hecklelaw03_Maker.L o_17) (hecklelaw03_Maker.At o_17) ([]) true)∧((r0_17 == 0)=false→(((r0_17 == 1)=true→(∃ (Inv63:List Int→Int→List Int→Int→Prop) (mu64:List Int→Int→List Int→Int→Nat),Inv63 (hecklelaw03_Maker.L o_17) (hecklelaw03_Maker.At o_17) ([]) 0∧(∀ (o0_L_8:List Int) (o0_At_8:Int) (r_Conds_6:List Int) (i_1:Int),Inv63 o0_L_8 o0_At_8 r_Conds_6 i_1→(((decide (i_1 < conds))=true→(∃ J69:List Int→Int→List Int→Prop,(∀ (o0_L_10:List Int) (o0_At_10:Int) (r_Conds_8:List Int),J69 o0_L_10 o0_At_10 r_Conds_8→(Inv63 o0_L_10 o0_At_10 r_Conds_8 (w64 (i_1+1))∧mu64 o0_L_10 o0_At_10 r_Conds_8 (w64 (i_1+1)) < mu64 o0_L_8 o0_At_8 r_Conds_6 i_1))∧(∃ r0_23:Int,∃ o_23:hecklelaw03_Maker,C_hecklelaw03_Maker_Pick 2 ({ L:=o0_L_8,At:=o0_At_8 }) r0_23 o_23∧(((r0_23 == 1)=true→((List.length r_Conds_6+(1:Nat)) * (8:Nat)≤(2:Nat) ^ (47:Nat))∧J69 (hecklelaw03_Maker.L o_23) (hecklelaw03_Maker.At o_23) (r_Conds_6++[i_1]))∧((r0_23 == 1)=false→J69 (hecklelaw03_Maker.L o_23) (hecklelaw03_Maker.At o_23) r_Conds_6)))))∧((decide (i_1 < conds))=false→J31 o0_L_8 o0_At_8 r_Conds_6 false)))))∧((r0_17 == 1)=false→J31 (hecklelaw03_Maker.L o_17) (hecklelaw03_Maker.At o_17) ([]) false)))))))∧(((w64 ((1:Int)+r0) == (3:Int))=true→(∃ r0_24:Int,∃ o_24:hecklelaw03_Maker,C_hecklelaw03_Maker_Pick conds o r0_24 o_24∧J3 (hecklelaw03_Maker.L o_24) (hecklelaw03_Maker.At o_24) r0_24))∧((w64 ((1:Int)+r0) == (3:Int))=false→J3 (hecklelaw03_Maker.L o) (hecklelaw03_Maker.At o) 0))))):C_hecklelaw06_rule conds plain m res fin:=by
 unfold C_hecklelaw06_rule
 have kk:=cfOk [45,61] 62
 refine fD (x:=bodyOf Try.f28) kk Try.func28 ?_
 refine wkS [1,3,4,7] [(1,.ptr 3 0),(3,av_hecklelaw03_Maker m),(4,vi conds),(7,vB plain)] (by kernel_rfl) ?_
 refine sDE kk [] [] [(19,.ptr 20 0),(20,.agg [.own 3 ([]),vB false,vB false,vi 0,vI .u64 0,vI .u64 0,vI .u64 0,vI .u64 0,vi 0,vi 0,.own 36 ([]),vi 0,vI .u64 0,vI .u64 0,vI .u64 0,vI .u64 0,vi 0,vi 0,.own 36 ([]),vB false,vi 0,vi 0])] [(19,.ptr 20 0),(20,.agg [oL 3 enc_i64 ([]),vB false,vB false,vi 0,vI .u64 0,vI .u64 0,vI .u64 0,vI .u64 0,vi 0,vi 0,oL 36 enc_api_Rx ([]),vi 0,vI .u64 0,vI .u64 0,vI .u64 0,vI .u64 0,vi 0,vi 0,oL 36 enc_api_Rx ([]),vB false,vi 0,vi 0])] obN ?_
 obtain ⟨r0,o,hc0,h⟩:=h
 refine sDE kk [.c (vi r0) [av_hecklelaw03_Maker o]] [] [(3,av_hecklelaw03_Maker o),(22,.ptr 23 0),(23,.agg [.own 3 ([]),vB false,vB false,vi 0,vI .u64 0,vI .u64 0,vI .u64 0,vI .u64 0,vi 0,vi 0,.own 36 ([]),vi 0,vI .u64 0,vI .u64 0,vI .u64 0,vI .u64 0,vi 0,vi 0,.own 36 ([]),vB false,vi (w64 ((1:Int)+r0)),vi 0])] [(3,av_hecklelaw03_Maker o),(22,.ptr 23 0),(23,.agg [oL 3 enc_i64 ([]),vB false,vB false,vi 0,vI .u64 0,vI .u64 0,vI .u64 0,vI .u64 0,vi 0,vi 0,oL 36 enc_api_Rx ([]),vi 0,vI .u64 0,vI .u64 0,vI .u64 0,vI .u64 0,vi 0,vi 0,oL 36 enc_api_Rx ([]),vB false,vi (w64 ((1:Int)+r0)),vi 0])] (obC hc0 obN) ?_
 obtain ⟨J3,hJ3,h⟩:=h
 refine sjD (fun (q:List Int×Int×Int)=>J3 q.1 q.2.1 q.2.2) (fun (q:List Int×Int×Int)=>(fun (o0_L:List Int) (o0_At:Int) (r_To:Int)=>([(1,.ptr 3 0),(3,.agg [vL enc_u8 o0_L,vi o0_At]),(4,vi conds),(7,vB plain),(19,.ptr 20 0),(20,.agg [oL 3 enc_i64 ([]),vB false,vB false,vi 0,vI .u64 0,vI .u64 0,vI .u64 0,vI .u64 0,vi 0,vi 0,oL 36 enc_api_Rx ([]),vi 0,vI .u64 0,vI .u64 0,vI .u64 0,vI .u64 0,vi 0,vi 0,oL 36 enc_api_Rx ([]),vB false,vi 0,vi 0]),(22,.ptr 23 0),(23,.agg [oL 3 enc_i64 ([]),vB false,vB false,vi 0,vI .u64 0,vI .u64 0,vI .u64 0,vI .u64 0,vi 0,vi 0,oL 36 enc_api_Rx ([]),vi 0,vI .u64 0,vI .u64 0,vI .u64 0,vI .u64 0,vi 0,vi 0,oL 36 enc_api_Rx ([]),vB false,vi (w64 ((1:Int)+r0)),vi r_To])]:Sta)) q.1 q.2.1 q.2.2) ?_ ?_
 ·rintro ⟨o0_L,o0_At,r_To⟩ hj
  have h:=hJ3 o0_L o0_At r_To hj
  obtain ⟨J31,hJ31,h⟩:=h
  refine sjD (fun (q:List Int×Int×List Int×Bool)=>J31 q.1 q.2.1 q.2.2.1 q.2.2.2) (fun (q:List Int×Int×List Int×Bool)=>(fun (o0_L_5:List Int) (o0_At_5:Int) (r_Conds_4:List Int) (r_All:Bool)=>([(1,.ptr 3 0),(3,.agg [vL enc_u8 o0_L_5,vi o0_At_5]),(7,vB plain),(19,.ptr 20 0),(20,.agg [oL 3 enc_i64 ([]),vB false,vB false,vi 0,vI .u64 0,vI .u64 0,vI .u64 0,vI .u64 0,vi 0,vi 0,oL 36 enc_api_Rx ([]),vi 0,vI .u64 0,vI .u64 0,vI .u64 0,vI .u64 0,vi 0,vi 0,oL 36 enc_api_Rx ([]),vB false,vi 0,vi 0]),(22,.ptr 23 0),(23,.agg [oL 3 enc_i64 r_Conds_4,vB r_All,vB false,vi 0,vI .u64 0,vI .u64 0,vI .u64 0,vI .u64 0,vi 0,vi 0,oL 36 enc_api_Rx ([]),vi 0,vI .u64 0,vI .u64 0,vI .u64 0,vI .u64 0,vi 0,vi 0,oL 36 enc_api_Rx ([]),vB false,vi (w64 ((1:Int)+r0)),vi r_To])]:Sta)) q.1 q.2.1 q.2.2.1 q.2.2.2) ?_ ?_
  ·rintro ⟨o0_L_5,o0_At_5,r_Conds_4,r_All⟩ hj
   have h:=hJ31 o0_L_5 o0_At_5 r_Conds_4 r_All hj
   refine qD ?_
   obtain ⟨r0_9,o_9,hc32,h⟩:=h
   refine sD kk [.c (vi r0_9) [av_hecklelaw03_Maker o_9]] [] [(3,av_hecklelaw03_Maker o_9),(130,vB (r0_9 == (11:Int)))] (obC hc32 obN) ?_
   refine cD (t:=43) (b:=r0_9 == (11:Int)) (fun hb33=>?_) (fun hb33=>?_)
   ·have h:=h.1 hb33
    refine sD kk [] [1,7,130] [(23,.agg [oL 3 enc_i64 r_Conds_4,vB r_All,vB false,vi 0,vI .u64 0,vI .u64 0,vI .u64 0,vI .u64 0,vi 0,vi 0,oL 36 enc_api_Rx ([]),vi 0,vI .u64 0,vI .u64 0,vI .u64 0,vI .u64 0,vi 0,vi 0,oL 36 enc_api_Rx ([]),vB true,vi (w64 ((1:Int)+r0)),vi r_To])] obN ?_
    refine sD kk [] [22,23] [(20,.agg [oL 3 enc_i64 r_Conds_4,vB r_All,vB false,vi 0,vI .u64 0,vI .u64 0,vI .u64 0,vI .u64 0,vi 0,vi 0,oL 36 enc_api_Rx ([]),vi 0,vI .u64 0,vI .u64 0,vI .u64 0,vI .u64 0,vi 0,vi 0,oL 36 enc_api_Rx ([]),vB true,vi (w64 ((1:Int)+r0)),vi r_To])] (obC (show (0:Nat)=(0:Nat)∧List.length (List.map enc_i64 r_Conds_4)=List.length (List.map enc_i64 r_Conds_4) from by first | decide | rfl | trivial | (simp only [nm]<;>first | decide | rfl | omega)) (obC (show (0:Nat)=(0:Nat)∧(0:Nat)=List.length (List.map enc_api_Rx []) from by first | decide | rfl | trivial | (simp only [nm]<;>first | decide | rfl | omega)) (obC (show (0:Nat)=(0:Nat)∧(0:Nat)=List.length (List.map enc_api_Rx []) from by first | decide | rfl | trivial | (simp only [nm]<;>first | decide | rfl | omega)) obN))) ?_
    refine tD ?_
    obtain ⟨he0,he1⟩:=h
    subst res fin
    exact (endD [(20,10),(20,18)] (.agg [oL 3 enc_i64 r_Conds_4,vB r_All,vB false,vi 0,vI .u64 0,vI .u64 0,vI .u64 0,vI .u64 0,vi 0,vi 0,vL enc_api_Rx ([]),vi 0,vI .u64 0,vI .u64 0,vI .u64 0,vI .u64 0,vi 0,vi 0,vL enc_api_Rx ([]),vB true,vi (w64 ((1:Int)+r0)),vi r_To]) [av_hecklelaw03_Maker o_9]).1
   ·have h:=h.2 hb33
    refine Sem.skip' (by kernel_rfl) Wk.refl ?_
    show Sem _ _ _ _ _
    refine wkD [130] ?_
    obtain ⟨r0_10,o_10,hc34,h⟩:=h
    refine sD kk [.c (av_api_Rx r0_10) [av_hecklelaw03_Maker o_10]] [] [(3,av_hecklelaw03_Maker o_10),(23,.agg [oL 3 enc_i64 r_Conds_4,vB r_All,vB false,vi (api_Rx.Kind r0_10),vI .u64 (arr4_uint64.e0 (api_Rx.Set r0_10)),vI .u64 (arr4_uint64.e1 (api_Rx.Set r0_10)),vI .u64 (arr4_uint64.e2 (api_Rx.Set r0_10)),vI .u64 (arr4_uint64.e3 (api_Rx.Set r0_10)),vi (api_Rx.Lo r0_10),vi (api_Rx.Hi r0_10),vL enc_api_Rx (api_Rx.Kids r0_10),vi 0,vI .u64 0,vI .u64 0,vI .u64 0,vI .u64 0,vi 0,vi 0,oL 36 enc_api_Rx ([]),vB false,vi (w64 ((1:Int)+r0)),vi r_To])] (obC hc34 obN) ?_
    obtain ⟨J40,hJ40,h⟩:=h
    refine sjD (fun (q:List Int×Int×Bool×Int×Int×Int×Int×Int×Int×Int×List api_Rx)=>J40 q.1 q.2.1 q.2.2.1 q.2.2.2.1 q.2.2.2.2.1 q.2.2.2.2.2.1 q.2.2.2.2.2.2.1 q.2.2.2.2.2.2.2.1 q.2.2.2.2.2.2.2.2.1 q.2.2.2.2.2.2.2.2.2.1 q.2.2.2.2.2.2.2.2.2.2) (fun (q:List Int×Int×Bool×Int×Int×Int×Int×Int×Int×Int×List api_Rx)=>(fun (o0_L_6:List Int) (o0_At_6:Int) (r_Bol:Bool) (r_Trail_Kind:Int) (r_Trail_Set_e0:Int) (r_Trail_Set_e1:Int) (r_Trail_Set_e2:Int) (r_Trail_Set_e3:Int) (r_Trail_Lo:Int) (r_Trail_Hi:Int) (r_Trail_Kids:List api_Rx)=>([(3,.agg [vL enc_u8 o0_L_6,vi o0_At_6]),(19,.ptr 20 0),(20,.agg [oL 3 enc_i64 ([]),vB false,vB false,vi 0,vI .u64 0,vI .u64 0,vI .u64 0,vI .u64 0,vi 0,vi 0,oL 36 enc_api_Rx ([]),vi 0,vI .u64 0,vI .u64 0,vI .u64 0,vI .u64 0,vi 0,vi 0,oL 36 enc_api_Rx ([]),vB false,vi 0,vi 0]),(22,.ptr 23 0),(23,.agg [oL 3 enc_i64 r_Conds_4,vB r_All,vB r_Bol,vi (api_Rx.Kind r0_10),vI .u64 (arr4_uint64.e0 (api_Rx.Set r0_10)),vI .u64 (arr4_uint64.e1 (api_Rx.Set r0_10)),vI .u64 (arr4_uint64.e2 (api_Rx.Set r0_10)),vI .u64 (arr4_uint64.e3 (api_Rx.Set r0_10)),vi (api_Rx.Lo r0_10),vi (api_Rx.Hi r0_10),vL enc_api_Rx (api_Rx.Kids r0_10),vi r_Trail_Kind,vI .u64 r_Trail_Set_e0,vI .u64 r_Trail_Set_e1,vI .u64 r_Trail_Set_e2,vI .u64 r_Trail_Set_e3,vi r_Trail_Lo,vi r_Trail_Hi,vL enc_api_Rx r_Trail_Kids,vB false,vi (w64 ((1:Int)+r0)),vi r_To])]:Sta)) q.1 q.2.1 q.2.2.1 q.2.2.2.1 q.2.2.2.2.1 q.2.2.2.2.2.1 q.2.2.2.2.2.2.1 q.2.2.2.2.2.2.2.1 q.2.2.2.2.2.2.2.2.1 q.2.2.2.2.2.2.2.2.2.1 q.2.2.2.2.2.2.2.2.2.2) ?_ ?_
    ·rintro ⟨o0_L_6,o0_At_6,r_Bol,r_Trail_Kind,r_Trail_Set_e0,r_Trail_Set_e1,r_Trail_Set_e2,r_Trail_Set_e3,r_Trail_Lo,r_Trail_Hi,r_Trail_Kids⟩ hj
     have h:=hJ40 o0_L_6 o0_At_6 r_Bol r_Trail_Kind r_Trail_Set_e0 r_Trail_Set_e1 r_Trail_Set_e2 r_Trail_Set_e3 r_Trail_Lo r_Trail_Hi r_Trail_Kids hj
     refine sD kk [] [22,23] [(20,.agg [oL 3 enc_i64 r_Conds_4,vB r_All,vB r_Bol,vi (api_Rx.Kind r0_10),vI .u64 (arr4_uint64.e0 (api_Rx.Set r0_10)),vI .u64 (arr4_uint64.e1 (api_Rx.Set r0_10)),vI .u64 (arr4_uint64.e2 (api_Rx.Set r0_10)),vI .u64 (arr4_uint64.e3 (api_Rx.Set r0_10)),vi (api_Rx.Lo r0_10),vi (api_Rx.Hi r0_10),vL enc_api_Rx (api_Rx.Kids r0_10),vi r_Trail_Kind,vI .u64 r_Trail_Set_e0,vI .u64 r_Trail_Set_e1,vI .u64 r_Trail_Set_e2,vI .u64 r_Trail_Set_e3,vi r_Trail_Lo,vi r_Trail_Hi,vL enc_api_Rx r_Trail_Kids,vB false,vi (w64 ((1:Int)+r0)),vi r_To])] (obC (show (0:Nat)=(0:Nat)∧List.length (List.map enc_i64 r_Conds_4)=List.length (List.map enc_i64 r_Conds_4) from by first | decide | rfl | trivial | (simp only [nm]<;>first | decide | rfl | omega)) obN) ?_
     refine tD ?_
     obtain ⟨he0,he1⟩:=h
     subst res fin
     exact (endD [] (.agg [oL 3 enc_i64 r_Conds_4,vB r_All,vB r_Bol,vi (api_Rx.Kind r0_10),vI .u64 (arr4_uint64.e0 (api_Rx.Set r0_10)),vI .u64 (arr4_uint64.e1 (api_Rx.Set r0_10)),vI .u64 (arr4_uint64.e2 (api_Rx.Set r0_10)),vI .u64 (arr4_uint64.e3 (api_Rx.Set r0_10)),vi (api_Rx.Lo r0_10),vi (api_Rx.Hi r0_10),vL enc_api_Rx (api_Rx.Kids r0_10),vi r_Trail_Kind,vI .u64 r_Trail_Set_e0,vI .u64 r_Trail_Set_e1,vI .u64 r_Trail_Set_e2,vI .u64 r_Trail_Set_e3,vi r_Trail_Lo,vi r_Trail_Hi,vL enc_api_Rx r_Trail_Kids,vB false,vi (w64 ((1:Int)+r0)),vi r_To]) [.agg [vL enc_u8 o0_L_6,vi o0_At_6]]).1
    ·refine sD kk [] [7] [(151,vB (!plain))] obN ?_
     refine cD (t:=50) (b:=!plain) (fun hb41=>?_) (fun hb41=>?_)
     ·have h:=h.1 hb41
      obtain ⟨r0_14,o_14,hc42,h⟩:=h
      refine sD kk [.c (vi r0_14) [av_hecklelaw03_Maker o_14]] [151] [(3,av_hecklelaw03_Maker o_14),(23,.agg [oL 3 enc_i64 r_Conds_4,vB r_All,vB (r0_14 == (5:Int)),vi (api_Rx.Kind r0_10),vI .u64 (arr4_uint64.e0 (api_Rx.Set r0_10)),vI .u64 (arr4_uint64.e1 (api_Rx.Set r0_10)),vI .u64 (arr4_uint64.e2 (api_Rx.Set r0_10)),vI .u64 (arr4_uint64.e3 (api_Rx.Set r0_10)),vi (api_Rx.Lo r0_10),vi (api_Rx.Hi r0_10),vL enc_api_Rx (api_Rx.Kids r0_10),vi 0,vI .u64 0,vI .u64 0,vI .u64 0,vI .u64 0,vi 0,vi 0,oL 36 enc_api_Rx ([]),vB false,vi (w64 ((1:Int)+r0)),vi r_To])] (obC hc42 obN) ?_
      obtain ⟨r0_15,o_15,hc43,h⟩:=h
      refine sD kk [.c (vi r0_15) [av_hecklelaw03_Maker o_15]] [] [(3,av_hecklelaw03_Maker o_15),(172,vB (r0_15 == (4:Int)))] (obC hc43 obN) ?_
      refine cD (t:=57) (b:=r0_15 == (4:Int)) (fun hb44=>?_) (fun hb44=>?_)
      ·have h:=h.1 hb44
       obtain ⟨r0_16,o_16,hc45,h⟩:=h
       refine rD kk [.c (av_api_Rx r0_16) [av_hecklelaw03_Maker o_16]] [1,172] [(3,av_hecklelaw03_Maker o_16),(23,.agg [oL 3 enc_i64 r_Conds_4,vB r_All,vB (r0_14 == (5:Int)),vi (api_Rx.Kind r0_10),vI .u64 (arr4_uint64.e0 (api_Rx.Set r0_10)),vI .u64 (arr4_uint64.e1 (api_Rx.Set r0_10)),vI .u64 (arr4_uint64.e2 (api_Rx.Set r0_10)),vI .u64 (arr4_uint64.e3 (api_Rx.Set r0_10)),vi (api_Rx.Lo r0_10),vi (api_Rx.Hi r0_10),vL enc_api_Rx (api_Rx.Kids r0_10),vi (api_Rx.Kind r0_16),vI .u64 (arr4_uint64.e0 (api_Rx.Set r0_16)),vI .u64 (arr4_uint64.e1 (api_Rx.Set r0_16)),vI .u64 (arr4_uint64.e2 (api_Rx.Set r0_16)),vI .u64 (arr4_uint64.e3 (api_Rx.Set r0_16)),vi (api_Rx.Lo r0_16),vi (api_Rx.Hi r0_16),vL enc_api_Rx (api_Rx.Kids r0_16),vB false,vi (w64 ((1:Int)+r0)),vi r_To])] (obC hc45 obN) ?_
       exact jD ((hecklelaw03_Maker.L o_16),(hecklelaw03_Maker.At o_16),(r0_14 == (5:Int)),(api_Rx.Kind r0_16),(arr4_uint64.e0 (api_Rx.Set r0_16)),(arr4_uint64.e1 (api_Rx.Set r0_16)),(arr4_uint64.e2 (api_Rx.Set r0_16)),(arr4_uint64.e3 (api_Rx.Set r0_16)),(api_Rx.Lo r0_16),(api_Rx.Hi r0_16),(api_Rx.Kids r0_16)) [] h
      ·have h:=h.2 hb44
       refine Sem.skip' (by kernel_rfl) Wk.refl ?_
       exact jD ((hecklelaw03_Maker.L o_15),(hecklelaw03_Maker.At o_15),(r0_14 == (5:Int)),0,0,0,0,0,0,0,([])) [(23,18)] h
     ·have h:=h.2 hb41
      refine Sem.skip' (by kernel_rfl) Wk.refl ?_
      exact jD ((hecklelaw03_Maker.L o_10),(hecklelaw03_Maker.At o_10),false,0,0,0,0,0,0,0,([])) [(23,18)] h
  ·obtain ⟨r0_17,o_17,hc46,h⟩:=h
   refine sD kk [.c (vi r0_17) [av_hecklelaw03_Maker o_17]] [] [(3,av_hecklelaw03_Maker o_17),(64,vi r0_17)] (obC hc46 obN) ?_
   refine bD (id:=0) ?_
   refine sD kk [] [] [(67,vB (r0_17 == 0))] obN ?_
   refine cD (t:=22) (b:=r0_17 == 0) (fun hb47=>?_) (fun hb47=>?_)
   ·have h:=h.1 hb47
    refine rD kk [] [4,64,67] [(23,.agg [oL 3 enc_i64 ([]),vB true,vB false,vi 0,vI .u64 0,vI .u64 0,vI .u64 0,vI .u64 0,vi 0,vi 0,oL 36 enc_api_Rx ([]),vi 0,vI .u64 0,vI .u64 0,vI .u64 0,vI .u64 0,vi 0,vi 0,oL 36 enc_api_Rx ([]),vB false,vi (w64 ((1:Int)+r0)),vi r_To])] obN ?_
    exact jD ((hecklelaw03_Maker.L o_17),(hecklelaw03_Maker.At o_17),([]),true) [] h
   ·have h:=h.2 hb47
    refine sD kk [] [64,67] [(76,vB (r0_17 == 1))] obN ?_
    refine cD (t:=25) (b:=r0_17 == 1) (fun hb48=>?_) (fun hb48=>?_)
    ·have h:=h.1 hb48
     refine sD kk [] [76] [(25,vi 0)] obN ?_
     refine bD (id:=1) ?_
     obtain ⟨Inv63,mu64,h0Inv63,hInv63⟩:=h
     refine loD (fun (q:List Int×Int×List Int×Int)=>(fun (o0_L_8:List Int) (o0_At_8:Int) (r_Conds_6:List Int) (i_1:Int)=>([(1,.ptr 3 0),(3,.agg [vL enc_u8 o0_L_8,vi o0_At_8]),(4,vi conds),(7,vB plain),(19,.ptr 20 0),(20,.agg [oL 3 enc_i64 ([]),vB false,vB false,vi 0,vI .u64 0,vI .u64 0,vI .u64 0,vI .u64 0,vi 0,vi 0,oL 36 enc_api_Rx ([]),vi 0,vI .u64 0,vI .u64 0,vI .u64 0,vI .u64 0,vi 0,vi 0,oL 36 enc_api_Rx ([]),vB false,vi 0,vi 0]),(22,.ptr 23 0),(23,.agg [oL 3 enc_i64 r_Conds_6,vB false,vB false,vi 0,vI .u64 0,vI .u64 0,vI .u64 0,vI .u64 0,vi 0,vi 0,oL 36 enc_api_Rx ([]),vi 0,vI .u64 0,vI .u64 0,vI .u64 0,vI .u64 0,vi 0,vi 0,oL 36 enc_api_Rx ([]),vB false,vi (w64 ((1:Int)+r0)),vi r_To]),(25,vi i_1)]:Sta)) q.1 q.2.1 q.2.2.1 q.2.2.2) (fun (q:List Int×Int×List Int×Int)=>Inv63 q.1 q.2.1 q.2.2.1 q.2.2.2) (fun (q:List Int×Int×List Int×Int)=>mu64 q.1 q.2.1 q.2.2.1 q.2.2.2) ((hecklelaw03_Maker.L o_17),(hecklelaw03_Maker.At o_17),([]),0) [] h0Inv63 ?_
     rintro ⟨o0_L_8,o0_At_8,r_Conds_6,i_1⟩ hi
     have h:=hInv63 o0_L_8 o0_At_8 r_Conds_6 i_1 hi
     refine qD ?_
     refine sD kk [] [] [(88,vB (decide (i_1 < conds)))] obN ?_
     refine cD (t:=29) (b:=decide (i_1 < conds)) (fun hb65=>?_) (fun hb65=>?_)
     ·have h:=h.1 hb65
      refine Sem.skip' (by kernel_rfl) Wk.refl ?_
      show Sem _ _ _ _ _
      refine wkD [88] ?_
      obtain ⟨J69,hJ69,h⟩:=h
      refine sjD (fun (q:List Int×Int×List Int)=>J69 q.1 q.2.1 q.2.2) (fun (q:List Int×Int×List Int)=>(fun (o0_L_10:List Int) (o0_At_10:Int) (r_Conds_8:List Int)=>([(1,.ptr 3 0),(3,.agg [vL enc_u8 o0_L_10,vi o0_At_10]),(4,vi conds),(7,vB plain),(19,.ptr 20 0),(20,.agg [oL 3 enc_i64 ([]),vB false,vB false,vi 0,vI .u64 0,vI .u64 0,vI .u64 0,vI .u64 0,vi 0,vi 0,oL 36 enc_api_Rx ([]),vi 0,vI .u64 0,vI .u64 0,vI .u64 0,vI .u64 0,vi 0,vi 0,oL 36 enc_api_Rx ([]),vB false,vi 0,vi 0]),(22,.ptr 23 0),(23,.agg [oL 3 enc_i64 r_Conds_8,vB false,vB false,vi 0,vI .u64 0,vI .u64 0,vI .u64 0,vI .u64 0,vi 0,vi 0,oL 36 enc_api_Rx ([]),vi 0,vI .u64 0,vI .u64 0,vI .u64 0,vI .u64 0,vi 0,vi 0,oL 36 enc_api_Rx ([]),vB false,vi (w64 ((1:Int)+r0)),vi r_To]),(25,vi i_1)]:Sta)) q.1 q.2.1 q.2.2) ?_ ?_
      ·rintro ⟨o0_L_10,o0_At_10,r_Conds_8⟩ hj
       have h:=hJ69 o0_L_10 o0_At_10 r_Conds_8 hj
       refine rD kk [] [] [(25,vi (w64 (i_1+1)))] obN ?_
       exact lD (o0_L_10,o0_At_10,r_Conds_8,(w64 (i_1+1))) [] h
      ·refine bD (id:=2) ?_
       obtain ⟨r0_23,o_23,hc70,h⟩:=h
       refine sD kk [.c (vi r0_23) [av_hecklelaw03_Maker o_23]] [] [(3,av_hecklelaw03_Maker o_23),(103,vB (r0_23 == 1))] (obC hc70 obN) ?_
       refine cD (t:=34) (b:=r0_23 == 1) (fun hb71=>?_) (fun hb71=>?_)
       ·have h:=h.1 hb71
        obtain ⟨h72,h⟩:=h
        refine rDE kk [] [103] [(23,.agg [.own 3 (List.map enc_i64 r_Conds_6++List.take (List.length [FV.pv (Value.int IntKind.i64 i_1)]) (List.drop (0:Nat) [FV.pv (Value.int IntKind.i64 i_1)])),vB false,vB false,vi 0,vI .u64 0,vI .u64 0,vI .u64 0,vI .u64 0,vi 0,vi 0,oL 36 enc_api_Rx ([]),vi 0,vI .u64 0,vI .u64 0,vI .u64 0,vI .u64 0,vi 0,vi 0,oL 36 enc_api_Rx ([]),vB false,vi (w64 ((1:Int)+r0)),vi r_To])] [(23,.agg [oL 3 enc_i64 (r_Conds_6++[i_1]),vB false,vB false,vi 0,vI .u64 0,vI .u64 0,vI .u64 0,vI .u64 0,vi 0,vi 0,oL 36 enc_api_Rx ([]),vi 0,vI .u64 0,vI .u64 0,vI .u64 0,vI .u64 0,vi 0,vi 0,oL 36 enc_api_Rx ([]),vB false,vi (w64 ((1:Int)+r0)),vi r_To])] (obC (show (0:Nat)=(0:Nat)∧List.length (List.map enc_i64 r_Conds_6)=List.length (List.map enc_i64 r_Conds_6) from by first | decide | rfl | trivial | (simp only [nm]<;>first | decide | rfl | omega)) (obC (show (List.length (List.map enc_i64 r_Conds_6)+List.length (List.take (1:Nat) (List.drop (0:Nat) [FV.pv (Value.int IntKind.i64 i_1)]))) * (8:Nat)≤(2:Nat) ^ (47:Nat) from by simpa only [nm] using h72) (obC (show List.all (List.take (1:Nat) (List.drop (0:Nat) [FV.pv (Value.int IntKind.i64 i_1)])) (FV.fits (1:Nat))=true from by first | exact fits_i64 _ | rfl | simp [isByteF,FV.fits,FV.size,FV.cells,FV.one,]) obN))) ?_
        exact jD ((hecklelaw03_Maker.L o_23),(hecklelaw03_Maker.At o_23),(r_Conds_6++[i_1])) [] h
       ·have h:=h.2 hb71
        refine Sem.skip' (by kernel_rfl) Wk.refl ?_
        exact jD ((hecklelaw03_Maker.L o_23),(hecklelaw03_Maker.At o_23),r_Conds_6) [] h
     ·have h:=h.2 hb65
      refine xD (i:=1) ?_
      exact jD (o0_L_8,o0_At_8,r_Conds_6,false) [] h
    ·have h:=h.2 hb48
     refine Sem.skip' (by kernel_rfl) Wk.refl ?_
     exact jD ((hecklelaw03_Maker.L o_17),(hecklelaw03_Maker.At o_17),([]),false) [] h
 ·refine sD kk [] [] [(46,vB (w64 ((1:Int)+r0) == (3:Int)))] obN ?_
  refine cD (t:=15) (b:=w64 ((1:Int)+r0) == (3:Int)) (fun hb73=>?_) (fun hb73=>?_)
  ·have h:=h.1 hb73
   obtain ⟨r0_24,o_24,hc74,h⟩:=h
   refine rD kk [.c (vi r0_24) [av_hecklelaw03_Maker o_24]] [46] [(3,av_hecklelaw03_Maker o_24),(23,.agg [oL 3 enc_i64 ([]),vB false,vB false,vi 0,vI .u64 0,vI .u64 0,vI .u64 0,vI .u64 0,vi 0,vi 0,oL 36 enc_api_Rx ([]),vi 0,vI .u64 0,vI .u64 0,vI .u64 0,vI .u64 0,vi 0,vi 0,oL 36 enc_api_Rx ([]),vB false,vi (w64 ((1:Int)+r0)),vi r0_24])] (obC hc74 obN) ?_
   exact jD ((hecklelaw03_Maker.L o_24),(hecklelaw03_Maker.At o_24),r0_24) [] h
  ·have h:=h.2 hb73
   refine Sem.skip' (by kernel_rfl) Wk.refl ?_
   exact jD ((hecklelaw03_Maker.L o),(hecklelaw03_Maker.At o),0) [] h
set_option maxHeartbeats 1000000 in
theorem W_hecklelaw06_Made (l:(List Int)) (plain:Bool) (res:api_Spec)
 (h:(∃ J2:List Int→Prop,(∀ (l_1:List Int),J2 l_1→(∃ r0:Int,∃ o:hecklelaw03_Maker,C_hecklelaw03_Maker_Pick 3 ({ L:=l_1,At:=(0:Int) }) r0 o∧(∃ r0_1:Int,∃ o_1:hecklelaw03_Maker,C_hecklelaw03_Maker_Pick 2 o r0_1 o_1∧((0:Int)≤w64 ((1:Int)+r0)∧Int.toNat (w64 ((1:Int)+r0))≤(3:Nat))∧(∃ r0_2:Int,∃ o_2:hecklelaw03_Maker,C_hecklelaw03_Maker_Pick 3 o_1 r0_2 o_2∧(∃ r0_3:Int,∃ o_3:hecklelaw03_Maker,C_hecklelaw03_Maker_Pick 4 o_2 r0_3 o_3∧(∃ (Inv13:List api_Rule→Int→List Int→Int→Prop) (mu14:List api_Rule→Int→List Int→Int→Nat),Inv13 ([]) (w64 ((1:Int)+r0_3)) (hecklelaw03_Maker.L o_3) (hecklelaw03_Maker.At o_3)∧(∀ (s_Rules:List api_Rule) (i:Int) (t16_L:List Int) (t16_At:Int),Inv13 s_Rules i t16_L t16_At→(((decide (i > (0:Int)))=true→(∃ r0_6:api_Rule,∃ o_6:hecklelaw03_Maker,C_hecklelaw06_rule (w64 ((1:Int)+r0)) plain ({ L:=t16_L,At:=t16_At }) r0_6 o_6∧((List.length s_Rules+(1:Nat)) * (216:Nat)≤(2:Nat) ^ (47:Nat))∧(Inv13 (s_Rules++[r0_6]) (w64 (i - 1)) (hecklelaw03_Maker.L o_6) (hecklelaw03_Maker.At o_6)∧mu14 (s_Rules++[r0_6]) (w64 (i - 1)) (hecklelaw03_Maker.L o_6) (hecklelaw03_Maker.At o_6) < mu14 s_Rules i t16_L t16_At)))∧((decide (i > (0:Int)))=false→(res=({ Conds:=List.take (Int.toNat (w64 ((1:Int)+r0))) [{ Name:={ data:=#[(73:UInt8),(78:UInt8),(73:UInt8),(84:UInt8),(73:UInt8),(65:UInt8),(76:UInt8)] },Exclusive:=false },{ Name:={ data:=#[(66:UInt8)] },Exclusive:=r0_1 == 1 },{ Name:={ data:=#[(67:UInt8),(95:UInt8),(49:UInt8)] },Exclusive:=false }],Default:=decide (r0_2 > (0:Int)),Rules:=s_Rules })))))))))))∧(((decide ((↑(List.length l):Int) > (60:Int)))=true→((0:Int)≤(60:Int)∧Int.toNat (60:Int)≤List.length l∧List.all (List.map enc_u8 l) (FV.fits (1:Nat))=true)∧J2 (List.take (Int.toNat (60:Int)) l))∧((decide ((↑(List.length l):Int) > (60:Int)))=false→J2 l)))):C_hecklelaw06_Made l plain res:=by
 unfold C_hecklelaw06_Made
 have kk:=cfOk [49] 50
 refine fD (x:=bodyOf Try.f8) kk Try.func8 ?_
 refine wkS [1,4] [(1,vL enc_u8 l),(4,vB plain)] (by kernel_rfl) ?_
 refine sDE kk [] [] [(13,.ptr 14 0),(14,.agg [.own 69 ([]),vB false,.own 38 ([])])] [(13,.ptr 14 0),(14,.agg [oL 69 enc_api_Cond ([]),vB false,oL 38 enc_api_Rule ([])])] obN ?_
 obtain ⟨J2,hJ2,h⟩:=h
 refine sjD (fun (q:List Int)=>J2 q) (fun (q:List Int)=>(fun (l_1:List Int)=>([(1,vL enc_u8 l_1),(4,vB plain),(13,.ptr 14 0),(14,.agg [oL 69 enc_api_Cond ([]),vB false,oL 38 enc_api_Rule ([])])]:Sta)) q) ?_ ?_
 ·rintro l_1 hj
  have h:=hJ2 l_1 hj
  refine sD kk [] [1] [(16,.ptr 50 0),(50,.agg [vL enc_u8 l_1,vi 0])] obN ?_
  obtain ⟨r0,o,hc3,h⟩:=h
  refine sD kk [.c (vi r0) [av_hecklelaw03_Maker o]] [] [(19,vi (w64 ((1:Int)+r0))),(50,av_hecklelaw03_Maker o)] (obC hc3 obN) ?_
  obtain ⟨r0_1,o_1,hc4,h⟩:=h
  obtain ⟨h5,h⟩:=h
  obtain ⟨r0_2,o_2,hc6,h⟩:=h
  refine sDE kk [.c (vi r0_1) [av_hecklelaw03_Maker o_1],.c (vi r0_2) [av_hecklelaw03_Maker o_2]] [] [(22,.ptr 23 0),(23,.agg [.f (FV.sl (List.take (Int.toNat (w64 ((1:Int)+r0))) (List.drop (0:Nat) [FV.agg [FV.pv (Value.string { data:=#[(73:UInt8),(78:UInt8),(73:UInt8),(84:UInt8),(73:UInt8),(65:UInt8),(76:UInt8)] }),FV.pv (Value.bool false)],FV.agg [FV.pv (Value.string { data:=#[(66:UInt8)] }),FV.pv (Value.bool (r0_1 == 1))],FV.agg [FV.pv (Value.string { data:=#[(67:UInt8),(95:UInt8),(49:UInt8)] }),FV.pv (Value.bool false)]]))),vB (decide (r0_2 > (0:Int))),.own 38 ([])]),(50,av_hecklelaw03_Maker o_2)] [(22,.ptr 23 0),(23,.agg [vL enc_api_Cond (List.take (Int.toNat (w64 ((1:Int)+r0))) [{ Name:={ data:=#[(73:UInt8),(78:UInt8),(73:UInt8),(84:UInt8),(73:UInt8),(65:UInt8),(76:UInt8)] },Exclusive:=false },{ Name:={ data:=#[(66:UInt8)] },Exclusive:=r0_1 == 1 },{ Name:={ data:=#[(67:UInt8),(95:UInt8),(49:UInt8)] },Exclusive:=false }]),vB (decide (r0_2 > (0:Int))),oL 38 enc_api_Rule ([])]),(50,av_hecklelaw03_Maker o_2)] (obC hc4 (obC (show True∧(0:Int)≤w64 ((1:Int)+r0)∧(0:Nat)=(0:Nat)∧Int.toNat (w64 ((1:Int)+r0))≤(3:Nat) from by simpa only [nm] using h5) (obC hc6 obN))) ?_
  refine qD ?_
  obtain ⟨r0_3,o_3,hc7,h⟩:=h
  refine sD kk [.c (vi r0_3) [av_hecklelaw03_Maker o_3]] [] [(25,vi (w64 ((1:Int)+r0_3))),(50,av_hecklelaw03_Maker o_3)] (obC hc7 obN) ?_
  refine bD (id:=0) ?_
  obtain ⟨Inv13,mu14,h0Inv13,hInv13⟩:=h
  refine loD (fun (q:List api_Rule×Int×List Int×Int)=>(fun (s_Rules:List api_Rule) (i:Int) (t16_L:List Int) (t16_At:Int)=>([(4,vB plain),(13,.ptr 14 0),(14,.agg [oL 69 enc_api_Cond ([]),vB false,oL 38 enc_api_Rule ([])]),(16,.ptr 50 0),(19,vi (w64 ((1:Int)+r0))),(22,.ptr 23 0),(23,.agg [vL enc_api_Cond (List.take (Int.toNat (w64 ((1:Int)+r0))) [{ Name:={ data:=#[(73:UInt8),(78:UInt8),(73:UInt8),(84:UInt8),(73:UInt8),(65:UInt8),(76:UInt8)] },Exclusive:=false },{ Name:={ data:=#[(66:UInt8)] },Exclusive:=r0_1 == 1 },{ Name:={ data:=#[(67:UInt8),(95:UInt8),(49:UInt8)] },Exclusive:=false }]),vB (decide (r0_2 > (0:Int))),oL 38 enc_api_Rule s_Rules]),(25,vi i),(50,.agg [vL enc_u8 t16_L,vi t16_At])]:Sta)) q.1 q.2.1 q.2.2.1 q.2.2.2) (fun (q:List api_Rule×Int×List Int×Int)=>Inv13 q.1 q.2.1 q.2.2.1 q.2.2.2) (fun (q:List api_Rule×Int×List Int×Int)=>mu14 q.1 q.2.1 q.2.2.1 q.2.2.2) (([]),(w64 ((1:Int)+r0_3)),(hecklelaw03_Maker.L o_3),(hecklelaw03_Maker.At o_3)) [] h0Inv13 ?_
  rintro ⟨s_Rules,i,t16_L,t16_At⟩ hi
  have h:=hInv13 s_Rules i t16_L t16_At hi
  refine qD ?_
  refine sD kk [] [] [(112,vB (decide (i > (0:Int))))] obN ?_
  refine cD (t:=37) (b:=decide (i > (0:Int))) (fun hb15=>?_) (fun hb15=>?_)
  ·have h:=h.1 hb15
   refine Sem.skip' (by kernel_rfl) Wk.refl ?_
   show Sem _ _ _ _ _
   refine wkD [112] ?_
   refine qD ?_
   refine bD (id:=1) ?_
   obtain ⟨r0_6,o_6,hc16,h⟩:=h
   obtain ⟨h17,h⟩:=h
   refine rDE kk [.c (.agg [oL 3 enc_i64 (api_Rule.Conds r0_6),vB (api_Rule.All r0_6),vB (api_Rule.Bol r0_6),vi (api_Rx.Kind (api_Rule.Rx r0_6)),vI .u64 (arr4_uint64.e0 (api_Rx.Set (api_Rule.Rx r0_6))),vI .u64 (arr4_uint64.e1 (api_Rx.Set (api_Rule.Rx r0_6))),vI .u64 (arr4_uint64.e2 (api_Rx.Set (api_Rule.Rx r0_6))),vI .u64 (arr4_uint64.e3 (api_Rx.Set (api_Rule.Rx r0_6))),vi (api_Rx.Lo (api_Rule.Rx r0_6)),vi (api_Rx.Hi (api_Rule.Rx r0_6)),vL enc_api_Rx (api_Rx.Kids (api_Rule.Rx r0_6)),vi (api_Rx.Kind (api_Rule.Trail r0_6)),vI .u64 (arr4_uint64.e0 (api_Rx.Set (api_Rule.Trail r0_6))),vI .u64 (arr4_uint64.e1 (api_Rx.Set (api_Rule.Trail r0_6))),vI .u64 (arr4_uint64.e2 (api_Rx.Set (api_Rule.Trail r0_6))),vI .u64 (arr4_uint64.e3 (api_Rx.Set (api_Rule.Trail r0_6))),vi (api_Rx.Lo (api_Rule.Trail r0_6)),vi (api_Rx.Hi (api_Rule.Trail r0_6)),vL enc_api_Rx (api_Rx.Kids (api_Rule.Trail r0_6)),vB (api_Rule.Eof r0_6),vi (api_Rule.Act r0_6),vi (api_Rule.To r0_6)]) [av_hecklelaw03_Maker o_6]] [] [(23,.agg [vL enc_api_Cond (List.take (Int.toNat (w64 ((1:Int)+r0))) [{ Name:={ data:=#[(73:UInt8),(78:UInt8),(73:UInt8),(84:UInt8),(73:UInt8),(65:UInt8),(76:UInt8)] },Exclusive:=false },{ Name:={ data:=#[(66:UInt8)] },Exclusive:=r0_1 == 1 },{ Name:={ data:=#[(67:UInt8),(95:UInt8),(49:UInt8)] },Exclusive:=false }]),vB (decide (r0_2 > (0:Int))),.own 38 (List.map enc_api_Rule s_Rules++List.take (List.length [FV.agg [FV.sl (List.take (List.length (List.map enc_i64 (api_Rule.Conds r0_6))) (List.drop (0:Nat) (List.map enc_i64 (api_Rule.Conds r0_6)))),FV.pv (Value.bool (api_Rule.All r0_6)),FV.pv (Value.bool (api_Rule.Bol r0_6)),FV.pv (Value.int IntKind.i64 (api_Rx.Kind (api_Rule.Rx r0_6))),FV.pv (Value.int IntKind.u64 (arr4_uint64.e0 (api_Rx.Set (api_Rule.Rx r0_6)))),FV.pv (Value.int IntKind.u64 (arr4_uint64.e1 (api_Rx.Set (api_Rule.Rx r0_6)))),FV.pv (Value.int IntKind.u64 (arr4_uint64.e2 (api_Rx.Set (api_Rule.Rx r0_6)))),FV.pv (Value.int IntKind.u64 (arr4_uint64.e3 (api_Rx.Set (api_Rule.Rx r0_6)))),FV.pv (Value.int IntKind.i64 (api_Rx.Lo (api_Rule.Rx r0_6))),FV.pv (Value.int IntKind.i64 (api_Rx.Hi (api_Rule.Rx r0_6))),FV.sl (List.map enc_api_Rx (api_Rx.Kids (api_Rule.Rx r0_6))),FV.pv (Value.int IntKind.i64 (api_Rx.Kind (api_Rule.Trail r0_6))),FV.pv (Value.int IntKind.u64 (arr4_uint64.e0 (api_Rx.Set (api_Rule.Trail r0_6)))),FV.pv (Value.int IntKind.u64 (arr4_uint64.e1 (api_Rx.Set (api_Rule.Trail r0_6)))),FV.pv (Value.int IntKind.u64 (arr4_uint64.e2 (api_Rx.Set (api_Rule.Trail r0_6)))),FV.pv (Value.int IntKind.u64 (arr4_uint64.e3 (api_Rx.Set (api_Rule.Trail r0_6)))),FV.pv (Value.int IntKind.i64 (api_Rx.Lo (api_Rule.Trail r0_6))),FV.pv (Value.int IntKind.i64 (api_Rx.Hi (api_Rule.Trail r0_6))),FV.sl (List.map enc_api_Rx (api_Rx.Kids (api_Rule.Trail r0_6))),FV.pv (Value.bool (api_Rule.Eof r0_6)),FV.pv (Value.int IntKind.i64 (api_Rule.Act r0_6)),FV.pv (Value.int IntKind.i64 (api_Rule.To r0_6))]]) (List.drop (0:Nat) [FV.agg [FV.sl (List.take (List.length (List.map enc_i64 (api_Rule.Conds r0_6))) (List.drop (0:Nat) (List.map enc_i64 (api_Rule.Conds r0_6)))),FV.pv (Value.bool (api_Rule.All r0_6)),FV.pv (Value.bool (api_Rule.Bol r0_6)),FV.pv (Value.int IntKind.i64 (api_Rx.Kind (api_Rule.Rx r0_6))),FV.pv (Value.int IntKind.u64 (arr4_uint64.e0 (api_Rx.Set (api_Rule.Rx r0_6)))),FV.pv (Value.int IntKind.u64 (arr4_uint64.e1 (api_Rx.Set (api_Rule.Rx r0_6)))),FV.pv (Value.int IntKind.u64 (arr4_uint64.e2 (api_Rx.Set (api_Rule.Rx r0_6)))),FV.pv (Value.int IntKind.u64 (arr4_uint64.e3 (api_Rx.Set (api_Rule.Rx r0_6)))),FV.pv (Value.int IntKind.i64 (api_Rx.Lo (api_Rule.Rx r0_6))),FV.pv (Value.int IntKind.i64 (api_Rx.Hi (api_Rule.Rx r0_6))),FV.sl (List.map enc_api_Rx (api_Rx.Kids (api_Rule.Rx r0_6))),FV.pv (Value.int IntKind.i64 (api_Rx.Kind (api_Rule.Trail r0_6))),FV.pv (Value.int IntKind.u64 (arr4_uint64.e0 (api_Rx.Set (api_Rule.Trail r0_6)))),FV.pv (Value.int IntKind.u64 (arr4_uint64.e1 (api_Rx.Set (api_Rule.Trail r0_6)))),FV.pv (Value.int IntKind.u64 (arr4_uint64.e2 (api_Rx.Set (api_Rule.Trail r0_6)))),FV.pv (Value.int IntKind.u64 (arr4_uint64.e3 (api_Rx.Set (api_Rule.Trail r0_6)))),FV.pv (Value.int IntKind.i64 (api_Rx.Lo (api_Rule.Trail r0_6))),FV.pv (Value.int IntKind.i64 (api_Rx.Hi (api_Rule.Trail r0_6))),FV.sl (List.map enc_api_Rx (api_Rx.Kids (api_Rule.Trail r0_6))),FV.pv (Value.bool (api_Rule.Eof r0_6)),FV.pv (Value.int IntKind.i64 (api_Rule.Act r0_6)),FV.pv (Value.int IntKind.i64 (api_Rule.To r0_6))]]))]),(50,av_hecklelaw03_Maker o_6)] [(23,.agg [vL enc_api_Cond (List.take (Int.toNat (w64 ((1:Int)+r0))) [{ Name:={ data:=#[(73:UInt8),(78:UInt8),(73:UInt8),(84:UInt8),(73:UInt8),(65:UInt8),(76:UInt8)] },Exclusive:=false },{ Name:={ data:=#[(66:UInt8)] },Exclusive:=r0_1 == 1 },{ Name:={ data:=#[(67:UInt8),(95:UInt8),(49:UInt8)] },Exclusive:=false }]),vB (decide (r0_2 > (0:Int))),oL 38 enc_api_Rule (s_Rules++[r0_6])]),(50,av_hecklelaw03_Maker o_6)] (obC hc16 (obC (show (0:Nat)=(0:Nat)∧List.length (List.map enc_api_Rule s_Rules)=List.length (List.map enc_api_Rule s_Rules) from by first | decide | rfl | trivial | (simp only [nm]<;>first | decide | rfl | omega)) (obC (show (List.length (List.map enc_api_Rule s_Rules)+List.length (List.take (1:Nat) (List.drop (0:Nat) [FV.agg [FV.sl (List.take (List.length (List.map enc_i64 (api_Rule.Conds r0_6))) (List.drop (0:Nat) (List.map enc_i64 (api_Rule.Conds r0_6)))),FV.pv (Value.bool (api_Rule.All r0_6)),FV.pv (Value.bool (api_Rule.Bol r0_6)),FV.pv (Value.int IntKind.i64 (api_Rx.Kind (api_Rule.Rx r0_6))),FV.pv (Value.int IntKind.u64 (arr4_uint64.e0 (api_Rx.Set (api_Rule.Rx r0_6)))),FV.pv (Value.int IntKind.u64 (arr4_uint64.e1 (api_Rx.Set (api_Rule.Rx r0_6)))),FV.pv (Value.int IntKind.u64 (arr4_uint64.e2 (api_Rx.Set (api_Rule.Rx r0_6)))),FV.pv (Value.int IntKind.u64 (arr4_uint64.e3 (api_Rx.Set (api_Rule.Rx r0_6)))),FV.pv (Value.int IntKind.i64 (api_Rx.Lo (api_Rule.Rx r0_6))),FV.pv (Value.int IntKind.i64 (api_Rx.Hi (api_Rule.Rx r0_6))),FV.sl (List.map enc_api_Rx (api_Rx.Kids (api_Rule.Rx r0_6))),FV.pv (Value.int IntKind.i64 (api_Rx.Kind (api_Rule.Trail r0_6))),FV.pv (Value.int IntKind.u64 (arr4_uint64.e0 (api_Rx.Set (api_Rule.Trail r0_6)))),FV.pv (Value.int IntKind.u64 (arr4_uint64.e1 (api_Rx.Set (api_Rule.Trail r0_6)))),FV.pv (Value.int IntKind.u64 (arr4_uint64.e2 (api_Rx.Set (api_Rule.Trail r0_6)))),FV.pv (Value.int IntKind.u64 (arr4_uint64.e3 (api_Rx.Set (api_Rule.Trail r0_6)))),FV.pv (Value.int IntKind.i64 (api_Rx.Lo (api_Rule.Trail r0_6))),FV.pv (Value.int IntKind.i64 (api_Rx.Hi (api_Rule.Trail r0_6))),FV.sl (List.map enc_api_Rx (api_Rx.Kids (api_Rule.Trail r0_6))),FV.pv (Value.bool (api_Rule.Eof r0_6)),FV.pv (Value.int IntKind.i64 (api_Rule.Act r0_6)),FV.pv (Value.int IntKind.i64 (api_Rule.To r0_6))]]))) * (216:Nat)≤(2:Nat) ^ (47:Nat) from by simpa only [nm] using h17) (obC (show List.all (List.take (1:Nat) (List.drop (0:Nat) [FV.agg [FV.sl (List.take (List.length (List.map enc_i64 (api_Rule.Conds r0_6))) (List.drop (0:Nat) (List.map enc_i64 (api_Rule.Conds r0_6)))),FV.pv (Value.bool (api_Rule.All r0_6)),FV.pv (Value.bool (api_Rule.Bol r0_6)),FV.pv (Value.int IntKind.i64 (api_Rx.Kind (api_Rule.Rx r0_6))),FV.pv (Value.int IntKind.u64 (arr4_uint64.e0 (api_Rx.Set (api_Rule.Rx r0_6)))),FV.pv (Value.int IntKind.u64 (arr4_uint64.e1 (api_Rx.Set (api_Rule.Rx r0_6)))),FV.pv (Value.int IntKind.u64 (arr4_uint64.e2 (api_Rx.Set (api_Rule.Rx r0_6)))),FV.pv (Value.int IntKind.u64 (arr4_uint64.e3 (api_Rx.Set (api_Rule.Rx r0_6)))),FV.pv (Value.int IntKind.i64 (api_Rx.Lo (api_Rule.Rx r0_6))),FV.pv (Value.int IntKind.i64 (api_Rx.Hi (api_Rule.Rx r0_6))),FV.sl (List.map enc_api_Rx (api_Rx.Kids (api_Rule.Rx r0_6))),FV.pv (Value.int IntKind.i64 (api_Rx.Kind (api_Rule.Trail r0_6))),FV.pv (Value.int IntKind.u64 (arr4_uint64.e0 (api_Rx.Set (api_Rule.Trail r0_6)))),FV.pv (Value.int IntKind.u64 (arr4_uint64.e1 (api_Rx.Set (api_Rule.Trail r0_6)))),FV.pv (Value.int IntKind.u64 (arr4_uint64.e2 (api_Rx.Set (api_Rule.Trail r0_6)))),FV.pv (Value.int IntKind.u64 (arr4_uint64.e3 (api_Rx.Set (api_Rule.Trail r0_6)))),FV.pv (Value.int IntKind.i64 (api_Rx.Lo (api_Rule.Trail r0_6))),FV.pv (Value.int IntKind.i64 (api_Rx.Hi (api_Rule.Trail r0_6))),FV.sl (List.map enc_api_Rx (api_Rx.Kids (api_Rule.Trail r0_6))),FV.pv (Value.bool (api_Rule.Eof r0_6)),FV.pv (Value.int IntKind.i64 (api_Rule.Act r0_6)),FV.pv (Value.int IntKind.i64 (api_Rule.To r0_6))]])) (FV.fits (22:Nat))=true from by first | exact fits_i64 _ | rfl | simp [isByteF,FV.fits,FV.size,FV.cells,FV.one,enc_api_Rx_eq,enc_i64]) obN)))) ?_
   show Sem _ _ _ _ _
   refine rD kk [] [] [(25,vi (w64 (i - 1)))] obN ?_
   exact lD ((s_Rules++[r0_6]),(w64 (i - 1)),(hecklelaw03_Maker.L o_6),(hecklelaw03_Maker.At o_6)) [] h
  ·have h:=h.2 hb15
   refine xD (i:=0) ?_
   show Sem _ _ _ _ _
   refine wkD [4,16,19,25,50,112] ?_
   refine sD kk [] [22,23] [(14,.agg [vL enc_api_Cond (List.take (Int.toNat (w64 ((1:Int)+r0))) [{ Name:={ data:=#[(73:UInt8),(78:UInt8),(73:UInt8),(84:UInt8),(73:UInt8),(65:UInt8),(76:UInt8)] },Exclusive:=false },{ Name:={ data:=#[(66:UInt8)] },Exclusive:=r0_1 == 1 },{ Name:={ data:=#[(67:UInt8),(95:UInt8),(49:UInt8)] },Exclusive:=false }]),vB (decide (r0_2 > (0:Int))),oL 38 enc_api_Rule s_Rules])] (obC (show (0:Nat)=(0:Nat)∧List.length (List.map enc_api_Rule s_Rules)=List.length (List.map enc_api_Rule s_Rules) from by first | decide | rfl | trivial | (simp only [nm]<;>first | decide | rfl | omega)) obN) ?_
   refine tD ?_
   obtain he0:=h
   subst res
   exact (endD [] (.agg [vL enc_api_Cond (List.take (Int.toNat (w64 ((1:Int)+r0))) [{ Name:={ data:=#[(73:UInt8),(78:UInt8),(73:UInt8),(84:UInt8),(73:UInt8),(65:UInt8),(76:UInt8)] },Exclusive:=false },{ Name:={ data:=#[(66:UInt8)] },Exclusive:=r0_1 == 1 },{ Name:={ data:=#[(67:UInt8),(95:UInt8),(49:UInt8)] },Exclusive:=false }]),vB (decide (r0_2 > (0:Int))),oL 38 enc_api_Rule s_Rules]) []).1
 ·refine sDE kk [] [] [(34,vB (decide ((↑(List.length (List.map enc_u8 l)):Int) > (60:Int))))] [(34,vB (decide ((↑(List.length l):Int) > (60:Int))))] obN ?_
  refine cD (t:=11) (b:=decide ((↑(List.length l):Int) > (60:Int))) (fun hb18=>?_) (fun hb18=>?_)
  ·have h:=h.1 hb18
   obtain ⟨h19,h⟩:=h
   refine rDE kk [] [34] [(1,.f (FV.sl (List.take (Int.toNat (60:Int) - (0:Nat)) (List.drop (0:Nat) (List.map enc_u8 l)))))] [(1,vL enc_u8 (List.take (Int.toNat (60:Int)) l))] (obC (show True∧(0:Int)≤(60:Int)∧(0:Nat)≤Int.toNat (60:Int)∧Int.toNat (60:Int)≤List.length (List.map enc_u8 l)∧List.all (List.map enc_u8 l) (FV.fits (1:Nat))=true from by simpa only [nm] using h19) obN) ?_
   exact jD (List.take (Int.toNat (60:Int)) l) [] h
  ·have h:=h.2 hb18
   refine Sem.skip' (by kernel_rfl) Wk.refl ?_
   exact jD l [] h
set_option maxHeartbeats 1000000 in
theorem W_hecklelaw05_Text (l:(List Int)) (res:ByteArray)
 (h:(∃ (Inv14:ByteArray→Int→Prop) (mu15:ByteArray→Int→Nat),Inv14 ({ data:=#[] }) 0∧(∀ (s0:ByteArray) (i:Int),Inv14 s0 i→(((decide (i < (↑(List.length (List.map enc_u8 l)):Int)) && decide (i < (12:Int)))=true→((0:Int)≤i)∧i < ↑(List.length l)∧((0:Int)≤i)∧i < ↑(List.length l)∧((0:Int)≤Int.tmod (w64 (gd l i)) (12:Int)∧(0:Int)≤w64 (Int.tmod (w64 (gd l i)) (12:Int)+1)∧Int.toNat (Int.tmod (w64 (gd l i)) (12:Int))≤Int.toNat (w64 (Int.tmod (w64 (gd l i)) (12:Int)+1))∧Int.toNat (w64 (Int.tmod (w64 (gd l i)) (12:Int)+1))≤ByteArray.size { data:=#[(97:UInt8),(97:UInt8),(98:UInt8),(98:UInt8),(99:UInt8),(99:UInt8),(45:UInt8),(90:UInt8),(10:UInt8),(48:UInt8),(0:UInt8),(255:UInt8)] })∧((↑(ByteArray.size s0+ByteArray.size (ByteArray.extract { data:=#[(97:UInt8),(97:UInt8),(98:UInt8),(98:UInt8),(99:UInt8),(99:UInt8),(45:UInt8),(90:UInt8),(10:UInt8),(48:UInt8),(0:UInt8),(255:UInt8)] } (Int.toNat (Int.tmod (w64 (gd l i)) (12:Int))) (Int.toNat (w64 (Int.tmod (w64 (gd l i)) (12:Int)+1))))):Int)≤IntKind.max IntKind.i64)∧(Inv14 (s0++ByteArray.extract { data:=#[(97:UInt8),(97:UInt8),(98:UInt8),(98:UInt8),(99:UInt8),(99:UInt8),(45:UInt8),(90:UInt8),(10:UInt8),(48:UInt8),(0:UInt8),(255:UInt8)] } (Int.toNat (Int.tmod (w64 (gd l i)) (12:Int))) (Int.toNat (w64 (Int.tmod (w64 (gd l i)) (12:Int)+1)))) (w64 (i+1))∧mu15 (s0++ByteArray.extract { data:=#[(97:UInt8),(97:UInt8),(98:UInt8),(98:UInt8),(99:UInt8),(99:UInt8),(45:UInt8),(90:UInt8),(10:UInt8),(48:UInt8),(0:UInt8),(255:UInt8)] } (Int.toNat (Int.tmod (w64 (gd l i)) (12:Int))) (Int.toNat (w64 (Int.tmod (w64 (gd l i)) (12:Int)+1)))) (w64 (i+1)) < mu15 s0 i))∧((decide (i < (↑(List.length (List.map enc_u8 l)):Int)) && decide (i < (12:Int)))=false→(res=s0)))))):C_hecklelaw05_Text l res:=by
 unfold C_hecklelaw05_Text
 have kk:=cfOk [31] 32
 refine fD (x:=bodyOf Try.f9) kk Try.func9 ?_
 refine wkS [1] [(1,vL enc_u8 l)] (by kernel_rfl) ?_
 refine sD kk [] [] [] obN ?_
 refine sD kk [] [] [(10,vS ({ data:=#[] }))] obN ?_
 refine qD ?_
 refine sD kk [] [] [(13,vi 0)] obN ?_
 refine bD (id:=0) ?_
 obtain ⟨Inv14,mu15,h0Inv14,hInv14⟩:=h
 refine loD (fun (q:ByteArray×Int)=>(fun (s0:ByteArray) (i:Int)=>([(1,vL enc_u8 l),(10,vS s0),(13,vi i)]:Sta)) q.1 q.2) (fun (q:ByteArray×Int)=>Inv14 q.1 q.2) (fun (q:ByteArray×Int)=>mu15 q.1 q.2) (({ data:=#[] }),0) [] h0Inv14 ?_
 rintro ⟨s0,i⟩ hi
 have h:=hInv14 s0 i hi
 refine qD ?_
 refine sM [] [(37,vB (decide (i < (↑(List.length (List.map enc_u8 l)):Int)) && decide (i < (12:Int))))] ?_ (fun hk0=>?_)
 ·refine cD (t:=12) (b:=decide (i < (↑(List.length (List.map enc_u8 l)):Int)) && decide (i < (12:Int))) (fun hb17=>?_) (fun hb17=>?_)
  ·have h:=h.1 hb17
   refine Sem.skip' (by kernel_rfl) Wk.refl ?_
   show Sem _ _ _ _ _
   refine wkD [37] ?_
   refine qD ?_
   refine bD (id:=1) ?_
   obtain ⟨h18,h⟩:=h
   obtain ⟨h19,h⟩:=h
   obtain ⟨h20,h⟩:=h
   obtain ⟨h21,h⟩:=h
   obtain ⟨h22,h⟩:=h
   obtain ⟨h23,h⟩:=h
   refine rD kk [.e (.pv (.int .u8 (gd l i))),.e (.pv (.int .u8 (gd l i)))] [] [(10,vS (s0++ByteArray.extract { data:=#[(97:UInt8),(97:UInt8),(98:UInt8),(98:UInt8),(99:UInt8),(99:UInt8),(45:UInt8),(90:UInt8),(10:UInt8),(48:UInt8),(0:UInt8),(255:UInt8)] } (Int.toNat (Int.tmod (w64 (gd l i)) (12:Int))) (Int.toNat (w64 (Int.tmod (w64 (gd l i)) (12:Int)+1)))))] (obC h18 (obC (idx_ok enc_u8 l i _ rfl h18 h19) (obC (show (12:Int)≠(0:Int) from by first | decide | rfl | trivial | (simp only [nm]<;>first | decide | rfl | omega)) (obC h20 (obC (idx_ok enc_u8 l i _ rfl h20 h21) (obC (show (12:Int)≠(0:Int) from by first | decide | rfl | trivial | (simp only [nm]<;>first | decide | rfl | omega)) (obC h22 (obC h23 obN)))))))) ?_
   show Sem _ _ _ _ _
   refine rD kk [] [] [(13,vi (w64 (i+1)))] obN ?_
   exact lD ((s0++ByteArray.extract { data:=#[(97:UInt8),(97:UInt8),(98:UInt8),(98:UInt8),(99:UInt8),(99:UInt8),(45:UInt8),(90:UInt8),(10:UInt8),(48:UInt8),(0:UInt8),(255:UInt8)] } (Int.toNat (Int.tmod (w64 (gd l i)) (12:Int))) (Int.toNat (w64 (Int.tmod (w64 (gd l i)) (12:Int)+1)))),(w64 (i+1))) [] h
  ·have h:=h.2 hb17
   refine xD (i:=0) ?_
   show Sem _ _ _ _ _
   refine wkD [1,13,37] ?_
   refine sD kk [] [10] [(7,vS s0)] obN ?_
   refine tD ?_
   obtain he0:=h
   subst res
   exact (endD [] (vS s0) []).1
 ·rcases Bool.eq_false_or_eq_true (decide (i < (↑(List.length (List.map enc_u8 l)):Int))) with hb16 | hb16
  ·refine sD kk [.b true,.b true,.b true] [] [(37,vB (decide (i < (12:Int))))] (obC (gtt hb16) (obC (gtt hb16) (obC hb16 obN))) ?_
   exact Sem.cast (by try rw [hb16];kernel_rfl) hk0
  ·refine sD kk [.b false,.b false,.b false] [] [(37,vB false)] (obC (gtf hb16) (obC (gtf hb16) (obC hb16 obN))) ?_
   exact Sem.cast (by try rw [hb16];kernel_rfl) hk0
set_option maxHeartbeats 1000000 in
theorem W_rx_pattern_times (x:rx_pattern) (res:Bool)
 (h:(((decide (rx_pattern.Lo x < (0:Int)) || decide (rx_pattern.Lo x > (20:Int)))=true→(res=false))∧((decide (rx_pattern.Lo x < (0:Int)) || decide (rx_pattern.Lo x > (20:Int)))=false→(res=(rx_pattern.Hi x == (-1:Int) || decide (rx_pattern.Hi x≥if rx_pattern.Lo x > (1:Int) then rx_pattern.Lo x else (1:Int)) && decide (rx_pattern.Hi x≤(20:Int))))))):C_rx_pattern_times x res:=by
 unfold C_rx_pattern_times
 have kk:=cfOk [] 27
 refine fD (x:=bodyOf Try.f110) kk Try.func110 ?_
 refine wkS [1] [(1,av_rx_pattern x)] (by kernel_rfl) ?_
 refine sD kk [] [1] [(4,.ptr 5 0),(5,av_rx_pattern x)] obN ?_
 refine qD ?_
 refine sM [] [(31,vB (decide (rx_pattern.Lo x < (0:Int)) || decide (rx_pattern.Lo x > (20:Int))))] ?_ (fun hk0=>?_)
 ·refine cD (t:=10) (b:=decide (rx_pattern.Lo x < (0:Int)) || decide (rx_pattern.Lo x > (20:Int))) (fun hb1=>?_) (fun hb1=>?_)
  ·have h:=h.1 hb1
   refine sD kk [] [4,5,31] [(7,vB false)] obN ?_
   refine tD ?_
   obtain he0:=h
   subst res
   exact (endD [] (vB false) []).1
  ·have h:=h.2 hb1
   refine Sem.skip' (by kernel_rfl) Wk.refl ?_
   show Sem _ _ _ _ _
   refine wkD [31] ?_
   refine sM [4,5] [(7,vB (rx_pattern.Hi x == (-1:Int) || decide (rx_pattern.Hi x≥if true=true then if rx_pattern.Lo x > (1:Int) then rx_pattern.Lo x else (1:Int) else if rx_pattern.Lo x < (1:Int) then rx_pattern.Lo x else (1:Int)) && decide (rx_pattern.Hi x≤(20:Int))))] ?_ (fun hk0=>?_)
   ·refine tD ?_
    obtain he0:=h
    subst res
    exact (endD [] (vB (rx_pattern.Hi x == (-1:Int) || decide (rx_pattern.Hi x≥if true=true then if rx_pattern.Lo x > (1:Int) then rx_pattern.Lo x else (1:Int) else if rx_pattern.Lo x < (1:Int) then rx_pattern.Lo x else (1:Int)) && decide (rx_pattern.Hi x≤(20:Int)))) []).1
   ·rcases Bool.eq_false_or_eq_true (rx_pattern.Hi x == (-1:Int)) with hb2 | hb2
    ·refine sD kk [.b false,.b false,.b false,.b false,.b false,.b false,.b false,.b false,.b true] [4,5] [(7,vB true)] (obC (gff hb2) (obC (gff hb2) (obC (gff hb2) (obC (gff hb2) (obC (gff hb2) (obC (gff hb2) (obC (gff hb2) (obC (gff hb2) (obC hb2 obN))))))))) ?_
     exact Sem.cast (by try rw [hb2];kernel_rfl) hk0
    ·rcases Bool.eq_false_or_eq_true (decide (rx_pattern.Hi x≥if true=true then if rx_pattern.Lo x > (1:Int) then rx_pattern.Lo x else (1:Int) else if rx_pattern.Lo x < (1:Int) then rx_pattern.Lo x else (1:Int))) with hb3 | hb3
     ·refine sD kk [.b true,.b true,.b true,.b true,.b true,.b true,.b true,.b true,.b true,.b true,.b true,.b true,.b false] [4,5] [(7,vB (decide (rx_pattern.Hi x≤(20:Int))))] (obC (gft hb2) (obC (gft hb2) (obC (gft hb2) (obC (gft hb2) (obC (gft hb2) (obC (gft hb2) (obC (gft hb2) (obC (gtt hb3) (obC (gtt hb3) (obC (gtt hb3) (obC (gft hb2) (obC hb3 (obC hb2 obN))))))))))))) ?_
      exact Sem.cast (by try rw [hb2];try rw [hb3];kernel_rfl) hk0
     ·refine sD kk [.b true,.b true,.b true,.b true,.b true,.b true,.b true,.b false,.b false,.b false,.b true,.b false,.b false] [4,5] [(7,vB false)] (obC (gft hb2) (obC (gft hb2) (obC (gft hb2) (obC (gft hb2) (obC (gft hb2) (obC (gft hb2) (obC (gft hb2) (obC (gtf hb3) (obC (gtf hb3) (obC (gtf hb3) (obC (gft hb2) (obC hb3 (obC hb2 obN))))))))))))) ?_
      exact Sem.cast (by try rw [hb2];try rw [hb3];kernel_rfl) hk0
 ·rcases Bool.eq_false_or_eq_true (decide (rx_pattern.Lo x < (0:Int))) with hb0 | hb0
  ·refine sD kk [.b false,.b false,.b false,.b true] [] [(31,vB true)] (obC (gff hb0) (obC (gff hb0) (obC (gff hb0) (obC hb0 obN)))) ?_
   exact Sem.cast (by try rw [hb0];kernel_rfl) hk0
  ·refine sD kk [.b true,.b true,.b true,.b false] [] [(31,vB (decide (rx_pattern.Lo x > (20:Int))))] (obC (gft hb0) (obC (gft hb0) (obC (gft hb0) (obC hb0 obN)))) ?_
   exact Sem.cast (by try rw [hb0];kernel_rfl) hk0
set_option maxHeartbeats 1000000 in
theorem W_rx_pattern_own (x:rx_pattern) (res:Bool)
 (h:(∃ J12:Int→Prop,(∀ (many:Int),J12 many→(res=((!(arr4_uint64.e0 (rx_pattern.Set x) == 0 && (arr4_uint64.e1 (rx_pattern.Set x) == 0 && (arr4_uint64.e2 (rx_pattern.Set x) == 0 && (arr4_uint64.e3 (rx_pattern.Set x) == 0 && true))))) == (rx_pattern.Kind x == (2:Int)) && (rx_pattern.Lo x == 0 && (rx_pattern.Hi x == 0 && (decide (many≥(2:Int)) && (!decide (rx_pattern.Kind x < (3:Int)) || many == (2:Int))))))))∧(((rx_pattern.Kind x == (5:Int))=true→(((!!(arr4_uint64.e0 (rx_pattern.Set x) == 0 && (arr4_uint64.e1 (rx_pattern.Set x) == 0 && (arr4_uint64.e2 (rx_pattern.Set x) == 0 && (arr4_uint64.e3 (rx_pattern.Set x) == 0 && true)))))=true→((((↑(List.length (rx_pattern.Kids x)):Int) == 1)=true→(∃ r0_1:Bool,C_rx_pattern_times x r0_1∧(res=r0_1)))∧(((↑(List.length (rx_pattern.Kids x)):Int) == 1)=false→(res=false))))∧((!!(arr4_uint64.e0 (rx_pattern.Set x) == 0 && (arr4_uint64.e1 (rx_pattern.Set x) == 0 && (arr4_uint64.e2 (rx_pattern.Set x) == 0 && (arr4_uint64.e3 (rx_pattern.Set x) == 0 && true)))))=false→(res=false))))∧((rx_pattern.Kind x == (5:Int))=false→(∃ J23:Bool→Prop,(∀ (t17_1:Bool),J23 t17_1→(((t17_1)=true→J12 (w64 ((↑(List.length (rx_pattern.Kids x)):Int)+2)))∧((t17_1)=false→(∃ J26:Bool→Prop,(∀ (t20_1:Bool),J26 t20_1→(((t20_1)=true→J12 ((↑(List.length (rx_pattern.Kids x)):Int)))∧((t20_1)=false→(res=false))))∧(((rx_pattern.Kind x == (3:Int))=true→J26 (rx_pattern.Kind x == (3:Int)))∧((rx_pattern.Kind x == (3:Int))=false→J26 (rx_pattern.Kind x == (4:Int))))))))∧(((rx_pattern.Kind x == 1)=true→J23 (rx_pattern.Kind x == 1))∧((rx_pattern.Kind x == 1)=false→J23 (rx_pattern.Kind x == (2:Int))))))))):C_rx_pattern_own x res:=by
 unfold C_rx_pattern_own
 have kk:=cfOk [] 65
 refine fD (x:=bodyOf Try.f89) kk Try.func89 ?_
 refine wkS [1] [(1,av_rx_pattern x)] (by kernel_rfl) ?_
 refine sD kk [] [1] [(4,.ptr 5 0),(5,av_rx_pattern x)] obN ?_
 refine sDE kk [] [] [(10,vB (!(arr4_uint64.e0 (rx_pattern.Set x) == 0 && (arr4_uint64.e1 (rx_pattern.Set x) == 0 && (arr4_uint64.e2 (rx_pattern.Set x) == 0 && (arr4_uint64.e3 (rx_pattern.Set x) == 0 && true)))))),(13,vi ((↑(List.length (List.map enc_api_Rx (rx_pattern.Kids x))):Int)))] [(10,vB (!(arr4_uint64.e0 (rx_pattern.Set x) == 0 && (arr4_uint64.e1 (rx_pattern.Set x) == 0 && (arr4_uint64.e2 (rx_pattern.Set x) == 0 && (arr4_uint64.e3 (rx_pattern.Set x) == 0 && true)))))),(13,vi ((↑(List.length (rx_pattern.Kids x)):Int)))] obN ?_
 refine qD ?_
 refine sD kk [] [] [(43,vi (rx_pattern.Kind x))] obN ?_
 refine bD (id:=0) ?_
 obtain ⟨J12,hJ12,h⟩:=h
 refine sjD (fun (q:Int)=>J12 q) (fun (q:Int)=>(fun (many:Int)=>([(4,.ptr 5 0),(5,av_rx_pattern x),(10,vB (!(arr4_uint64.e0 (rx_pattern.Set x) == 0 && (arr4_uint64.e1 (rx_pattern.Set x) == 0 && (arr4_uint64.e2 (rx_pattern.Set x) == 0 && (arr4_uint64.e3 (rx_pattern.Set x) == 0 && true)))))),(13,vi many)]:Sta)) q) ?_ ?_
 ·rintro many hj
  have h:=hJ12 many hj
  refine qD ?_
  refine sD kk [] [] [(16,vB (decide (rx_pattern.Kind x < (3:Int))))] obN ?_
  refine sM [4,5,10,13,16] [(7,vB ((!(arr4_uint64.e0 (rx_pattern.Set x) == 0 && (arr4_uint64.e1 (rx_pattern.Set x) == 0 && (arr4_uint64.e2 (rx_pattern.Set x) == 0 && (arr4_uint64.e3 (rx_pattern.Set x) == 0 && true))))) == (rx_pattern.Kind x == (2:Int)) && (rx_pattern.Lo x == 0 && (rx_pattern.Hi x == 0 && (decide (many≥(2:Int)) && (!decide (rx_pattern.Kind x < (3:Int)) || many == (2:Int)))))))] ?_ (fun hk0=>?_)
  ·refine tD ?_
   obtain he0:=h
   subst res
   exact (endD [] (vB ((!(arr4_uint64.e0 (rx_pattern.Set x) == 0 && (arr4_uint64.e1 (rx_pattern.Set x) == 0 && (arr4_uint64.e2 (rx_pattern.Set x) == 0 && (arr4_uint64.e3 (rx_pattern.Set x) == 0 && true))))) == (rx_pattern.Kind x == (2:Int)) && (rx_pattern.Lo x == 0 && (rx_pattern.Hi x == 0 && (decide (many≥(2:Int)) && (!decide (rx_pattern.Kind x < (3:Int)) || many == (2:Int))))))) []).1
  ·rcases Bool.eq_false_or_eq_true ((!(arr4_uint64.e0 (rx_pattern.Set x) == 0 && (arr4_uint64.e1 (rx_pattern.Set x) == 0 && (arr4_uint64.e2 (rx_pattern.Set x) == 0 && (arr4_uint64.e3 (rx_pattern.Set x) == 0 && true))))) == (rx_pattern.Kind x == (2:Int))) with hb13 | hb13
   ·rcases Bool.eq_false_or_eq_true (rx_pattern.Lo x == 0) with hb14 | hb14
    ·rcases Bool.eq_false_or_eq_true (rx_pattern.Hi x == 0) with hb15 | hb15
     ·rcases Bool.eq_false_or_eq_true (decide (many≥(2:Int))) with hb16 | hb16
      ·rcases Bool.eq_false_or_eq_true (!decide (rx_pattern.Kind x < (3:Int))) with hb17 | hb17
       ·refine sD kk [.b true,.b true,.b true,.b true,.b true,.b true,.b true,.b true,.b true,.b true,.b true,.b true,.b true,.b true,.b false,.b false,.b true,.b true,.b true] [4,5,10,13,16] [(7,vB true)] (obC (gtt hb13) (obC (gtt hb13) (obC (gtt hb13) (obC hb13 (obC (gtt hb14) (obC (gtt hb14) (obC (gtt hb14) (obC hb14 (obC (gtt hb15) (obC (gtt hb15) (obC hb15 (obC (gtt hb16) (obC (gtt hb16) (obC (gtt hb16) (obC (gff hb17) (obC (gff hb17) (obC (gtt hb16) (obC hb17 (obC hb16 obN))))))))))))))))))) ?_
        exact Sem.cast (by try rw [hb13];try rw [hb14];try rw [hb15];try rw [hb16];try rw [hb17];kernel_rfl) hk0
       ·refine sD kk [.b true,.b true,.b true,.b true,.b true,.b true,.b true,.b true,.b true,.b true,.b true,.b true,.b true,.b true,.b true,.b true,.b true,.b false,.b true] [4,5,10,13,16] [(7,vB (many == (2:Int)))] (obC (gtt hb13) (obC (gtt hb13) (obC (gtt hb13) (obC hb13 (obC (gtt hb14) (obC (gtt hb14) (obC (gtt hb14) (obC hb14 (obC (gtt hb15) (obC (gtt hb15) (obC hb15 (obC (gtt hb16) (obC (gtt hb16) (obC (gtt hb16) (obC (gft hb17) (obC (gft hb17) (obC (gtt hb16) (obC hb17 (obC hb16 obN))))))))))))))))))) ?_
        exact Sem.cast (by try rw [hb13];try rw [hb14];try rw [hb15];try rw [hb16];try rw [hb17];kernel_rfl) hk0
      ·refine sD kk [.b true,.b true,.b true,.b true,.b true,.b true,.b true,.b true,.b true,.b true,.b true,.b false,.b false,.b false,.b false,.b false] [4,5,10,13,16] [(7,vB false)] (obC (gtt hb13) (obC (gtt hb13) (obC (gtt hb13) (obC hb13 (obC (gtt hb14) (obC (gtt hb14) (obC (gtt hb14) (obC hb14 (obC (gtt hb15) (obC (gtt hb15) (obC hb15 (obC (gtf hb16) (obC (gtf hb16) (obC (gtf hb16) (obC (gtf hb16) (obC hb16 obN)))))))))))))))) ?_
       exact Sem.cast (by try rw [hb13];try rw [hb14];try rw [hb15];try rw [hb16];kernel_rfl) hk0
     ·refine sD kk [.b true,.b true,.b true,.b true,.b true,.b true,.b true,.b true,.b false,.b false,.b false,.b false,.b false,.b false,.b false,.b false] [4,5,10,13,16] [(7,vB false)] (obC (gtt hb13) (obC (gtt hb13) (obC (gtt hb13) (obC hb13 (obC (gtt hb14) (obC (gtt hb14) (obC (gtt hb14) (obC hb14 (obC (gtf hb15) (obC (gtf hb15) (obC hb15 (obC (rfl:false=false) (obC (rfl:false=false) (obC (rfl:false=false) (obC (rfl:false=false) (obC (rfl:false=false) obN)))))))))))))))) ?_
      exact Sem.cast (by try rw [hb13];try rw [hb14];try rw [hb15];kernel_rfl) hk0
    ·refine sD kk [.b true,.b true,.b true,.b true,.b false,.b false,.b false,.b false,.b false,.b false,.b false,.b false,.b false,.b false,.b false,.b false] [4,5,10,13,16] [(7,vB false)] (obC (gtt hb13) (obC (gtt hb13) (obC (gtt hb13) (obC hb13 (obC (gtf hb14) (obC (gtf hb14) (obC (gtf hb14) (obC hb14 (obC (rfl:false=false) (obC (rfl:false=false) (obC (rfl:false=false) (obC (rfl:false=false) (obC (rfl:false=false) (obC (rfl:false=false) (obC (rfl:false=false) (obC (rfl:false=false) obN)))))))))))))))) ?_
     exact Sem.cast (by try rw [hb13];try rw [hb14];kernel_rfl) hk0
   ·refine sD kk [.b false,.b false,.b false,.b false,.b false,.b false,.b false,.b false,.b false,.b false,.b false,.b false,.b false,.b false,.b false,.b false] [4,5,10,13,16] [(7,vB false)] (obC (gtf hb13) (obC (gtf hb13) (obC (gtf hb13) (obC hb13 (obC (rfl:false=false) (obC (rfl:false=false) (obC (rfl:false=false) (obC (rfl:false=false) (obC (rfl:false=false) (obC (rfl:false=false) (obC (rfl:false=false) (obC (rfl:false=false) (obC (rfl:false=false) (obC (rfl:false=false) (obC (rfl:false=false) (obC (rfl:false=false) obN)))))))))))))))) ?_
    exact Sem.cast (by try rw [hb13];kernel_rfl) hk0
 ·refine bD (id:=3) ?_
  refine qD ?_
  refine bD (id:=2) ?_
  refine qD ?_
  refine bD (id:=1) ?_
  refine qD ?_
  refine qD ?_
  refine sD kk [] [] [(46,vB (rx_pattern.Kind x == (5:Int)))] obN ?_
  refine cD (t:=15) (b:=rx_pattern.Kind x == (5:Int)) (fun hb18=>?_) (fun hb18=>?_)
  ·have h:=h.1 hb18
   refine xD (i:=1) ?_
   show Sem _ _ _ _ _
   refine wkD [43,46] ?_
   refine qD ?_
   rcases Bool.eq_false_or_eq_true (!!(arr4_uint64.e0 (rx_pattern.Set x) == 0 && (arr4_uint64.e1 (rx_pattern.Set x) == 0 && (arr4_uint64.e2 (rx_pattern.Set x) == 0 && (arr4_uint64.e3 (rx_pattern.Set x) == 0 && true))))) with hb19 | hb19
   ·have h:=h.1 hb19
    rcases Bool.eq_false_or_eq_true ((↑(List.length (rx_pattern.Kids x)):Int) == 1) with hb20 | hb20
    ·have h:=h.1 hb20
     obtain ⟨r0_1,hc21,h⟩:=h
     refine sD kk [.b true,.b true,.b true,.b true,.b true,.c (vB r0_1) [],.b true] [4,5,10,13] [(7,vB r0_1)] (obC (gtt hb19) (obC (gtt hb19) (obC hb19 (obC (gtt hb20) (obC (gtt hb20) (obC hc21 (obC hb20 obN))))))) ?_
     refine tD ?_
     obtain he0:=h
     subst res
     exact (endD [] (vB r0_1) []).1
    ·have h:=h.2 hb20
     refine sD kk [.b true,.b true,.b true,.b false,.b false,.b false] [4,5,10,13] [(7,vB false)] (obC (gtt hb19) (obC (gtt hb19) (obC hb19 (obC (gtf hb20) (obC (gtf hb20) (obC hb20 obN)))))) ?_
     refine tD ?_
     obtain he0:=h
     subst res
     exact (endD [] (vB false) []).1
   ·have h:=h.2 hb19
    refine sD kk [.b false,.b false,.b false,.b false,.b false,.b false] [4,5,10,13] [(7,vB false)] (obC (gtf hb19) (obC (gtf hb19) (obC hb19 (obC (rfl:false=false) (obC (rfl:false=false) (obC (rfl:false=false) obN)))))) ?_
    refine tD ?_
    obtain he0:=h
    subst res
    exact (endD [] (vB false) []).1
  ·have h:=h.2 hb18
   refine Sem.skip' (by kernel_rfl) Wk.refl ?_
   show Sem _ _ _ _ _
   refine wkD [46] ?_
   refine qD ?_
   obtain ⟨J23,hJ23,h⟩:=h
   refine sjD (fun (q:Bool)=>J23 q) (fun (q:Bool)=>(fun (t17_1:Bool)=>([(4,.ptr 5 0),(5,av_rx_pattern x),(10,vB (!(arr4_uint64.e0 (rx_pattern.Set x) == 0 && (arr4_uint64.e1 (rx_pattern.Set x) == 0 && (arr4_uint64.e2 (rx_pattern.Set x) == 0 && (arr4_uint64.e3 (rx_pattern.Set x) == 0 && true)))))),(13,vi ((↑(List.length (rx_pattern.Kids x)):Int))),(43,vi (rx_pattern.Kind x)),(52,vB t17_1)]:Sta)) q) ?_ ?_
   ·rintro t17_1 hj
    have h:=hJ23 t17_1 hj
    refine cD (t:=17) (b:=t17_1) (fun hb24=>?_) (fun hb24=>?_)
    ·have h:=h.1 hb24
     refine xD (i:=2) ?_
     show Sem _ _ _ _ _
     refine wkD [43,52] ?_
     refine rD kk [] [] [(13,vi (w64 ((↑(List.length (rx_pattern.Kids x)):Int)+2)))] obN ?_
     exact jD (w64 ((↑(List.length (rx_pattern.Kids x)):Int)+2)) [] h
    ·have h:=h.2 hb24
     refine Sem.skip' (by kernel_rfl) Wk.refl ?_
     show Sem _ _ _ _ _
     refine wkD [52] ?_
     obtain ⟨J26,hJ26,h⟩:=h
     refine sjD (fun (q:Bool)=>J26 q) (fun (q:Bool)=>(fun (t20_1:Bool)=>([(4,.ptr 5 0),(5,av_rx_pattern x),(10,vB (!(arr4_uint64.e0 (rx_pattern.Set x) == 0 && (arr4_uint64.e1 (rx_pattern.Set x) == 0 && (arr4_uint64.e2 (rx_pattern.Set x) == 0 && (arr4_uint64.e3 (rx_pattern.Set x) == 0 && true)))))),(13,vi ((↑(List.length (rx_pattern.Kids x)):Int))),(61,vB t20_1)]:Sta)) q) ?_ ?_
     ·rintro t20_1 hj
      have h:=hJ26 t20_1 hj
      refine cD (t:=20) (b:=t20_1) (fun hb27=>?_) (fun hb27=>?_)
      ·have h:=h.1 hb27
       refine xD (i:=3) ?_
       exact jD ((↑(List.length (rx_pattern.Kids x)):Int)) [] h
      ·have h:=h.2 hb27
       refine Sem.skip' (by kernel_rfl) Wk.refl ?_
       show Sem _ _ _ _ _
       refine wkD [4,5,10,13,61] ?_
       refine xD (i:=0) ?_
       show Sem _ _ _ _ _
       refine sD kk [] [] [(7,vB false)] obN ?_
       refine tD ?_
       obtain he0:=h
       subst res
       exact (endD [] (vB false) []).1
     ·refine sD kk [] [] [(61,vB (rx_pattern.Kind x == (3:Int)))] obN ?_
      refine cD (t:=20) (b:=rx_pattern.Kind x == (3:Int)) (fun hb28=>?_) (fun hb28=>?_)
      ·have h:=h.1 hb28
       refine Sem.skip' (by kernel_rfl) Wk.refl ?_
       exact jD (rx_pattern.Kind x == (3:Int)) [] h
      ·have h:=h.2 hb28
       refine rD kk [] [43] [(61,vB (rx_pattern.Kind x == (4:Int)))] obN ?_
       exact jD (rx_pattern.Kind x == (4:Int)) [] h
   ·refine sD kk [] [] [(52,vB (rx_pattern.Kind x == 1))] obN ?_
    refine cD (t:=17) (b:=rx_pattern.Kind x == 1) (fun hb29=>?_) (fun hb29=>?_)
    ·have h:=h.1 hb29
     refine Sem.skip' (by kernel_rfl) Wk.refl ?_
     exact jD (rx_pattern.Kind x == 1) [] h
    ·have h:=h.2 hb29
     refine rD kk [] [] [(52,vB (rx_pattern.Kind x == (2:Int)))] obN ?_
     exact jD (rx_pattern.Kind x == (2:Int)) [] h
set_option maxHeartbeats 1000000 in
theorem W_rx_pattern_right_L1 (k:api_Rx) (v:rx_pattern) (v_1:Int) (res:Bool) (fin:rx_pattern) (fin_1:Int)
 (h:(((api_Rx.Kind k == rx_pattern.Kind v)=true→(((rx_pattern.Kind v != (5:Int))=true→(res=true∧fin=v∧fin_1=v_1))∧((rx_pattern.Kind v != (5:Int))=false→(∃ r0:Bool,C_rx_pattern_right ({ Kind:=api_Rx.Kind k,Set:=api_Rx.Set k,Lo:=api_Rx.Lo k,Hi:=api_Rx.Hi k,Kids:=api_Rx.Kids k }) (w64 (v_1 - 1)) r0∧(res=(!r0)∧fin=v∧fin_1=v_1)))))∧((api_Rx.Kind k == rx_pattern.Kind v)=false→(∃ r0_1:Bool,C_rx_pattern_right ({ Kind:=api_Rx.Kind k,Set:=api_Rx.Set k,Lo:=api_Rx.Lo k,Hi:=api_Rx.Hi k,Kids:=api_Rx.Kids k }) (w64 (v_1 - 1)) r0_1∧(res=(!r0_1)∧fin=v∧fin_1=v_1))))):C_rx_pattern_right_L1 k v v_1 res fin fin_1:=by
 unfold C_rx_pattern_right_L1
 have kk:=cfOk [] 22
 refine fD (x:=bodyOf Try.f88) kk Try.func88 ?_
 refine wkS [1,3,4,6,7] [(1,av_api_Rx k),(3,av_rx_pattern v),(4,.ptr 3 0),(6,vi v_1),(7,.ptr 6 0)] (by kernel_rfl) ?_
 refine sD kk [] [1] [(10,.ptr 11 0),(11,av_api_Rx k)] obN ?_
 rcases Bool.eq_false_or_eq_true (api_Rx.Kind k == rx_pattern.Kind v) with hb0 | hb0
 ·have h:=h.1 hb0
  rcases Bool.eq_false_or_eq_true (rx_pattern.Kind v != (5:Int)) with hb1 | hb1
  ·have h:=h.1 hb1
   refine sD kk [.b true,.b true,.b true,.b true,.b false,.b false,.b false,.b false,.b false,.b true] [4,7,10,11] [(13,vB true)] (obC (gtt hb0) (obC (gtt hb0) (obC (gtt hb0) (obC hb0 (obC (gff hb1) (obC (gff hb1) (obC (gff hb1) (obC (gff hb1) (obC (gff hb1) (obC hb1 obN)))))))))) ?_
   refine tD ?_
   obtain ⟨he0,he1,he2⟩:=h
   subst res fin fin_1
   exact (endD [] (vB true) [av_rx_pattern v,vi v_1]).1
  ·have h:=h.2 hb1
   obtain ⟨r0,hc2,h⟩:=h
   refine sD kk [.b true,.b true,.b true,.b true,.b true,.b true,.b true,.b true,.c (vB r0) [],.b true,.b false] [4,7,10,11] [(13,vB (!r0))] (obC (gtt hb0) (obC (gtt hb0) (obC (gtt hb0) (obC hb0 (obC (gft hb1) (obC (gft hb1) (obC (gft hb1) (obC (gft hb1) (obC hc2 (obC (gft hb1) (obC hb1 obN))))))))))) ?_
   refine tD ?_
   obtain ⟨he0,he1,he2⟩:=h
   subst res fin fin_1
   exact (endD [] (vB (!r0)) [av_rx_pattern v,vi v_1]).1
 ·have h:=h.2 hb0
  obtain ⟨r0_1,hc3,h⟩:=h
  refine sD kk [.b false,.b false,.b false,.b false,.b true,.b true,.b true,.b true,.c (vB r0_1) [],.b true,.b false] [4,7,10,11] [(13,vB (!r0_1))] (obC (gtf hb0) (obC (gtf hb0) (obC (gtf hb0) (obC hb0 (obC (rfl:true=true) (obC (rfl:true=true) (obC (rfl:true=true) (obC (rfl:true=true) (obC hc3 (obC (rfl:true=true) (obC (rfl:false=false) obN))))))))))) ?_
  refine tD ?_
  obtain ⟨he0,he1,he2⟩:=h
  subst res fin fin_1
  exact (endD [] (vB (!r0_1)) [av_rx_pattern v,vi v_1]).1
set_option maxHeartbeats 1000000 in
theorem W_slices_IndexFunc__api_Rx_api_Rx_at_rx_pattern_right_L1 (s0:(List api_Rx)) (cap:rx_pattern) (cap_1:Int) (res:Int) (fin:rx_pattern) (fin_1:Int)
 (h:(∃ (Inv9:Int→Int→Int→Int→Int→Int→Int→List api_Rx→Int→Int→Prop) (mu10:Int→Int→Int→Int→Int→Int→Int→List api_Rx→Int→Int→Nat),Inv9 (rx_pattern.Kind cap) (arr4_uint64.e0 (rx_pattern.Set cap)) (arr4_uint64.e1 (rx_pattern.Set cap)) (arr4_uint64.e2 (rx_pattern.Set cap)) (arr4_uint64.e3 (rx_pattern.Set cap)) (rx_pattern.Lo cap) (rx_pattern.Hi cap) (rx_pattern.Kids cap) cap_1 0∧(∀ (o0_Kind:Int) (o0_Set_e0:Int) (o0_Set_e1:Int) (o0_Set_e2:Int) (o0_Set_e3:Int) (o0_Lo:Int) (o0_Hi:Int) (o0_Kids:List api_Rx) (o1:Int) (t8:Int),Inv9 o0_Kind o0_Set_e0 o0_Set_e1 o0_Set_e2 o0_Set_e3 o0_Lo o0_Hi o0_Kids o1 t8→(((decide (t8 < (↑(List.length s0):Int)))=true→((0:Int)≤t8)∧t8 < ↑(List.length s0)∧(∃ r0_2:Bool,∃ o_4:rx_pattern,∃ o_5:Int,C_rx_pattern_right_L1 (gd s0 t8) ({ Kind:=o0_Kind,Set:={ e0:=o0_Set_e0,e1:=o0_Set_e1,e2:=o0_Set_e2,e3:=o0_Set_e3 },Lo:=o0_Lo,Hi:=o0_Hi,Kids:=o0_Kids }) o1 r0_2 o_4 o_5∧(((r0_2)=true→(res=t8∧fin=o_4∧fin_1=o_5))∧((r0_2)=false→(Inv9 (rx_pattern.Kind o_4) (arr4_uint64.e0 (rx_pattern.Set o_4)) (arr4_uint64.e1 (rx_pattern.Set o_4)) (arr4_uint64.e2 (rx_pattern.Set o_4)) (arr4_uint64.e3 (rx_pattern.Set o_4)) (rx_pattern.Lo o_4) (rx_pattern.Hi o_4) (rx_pattern.Kids o_4) o_5 (w64 (t8+1))∧mu10 (rx_pattern.Kind o_4) (arr4_uint64.e0 (rx_pattern.Set o_4)) (arr4_uint64.e1 (rx_pattern.Set o_4)) (arr4_uint64.e2 (rx_pattern.Set o_4)) (arr4_uint64.e3 (rx_pattern.Set o_4)) (rx_pattern.Lo o_4) (rx_pattern.Hi o_4) (rx_pattern.Kids o_4) o_5 (w64 (t8+1)) < mu10 o0_Kind o0_Set_e0 o0_Set_e1 o0_Set_e2 o0_Set_e3 o0_Lo o0_Hi o0_Kids o1 t8)))))∧((decide (t8 < (↑(List.length s0):Int)))=false→(res=(-1)∧fin=({ Kind:=o0_Kind,Set:={ e0:=o0_Set_e0,e1:=o0_Set_e1,e2:=o0_Set_e2,e3:=o0_Set_e3 },Lo:=o0_Lo,Hi:=o0_Hi,Kids:=o0_Kids })∧fin_1=o1)))))):C_slices_IndexFunc__api_Rx_api_Rx_at_rx_pattern_right_L1 s0 cap cap_1 res fin fin_1:=by
 unfold C_slices_IndexFunc__api_Rx_api_Rx_at_rx_pattern_right_L1
 have kk:=cfOk [17] 19
 refine fD (x:=bodyOf Try.f111) kk Try.func111 ?_
 refine wkS [1,3,4,6] [(1,vL enc_api_Rx s0),(3,av_rx_pattern cap),(4,.clo 88 [.ptr 3 0,.ptr 6 0]),(6,vi cap_1)] (by kernel_rfl) ?_
 refine sD kk [] [] [] obN ?_
 refine qD ?_
 refine sDE kk [] [] [(22,vi ((↑(List.length (List.map enc_api_Rx s0)):Int))),(25,vi 0)] [(22,vi ((↑(List.length s0):Int))),(25,vi 0)] obN ?_
 refine bD (id:=0) ?_
 obtain ⟨Inv9,mu10,h0Inv9,hInv9⟩:=h
 refine loD (fun (q:Int×Int×Int×Int×Int×Int×Int×List api_Rx×Int×Int)=>(fun (o0_Kind:Int) (o0_Set_e0:Int) (o0_Set_e1:Int) (o0_Set_e2:Int) (o0_Set_e3:Int) (o0_Lo:Int) (o0_Hi:Int) (o0_Kids:List api_Rx) (o1:Int) (t8:Int)=>([(1,vL enc_api_Rx s0),(3,.agg [vi o0_Kind,vI .u64 o0_Set_e0,vI .u64 o0_Set_e1,vI .u64 o0_Set_e2,vI .u64 o0_Set_e3,vi o0_Lo,vi o0_Hi,vL enc_api_Rx o0_Kids]),(4,.clo 88 [.ptr 3 0,.ptr 6 0]),(6,vi o1),(22,vi ((↑(List.length s0):Int))),(25,vi t8)]:Sta)) q.1 q.2.1 q.2.2.1 q.2.2.2.1 q.2.2.2.2.1 q.2.2.2.2.2.1 q.2.2.2.2.2.2.1 q.2.2.2.2.2.2.2.1 q.2.2.2.2.2.2.2.2.1 q.2.2.2.2.2.2.2.2.2) (fun (q:Int×Int×Int×Int×Int×Int×Int×List api_Rx×Int×Int)=>Inv9 q.1 q.2.1 q.2.2.1 q.2.2.2.1 q.2.2.2.2.1 q.2.2.2.2.2.1 q.2.2.2.2.2.2.1 q.2.2.2.2.2.2.2.1 q.2.2.2.2.2.2.2.2.1 q.2.2.2.2.2.2.2.2.2) (fun (q:Int×Int×Int×Int×Int×Int×Int×List api_Rx×Int×Int)=>mu10 q.1 q.2.1 q.2.2.1 q.2.2.2.1 q.2.2.2.2.1 q.2.2.2.2.2.1 q.2.2.2.2.2.2.1 q.2.2.2.2.2.2.2.1 q.2.2.2.2.2.2.2.2.1 q.2.2.2.2.2.2.2.2.2) ((rx_pattern.Kind cap),(arr4_uint64.e0 (rx_pattern.Set cap)),(arr4_uint64.e1 (rx_pattern.Set cap)),(arr4_uint64.e2 (rx_pattern.Set cap)),(arr4_uint64.e3 (rx_pattern.Set cap)),(rx_pattern.Lo cap),(rx_pattern.Hi cap),(rx_pattern.Kids cap),cap_1,0) [] h0Inv9 ?_
 rintro ⟨o0_Kind,o0_Set_e0,o0_Set_e1,o0_Set_e2,o0_Set_e3,o0_Lo,o0_Hi,o0_Kids,o1,t8⟩ hi
 have h:=hInv9 o0_Kind o0_Set_e0 o0_Set_e1 o0_Set_e2 o0_Set_e3 o0_Lo o0_Hi o0_Kids o1 t8 hi
 refine sD kk [] [] [(28,vB (decide (t8 < (↑(List.length s0):Int))))] obN ?_
 refine qD ?_
 refine cD (t:=9) (b:=decide (t8 < (↑(List.length s0):Int))) (fun hb11=>?_) (fun hb11=>?_)
 ·have h:=h.1 hb11
  refine Sem.skip' (by kernel_rfl) Wk.refl ?_
  show Sem _ _ _ _ _
  refine wkD [28] ?_
  refine qD ?_
  refine bD (id:=1) ?_
  refine sD kk [] [] [(16,vi t8)] obN ?_
  obtain ⟨h12,h⟩:=h
  obtain ⟨h13,h⟩:=h
  obtain ⟨r0_2,o_4,o_5,hc14,h⟩:=h
  refine sD kk [.e (fv_api_Rx (gd s0 t8)),.c (vB r0_2) [av_rx_pattern o_4,vi o_5]] [] [(3,av_rx_pattern o_4),(6,vi o_5),(49,vB r0_2)] (obC h12 (obC (idx_ok enc_api_Rx s0 t8 _ (enc_api_Rx_eq _) h12 h13) (obC hc14 obN))) ?_
  refine cD (t:=16) (b:=r0_2) (fun hb15=>?_) (fun hb15=>?_)
  ·have h:=h.1 hb15
   refine sD kk [] [1,4,16,22,25,49] [(13,vi t8)] obN ?_
   refine tD ?_
   obtain ⟨he0,he1,he2⟩:=h
   subst res fin fin_1
   exact (endD [] (vi t8) [av_rx_pattern o_4,vi o_5]).1
  ·have h:=h.2 hb15
   refine Sem.skip' (by kernel_rfl) Wk.refl ?_
   show Sem _ _ _ _ _
   refine wkD [16,49] ?_
   refine rD kk [] [] [(25,vi (w64 (t8+1)))] obN ?_
   exact lD ((rx_pattern.Kind o_4),(arr4_uint64.e0 (rx_pattern.Set o_4)),(arr4_uint64.e1 (rx_pattern.Set o_4)),(arr4_uint64.e2 (rx_pattern.Set o_4)),(arr4_uint64.e3 (rx_pattern.Set o_4)),(rx_pattern.Lo o_4),(rx_pattern.Hi o_4),(rx_pattern.Kids o_4),o_5,(w64 (t8+1))) [] h
 ·have h:=h.2 hb11
  refine xD (i:=0) ?_
  show Sem _ _ _ _ _
  refine wkD [1,4,22,25,28] ?_
  refine sD kk [] [] [(13,vi (-1))] obN ?_
  refine tD ?_
  obtain ⟨he0,he1,he2⟩:=h
  subst res fin fin_1
  exact (endD [] (vi (-1)) [.agg [vi o0_Kind,vI .u64 o0_Set_e0,vI .u64 o0_Set_e1,vI .u64 o0_Set_e2,vI .u64 o0_Set_e3,vi o0_Lo,vi o0_Hi,vL enc_api_Rx o0_Kids],vi o1]).1
set_option maxHeartbeats 1000000 in
theorem W_slices_ContainsFunc__api_Rx_api_Rx_at_rx_pattern_right_L1 (s0:(List api_Rx)) (cap:rx_pattern) (cap_1:Int) (res:Bool) (fin:rx_pattern) (fin_1:Int)
 (h:(∃ r0:Int,∃ o:rx_pattern,∃ o_1:Int,C_slices_IndexFunc__api_Rx_api_Rx_at_rx_pattern_right_L1 s0 cap cap_1 r0 o o_1∧(res=(decide (r0≥(0:Int)))∧fin=o∧fin_1=o_1))):C_slices_ContainsFunc__api_Rx_api_Rx_at_rx_pattern_right_L1 s0 cap cap_1 res fin fin_1:=by
 unfold C_slices_ContainsFunc__api_Rx_api_Rx_at_rx_pattern_right_L1
 have kk:=cfOk [] 9
 refine fD (x:=bodyOf Try.f90) kk Try.func90 ?_
 refine wkS [1,3,4,6] [(1,vL enc_api_Rx s0),(3,av_rx_pattern cap),(4,.clo 88 [.ptr 3 0,.ptr 6 0]),(6,vi cap_1)] (by kernel_rfl) ?_
 refine sD kk [] [] [] obN ?_
 obtain ⟨r0,o,o_1,hc0,h⟩:=h
 refine sD kk [.c (vi r0) [av_rx_pattern o,vi o_1]] [1,4] [(3,av_rx_pattern o),(6,vi o_1),(13,vB (decide (r0≥(0:Int))))] (obC hc0 obN) ?_
 refine tD ?_
 obtain ⟨he0,he1,he2⟩:=h
 subst res fin fin_1
 exact (endD [] (vB (decide (r0≥(0:Int)))) [av_rx_pattern o,vi o_1]).1
set_option maxHeartbeats 1000000 in
theorem W_rx_pattern_right (x:rx_pattern) (deep:Int) (res:Bool)
 (h:(((decide (deep > (0:Int)))=true→(∃ r0:Bool,C_rx_pattern_own x r0∧(((r0)=true→(∃ r0_1:Bool,∃ o:rx_pattern,∃ o_1:Int,C_slices_ContainsFunc__api_Rx_api_Rx_at_rx_pattern_right_L1 (rx_pattern.Kids x) x deep r0_1 o o_1∧(res=(!r0_1))))∧((r0)=false→(res=false)))))∧((decide (deep > (0:Int)))=false→(res=false)))):C_rx_pattern_right x deep res:=by
 unfold C_rx_pattern_right
 have kk:=cfOk [] 20
 refine fD (x:=bodyOf Try.f57) kk Try.func57 ?_
 refine wkS [1,4] [(1,av_rx_pattern x),(4,vi deep)] (by kernel_rfl) ?_
 refine sD kk [] [1,4] [(7,.ptr 8 0),(8,av_rx_pattern x),(10,.ptr 11 0),(11,vi deep)] obN ?_
 refine sD kk [] [] [(16,.clo 88 [.ptr 8 0,.ptr 11 0])] obN ?_
 rcases Bool.eq_false_or_eq_true (decide (deep > (0:Int))) with hb0 | hb0
 ·have h:=h.1 hb0
  obtain ⟨r0,hc1,h⟩:=h
  rcases Bool.eq_false_or_eq_true (r0) with hb2 | hb2
  ·have h:=h.1 hb2
   obtain ⟨r0_1,o,o_1,hc3,h⟩:=h
   refine sD kk [.b true,.b true,.c (vB r0) [],.b true,.b true,.b true,.b true,.b true,.c (vB r0_1) [av_rx_pattern o,vi o_1],.b true,.b true] [7,8,10,11,16] [(13,vB (!r0_1))] (obC (gtt hb0) (obC (gtt hb0) (obC hc1 (obC hb0 (obC (gtt hb2) (obC (gtt hb2) (obC (gtt hb2) (obC (gtt hb2) (obC hc3 (obC (gtt hb2) (obC hb2 obN))))))))))) ?_
   refine tD ?_
   obtain he0:=h
   subst res
   exact (endD [] (vB (!r0_1)) []).1
  ·have h:=h.2 hb2
   refine sD kk [.b true,.b true,.c (vB r0) [],.b true,.b false,.b false,.b false,.b false,.b false,.b false] [7,8,10,11,16] [(13,vB false)] (obC (gtt hb0) (obC (gtt hb0) (obC hc1 (obC hb0 (obC (gtf hb2) (obC (gtf hb2) (obC (gtf hb2) (obC (gtf hb2) (obC (gtf hb2) (obC hb2 obN)))))))))) ?_
   refine tD ?_
   obtain he0:=h
   subst res
   exact (endD [] (vB false) []).1
 ·have h:=h.2 hb0
  refine sD kk [.b false,.b false,.b false,.b false,.b false,.b false,.b false,.b false,.b false] [7,8,10,11,16] [(13,vB false)] (obC (gtf hb0) (obC (gtf hb0) (obC hb0 (obC (rfl:false=false) (obC (rfl:false=false) (obC (rfl:false=false) (obC (rfl:false=false) (obC (rfl:false=false) (obC (rfl:false=false) obN))))))))) ?_
  refine tD ?_
  obtain he0:=h
  subst res
  exact (endD [] (vB false) []).1
set_option maxHeartbeats 1000000 in
theorem W_rx_Size (x:api_Rx) (res:Int)
 (h:(((api_Rx.Kind x == (2:Int))=true→(res=1))∧((api_Rx.Kind x == (2:Int))=false→(((decide (api_Rx.Kind x < (3:Int)) || decide (api_Rx.Kind x > (5:Int)))=true→(res=0))∧((decide (api_Rx.Kind x < (3:Int)) || decide (api_Rx.Kind x > (5:Int)))=false→(∃ (Inv10:Int→Int→Prop) (mu11:Int→Int→Nat),Inv10 0 0∧(∀ (n:Int) (t19:Int),Inv10 n t19→(((decide (t19 < (↑(List.length (api_Rx.Kids x)):Int)))=true→((0:Int)≤t19)∧t19 < ↑(List.length (api_Rx.Kids x))∧(∃ r0_2:Int,C_rx_Size (gd (api_Rx.Kids x) t19) r0_2∧(Inv10 (if false=true then if (1000000:Int) > w64 (n+r0_2) then (1000000:Int) else w64 (n+r0_2) else if (1000000:Int) < w64 (n+r0_2) then (1000000:Int) else w64 (n+r0_2)) (w64 (t19+1))∧mu11 (if false=true then if (1000000:Int) > w64 (n+r0_2) then (1000000:Int) else w64 (n+r0_2) else if (1000000:Int) < w64 (n+r0_2) then (1000000:Int) else w64 (n+r0_2)) (w64 (t19+1)) < mu11 n t19)))∧((decide (t19 < (↑(List.length (api_Rx.Kids x)):Int)))=false→(∃ J17:Int→Prop,(∀ (n_1:Int),J17 n_1→(res=(if false=true then if (1000000:Int) > n_1 then (1000000:Int) else n_1 else if (1000000:Int) < n_1 then (1000000:Int) else n_1)))∧(((api_Rx.Kind x == (5:Int))=true→J17 (w64 (n * if (if false=true then if (if api_Rx.Hi x > api_Rx.Lo x then api_Rx.Hi x else api_Rx.Lo x) > (1000:Int) then if api_Rx.Hi x > api_Rx.Lo x then api_Rx.Hi x else api_Rx.Lo x else (1000:Int) else if (if api_Rx.Hi x > api_Rx.Lo x then api_Rx.Hi x else api_Rx.Lo x) < (1000:Int) then if api_Rx.Hi x > api_Rx.Lo x then api_Rx.Hi x else api_Rx.Lo x else (1000:Int)) > (1:Int) then if false=true then if (if api_Rx.Hi x > api_Rx.Lo x then api_Rx.Hi x else api_Rx.Lo x) > (1000:Int) then if api_Rx.Hi x > api_Rx.Lo x then api_Rx.Hi x else api_Rx.Lo x else (1000:Int) else if (if api_Rx.Hi x > api_Rx.Lo x then api_Rx.Hi x else api_Rx.Lo x) < (1000:Int) then if api_Rx.Hi x > api_Rx.Lo x then api_Rx.Hi x else api_Rx.Lo x else (1000:Int) else (1:Int))))∧((api_Rx.Kind x == (5:Int))=false→J17 n)))))))))))):C_rx_Size x res:=by
 unfold C_rx_Size
 have kk:=cfOk [] 43
 refine fD (x:=bodyOf Try.f58) kk Try.func58 ?_
 refine wkS [1] [(1,av_api_Rx x)] (by kernel_rfl) ?_
 refine sD kk [] [1] [(4,.ptr 5 0),(5,av_api_Rx x),(7,vi 0)] obN ?_
 refine qD ?_
 refine sD kk [] [] [(22,vB (api_Rx.Kind x == (2:Int)))] obN ?_
 refine cD (t:=7) (b:=api_Rx.Kind x == (2:Int)) (fun hb0=>?_) (fun hb0=>?_)
 ·have h:=h.1 hb0
  refine sD kk [] [4,5,22] [(7,vi 1)] obN ?_
  refine tD ?_
  obtain he0:=h
  subst res
  exact (endD [] (vi 1) []).1
 ·have h:=h.2 hb0
  refine Sem.skip' (by kernel_rfl) Wk.refl ?_
  show Sem _ _ _ _ _
  refine wkD [22] ?_
  refine qD ?_
  refine sM [] [(46,vB (decide (api_Rx.Kind x < (3:Int)) || decide (api_Rx.Kind x > (5:Int))))] ?_ (fun hk0=>?_)
  ·refine cD (t:=15) (b:=decide (api_Rx.Kind x < (3:Int)) || decide (api_Rx.Kind x > (5:Int))) (fun hb2=>?_) (fun hb2=>?_)
   ·have h:=h.1 hb2
    refine sD kk [] [4,5,46] [] obN ?_
    refine tD ?_
    obtain he0:=h
    subst res
    exact (endD [] (vi 0) []).1
   ·have h:=h.2 hb2
    refine Sem.skip' (by kernel_rfl) Wk.refl ?_
    show Sem _ _ _ _ _
    refine wkD [46] ?_
    refine qD ?_
    refine sDE kk [] [] [(52,vL enc_api_Rx (api_Rx.Kids x)),(55,vi ((↑(List.length (List.map enc_api_Rx (api_Rx.Kids x))):Int))),(58,vi 0)] [(52,vL enc_api_Rx (api_Rx.Kids x)),(55,vi ((↑(List.length (api_Rx.Kids x)):Int))),(58,vi 0)] obN ?_
    refine bD (id:=0) ?_
    obtain ⟨Inv10,mu11,h0Inv10,hInv10⟩:=h
    refine loD (fun (q:Int×Int)=>(fun (n:Int) (t19:Int)=>([(4,.ptr 5 0),(5,av_api_Rx x),(7,vi n),(52,vL enc_api_Rx (api_Rx.Kids x)),(55,vi ((↑(List.length (api_Rx.Kids x)):Int))),(58,vi t19)]:Sta)) q.1 q.2) (fun (q:Int×Int)=>Inv10 q.1 q.2) (fun (q:Int×Int)=>mu11 q.1 q.2) (0,0) [] h0Inv10 ?_
    rintro ⟨n,t19⟩ hi
    have h:=hInv10 n t19 hi
    refine sD kk [] [] [(61,vB (decide (t19 < (↑(List.length (api_Rx.Kids x)):Int))))] obN ?_
    refine qD ?_
    refine cD (t:=20) (b:=decide (t19 < (↑(List.length (api_Rx.Kids x)):Int))) (fun hb12=>?_) (fun hb12=>?_)
    ·have h:=h.1 hb12
     refine Sem.skip' (by kernel_rfl) Wk.refl ?_
     show Sem _ _ _ _ _
     refine wkD [61] ?_
     refine qD ?_
     refine bD (id:=1) ?_
     obtain ⟨h13,h⟩:=h
     obtain ⟨h14,h⟩:=h
     refine sD kk [.e (fv_api_Rx (gd (api_Rx.Kids x) t19))] [] [(13,.ptr 14 0),(14,av_api_Rx (gd (api_Rx.Kids x) t19))] (obC h13 (obC (idx_ok enc_api_Rx (api_Rx.Kids x) t19 _ (enc_api_Rx_eq _) h13 h14) obN)) ?_
     obtain ⟨r0_2,hc15,h⟩:=h
     refine rD kk [.c (vi r0_2) []] [13,14] [(7,vi (if false=true then if (1000000:Int) > w64 (n+r0_2) then (1000000:Int) else w64 (n+r0_2) else if (1000000:Int) < w64 (n+r0_2) then (1000000:Int) else w64 (n+r0_2)))] (obC hc15 obN) ?_
     show Sem _ _ _ _ _
     refine rD kk [] [] [(58,vi (w64 (t19+1)))] obN ?_
     exact lD ((if false=true then if (1000000:Int) > w64 (n+r0_2) then (1000000:Int) else w64 (n+r0_2) else if (1000000:Int) < w64 (n+r0_2) then (1000000:Int) else w64 (n+r0_2)),(w64 (t19+1))) [] h
    ·have h:=h.2 hb12
     refine xD (i:=0) ?_
     show Sem _ _ _ _ _
     refine wkD [52,55,58,61] ?_
     obtain ⟨J17,hJ17,h⟩:=h
     refine sjD (fun (q:Int)=>J17 q) (fun (q:Int)=>(fun (n_1:Int)=>([(7,vi n_1)]:Sta)) q) ?_ ?_
     ·rintro n_1 hj
      have h:=hJ17 n_1 hj
      refine sD kk [] [] [(7,vi (if false=true then if (1000000:Int) > n_1 then (1000000:Int) else n_1 else if (1000000:Int) < n_1 then (1000000:Int) else n_1))] obN ?_
      refine tD ?_
      obtain he0:=h
      subst res
      exact (endD [] (vi (if false=true then if (1000000:Int) > n_1 then (1000000:Int) else n_1 else if (1000000:Int) < n_1 then (1000000:Int) else n_1)) []).1
     ·refine sD kk [] [] [(94,vB (api_Rx.Kind x == (5:Int)))] obN ?_
      refine cD (t:=31) (b:=api_Rx.Kind x == (5:Int)) (fun hb18=>?_) (fun hb18=>?_)
      ·have h:=h.1 hb18
       refine rDE kk [] [4,5,94] [(7,vi (w64 (n * if true=true then if (if false=true then if (if true=true then if api_Rx.Hi x > api_Rx.Lo x then api_Rx.Hi x else api_Rx.Lo x else if api_Rx.Hi x < api_Rx.Lo x then api_Rx.Hi x else api_Rx.Lo x) > (1000:Int) then if true=true then if api_Rx.Hi x > api_Rx.Lo x then api_Rx.Hi x else api_Rx.Lo x else if api_Rx.Hi x < api_Rx.Lo x then api_Rx.Hi x else api_Rx.Lo x else (1000:Int) else if (if true=true then if api_Rx.Hi x > api_Rx.Lo x then api_Rx.Hi x else api_Rx.Lo x else if api_Rx.Hi x < api_Rx.Lo x then api_Rx.Hi x else api_Rx.Lo x) < (1000:Int) then if true=true then if api_Rx.Hi x > api_Rx.Lo x then api_Rx.Hi x else api_Rx.Lo x else if api_Rx.Hi x < api_Rx.Lo x then api_Rx.Hi x else api_Rx.Lo x else (1000:Int)) > (1:Int) then if false=true then if (if true=true then if api_Rx.Hi x > api_Rx.Lo x then api_Rx.Hi x else api_Rx.Lo x else if api_Rx.Hi x < api_Rx.Lo x then api_Rx.Hi x else api_Rx.Lo x) > (1000:Int) then if true=true then if api_Rx.Hi x > api_Rx.Lo x then api_Rx.Hi x else api_Rx.Lo x else if api_Rx.Hi x < api_Rx.Lo x then api_Rx.Hi x else api_Rx.Lo x else (1000:Int) else if (if true=true then if api_Rx.Hi x > api_Rx.Lo x then api_Rx.Hi x else api_Rx.Lo x else if api_Rx.Hi x < api_Rx.Lo x then api_Rx.Hi x else api_Rx.Lo x) < (1000:Int) then if true=true then if api_Rx.Hi x > api_Rx.Lo x then api_Rx.Hi x else api_Rx.Lo x else if api_Rx.Hi x < api_Rx.Lo x then api_Rx.Hi x else api_Rx.Lo x else (1000:Int) else (1:Int) else if (if false=true then if (if true=true then if api_Rx.Hi x > api_Rx.Lo x then api_Rx.Hi x else api_Rx.Lo x else if api_Rx.Hi x < api_Rx.Lo x then api_Rx.Hi x else api_Rx.Lo x) > (1000:Int) then if true=true then if api_Rx.Hi x > api_Rx.Lo x then api_Rx.Hi x else api_Rx.Lo x else if api_Rx.Hi x < api_Rx.Lo x then api_Rx.Hi x else api_Rx.Lo x else (1000:Int) else if (if true=true then if api_Rx.Hi x > api_Rx.Lo x then api_Rx.Hi x else api_Rx.Lo x else if api_Rx.Hi x < api_Rx.Lo x then api_Rx.Hi x else api_Rx.Lo x) < (1000:Int) then if true=true then if api_Rx.Hi x > api_Rx.Lo x then api_Rx.Hi x else api_Rx.Lo x else if api_Rx.Hi x < api_Rx.Lo x then api_Rx.Hi x else api_Rx.Lo x else (1000:Int)) < (1:Int) then if false=true then if (if true=true then if api_Rx.Hi x > api_Rx.Lo x then api_Rx.Hi x else api_Rx.Lo x else if api_Rx.Hi x < api_Rx.Lo x then api_Rx.Hi x else api_Rx.Lo x) > (1000:Int) then if true=true then if api_Rx.Hi x > api_Rx.Lo x then api_Rx.Hi x else api_Rx.Lo x else if api_Rx.Hi x < api_Rx.Lo x then api_Rx.Hi x else api_Rx.Lo x else (1000:Int) else if (if true=true then if api_Rx.Hi x > api_Rx.Lo x then api_Rx.Hi x else api_Rx.Lo x else if api_Rx.Hi x < api_Rx.Lo x then api_Rx.Hi x else api_Rx.Lo x) < (1000:Int) then if true=true then if api_Rx.Hi x > api_Rx.Lo x then api_Rx.Hi x else api_Rx.Lo x else if api_Rx.Hi x < api_Rx.Lo x then api_Rx.Hi x else api_Rx.Lo x else (1000:Int) else (1:Int))))] [(7,vi (w64 (n * if (if false=true then if (if api_Rx.Hi x > api_Rx.Lo x then api_Rx.Hi x else api_Rx.Lo x) > (1000:Int) then if api_Rx.Hi x > api_Rx.Lo x then api_Rx.Hi x else api_Rx.Lo x else (1000:Int) else if (if api_Rx.Hi x > api_Rx.Lo x then api_Rx.Hi x else api_Rx.Lo x) < (1000:Int) then if api_Rx.Hi x > api_Rx.Lo x then api_Rx.Hi x else api_Rx.Lo x else (1000:Int)) > (1:Int) then if false=true then if (if api_Rx.Hi x > api_Rx.Lo x then api_Rx.Hi x else api_Rx.Lo x) > (1000:Int) then if api_Rx.Hi x > api_Rx.Lo x then api_Rx.Hi x else api_Rx.Lo x else (1000:Int) else if (if api_Rx.Hi x > api_Rx.Lo x then api_Rx.Hi x else api_Rx.Lo x) < (1000:Int) then if api_Rx.Hi x > api_Rx.Lo x then api_Rx.Hi x else api_Rx.Lo x else (1000:Int) else (1:Int))))] obN ?_
       exact jD (w64 (n * if (if false=true then if (if api_Rx.Hi x > api_Rx.Lo x then api_Rx.Hi x else api_Rx.Lo x) > (1000:Int) then if api_Rx.Hi x > api_Rx.Lo x then api_Rx.Hi x else api_Rx.Lo x else (1000:Int) else if (if api_Rx.Hi x > api_Rx.Lo x then api_Rx.Hi x else api_Rx.Lo x) < (1000:Int) then if api_Rx.Hi x > api_Rx.Lo x then api_Rx.Hi x else api_Rx.Lo x else (1000:Int)) > (1:Int) then if false=true then if (if api_Rx.Hi x > api_Rx.Lo x then api_Rx.Hi x else api_Rx.Lo x) > (1000:Int) then if api_Rx.Hi x > api_Rx.Lo x then api_Rx.Hi x else api_Rx.Lo x else (1000:Int) else if (if api_Rx.Hi x > api_Rx.Lo x then api_Rx.Hi x else api_Rx.Lo x) < (1000:Int) then if api_Rx.Hi x > api_Rx.Lo x then api_Rx.Hi x else api_Rx.Lo x else (1000:Int) else (1:Int))) [] h
      ·have h:=h.2 hb18
       refine Sem.skip' (by kernel_rfl) Wk.refl ?_
       exact jD n [] h
  ·rcases Bool.eq_false_or_eq_true (decide (api_Rx.Kind x < (3:Int))) with hb1 | hb1
   ·refine sD kk [.b false,.b false,.b false,.b true] [] [(46,vB true)] (obC (gff hb1) (obC (gff hb1) (obC (gff hb1) (obC hb1 obN)))) ?_
    exact Sem.cast (by try rw [hb1];kernel_rfl) hk0
   ·refine sD kk [.b true,.b true,.b true,.b false] [] [(46,vB (decide (api_Rx.Kind x > (5:Int))))] (obC (gft hb1) (obC (gft hb1) (obC (gft hb1) (obC hb1 obN)))) ?_
    exact Sem.cast (by try rw [hb1];kernel_rfl) hk0
set_option maxHeartbeats 1000000 in
theorem W_rx_nodes (x:api_Rx) (most:Int) (res:Int)
 (h:(∃ (Inv18:Int→Int→Prop) (mu19:Int→Int→Nat),Inv18 (w64 (most - 1)) 0∧(∀ (most_2:Int) (t12:Int),Inv18 most_2 t12→(((decide (t12 < (↑(List.length (api_Rx.Kids x)):Int)))=true→(∃ J25:Int→Prop,(∀ (most_4:Int),J25 most_4→(Inv18 most_4 (w64 (t12+1))∧mu19 most_4 (w64 (t12+1)) < mu19 most_2 t12))∧((0:Int)≤t12)∧t12 < ↑(List.length (api_Rx.Kids x))∧(((decide (most_2≥(0:Int)))=true→(∃ r0_5:Int,C_rx_nodes (gd (api_Rx.Kids x) t12) most_2 r0_5∧J25 r0_5))∧((decide (most_2≥(0:Int)))=false→J25 most_2))))∧((decide (t12 < (↑(List.length (api_Rx.Kids x)):Int)))=false→(res=most_2)))))):C_rx_nodes x most res:=by
 unfold C_rx_nodes
 have kk:=cfOk [22] 23
 refine fD (x:=bodyOf Try.f59) kk Try.func59 ?_
 refine wkS [1,4] [(1,av_api_Rx x),(4,vi most)] (by kernel_rfl) ?_
 refine sD kk [] [1] [(7,.ptr 8 0),(8,av_api_Rx x)] obN ?_
 refine sD kk [] [] [(4,vi (w64 (most - 1)))] obN ?_
 refine qD ?_
 refine sDE kk [] [7,8] [(31,vL enc_api_Rx (api_Rx.Kids x)),(34,vi ((↑(List.length (List.map enc_api_Rx (api_Rx.Kids x))):Int))),(37,vi 0)] [(31,vL enc_api_Rx (api_Rx.Kids x)),(34,vi ((↑(List.length (api_Rx.Kids x)):Int))),(37,vi 0)] obN ?_
 refine bD (id:=0) ?_
 obtain ⟨Inv18,mu19,h0Inv18,hInv18⟩:=h
 refine loD (fun (q:Int×Int)=>(fun (most_2:Int) (t12:Int)=>([(4,vi most_2),(31,vL enc_api_Rx (api_Rx.Kids x)),(34,vi ((↑(List.length (api_Rx.Kids x)):Int))),(37,vi t12)]:Sta)) q.1 q.2) (fun (q:Int×Int)=>Inv18 q.1 q.2) (fun (q:Int×Int)=>mu19 q.1 q.2) ((w64 (most - 1)),0) [] h0Inv18 ?_
 rintro ⟨most_2,t12⟩ hi
 have h:=hInv18 most_2 t12 hi
 refine sD kk [] [] [(40,vB (decide (t12 < (↑(List.length (api_Rx.Kids x)):Int))))] obN ?_
 refine qD ?_
 refine cD (t:=13) (b:=decide (t12 < (↑(List.length (api_Rx.Kids x)):Int))) (fun hb20=>?_) (fun hb20=>?_)
 ·have h:=h.1 hb20
  refine Sem.skip' (by kernel_rfl) Wk.refl ?_
  show Sem _ _ _ _ _
  refine wkD [40] ?_
  obtain ⟨J25,hJ25,h⟩:=h
  refine sjD (fun (q:Int)=>J25 q) (fun (q:Int)=>(fun (most_4:Int)=>([(4,vi most_4),(31,vL enc_api_Rx (api_Rx.Kids x)),(34,vi ((↑(List.length (api_Rx.Kids x)):Int))),(37,vi t12)]:Sta)) q) ?_ ?_
  ·rintro most_4 hj
   have h:=hJ25 most_4 hj
   refine rD kk [] [] [(37,vi (w64 (t12+1)))] obN ?_
   exact lD (most_4,(w64 (t12+1))) [] h
  ·refine bD (id:=1) ?_
   obtain ⟨h26,h⟩:=h
   obtain ⟨h27,h⟩:=h
   refine sD kk [.e (fv_api_Rx (gd (api_Rx.Kids x) t12))] [] [(19,.ptr 20 0),(20,av_api_Rx (gd (api_Rx.Kids x) t12))] (obC h26 (obC (idx_ok enc_api_Rx (api_Rx.Kids x) t12 _ (enc_api_Rx_eq _) h26 h27) obN)) ?_
   refine sD kk [] [] [(52,vB (decide (most_2≥(0:Int))))] obN ?_
   refine cD (t:=17) (b:=decide (most_2≥(0:Int))) (fun hb28=>?_) (fun hb28=>?_)
   ·have h:=h.1 hb28
    obtain ⟨r0_5,hc29,h⟩:=h
    refine rD kk [.c (vi r0_5) []] [19,20,52] [(4,vi r0_5)] (obC hc29 obN) ?_
    exact jD r0_5 [] h
   ·have h:=h.2 hb28
    refine Sem.skip' (by kernel_rfl) Wk.refl ?_
    exact jD most_2 [] h
 ·have h:=h.2 hb20
  refine xD (i:=0) ?_
  show Sem _ _ _ _ _
  refine wkD [31,34,37,40] ?_
  refine sD kk [] [4] [(13,vi most_2)] obN ?_
  refine tD ?_
  obtain he0:=h
  subst res
  exact (endD [] (vi most_2) []).1
set_option maxHeartbeats 1000000 in
theorem W_rx_Right (x:api_Rx) (res:Bool)
 (h:(∃ r0:Bool,C_rx_pattern_right ({ Kind:=api_Rx.Kind x,Set:=api_Rx.Set x,Lo:=api_Rx.Lo x,Hi:=api_Rx.Hi x,Kids:=api_Rx.Kids x }) 20 r0∧(((r0)=true→(∃ r0_1:Int,C_rx_Size x r0_1∧(((decide (r0_1≤(200:Int)))=true→(∃ r0_2:Int,C_rx_nodes x ((1000:Int)) r0_2∧(res=(decide (r0_2≥(0:Int))))))∧((decide (r0_1≤(200:Int)))=false→(res=false)))))∧((r0)=false→(res=false))))):C_rx_Right x res:=by
 unfold C_rx_Right
 have kk:=cfOk [] 15
 refine fD (x:=bodyOf Try.f29) kk Try.func29 ?_
 refine wkS [1] [(1,av_api_Rx x)] (by kernel_rfl) ?_
 refine sD kk [] [1] [(4,.ptr 5 0),(5,av_api_Rx x)] obN ?_
 obtain ⟨r0,hc0,h⟩:=h
 rcases Bool.eq_false_or_eq_true (r0) with hb1 | hb1
 ·have h:=h.1 hb1
  obtain ⟨r0_1,hc2,h⟩:=h
  rcases Bool.eq_false_or_eq_true (decide (r0_1≤(200:Int))) with hb3 | hb3
  ·have h:=h.1 hb3
   obtain ⟨r0_2,hc4,h⟩:=h
   refine sD kk [.c (vB r0) [],.b true,.b true,.c (vi r0_1) [],.b true,.b true,.b true,.b true,.c (vi r0_2) [],.b true,.b true] [4,5] [(7,vB (decide (r0_2≥(0:Int))))] (obC hc0 (obC (gtt hb1) (obC (gtt hb1) (obC hc2 (obC (gtt hb1) (obC hb1 (obC (gtt hb3) (obC (gtt hb3) (obC hc4 (obC (gtt hb3) (obC hb3 obN))))))))))) ?_
   refine tD ?_
   obtain he0:=h
   subst res
   exact (endD [] (vB (decide (r0_2≥(0:Int)))) []).1
  ·have h:=h.2 hb3
   refine sD kk [.c (vB r0) [],.b true,.b true,.c (vi r0_1) [],.b true,.b true,.b false,.b false,.b false,.b false] [4,5] [(7,vB false)] (obC hc0 (obC (gtt hb1) (obC (gtt hb1) (obC hc2 (obC (gtt hb1) (obC hb1 (obC (gtf hb3) (obC (gtf hb3) (obC (gtf hb3) (obC hb3 obN)))))))))) ?_
   refine tD ?_
   obtain he0:=h
   subst res
   exact (endD [] (vB false) []).1
 ·have h:=h.2 hb1
  refine sD kk [.c (vB r0) [],.b false,.b false,.b false,.b false,.b false,.b false,.b false,.b false] [4,5] [(7,vB false)] (obC hc0 (obC (gtf hb1) (obC (gtf hb1) (obC (gtf hb1) (obC hb1 (obC (rfl:false=false) (obC (rfl:false=false) (obC (rfl:false=false) (obC (rfl:false=false) obN))))))))) ?_
  refine tD ?_
  obtain he0:=h
  subst res
  exact (endD [] (vB false) []).1
set_option maxHeartbeats 1000000 in
theorem W_place_builder_place (s0:arr4_uint64) (b:place_builder) (res:place_piece) (fin:place_builder)
 (h:((List.length (place_builder.sets b)+(1:Nat)) * (32:Nat)≤(2:Nat) ^ (47:Nat))∧((List.length (place_builder.follow b)+(1:Nat)) * (24:Nat)≤(2:Nat) ^ (47:Nat))∧(res=({ first:=[(↑(List.length (place_builder.sets b)):Int)],last:=[(↑(List.length (place_builder.sets b)):Int)],null:=false })∧fin=({ sets:=place_builder.sets b++[s0],follow:=place_builder.follow b++[[]] }))):C_place_builder_place s0 b res fin:=by
 unfold C_place_builder_place
 have kk:=cfOk [] 34
 refine fD (x:=bodyOf Try.f112) kk Try.func112 ?_
 refine wkS [1,3,4] [(1,.ptr 3 0),(3,ao_place_builder b),(4,av_arr4_uint64 s0)] (by kernel_rfl) ?_
 refine sDE kk [] [4] [(10,.ptr 11 0),(11,av_arr4_uint64 s0),(13,.ptr 14 0),(14,.agg [.own 3 ([]),.own 3 ([]),vB false])] [(10,.ptr 11 0),(11,av_arr4_uint64 s0),(13,.ptr 14 0),(14,.agg [oL 3 enc_i64 ([]),oL 3 enc_i64 ([]),vB false])] obN ?_
 refine sDE kk [] [] [(16,.own 3 ([FV.pv (Value.int IntKind.i64 (↑(List.length (List.map enc_arr4_uint64 (place_builder.sets b))):Int))]))] [(16,oL 3 enc_i64 ([(↑(List.length (place_builder.sets b)):Int)]))] obN ?_
 obtain ⟨h0,h⟩:=h
 obtain ⟨h1,h⟩:=h
 refine sDE kk [] [1,10,11] [(3,.agg [.own 33 (List.map enc_arr4_uint64 (place_builder.sets b)++List.take (List.length [FV.agg [FV.pv (Value.int IntKind.u64 (arr4_uint64.e0 s0)),FV.pv (Value.int IntKind.u64 (arr4_uint64.e1 s0)),FV.pv (Value.int IntKind.u64 (arr4_uint64.e2 s0)),FV.pv (Value.int IntKind.u64 (arr4_uint64.e3 s0))]]) (List.drop (0:Nat) [FV.agg [FV.pv (Value.int IntKind.u64 (arr4_uint64.e0 s0)),FV.pv (Value.int IntKind.u64 (arr4_uint64.e1 s0)),FV.pv (Value.int IntKind.u64 (arr4_uint64.e2 s0)),FV.pv (Value.int IntKind.u64 (arr4_uint64.e3 s0))]])),.own 30 (List.map encs_i64 (place_builder.follow b)++List.take (List.length [FV.sl []]) (List.drop (0:Nat) [FV.sl []]))])] [(3,.agg [oL 33 enc_arr4_uint64 (place_builder.sets b++[s0]),oL 30 encs_i64 (place_builder.follow b++[[]])])] (obC (show (0:Nat)=(0:Nat)∧List.length (List.map enc_arr4_uint64 (place_builder.sets b))=List.length (List.map enc_arr4_uint64 (place_builder.sets b)) from by first | decide | rfl | trivial | (simp only [nm]<;>first | decide | rfl | omega)) (obC (show (List.length (List.map enc_arr4_uint64 (place_builder.sets b))+List.length (List.take (1:Nat) (List.drop (0:Nat) [FV.agg [FV.pv (Value.int IntKind.u64 (arr4_uint64.e0 s0)),FV.pv (Value.int IntKind.u64 (arr4_uint64.e1 s0)),FV.pv (Value.int IntKind.u64 (arr4_uint64.e2 s0)),FV.pv (Value.int IntKind.u64 (arr4_uint64.e3 s0))]]))) * (32:Nat)≤(2:Nat) ^ (47:Nat) from by simpa only [nm] using h0) (obC (show List.all (List.take (1:Nat) (List.drop (0:Nat) [FV.agg [FV.pv (Value.int IntKind.u64 (arr4_uint64.e0 s0)),FV.pv (Value.int IntKind.u64 (arr4_uint64.e1 s0)),FV.pv (Value.int IntKind.u64 (arr4_uint64.e2 s0)),FV.pv (Value.int IntKind.u64 (arr4_uint64.e3 s0))]])) (FV.fits (4:Nat))=true from by first | exact fits_u64 _ | rfl | simp [isByteF,FV.fits,FV.size,FV.cells,FV.one,]) (obC (show (0:Nat)=(0:Nat)∧List.length (List.map encs_i64 (place_builder.follow b))=List.length (List.map encs_i64 (place_builder.follow b)) from by first | decide | rfl | trivial | (simp only [nm]<;>first | decide | rfl | omega)) (obC (show (List.length (List.map encs_i64 (place_builder.follow b))+List.length (List.take (1:Nat) (List.drop (0:Nat) [FV.sl []]))) * (24:Nat)≤(2:Nat) ^ (47:Nat) from by simpa only [nm] using h1) (obC (show List.all (List.take (1:Nat) (List.drop (0:Nat) [FV.sl []])) (FV.fits (1:Nat))=true from by first | decide | rfl | trivial | (simp only [nm]<;>first | decide | rfl | omega)) obN)))))) ?_
 refine sDE kk [] [16] [(14,.agg [.f (FV.sl (List.take (1:Nat) (List.drop (0:Nat) (List.map enc_i64 [(↑(List.length (place_builder.sets b)):Int)])))),.f (FV.sl (List.take (1:Nat) (List.drop (0:Nat) (List.map enc_i64 [(↑(List.length (place_builder.sets b)):Int)])))),vB false])] [(14,.agg [vL enc_i64 ([(↑(List.length (place_builder.sets b)):Int)]),vL enc_i64 ([(↑(List.length (place_builder.sets b)):Int)]),vB false])] obN ?_
 refine tD ?_
 obtain ⟨he0,he1⟩:=h
 subst res fin
 exact (endD [] (.agg [vL enc_i64 ([(↑(List.length (place_builder.sets b)):Int)]),vL enc_i64 ([(↑(List.length (place_builder.sets b)):Int)]),vB false]) [.agg [oL 33 enc_arr4_uint64 (place_builder.sets b++[s0]),oL 30 encs_i64 (place_builder.follow b++[[]])]]).1
set_option maxHeartbeats 1000000 in
theorem W_slices_Concat__int_int (slices:(List (List Int))) (res:(List Int))
 (h:(∃ (Inv14:Int→Int→Prop) (mu15:Int→Int→Nat),Inv14 0 0∧(∀ (size:Int) (t11:Int),Inv14 size t11→(((decide (t11 < (↑(List.length slices):Int)))=true→(∃ J20:Prop,(J20→(Inv14 (w64 (size+(↑(List.length (gd slices t11)):Int))) (w64 (t11+1))∧mu15 (w64 (size+(↑(List.length (gd slices t11)):Int))) (w64 (t11+1)) < mu15 size t11))∧((0:Int)≤t11)∧t11 < ↑(List.length slices)∧(((decide (w64 (size+(↑(List.length (gd slices t11)):Int)) < (0:Int)))=true→False)∧((decide (w64 (size+(↑(List.length (gd slices t11)):Int)) < (0:Int)))=false→J20))))∧((decide (t11 < (↑(List.length slices):Int)))=false→((0:Int)≤size∧size≤(2:Int) ^ (40:Nat))∧(∃ (Inv32:List Int→Int→Prop) (mu33:List Int→Int→Nat),Inv32 ([]) 0∧(∀ (newslice:List Int) (t27:Int),Inv32 newslice t27→(((decide (t27 < (↑(List.length slices):Int)))=true→((0:Int)≤t27)∧t27 < ↑(List.length slices)∧((List.length newslice+List.length (gd slices t27)) * (8:Nat)≤(2:Nat) ^ (47:Nat))∧(Inv32 (newslice++gd slices t27) (w64 (t27+1))∧mu33 (newslice++gd slices t27) (w64 (t27+1)) < mu33 newslice t27))∧((decide (t27 < (↑(List.length slices):Int)))=false→(res=newslice)))))))))):C_slices_Concat__int_int slices res:=by
 unfold C_slices_Concat__int_int
 have kk:=cfOk [35] 36
 refine fD (x:=bodyOf Try.f79) kk Try.func79 ?_
 refine wkS [1] [(1,vL encs_i64 slices)] (by kernel_rfl) ?_
 refine sD kk [] [] [] obN ?_
 refine sD kk [] [] [(10,vi 0)] obN ?_
 refine qD ?_
 refine sDE kk [] [] [(28,vL encs_i64 slices),(31,vi ((↑(List.length (List.map encs_i64 slices)):Int))),(34,vi 0)] [(28,vL encs_i64 slices),(31,vi ((↑(List.length slices):Int))),(34,vi 0)] obN ?_
 refine bD (id:=0) ?_
 obtain ⟨Inv14,mu15,h0Inv14,hInv14⟩:=h
 refine loD (fun (q:Int×Int)=>(fun (size:Int) (t11:Int)=>([(1,vL encs_i64 slices),(10,vi size),(28,vL encs_i64 slices),(31,vi ((↑(List.length slices):Int))),(34,vi t11)]:Sta)) q.1 q.2) (fun (q:Int×Int)=>Inv14 q.1 q.2) (fun (q:Int×Int)=>mu15 q.1 q.2) (0,0) [] h0Inv14 ?_
 rintro ⟨size,t11⟩ hi
 have h:=hInv14 size t11 hi
 refine sD kk [] [] [(37,vB (decide (t11 < (↑(List.length slices):Int))))] obN ?_
 refine qD ?_
 refine cD (t:=12) (b:=decide (t11 < (↑(List.length slices):Int))) (fun hb16=>?_) (fun hb16=>?_)
 ·have h:=h.1 hb16
  refine Sem.skip' (by kernel_rfl) Wk.refl ?_
  show Sem _ _ _ _ _
  refine wkD [37] ?_
  obtain ⟨J20,hJ20,h⟩:=h
  refine sjD (fun (_:Unit)=>J20) (fun (_:Unit)=>[(1,vL encs_i64 slices),(10,vi (w64 (size+(↑(List.length (gd slices t11)):Int)))),(28,vL encs_i64 slices),(31,vi ((↑(List.length slices):Int))),(34,vi t11)]) ?_ ?_
  ·rintro _ hj
   have h:=hJ20 hj
   refine rD kk [] [] [(34,vi (w64 (t11+1)))] obN ?_
   exact lD ((w64 (size+(↑(List.length (gd slices t11)):Int))),(w64 (t11+1))) [] h
  ·refine bD (id:=1) ?_
   obtain ⟨h21,h⟩:=h
   obtain ⟨h22,h⟩:=h
   refine sD kk [.e (fL enc_i64 (gd slices t11))] [] [(16,vL enc_i64 (gd slices t11))] (obC h21 (obC (idx_ok encs_i64 slices t11 _ rfl h21 h22) obN)) ?_
   refine sDE kk [] [16] [(10,vi (w64 (size+(↑(List.length (List.map enc_i64 (gd slices t11))):Int))))] [(10,vi (w64 (size+(↑(List.length (gd slices t11)):Int))))] obN ?_
   refine sD kk [] [] [(61,vB (decide (w64 (size+(↑(List.length (gd slices t11)):Int)) < (0:Int))))] obN ?_
   refine cD (t:=20) (b:=decide (w64 (size+(↑(List.length (gd slices t11)):Int)) < (0:Int))) (fun hb23=>?_) (fun hb23=>?_)
   ·have h:=h.1 hb23
    exact h.elim
   ·have h:=h.2 hb23
    refine Sem.skip' (by kernel_rfl) Wk.refl ?_
    exact jD () [] h
 ·have h:=h.2 hb16
  refine xD (i:=0) ?_
  show Sem _ _ _ _ _
  refine wkD [28,31,34,37] ?_
  obtain ⟨h24,h⟩:=h
  refine sDE kk [] [10] [(19,.own 3 ([]))] [(19,oL 3 enc_i64 ([]))] (obC h24 obN) ?_
  refine qD ?_
  refine sDE kk [] [1] [(76,vL encs_i64 slices),(79,vi ((↑(List.length (List.map encs_i64 slices)):Int))),(82,vi 0)] [(76,vL encs_i64 slices),(79,vi ((↑(List.length slices):Int))),(82,vi 0)] obN ?_
  refine bD (id:=2) ?_
  obtain ⟨Inv32,mu33,h0Inv32,hInv32⟩:=h
  refine loD (fun (q:List Int×Int)=>(fun (newslice:List Int) (t27:Int)=>([(19,oL 3 enc_i64 newslice),(76,vL encs_i64 slices),(79,vi ((↑(List.length slices):Int))),(82,vi t27)]:Sta)) q.1 q.2) (fun (q:List Int×Int)=>Inv32 q.1 q.2) (fun (q:List Int×Int)=>mu33 q.1 q.2) (([]),0) [] h0Inv32 ?_
  rintro ⟨newslice,t27⟩ hi
  have h:=hInv32 newslice t27 hi
  refine sD kk [] [] [(85,vB (decide (t27 < (↑(List.length slices):Int))))] obN ?_
  refine qD ?_
  refine cD (t:=28) (b:=decide (t27 < (↑(List.length slices):Int))) (fun hb34=>?_) (fun hb34=>?_)
  ·have h:=h.1 hb34
   refine Sem.skip' (by kernel_rfl) Wk.refl ?_
   show Sem _ _ _ _ _
   refine wkD [85] ?_
   refine qD ?_
   refine bD (id:=3) ?_
   obtain ⟨h35,h⟩:=h
   obtain ⟨h36,h⟩:=h
   refine sD kk [.e (fL enc_i64 (gd slices t27))] [] [(25,vL enc_i64 (gd slices t27))] (obC h35 (obC (idx_ok encs_i64 slices t27 _ rfl h35 h36) obN)) ?_
   obtain ⟨h37,h⟩:=h
   refine rDE kk [] [25] [(19,.own 3 (List.map enc_i64 newslice++List.map enc_i64 (gd slices t27)))] [(19,oL 3 enc_i64 (newslice++gd slices t27))] (obC (show (0:Nat)=(0:Nat)∧List.length (List.map enc_i64 newslice)=List.length (List.map enc_i64 newslice) from by first | decide | rfl | trivial | (simp only [nm]<;>first | decide | rfl | omega)) (obC (show (List.length (List.map enc_i64 newslice)+List.length (List.map enc_i64 (gd slices t27))) * (8:Nat)≤(2:Nat) ^ (47:Nat) from by simpa only [nm] using h37) (obC (show List.all (List.map enc_i64 (gd slices t27)) (FV.fits (1:Nat))=true from by first | exact fits_i64 _ | rfl | simp [isByteF,FV.fits,FV.size,FV.cells,FV.one,enc_i64]) obN))) ?_
   show Sem _ _ _ _ _
   refine rD kk [] [] [(82,vi (w64 (t27+1)))] obN ?_
   exact lD ((newslice++gd slices t27),(w64 (t27+1))) [] h
  ·have h:=h.2 hb34
   refine xD (i:=2) ?_
   show Sem _ _ _ _ _
   refine wkD [76,79,82,85] ?_
   refine sD kk [] [19] [(7,oL 3 enc_i64 newslice)] obN ?_
   refine tD ?_
   obtain he0:=h
   subst res
   exact (endD [] (oL 3 enc_i64 newslice) []).1
end Go.Ev
