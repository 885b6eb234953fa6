import Derived.Test.YtkeiahjelpjegaaGreatA02
set_option linter.unusedSimpArgs false
set_option linter.unusedVariables false
namespace Go.Ev
open Go Go.Proofs
set_option maxRecDepth 8000
set_option maxHeartbeats 1000000 in
theorem W_set_Has (s0:zb) (b:Int) (res:Bool)
 (h:(((decide (b≥(0:Int)))=true→(((decide (b < (256:Int)))=true→((w64 (Int.tdiv b (64:Int))=0∨w64 (Int.tdiv b (64:Int))=1∨w64 (Int.tdiv b (64:Int))=2∨w64 (Int.tdiv b (64:Int))=3)∧((decide (w64 (Int.tdiv b (64:Int))=(0:Int)))=true→((decide (b≥(0:Int)))=true→((decide (b < (256:Int)))=true→((decide (w64 (Int.tdiv b (64:Int))=(0:Int)))=true→((0:Int)≤Int.tmod b (64:Int)))))∧(res=(IntKind.wrap IntKind.u64 (↑(BitVec.toNat (BitVec.ofInt (IntKind.bits IntKind.u64) (zb.e0 s0) &&& BitVec.ofInt (IntKind.bits IntKind.u64) (IntKind.wrap IntKind.u64 ((1:Int) * (2:Int) ^ Min.min (Int.toNat (Int.tmod b (64:Int))) (IntKind.bits IntKind.u64))))):Int) != (0:Int))))∧((decide (w64 (Int.tdiv b (64:Int))=(1:Int)))=true→((decide (b≥(0:Int)))=true→((decide (b < (256:Int)))=true→((decide (w64 (Int.tdiv b (64:Int))=(1:Int)))=true→((0:Int)≤Int.tmod b (64:Int)))))∧(res=(IntKind.wrap IntKind.u64 (↑(BitVec.toNat (BitVec.ofInt (IntKind.bits IntKind.u64) (zb.e1 s0) &&& BitVec.ofInt (IntKind.bits IntKind.u64) (IntKind.wrap IntKind.u64 ((1:Int) * (2:Int) ^ Min.min (Int.toNat (Int.tmod b (64:Int))) (IntKind.bits IntKind.u64))))):Int) != (0:Int))))∧((decide (w64 (Int.tdiv b (64:Int))=(2:Int)))=true→((decide (b≥(0:Int)))=true→((decide (b < (256:Int)))=true→((decide (w64 (Int.tdiv b (64:Int))=(2:Int)))=true→((0:Int)≤Int.tmod b (64:Int)))))∧(res=(IntKind.wrap IntKind.u64 (↑(BitVec.toNat (BitVec.ofInt (IntKind.bits IntKind.u64) (zb.e2 s0) &&& BitVec.ofInt (IntKind.bits IntKind.u64) (IntKind.wrap IntKind.u64 ((1:Int) * (2:Int) ^ Min.min (Int.toNat (Int.tmod b (64:Int))) (IntKind.bits IntKind.u64))))):Int) != (0:Int))))∧((decide (w64 (Int.tdiv b (64:Int))=(3:Int)))=true→((decide (b≥(0:Int)))=true→((decide (b < (256:Int)))=true→((decide (w64 (Int.tdiv b (64:Int))=(3:Int)))=true→((0:Int)≤Int.tmod b (64:Int)))))∧(res=(IntKind.wrap IntKind.u64 (↑(BitVec.toNat (BitVec.ofInt (IntKind.bits IntKind.u64) (zb.e3 s0) &&& BitVec.ofInt (IntKind.bits IntKind.u64) (IntKind.wrap IntKind.u64 ((1:Int) * (2:Int) ^ Min.min (Int.toNat (Int.tmod b (64:Int))) (IntKind.bits IntKind.u64))))):Int) != (0:Int))))))∧((decide (b < (256:Int)))=false→(res=false))))∧((decide (b≥(0:Int)))=false→(res=false)))):zd8 s0 b res:=by
 unfold zd8
 have kk:=cfOk [] 22
 refine fD (x:=bodyOf Tryz.f93) kk Tryz.func93 ?_
 refine wkS [1,4] [(1,zy s0),(4,vi b)] (by kernel_rfl) ?_
 refine sD kk [] [1] [(7,.ptr 8 0),(8,zy s0)] obN ?_
 rcases Bool.eq_false_or_eq_true (decide (b≥(0:Int))) with hb0 | hb0
 ·have h:=h.1 hb0
  rcases Bool.eq_false_or_eq_true (decide (b < (256:Int))) with hb1 | hb1
  ·have h:=h.1 hb1
   obtain ⟨hor,h⟩:=h
   rcases hor with hb2 | hb2 | hb2 | hb2
   ·have hb2:=decide_eq_true hb2
    have h:=h.1 hb2
    obtain ⟨h3,h⟩:=h
    refine sD kk [bT,bT,bT,bT,bT,bT,.n 0,bT,bT,bT,bT,bT,bT,bT] [4,7,8] [(13,vB (IntKind.wrap IntKind.u64 (↑(BitVec.toNat (BitVec.ofInt (IntKind.bits IntKind.u64) (zb.e0 s0) &&& BitVec.ofInt (IntKind.bits IntKind.u64) (IntKind.wrap IntKind.u64 ((1:Int) * (2:Int) ^ Min.min (Int.toNat (Int.tmod b (64:Int))) (IntKind.bits IntKind.u64))))):Int) != (0:Int)))] (obC (gtt hb0) (obC (gtt hb0) (obC hb0 (obC (gtt hb1) (obC (gtt hb1) (obC (show (64:Int)≠(0:Int) from by first | decide | rfl | trivial) (obC (gtt hb1) (obC (of_decide_eq_true hb2) (obC (gtt hb1) (obC (gtt hb1) (obC (gtt hb1) (obC (show (64:Int)≠(0:Int) from by first | decide | rfl | trivial) (obC (gtt hb1) (obC (((h3 hb0) hb1) hb2) (obC (gtt hb1) (obC (gtt hb1) (obC hb1 obN))))))))))))))))) ?_
    refine tD ?_
    obtain he0:=h
    subst res
    exact (endD [] (vB (IntKind.wrap IntKind.u64 (↑(BitVec.toNat (BitVec.ofInt (IntKind.bits IntKind.u64) (zb.e0 s0) &&& BitVec.ofInt (IntKind.bits IntKind.u64) (IntKind.wrap IntKind.u64 ((1:Int) * (2:Int) ^ Min.min (Int.toNat (Int.tmod b (64:Int))) (IntKind.bits IntKind.u64))))):Int) != (0:Int))) []).1
   ·have hb2:=decide_eq_true hb2
    have h:=h.2.1 hb2
    obtain ⟨h4,h⟩:=h
    refine sD kk [bT,bT,bT,bT,bT,bT,.n 1,bT,bT,bT,bT,bT,bT,bT] [4,7,8] [(13,vB (IntKind.wrap IntKind.u64 (↑(BitVec.toNat (BitVec.ofInt (IntKind.bits IntKind.u64) (zb.e1 s0) &&& BitVec.ofInt (IntKind.bits IntKind.u64) (IntKind.wrap IntKind.u64 ((1:Int) * (2:Int) ^ Min.min (Int.toNat (Int.tmod b (64:Int))) (IntKind.bits IntKind.u64))))):Int) != (0:Int)))] (obC (gtt hb0) (obC (gtt hb0) (obC hb0 (obC (gtt hb1) (obC (gtt hb1) (obC (show (64:Int)≠(0:Int) from by first | decide | rfl | trivial) (obC (gtt hb1) (obC (of_decide_eq_true hb2) (obC (gtt hb1) (obC (gtt hb1) (obC (gtt hb1) (obC (show (64:Int)≠(0:Int) from by first | decide | rfl | trivial) (obC (gtt hb1) (obC (((h4 hb0) hb1) hb2) (obC (gtt hb1) (obC (gtt hb1) (obC hb1 obN))))))))))))))))) ?_
    refine tD ?_
    obtain he0:=h
    subst res
    exact (endD [] (vB (IntKind.wrap IntKind.u64 (↑(BitVec.toNat (BitVec.ofInt (IntKind.bits IntKind.u64) (zb.e1 s0) &&& BitVec.ofInt (IntKind.bits IntKind.u64) (IntKind.wrap IntKind.u64 ((1:Int) * (2:Int) ^ Min.min (Int.toNat (Int.tmod b (64:Int))) (IntKind.bits IntKind.u64))))):Int) != (0:Int))) []).1
   ·have hb2:=decide_eq_true hb2
    have h:=h.2.2.1 hb2
    obtain ⟨h5,h⟩:=h
    refine sD kk [bT,bT,bT,bT,bT,bT,.n 2,bT,bT,bT,bT,bT,bT,bT] [4,7,8] [(13,vB (IntKind.wrap IntKind.u64 (↑(BitVec.toNat (BitVec.ofInt (IntKind.bits IntKind.u64) (zb.e2 s0) &&& BitVec.ofInt (IntKind.bits IntKind.u64) (IntKind.wrap IntKind.u64 ((1:Int) * (2:Int) ^ Min.min (Int.toNat (Int.tmod b (64:Int))) (IntKind.bits IntKind.u64))))):Int) != (0:Int)))] (obC (gtt hb0) (obC (gtt hb0) (obC hb0 (obC (gtt hb1) (obC (gtt hb1) (obC (show (64:Int)≠(0:Int) from by first | decide | rfl | trivial) (obC (gtt hb1) (obC (of_decide_eq_true hb2) (obC (gtt hb1) (obC (gtt hb1) (obC (gtt hb1) (obC (show (64:Int)≠(0:Int) from by first | decide | rfl | trivial) (obC (gtt hb1) (obC (((h5 hb0) hb1) hb2) (obC (gtt hb1) (obC (gtt hb1) (obC hb1 obN))))))))))))))))) ?_
    refine tD ?_
    obtain he0:=h
    subst res
    exact (endD [] (vB (IntKind.wrap IntKind.u64 (↑(BitVec.toNat (BitVec.ofInt (IntKind.bits IntKind.u64) (zb.e2 s0) &&& BitVec.ofInt (IntKind.bits IntKind.u64) (IntKind.wrap IntKind.u64 ((1:Int) * (2:Int) ^ Min.min (Int.toNat (Int.tmod b (64:Int))) (IntKind.bits IntKind.u64))))):Int) != (0:Int))) []).1
   ·have hb2:=decide_eq_true hb2
    have h:=h.2.2.2 hb2
    obtain ⟨h6,h⟩:=h
    refine sD kk [bT,bT,bT,bT,bT,bT,.n 3,bT,bT,bT,bT,bT,bT,bT] [4,7,8] [(13,vB (IntKind.wrap IntKind.u64 (↑(BitVec.toNat (BitVec.ofInt (IntKind.bits IntKind.u64) (zb.e3 s0) &&& BitVec.ofInt (IntKind.bits IntKind.u64) (IntKind.wrap IntKind.u64 ((1:Int) * (2:Int) ^ Min.min (Int.toNat (Int.tmod b (64:Int))) (IntKind.bits IntKind.u64))))):Int) != (0:Int)))] (obC (gtt hb0) (obC (gtt hb0) (obC hb0 (obC (gtt hb1) (obC (gtt hb1) (obC (show (64:Int)≠(0:Int) from by first | decide | rfl | trivial) (obC (gtt hb1) (obC (of_decide_eq_true hb2) (obC (gtt hb1) (obC (gtt hb1) (obC (gtt hb1) (obC (show (64:Int)≠(0:Int) from by first | decide | rfl | trivial) (obC (gtt hb1) (obC (((h6 hb0) hb1) hb2) (obC (gtt hb1) (obC (gtt hb1) (obC hb1 obN))))))))))))))))) ?_
    refine tD ?_
    obtain he0:=h
    subst res
    exact (endD [] (vB (IntKind.wrap IntKind.u64 (↑(BitVec.toNat (BitVec.ofInt (IntKind.bits IntKind.u64) (zb.e3 s0) &&& BitVec.ofInt (IntKind.bits IntKind.u64) (IntKind.wrap IntKind.u64 ((1:Int) * (2:Int) ^ Min.min (Int.toNat (Int.tmod b (64:Int))) (IntKind.bits IntKind.u64))))):Int) != (0:Int))) []).1
  ·have h:=h.2 hb1
   refine sD kk [bT,bT,bT,bF,bF,bF,bF,bF,bF,bF,bF,bF,bF] [4,7,8] [(13,vB false)] (obC (gtt hb0) (obC (gtt hb0) (obC hb0 (obC (gtf hb1) (obC (gtf hb1) (obC (gtf hb1) (obC (gtf hb1) (obC (gtf hb1) (obC (gtf hb1) (obC (gtf hb1) (obC (gtf hb1) (obC (gtf hb1) (obC hb1 obN))))))))))))) ?_
   refine tD ?_
   obtain he0:=h
   subst res
   exact (endD [] (vB false) []).1
 ·have h:=h.2 hb0
  refine sD kk [bF,bF,bF,bF,bF,bF,bF,bF,bF,bF,bF,bF,bF] [4,7,8] [(13,vB false)] (obC (gtf hb0) (obC (gtf hb0) (obC hb0 (oF (oF (oF (oF (oF (oF (oF (oF (oF (oF obN))))))))))))) ?_
  refine tD ?_
  obtain he0:=h
  subst res
  exact (endD [] (vB false) []).1
set_option maxHeartbeats 1000000 in
theorem zb3 (n:Int) (m:zl) (res:Int) (fin:zl)
 (h:(((decide (w64 (zl.At m+1) > (↑(List.length (zl.L m)):Int)))=true→(res=0∧fin=({ L:=zl.L m,At:=w64 (zl.At m+1) })))∧((decide (w64 (zl.At m+1) > (↑(List.length (zl.L m)):Int)))=false→((0:Int)≤w64 (w64 (zl.At m+1) - 1))∧w64 (w64 (zl.At m+1) - 1) < ↑(List.length (zl.L m))∧(n≠(0:Int))∧(res=(Int.tmod (w64 (gd (zl.L m) (w64 (w64 (zl.At m+1) - 1)))) n)∧fin=({ L:=zl.L m,At:=w64 (zl.At m+1) }))))):zP n m res fin:=by
 unfold zP
 have kk:=cfOk [] 36
 refine fD (x:=bodyOf Tryz.f49) kk Tryz.func49 ?_
 refine wkS [1,3,4] [(1,.ptr 3 0),(3,zp m),(4,vi n)] (by kernel_rfl) ?_
 refine sD kk [] [] [] obN ?_
 refine sD kk [] [] [(3,.agg [vL zE (zl.L m),vi (w64 (zl.At m+1))])] obN ?_
 refine qD ?_
 refine sDE kk [] [] [(64,vB (decide (w64 (zl.At m+1) > (↑(List.length (List.map zE (zl.L m))):Int))))] [(64,vB (decide (w64 (zl.At m+1) > (↑(List.length (zl.L m)):Int))))] obN ?_
 refine cD (t:=21) (b:=decide (w64 (zl.At m+1) > (↑(List.length (zl.L m)):Int))) (fun hb0=>?_) (fun hb0=>?_)
 ·have h:=h.1 hb0
  refine sD kk [] [1,4,64] [(13,vi 0)] obN ?_
  refine tD ?_
  obtain ⟨he0,he1⟩:=h
  subst res fin
  exact (endD [] (vi 0) [.agg [vL zE (zl.L m),vi (w64 (zl.At m+1))]]).1
 ·have h:=h.2 hb0
  refine Sem.skip' (by kernel_rfl) Wk.refl ?_
  show Sem _ _ _ _ _
  refine wkD [64] ?_
  obtain ⟨h1,h⟩:=h
  obtain ⟨h2,h⟩:=h
  obtain ⟨h3,h⟩:=h
  refine sD kk [.e (.pv (.int .u8 (gd (zl.L m) (w64 (w64 (zl.At m+1) - 1)))))] [1,4] [(13,vi (Int.tmod (w64 (gd (zl.L m) (w64 (w64 (zl.At m+1) - 1)))) n))] (obC h1 (obC (zL zE (zl.L m) (w64 (w64 (zl.At m+1) - 1)) _ rfl h1 h2) (obC h3 obN))) ?_
  refine tD ?_
  obtain ⟨he0,he1⟩:=h
  subst res fin
  exact (endD [] (vi (Int.tmod (w64 (gd (zl.L m) (w64 (w64 (zl.At m+1) - 1)))) n)) [.agg [vL zE (zl.L m),vi (w64 (zl.At m+1))]]).1
set_option maxHeartbeats 1000000 in
theorem zgd (s0:zb) (b:Int) (res:zb)
 (h:((w64 (Int.tdiv b (64:Int))=0∨w64 (Int.tdiv b (64:Int))=1∨w64 (Int.tdiv b (64:Int))=2∨w64 (Int.tdiv b (64:Int))=3)∧((decide (w64 (Int.tdiv b (64:Int))=(0:Int)))=true→((decide (w64 (Int.tdiv b (64:Int))=(0:Int)))=true→((0:Int)≤Int.tmod b (64:Int)))∧(res=({ e0:=IntKind.wrap IntKind.u64 (↑(BitVec.toNat (BitVec.ofInt (IntKind.bits IntKind.u64) (zb.e0 s0) ||| BitVec.ofInt (IntKind.bits IntKind.u64) (IntKind.wrap IntKind.u64 ((1:Int) * (2:Int) ^ Min.min (Int.toNat (Int.tmod b (64:Int))) (IntKind.bits IntKind.u64))))):Int),e1:=zb.e1 s0,e2:=zb.e2 s0,e3:=zb.e3 s0 })))∧((decide (w64 (Int.tdiv b (64:Int))=(1:Int)))=true→((decide (w64 (Int.tdiv b (64:Int))=(1:Int)))=true→((0:Int)≤Int.tmod b (64:Int)))∧(res=({ e0:=zb.e0 s0,e1:=IntKind.wrap IntKind.u64 (↑(BitVec.toNat (BitVec.ofInt (IntKind.bits IntKind.u64) (zb.e1 s0) ||| BitVec.ofInt (IntKind.bits IntKind.u64) (IntKind.wrap IntKind.u64 ((1:Int) * (2:Int) ^ Min.min (Int.toNat (Int.tmod b (64:Int))) (IntKind.bits IntKind.u64))))):Int),e2:=zb.e2 s0,e3:=zb.e3 s0 })))∧((decide (w64 (Int.tdiv b (64:Int))=(2:Int)))=true→((decide (w64 (Int.tdiv b (64:Int))=(2:Int)))=true→((0:Int)≤Int.tmod b (64:Int)))∧(res=({ e0:=zb.e0 s0,e1:=zb.e1 s0,e2:=IntKind.wrap IntKind.u64 (↑(BitVec.toNat (BitVec.ofInt (IntKind.bits IntKind.u64) (zb.e2 s0) ||| BitVec.ofInt (IntKind.bits IntKind.u64) (IntKind.wrap IntKind.u64 ((1:Int) * (2:Int) ^ Min.min (Int.toNat (Int.tmod b (64:Int))) (IntKind.bits IntKind.u64))))):Int),e3:=zb.e3 s0 })))∧((decide (w64 (Int.tdiv b (64:Int))=(3:Int)))=true→((decide (w64 (Int.tdiv b (64:Int))=(3:Int)))=true→((0:Int)≤Int.tmod b (64:Int)))∧(res=({ e0:=zb.e0 s0,e1:=zb.e1 s0,e2:=zb.e2 s0,e3:=IntKind.wrap IntKind.u64 (↑(BitVec.toNat (BitVec.ofInt (IntKind.bits IntKind.u64) (zb.e3 s0) ||| BitVec.ofInt (IntKind.bits IntKind.u64) (IntKind.wrap IntKind.u64 ((1:Int) * (2:Int) ^ Min.min (Int.toNat (Int.tmod b (64:Int))) (IntKind.bits IntKind.u64))))):Int) }))))):zbl s0 b res:=by
 unfold zbl
 have kk:=cfOk [16] 17
 refine fD (x:=bodyOf Tryz.f95) kk Tryz.func95 ?_
 refine wkS [1,4] [(1,zy s0),(4,vi b)] (by kernel_rfl) ?_
 refine sD kk [] [1] [(7,.ptr 8 0),(8,zy s0),(13,.ptr 14 0),(14,.agg [vI .u64 0,vI .u64 0,vI .u64 0,vI .u64 0])] obN ?_
 obtain ⟨hor,h⟩:=h
 rcases hor with hb0 | hb0 | hb0 | hb0
 ·have hb0:=decide_eq_true hb0
  have h:=h.1 hb0
  obtain ⟨h1,h⟩:=h
  refine sD kk [.n 0,.n 0] [4] [(8,.agg [vI .u64 (IntKind.wrap IntKind.u64 (↑(BitVec.toNat (BitVec.ofInt (IntKind.bits IntKind.u64) (zb.e0 s0) ||| BitVec.ofInt (IntKind.bits IntKind.u64) (IntKind.wrap IntKind.u64 ((1:Int) * (2:Int) ^ Min.min (Int.toNat (Int.tmod b (64:Int))) (IntKind.bits IntKind.u64))))):Int)),vI .u64 (zb.e1 s0),vI .u64 (zb.e2 s0),vI .u64 (zb.e3 s0)])] (obC (show (64:Int)≠(0:Int) from by first | decide | rfl | trivial) (obC (show (64:Int)≠(0:Int) from by first | decide | rfl | trivial) (obC (of_decide_eq_true hb0) (obC (show (64:Int)≠(0:Int) from by first | decide | rfl | trivial) (obC (h1 hb0) (obC (of_decide_eq_true hb0) obN)))))) ?_
  refine sD kk [] [7,8] [(14,.agg [vI .u64 (IntKind.wrap IntKind.u64 (↑(BitVec.toNat (BitVec.ofInt (IntKind.bits IntKind.u64) (zb.e0 s0) ||| BitVec.ofInt (IntKind.bits IntKind.u64) (IntKind.wrap IntKind.u64 ((1:Int) * (2:Int) ^ Min.min (Int.toNat (Int.tmod b (64:Int))) (IntKind.bits IntKind.u64))))):Int)),vI .u64 (zb.e1 s0),vI .u64 (zb.e2 s0),vI .u64 (zb.e3 s0)])] obN ?_
  refine tD ?_
  obtain he0:=h
  subst res
  exact (endD [] (.agg [vI .u64 (IntKind.wrap IntKind.u64 (↑(BitVec.toNat (BitVec.ofInt (IntKind.bits IntKind.u64) (zb.e0 s0) ||| BitVec.ofInt (IntKind.bits IntKind.u64) (IntKind.wrap IntKind.u64 ((1:Int) * (2:Int) ^ Min.min (Int.toNat (Int.tmod b (64:Int))) (IntKind.bits IntKind.u64))))):Int)),vI .u64 (zb.e1 s0),vI .u64 (zb.e2 s0),vI .u64 (zb.e3 s0)]) []).1
 ·have hb0:=decide_eq_true hb0
  have h:=h.2.1 hb0
  obtain ⟨h2,h⟩:=h
  refine sD kk [.n 1,.n 1] [4] [(8,.agg [vI .u64 (zb.e0 s0),vI .u64 (IntKind.wrap IntKind.u64 (↑(BitVec.toNat (BitVec.ofInt (IntKind.bits IntKind.u64) (zb.e1 s0) ||| BitVec.ofInt (IntKind.bits IntKind.u64) (IntKind.wrap IntKind.u64 ((1:Int) * (2:Int) ^ Min.min (Int.toNat (Int.tmod b (64:Int))) (IntKind.bits IntKind.u64))))):Int)),vI .u64 (zb.e2 s0),vI .u64 (zb.e3 s0)])] (obC (show (64:Int)≠(0:Int) from by first | decide | rfl | trivial) (obC (show (64:Int)≠(0:Int) from by first | decide | rfl | trivial) (obC (of_decide_eq_true hb0) (obC (show (64:Int)≠(0:Int) from by first | decide | rfl | trivial) (obC (h2 hb0) (obC (of_decide_eq_true hb0) obN)))))) ?_
  refine sD kk [] [7,8] [(14,.agg [vI .u64 (zb.e0 s0),vI .u64 (IntKind.wrap IntKind.u64 (↑(BitVec.toNat (BitVec.ofInt (IntKind.bits IntKind.u64) (zb.e1 s0) ||| BitVec.ofInt (IntKind.bits IntKind.u64) (IntKind.wrap IntKind.u64 ((1:Int) * (2:Int) ^ Min.min (Int.toNat (Int.tmod b (64:Int))) (IntKind.bits IntKind.u64))))):Int)),vI .u64 (zb.e2 s0),vI .u64 (zb.e3 s0)])] obN ?_
  refine tD ?_
  obtain he0:=h
  subst res
  exact (endD [] (.agg [vI .u64 (zb.e0 s0),vI .u64 (IntKind.wrap IntKind.u64 (↑(BitVec.toNat (BitVec.ofInt (IntKind.bits IntKind.u64) (zb.e1 s0) ||| BitVec.ofInt (IntKind.bits IntKind.u64) (IntKind.wrap IntKind.u64 ((1:Int) * (2:Int) ^ Min.min (Int.toNat (Int.tmod b (64:Int))) (IntKind.bits IntKind.u64))))):Int)),vI .u64 (zb.e2 s0),vI .u64 (zb.e3 s0)]) []).1
 ·have hb0:=decide_eq_true hb0
  have h:=h.2.2.1 hb0
  obtain ⟨h3,h⟩:=h
  refine sD kk [.n 2,.n 2] [4] [(8,.agg [vI .u64 (zb.e0 s0),vI .u64 (zb.e1 s0),vI .u64 (IntKind.wrap IntKind.u64 (↑(BitVec.toNat (BitVec.ofInt (IntKind.bits IntKind.u64) (zb.e2 s0) ||| BitVec.ofInt (IntKind.bits IntKind.u64) (IntKind.wrap IntKind.u64 ((1:Int) * (2:Int) ^ Min.min (Int.toNat (Int.tmod b (64:Int))) (IntKind.bits IntKind.u64))))):Int)),vI .u64 (zb.e3 s0)])] (obC (show (64:Int)≠(0:Int) from by first | decide | rfl | trivial) (obC (show (64:Int)≠(0:Int) from by first | decide | rfl | trivial) (obC (of_decide_eq_true hb0) (obC (show (64:Int)≠(0:Int) from by first | decide | rfl | trivial) (obC (h3 hb0) (obC (of_decide_eq_true hb0) obN)))))) ?_
  refine sD kk [] [7,8] [(14,.agg [vI .u64 (zb.e0 s0),vI .u64 (zb.e1 s0),vI .u64 (IntKind.wrap IntKind.u64 (↑(BitVec.toNat (BitVec.ofInt (IntKind.bits IntKind.u64) (zb.e2 s0) ||| BitVec.ofInt (IntKind.bits IntKind.u64) (IntKind.wrap IntKind.u64 ((1:Int) * (2:Int) ^ Min.min (Int.toNat (Int.tmod b (64:Int))) (IntKind.bits IntKind.u64))))):Int)),vI .u64 (zb.e3 s0)])] obN ?_
  refine tD ?_
  obtain he0:=h
  subst res
  exact (endD [] (.agg [vI .u64 (zb.e0 s0),vI .u64 (zb.e1 s0),vI .u64 (IntKind.wrap IntKind.u64 (↑(BitVec.toNat (BitVec.ofInt (IntKind.bits IntKind.u64) (zb.e2 s0) ||| BitVec.ofInt (IntKind.bits IntKind.u64) (IntKind.wrap IntKind.u64 ((1:Int) * (2:Int) ^ Min.min (Int.toNat (Int.tmod b (64:Int))) (IntKind.bits IntKind.u64))))):Int)),vI .u64 (zb.e3 s0)]) []).1
 ·have hb0:=decide_eq_true hb0
  have h:=h.2.2.2 hb0
  obtain ⟨h4,h⟩:=h
  refine sD kk [.n 3,.n 3] [4] [(8,.agg [vI .u64 (zb.e0 s0),vI .u64 (zb.e1 s0),vI .u64 (zb.e2 s0),vI .u64 (IntKind.wrap IntKind.u64 (↑(BitVec.toNat (BitVec.ofInt (IntKind.bits IntKind.u64) (zb.e3 s0) ||| BitVec.ofInt (IntKind.bits IntKind.u64) (IntKind.wrap IntKind.u64 ((1:Int) * (2:Int) ^ Min.min (Int.toNat (Int.tmod b (64:Int))) (IntKind.bits IntKind.u64))))):Int))])] (obC (show (64:Int)≠(0:Int) from by first | decide | rfl | trivial) (obC (show (64:Int)≠(0:Int) from by first | decide | rfl | trivial) (obC (of_decide_eq_true hb0) (obC (show (64:Int)≠(0:Int) from by first | decide | rfl | trivial) (obC (h4 hb0) (obC (of_decide_eq_true hb0) obN)))))) ?_
  refine sD kk [] [7,8] [(14,.agg [vI .u64 (zb.e0 s0),vI .u64 (zb.e1 s0),vI .u64 (zb.e2 s0),vI .u64 (IntKind.wrap IntKind.u64 (↑(BitVec.toNat (BitVec.ofInt (IntKind.bits IntKind.u64) (zb.e3 s0) ||| BitVec.ofInt (IntKind.bits IntKind.u64) (IntKind.wrap IntKind.u64 ((1:Int) * (2:Int) ^ Min.min (Int.toNat (Int.tmod b (64:Int))) (IntKind.bits IntKind.u64))))):Int))])] obN ?_
  refine tD ?_
  obtain he0:=h
  subst res
  exact (endD [] (.agg [vI .u64 (zb.e0 s0),vI .u64 (zb.e1 s0),vI .u64 (zb.e2 s0),vI .u64 (IntKind.wrap IntKind.u64 (↑(BitVec.toNat (BitVec.ofInt (IntKind.bits IntKind.u64) (zb.e3 s0) ||| BitVec.ofInt (IntKind.bits IntKind.u64) (IntKind.wrap IntKind.u64 ((1:Int) * (2:Int) ^ Min.min (Int.toNat (Int.tmod b (64:Int))) (IntKind.bits IntKind.u64))))):Int))]) []).1
set_option maxHeartbeats 1000000 in
theorem zgP (from0:Int) (to0:Int) (res:zb)
 (h:(∃ (Inv16:Int→Int→Int→Int→Int→Prop) (mu17:Int→Int→Int→Int→Int→Nat),Inv16 0 0 0 0 0∧(∀ (s_e0_1:Int) (s_e1_1:Int) (s_e2_1:Int) (s_e3_1:Int) (b:Int),Inv16 s_e0_1 s_e1_1 s_e2_1 s_e3_1 b→(((decide (b < (256:Int)))=true→(∃ J22:Int→Int→Int→Int→Prop,(∀ (s_e0_3:Int) (s_e1_3:Int) (s_e2_3:Int) (s_e3_3:Int),J22 s_e0_3 s_e1_3 s_e2_3 s_e3_3→(Inv16 s_e0_3 s_e1_3 s_e2_3 s_e3_3 (w64 (b+1))∧mu17 s_e0_3 s_e1_3 s_e2_3 s_e3_3 (w64 (b+1)) < mu17 s_e0_1 s_e1_1 s_e2_1 s_e3_1 b))∧(((decide (b≥from0) && decide (b≤to0))=true→(∃ r0_5:zb,zbl ({ e0:=s_e0_1,e1:=s_e1_1,e2:=s_e2_1,e3:=s_e3_1 }) b r0_5∧J22 (zb.e0 r0_5) (zb.e1 r0_5) (zb.e2 r0_5) (zb.e3 r0_5)))∧((decide (b≥from0) && decide (b≤to0))=false→J22 s_e0_1 s_e1_1 s_e2_1 s_e3_1))))∧((decide (b < (256:Int)))=false→(res=({ e0:=s_e0_1,e1:=s_e1_1,e2:=s_e2_1,e3:=s_e3_1 }))))))):zaX from0 to0 res:=by
 unfold zaX
 have kk:=cfOk [22] 23
 refine fD (x:=bodyOf Tryz.f59) kk Tryz.func59 ?_
 refine wkS [1,4] [(1,vi from0),(4,vi to0)] (by kernel_rfl) ?_
 refine sD kk [] [] [(13,.ptr 14 0),(14,.agg [vI .u64 0,vI .u64 0,vI .u64 0,vI .u64 0])] obN ?_
 refine sD kk [] [] [(16,.ptr 17 0),(17,.agg [vI .u64 0,vI .u64 0,vI .u64 0,vI .u64 0])] obN ?_
 refine qD ?_
 refine sD kk [] [] [(19,vi 0)] obN ?_
 refine bD (id:=0) ?_
 obtain ⟨Inv16,mu17,h0Inv16,hInv16⟩:=h
 refine loD (fun (q:Int×Int×Int×Int×Int)=>(fun (s_e0_1:Int) (s_e1_1:Int) (s_e2_1:Int) (s_e3_1:Int) (b:Int)=>([(1,vi from0),(4,vi to0),(13,.ptr 14 0),(14,.agg [vI .u64 0,vI .u64 0,vI .u64 0,vI .u64 0]),(16,.ptr 17 0),(17,.agg [vI .u64 s_e0_1,vI .u64 s_e1_1,vI .u64 s_e2_1,vI .u64 s_e3_1]),(19,vi b)]:Sta)) q.1 q.2.1 q.2.2.1 q.2.2.2.1 q.2.2.2.2) (fun (q:Int×Int×Int×Int×Int)=>Inv16 q.1 q.2.1 q.2.2.1 q.2.2.2.1 q.2.2.2.2) (fun (q:Int×Int×Int×Int×Int)=>mu17 q.1 q.2.1 q.2.2.1 q.2.2.2.1 q.2.2.2.2) (0,0,0,0,0) [] h0Inv16 ?_
 rintro ⟨s_e0_1,s_e1_1,s_e2_1,s_e3_1,b⟩ hi
 have h:=hInv16 s_e0_1 s_e1_1 s_e2_1 s_e3_1 b hi
 refine qD ?_
 refine sD kk [] [] [(25,vB (decide (b < (256:Int))))] obN ?_
 refine cD (t:=8) (b:=decide (b < (256:Int))) (fun hb18=>?_) (fun hb18=>?_)
 ·have h:=h.1 hb18
  refine Sem.skip' (by kernel_rfl) Wk.refl ?_
  show Sem _ _ _ _ _
  refine wkD [25] ?_
  obtain ⟨J22,hJ22,h⟩:=h
  refine sjD (fun (q:Int×Int×Int×Int)=>J22 q.1 q.2.1 q.2.2.1 q.2.2.2) (fun (q:Int×Int×Int×Int)=>(fun (s_e0_3:Int) (s_e1_3:Int) (s_e2_3:Int) (s_e3_3:Int)=>([(1,vi from0),(4,vi to0),(13,.ptr 14 0),(14,.agg [vI .u64 0,vI .u64 0,vI .u64 0,vI .u64 0]),(16,.ptr 17 0),(17,.agg [vI .u64 s_e0_3,vI .u64 s_e1_3,vI .u64 s_e2_3,vI .u64 s_e3_3]),(19,vi b)]:Sta)) q.1 q.2.1 q.2.2.1 q.2.2.2) ?_ ?_
  ·rintro ⟨s_e0_3,s_e1_3,s_e2_3,s_e3_3⟩ hj
   have h:=hJ22 s_e0_3 s_e1_3 s_e2_3 s_e3_3 hj
   refine rD kk [] [] [(19,vi (w64 (b+1)))] obN ?_
   exact lD (s_e0_3,s_e1_3,s_e2_3,s_e3_3,(w64 (b+1))) [] h
  ·refine bD (id:=1) ?_
   refine sM [] [(55,vB (decide (b≥from0) && decide (b≤to0)))] ?_ (fun hk0=>?_)
   ·refine cD (t:=18) (b:=decide (b≥from0) && decide (b≤to0)) (fun hb24=>?_) (fun hb24=>?_)
    ·have h:=h.1 hb24
     obtain ⟨r0_5,hc25,h⟩:=h
     refine rD kk [.c (zy r0_5) []] [55] [(17,zy r0_5)] (obC hc25 obN) ?_
     exact jD ((zb.e0 r0_5),(zb.e1 r0_5),(zb.e2 r0_5),(zb.e3 r0_5)) [] h
    ·have h:=h.2 hb24
     refine Sem.skip' (by kernel_rfl) Wk.refl ?_
     exact jD (s_e0_1,s_e1_1,s_e2_1,s_e3_1) [] h
   ·rcases Bool.eq_false_or_eq_true (decide (b≥from0)) with hb23 | hb23
    ·refine sD kk [bT,bT,bT,bT] [] [(55,vB (decide (b≤to0)))] (obC (gtt hb23) (obC (gtt hb23) (obC (gtt hb23) (obC hb23 obN)))) ?_
     exact Sem.cast (by try rw [hb23];kernel_rfl) hk0
    ·refine sD kk [bF,bF,bF,bF] [] [(55,vB false)] (obC (gtf hb23) (obC (gtf hb23) (obC (gtf hb23) (obC hb23 obN)))) ?_
     exact Sem.cast (by try rw [hb23];kernel_rfl) hk0
 ·have h:=h.2 hb18
  refine xD (i:=0) ?_
  show Sem _ _ _ _ _
  refine wkD [1,4,19,25] ?_
  refine sD kk [] [16,17] [(14,.agg [vI .u64 s_e0_1,vI .u64 s_e1_1,vI .u64 s_e2_1,vI .u64 s_e3_1])] obN ?_
  refine tD ?_
  obtain he0:=h
  subst res
  exact (endD [] (.agg [vI .u64 s_e0_1,vI .u64 s_e1_1,vI .u64 s_e2_1,vI .u64 s_e3_1]) []).1
set_option maxHeartbeats 1000000 in
theorem zgf (s0:zb) (b:Int) (res:Bool)
 (h:(((decide (b≥(0:Int)))=true→(((decide (b < (256:Int)))=true→((w64 (Int.tdiv b (64:Int))=0∨w64 (Int.tdiv b (64:Int))=1∨w64 (Int.tdiv b (64:Int))=2∨w64 (Int.tdiv b (64:Int))=3)∧((decide (w64 (Int.tdiv b (64:Int))=(0:Int)))=true→((decide (b≥(0:Int)))=true→((decide (b < (256:Int)))=true→((decide (w64 (Int.tdiv b (64:Int))=(0:Int)))=true→((0:Int)≤Int.tmod b (64:Int)))))∧(res=(IntKind.wrap IntKind.u64 (↑(BitVec.toNat (BitVec.ofInt (IntKind.bits IntKind.u64) (Int.fdiv (zb.e0 s0) ((2:Int) ^ Min.min (Int.toNat (Int.tmod b (64:Int))) (IntKind.bits IntKind.u64))) &&& BitVec.ofInt (IntKind.bits IntKind.u64) (1:Int))):Int) == 1)))∧((decide (w64 (Int.tdiv b (64:Int))=(1:Int)))=true→((decide (b≥(0:Int)))=true→((decide (b < (256:Int)))=true→((decide (w64 (Int.tdiv b (64:Int))=(1:Int)))=true→((0:Int)≤Int.tmod b (64:Int)))))∧(res=(IntKind.wrap IntKind.u64 (↑(BitVec.toNat (BitVec.ofInt (IntKind.bits IntKind.u64) (Int.fdiv (zb.e1 s0) ((2:Int) ^ Min.min (Int.toNat (Int.tmod b (64:Int))) (IntKind.bits IntKind.u64))) &&& BitVec.ofInt (IntKind.bits IntKind.u64) (1:Int))):Int) == 1)))∧((decide (w64 (Int.tdiv b (64:Int))=(2:Int)))=true→((decide (b≥(0:Int)))=true→((decide (b < (256:Int)))=true→((decide (w64 (Int.tdiv b (64:Int))=(2:Int)))=true→((0:Int)≤Int.tmod b (64:Int)))))∧(res=(IntKind.wrap IntKind.u64 (↑(BitVec.toNat (BitVec.ofInt (IntKind.bits IntKind.u64) (Int.fdiv (zb.e2 s0) ((2:Int) ^ Min.min (Int.toNat (Int.tmod b (64:Int))) (IntKind.bits IntKind.u64))) &&& BitVec.ofInt (IntKind.bits IntKind.u64) (1:Int))):Int) == 1)))∧((decide (w64 (Int.tdiv b (64:Int))=(3:Int)))=true→((decide (b≥(0:Int)))=true→((decide (b < (256:Int)))=true→((decide (w64 (Int.tdiv b (64:Int))=(3:Int)))=true→((0:Int)≤Int.tmod b (64:Int)))))∧(res=(IntKind.wrap IntKind.u64 (↑(BitVec.toNat (BitVec.ofInt (IntKind.bits IntKind.u64) (Int.fdiv (zb.e3 s0) ((2:Int) ^ Min.min (Int.toNat (Int.tmod b (64:Int))) (IntKind.bits IntKind.u64))) &&& BitVec.ofInt (IntKind.bits IntKind.u64) (1:Int))):Int) == 1)))))∧((decide (b < (256:Int)))=false→(res=false))))∧((decide (b≥(0:Int)))=false→(res=false)))):zaw s0 b res:=by
 unfold zaw
 have kk:=cfOk [] 22
 refine fD (x:=bodyOf Tryz.f58) kk Tryz.func58 ?_
 refine wkS [1,4] [(1,zy s0),(4,vi b)] (by kernel_rfl) ?_
 refine sD kk [] [1] [(7,.ptr 8 0),(8,zy s0)] obN ?_
 rcases Bool.eq_false_or_eq_true (decide (b≥(0:Int))) with hb0 | hb0
 ·have h:=h.1 hb0
  rcases Bool.eq_false_or_eq_true (decide (b < (256:Int))) with hb1 | hb1
  ·have h:=h.1 hb1
   obtain ⟨hor,h⟩:=h
   rcases hor with hb2 | hb2 | hb2 | hb2
   ·have hb2:=decide_eq_true hb2
    have h:=h.1 hb2
    obtain ⟨h3,h⟩:=h
    refine sD kk [bT,bT,bT,bT,bT,bT,.n 0,bT,bT,bT,bT,bT,bT,bT] [4,7,8] [(13,vB (IntKind.wrap IntKind.u64 (↑(BitVec.toNat (BitVec.ofInt (IntKind.bits IntKind.u64) (Int.fdiv (zb.e0 s0) ((2:Int) ^ Min.min (Int.toNat (Int.tmod b (64:Int))) (IntKind.bits IntKind.u64))) &&& BitVec.ofInt (IntKind.bits IntKind.u64) (1:Int))):Int) == 1))] (obC (gtt hb0) (obC (gtt hb0) (obC hb0 (obC (gtt hb1) (obC (gtt hb1) (obC (show (64:Int)≠(0:Int) from by first | decide | rfl | trivial) (obC (gtt hb1) (obC (of_decide_eq_true hb2) (obC (gtt hb1) (obC (gtt hb1) (obC (gtt hb1) (obC (show (64:Int)≠(0:Int) from by first | decide | rfl | trivial) (obC (gtt hb1) (obC (((h3 hb0) hb1) hb2) (obC (gtt hb1) (obC (gtt hb1) (obC hb1 obN))))))))))))))))) ?_
    refine tD ?_
    obtain he0:=h
    subst res
    exact (endD [] (vB (IntKind.wrap IntKind.u64 (↑(BitVec.toNat (BitVec.ofInt (IntKind.bits IntKind.u64) (Int.fdiv (zb.e0 s0) ((2:Int) ^ Min.min (Int.toNat (Int.tmod b (64:Int))) (IntKind.bits IntKind.u64))) &&& BitVec.ofInt (IntKind.bits IntKind.u64) (1:Int))):Int) == 1)) []).1
   ·have hb2:=decide_eq_true hb2
    have h:=h.2.1 hb2
    obtain ⟨h4,h⟩:=h
    refine sD kk [bT,bT,bT,bT,bT,bT,.n 1,bT,bT,bT,bT,bT,bT,bT] [4,7,8] [(13,vB (IntKind.wrap IntKind.u64 (↑(BitVec.toNat (BitVec.ofInt (IntKind.bits IntKind.u64) (Int.fdiv (zb.e1 s0) ((2:Int) ^ Min.min (Int.toNat (Int.tmod b (64:Int))) (IntKind.bits IntKind.u64))) &&& BitVec.ofInt (IntKind.bits IntKind.u64) (1:Int))):Int) == 1))] (obC (gtt hb0) (obC (gtt hb0) (obC hb0 (obC (gtt hb1) (obC (gtt hb1) (obC (show (64:Int)≠(0:Int) from by first | decide | rfl | trivial) (obC (gtt hb1) (obC (of_decide_eq_true hb2) (obC (gtt hb1) (obC (gtt hb1) (obC (gtt hb1) (obC (show (64:Int)≠(0:Int) from by first | decide | rfl | trivial) (obC (gtt hb1) (obC (((h4 hb0) hb1) hb2) (obC (gtt hb1) (obC (gtt hb1) (obC hb1 obN))))))))))))))))) ?_
    refine tD ?_
    obtain he0:=h
    subst res
    exact (endD [] (vB (IntKind.wrap IntKind.u64 (↑(BitVec.toNat (BitVec.ofInt (IntKind.bits IntKind.u64) (Int.fdiv (zb.e1 s0) ((2:Int) ^ Min.min (Int.toNat (Int.tmod b (64:Int))) (IntKind.bits IntKind.u64))) &&& BitVec.ofInt (IntKind.bits IntKind.u64) (1:Int))):Int) == 1)) []).1
   ·have hb2:=decide_eq_true hb2
    have h:=h.2.2.1 hb2
    obtain ⟨h5,h⟩:=h
    refine sD kk [bT,bT,bT,bT,bT,bT,.n 2,bT,bT,bT,bT,bT,bT,bT] [4,7,8] [(13,vB (IntKind.wrap IntKind.u64 (↑(BitVec.toNat (BitVec.ofInt (IntKind.bits IntKind.u64) (Int.fdiv (zb.e2 s0) ((2:Int) ^ Min.min (Int.toNat (Int.tmod b (64:Int))) (IntKind.bits IntKind.u64))) &&& BitVec.ofInt (IntKind.bits IntKind.u64) (1:Int))):Int) == 1))] (obC (gtt hb0) (obC (gtt hb0) (obC hb0 (obC (gtt hb1) (obC (gtt hb1) (obC (show (64:Int)≠(0:Int) from by first | decide | rfl | trivial) (obC (gtt hb1) (obC (of_decide_eq_true hb2) (obC (gtt hb1) (obC (gtt hb1) (obC (gtt hb1) (obC (show (64:Int)≠(0:Int) from by first | decide | rfl | trivial) (obC (gtt hb1) (obC (((h5 hb0) hb1) hb2) (obC (gtt hb1) (obC (gtt hb1) (obC hb1 obN))))))))))))))))) ?_
    refine tD ?_
    obtain he0:=h
    subst res
    exact (endD [] (vB (IntKind.wrap IntKind.u64 (↑(BitVec.toNat (BitVec.ofInt (IntKind.bits IntKind.u64) (Int.fdiv (zb.e2 s0) ((2:Int) ^ Min.min (Int.toNat (Int.tmod b (64:Int))) (IntKind.bits IntKind.u64))) &&& BitVec.ofInt (IntKind.bits IntKind.u64) (1:Int))):Int) == 1)) []).1
   ·have hb2:=decide_eq_true hb2
    have h:=h.2.2.2 hb2
    obtain ⟨h6,h⟩:=h
    refine sD kk [bT,bT,bT,bT,bT,bT,.n 3,bT,bT,bT,bT,bT,bT,bT] [4,7,8] [(13,vB (IntKind.wrap IntKind.u64 (↑(BitVec.toNat (BitVec.ofInt (IntKind.bits IntKind.u64) (Int.fdiv (zb.e3 s0) ((2:Int) ^ Min.min (Int.toNat (Int.tmod b (64:Int))) (IntKind.bits IntKind.u64))) &&& BitVec.ofInt (IntKind.bits IntKind.u64) (1:Int))):Int) == 1))] (obC (gtt hb0) (obC (gtt hb0) (obC hb0 (obC (gtt hb1) (obC (gtt hb1) (obC (show (64:Int)≠(0:Int) from by first | decide | rfl | trivial) (obC (gtt hb1) (obC (of_decide_eq_true hb2) (obC (gtt hb1) (obC (gtt hb1) (obC (gtt hb1) (obC (show (64:Int)≠(0:Int) from by first | decide | rfl | trivial) (obC (gtt hb1) (obC (((h6 hb0) hb1) hb2) (obC (gtt hb1) (obC (gtt hb1) (obC hb1 obN))))))))))))))))) ?_
    refine tD ?_
    obtain he0:=h
    subst res
    exact (endD [] (vB (IntKind.wrap IntKind.u64 (↑(BitVec.toNat (BitVec.ofInt (IntKind.bits IntKind.u64) (Int.fdiv (zb.e3 s0) ((2:Int) ^ Min.min (Int.toNat (Int.tmod b (64:Int))) (IntKind.bits IntKind.u64))) &&& BitVec.ofInt (IntKind.bits IntKind.u64) (1:Int))):Int) == 1)) []).1
  ·have h:=h.2 hb1
   refine sD kk [bT,bT,bT,bF,bF,bF,bF,bF,bF,bF,bF,bF,bF] [4,7,8] [(13,vB false)] (obC (gtt hb0) (obC (gtt hb0) (obC hb0 (obC (gtf hb1) (obC (gtf hb1) (obC (gtf hb1) (obC (gtf hb1) (obC (gtf hb1) (obC (gtf hb1) (obC (gtf hb1) (obC (gtf hb1) (obC (gtf hb1) (obC hb1 obN))))))))))))) ?_
   refine tD ?_
   obtain he0:=h
   subst res
   exact (endD [] (vB false) []).1
 ·have h:=h.2 hb0
  refine sD kk [bF,bF,bF,bF,bF,bF,bF,bF,bF,bF,bF,bF,bF] [4,7,8] [(13,vB false)] (obC (gtf hb0) (obC (gtf hb0) (obC hb0 (oF (oF (oF (oF (oF (oF (oF (oF (oF (oF obN))))))))))))) ?_
  refine tD ?_
  obtain he0:=h
  subst res
  exact (endD [] (vB false) []).1
set_option maxHeartbeats 1000000 in
theorem zge (a:zb) (res:zb)
 (h:(∃ (Inv16:Int→Int→Int→Int→Int→Prop) (mu17:Int→Int→Int→Int→Int→Nat),Inv16 0 0 0 0 0∧(∀ (s_e0_1:Int) (s_e1_1:Int) (s_e2_1:Int) (s_e3_1:Int) (i:Int),Inv16 s_e0_1 s_e1_1 s_e2_1 s_e3_1 i→(((decide (i < (256:Int)))=true→(∃ J22:Int→Int→Int→Int→Prop,(∀ (s_e0_3:Int) (s_e1_3:Int) (s_e2_3:Int) (s_e3_3:Int),J22 s_e0_3 s_e1_3 s_e2_3 s_e3_3→(Inv16 s_e0_3 s_e1_3 s_e2_3 s_e3_3 (w64 (i+1))∧mu17 s_e0_3 s_e1_3 s_e2_3 s_e3_3 (w64 (i+1)) < mu17 s_e0_1 s_e1_1 s_e2_1 s_e3_1 i))∧(∃ r0_10:Bool,zaw a i r0_10∧(((!r0_10)=true→(∃ r0_11:zb,zbl ({ e0:=s_e0_1,e1:=s_e1_1,e2:=s_e2_1,e3:=s_e3_1 }) i r0_11∧J22 (zb.e0 r0_11) (zb.e1 r0_11) (zb.e2 r0_11) (zb.e3 r0_11)))∧((!r0_10)=false→J22 s_e0_1 s_e1_1 s_e2_1 s_e3_1)))))∧((decide (i < (256:Int)))=false→(res=({ e0:=s_e0_1,e1:=s_e1_1,e2:=s_e2_1,e3:=s_e3_1 }))))))):zbP a res:=by
 unfold zbP
 have kk:=cfOk [16] 17
 refine fD (x:=bodyOf Tryz.f97) kk Tryz.func97 ?_
 refine wkS [1] [(1,zy a)] (by kernel_rfl) ?_
 refine sD kk [] [1] [(4,.ptr 5 0),(5,zy a),(7,.ptr 8 0),(8,.agg [vI .u64 0,vI .u64 0,vI .u64 0,vI .u64 0])] obN ?_
 refine sD kk [] [] [(10,.ptr 11 0),(11,.agg [vI .u64 0,vI .u64 0,vI .u64 0,vI .u64 0])] obN ?_
 refine qD ?_
 refine sD kk [] [] [(13,vi 0)] obN ?_
 refine bD (id:=0) ?_
 obtain ⟨Inv16,mu17,h0Inv16,hInv16⟩:=h
 refine loD (fun (q:Int×Int×Int×Int×Int)=>(fun (s_e0_1:Int) (s_e1_1:Int) (s_e2_1:Int) (s_e3_1:Int) (i:Int)=>([(4,.ptr 5 0),(5,zy a),(7,.ptr 8 0),(8,.agg [vI .u64 0,vI .u64 0,vI .u64 0,vI .u64 0]),(10,.ptr 11 0),(11,.agg [vI .u64 s_e0_1,vI .u64 s_e1_1,vI .u64 s_e2_1,vI .u64 s_e3_1]),(13,vi i)]:Sta)) q.1 q.2.1 q.2.2.1 q.2.2.2.1 q.2.2.2.2) (fun (q:Int×Int×Int×Int×Int)=>Inv16 q.1 q.2.1 q.2.2.1 q.2.2.2.1 q.2.2.2.2) (fun (q:Int×Int×Int×Int×Int)=>mu17 q.1 q.2.1 q.2.2.1 q.2.2.2.1 q.2.2.2.2) (0,0,0,0,0) [] h0Inv16 ?_
 rintro ⟨s_e0_1,s_e1_1,s_e2_1,s_e3_1,i⟩ hi
 have h:=hInv16 s_e0_1 s_e1_1 s_e2_1 s_e3_1 i hi
 refine qD ?_
 refine sD kk [] [] [(19,vB (decide (i < (256:Int))))] obN ?_
 refine cD (t:=6) (b:=decide (i < (256:Int))) (fun hb18=>?_) (fun hb18=>?_)
 ·have h:=h.1 hb18
  refine Sem.skip' (by kernel_rfl) Wk.refl ?_
  show Sem _ _ _ _ _
  refine wkD [19] ?_
  obtain ⟨J22,hJ22,h⟩:=h
  refine sjD (fun (q:Int×Int×Int×Int)=>J22 q.1 q.2.1 q.2.2.1 q.2.2.2) (fun (q:Int×Int×Int×Int)=>(fun (s_e0_3:Int) (s_e1_3:Int) (s_e2_3:Int) (s_e3_3:Int)=>([(4,.ptr 5 0),(5,zy a),(7,.ptr 8 0),(8,.agg [vI .u64 0,vI .u64 0,vI .u64 0,vI .u64 0]),(10,.ptr 11 0),(11,.agg [vI .u64 s_e0_3,vI .u64 s_e1_3,vI .u64 s_e2_3,vI .u64 s_e3_3]),(13,vi i)]:Sta)) q.1 q.2.1 q.2.2.1 q.2.2.2) ?_ ?_
  ·rintro ⟨s_e0_3,s_e1_3,s_e2_3,s_e3_3⟩ hj
   have h:=hJ22 s_e0_3 s_e1_3 s_e2_3 s_e3_3 hj
   refine rD kk [] [] [(13,vi (w64 (i+1)))] obN ?_
   exact lD (s_e0_3,s_e1_3,s_e2_3,s_e3_3,(w64 (i+1))) [] h
  ·refine bD (id:=1) ?_
   obtain ⟨r0_10,hc23,h⟩:=h
   refine sD kk [.c (vB r0_10) []] [] [(37,vB (!r0_10))] (obC hc23 obN) ?_
   refine cD (t:=12) (b:=!r0_10) (fun hb24=>?_) (fun hb24=>?_)
   ·have h:=h.1 hb24
    obtain ⟨r0_11,hc25,h⟩:=h
    refine rD kk [.c (zy r0_11) []] [37] [(11,zy r0_11)] (obC hc25 obN) ?_
    exact jD ((zb.e0 r0_11),(zb.e1 r0_11),(zb.e2 r0_11),(zb.e3 r0_11)) [] h
   ·have h:=h.2 hb24
    refine Sem.skip' (by kernel_rfl) Wk.refl ?_
    exact jD (s_e0_1,s_e1_1,s_e2_1,s_e3_1) [] h
 ·have h:=h.2 hb18
  refine xD (i:=0) ?_
  show Sem _ _ _ _ _
  refine wkD [4,5,13,19] ?_
  refine sD kk [] [10,11] [(8,.agg [vI .u64 s_e0_1,vI .u64 s_e1_1,vI .u64 s_e2_1,vI .u64 s_e3_1])] obN ?_
  refine tD ?_
  obtain he0:=h
  subst res
  exact (endD [] (.agg [vI .u64 s_e0_1,vI .u64 s_e1_1,vI .u64 s_e2_1,vI .u64 s_e3_1]) []).1
set_option maxHeartbeats 1000000 in
theorem zfI (b:Int) (res:za)
 (h:(∃ r0:zb,zaX b b r0∧(res=({ Kind:=(2:Int),Set:=r0,Lo:=(0:Int),Hi:=(0:Int),Kids:=[] })))):zaC b res:=by
 unfold zaC
 have kk:=cfOk [] 7
 refine fD (x:=bodyOf Tryz.f27) kk Tryz.func27 ?_
 refine wkS [1] [(1,vi b)] (by kernel_rfl) ?_
 refine sDE kk [] [] [(7,.ptr 8 0),(8,.agg [vi 0,vI .u64 0,vI .u64 0,vI .u64 0,vI .u64 0,vi 0,vi 0,.own 28 ([])])] [(7,.ptr 8 0),(8,.agg [vi 0,vI .u64 0,vI .u64 0,vI .u64 0,vI .u64 0,vi 0,vi 0,oL 28 ze ([])])] obN ?_
 obtain ⟨r0,hc0,h⟩:=h
 refine sDE kk [.c (zy r0) []] [1] [(8,.agg [vi 2,vI .u64 (zb.e0 r0),vI .u64 (zb.e1 r0),vI .u64 (zb.e2 r0),vI .u64 (zb.e3 r0),vi 0,vi 0,.own 28 ([])])] [(8,.agg [vi 2,vI .u64 (zb.e0 r0),vI .u64 (zb.e1 r0),vI .u64 (zb.e2 r0),vI .u64 (zb.e3 r0),vi 0,vi 0,oL 28 ze ([])])] (obC hc0 obN) ?_
 refine tD ?_
 obtain he0:=h
 subst res
 exact (endD [] (.agg [vi 2,vI .u64 (zb.e0 r0),vI .u64 (zb.e1 r0),vI .u64 (zb.e2 r0),vI .u64 (zb.e3 r0),vi 0,vi 0,oL 28 ze ([])]) []).1
set_option maxHeartbeats 1000000 in
theorem zav (m:zl) (res:za) (fin:zl)
 (h:(∃ r0:Int,∃ o:zl,zP 8 m r0 o∧(((r0 == 0)=true→(res=({ Kind:=(1:Int),Set:={ e0:=(0:Int),e1:=(0:Int),e2:=(0:Int),e3:=(0:Int) },Lo:=(0:Int),Hi:=(0:Int),Kids:=[] })∧fin=o))∧((r0 == 0)=false→(((r0 == 1)=true→(∃ r0_1:zb,zaX ((97:Int)) ((99:Int)) r0_1∧(res=({ Kind:=(2:Int),Set:=r0_1,Lo:=(0:Int),Hi:=(0:Int),Kids:=[] })∧fin=o)))∧((r0 == 1)=false→(((r0 == (2:Int))=true→(∃ r0_2:zb,zaX ((97:Int)) ((97:Int)) r0_2∧(∃ r0_3:zb,zbP r0_2 r0_3∧(res=({ Kind:=(2:Int),Set:=r0_3,Lo:=(0:Int),Hi:=(0:Int),Kids:=[] })∧fin=o))))∧((r0 == (2:Int))=false→(((r0 == (3:Int))=true→(∃ r0_4:Int,∃ o_1:zl,zP ((6:Int)) o r0_4 o_1∧((0:Int)≤r0_4)∧(Int.toNat r0_4 < (6:Nat))∧r0_4 < ↑(List.length ([(10:Int),(45:Int),(90:Int),(0:Int),(255:Int),(48:Int)]))∧(∃ r0_5:za,zaC (gd [(10:Int),(45:Int),(90:Int),(0:Int),(255:Int),(48:Int)] r0_4) r0_5∧(res=r0_5∧fin=o_1))))∧((r0 == (3:Int))=false→(∃ r0_6:Int,∃ o_2:zl,zP 3 o r0_6 o_2∧(∃ r0_7:za,zaC (w64 ((97:Int)+r0_6)) r0_7∧(res=r0_7∧fin=o_2))))))))))))):zaU m res fin:=by
 unfold zaU
 have kk:=cfOk [] 29
 refine fD (x:=bodyOf Tryz.f62) kk Tryz.func62 ?_
 refine wkS [1,3] [(1,.ptr 3 0),(3,zp m)] (by kernel_rfl) ?_
 refine sDE kk [] [] [(7,.ptr 8 0),(8,.agg [vi 0,vI .u64 0,vI .u64 0,vI .u64 0,vI .u64 0,vi 0,vi 0,.own 28 ([])])] [(7,.ptr 8 0),(8,.agg [vi 0,vI .u64 0,vI .u64 0,vI .u64 0,vI .u64 0,vi 0,vi 0,oL 28 ze ([])])] obN ?_
 refine qD ?_
 obtain ⟨r0,o,hc0,h⟩:=h
 refine sD kk [.c (vi r0) [zp o]] [] [(3,zp o),(13,vi r0)] (obC hc0 obN) ?_
 refine bD (id:=0) ?_
 refine sD kk [] [] [(16,vB (r0 == 0))] obN ?_
 refine cD (t:=5) (b:=r0 == 0) (fun hb1=>?_) (fun hb1=>?_)
 ·have h:=h.1 hb1
  refine sDE kk [] [1,13,16] [(8,.agg [vi 1,vI .u64 0,vI .u64 0,vI .u64 0,vI .u64 0,vi 0,vi 0,.own 28 ([])])] [(8,.agg [vi 1,vI .u64 0,vI .u64 0,vI .u64 0,vI .u64 0,vi 0,vi 0,oL 28 ze ([])])] obN ?_
  refine tD ?_
  obtain ⟨he0,he1⟩:=h
  subst res fin
  exact (endD [] (.agg [vi 1,vI .u64 0,vI .u64 0,vI .u64 0,vI .u64 0,vi 0,vi 0,oL 28 ze ([])]) [zp o]).1
 ·have h:=h.2 hb1
  refine sD kk [] [16] [(25,vB (r0 == 1))] obN ?_
  refine cD (t:=8) (b:=r0 == 1) (fun hb2=>?_) (fun hb2=>?_)
  ·have h:=h.1 hb2
   obtain ⟨r0_1,hc3,h⟩:=h
   refine sDE kk [.c (zy r0_1) []] [1,13,25] [(8,.agg [vi 2,vI .u64 (zb.e0 r0_1),vI .u64 (zb.e1 r0_1),vI .u64 (zb.e2 r0_1),vI .u64 (zb.e3 r0_1),vi 0,vi 0,.own 28 ([])])] [(8,.agg [vi 2,vI .u64 (zb.e0 r0_1),vI .u64 (zb.e1 r0_1),vI .u64 (zb.e2 r0_1),vI .u64 (zb.e3 r0_1),vi 0,vi 0,oL 28 ze ([])])] (obC hc3 obN) ?_
   refine tD ?_
   obtain ⟨he0,he1⟩:=h
   subst res fin
   exact (endD [] (.agg [vi 2,vI .u64 (zb.e0 r0_1),vI .u64 (zb.e1 r0_1),vI .u64 (zb.e2 r0_1),vI .u64 (zb.e3 r0_1),vi 0,vi 0,oL 28 ze ([])]) [zp o]).1
  ·have h:=h.2 hb2
   refine sD kk [] [25] [(37,vB (r0 == (2:Int)))] obN ?_
   refine cD (t:=12) (b:=r0 == (2:Int)) (fun hb4=>?_) (fun hb4=>?_)
   ·have h:=h.1 hb4
    obtain ⟨r0_2,hc5,h⟩:=h
    obtain ⟨r0_3,hc6,h⟩:=h
    refine sDE kk [.c (zy r0_2) [],.c (zy r0_3) []] [1,13,37] [(8,.agg [vi 2,vI .u64 (zb.e0 r0_3),vI .u64 (zb.e1 r0_3),vI .u64 (zb.e2 r0_3),vI .u64 (zb.e3 r0_3),vi 0,vi 0,.own 28 ([])])] [(8,.agg [vi 2,vI .u64 (zb.e0 r0_3),vI .u64 (zb.e1 r0_3),vI .u64 (zb.e2 r0_3),vI .u64 (zb.e3 r0_3),vi 0,vi 0,oL 28 ze ([])])] (obC hc5 (obC hc6 obN)) ?_
    refine tD ?_
    obtain ⟨he0,he1⟩:=h
    subst res fin
    exact (endD [] (.agg [vi 2,vI .u64 (zb.e0 r0_3),vI .u64 (zb.e1 r0_3),vI .u64 (zb.e2 r0_3),vI .u64 (zb.e3 r0_3),vi 0,vi 0,oL 28 ze ([])]) [zp o]).1
   ·have h:=h.2 hb4
    refine sD kk [] [13,37] [(52,vB (r0 == (3:Int)))] obN ?_
    refine cD (t:=17) (b:=r0 == (3:Int)) (fun hb7=>?_) (fun hb7=>?_)
    ·have h:=h.1 hb7
     obtain ⟨r0_4,o_1,hc8,h⟩:=h
     obtain ⟨h9,h⟩:=h
     obtain ⟨h10,h⟩:=h
     obtain ⟨h11,h⟩:=h
     obtain ⟨r0_5,hc12,h⟩:=h
     refine sD kk [.c (vi r0_4) [zp o_1],.e (fi (gd [(10:Int),(45:Int),(90:Int),(0:Int),(255:Int),(48:Int)] r0_4)),.c (zS r0_5) []] [1,52] [(3,zp o_1),(8,zS r0_5)] (obC hc8 (obC h9 (obC h10 (obC (show ([FV.pv (Value.int IntKind.i64 (10)),FV.pv (Value.int IntKind.i64 (45:Int)),FV.pv (Value.int IntKind.i64 (90:Int)),FV.pv (Value.int IntKind.i64 (0)),FV.pv (Value.int IntKind.i64 (255:Int)),FV.pv (Value.int IntKind.i64 (48:Int))])[((0:Nat)+Int.toNat r0_4:Nat)]?=some (fi (gd [(10:Int),(45:Int),(90:Int),(0:Int),(255:Int),(48:Int)] r0_4)) from by have:=zL zd ([(10:Int),(45:Int),(90:Int),(0:Int),(255:Int),(48:Int)]) r0_4 _ rfl h9 h11;simpa only [nm,enq,zd] using this) (obC hc12 obN))))) ?_
     refine tD ?_
     obtain ⟨he0,he1⟩:=h
     subst res fin
     exact (endD [] (zS r0_5) [zp o_1]).1
    ·have h:=h.2 hb7
     refine Sem.skip' (by kernel_rfl) Wk.refl ?_
     show Sem _ _ _ _ _
     refine wkD [52] ?_
     obtain ⟨r0_6,o_2,hc13,h⟩:=h
     obtain ⟨r0_7,hc14,h⟩:=h
     refine sD kk [.c (vi r0_6) [zp o_2],.c (zS r0_7) []] [1] [(3,zp o_2),(8,zS r0_7)] (obC hc13 (obC hc14 obN)) ?_
     refine tD ?_
     obtain ⟨he0,he1⟩:=h
     subst res fin
     exact (endD [] (zS r0_7) [zp o_2]).1
set_option maxHeartbeats 1000000 in
theorem zep (kind:Int) (l:(List za)) (res:za)
 (h:(∃ (Inv32:List za→Int→Prop) (mu33:List za→Int→Nat),Inv32 ([]) 0∧(∀ (x_Kids_1:List za) (i:Int),Inv32 x_Kids_1 i→(((decide (i < (↑(List.length l):Int)))=true→(∃ J44:List za→Prop,(∀ (x_Kids_3:List za),J44 x_Kids_3→(Inv32 x_Kids_3 (w64 (i+1))∧mu33 x_Kids_3 (w64 (i+1)) < mu33 x_Kids_1 i))∧((0:Int)≤i)∧i < ↑(List.length l)∧(((za.Kind (gd l i) == kind)=true→((0:Int)≤i)∧i < ↑(List.length l)∧((List.length x_Kids_1+List.length (za.Kids (gd l i))) * (80:Nat)≤(2:Nat) ^ (47:Nat))∧J44 (x_Kids_1++za.Kids (gd l i)))∧((za.Kind (gd l i) == kind)=false→((0:Int)≤i)∧i < ↑(List.length l)∧((List.length x_Kids_1+(1:Nat)) * (80:Nat)≤(2:Nat) ^ (47:Nat))∧J44 (x_Kids_1++[gd l i])))))∧((decide (i < (↑(List.length l):Int)))=false→(res=({ Kind:=kind,Set:={ e0:=(0:Int),e1:=(0:Int),e2:=(0:Int),e3:=(0:Int) },Lo:=(0:Int),Hi:=(0:Int),Kids:=x_Kids_1 }))))))):z6 kind l res:=by
 unfold z6
 have kk:=cfOk [40] 41
 refine fD (x:=bodyOf Tryz.f63) kk Tryz.func63 ?_
 refine wkS [1,4] [(1,vi kind),(4,vL ze l)] (by kernel_rfl) ?_
 refine sDE kk [] [] [(13,.ptr 14 0),(14,.agg [vi 0,vI .u64 0,vI .u64 0,vI .u64 0,vI .u64 0,vi 0,vi 0,.own 28 ([])])] [(13,.ptr 14 0),(14,.agg [vi 0,vI .u64 0,vI .u64 0,vI .u64 0,vI .u64 0,vi 0,vi 0,oL 28 ze ([])])] obN ?_
 refine sDE kk [] [] [(16,.ptr 17 0),(17,.agg [vi kind,vI .u64 0,vI .u64 0,vI .u64 0,vI .u64 0,vi 0,vi 0,.own 28 ([])])] [(16,.ptr 17 0),(17,.agg [vi kind,vI .u64 0,vI .u64 0,vI .u64 0,vI .u64 0,vi 0,vi 0,oL 28 ze ([])])] obN ?_
 refine qD ?_
 refine sD kk [] [] [(19,vi 0)] obN ?_
 refine bD (id:=0) ?_
 obtain ⟨Inv32,mu33,h0Inv32,hInv32⟩:=h
 refine loD (fun (q:List za×Int)=>(fun (x_Kids_1:List za) (i:Int)=>([(1,vi kind),(4,vL ze l),(13,.ptr 14 0),(14,.agg [vi 0,vI .u64 0,vI .u64 0,vI .u64 0,vI .u64 0,vi 0,vi 0,oL 28 ze ([])]),(16,.ptr 17 0),(17,.agg [vi kind,vI .u64 0,vI .u64 0,vI .u64 0,vI .u64 0,vi 0,vi 0,oL 28 ze x_Kids_1]),(19,vi i)]:Sta)) q.1 q.2) (fun (q:List za×Int)=>Inv32 q.1 q.2) (fun (q:List za×Int)=>mu33 q.1 q.2) (([]),0) [] h0Inv32 ?_
 rintro ⟨x_Kids_1,i⟩ hi
 have h:=hInv32 x_Kids_1 i hi
 refine qD ?_
 refine sDE kk [] [] [(37,vB (decide (i < (↑(List.length (List.map ze l)):Int))))] [(37,vB (decide (i < (↑(List.length l):Int))))] obN ?_
 refine cD (t:=12) (b:=decide (i < (↑(List.length l):Int))) (fun hb34=>?_) (fun hb34=>?_)
 ·have h:=h.1 hb34
  refine Sem.skip' (by kernel_rfl) Wk.refl ?_
  show Sem _ _ _ _ _
  refine wkD [37] ?_
  obtain ⟨J44,hJ44,h⟩:=h
  refine sjD (fun (q:List za)=>J44 q) (fun (q:List za)=>(fun (x_Kids_3:List za)=>([(1,vi kind),(4,vL ze l),(13,.ptr 14 0),(14,.agg [vi 0,vI .u64 0,vI .u64 0,vI .u64 0,vI .u64 0,vi 0,vi 0,oL 28 ze ([])]),(16,.ptr 17 0),(17,.agg [vi kind,vI .u64 0,vI .u64 0,vI .u64 0,vI .u64 0,vi 0,vi 0,oL 28 ze x_Kids_3]),(19,vi i)]:Sta)) q) ?_ ?_
  ·rintro x_Kids_3 hj
   have h:=hJ44 x_Kids_3 hj
   refine rD kk [] [] [(19,vi (w64 (i+1)))] obN ?_
   exact lD (x_Kids_3,(w64 (i+1))) [] h
  ·refine bD (id:=1) ?_
   obtain ⟨h45,h⟩:=h
   obtain ⟨h46,h⟩:=h
   refine sD kk [.e (zD (gd l i))] [] [(64,vB (za.Kind (gd l i) == kind))] (obC h45 (obC (zL ze l i _ (zt _) h45 h46) obN)) ?_
   refine cD (t:=21) (b:=za.Kind (gd l i) == kind) (fun hb47=>?_) (fun hb47=>?_)
   ·have h:=h.1 hb47
    obtain ⟨h48,h⟩:=h
    obtain ⟨h49,h⟩:=h
    obtain ⟨h50,h⟩:=h
    refine rDE kk [.e (zD (gd l i))] [64] [(17,.agg [vi kind,vI .u64 0,vI .u64 0,vI .u64 0,vI .u64 0,vi 0,vi 0,.own 28 (List.map ze x_Kids_1++List.map ze (za.Kids (gd l i)))])] [(17,.agg [vi kind,vI .u64 0,vI .u64 0,vI .u64 0,vI .u64 0,vi 0,vi 0,oL 28 ze (x_Kids_1++za.Kids (gd l i))])] (obC h48 (obC (zL ze l i _ (zt _) h48 h49) (obC (show (0:Nat)=(0:Nat)∧List.length (List.map ze x_Kids_1)=List.length (List.map ze x_Kids_1) from ⟨rfl,rfl⟩) (obC (show (List.length (List.map ze x_Kids_1)+List.length (List.map ze (za.Kids (gd l i)))) * (80:Nat)≤(2:Nat) ^ (47:Nat) from by simpa only [nm] using h50) (obC (show List.all (List.map ze (za.Kids (gd l i))) (FV.fits (8:Nat))=true from by first | exact fits_api_Rx _ | rfl | simp [isByteF,FV.fits,FV.size,FV.cells,FV.one,zt]) obN))))) ?_
    exact jD (x_Kids_1++za.Kids (gd l i)) [] h
   ·have h:=h.2 hb47
    obtain ⟨h51,h⟩:=h
    obtain ⟨h52,h⟩:=h
    obtain ⟨h53,h⟩:=h
    refine rDE kk [.e (zD (gd l i))] [64] [(17,.agg [vi kind,vI .u64 0,vI .u64 0,vI .u64 0,vI .u64 0,vi 0,vi 0,.own 28 (List.map ze x_Kids_1++List.take (List.length [FV.agg [FV.pv (Value.int IntKind.i64 (za.Kind (gd l i))),FV.pv (Value.int IntKind.u64 (zb.e0 (za.Set (gd l i)))),FV.pv (Value.int IntKind.u64 (zb.e1 (za.Set (gd l i)))),FV.pv (Value.int IntKind.u64 (zb.e2 (za.Set (gd l i)))),FV.pv (Value.int IntKind.u64 (zb.e3 (za.Set (gd l i)))),FV.pv (Value.int IntKind.i64 (za.Lo (gd l i))),FV.pv (Value.int IntKind.i64 (za.Hi (gd l i))),FV.sl (List.map ze (za.Kids (gd l i)))]]) (List.drop (0:Nat) [FV.agg [FV.pv (Value.int IntKind.i64 (za.Kind (gd l i))),FV.pv (Value.int IntKind.u64 (zb.e0 (za.Set (gd l i)))),FV.pv (Value.int IntKind.u64 (zb.e1 (za.Set (gd l i)))),FV.pv (Value.int IntKind.u64 (zb.e2 (za.Set (gd l i)))),FV.pv (Value.int IntKind.u64 (zb.e3 (za.Set (gd l i)))),FV.pv (Value.int IntKind.i64 (za.Lo (gd l i))),FV.pv (Value.int IntKind.i64 (za.Hi (gd l i))),FV.sl (List.map ze (za.Kids (gd l i)))]]))])] [(17,.agg [vi kind,vI .u64 0,vI .u64 0,vI .u64 0,vI .u64 0,vi 0,vi 0,oL 28 ze (x_Kids_1++[gd l i])])] (obC h51 (obC (zL ze l i _ (zt _) h51 h52) (obC (show (0:Nat)=(0:Nat)∧List.length (List.map ze x_Kids_1)=List.length (List.map ze x_Kids_1) from ⟨rfl,rfl⟩) (obC (show (List.length (List.map ze x_Kids_1)+List.length (List.take (1:Nat) (List.drop (0:Nat) [FV.agg [FV.pv (Value.int IntKind.i64 (za.Kind (gd l i))),FV.pv (Value.int IntKind.u64 (zb.e0 (za.Set (gd l i)))),FV.pv (Value.int IntKind.u64 (zb.e1 (za.Set (gd l i)))),FV.pv (Value.int IntKind.u64 (zb.e2 (za.Set (gd l i)))),FV.pv (Value.int IntKind.u64 (zb.e3 (za.Set (gd l i)))),FV.pv (Value.int IntKind.i64 (za.Lo (gd l i))),FV.pv (Value.int IntKind.i64 (za.Hi (gd l i))),FV.sl (List.map ze (za.Kids (gd l i)))]]))) * (80:Nat)≤(2:Nat) ^ (47:Nat) from by simpa only [nm] using h53) (obC (show List.all (List.take (1:Nat) (List.drop (0:Nat) [FV.agg [FV.pv (Value.int IntKind.i64 (za.Kind (gd l i))),FV.pv (Value.int IntKind.u64 (zb.e0 (za.Set (gd l i)))),FV.pv (Value.int IntKind.u64 (zb.e1 (za.Set (gd l i)))),FV.pv (Value.int IntKind.u64 (zb.e2 (za.Set (gd l i)))),FV.pv (Value.int IntKind.u64 (zb.e3 (za.Set (gd l i)))),FV.pv (Value.int IntKind.i64 (za.Lo (gd l i))),FV.pv (Value.int IntKind.i64 (za.Hi (gd l i))),FV.sl (List.map ze (za.Kids (gd l i)))]])) (FV.fits (8:Nat))=true from by first | exact zbo _ | rfl | simp [isByteF,FV.fits,FV.size,FV.cells,FV.one,zt]) obN))))) ?_
    exact jD (x_Kids_1++[gd l i]) [] h
 ·have h:=h.2 hb34
  refine xD (i:=0) ?_
  show Sem _ _ _ _ _
  refine wkD [1,4,19,37] ?_
  refine sD kk [] [16,17] [(14,.agg [vi kind,vI .u64 0,vI .u64 0,vI .u64 0,vI .u64 0,vi 0,vi 0,oL 28 ze x_Kids_1])] (obC (show (0:Nat)=(0:Nat)∧List.length (List.map ze x_Kids_1)=List.length (List.map ze x_Kids_1) from ⟨rfl,rfl⟩) obN) ?_
  refine tD ?_
  obtain he0:=h
  subst res
  exact (endD [] (.agg [vi kind,vI .u64 0,vI .u64 0,vI .u64 0,vI .u64 0,vi 0,vi 0,oL 28 ze x_Kids_1]) []).1
set_option maxHeartbeats 1000000 in
theorem za6 (deep:Int) (m:zl) (res:za) (fin:zl)
 (h:(∃ r0:Int,∃ o:zl,zP 8 m r0 o∧(((decide (deep < (1:Int)) || (decide (r0 < (2:Int)) || decide (zl.At o≥(↑(List.length (zl.L o)):Int))))=true→(∃ r0_1:za,∃ o_1:zl,zaU o r0_1 o_1∧(res=r0_1∧fin=o_1)))∧((decide (deep < (1:Int)) || (decide (r0 < (2:Int)) || decide (zl.At o≥(↑(List.length (zl.L o)):Int))))=false→(((decide (r0 < (5:Int)))=true→(∃ r0_2:za,∃ o_2:zl,zN (w64 (deep - 1)) o r0_2 o_2∧(∃ r0_3:za,∃ o_3:zl,zN (w64 (deep - 1)) o_2 r0_3 o_3∧(∃ r0_4:za,z6 3 ([r0_2,r0_3]) r0_4∧(res=r0_4∧fin=o_3)))))∧((decide (r0 < (5:Int)))=false→(((r0 == (5:Int))=true→(∃ r0_5:za,∃ o_4:zl,zN (w64 (deep - 1)) o r0_5 o_4∧(∃ r0_6:za,∃ o_5:zl,zN (w64 (deep - 1)) o_4 r0_6 o_5∧(∃ r0_7:za,z6 4 ([r0_5,r0_6]) r0_7∧(res=r0_7∧fin=o_5)))))∧((r0 == (5:Int))=false→(∃ r0_8:Int,∃ o_6:zl,zP 3 o r0_8 o_6∧(∃ J17:List Int→Int→Int→Prop,(∀ (o0_L:List Int) (o0_At:Int) (x_Hi:Int),J17 o0_L o0_At x_Hi→(∃ r0_11:za,∃ o_9:zl,zN (w64 (deep - 2)) ({ L:=o0_L,At:=o0_At }) r0_11 o_9∧(res=({ Kind:=(5:Int),Set:={ e0:=(0:Int),e1:=(0:Int),e2:=(0:Int),e3:=(0:Int) },Lo:=r0_8,Hi:=x_Hi,Kids:=[r0_11] })∧fin=o_9)))∧(∃ r0_12:Int,∃ o_10:zl,zP 2 o_6 r0_12 o_10∧(((r0_12 == 1)=true→(∃ r0_13:Int,∃ o_11:zl,zP 2 o_10 r0_13 o_11∧J17 (zl.L o_11) (zl.At o_11) (w64 ((if r0_8 > (1:Int) then r0_8 else (1:Int))+r0_13))))∧((r0_12 == 1)=false→J17 (zl.L o_10) (zl.At o_10) (-1)))))))))))))):zN deep m res fin:=by
 unfold zN
 have kk:=cfOk [74] 75
 refine fD (x:=bodyOf Tryz.f25) kk Tryz.func25 ?_
 refine wkS [1,3,4] [(1,.ptr 3 0),(3,zp m),(4,vi deep)] (by kernel_rfl) ?_
 refine sDE kk [] [] [(13,.ptr 14 0),(14,.agg [vi 0,vI .u64 0,vI .u64 0,vI .u64 0,vI .u64 0,vi 0,vi 0,.own 28 ([])])] [(13,.ptr 14 0),(14,.agg [vi 0,vI .u64 0,vI .u64 0,vI .u64 0,vI .u64 0,vi 0,vi 0,oL 28 ze ([])])] obN ?_
 obtain ⟨r0,o,hc0,h⟩:=h
 refine sD kk [.c (vi r0) [zp o]] [] [(3,zp o),(16,vi r0)] (obC hc0 obN) ?_
 refine qD ?_
 refine sM [] [(79,vB (decide (deep < (1:Int)) || (decide (r0 < (2:Int)) || decide (zl.At o≥(↑(List.length (zl.L o)):Int)))))] ?_ (fun hk0=>?_)
 ·refine cD (t:=26) (b:=decide (deep < (1:Int)) || (decide (r0 < (2:Int)) || decide (zl.At o≥(↑(List.length (zl.L o)):Int)))) (fun hb3=>?_) (fun hb3=>?_)
  ·have h:=h.1 hb3
   obtain ⟨r0_1,o_1,hc4,h⟩:=h
   refine sD kk [.c (zS r0_1) [zp o_1]] [1,4,16,79] [(3,zp o_1),(14,zS r0_1)] (obC hc4 obN) ?_
   refine tD ?_
   obtain ⟨he0,he1⟩:=h
   subst res fin
   exact (endD [] (zS r0_1) [zp o_1]).1
  ·have h:=h.2 hb3
   refine Sem.skip' (by kernel_rfl) Wk.refl ?_
   show Sem _ _ _ _ _
   refine wkD [79] ?_
   refine qD ?_
   refine bD (id:=0) ?_
   refine sD kk [] [] [(88,vB (decide (r0 < (5:Int))))] obN ?_
   refine cD (t:=29) (b:=decide (r0 < (5:Int))) (fun hb5=>?_) (fun hb5=>?_)
   ·have h:=h.1 hb5
    obtain ⟨r0_2,o_2,hc6,h⟩:=h
    obtain ⟨r0_3,o_3,hc7,h⟩:=h
    obtain ⟨r0_4,hc8,h⟩:=h
    refine sD kk [.c (zS r0_2) [zp o_2],.c (zS r0_3) [zp o_3],.c (zS r0_4) []] [1,4,16,88] [(3,zp o_3),(14,zS r0_4)] (obC hc6 (obC hc7 (obC (Eq.mp (by unfold z6;(try simp only [List.drop_zero,List.take_length]);first | done | simp only [nm,enq]:z6 3 ([r0_2,r0_3]) r0_4=CallE Tryz.prog 63 [vi 3,.f (FV.sl (List.take (List.length [FV.agg [FV.pv (Value.int IntKind.i64 (za.Kind r0_2)),FV.pv (Value.int IntKind.u64 (zb.e0 (za.Set r0_2))),FV.pv (Value.int IntKind.u64 (zb.e1 (za.Set r0_2))),FV.pv (Value.int IntKind.u64 (zb.e2 (za.Set r0_2))),FV.pv (Value.int IntKind.u64 (zb.e3 (za.Set r0_2))),FV.pv (Value.int IntKind.i64 (za.Lo r0_2)),FV.pv (Value.int IntKind.i64 (za.Hi r0_2)),FV.sl (List.take (List.length (List.map ze (za.Kids r0_2))) (List.drop (0:Nat) (List.map ze (za.Kids r0_2))))],FV.agg [FV.pv (Value.int IntKind.i64 (za.Kind r0_3)),FV.pv (Value.int IntKind.u64 (zb.e0 (za.Set r0_3))),FV.pv (Value.int IntKind.u64 (zb.e1 (za.Set r0_3))),FV.pv (Value.int IntKind.u64 (zb.e2 (za.Set r0_3))),FV.pv (Value.int IntKind.u64 (zb.e3 (za.Set r0_3))),FV.pv (Value.int IntKind.i64 (za.Lo r0_3)),FV.pv (Value.int IntKind.i64 (za.Hi r0_3)),FV.sl (List.take (List.length (List.map ze (za.Kids r0_3))) (List.drop (0:Nat) (List.map ze (za.Kids r0_3))))]]) (List.drop (0:Nat) [FV.agg [FV.pv (Value.int IntKind.i64 (za.Kind r0_2)),FV.pv (Value.int IntKind.u64 (zb.e0 (za.Set r0_2))),FV.pv (Value.int IntKind.u64 (zb.e1 (za.Set r0_2))),FV.pv (Value.int IntKind.u64 (zb.e2 (za.Set r0_2))),FV.pv (Value.int IntKind.u64 (zb.e3 (za.Set r0_2))),FV.pv (Value.int IntKind.i64 (za.Lo r0_2)),FV.pv (Value.int IntKind.i64 (za.Hi r0_2)),FV.sl (List.take (List.length (List.map ze (za.Kids r0_2))) (List.drop (0:Nat) (List.map ze (za.Kids r0_2))))],FV.agg [FV.pv (Value.int IntKind.i64 (za.Kind r0_3)),FV.pv (Value.int IntKind.u64 (zb.e0 (za.Set r0_3))),FV.pv (Value.int IntKind.u64 (zb.e1 (za.Set r0_3))),FV.pv (Value.int IntKind.u64 (zb.e2 (za.Set r0_3))),FV.pv (Value.int IntKind.u64 (zb.e3 (za.Set r0_3))),FV.pv (Value.int IntKind.i64 (za.Lo r0_3)),FV.pv (Value.int IntKind.i64 (za.Hi r0_3)),FV.sl (List.take (List.length (List.map ze (za.Kids r0_3))) (List.drop (0:Nat) (List.map ze (za.Kids r0_3))))]])))] [] (zS r0_4) []) hc8) obN))) ?_
    refine tD ?_
    obtain ⟨he0,he1⟩:=h
    subst res fin
    exact (endD [] (zS r0_4) [zp o_3]).1
   ·have h:=h.2 hb5
    refine sD kk [] [16,88] [(127,vB (r0 == (5:Int)))] obN ?_
    refine cD (t:=42) (b:=r0 == (5:Int)) (fun hb9=>?_) (fun hb9=>?_)
    ·have h:=h.1 hb9
     obtain ⟨r0_5,o_4,hc10,h⟩:=h
     obtain ⟨r0_6,o_5,hc11,h⟩:=h
     obtain ⟨r0_7,hc12,h⟩:=h
     refine sD kk [.c (zS r0_5) [zp o_4],.c (zS r0_6) [zp o_5],.c (zS r0_7) []] [1,4,127] [(3,zp o_5),(14,zS r0_7)] (obC hc10 (obC hc11 (obC (Eq.mp (by unfold z6;(try simp only [List.drop_zero,List.take_length]);first | done | simp only [nm,enq]:z6 4 ([r0_5,r0_6]) r0_7=CallE Tryz.prog 63 [vi 4,.f (FV.sl (List.take (List.length [FV.agg [FV.pv (Value.int IntKind.i64 (za.Kind r0_5)),FV.pv (Value.int IntKind.u64 (zb.e0 (za.Set r0_5))),FV.pv (Value.int IntKind.u64 (zb.e1 (za.Set r0_5))),FV.pv (Value.int IntKind.u64 (zb.e2 (za.Set r0_5))),FV.pv (Value.int IntKind.u64 (zb.e3 (za.Set r0_5))),FV.pv (Value.int IntKind.i64 (za.Lo r0_5)),FV.pv (Value.int IntKind.i64 (za.Hi r0_5)),FV.sl (List.take (List.length (List.map ze (za.Kids r0_5))) (List.drop (0:Nat) (List.map ze (za.Kids r0_5))))],FV.agg [FV.pv (Value.int IntKind.i64 (za.Kind r0_6)),FV.pv (Value.int IntKind.u64 (zb.e0 (za.Set r0_6))),FV.pv (Value.int IntKind.u64 (zb.e1 (za.Set r0_6))),FV.pv (Value.int IntKind.u64 (zb.e2 (za.Set r0_6))),FV.pv (Value.int IntKind.u64 (zb.e3 (za.Set r0_6))),FV.pv (Value.int IntKind.i64 (za.Lo r0_6)),FV.pv (Value.int IntKind.i64 (za.Hi r0_6)),FV.sl (List.take (List.length (List.map ze (za.Kids r0_6))) (List.drop (0:Nat) (List.map ze (za.Kids r0_6))))]]) (List.drop (0:Nat) [FV.agg [FV.pv (Value.int IntKind.i64 (za.Kind r0_5)),FV.pv (Value.int IntKind.u64 (zb.e0 (za.Set r0_5))),FV.pv (Value.int IntKind.u64 (zb.e1 (za.Set r0_5))),FV.pv (Value.int IntKind.u64 (zb.e2 (za.Set r0_5))),FV.pv (Value.int IntKind.u64 (zb.e3 (za.Set r0_5))),FV.pv (Value.int IntKind.i64 (za.Lo r0_5)),FV.pv (Value.int IntKind.i64 (za.Hi r0_5)),FV.sl (List.take (List.length (List.map ze (za.Kids r0_5))) (List.drop (0:Nat) (List.map ze (za.Kids r0_5))))],FV.agg [FV.pv (Value.int IntKind.i64 (za.Kind r0_6)),FV.pv (Value.int IntKind.u64 (zb.e0 (za.Set r0_6))),FV.pv (Value.int IntKind.u64 (zb.e1 (za.Set r0_6))),FV.pv (Value.int IntKind.u64 (zb.e2 (za.Set r0_6))),FV.pv (Value.int IntKind.u64 (zb.e3 (za.Set r0_6))),FV.pv (Value.int IntKind.i64 (za.Lo r0_6)),FV.pv (Value.int IntKind.i64 (za.Hi r0_6)),FV.sl (List.take (List.length (List.map ze (za.Kids r0_6))) (List.drop (0:Nat) (List.map ze (za.Kids r0_6))))]])))] [] (zS r0_7) []) hc12) obN))) ?_
     refine tD ?_
     obtain ⟨he0,he1⟩:=h
     subst res fin
     exact (endD [] (zS r0_7) [zp o_5]).1
    ·have h:=h.2 hb9
     refine Sem.skip' (by kernel_rfl) Wk.refl ?_
     show Sem _ _ _ _ _
     refine wkD [127] ?_
     obtain ⟨r0_8,o_6,hc13,h⟩:=h
     refine sDE kk [.c (vi r0_8) [zp o_6]] [] [(3,zp o_6),(19,.ptr 20 0),(20,.agg [vi 5,vI .u64 0,vI .u64 0,vI .u64 0,vI .u64 0,vi r0_8,vi (-1),.own 28 ([])])] [(3,zp o_6),(19,.ptr 20 0),(20,.agg [vi 5,vI .u64 0,vI .u64 0,vI .u64 0,vI .u64 0,vi r0_8,vi (-1),oL 28 ze ([])])] (obC hc13 obN) ?_
     obtain ⟨J17,hJ17,h⟩:=h
     refine sjD (fun (q:List Int×Int×Int)=>J17 q.1 q.2.1 q.2.2) (fun (q:List Int×Int×Int)=>(fun (o0_L:List Int) (o0_At:Int) (x_Hi:Int)=>([(1,.ptr 3 0),(3,.agg [vL zE o0_L,vi o0_At]),(4,vi deep),(13,.ptr 14 0),(14,.agg [vi 0,vI .u64 0,vI .u64 0,vI .u64 0,vI .u64 0,vi 0,vi 0,oL 28 ze ([])]),(19,.ptr 20 0),(20,.agg [vi 5,vI .u64 0,vI .u64 0,vI .u64 0,vI .u64 0,vi r0_8,vi x_Hi,oL 28 ze ([])])]:Sta)) q.1 q.2.1 q.2.2) ?_ ?_
     ·rintro ⟨o0_L,o0_At,x_Hi⟩ hj
      have h:=hJ17 o0_L o0_At x_Hi hj
      obtain ⟨r0_11,o_9,hc18,h⟩:=h
      refine sDE kk [.c (zS r0_11) [zp o_9]] [1,4] [(3,zp o_9),(20,.agg [vi 5,vI .u64 0,vI .u64 0,vI .u64 0,vI .u64 0,vi r0_8,vi x_Hi,.own 28 ([FV.agg [FV.pv (Value.int IntKind.i64 (za.Kind r0_11)),FV.pv (Value.int IntKind.u64 (zb.e0 (za.Set r0_11))),FV.pv (Value.int IntKind.u64 (zb.e1 (za.Set r0_11))),FV.pv (Value.int IntKind.u64 (zb.e2 (za.Set r0_11))),FV.pv (Value.int IntKind.u64 (zb.e3 (za.Set r0_11))),FV.pv (Value.int IntKind.i64 (za.Lo r0_11)),FV.pv (Value.int IntKind.i64 (za.Hi r0_11)),FV.sl (List.take (List.length (List.map ze (za.Kids r0_11))) (List.drop (0:Nat) (List.map ze (za.Kids r0_11))))]])])] [(3,zp o_9),(20,.agg [vi 5,vI .u64 0,vI .u64 0,vI .u64 0,vI .u64 0,vi r0_8,vi x_Hi,oL 28 ze ([r0_11])])] (obC hc18 obN) ?_
      refine sD kk [] [19,20] [(14,.agg [vi 5,vI .u64 0,vI .u64 0,vI .u64 0,vI .u64 0,vi r0_8,vi x_Hi,oL 28 ze ([r0_11])])] (obC (show (0:Nat)=(0:Nat)∧(1:Nat)=List.length (List.map ze [r0_11]) from by first | decide | rfl | trivial | (simp only [nm]<;>first | decide | rfl | omega)) obN) ?_
      refine tD ?_
      obtain ⟨he0,he1⟩:=h
      subst res fin
      exact (endD [] (.agg [vi 5,vI .u64 0,vI .u64 0,vI .u64 0,vI .u64 0,vi r0_8,vi x_Hi,oL 28 ze ([r0_11])]) [zp o_9]).1
     ·obtain ⟨r0_12,o_10,hc19,h⟩:=h
      refine sD kk [.c (vi r0_12) [zp o_10]] [] [(3,zp o_10),(181,vB (r0_12 == 1))] (obC hc19 obN) ?_
      refine cD (t:=60) (b:=r0_12 == 1) (fun hb20=>?_) (fun hb20=>?_)
      ·have h:=h.1 hb20
       obtain ⟨r0_13,o_11,hc21,h⟩:=h
       refine rDE kk [.c (vi r0_13) [zp o_11]] [181] [(3,zp o_11),(20,.agg [vi 5,vI .u64 0,vI .u64 0,vI .u64 0,vI .u64 0,vi r0_8,vi (w64 ((if true=true then if r0_8 > (1:Int) then r0_8 else (1:Int) else if r0_8 < (1:Int) then r0_8 else (1:Int))+r0_13)),oL 28 ze ([])])] [(3,zp o_11),(20,.agg [vi 5,vI .u64 0,vI .u64 0,vI .u64 0,vI .u64 0,vi r0_8,vi (w64 ((if r0_8 > (1:Int) then r0_8 else (1:Int))+r0_13)),oL 28 ze ([])])] (obC hc21 obN) ?_
       exact jD ((zl.L o_11),(zl.At o_11),(w64 ((if r0_8 > (1:Int) then r0_8 else (1:Int))+r0_13))) [] h
      ·have h:=h.2 hb20
       refine Sem.skip' (by kernel_rfl) Wk.refl ?_
       exact jD ((zl.L o_10),(zl.At o_10),(-1)) [] h
 ·rcases Bool.eq_false_or_eq_true (decide (deep < (1:Int))) with hb1 | hb1
  ·refine sD kk [bF,bF,bT,bF,bF,bF,bF,bF,bF,bF,bF,bF,bF,bT] [] [(79,vB true)] (obC (gff hb1) (obC (gff hb1) (obC hb1 (oF (oF (oF (oF (oF (oF (oF (oF (oF (oF (oT obN)))))))))))))) ?_
   exact Sem.cast (by try rw [hb1];kernel_rfl) hk0
  ·rcases Bool.eq_false_or_eq_true (decide (r0 < (2:Int))) with hb2 | hb2
   ·refine sD kk [bT,bT,bF,bF,bF,bF,bF,bF,bF,bF,bF,bF,bF,bT] [] [(79,vB true)] (obC (gft hb1) (obC (gft hb1) (obC hb1 (obC (gff hb2) (obC (gff hb2) (obC (gff hb2) (obC (gff hb2) (obC (gff hb2) (obC (gff hb2) (obC (gff hb2) (obC (gff hb2) (obC (gff hb2) (obC (gff hb2) (obC hb2 obN)))))))))))))) ?_
    exact Sem.cast (by try rw [hb1];try rw [hb2];kernel_rfl) hk0
   ·refine sDE kk [bT,bT,bF,bT,bT,bT,bT,bT,bT,bT,bT,bT,bT,bF] [] [(79,vB (decide (zl.At o≥(↑(List.length (List.map zE (zl.L o))):Int))))] [(79,vB (decide (zl.At o≥(↑(List.length (zl.L o)):Int))))] (obC (gft hb1) (obC (gft hb1) (obC hb1 (obC (gft hb2) (obC (gft hb2) (obC (gft hb2) (obC (gft hb2) (obC (gft hb2) (obC (gft hb2) (obC (gft hb2) (obC (gft hb2) (obC (gft hb2) (obC (gft hb2) (obC hb2 obN)))))))))))))) ?_
    exact Sem.cast (by try rw [hb1];try rw [hb2];kernel_rfl) hk0
set_option maxHeartbeats 1000000 in
theorem zfC (x:za) (res:Int)
 (h:(((za.Kind x == (2:Int))=true→(res=1))∧((za.Kind x == (2:Int))=false→(∃ J3:Bool→Prop,(∀ (t9:Bool),J3 t9→(((t9)=true→(∃ (Inv14:Int→Int→Prop) (mu15:Int→Int→Nat),Inv14 0 0∧(∀ (n:Int) (i:Int),Inv14 n i→(((decide (i < (↑(List.length (za.Kids x)):Int)))=true→((0:Int)≤i)∧i < ↑(List.length (za.Kids x))∧(∃ r0_2:Int,zah (gd (za.Kids x) i) r0_2∧(((decide (w64 (n+r0_2) > (1000000:Int)))=true→(res=((1000000:Int))))∧((decide (w64 (n+r0_2) > (1000000:Int)))=false→(Inv14 (w64 (n+r0_2)) (w64 (i+1))∧mu15 (w64 (n+r0_2)) (w64 (i+1)) < mu15 n i)))))∧((decide (i < (↑(List.length (za.Kids x)):Int)))=false→(∃ J22:Int→Prop,(∀ (n_1:Int),J22 n_1→(res=(if false=true then if (1000000:Int) > n_1 then (1000000:Int) else n_1 else if (1000000:Int) < n_1 then (1000000:Int) else n_1)))∧(((za.Kind x == (5:Int))=true→J22 (w64 (n * if (if false=true then if (if za.Hi x > za.Lo x then za.Hi x else za.Lo x) > (1000:Int) then if za.Hi x > za.Lo x then za.Hi x else za.Lo x else (1000:Int) else if (if za.Hi x > za.Lo x then za.Hi x else za.Lo x) < (1000:Int) then if za.Hi x > za.Lo x then za.Hi x else za.Lo x else (1000:Int)) > (1:Int) then if false=true then if (if za.Hi x > za.Lo x then za.Hi x else za.Lo x) > (1000:Int) then if za.Hi x > za.Lo x then za.Hi x else za.Lo x else (1000:Int) else if (if za.Hi x > za.Lo x then za.Hi x else za.Lo x) < (1000:Int) then if za.Hi x > za.Lo x then za.Hi x else za.Lo x else (1000:Int) else (1:Int))))∧((za.Kind x == (5:Int))=false→J22 n))))))))∧((t9)=false→(res=0))))∧(((za.Kind x == (3:Int))=true→J3 (za.Kind x == (3:Int)))∧((za.Kind x == (3:Int))=false→(((za.Kind x == (4:Int))=true→J3 (za.Kind x == (4:Int)))∧((za.Kind x == (4:Int))=false→J3 (za.Kind x == (5:Int)))))))))):zah x res:=by
 unfold zah
 have kk:=cfOk [] 44
 refine fD (x:=bodyOf Tryz.f26) kk Tryz.func26 ?_
 refine wkS [1] [(1,zm x)] (by kernel_rfl) ?_
 refine sD kk [] [1] [(4,.ptr 5 0),(5,zm x)] obN ?_
 refine qD ?_
 refine sD kk [] [] [(19,vi (za.Kind x))] obN ?_
 refine bD (id:=0) ?_
 refine sD kk [] [] [(22,vB (za.Kind x == (2:Int)))] obN ?_
 refine cD (t:=7) (b:=za.Kind x == (2:Int)) (fun hb0=>?_) (fun hb0=>?_)
 ·have h:=h.1 hb0
  refine sD kk [] [4,5,19,22] [(7,vi 1)] obN ?_
  refine tD ?_
  obtain he0:=h
  subst res
  exact (endD [] (vi 1) []).1
 ·have h:=h.2 hb0
  obtain ⟨J3,hJ3,h⟩:=h
  refine sjD (fun (q:Bool)=>J3 q) (fun (q:Bool)=>(fun (t9:Bool)=>([(4,.ptr 5 0),(5,zm x),(28,vB t9)]:Sta)) q) ?_ ?_
  ·rintro t9 hj
   have h:=hJ3 t9 hj
   refine cD (t:=9) (b:=t9) (fun hb4=>?_) (fun hb4=>?_)
   ·have h:=h.1 hb4
    refine sD kk [] [28] [(10,vi 0)] obN ?_
    refine qD ?_
    refine sD kk [] [] [(13,vi 0)] obN ?_
    refine bD (id:=1) ?_
    obtain ⟨Inv14,mu15,h0Inv14,hInv14⟩:=h
    refine loD (fun (q:Int×Int)=>(fun (n:Int) (i:Int)=>([(4,.ptr 5 0),(5,zm x),(10,vi n),(13,vi i)]:Sta)) q.1 q.2) (fun (q:Int×Int)=>Inv14 q.1 q.2) (fun (q:Int×Int)=>mu15 q.1 q.2) (0,0) [] h0Inv14 ?_
    rintro ⟨n,i⟩ hi
    have h:=hInv14 n i hi
    refine qD ?_
    refine sDE kk [] [] [(52,vB (decide (i < (↑(List.length (List.map ze (za.Kids x))):Int))))] [(52,vB (decide (i < (↑(List.length (za.Kids x)):Int))))] obN ?_
    refine cD (t:=17) (b:=decide (i < (↑(List.length (za.Kids x)):Int))) (fun hb16=>?_) (fun hb16=>?_)
    ·have h:=h.1 hb16
     refine Sem.skip' (by kernel_rfl) Wk.refl ?_
     show Sem _ _ _ _ _
     refine wkD [52] ?_
     refine qD ?_
     refine bD (id:=2) ?_
     obtain ⟨h17,h⟩:=h
     obtain ⟨h18,h⟩:=h
     obtain ⟨r0_2,hc19,h⟩:=h
     refine sD kk [.e (zD (gd (za.Kids x) i)),.c (vi r0_2) []] [] [(10,vi (w64 (n+r0_2)))] (obC h17 (obC (zL ze (za.Kids x) i _ (zt _) h17 h18) (obC hc19 obN))) ?_
     refine sD kk [] [] [(88,vB (decide (w64 (n+r0_2) > (1000000:Int))))] obN ?_
     refine cD (t:=29) (b:=decide (w64 (n+r0_2) > (1000000:Int))) (fun hb20=>?_) (fun hb20=>?_)
     ·have h:=h.1 hb20
      refine sD kk [] [4,5,10,13,88] [(7,vi ((1000000:Int)))] obN ?_
      refine tD ?_
      obtain he0:=h
      subst res
      exact (endD [] (vi ((1000000:Int))) []).1
     ·have h:=h.2 hb20
      refine Sem.skip' (by kernel_rfl) Wk.refl ?_
      show Sem _ _ _ _ _
      refine wkD [88] ?_
      refine rD kk [] [] [(13,vi (w64 (i+1)))] obN ?_
      exact lD ((w64 (n+r0_2)),(w64 (i+1))) [] h
    ·have h:=h.2 hb16
     refine xD (i:=1) ?_
     show Sem _ _ _ _ _
     refine wkD [13,52] ?_
     obtain ⟨J22,hJ22,h⟩:=h
     refine sjD (fun (q:Int)=>J22 q) (fun (q:Int)=>(fun (n_1:Int)=>([(10,vi n_1)]:Sta)) q) ?_ ?_
     ·rintro n_1 hj
      have h:=hJ22 n_1 hj
      refine sD kk [] [10] [(7,vi (if false=true then if (1000000:Int) > n_1 then (1000000:Int) else n_1 else if (1000000:Int) < n_1 then (1000000:Int) else n_1))] obN ?_
      refine tD ?_
      obtain he0:=h
      subst res
      exact (endD [] (vi (if false=true then if (1000000:Int) > n_1 then (1000000:Int) else n_1 else if (1000000:Int) < n_1 then (1000000:Int) else n_1)) []).1
     ·refine sD kk [] [] [(97,vB (za.Kind x == (5:Int)))] obN ?_
      refine cD (t:=32) (b:=za.Kind x == (5:Int)) (fun hb23=>?_) (fun hb23=>?_)
      ·have h:=h.1 hb23
       refine rDE kk [] [4,5,97] [(10,vi (w64 (n * if true=true then if (if false=true then if (if true=true then if za.Hi x > za.Lo x then za.Hi x else za.Lo x else if za.Hi x < za.Lo x then za.Hi x else za.Lo x) > (1000:Int) then if true=true then if za.Hi x > za.Lo x then za.Hi x else za.Lo x else if za.Hi x < za.Lo x then za.Hi x else za.Lo x else (1000:Int) else if (if true=true then if za.Hi x > za.Lo x then za.Hi x else za.Lo x else if za.Hi x < za.Lo x then za.Hi x else za.Lo x) < (1000:Int) then if true=true then if za.Hi x > za.Lo x then za.Hi x else za.Lo x else if za.Hi x < za.Lo x then za.Hi x else za.Lo x else (1000:Int)) > (1:Int) then if false=true then if (if true=true then if za.Hi x > za.Lo x then za.Hi x else za.Lo x else if za.Hi x < za.Lo x then za.Hi x else za.Lo x) > (1000:Int) then if true=true then if za.Hi x > za.Lo x then za.Hi x else za.Lo x else if za.Hi x < za.Lo x then za.Hi x else za.Lo x else (1000:Int) else if (if true=true then if za.Hi x > za.Lo x then za.Hi x else za.Lo x else if za.Hi x < za.Lo x then za.Hi x else za.Lo x) < (1000:Int) then if true=true then if za.Hi x > za.Lo x then za.Hi x else za.Lo x else if za.Hi x < za.Lo x then za.Hi x else za.Lo x else (1000:Int) else (1:Int) else if (if false=true then if (if true=true then if za.Hi x > za.Lo x then za.Hi x else za.Lo x else if za.Hi x < za.Lo x then za.Hi x else za.Lo x) > (1000:Int) then if true=true then if za.Hi x > za.Lo x then za.Hi x else za.Lo x else if za.Hi x < za.Lo x then za.Hi x else za.Lo x else (1000:Int) else if (if true=true then if za.Hi x > za.Lo x then za.Hi x else za.Lo x else if za.Hi x < za.Lo x then za.Hi x else za.Lo x) < (1000:Int) then if true=true then if za.Hi x > za.Lo x then za.Hi x else za.Lo x else if za.Hi x < za.Lo x then za.Hi x else za.Lo x else (1000:Int)) < (1:Int) then if false=true then if (if true=true then if za.Hi x > za.Lo x then za.Hi x else za.Lo x else if za.Hi x < za.Lo x then za.Hi x else za.Lo x) > (1000:Int) then if true=true then if za.Hi x > za.Lo x then za.Hi x else za.Lo x else if za.Hi x < za.Lo x then za.Hi x else za.Lo x else (1000:Int) else if (if true=true then if za.Hi x > za.Lo x then za.Hi x else za.Lo x else if za.Hi x < za.Lo x then za.Hi x else za.Lo x) < (1000:Int) then if true=true then if za.Hi x > za.Lo x then za.Hi x else za.Lo x else if za.Hi x < za.Lo x then za.Hi x else za.Lo x else (1000:Int) else (1:Int))))] [(10,vi (w64 (n * if (if false=true then if (if za.Hi x > za.Lo x then za.Hi x else za.Lo x) > (1000:Int) then if za.Hi x > za.Lo x then za.Hi x else za.Lo x else (1000:Int) else if (if za.Hi x > za.Lo x then za.Hi x else za.Lo x) < (1000:Int) then if za.Hi x > za.Lo x then za.Hi x else za.Lo x else (1000:Int)) > (1:Int) then if false=true then if (if za.Hi x > za.Lo x then za.Hi x else za.Lo x) > (1000:Int) then if za.Hi x > za.Lo x then za.Hi x else za.Lo x else (1000:Int) else if (if za.Hi x > za.Lo x then za.Hi x else za.Lo x) < (1000:Int) then if za.Hi x > za.Lo x then za.Hi x else za.Lo x else (1000:Int) else (1:Int))))] obN ?_
       exact jD (w64 (n * if (if false=true then if (if za.Hi x > za.Lo x then za.Hi x else za.Lo x) > (1000:Int) then if za.Hi x > za.Lo x then za.Hi x else za.Lo x else (1000:Int) else if (if za.Hi x > za.Lo x then za.Hi x else za.Lo x) < (1000:Int) then if za.Hi x > za.Lo x then za.Hi x else za.Lo x else (1000:Int)) > (1:Int) then if false=true then if (if za.Hi x > za.Lo x then za.Hi x else za.Lo x) > (1000:Int) then if za.Hi x > za.Lo x then za.Hi x else za.Lo x else (1000:Int) else if (if za.Hi x > za.Lo x then za.Hi x else za.Lo x) < (1000:Int) then if za.Hi x > za.Lo x then za.Hi x else za.Lo x else (1000:Int) else (1:Int))) [] h
      ·have h:=h.2 hb23
       refine Sem.skip' (by kernel_rfl) Wk.refl ?_
       exact jD n [] h
   ·have h:=h.2 hb4
    refine Sem.skip' (by kernel_rfl) Wk.refl ?_
    show Sem _ _ _ _ _
    refine wkD [4,5,28] ?_
    refine sD kk [] [] [(7,vi 0)] obN ?_
    refine tD ?_
    obtain he0:=h
    subst res
    exact (endD [] (vi 0) []).1
  ·refine sD kk [] [22] [(28,vB (za.Kind x == (3:Int)))] obN ?_
   refine cD (t:=9) (b:=za.Kind x == (3:Int)) (fun hb24=>?_) (fun hb24=>?_)
   ·have h:=h.1 hb24
    refine Sem.skip' (by kernel_rfl) Wk.refl ?_
    exact jD (za.Kind x == (3:Int)) [] h
   ·have h:=h.2 hb24
    refine sD kk [] [] [(28,vB (za.Kind x == (4:Int)))] obN ?_
    refine cD (t:=9) (b:=za.Kind x == (4:Int)) (fun hb25=>?_) (fun hb25=>?_)
    ·have h:=h.1 hb25
     refine Sem.skip' (by kernel_rfl) Wk.refl ?_
     exact jD (za.Kind x == (4:Int)) [] h
    ·have h:=h.2 hb25
     refine rD kk [] [19] [(28,vB (za.Kind x == (5:Int)))] obN ?_
     exact jD (za.Kind x == (5:Int)) [] h
set_option maxHeartbeats 1000000 in
theorem zfJ (l:(List Int)) (res:za)
 (h:(∃ J2:List Int→Prop,(∀ (l_1:List Int),J2 l_1→(∃ r0:za,∃ o:zl,zN 4 ({ L:=l_1,At:=(0:Int) }) r0 o∧(∃ r0_1:Int,zah r0 r0_1∧(((decide (r0_1 > (40:Int)))=true→(∃ r0_2:za,zaC ((97:Int)) r0_2∧(res=r0_2)))∧((decide (r0_1 > (40:Int)))=false→(res=r0))))))∧(((decide ((↑(List.length l):Int) > (30:Int)))=true→((0:Int)≤(30:Int)∧Int.toNat (30:Int)≤List.length l∧List.all (List.map zE l) (FV.fits (1:Nat))=true)∧J2 (List.take (Int.toNat (30:Int)) l))∧((decide ((↑(List.length l):Int) > (30:Int)))=false→J2 l)))):zaV l res:=by
 unfold zaV
 have kk:=cfOk [19] 20
 refine fD (x:=bodyOf Tryz.f9) kk Tryz.func9 ?_
 refine wkS [1] [(1,vL zE l)] (by kernel_rfl) ?_
 refine sDE kk [] [] [(7,.ptr 8 0),(8,.agg [vi 0,vI .u64 0,vI .u64 0,vI .u64 0,vI .u64 0,vi 0,vi 0,.own 28 ([])])] [(7,.ptr 8 0),(8,.agg [vi 0,vI .u64 0,vI .u64 0,vI .u64 0,vI .u64 0,vi 0,vi 0,oL 28 ze ([])])] obN ?_
 obtain ⟨J2,hJ2,h⟩:=h
 refine sjD (fun (q:List Int)=>J2 q) (fun (q:List Int)=>(fun (l_1:List Int)=>([(1,vL zE l_1),(7,.ptr 8 0),(8,.agg [vi 0,vI .u64 0,vI .u64 0,vI .u64 0,vI .u64 0,vi 0,vi 0,oL 28 ze ([])])]:Sta)) q) ?_ ?_
 ·rintro l_1 hj
  have h:=hJ2 l_1 hj
  refine sD kk [] [1] [(10,.ptr 38 0),(38,.agg [vL zE l_1,vi 0])] obN ?_
  obtain ⟨r0,o,hc3,h⟩:=h
  refine sD kk [.c (zS r0) [zp o]] [10,38] [(13,.ptr 14 0),(14,zS r0)] (obC hc3 obN) ?_
  refine qD ?_
  obtain ⟨r0_1,hc4,h⟩:=h
  refine sD kk [.c (vi r0_1) []] [] [(14,zm r0),(52,vB (decide (r0_1 > (40:Int))))] (obC (Eq.mp (by unfold zah;(try simp only [List.drop_zero,List.take_length]);first | done | simp only [nm,enq]:zah r0 r0_1=CallE Tryz.prog 26 [.agg [vi (za.Kind r0),vI .u64 (zb.e0 (za.Set r0)),vI .u64 (zb.e1 (za.Set r0)),vI .u64 (zb.e2 (za.Set r0)),vI .u64 (zb.e3 (za.Set r0)),vi (za.Lo r0),vi (za.Hi r0),.f (FV.sl (List.take (List.length (List.map ze (za.Kids r0))) (List.drop (0:Nat) (List.map ze (za.Kids r0)))))]] [] (vi r0_1) []) hc4) obN) ?_
  refine cD (t:=17) (b:=decide (r0_1 > (40:Int))) (fun hb5=>?_) (fun hb5=>?_)
  ·have h:=h.1 hb5
   obtain ⟨r0_2,hc6,h⟩:=h
   refine sD kk [.c (zS r0_2) []] [13,14,52] [(8,zS r0_2)] (obC hc6 obN) ?_
   refine tD ?_
   obtain he0:=h
   subst res
   exact (endD [(8,7)] (zm r0_2) []).1
  ·have h:=h.2 hb5
   refine Sem.skip' (by kernel_rfl) Wk.refl ?_
   show Sem _ _ _ _ _
   refine wkD [52] ?_
   refine sD kk [] [13,14] [(8,zm r0)] obN ?_
   refine tD ?_
   obtain he0:=h
   subst res
   exact (endD [] (zm r0) []).1
 ·refine sDE kk [] [] [(22,vB (decide ((↑(List.length (List.map zE l)):Int) > (30:Int))))] [(22,vB (decide ((↑(List.length l):Int) > (30:Int))))] obN ?_
  refine cD (t:=7) (b:=decide ((↑(List.length l):Int) > (30:Int))) (fun hb7=>?_) (fun hb7=>?_)
  ·have h:=h.1 hb7
   obtain ⟨h8,h⟩:=h
   refine rDE kk [] [22] [(1,.f (FV.sl (List.take (Int.toNat (30:Int) - (0:Nat)) (List.drop (0:Nat) (List.map zE l)))))] [(1,vL zE (List.take (Int.toNat (30:Int)) l))] (obC (show True∧(0:Int)≤(30:Int)∧(0:Nat)≤Int.toNat (30:Int)∧Int.toNat (30:Int)≤List.length (List.map zE l)∧List.all (List.map zE l) (FV.fits (1:Nat))=true from by simpa only [nm] using h8) obN) ?_
   exact jD (List.take (Int.toNat (30:Int)) l) [] h
  ·have h:=h.2 hb7
   refine Sem.skip' (by kernel_rfl) Wk.refl ?_
   exact jD l [] h
set_option maxHeartbeats 1000000 in
theorem zfH (l:(List Int)) (res:ByteArray)
 (h:(∃ (Inv14:ByteArray→Int→Prop) (mu15:ByteArray→Int→Nat),Inv14 ({ data:=#[] }) 0∧(∀ (s0:ByteArray) (i:Int),Inv14 s0 i→(((decide (i < (↑(List.length (List.map zE l)):Int)) && decide (i < (12:Int)))=true→((0:Int)≤i)∧i < ↑(List.length l)∧((0:Int)≤i)∧i < ↑(List.length l)∧((0:Int)≤Int.tmod (w64 (gd l i)) (12:Int)∧(0:Int)≤w64 (Int.tmod (w64 (gd l i)) (12:Int)+1)∧Int.toNat (Int.tmod (w64 (gd l i)) (12:Int))≤Int.toNat (w64 (Int.tmod (w64 (gd l i)) (12:Int)+1))∧Int.toNat (w64 (Int.tmod (w64 (gd l i)) (12:Int)+1))≤ByteArray.size { data:=#[(97:UInt8),(97:UInt8),(98:UInt8),(98:UInt8),(99:UInt8),(99:UInt8),(45:UInt8),(90:UInt8),(10:UInt8),(48:UInt8),(0:UInt8),(255:UInt8)] })∧((↑(ByteArray.size s0+ByteArray.size (ByteArray.extract { data:=#[(97:UInt8),(97:UInt8),(98:UInt8),(98:UInt8),(99:UInt8),(99:UInt8),(45:UInt8),(90:UInt8),(10:UInt8),(48:UInt8),(0:UInt8),(255:UInt8)] } (Int.toNat (Int.tmod (w64 (gd l i)) (12:Int))) (Int.toNat (w64 (Int.tmod (w64 (gd l i)) (12:Int)+1))))):Int)≤IntKind.max IntKind.i64)∧(Inv14 (s0++ByteArray.extract { data:=#[(97:UInt8),(97:UInt8),(98:UInt8),(98:UInt8),(99:UInt8),(99:UInt8),(45:UInt8),(90:UInt8),(10:UInt8),(48:UInt8),(0:UInt8),(255:UInt8)] } (Int.toNat (Int.tmod (w64 (gd l i)) (12:Int))) (Int.toNat (w64 (Int.tmod (w64 (gd l i)) (12:Int)+1)))) (w64 (i+1))∧mu15 (s0++ByteArray.extract { data:=#[(97:UInt8),(97:UInt8),(98:UInt8),(98:UInt8),(99:UInt8),(99:UInt8),(45:UInt8),(90:UInt8),(10:UInt8),(48:UInt8),(0:UInt8),(255:UInt8)] } (Int.toNat (Int.tmod (w64 (gd l i)) (12:Int))) (Int.toNat (w64 (Int.tmod (w64 (gd l i)) (12:Int)+1)))) (w64 (i+1)) < mu15 s0 i))∧((decide (i < (↑(List.length (List.map zE l)):Int)) && decide (i < (12:Int)))=false→(res=s0)))))):zbC l res:=by
 unfold zbC
 have kk:=cfOk [31] 32
 refine fD (x:=bodyOf Tryz.f10) kk Tryz.func10 ?_
 refine wkS [1] [(1,vL zE l)] (by kernel_rfl) ?_
 refine sD kk [] [] [] obN ?_
 refine sD kk [] [] [(10,vS ({ data:=#[] }))] obN ?_
 refine qD ?_
 refine sD kk [] [] [(13,vi 0)] obN ?_
 refine bD (id:=0) ?_
 obtain ⟨Inv14,mu15,h0Inv14,hInv14⟩:=h
 refine loD (fun (q:ByteArray×Int)=>(fun (s0:ByteArray) (i:Int)=>([(1,vL zE l),(10,vS s0),(13,vi i)]:Sta)) q.1 q.2) (fun (q:ByteArray×Int)=>Inv14 q.1 q.2) (fun (q:ByteArray×Int)=>mu15 q.1 q.2) (({ data:=#[] }),0) [] h0Inv14 ?_
 rintro ⟨s0,i⟩ hi
 have h:=hInv14 s0 i hi
 refine qD ?_
 refine sM [] [(37,vB (decide (i < (↑(List.length (List.map zE l)):Int)) && decide (i < (12:Int))))] ?_ (fun hk0=>?_)
 ·refine cD (t:=12) (b:=decide (i < (↑(List.length (List.map zE l)):Int)) && decide (i < (12:Int))) (fun hb17=>?_) (fun hb17=>?_)
  ·have h:=h.1 hb17
   refine Sem.skip' (by kernel_rfl) Wk.refl ?_
   show Sem _ _ _ _ _
   refine wkD [37] ?_
   refine qD ?_
   refine bD (id:=1) ?_
   obtain ⟨h18,h⟩:=h
   obtain ⟨h19,h⟩:=h
   obtain ⟨h20,h⟩:=h
   obtain ⟨h21,h⟩:=h
   obtain ⟨h22,h⟩:=h
   obtain ⟨h23,h⟩:=h
   refine rD kk [.e (.pv (.int .u8 (gd l i))),.e (.pv (.int .u8 (gd l i)))] [] [(10,vS (s0++ByteArray.extract { data:=#[(97:UInt8),(97:UInt8),(98:UInt8),(98:UInt8),(99:UInt8),(99:UInt8),(45:UInt8),(90:UInt8),(10:UInt8),(48:UInt8),(0:UInt8),(255:UInt8)] } (Int.toNat (Int.tmod (w64 (gd l i)) (12:Int))) (Int.toNat (w64 (Int.tmod (w64 (gd l i)) (12:Int)+1)))))] (obC h18 (obC (zL zE l i _ rfl h18 h19) (obC (show (12:Int)≠(0:Int) from by first | decide | rfl | trivial) (obC h20 (obC (zL zE l i _ rfl h20 h21) (obC (show (12:Int)≠(0:Int) from by first | decide | rfl | trivial) (obC h22 (obC h23 obN)))))))) ?_
   show Sem _ _ _ _ _
   refine rD kk [] [] [(13,vi (w64 (i+1)))] obN ?_
   exact lD ((s0++ByteArray.extract { data:=#[(97:UInt8),(97:UInt8),(98:UInt8),(98:UInt8),(99:UInt8),(99:UInt8),(45:UInt8),(90:UInt8),(10:UInt8),(48:UInt8),(0:UInt8),(255:UInt8)] } (Int.toNat (Int.tmod (w64 (gd l i)) (12:Int))) (Int.toNat (w64 (Int.tmod (w64 (gd l i)) (12:Int)+1)))),(w64 (i+1))) [] h
  ·have h:=h.2 hb17
   refine xD (i:=0) ?_
   show Sem _ _ _ _ _
   refine wkD [1,13,37] ?_
   refine sD kk [] [10] [(7,vS s0)] obN ?_
   refine tD ?_
   obtain he0:=h
   subst res
   exact (endD [] (vS s0) []).1
 ·rcases Bool.eq_false_or_eq_true (decide (i < (↑(List.length (List.map zE l)):Int))) with hb16 | hb16
  ·refine sD kk [bT,bT,bT] [] [(37,vB (decide (i < (12:Int))))] (obC (gtt hb16) (obC (gtt hb16) (obC hb16 obN))) ?_
   exact Sem.cast (by try rw [hb16];kernel_rfl) hk0
  ·refine sD kk [bF,bF,bF] [] [(37,vB false)] (obC (gtf hb16) (obC (gtf hb16) (obC hb16 obN))) ?_
   exact Sem.cast (by try rw [hb16];kernel_rfl) hk0
set_option maxHeartbeats 1000000 in
theorem zfG (b:Int) (res:za)
 (h:(∃ r0:zb,zaX b b r0∧(res=({ Kind:=(2:Int),Set:=r0,Lo:=(0:Int),Hi:=(0:Int),Kids:=[] })))):zaT b res:=by
 unfold zaT
 have kk:=cfOk [] 7
 refine fD (x:=bodyOf Tryz.f28) kk Tryz.func28 ?_
 refine wkS [1] [(1,vi b)] (by kernel_rfl) ?_
 refine sDE kk [] [] [(7,.ptr 8 0),(8,.agg [vi 0,vI .u64 0,vI .u64 0,vI .u64 0,vI .u64 0,vi 0,vi 0,.own 28 ([])])] [(7,.ptr 8 0),(8,.agg [vi 0,vI .u64 0,vI .u64 0,vI .u64 0,vI .u64 0,vi 0,vi 0,oL 28 ze ([])])] obN ?_
 obtain ⟨r0,hc0,h⟩:=h
 refine sDE kk [.c (zy r0) []] [1] [(8,.agg [vi 2,vI .u64 (zb.e0 r0),vI .u64 (zb.e1 r0),vI .u64 (zb.e2 r0),vI .u64 (zb.e3 r0),vi 0,vi 0,.own 28 ([])])] [(8,.agg [vi 2,vI .u64 (zb.e0 r0),vI .u64 (zb.e1 r0),vI .u64 (zb.e2 r0),vI .u64 (zb.e3 r0),vi 0,vi 0,oL 28 ze ([])])] (obC hc0 obN) ?_
 refine tD ?_
 obtain he0:=h
 subst res
 exact (endD [] (.agg [vi 2,vI .u64 (zb.e0 r0),vI .u64 (zb.e1 r0),vI .u64 (zb.e2 r0),vI .u64 (zb.e3 r0),vi 0,vi 0,oL 28 ze ([])]) []).1
set_option maxHeartbeats 1000000 in
theorem zfw (x:zh) (res:Bool)
 (h:(((decide (zh.Lo x < (0:Int)) || decide (zh.Lo x > (20:Int)))=true→(res=false))∧((decide (zh.Lo x < (0:Int)) || decide (zh.Lo x > (20:Int)))=false→(res=(zh.Hi x == (-1:Int) || decide (zh.Hi x≥if zh.Lo x > (1:Int) then zh.Lo x else (1:Int)) && decide (zh.Hi x≤(20:Int))))))):zbz x res:=by
 unfold zbz
 have kk:=cfOk [] 27
 refine fD (x:=bodyOf Tryz.f140) kk Tryz.func140 ?_
 refine wkS [1] [(1,zC x)] (by kernel_rfl) ?_
 refine sD kk [] [1] [(4,.ptr 5 0),(5,zC x)] obN ?_
 refine qD ?_
 refine sM [] [(31,vB (decide (zh.Lo x < (0:Int)) || decide (zh.Lo x > (20:Int))))] ?_ (fun hk0=>?_)
 ·refine cD (t:=10) (b:=decide (zh.Lo x < (0:Int)) || decide (zh.Lo x > (20:Int))) (fun hb1=>?_) (fun hb1=>?_)
  ·have h:=h.1 hb1
   refine sD kk [] [4,5,31] [(7,vB false)] obN ?_
   refine tD ?_
   obtain he0:=h
   subst res
   exact (endD [] (vB false) []).1
  ·have h:=h.2 hb1
   refine Sem.skip' (by kernel_rfl) Wk.refl ?_
   show Sem _ _ _ _ _
   refine wkD [31] ?_
   refine sM [4,5] [(7,vB (zh.Hi x == (-1:Int) || decide (zh.Hi x≥if true=true then if zh.Lo x > (1:Int) then zh.Lo x else (1:Int) else if zh.Lo x < (1:Int) then zh.Lo x else (1:Int)) && decide (zh.Hi x≤(20:Int))))] ?_ (fun hk0=>?_)
   ·refine tD ?_
    obtain he0:=h
    subst res
    exact (endD [] (vB (zh.Hi x == (-1:Int) || decide (zh.Hi x≥if true=true then if zh.Lo x > (1:Int) then zh.Lo x else (1:Int) else if zh.Lo x < (1:Int) then zh.Lo x else (1:Int)) && decide (zh.Hi x≤(20:Int)))) []).1
   ·rcases Bool.eq_false_or_eq_true (zh.Hi x == (-1:Int)) with hb2 | hb2
    ·refine sD kk [bF,bF,bF,bF,bF,bF,bF,bF,bT] [4,5] [(7,vB true)] (obC (gff hb2) (obC (gff hb2) (obC (gff hb2) (obC (gff hb2) (obC (gff hb2) (obC (gff hb2) (obC (gff hb2) (obC (gff hb2) (obC hb2 obN))))))))) ?_
     exact Sem.cast (by try rw [hb2];kernel_rfl) hk0
    ·rcases Bool.eq_false_or_eq_true (decide (zh.Hi x≥if true=true then if zh.Lo x > (1:Int) then zh.Lo x else (1:Int) else if zh.Lo x < (1:Int) then zh.Lo x else (1:Int))) with hb3 | hb3
     ·refine sD kk [bT,bT,bT,bT,bT,bT,bT,bT,bT,bT,bT,bT,bF] [4,5] [(7,vB (decide (zh.Hi x≤(20:Int))))] (obC (gft hb2) (obC (gft hb2) (obC (gft hb2) (obC (gft hb2) (obC (gft hb2) (obC (gft hb2) (obC (gft hb2) (obC (gtt hb3) (obC (gtt hb3) (obC (gtt hb3) (obC (gft hb2) (obC hb3 (obC hb2 obN))))))))))))) ?_
      exact Sem.cast (by try rw [hb2];try rw [hb3];kernel_rfl) hk0
     ·refine sD kk [bT,bT,bT,bT,bT,bT,bT,bF,bF,bF,bT,bF,bF] [4,5] [(7,vB false)] (obC (gft hb2) (obC (gft hb2) (obC (gft hb2) (obC (gft hb2) (obC (gft hb2) (obC (gft hb2) (obC (gft hb2) (obC (gtf hb3) (obC (gtf hb3) (obC (gtf hb3) (obC (gft hb2) (obC hb3 (obC hb2 obN))))))))))))) ?_
      exact Sem.cast (by try rw [hb2];try rw [hb3];kernel_rfl) hk0
 ·rcases Bool.eq_false_or_eq_true (decide (zh.Lo x < (0:Int))) with hb0 | hb0
  ·refine sD kk [bF,bF,bF,bT] [] [(31,vB true)] (obC (gff hb0) (obC (gff hb0) (obC (gff hb0) (obC hb0 obN)))) ?_
   exact Sem.cast (by try rw [hb0];kernel_rfl) hk0
  ·refine sD kk [bT,bT,bT,bF] [] [(31,vB (decide (zh.Lo x > (20:Int))))] (obC (gft hb0) (obC (gft hb0) (obC (gft hb0) (obC hb0 obN)))) ?_
   exact Sem.cast (by try rw [hb0];kernel_rfl) hk0
set_option maxHeartbeats 1000000 in
theorem zgJ (x:zh) (res:Bool)
 (h:(∃ J12:Int→Prop,(∀ (many:Int),J12 many→(res=((!(zb.e0 (zh.Set x) == 0 && (zb.e1 (zh.Set x) == 0 && (zb.e2 (zh.Set x) == 0 && (zb.e3 (zh.Set x) == 0 && true))))) == (zh.Kind x == (2:Int)) && (zh.Lo x == 0 && (zh.Hi x == 0 && (decide (many≥(2:Int)) && (!decide (zh.Kind x < (3:Int)) || many == (2:Int))))))))∧(((zh.Kind x == (5:Int))=true→(((!!(zb.e0 (zh.Set x) == 0 && (zb.e1 (zh.Set x) == 0 && (zb.e2 (zh.Set x) == 0 && (zb.e3 (zh.Set x) == 0 && true)))))=true→((((↑(List.length (zh.Kids x)):Int) == 1)=true→(∃ r0_1:Bool,zbz x r0_1∧(res=r0_1)))∧(((↑(List.length (zh.Kids x)):Int) == 1)=false→(res=false))))∧((!!(zb.e0 (zh.Set x) == 0 && (zb.e1 (zh.Set x) == 0 && (zb.e2 (zh.Set x) == 0 && (zb.e3 (zh.Set x) == 0 && true)))))=false→(res=false))))∧((zh.Kind x == (5:Int))=false→(∃ J23:Bool→Prop,(∀ (t17_1:Bool),J23 t17_1→(((t17_1)=true→J12 (w64 ((↑(List.length (zh.Kids x)):Int)+2)))∧((t17_1)=false→(∃ J26:Bool→Prop,(∀ (t20_1:Bool),J26 t20_1→(((t20_1)=true→J12 ((↑(List.length (zh.Kids x)):Int)))∧((t20_1)=false→(res=false))))∧(((zh.Kind x == (3:Int))=true→J26 (zh.Kind x == (3:Int)))∧((zh.Kind x == (3:Int))=false→J26 (zh.Kind x == (4:Int))))))))∧(((zh.Kind x == 1)=true→J23 (zh.Kind x == 1))∧((zh.Kind x == 1)=false→J23 (zh.Kind x == (2:Int))))))))):zbX x res:=by
 unfold zbX
 have kk:=cfOk [] 65
 refine fD (x:=bodyOf Tryz.f123) kk Tryz.func123 ?_
 refine wkS [1] [(1,zC x)] (by kernel_rfl) ?_
 refine sD kk [] [1] [(4,.ptr 5 0),(5,zC x)] obN ?_
 refine sDE kk [] [] [(10,vB (!(zb.e0 (zh.Set x) == 0 && (zb.e1 (zh.Set x) == 0 && (zb.e2 (zh.Set x) == 0 && (zb.e3 (zh.Set x) == 0 && true)))))),(13,vi ((↑(List.length (List.map ze (zh.Kids x))):Int)))] [(10,vB (!(zb.e0 (zh.Set x) == 0 && (zb.e1 (zh.Set x) == 0 && (zb.e2 (zh.Set x) == 0 && (zb.e3 (zh.Set x) == 0 && true)))))),(13,vi ((↑(List.length (zh.Kids x)):Int)))] obN ?_
 refine qD ?_
 refine sD kk [] [] [(43,vi (zh.Kind x))] obN ?_
 refine bD (id:=0) ?_
 obtain ⟨J12,hJ12,h⟩:=h
 refine sjD (fun (q:Int)=>J12 q) (fun (q:Int)=>(fun (many:Int)=>([(4,.ptr 5 0),(5,zC x),(10,vB (!(zb.e0 (zh.Set x) == 0 && (zb.e1 (zh.Set x) == 0 && (zb.e2 (zh.Set x) == 0 && (zb.e3 (zh.Set x) == 0 && true)))))),(13,vi many)]:Sta)) q) ?_ ?_
 ·rintro many hj
  have h:=hJ12 many hj
  refine qD ?_
  refine sD kk [] [] [(16,vB (decide (zh.Kind x < (3:Int))))] obN ?_
  refine sM [4,5,10,13,16] [(7,vB ((!(zb.e0 (zh.Set x) == 0 && (zb.e1 (zh.Set x) == 0 && (zb.e2 (zh.Set x) == 0 && (zb.e3 (zh.Set x) == 0 && true))))) == (zh.Kind x == (2:Int)) && (zh.Lo x == 0 && (zh.Hi x == 0 && (decide (many≥(2:Int)) && (!decide (zh.Kind x < (3:Int)) || many == (2:Int)))))))] ?_ (fun hk0=>?_)
  ·refine tD ?_
   obtain he0:=h
   subst res
   exact (endD [] (vB ((!(zb.e0 (zh.Set x) == 0 && (zb.e1 (zh.Set x) == 0 && (zb.e2 (zh.Set x) == 0 && (zb.e3 (zh.Set x) == 0 && true))))) == (zh.Kind x == (2:Int)) && (zh.Lo x == 0 && (zh.Hi x == 0 && (decide (many≥(2:Int)) && (!decide (zh.Kind x < (3:Int)) || many == (2:Int))))))) []).1
  ·rcases Bool.eq_false_or_eq_true ((!(zb.e0 (zh.Set x) == 0 && (zb.e1 (zh.Set x) == 0 && (zb.e2 (zh.Set x) == 0 && (zb.e3 (zh.Set x) == 0 && true))))) == (zh.Kind x == (2:Int))) with hb13 | hb13
   ·rcases Bool.eq_false_or_eq_true (zh.Lo x == 0) with hb14 | hb14
    ·rcases Bool.eq_false_or_eq_true (zh.Hi x == 0) with hb15 | hb15
     ·rcases Bool.eq_false_or_eq_true (decide (many≥(2:Int))) with hb16 | hb16
      ·rcases Bool.eq_false_or_eq_true (!decide (zh.Kind x < (3:Int))) with hb17 | hb17
       ·refine sD kk [bT,bT,bT,bT,bT,bT,bT,bT,bT,bT,bT,bT,bT,bT,bF,bF,bT,bT,bT] [4,5,10,13,16] [(7,vB true)] (obC (gtt hb13) (obC (gtt hb13) (obC (gtt hb13) (obC hb13 (obC (gtt hb14) (obC (gtt hb14) (obC (gtt hb14) (obC hb14 (obC (gtt hb15) (obC (gtt hb15) (obC hb15 (obC (gtt hb16) (obC (gtt hb16) (obC (gtt hb16) (obC (gff hb17) (obC (gff hb17) (obC (gtt hb16) (obC hb17 (obC hb16 obN))))))))))))))))))) ?_
        exact Sem.cast (by try rw [hb13];try rw [hb14];try rw [hb15];try rw [hb16];try rw [hb17];kernel_rfl) hk0
       ·refine sD kk [bT,bT,bT,bT,bT,bT,bT,bT,bT,bT,bT,bT,bT,bT,bT,bT,bT,bF,bT] [4,5,10,13,16] [(7,vB (many == (2:Int)))] (obC (gtt hb13) (obC (gtt hb13) (obC (gtt hb13) (obC hb13 (obC (gtt hb14) (obC (gtt hb14) (obC (gtt hb14) (obC hb14 (obC (gtt hb15) (obC (gtt hb15) (obC hb15 (obC (gtt hb16) (obC (gtt hb16) (obC (gtt hb16) (obC (gft hb17) (obC (gft hb17) (obC (gtt hb16) (obC hb17 (obC hb16 obN))))))))))))))))))) ?_
        exact Sem.cast (by try rw [hb13];try rw [hb14];try rw [hb15];try rw [hb16];try rw [hb17];kernel_rfl) hk0
      ·refine sD kk [bT,bT,bT,bT,bT,bT,bT,bT,bT,bT,bT,bF,bF,bF,bF,bF] [4,5,10,13,16] [(7,vB false)] (obC (gtt hb13) (obC (gtt hb13) (obC (gtt hb13) (obC hb13 (obC (gtt hb14) (obC (gtt hb14) (obC (gtt hb14) (obC hb14 (obC (gtt hb15) (obC (gtt hb15) (obC hb15 (obC (gtf hb16) (obC (gtf hb16) (obC (gtf hb16) (obC (gtf hb16) (obC hb16 obN)))))))))))))))) ?_
       exact Sem.cast (by try rw [hb13];try rw [hb14];try rw [hb15];try rw [hb16];kernel_rfl) hk0
     ·refine sD kk [bT,bT,bT,bT,bT,bT,bT,bT,bF,bF,bF,bF,bF,bF,bF,bF] [4,5,10,13,16] [(7,vB false)] (obC (gtt hb13) (obC (gtt hb13) (obC (gtt hb13) (obC hb13 (obC (gtt hb14) (obC (gtt hb14) (obC (gtt hb14) (obC hb14 (obC (gtf hb15) (obC (gtf hb15) (obC hb15 (oF (oF (oF (oF (oF obN)))))))))))))))) ?_
      exact Sem.cast (by try rw [hb13];try rw [hb14];try rw [hb15];kernel_rfl) hk0
    ·refine sD kk [bT,bT,bT,bT,bF,bF,bF,bF,bF,bF,bF,bF,bF,bF,bF,bF] [4,5,10,13,16] [(7,vB false)] (obC (gtt hb13) (obC (gtt hb13) (obC (gtt hb13) (obC hb13 (obC (gtf hb14) (obC (gtf hb14) (obC (gtf hb14) (obC hb14 (oF (oF (oF (oF (oF (oF (oF (oF obN)))))))))))))))) ?_
     exact Sem.cast (by try rw [hb13];try rw [hb14];kernel_rfl) hk0
   ·refine sD kk [bF,bF,bF,bF,bF,bF,bF,bF,bF,bF,bF,bF,bF,bF,bF,bF] [4,5,10,13,16] [(7,vB false)] (obC (gtf hb13) (obC (gtf hb13) (obC (gtf hb13) (obC hb13 (oF (oF (oF (oF (oF (oF (oF (oF (oF (oF (oF (oF obN)))))))))))))))) ?_
    exact Sem.cast (by try rw [hb13];kernel_rfl) hk0
 ·refine bD (id:=3) ?_
  refine qD ?_
  refine bD (id:=2) ?_
  refine qD ?_
  refine bD (id:=1) ?_
  refine qD ?_
  refine qD ?_
  refine sD kk [] [] [(46,vB (zh.Kind x == (5:Int)))] obN ?_
  refine cD (t:=15) (b:=zh.Kind x == (5:Int)) (fun hb18=>?_) (fun hb18=>?_)
  ·have h:=h.1 hb18
   refine xD (i:=1) ?_
   show Sem _ _ _ _ _
   refine wkD [43,46] ?_
   refine qD ?_
   rcases Bool.eq_false_or_eq_true (!!(zb.e0 (zh.Set x) == 0 && (zb.e1 (zh.Set x) == 0 && (zb.e2 (zh.Set x) == 0 && (zb.e3 (zh.Set x) == 0 && true))))) with hb19 | hb19
   ·have h:=h.1 hb19
    rcases Bool.eq_false_or_eq_true ((↑(List.length (zh.Kids x)):Int) == 1) with hb20 | hb20
    ·have h:=h.1 hb20
     obtain ⟨r0_1,hc21,h⟩:=h
     refine sD kk [bT,bT,bT,bT,bT,.c (vB r0_1) [],bT] [4,5,10,13] [(7,vB r0_1)] (obC (gtt hb19) (obC (gtt hb19) (obC hb19 (obC (gtt hb20) (obC (gtt hb20) (obC hc21 (obC hb20 obN))))))) ?_
     refine tD ?_
     obtain he0:=h
     subst res
     exact (endD [] (vB r0_1) []).1
    ·have h:=h.2 hb20
     refine sD kk [bT,bT,bT,bF,bF,bF] [4,5,10,13] [(7,vB false)] (obC (gtt hb19) (obC (gtt hb19) (obC hb19 (obC (gtf hb20) (obC (gtf hb20) (obC hb20 obN)))))) ?_
     refine tD ?_
     obtain he0:=h
     subst res
     exact (endD [] (vB false) []).1
   ·have h:=h.2 hb19
    refine sD kk [bF,bF,bF,bF,bF,bF] [4,5,10,13] [(7,vB false)] (obC (gtf hb19) (obC (gtf hb19) (obC hb19 (oF (oF (oF obN)))))) ?_
    refine tD ?_
    obtain he0:=h
    subst res
    exact (endD [] (vB false) []).1
  ·have h:=h.2 hb18
   refine Sem.skip' (by kernel_rfl) Wk.refl ?_
   show Sem _ _ _ _ _
   refine wkD [46] ?_
   refine qD ?_
   obtain ⟨J23,hJ23,h⟩:=h
   refine sjD (fun (q:Bool)=>J23 q) (fun (q:Bool)=>(fun (t17_1:Bool)=>([(4,.ptr 5 0),(5,zC x),(10,vB (!(zb.e0 (zh.Set x) == 0 && (zb.e1 (zh.Set x) == 0 && (zb.e2 (zh.Set x) == 0 && (zb.e3 (zh.Set x) == 0 && true)))))),(13,vi ((↑(List.length (zh.Kids x)):Int))),(43,vi (zh.Kind x)),(52,vB t17_1)]:Sta)) q) ?_ ?_
   ·rintro t17_1 hj
    have h:=hJ23 t17_1 hj
    refine cD (t:=17) (b:=t17_1) (fun hb24=>?_) (fun hb24=>?_)
    ·have h:=h.1 hb24
     refine xD (i:=2) ?_
     show Sem _ _ _ _ _
     refine wkD [43,52] ?_
     refine rD kk [] [] [(13,vi (w64 ((↑(List.length (zh.Kids x)):Int)+2)))] obN ?_
     exact jD (w64 ((↑(List.length (zh.Kids x)):Int)+2)) [] h
    ·have h:=h.2 hb24
     refine Sem.skip' (by kernel_rfl) Wk.refl ?_
     show Sem _ _ _ _ _
     refine wkD [52] ?_
     obtain ⟨J26,hJ26,h⟩:=h
     refine sjD (fun (q:Bool)=>J26 q) (fun (q:Bool)=>(fun (t20_1:Bool)=>([(4,.ptr 5 0),(5,zC x),(10,vB (!(zb.e0 (zh.Set x) == 0 && (zb.e1 (zh.Set x) == 0 && (zb.e2 (zh.Set x) == 0 && (zb.e3 (zh.Set x) == 0 && true)))))),(13,vi ((↑(List.length (zh.Kids x)):Int))),(61,vB t20_1)]:Sta)) q) ?_ ?_
     ·rintro t20_1 hj
      have h:=hJ26 t20_1 hj
      refine cD (t:=20) (b:=t20_1) (fun hb27=>?_) (fun hb27=>?_)
      ·have h:=h.1 hb27
       refine xD (i:=3) ?_
       exact jD ((↑(List.length (zh.Kids x)):Int)) [] h
      ·have h:=h.2 hb27
       refine Sem.skip' (by kernel_rfl) Wk.refl ?_
       show Sem _ _ _ _ _
       refine wkD [4,5,10,13,61] ?_
       refine xD (i:=0) ?_
       show Sem _ _ _ _ _
       refine sD kk [] [] [(7,vB false)] obN ?_
       refine tD ?_
       obtain he0:=h
       subst res
       exact (endD [] (vB false) []).1
     ·refine sD kk [] [] [(61,vB (zh.Kind x == (3:Int)))] obN ?_
      refine cD (t:=20) (b:=zh.Kind x == (3:Int)) (fun hb28=>?_) (fun hb28=>?_)
      ·have h:=h.1 hb28
       refine Sem.skip' (by kernel_rfl) Wk.refl ?_
       exact jD (zh.Kind x == (3:Int)) [] h
      ·have h:=h.2 hb28
       refine rD kk [] [43] [(61,vB (zh.Kind x == (4:Int)))] obN ?_
       exact jD (zh.Kind x == (4:Int)) [] h
   ·refine sD kk [] [] [(52,vB (zh.Kind x == 1))] obN ?_
    refine cD (t:=17) (b:=zh.Kind x == 1) (fun hb29=>?_) (fun hb29=>?_)
    ·have h:=h.1 hb29
     refine Sem.skip' (by kernel_rfl) Wk.refl ?_
     exact jD (zh.Kind x == 1) [] h
    ·have h:=h.2 hb29
     refine rD kk [] [] [(52,vB (zh.Kind x == (2:Int)))] obN ?_
     exact jD (zh.Kind x == (2:Int)) [] h
set_option maxHeartbeats 1000000 in
theorem zd3 (k:za) (v:zh) (v_1:Int) (res:Bool) (fin:zh) (fin_1:Int)
 (h:(((za.Kind k == zh.Kind v)=true→(((zh.Kind v != (5:Int))=true→(res=true∧fin=v∧fin_1=v_1))∧((zh.Kind v != (5:Int))=false→(∃ r0:Bool,zaz ({ Kind:=za.Kind k,Set:=za.Set k,Lo:=za.Lo k,Hi:=za.Hi k,Kids:=za.Kids k }) (w64 (v_1 - 1)) r0∧(res=(!r0)∧fin=v∧fin_1=v_1)))))∧((za.Kind k == zh.Kind v)=false→(∃ r0_1:Bool,zaz ({ Kind:=za.Kind k,Set:=za.Set k,Lo:=za.Lo k,Hi:=za.Hi k,Kids:=za.Kids k }) (w64 (v_1 - 1)) r0_1∧(res=(!r0_1)∧fin=v∧fin_1=v_1))))):zbd k v v_1 res fin fin_1:=by
 unfold zbd
 have kk:=cfOk [] 22
 refine fD (x:=bodyOf Tryz.f122) kk Tryz.func122 ?_
 refine wkS [1,3,4,6,7] [(1,zm k),(3,zC v),(4,.ptr 3 0),(6,vi v_1),(7,.ptr 6 0)] (by kernel_rfl) ?_
 refine sD kk [] [1] [(10,.ptr 11 0),(11,zm k)] obN ?_
 rcases Bool.eq_false_or_eq_true (za.Kind k == zh.Kind v) with hb0 | hb0
 ·have h:=h.1 hb0
  rcases Bool.eq_false_or_eq_true (zh.Kind v != (5:Int)) with hb1 | hb1
  ·have h:=h.1 hb1
   refine sD kk [bT,bT,bT,bT,bF,bF,bF,bF,bF,bT] [4,7,10,11] [(13,vB true)] (obC (gtt hb0) (obC (gtt hb0) (obC (gtt hb0) (obC hb0 (obC (gff hb1) (obC (gff hb1) (obC (gff hb1) (obC (gff hb1) (obC (gff hb1) (obC hb1 obN)))))))))) ?_
   refine tD ?_
   obtain ⟨he0,he1,he2⟩:=h
   subst res fin fin_1
   exact (endD [] (vB true) [zC v,vi v_1]).1
  ·have h:=h.2 hb1
   obtain ⟨r0,hc2,h⟩:=h
   refine sD kk [bT,bT,bT,bT,bT,bT,bT,bT,.c (vB r0) [],bT,bF] [4,7,10,11] [(13,vB (!r0))] (obC (gtt hb0) (obC (gtt hb0) (obC (gtt hb0) (obC hb0 (obC (gft hb1) (obC (gft hb1) (obC (gft hb1) (obC (gft hb1) (obC hc2 (obC (gft hb1) (obC hb1 obN))))))))))) ?_
   refine tD ?_
   obtain ⟨he0,he1,he2⟩:=h
   subst res fin fin_1
   exact (endD [] (vB (!r0)) [zC v,vi v_1]).1
 ·have h:=h.2 hb0
  obtain ⟨r0_1,hc3,h⟩:=h
  refine sD kk [bF,bF,bF,bF,bT,bT,bT,bT,.c (vB r0_1) [],bT,bF] [4,7,10,11] [(13,vB (!r0_1))] (obC (gtf hb0) (obC (gtf hb0) (obC (gtf hb0) (obC hb0 (oT (oT (oT (oT (obC hc3 (oT (oF obN))))))))))) ?_
  refine tD ?_
  obtain ⟨he0,he1,he2⟩:=h
  subst res fin fin_1
  exact (endD [] (vB (!r0_1)) [zC v,vi v_1]).1
set_option maxHeartbeats 1000000 in
theorem zac (s0:(List za)) (cap:zh) (cap_1:Int) (res:Int) (fin:zh) (fin_1:Int)
 (h:(∃ (Inv9:Int→Int→Int→Int→Int→Int→Int→List za→Int→Int→Prop) (mu10:Int→Int→Int→Int→Int→Int→Int→List za→Int→Int→Nat),Inv9 (zh.Kind cap) (zb.e0 (zh.Set cap)) (zb.e1 (zh.Set cap)) (zb.e2 (zh.Set cap)) (zb.e3 (zh.Set cap)) (zh.Lo cap) (zh.Hi cap) (zh.Kids cap) cap_1 0∧(∀ (o0_Kind:Int) (o0_Set_e0:Int) (o0_Set_e1:Int) (o0_Set_e2:Int) (o0_Set_e3:Int) (o0_Lo:Int) (o0_Hi:Int) (o0_Kids:List za) (o1:Int) (t8:Int),Inv9 o0_Kind o0_Set_e0 o0_Set_e1 o0_Set_e2 o0_Set_e3 o0_Lo o0_Hi o0_Kids o1 t8→(((decide (t8 < (↑(List.length s0):Int)))=true→((0:Int)≤t8)∧t8 < ↑(List.length s0)∧(∃ r0_2:Bool,∃ o_4:zh,∃ o_5:Int,zbd (gd s0 t8) ({ Kind:=o0_Kind,Set:={ e0:=o0_Set_e0,e1:=o0_Set_e1,e2:=o0_Set_e2,e3:=o0_Set_e3 },Lo:=o0_Lo,Hi:=o0_Hi,Kids:=o0_Kids }) o1 r0_2 o_4 o_5∧(((r0_2)=true→(res=t8∧fin=o_4∧fin_1=o_5))∧((r0_2)=false→(Inv9 (zh.Kind o_4) (zb.e0 (zh.Set o_4)) (zb.e1 (zh.Set o_4)) (zb.e2 (zh.Set o_4)) (zb.e3 (zh.Set o_4)) (zh.Lo o_4) (zh.Hi o_4) (zh.Kids o_4) o_5 (w64 (t8+1))∧mu10 (zh.Kind o_4) (zb.e0 (zh.Set o_4)) (zb.e1 (zh.Set o_4)) (zb.e2 (zh.Set o_4)) (zb.e3 (zh.Set o_4)) (zh.Lo o_4) (zh.Hi o_4) (zh.Kids o_4) o_5 (w64 (t8+1)) < mu10 o0_Kind o0_Set_e0 o0_Set_e1 o0_Set_e2 o0_Set_e3 o0_Lo o0_Hi o0_Kids o1 t8)))))∧((decide (t8 < (↑(List.length s0):Int)))=false→(res=(-1)∧fin=({ Kind:=o0_Kind,Set:={ e0:=o0_Set_e0,e1:=o0_Set_e1,e2:=o0_Set_e2,e3:=o0_Set_e3 },Lo:=o0_Lo,Hi:=o0_Hi,Kids:=o0_Kids })∧fin_1=o1)))))):zJ s0 cap cap_1 res fin fin_1:=by
 unfold zJ
 have kk:=cfOk [17] 19
 refine fD (x:=bodyOf Tryz.f141) kk Tryz.func141 ?_
 refine wkS [1,3,4,6] [(1,vL ze s0),(3,zC cap),(4,.clo 122 [.ptr 3 0,.ptr 6 0]),(6,vi cap_1)] (by kernel_rfl) ?_
 refine sD kk [] [] [] obN ?_
 refine qD ?_
 refine sDE kk [] [] [(22,vi ((↑(List.length (List.map ze s0)):Int))),(25,vi 0)] [(22,vi ((↑(List.length s0):Int))),(25,vi 0)] obN ?_
 refine bD (id:=0) ?_
 obtain ⟨Inv9,mu10,h0Inv9,hInv9⟩:=h
 refine loD (fun (q:Int×Int×Int×Int×Int×Int×Int×List za×Int×Int)=>(fun (o0_Kind:Int) (o0_Set_e0:Int) (o0_Set_e1:Int) (o0_Set_e2:Int) (o0_Set_e3:Int) (o0_Lo:Int) (o0_Hi:Int) (o0_Kids:List za) (o1:Int) (t8:Int)=>([(1,vL ze s0),(3,.agg [vi o0_Kind,vI .u64 o0_Set_e0,vI .u64 o0_Set_e1,vI .u64 o0_Set_e2,vI .u64 o0_Set_e3,vi o0_Lo,vi o0_Hi,vL ze o0_Kids]),(4,.clo 122 [.ptr 3 0,.ptr 6 0]),(6,vi o1),(22,vi ((↑(List.length s0):Int))),(25,vi t8)]:Sta)) q.1 q.2.1 q.2.2.1 q.2.2.2.1 q.2.2.2.2.1 q.2.2.2.2.2.1 q.2.2.2.2.2.2.1 q.2.2.2.2.2.2.2.1 q.2.2.2.2.2.2.2.2.1 q.2.2.2.2.2.2.2.2.2) (fun (q:Int×Int×Int×Int×Int×Int×Int×List za×Int×Int)=>Inv9 q.1 q.2.1 q.2.2.1 q.2.2.2.1 q.2.2.2.2.1 q.2.2.2.2.2.1 q.2.2.2.2.2.2.1 q.2.2.2.2.2.2.2.1 q.2.2.2.2.2.2.2.2.1 q.2.2.2.2.2.2.2.2.2) (fun (q:Int×Int×Int×Int×Int×Int×Int×List za×Int×Int)=>mu10 q.1 q.2.1 q.2.2.1 q.2.2.2.1 q.2.2.2.2.1 q.2.2.2.2.2.1 q.2.2.2.2.2.2.1 q.2.2.2.2.2.2.2.1 q.2.2.2.2.2.2.2.2.1 q.2.2.2.2.2.2.2.2.2) ((zh.Kind cap),(zb.e0 (zh.Set cap)),(zb.e1 (zh.Set cap)),(zb.e2 (zh.Set cap)),(zb.e3 (zh.Set cap)),(zh.Lo cap),(zh.Hi cap),(zh.Kids cap),cap_1,0) [] h0Inv9 ?_
 rintro ⟨o0_Kind,o0_Set_e0,o0_Set_e1,o0_Set_e2,o0_Set_e3,o0_Lo,o0_Hi,o0_Kids,o1,t8⟩ hi
 have h:=hInv9 o0_Kind o0_Set_e0 o0_Set_e1 o0_Set_e2 o0_Set_e3 o0_Lo o0_Hi o0_Kids o1 t8 hi
 refine sD kk [] [] [(28,vB (decide (t8 < (↑(List.length s0):Int))))] obN ?_
 refine qD ?_
 refine cD (t:=9) (b:=decide (t8 < (↑(List.length s0):Int))) (fun hb11=>?_) (fun hb11=>?_)
 ·have h:=h.1 hb11
  refine Sem.skip' (by kernel_rfl) Wk.refl ?_
  show Sem _ _ _ _ _
  refine wkD [28] ?_
  refine qD ?_
  refine bD (id:=1) ?_
  refine sD kk [] [] [(16,vi t8)] obN ?_
  obtain ⟨h12,h⟩:=h
  obtain ⟨h13,h⟩:=h
  obtain ⟨r0_2,o_4,o_5,hc14,h⟩:=h
  refine sD kk [.e (zD (gd s0 t8)),.c (vB r0_2) [zC o_4,vi o_5]] [] [(3,zC o_4),(6,vi o_5),(49,vB r0_2)] (obC h12 (obC (zL ze s0 t8 _ (zt _) h12 h13) (obC hc14 obN))) ?_
  refine cD (t:=16) (b:=r0_2) (fun hb15=>?_) (fun hb15=>?_)
  ·have h:=h.1 hb15
   refine sD kk [] [1,4,16,22,25,49] [(13,vi t8)] obN ?_
   refine tD ?_
   obtain ⟨he0,he1,he2⟩:=h
   subst res fin fin_1
   exact (endD [] (vi t8) [zC o_4,vi o_5]).1
  ·have h:=h.2 hb15
   refine Sem.skip' (by kernel_rfl) Wk.refl ?_
   show Sem _ _ _ _ _
   refine wkD [16,49] ?_
   refine rD kk [] [] [(25,vi (w64 (t8+1)))] obN ?_
   exact lD ((zh.Kind o_4),(zb.e0 (zh.Set o_4)),(zb.e1 (zh.Set o_4)),(zb.e2 (zh.Set o_4)),(zb.e3 (zh.Set o_4)),(zh.Lo o_4),(zh.Hi o_4),(zh.Kids o_4),o_5,(w64 (t8+1))) [] h
 ·have h:=h.2 hb11
  refine xD (i:=0) ?_
  show Sem _ _ _ _ _
  refine wkD [1,4,22,25,28] ?_
  refine sD kk [] [] [(13,vi (-1))] obN ?_
  refine tD ?_
  obtain ⟨he0,he1,he2⟩:=h
  subst res fin fin_1
  exact (endD [] (vi (-1)) [.agg [vi o0_Kind,vI .u64 o0_Set_e0,vI .u64 o0_Set_e1,vI .u64 o0_Set_e2,vI .u64 o0_Set_e3,vi o0_Lo,vi o0_Hi,vL ze o0_Kids],vi o1]).1
set_option maxHeartbeats 1000000 in
theorem zaJ (s0:(List za)) (cap:zh) (cap_1:Int) (res:Bool) (fin:zh) (fin_1:Int)
 (h:(∃ r0:Int,∃ o:zh,∃ o_1:Int,zJ s0 cap cap_1 r0 o o_1∧(res=(decide (r0≥(0:Int)))∧fin=o∧fin_1=o_1))):zF s0 cap cap_1 res fin fin_1:=by
 unfold zF
 have kk:=cfOk [] 9
 refine fD (x:=bodyOf Tryz.f124) kk Tryz.func124 ?_
 refine wkS [1,3,4,6] [(1,vL ze s0),(3,zC cap),(4,.clo 122 [.ptr 3 0,.ptr 6 0]),(6,vi cap_1)] (by kernel_rfl) ?_
 refine sD kk [] [] [] obN ?_
 obtain ⟨r0,o,o_1,hc0,h⟩:=h
 refine sD kk [.c (vi r0) [zC o,vi o_1]] [1,4] [(3,zC o),(6,vi o_1),(13,vB (decide (r0≥(0:Int))))] (obC hc0 obN) ?_
 refine tD ?_
 obtain ⟨he0,he1,he2⟩:=h
 subst res fin fin_1
 exact (endD [] (vB (decide (r0≥(0:Int)))) [zC o,vi o_1]).1
set_option maxHeartbeats 1000000 in
theorem zfx (x:zh) (deep:Int) (res:Bool)
 (h:(((decide (deep > (0:Int)))=true→(∃ r0:Bool,zbX x r0∧(((r0)=true→(∃ r0_1:Bool,∃ o:zh,∃ o_1:Int,zF (zh.Kids x) x deep r0_1 o o_1∧(res=(!r0_1))))∧((r0)=false→(res=false)))))∧((decide (deep > (0:Int)))=false→(res=false)))):zaz x deep res:=by
 unfold zaz
 have kk:=cfOk [] 20
 refine fD (x:=bodyOf Tryz.f98) kk Tryz.func98 ?_
 refine wkS [1,4] [(1,zC x),(4,vi deep)] (by kernel_rfl) ?_
 refine sD kk [] [1,4] [(7,.ptr 8 0),(8,zC x),(10,.ptr 11 0),(11,vi deep)] obN ?_
 refine sD kk [] [] [(16,.clo 122 [.ptr 8 0,.ptr 11 0])] obN ?_
 rcases Bool.eq_false_or_eq_true (decide (deep > (0:Int))) with hb0 | hb0
 ·have h:=h.1 hb0
  obtain ⟨r0,hc1,h⟩:=h
  rcases Bool.eq_false_or_eq_true (r0) with hb2 | hb2
  ·have h:=h.1 hb2
   obtain ⟨r0_1,o,o_1,hc3,h⟩:=h
   refine sD kk [bT,bT,.c (vB r0) [],bT,bT,bT,bT,bT,.c (vB r0_1) [zC o,vi o_1],bT,bT] [7,8,10,11,16] [(13,vB (!r0_1))] (obC (gtt hb0) (obC (gtt hb0) (obC hc1 (obC hb0 (obC (gtt hb2) (obC (gtt hb2) (obC (gtt hb2) (obC (gtt hb2) (obC hc3 (obC (gtt hb2) (obC hb2 obN))))))))))) ?_
   refine tD ?_
   obtain he0:=h
   subst res
   exact (endD [] (vB (!r0_1)) []).1
  ·have h:=h.2 hb2
   refine sD kk [bT,bT,.c (vB r0) [],bT,bF,bF,bF,bF,bF,bF] [7,8,10,11,16] [(13,vB false)] (obC (gtt hb0) (obC (gtt hb0) (obC hc1 (obC hb0 (obC (gtf hb2) (obC (gtf hb2) (obC (gtf hb2) (obC (gtf hb2) (obC (gtf hb2) (obC hb2 obN)))))))))) ?_
   refine tD ?_
   obtain he0:=h
   subst res
   exact (endD [] (vB false) []).1
 ·have h:=h.2 hb0
  refine sD kk [bF,bF,bF,bF,bF,bF,bF,bF,bF] [7,8,10,11,16] [(13,vB false)] (obC (gtf hb0) (obC (gtf hb0) (obC hb0 (oF (oF (oF (oF (oF (oF obN))))))))) ?_
  refine tD ?_
  obtain he0:=h
  subst res
  exact (endD [] (vB false) []).1
set_option maxHeartbeats 1000000 in
theorem W_rx_Size (x:za) (res:Int)
 (h:(((za.Kind x == (2:Int))=true→(res=1))∧((za.Kind x == (2:Int))=false→(((decide (za.Kind x < (3:Int)) || decide (za.Kind x > (5:Int)))=true→(res=0))∧((decide (za.Kind x < (3:Int)) || decide (za.Kind x > (5:Int)))=false→(∃ (Inv10:Int→Int→Prop) (mu11:Int→Int→Nat),Inv10 0 0∧(∀ (n:Int) (t19:Int),Inv10 n t19→(((decide (t19 < (↑(List.length (za.Kids x)):Int)))=true→((0:Int)≤t19)∧t19 < ↑(List.length (za.Kids x))∧(∃ r0_2:Int,zdb (gd (za.Kids x) t19) r0_2∧(Inv10 (if false=true then if (1000000:Int) > w64 (n+r0_2) then (1000000:Int) else w64 (n+r0_2) else if (1000000:Int) < w64 (n+r0_2) then (1000000:Int) else w64 (n+r0_2)) (w64 (t19+1))∧mu11 (if false=true then if (1000000:Int) > w64 (n+r0_2) then (1000000:Int) else w64 (n+r0_2) else if (1000000:Int) < w64 (n+r0_2) then (1000000:Int) else w64 (n+r0_2)) (w64 (t19+1)) < mu11 n t19)))∧((decide (t19 < (↑(List.length (za.Kids x)):Int)))=false→(∃ J17:Int→Prop,(∀ (n_1:Int),J17 n_1→(res=(if false=true then if (1000000:Int) > n_1 then (1000000:Int) else n_1 else if (1000000:Int) < n_1 then (1000000:Int) else n_1)))∧(((za.Kind x == (5:Int))=true→J17 (w64 (n * if (if false=true then if (if za.Hi x > za.Lo x then za.Hi x else za.Lo x) > (1000:Int) then if za.Hi x > za.Lo x then za.Hi x else za.Lo x else (1000:Int) else if (if za.Hi x > za.Lo x then za.Hi x else za.Lo x) < (1000:Int) then if za.Hi x > za.Lo x then za.Hi x else za.Lo x else (1000:Int)) > (1:Int) then if false=true then if (if za.Hi x > za.Lo x then za.Hi x else za.Lo x) > (1000:Int) then if za.Hi x > za.Lo x then za.Hi x else za.Lo x else (1000:Int) else if (if za.Hi x > za.Lo x then za.Hi x else za.Lo x) < (1000:Int) then if za.Hi x > za.Lo x then za.Hi x else za.Lo x else (1000:Int) else (1:Int))))∧((za.Kind x == (5:Int))=false→J17 n)))))))))))):zdb x res:=by
 unfold zdb
 have kk:=cfOk [] 43
 refine fD (x:=bodyOf Tryz.f99) kk Tryz.func99 ?_
 refine wkS [1] [(1,zm x)] (by kernel_rfl) ?_
 refine sD kk [] [1] [(4,.ptr 5 0),(5,zm x),(7,vi 0)] obN ?_
 refine qD ?_
 refine sD kk [] [] [(22,vB (za.Kind x == (2:Int)))] obN ?_
 refine cD (t:=7) (b:=za.Kind x == (2:Int)) (fun hb0=>?_) (fun hb0=>?_)
 ·have h:=h.1 hb0
  refine sD kk [] [4,5,22] [(7,vi 1)] obN ?_
  refine tD ?_
  obtain he0:=h
  subst res
  exact (endD [] (vi 1) []).1
 ·have h:=h.2 hb0
  refine Sem.skip' (by kernel_rfl) Wk.refl ?_
  show Sem _ _ _ _ _
  refine wkD [22] ?_
  refine qD ?_
  refine sM [] [(46,vB (decide (za.Kind x < (3:Int)) || decide (za.Kind x > (5:Int))))] ?_ (fun hk0=>?_)
  ·refine cD (t:=15) (b:=decide (za.Kind x < (3:Int)) || decide (za.Kind x > (5:Int))) (fun hb2=>?_) (fun hb2=>?_)
   ·have h:=h.1 hb2
    refine sD kk [] [4,5,46] [] obN ?_
    refine tD ?_
    obtain he0:=h
    subst res
    exact (endD [] (vi 0) []).1
   ·have h:=h.2 hb2
    refine Sem.skip' (by kernel_rfl) Wk.refl ?_
    show Sem _ _ _ _ _
    refine wkD [46] ?_
    refine qD ?_
    refine sDE kk [] [] [(52,vL ze (za.Kids x)),(55,vi ((↑(List.length (List.map ze (za.Kids x))):Int))),(58,vi 0)] [(52,vL ze (za.Kids x)),(55,vi ((↑(List.length (za.Kids x)):Int))),(58,vi 0)] obN ?_
    refine bD (id:=0) ?_
    obtain ⟨Inv10,mu11,h0Inv10,hInv10⟩:=h
    refine loD (fun (q:Int×Int)=>(fun (n:Int) (t19:Int)=>([(4,.ptr 5 0),(5,zm x),(7,vi n),(52,vL ze (za.Kids x)),(55,vi ((↑(List.length (za.Kids x)):Int))),(58,vi t19)]:Sta)) q.1 q.2) (fun (q:Int×Int)=>Inv10 q.1 q.2) (fun (q:Int×Int)=>mu11 q.1 q.2) (0,0) [] h0Inv10 ?_
    rintro ⟨n,t19⟩ hi
    have h:=hInv10 n t19 hi
    refine sD kk [] [] [(61,vB (decide (t19 < (↑(List.length (za.Kids x)):Int))))] obN ?_
    refine qD ?_
    refine cD (t:=20) (b:=decide (t19 < (↑(List.length (za.Kids x)):Int))) (fun hb12=>?_) (fun hb12=>?_)
    ·have h:=h.1 hb12
     refine Sem.skip' (by kernel_rfl) Wk.refl ?_
     show Sem _ _ _ _ _
     refine wkD [61] ?_
     refine qD ?_
     refine bD (id:=1) ?_
     obtain ⟨h13,h⟩:=h
     obtain ⟨h14,h⟩:=h
     refine sD kk [.e (zD (gd (za.Kids x) t19))] [] [(13,.ptr 14 0),(14,zm (gd (za.Kids x) t19))] (obC h13 (obC (zL ze (za.Kids x) t19 _ (zt _) h13 h14) obN)) ?_
     obtain ⟨r0_2,hc15,h⟩:=h
     refine rD kk [.c (vi r0_2) []] [13,14] [(7,vi (if false=true then if (1000000:Int) > w64 (n+r0_2) then (1000000:Int) else w64 (n+r0_2) else if (1000000:Int) < w64 (n+r0_2) then (1000000:Int) else w64 (n+r0_2)))] (obC hc15 obN) ?_
     show Sem _ _ _ _ _
     refine rD kk [] [] [(58,vi (w64 (t19+1)))] obN ?_
     exact lD ((if false=true then if (1000000:Int) > w64 (n+r0_2) then (1000000:Int) else w64 (n+r0_2) else if (1000000:Int) < w64 (n+r0_2) then (1000000:Int) else w64 (n+r0_2)),(w64 (t19+1))) [] h
    ·have h:=h.2 hb12
     refine xD (i:=0) ?_
     show Sem _ _ _ _ _
     refine wkD [52,55,58,61] ?_
     obtain ⟨J17,hJ17,h⟩:=h
     refine sjD (fun (q:Int)=>J17 q) (fun (q:Int)=>(fun (n_1:Int)=>([(7,vi n_1)]:Sta)) q) ?_ ?_
     ·rintro n_1 hj
      have h:=hJ17 n_1 hj
      refine sD kk [] [] [(7,vi (if false=true then if (1000000:Int) > n_1 then (1000000:Int) else n_1 else if (1000000:Int) < n_1 then (1000000:Int) else n_1))] obN ?_
      refine tD ?_
      obtain he0:=h
      subst res
      exact (endD [] (vi (if false=true then if (1000000:Int) > n_1 then (1000000:Int) else n_1 else if (1000000:Int) < n_1 then (1000000:Int) else n_1)) []).1
     ·refine sD kk [] [] [(94,vB (za.Kind x == (5:Int)))] obN ?_
      refine cD (t:=31) (b:=za.Kind x == (5:Int)) (fun hb18=>?_) (fun hb18=>?_)
      ·have h:=h.1 hb18
       refine rDE kk [] [4,5,94] [(7,vi (w64 (n * if true=true then if (if false=true then if (if true=true then if za.Hi x > za.Lo x then za.Hi x else za.Lo x else if za.Hi x < za.Lo x then za.Hi x else za.Lo x) > (1000:Int) then if true=true then if za.Hi x > za.Lo x then za.Hi x else za.Lo x else if za.Hi x < za.Lo x then za.Hi x else za.Lo x else (1000:Int) else if (if true=true then if za.Hi x > za.Lo x then za.Hi x else za.Lo x else if za.Hi x < za.Lo x then za.Hi x else za.Lo x) < (1000:Int) then if true=true then if za.Hi x > za.Lo x then za.Hi x else za.Lo x else if za.Hi x < za.Lo x then za.Hi x else za.Lo x else (1000:Int)) > (1:Int) then if false=true then if (if true=true then if za.Hi x > za.Lo x then za.Hi x else za.Lo x else if za.Hi x < za.Lo x then za.Hi x else za.Lo x) > (1000:Int) then if true=true then if za.Hi x > za.Lo x then za.Hi x else za.Lo x else if za.Hi x < za.Lo x then za.Hi x else za.Lo x else (1000:Int) else if (if true=true then if za.Hi x > za.Lo x then za.Hi x else za.Lo x else if za.Hi x < za.Lo x then za.Hi x else za.Lo x) < (1000:Int) then if true=true then if za.Hi x > za.Lo x then za.Hi x else za.Lo x else if za.Hi x < za.Lo x then za.Hi x else za.Lo x else (1000:Int) else (1:Int) else if (if false=true then if (if true=true then if za.Hi x > za.Lo x then za.Hi x else za.Lo x else if za.Hi x < za.Lo x then za.Hi x else za.Lo x) > (1000:Int) then if true=true then if za.Hi x > za.Lo x then za.Hi x else za.Lo x else if za.Hi x < za.Lo x then za.Hi x else za.Lo x else (1000:Int) else if (if true=true then if za.Hi x > za.Lo x then za.Hi x else za.Lo x else if za.Hi x < za.Lo x then za.Hi x else za.Lo x) < (1000:Int) then if true=true then if za.Hi x > za.Lo x then za.Hi x else za.Lo x else if za.Hi x < za.Lo x then za.Hi x else za.Lo x else (1000:Int)) < (1:Int) then if false=true then if (if true=true then if za.Hi x > za.Lo x then za.Hi x else za.Lo x else if za.Hi x < za.Lo x then za.Hi x else za.Lo x) > (1000:Int) then if true=true then if za.Hi x > za.Lo x then za.Hi x else za.Lo x else if za.Hi x < za.Lo x then za.Hi x else za.Lo x else (1000:Int) else if (if true=true then if za.Hi x > za.Lo x then za.Hi x else za.Lo x else if za.Hi x < za.Lo x then za.Hi x else za.Lo x) < (1000:Int) then if true=true then if za.Hi x > za.Lo x then za.Hi x else za.Lo x else if za.Hi x < za.Lo x then za.Hi x else za.Lo x else (1000:Int) else (1:Int))))] [(7,vi (w64 (n * if (if false=true then if (if za.Hi x > za.Lo x then za.Hi x else za.Lo x) > (1000:Int) then if za.Hi x > za.Lo x then za.Hi x else za.Lo x else (1000:Int) else if (if za.Hi x > za.Lo x then za.Hi x else za.Lo x) < (1000:Int) then if za.Hi x > za.Lo x then za.Hi x else za.Lo x else (1000:Int)) > (1:Int) then if false=true then if (if za.Hi x > za.Lo x then za.Hi x else za.Lo x) > (1000:Int) then if za.Hi x > za.Lo x then za.Hi x else za.Lo x else (1000:Int) else if (if za.Hi x > za.Lo x then za.Hi x else za.Lo x) < (1000:Int) then if za.Hi x > za.Lo x then za.Hi x else za.Lo x else (1000:Int) else (1:Int))))] obN ?_
       exact jD (w64 (n * if (if false=true then if (if za.Hi x > za.Lo x then za.Hi x else za.Lo x) > (1000:Int) then if za.Hi x > za.Lo x then za.Hi x else za.Lo x else (1000:Int) else if (if za.Hi x > za.Lo x then za.Hi x else za.Lo x) < (1000:Int) then if za.Hi x > za.Lo x then za.Hi x else za.Lo x else (1000:Int)) > (1:Int) then if false=true then if (if za.Hi x > za.Lo x then za.Hi x else za.Lo x) > (1000:Int) then if za.Hi x > za.Lo x then za.Hi x else za.Lo x else (1000:Int) else if (if za.Hi x > za.Lo x then za.Hi x else za.Lo x) < (1000:Int) then if za.Hi x > za.Lo x then za.Hi x else za.Lo x else (1000:Int) else (1:Int))) [] h
      ·have h:=h.2 hb18
       refine Sem.skip' (by kernel_rfl) Wk.refl ?_
       exact jD n [] h
  ·rcases Bool.eq_false_or_eq_true (decide (za.Kind x < (3:Int))) with hb1 | hb1
   ·refine sD kk [bF,bF,bF,bT] [] [(46,vB true)] (obC (gff hb1) (obC (gff hb1) (obC (gff hb1) (obC hb1 obN)))) ?_
    exact Sem.cast (by try rw [hb1];kernel_rfl) hk0
   ·refine sD kk [bT,bT,bT,bF] [] [(46,vB (decide (za.Kind x > (5:Int))))] (obC (gft hb1) (obC (gft hb1) (obC (gft hb1) (obC hb1 obN)))) ?_
    exact Sem.cast (by try rw [hb1];kernel_rfl) hk0
set_option maxHeartbeats 1000000 in
theorem W_rx_nodes (x:za) (most:Int) (res:Int)
 (h:(∃ (Inv18:Int→Int→Prop) (mu19:Int→Int→Nat),Inv18 (w64 (most - 1)) 0∧(∀ (most_2:Int) (t12:Int),Inv18 most_2 t12→(((decide (t12 < (↑(List.length (za.Kids x)):Int)))=true→(∃ J25:Int→Prop,(∀ (most_4:Int),J25 most_4→(Inv18 most_4 (w64 (t12+1))∧mu19 most_4 (w64 (t12+1)) < mu19 most_2 t12))∧((0:Int)≤t12)∧t12 < ↑(List.length (za.Kids x))∧(((decide (most_2≥(0:Int)))=true→(∃ r0_5:Int,zda (gd (za.Kids x) t12) most_2 r0_5∧J25 r0_5))∧((decide (most_2≥(0:Int)))=false→J25 most_2))))∧((decide (t12 < (↑(List.length (za.Kids x)):Int)))=false→(res=most_2)))))):zda x most res:=by
 unfold zda
 have kk:=cfOk [22] 23
 refine fD (x:=bodyOf Tryz.f100) kk Tryz.func100 ?_
 refine wkS [1,4] [(1,zm x),(4,vi most)] (by kernel_rfl) ?_
 refine sD kk [] [1] [(7,.ptr 8 0),(8,zm x)] obN ?_
 refine sD kk [] [] [(4,vi (w64 (most - 1)))] obN ?_
 refine qD ?_
 refine sDE kk [] [7,8] [(31,vL ze (za.Kids x)),(34,vi ((↑(List.length (List.map ze (za.Kids x))):Int))),(37,vi 0)] [(31,vL ze (za.Kids x)),(34,vi ((↑(List.length (za.Kids x)):Int))),(37,vi 0)] obN ?_
 refine bD (id:=0) ?_
 obtain ⟨Inv18,mu19,h0Inv18,hInv18⟩:=h
 refine loD (fun (q:Int×Int)=>(fun (most_2:Int) (t12:Int)=>([(4,vi most_2),(31,vL ze (za.Kids x)),(34,vi ((↑(List.length (za.Kids x)):Int))),(37,vi t12)]:Sta)) q.1 q.2) (fun (q:Int×Int)=>Inv18 q.1 q.2) (fun (q:Int×Int)=>mu19 q.1 q.2) ((w64 (most - 1)),0) [] h0Inv18 ?_
 rintro ⟨most_2,t12⟩ hi
 have h:=hInv18 most_2 t12 hi
 refine sD kk [] [] [(40,vB (decide (t12 < (↑(List.length (za.Kids x)):Int))))] obN ?_
 refine qD ?_
 refine cD (t:=13) (b:=decide (t12 < (↑(List.length (za.Kids x)):Int))) (fun hb20=>?_) (fun hb20=>?_)
 ·have h:=h.1 hb20
  refine Sem.skip' (by kernel_rfl) Wk.refl ?_
  show Sem _ _ _ _ _
  refine wkD [40] ?_
  obtain ⟨J25,hJ25,h⟩:=h
  refine sjD (fun (q:Int)=>J25 q) (fun (q:Int)=>(fun (most_4:Int)=>([(4,vi most_4),(31,vL ze (za.Kids x)),(34,vi ((↑(List.length (za.Kids x)):Int))),(37,vi t12)]:Sta)) q) ?_ ?_
  ·rintro most_4 hj
   have h:=hJ25 most_4 hj
   refine rD kk [] [] [(37,vi (w64 (t12+1)))] obN ?_
   exact lD (most_4,(w64 (t12+1))) [] h
  ·refine bD (id:=1) ?_
   obtain ⟨h26,h⟩:=h
   obtain ⟨h27,h⟩:=h
   refine sD kk [.e (zD (gd (za.Kids x) t12))] [] [(19,.ptr 20 0),(20,zm (gd (za.Kids x) t12))] (obC h26 (obC (zL ze (za.Kids x) t12 _ (zt _) h26 h27) obN)) ?_
   refine sD kk [] [] [(52,vB (decide (most_2≥(0:Int))))] obN ?_
   refine cD (t:=17) (b:=decide (most_2≥(0:Int))) (fun hb28=>?_) (fun hb28=>?_)
   ·have h:=h.1 hb28
    obtain ⟨r0_5,hc29,h⟩:=h
    refine rD kk [.c (vi r0_5) []] [19,20,52] [(4,vi r0_5)] (obC hc29 obN) ?_
    exact jD r0_5 [] h
   ·have h:=h.2 hb28
    refine Sem.skip' (by kernel_rfl) Wk.refl ?_
    exact jD most_2 [] h
 ·have h:=h.2 hb20
  refine xD (i:=0) ?_
  show Sem _ _ _ _ _
  refine wkD [31,34,37,40] ?_
  refine sD kk [] [4] [(13,vi most_2)] obN ?_
  refine tD ?_
  obtain he0:=h
  subst res
  exact (endD [] (vi most_2) []).1
set_option maxHeartbeats 1000000 in
theorem W_rx_Right (x:za) (res:Bool)
 (h:(∃ r0:Bool,zaz ({ Kind:=za.Kind x,Set:=za.Set x,Lo:=za.Lo x,Hi:=za.Hi x,Kids:=za.Kids x }) 20 r0∧(((r0)=true→(∃ r0_1:Int,zdb x r0_1∧(((decide (r0_1≤(200:Int)))=true→(∃ r0_2:Int,zda x ((1000:Int)) r0_2∧(res=(decide (r0_2≥(0:Int))))))∧((decide (r0_1≤(200:Int)))=false→(res=false)))))∧((r0)=false→(res=false))))):zcq x res:=by
 unfold zcq
 have kk:=cfOk [] 15
 refine fD (x:=bodyOf Tryz.f64) kk Tryz.func64 ?_
 refine wkS [1] [(1,zm x)] (by kernel_rfl) ?_
 refine sD kk [] [1] [(4,.ptr 5 0),(5,zm x)] obN ?_
 obtain ⟨r0,hc0,h⟩:=h
 rcases Bool.eq_false_or_eq_true (r0) with hb1 | hb1
 ·have h:=h.1 hb1
  obtain ⟨r0_1,hc2,h⟩:=h
  rcases Bool.eq_false_or_eq_true (decide (r0_1≤(200:Int))) with hb3 | hb3
  ·have h:=h.1 hb3
   obtain ⟨r0_2,hc4,h⟩:=h
   refine sD kk [.c (vB r0) [],bT,bT,.c (vi r0_1) [],bT,bT,bT,bT,.c (vi r0_2) [],bT,bT] [4,5] [(7,vB (decide (r0_2≥(0:Int))))] (obC hc0 (obC (gtt hb1) (obC (gtt hb1) (obC hc2 (obC (gtt hb1) (obC hb1 (obC (gtt hb3) (obC (gtt hb3) (obC hc4 (obC (gtt hb3) (obC hb3 obN))))))))))) ?_
   refine tD ?_
   obtain he0:=h
   subst res
   exact (endD [] (vB (decide (r0_2≥(0:Int)))) []).1
  ·have h:=h.2 hb3
   refine sD kk [.c (vB r0) [],bT,bT,.c (vi r0_1) [],bT,bT,bF,bF,bF,bF] [4,5] [(7,vB false)] (obC hc0 (obC (gtt hb1) (obC (gtt hb1) (obC hc2 (obC (gtt hb1) (obC hb1 (obC (gtf hb3) (obC (gtf hb3) (obC (gtf hb3) (obC hb3 obN)))))))))) ?_
   refine tD ?_
   obtain he0:=h
   subst res
   exact (endD [] (vB false) []).1
 ·have h:=h.2 hb1
  refine sD kk [.c (vB r0) [],bF,bF,bF,bF,bF,bF,bF,bF] [4,5] [(7,vB false)] (obC hc0 (obC (gtf hb1) (obC (gtf hb1) (obC (gtf hb1) (obC hb1 (oF (oF (oF (oF obN))))))))) ?_
  refine tD ?_
  obtain he0:=h
  subst res
  exact (endD [] (vB false) []).1
set_option maxHeartbeats 1000000 in
theorem zh3 (x:za) (res:za)
 (h:(∃ J2:List za→Prop,(∀ (x_Kids:List za),J2 x_Kids→(∃ (Inv11:List za→Int→Prop) (mu12:List za→Int→Nat),Inv11 ([]) 0∧(∀ (kids:List za) (t16:Int),Inv11 kids t16→(((decide (t16 < (↑(List.length x_Kids):Int)))=true→((0:Int)≤t16)∧t16 < ↑(List.length x_Kids)∧(∃ r0_3:za,zbk (gd x_Kids t16) r0_3∧((List.length kids+(1:Nat)) * (80:Nat)≤(2:Nat) ^ (47:Nat))∧(Inv11 (kids++[r0_3]) (w64 (t16+1))∧mu12 (kids++[r0_3]) (w64 (t16+1)) < mu12 kids t16)))∧((decide (t16 < (↑(List.length x_Kids):Int)))=false→(res=({ Kind:=za.Kind x,Set:=za.Set x,Lo:=za.Lo x,Hi:=za.Hi x,Kids:=kids })))))))∧(((za.Kind x == (3:Int))=true→(∃ r0_4:List za,zbc (za.Kids x) r0_4∧J2 r0_4))∧((za.Kind x == (3:Int))=false→J2 (za.Kids x))))):zbk x res:=by
 unfold zbk
 have kk:=cfOk [28] 29
 refine fD (x:=bodyOf Tryz.f65) kk Tryz.func65 ?_
 refine wkS [1] [(1,zm x)] (by kernel_rfl) ?_
 refine sDE kk [] [1] [(4,.ptr 5 0),(5,zm x),(7,.ptr 8 0),(8,.agg [vi 0,vI .u64 0,vI .u64 0,vI .u64 0,vI .u64 0,vi 0,vi 0,.own 28 ([])])] [(4,.ptr 5 0),(5,zm x),(7,.ptr 8 0),(8,.agg [vi 0,vI .u64 0,vI .u64 0,vI .u64 0,vI .u64 0,vi 0,vi 0,oL 28 ze ([])])] obN ?_
 obtain ⟨J2,hJ2,h⟩:=h
 refine sjD (fun (q:List za)=>J2 q) (fun (q:List za)=>(fun (x_Kids:List za)=>([(4,.ptr 5 0),(5,.agg [vi (za.Kind x),vI .u64 (zb.e0 (za.Set x)),vI .u64 (zb.e1 (za.Set x)),vI .u64 (zb.e2 (za.Set x)),vI .u64 (zb.e3 (za.Set x)),vi (za.Lo x),vi (za.Hi x),vL ze x_Kids]),(7,.ptr 8 0),(8,.agg [vi 0,vI .u64 0,vI .u64 0,vI .u64 0,vI .u64 0,vi 0,vi 0,oL 28 ze ([])])]:Sta)) q) ?_ ?_
 ·rintro x_Kids hj
  have h:=hJ2 x_Kids hj
  refine sDE kk [] [] [(10,.own 28 ([]))] [(10,oL 28 ze ([]))] obN ?_
  refine qD ?_
  refine sDE kk [] [] [(43,vL ze x_Kids),(46,vi ((↑(List.length (List.map ze x_Kids)):Int))),(49,vi 0)] [(43,vL ze x_Kids),(46,vi ((↑(List.length x_Kids):Int))),(49,vi 0)] obN ?_
  refine bD (id:=0) ?_
  obtain ⟨Inv11,mu12,h0Inv11,hInv11⟩:=h
  refine loD (fun (q:List za×Int)=>(fun (kids:List za) (t16:Int)=>([(4,.ptr 5 0),(5,.agg [vi (za.Kind x),vI .u64 (zb.e0 (za.Set x)),vI .u64 (zb.e1 (za.Set x)),vI .u64 (zb.e2 (za.Set x)),vI .u64 (zb.e3 (za.Set x)),vi (za.Lo x),vi (za.Hi x),vL ze x_Kids]),(7,.ptr 8 0),(8,.agg [vi 0,vI .u64 0,vI .u64 0,vI .u64 0,vI .u64 0,vi 0,vi 0,oL 28 ze ([])]),(10,oL 28 ze kids),(43,vL ze x_Kids),(46,vi ((↑(List.length x_Kids):Int))),(49,vi t16)]:Sta)) q.1 q.2) (fun (q:List za×Int)=>Inv11 q.1 q.2) (fun (q:List za×Int)=>mu12 q.1 q.2) (([]),0) [] h0Inv11 ?_
  rintro ⟨kids,t16⟩ hi
  have h:=hInv11 kids t16 hi
  refine sD kk [] [] [(52,vB (decide (t16 < (↑(List.length x_Kids):Int))))] obN ?_
  refine qD ?_
  refine cD (t:=17) (b:=decide (t16 < (↑(List.length x_Kids):Int))) (fun hb13=>?_) (fun hb13=>?_)
  ·have h:=h.1 hb13
   refine Sem.skip' (by kernel_rfl) Wk.refl ?_
   show Sem _ _ _ _ _
   refine wkD [52] ?_
   refine qD ?_
   refine bD (id:=1) ?_
   obtain ⟨h14,h⟩:=h
   obtain ⟨h15,h⟩:=h
   refine sD kk [.e (zD (gd x_Kids t16))] [] [(16,.ptr 17 0),(17,zm (gd x_Kids t16))] (obC h14 (obC (zL ze x_Kids t16 _ (zt _) h14 h15) obN)) ?_
   obtain ⟨r0_3,hc16,h⟩:=h
   obtain ⟨h17,h⟩:=h
   refine rDE kk [.c (zm r0_3) []] [16,17] [(10,.own 28 (List.map ze kids++List.take (List.length [FV.agg [FV.pv (Value.int IntKind.i64 (za.Kind r0_3)),FV.pv (Value.int IntKind.u64 (zb.e0 (za.Set r0_3))),FV.pv (Value.int IntKind.u64 (zb.e1 (za.Set r0_3))),FV.pv (Value.int IntKind.u64 (zb.e2 (za.Set r0_3))),FV.pv (Value.int IntKind.u64 (zb.e3 (za.Set r0_3))),FV.pv (Value.int IntKind.i64 (za.Lo r0_3)),FV.pv (Value.int IntKind.i64 (za.Hi r0_3)),FV.sl (List.map ze (za.Kids r0_3))]]) (List.drop (0:Nat) [FV.agg [FV.pv (Value.int IntKind.i64 (za.Kind r0_3)),FV.pv (Value.int IntKind.u64 (zb.e0 (za.Set r0_3))),FV.pv (Value.int IntKind.u64 (zb.e1 (za.Set r0_3))),FV.pv (Value.int IntKind.u64 (zb.e2 (za.Set r0_3))),FV.pv (Value.int IntKind.u64 (zb.e3 (za.Set r0_3))),FV.pv (Value.int IntKind.i64 (za.Lo r0_3)),FV.pv (Value.int IntKind.i64 (za.Hi r0_3)),FV.sl (List.map ze (za.Kids r0_3))]])))] [(10,oL 28 ze (kids++[r0_3]))] (obC hc16 (obC (show (0:Nat)=(0:Nat)∧List.length (List.map ze kids)=List.length (List.map ze kids) from ⟨rfl,rfl⟩) (obC (show (List.length (List.map ze kids)+List.length (List.take (1:Nat) (List.drop (0:Nat) [FV.agg [FV.pv (Value.int IntKind.i64 (za.Kind r0_3)),FV.pv (Value.int IntKind.u64 (zb.e0 (za.Set r0_3))),FV.pv (Value.int IntKind.u64 (zb.e1 (za.Set r0_3))),FV.pv (Value.int IntKind.u64 (zb.e2 (za.Set r0_3))),FV.pv (Value.int IntKind.u64 (zb.e3 (za.Set r0_3))),FV.pv (Value.int IntKind.i64 (za.Lo r0_3)),FV.pv (Value.int IntKind.i64 (za.Hi r0_3)),FV.sl (List.map ze (za.Kids r0_3))]]))) * (80:Nat)≤(2:Nat) ^ (47:Nat) from by simpa only [nm] using h17) (obC (show List.all (List.take (1:Nat) (List.drop (0:Nat) [FV.agg [FV.pv (Value.int IntKind.i64 (za.Kind r0_3)),FV.pv (Value.int IntKind.u64 (zb.e0 (za.Set r0_3))),FV.pv (Value.int IntKind.u64 (zb.e1 (za.Set r0_3))),FV.pv (Value.int IntKind.u64 (zb.e2 (za.Set r0_3))),FV.pv (Value.int IntKind.u64 (zb.e3 (za.Set r0_3))),FV.pv (Value.int IntKind.i64 (za.Lo r0_3)),FV.pv (Value.int IntKind.i64 (za.Hi r0_3)),FV.sl (List.map ze (za.Kids r0_3))]])) (FV.fits (8:Nat))=true from by first | exact zbo _ | rfl | simp [isByteF,FV.fits,FV.size,FV.cells,FV.one,zt]) obN)))) ?_
   show Sem _ _ _ _ _
   refine rD kk [] [] [(49,vi (w64 (t16+1)))] obN ?_
   exact lD ((kids++[r0_3]),(w64 (t16+1))) [] h
  ·have h:=h.2 hb13
   refine xD (i:=0) ?_
   show Sem _ _ _ _ _
   refine wkD [43,46,49,52] ?_
   refine sDE kk [] [10] [(5,.agg [vi (za.Kind x),vI .u64 (zb.e0 (za.Set x)),vI .u64 (zb.e1 (za.Set x)),vI .u64 (zb.e2 (za.Set x)),vI .u64 (zb.e3 (za.Set x)),vi (za.Lo x),vi (za.Hi x),.f (FV.sl (List.take (List.length (List.map ze kids)) (List.drop (0:Nat) (List.map ze kids))))])] [(5,.agg [vi (za.Kind x),vI .u64 (zb.e0 (za.Set x)),vI .u64 (zb.e1 (za.Set x)),vI .u64 (zb.e2 (za.Set x)),vI .u64 (zb.e3 (za.Set x)),vi (za.Lo x),vi (za.Hi x),vL ze kids])] obN ?_
   refine sD kk [] [4,5] [(8,.agg [vi (za.Kind x),vI .u64 (zb.e0 (za.Set x)),vI .u64 (zb.e1 (za.Set x)),vI .u64 (zb.e2 (za.Set x)),vI .u64 (zb.e3 (za.Set x)),vi (za.Lo x),vi (za.Hi x),vL ze kids])] obN ?_
   refine tD ?_
   obtain he0:=h
   subst res
   exact (endD [] (.agg [vi (za.Kind x),vI .u64 (zb.e0 (za.Set x)),vI .u64 (zb.e1 (za.Set x)),vI .u64 (zb.e2 (za.Set x)),vI .u64 (zb.e3 (za.Set x)),vi (za.Lo x),vi (za.Hi x),vL ze kids]) []).1
 ·refine sD kk [] [] [(25,vB (za.Kind x == (3:Int)))] obN ?_
  refine cD (t:=8) (b:=za.Kind x == (3:Int)) (fun hb18=>?_) (fun hb18=>?_)
  ·have h:=h.1 hb18
   obtain ⟨r0_4,hc19,h⟩:=h
   refine rD kk [.c (vL ze r0_4) []] [25] [(5,.agg [vi (za.Kind x),vI .u64 (zb.e0 (za.Set x)),vI .u64 (zb.e1 (za.Set x)),vI .u64 (zb.e2 (za.Set x)),vI .u64 (zb.e3 (za.Set x)),vi (za.Lo x),vi (za.Hi x),vL ze r0_4])] (obC hc19 obN) ?_
   exact jD r0_4 [] h
  ·have h:=h.2 hb18
   refine Sem.skip' (by kernel_rfl) Wk.refl ?_
   exact jD (za.Kids x) [] h
set_option maxHeartbeats 1000000 in
theorem zh4 (x:za) (res:za) (res_1:Int)
 (h:(∃ r0:Bool,zcq x r0∧(((!r0)=true→(res=({ Kind:=(0:Int),Set:={ e0:=(0:Int),e1:=(0:Int),e2:=(0:Int),e3:=(0:Int) },Lo:=(0:Int),Hi:=(0:Int),Kids:=[] })∧res_1=1))∧((!r0)=false→(∃ r0_1:za,zbk x r0_1∧(res=r0_1∧res_1=0)))))):zaQ x res res_1:=by
 unfold zaQ
 have kk:=cfOk [] 10
 refine fD (x:=bodyOf Tryz.f29) kk Tryz.func29 ?_
 refine wkS [1] [(1,zm x)] (by kernel_rfl) ?_
 refine sDE kk [] [1] [(4,.ptr 5 0),(5,zm x),(7,.ptr 8 0),(8,.agg [vi 0,vI .u64 0,vI .u64 0,vI .u64 0,vI .u64 0,vi 0,vi 0,.own 28 ([])])] [(4,.ptr 5 0),(5,zm x),(7,.ptr 8 0),(8,.agg [vi 0,vI .u64 0,vI .u64 0,vI .u64 0,vI .u64 0,vi 0,vi 0,oL 28 ze ([])])] obN ?_
 refine qD ?_
 obtain ⟨r0,hc0,h⟩:=h
 refine sD kk [.c (vB r0) []] [] [(19,vB (!r0))] (obC hc0 obN) ?_
 refine cD (t:=6) (b:=!r0) (fun hb1=>?_) (fun hb1=>?_)
 ·have h:=h.1 hb1
  refine sDE kk [] [4,5,19] [(8,.agg [vi 0,vI .u64 0,vI .u64 0,vI .u64 0,vI .u64 0,vi 0,vi 0,.own 28 ([])]),(10,vi 1)] [(8,.agg [vi 0,vI .u64 0,vI .u64 0,vI .u64 0,vI .u64 0,vi 0,vi 0,oL 28 ze ([])]),(10,vi 1)] obN ?_
  refine tD ?_
  obtain ⟨he0,he1⟩:=h
  subst res res_1
  exact (endD [] (.tup [.agg [vi 0,vI .u64 0,vI .u64 0,vI .u64 0,vI .u64 0,vi 0,vi 0,.f (FV.sl (List.take (List.length (List.map ze [])) (List.drop (0:Nat) (List.map ze []))))],vi 1]) []).1
 ·have h:=h.2 hb1
  refine Sem.skip' (by kernel_rfl) Wk.refl ?_
  show Sem _ _ _ _ _
  refine wkD [19] ?_
  obtain ⟨r0_1,hc2,h⟩:=h
  refine sD kk [.c (zm r0_1) []] [4,5] [(8,zm r0_1),(10,vi 0)] (obC hc2 obN) ?_
  refine tD ?_
  obtain ⟨he0,he1⟩:=h
  subst res res_1
  exact (endD [] (.tup [zm r0_1,vi 0]) []).1
set_option maxHeartbeats 1000000 in
theorem zd4 (s0:zb) (b:zi) (res:zg) (fin:zi)
 (h:((List.length (zi.sets b)+(1:Nat)) * (32:Nat)≤(2:Nat) ^ (47:Nat))∧((List.length (zi.follow b)+(1:Nat)) * (24:Nat)≤(2:Nat) ^ (47:Nat))∧(res=({ first:=[(↑(List.length (zi.sets b)):Int)],last:=[(↑(List.length (zi.sets b)):Int)],null:=false })∧fin=({ sets:=zi.sets b++[s0],follow:=zi.follow b++[[]] }))):zbH s0 b res fin:=by
 unfold zbH
 have kk:=cfOk [] 34
 refine fD (x:=bodyOf Tryz.f143) kk Tryz.func143 ?_
 refine wkS [1,3,4] [(1,.ptr 3 0),(3,zr b),(4,zy s0)] (by kernel_rfl) ?_
 refine sDE kk [] [4] [(10,.ptr 11 0),(11,zy s0),(13,.ptr 14 0),(14,.agg [.own 3 ([]),.own 3 ([]),vB false])] [(10,.ptr 11 0),(11,zy s0),(13,.ptr 14 0),(14,.agg [oL 3 zd ([]),oL 3 zd ([]),vB false])] obN ?_
 refine sDE kk [] [] [(16,.own 3 ([FV.pv (Value.int IntKind.i64 (↑(List.length (List.map zf (zi.sets b))):Int))]))] [(16,oL 3 zd ([(↑(List.length (zi.sets b)):Int)]))] obN ?_
 obtain ⟨h0,h⟩:=h
 obtain ⟨h1,h⟩:=h
 refine sDE kk [] [1,10,11] [(3,.agg [.own 25 (List.map zf (zi.sets b)++List.take (List.length [FV.agg [FV.pv (Value.int IntKind.u64 (zb.e0 s0)),FV.pv (Value.int IntKind.u64 (zb.e1 s0)),FV.pv (Value.int IntKind.u64 (zb.e2 s0)),FV.pv (Value.int IntKind.u64 (zb.e3 s0))]]) (List.drop (0:Nat) [FV.agg [FV.pv (Value.int IntKind.u64 (zb.e0 s0)),FV.pv (Value.int IntKind.u64 (zb.e1 s0)),FV.pv (Value.int IntKind.u64 (zb.e2 s0)),FV.pv (Value.int IntKind.u64 (zb.e3 s0))]])),.own 40 (List.map zj (zi.follow b)++List.take (List.length [FV.sl []]) (List.drop (0:Nat) [FV.sl []]))])] [(3,.agg [oL 25 zf (zi.sets b++[s0]),oL 40 zj (zi.follow b++[[]])])] (obC (show (0:Nat)=(0:Nat)∧List.length (List.map zf (zi.sets b))=List.length (List.map zf (zi.sets b)) from ⟨rfl,rfl⟩) (obC (show (List.length (List.map zf (zi.sets b))+List.length (List.take (1:Nat) (List.drop (0:Nat) [FV.agg [FV.pv (Value.int IntKind.u64 (zb.e0 s0)),FV.pv (Value.int IntKind.u64 (zb.e1 s0)),FV.pv (Value.int IntKind.u64 (zb.e2 s0)),FV.pv (Value.int IntKind.u64 (zb.e3 s0))]]))) * (32:Nat)≤(2:Nat) ^ (47:Nat) from by simpa only [nm] using h0) (obC (show List.all (List.take (1:Nat) (List.drop (0:Nat) [FV.agg [FV.pv (Value.int IntKind.u64 (zb.e0 s0)),FV.pv (Value.int IntKind.u64 (zb.e1 s0)),FV.pv (Value.int IntKind.u64 (zb.e2 s0)),FV.pv (Value.int IntKind.u64 (zb.e3 s0))]])) (FV.fits (4:Nat))=true from by first | exact fits_u64 _ | rfl | simp [isByteF,FV.fits,FV.size,FV.cells,FV.one,]) (obC (show (0:Nat)=(0:Nat)∧List.length (List.map zj (zi.follow b))=List.length (List.map zj (zi.follow b)) from ⟨rfl,rfl⟩) (obC (show (List.length (List.map zj (zi.follow b))+List.length (List.take (1:Nat) (List.drop (0:Nat) [FV.sl []]))) * (24:Nat)≤(2:Nat) ^ (47:Nat) from by simpa only [nm] using h1) (obC (show List.all (List.take (1:Nat) (List.drop (0:Nat) [FV.sl []])) (FV.fits (1:Nat))=true from by first | decide | rfl | trivial) obN)))))) ?_
 refine sDE kk [] [16] [(14,.agg [.f (FV.sl (List.take (1:Nat) (List.drop (0:Nat) (List.map zd [(↑(List.length (zi.sets b)):Int)])))),.f (FV.sl (List.take (1:Nat) (List.drop (0:Nat) (List.map zd [(↑(List.length (zi.sets b)):Int)])))),vB false])] [(14,.agg [vL zd ([(↑(List.length (zi.sets b)):Int)]),vL zd ([(↑(List.length (zi.sets b)):Int)]),vB false])] obN ?_
 refine tD ?_
 obtain ⟨he0,he1⟩:=h
 subst res fin
 exact (endD [] (.agg [vL zd ([(↑(List.length (zi.sets b)):Int)]),vL zd ([(↑(List.length (zi.sets b)):Int)]),vB false]) [.agg [oL 25 zf (zi.sets b++[s0]),oL 40 zj (zi.follow b++[[]])]]).1
set_option maxHeartbeats 1000000 in
theorem zc8 (slices:(List (List Int))) (res:(List Int))
 (h:(∃ (Inv14:Int→Int→Prop) (mu15:Int→Int→Nat),Inv14 0 0∧(∀ (size:Int) (t11:Int),Inv14 size t11→(((decide (t11 < (↑(List.length slices):Int)))=true→(∃ J20:Prop,(J20→(Inv14 (w64 (size+(↑(List.length (gd slices t11)):Int))) (w64 (t11+1))∧mu15 (w64 (size+(↑(List.length (gd slices t11)):Int))) (w64 (t11+1)) < mu15 size t11))∧((0:Int)≤t11)∧t11 < ↑(List.length slices)∧(((decide (w64 (size+(↑(List.length (gd slices t11)):Int)) < (0:Int)))=true→False)∧((decide (w64 (size+(↑(List.length (gd slices t11)):Int)) < (0:Int)))=false→J20))))∧((decide (t11 < (↑(List.length slices):Int)))=false→((0:Int)≤size∧size≤(2:Int) ^ (40:Nat))∧(∃ (Inv32:List Int→Int→Prop) (mu33:List Int→Int→Nat),Inv32 ([]) 0∧(∀ (newslice:List Int) (t27:Int),Inv32 newslice t27→(((decide (t27 < (↑(List.length slices):Int)))=true→((0:Int)≤t27)∧t27 < ↑(List.length slices)∧((List.length newslice+List.length (gd slices t27)) * (8:Nat)≤(2:Nat) ^ (47:Nat))∧(Inv32 (newslice++gd slices t27) (w64 (t27+1))∧mu33 (newslice++gd slices t27) (w64 (t27+1)) < mu33 newslice t27))∧((decide (t27 < (↑(List.length slices):Int)))=false→(res=newslice)))))))))):zai slices res:=by
 unfold zai
 have kk:=cfOk [35] 36
 refine fD (x:=bodyOf Tryz.f94) kk Tryz.func94 ?_
 refine wkS [1] [(1,vL zj slices)] (by kernel_rfl) ?_
 refine sD kk [] [] [] obN ?_
 refine sD kk [] [] [(10,vi 0)] obN ?_
 refine qD ?_
 refine sDE kk [] [] [(28,vL zj slices),(31,vi ((↑(List.length (List.map zj slices)):Int))),(34,vi 0)] [(28,vL zj slices),(31,vi ((↑(List.length slices):Int))),(34,vi 0)] obN ?_
 refine bD (id:=0) ?_
 obtain ⟨Inv14,mu15,h0Inv14,hInv14⟩:=h
 refine loD (fun (q:Int×Int)=>(fun (size:Int) (t11:Int)=>([(1,vL zj slices),(10,vi size),(28,vL zj slices),(31,vi ((↑(List.length slices):Int))),(34,vi t11)]:Sta)) q.1 q.2) (fun (q:Int×Int)=>Inv14 q.1 q.2) (fun (q:Int×Int)=>mu15 q.1 q.2) (0,0) [] h0Inv14 ?_
 rintro ⟨size,t11⟩ hi
 have h:=hInv14 size t11 hi
 refine sD kk [] [] [(37,vB (decide (t11 < (↑(List.length slices):Int))))] obN ?_
 refine qD ?_
 refine cD (t:=12) (b:=decide (t11 < (↑(List.length slices):Int))) (fun hb16=>?_) (fun hb16=>?_)
 ·have h:=h.1 hb16
  refine Sem.skip' (by kernel_rfl) Wk.refl ?_
  show Sem _ _ _ _ _
  refine wkD [37] ?_
  obtain ⟨J20,hJ20,h⟩:=h
  refine sjD (fun (_:Unit)=>J20) (fun (_:Unit)=>[(1,vL zj slices),(10,vi (w64 (size+(↑(List.length (gd slices t11)):Int)))),(28,vL zj slices),(31,vi ((↑(List.length slices):Int))),(34,vi t11)]) ?_ ?_
  ·rintro _ hj
   have h:=hJ20 hj
   refine rD kk [] [] [(34,vi (w64 (t11+1)))] obN ?_
   exact lD ((w64 (size+(↑(List.length (gd slices t11)):Int))),(w64 (t11+1))) [] h
  ·refine bD (id:=1) ?_
   obtain ⟨h21,h⟩:=h
   obtain ⟨h22,h⟩:=h
   refine sD kk [.e (fL zd (gd slices t11))] [] [(16,vL zd (gd slices t11))] (obC h21 (obC (zL zj slices t11 _ rfl h21 h22) obN)) ?_
   refine sDE kk [] [16] [(10,vi (w64 (size+(↑(List.length (List.map zd (gd slices t11))):Int))))] [(10,vi (w64 (size+(↑(List.length (gd slices t11)):Int))))] obN ?_
   refine sD kk [] [] [(61,vB (decide (w64 (size+(↑(List.length (gd slices t11)):Int)) < (0:Int))))] obN ?_
   refine cD (t:=20) (b:=decide (w64 (size+(↑(List.length (gd slices t11)):Int)) < (0:Int))) (fun hb23=>?_) (fun hb23=>?_)
   ·have h:=h.1 hb23
    exact h.elim
   ·have h:=h.2 hb23
    refine Sem.skip' (by kernel_rfl) Wk.refl ?_
    exact jD () [] h
 ·have h:=h.2 hb16
  refine xD (i:=0) ?_
  show Sem _ _ _ _ _
  refine wkD [28,31,34,37] ?_
  obtain ⟨h24,h⟩:=h
  refine sDE kk [] [10] [(19,.own 3 ([]))] [(19,oL 3 zd ([]))] (obC h24 obN) ?_
  refine qD ?_
  refine sDE kk [] [1] [(76,vL zj slices),(79,vi ((↑(List.length (List.map zj slices)):Int))),(82,vi 0)] [(76,vL zj slices),(79,vi ((↑(List.length slices):Int))),(82,vi 0)] obN ?_
  refine bD (id:=2) ?_
  obtain ⟨Inv32,mu33,h0Inv32,hInv32⟩:=h
  refine loD (fun (q:List Int×Int)=>(fun (newslice:List Int) (t27:Int)=>([(19,oL 3 zd newslice),(76,vL zj slices),(79,vi ((↑(List.length slices):Int))),(82,vi t27)]:Sta)) q.1 q.2) (fun (q:List Int×Int)=>Inv32 q.1 q.2) (fun (q:List Int×Int)=>mu33 q.1 q.2) (([]),0) [] h0Inv32 ?_
  rintro ⟨newslice,t27⟩ hi
  have h:=hInv32 newslice t27 hi
  refine sD kk [] [] [(85,vB (decide (t27 < (↑(List.length slices):Int))))] obN ?_
  refine qD ?_
  refine cD (t:=28) (b:=decide (t27 < (↑(List.length slices):Int))) (fun hb34=>?_) (fun hb34=>?_)
  ·have h:=h.1 hb34
   refine Sem.skip' (by kernel_rfl) Wk.refl ?_
   show Sem _ _ _ _ _
   refine wkD [85] ?_
   refine qD ?_
   refine bD (id:=3) ?_
   obtain ⟨h35,h⟩:=h
   obtain ⟨h36,h⟩:=h
   refine sD kk [.e (fL zd (gd slices t27))] [] [(25,vL zd (gd slices t27))] (obC h35 (obC (zL zj slices t27 _ rfl h35 h36) obN)) ?_
   obtain ⟨h37,h⟩:=h
   refine rDE kk [] [25] [(19,.own 3 (List.map zd newslice++List.map zd (gd slices t27)))] [(19,oL 3 zd (newslice++gd slices t27))] (obC (show (0:Nat)=(0:Nat)∧List.length (List.map zd newslice)=List.length (List.map zd newslice) from ⟨rfl,rfl⟩) (obC (show (List.length (List.map zd newslice)+List.length (List.map zd (gd slices t27))) * (8:Nat)≤(2:Nat) ^ (47:Nat) from by simpa only [nm] using h37) (obC (show List.all (List.map zd (gd slices t27)) (FV.fits (1:Nat))=true from by first | exact zbo _ | rfl | simp [isByteF,FV.fits,FV.size,FV.cells,FV.one,zd]) obN))) ?_
   show Sem _ _ _ _ _
   refine rD kk [] [] [(82,vi (w64 (t27+1)))] obN ?_
   exact lD ((newslice++gd slices t27),(w64 (t27+1))) [] h
  ·have h:=h.2 hb34
   refine xD (i:=2) ?_
   show Sem _ _ _ _ _
   refine wkD [76,79,82,85] ?_
   refine sD kk [] [19] [(7,oL 3 zd newslice)] obN ?_
   refine tD ?_
   obtain he0:=h
   subst res
   exact (endD [] (oL 3 zd newslice) []).1
set_option maxHeartbeats 1000000 in
theorem zgK (a:(List Int)) (b:(List Int)) (res:(List Int))
 (h:(∃ r0:List Int,zai ([a,b]) r0∧List.length r0 < 1099511627776∧(List.length (sortInts r0)=List.length r0)∧List.length (sortInts r0) < 1099511627776∧(res=(compactInts (sortInts r0))))):zag a b res:=by
 unfold zag
 have kk:=cfOk [] 14
 refine fD (x:=bodyOf Tryz.f82) kk Tryz.func82 ?_
 refine wkS [1,4] [(1,vL zd a),(4,vL zd b)] (by kernel_rfl) ?_
 refine sD kk [] [] [] obN ?_
 obtain ⟨r0,hc0,h⟩:=h
 refine sD kk [.c (oL 3 zd r0) []] [1,4] [(16,oL 3 zd r0)] (obC (Eq.mp (by unfold zai;(try simp only [List.drop_zero,List.take_length]);first | done | simp only [nm,enq]:zai ([a,b]) r0=CallE Tryz.prog 94 [.f (FV.sl (List.take (List.length [FV.sl (List.map zd a),FV.sl (List.map zd b)]) (List.drop (0:Nat) [FV.sl (List.map zd a),FV.sl (List.map zd b)])))] [] (oL 3 zd r0) []) hc0) obN) ?_
 obtain ⟨h1,h⟩:=h
 obtain ⟨h2,h⟩:=h
 refine sD kk [.l (List.map zd (sortInts r0))] [] [(16,oL 3 zd (sortInts r0))] (obC (show (0:Nat)=(0:Nat)∧List.length (List.map zd r0)=List.length (List.map zd r0) from ⟨rfl,rfl⟩) (obC (show Prod.fst (sortF,false) (List.map zd r0)=some (List.map zd (sortInts r0)) from by first | exact sortF_map zd (fun _=>rfl) _ h1 | (have:=sortF_map zd (fun _=>rfl) _ h1;simpa only [nm,enq] using this)) (obC (show List.length (List.map zd (sortInts r0))=List.length (List.map zd r0) from by simpa only [nm] using h2) obN))) ?_
 obtain ⟨h3,h⟩:=h
 refine sD kk [.l (List.map zd (compactInts (sortInts r0)))] [16] [(13,oL 3 zd (compactInts (sortInts r0)))] (obC (show (0:Nat)=(0:Nat)∧List.length (List.map zd (sortInts r0))=List.length (List.map zd (sortInts r0)) from ⟨rfl,rfl⟩) (obC (show Prod.fst (compactF,true) (List.map zd (sortInts r0))=some (List.map zd (compactInts (sortInts r0))) from by first | exact zgy zd (fun _=>rfl) _ h3 | (have:=zgy zd (fun _=>rfl) _ h3;simpa only [nm,enq] using this)) obN)) ?_
 refine tD ?_
 obtain he0:=h
 subst res
 exact (endD [(13,0)] (vL zd (compactInts (sortInts r0))) []).1
set_option maxHeartbeats 1000000 in
theorem zel (from0:(List Int)) (to0:(List Int)) (b:zi) (fin:zi)
 (h:(∃ (Inv19:List (List Int)→Int→Prop) (mu20:List (List Int)→Int→Nat),Inv19 (zi.follow b) 0∧(∀ (o0_follow:List (List Int)) (t10:Int),Inv19 o0_follow t10→(((decide (t10 < (↑(List.length from0):Int)))=true→((0:Int)≤t10)∧t10 < ↑(List.length from0)∧((0:Int)≤gd from0 t10)∧(Int.toNat (gd from0 t10) < List.length o0_follow)∧gd from0 t10 < ↑(List.length o0_follow)∧(∃ r0_2:List Int,zag (gd o0_follow (gd from0 t10)) to0 r0_2∧((0:Int)≤gd from0 t10)∧(Int.toNat (gd from0 t10) < List.length o0_follow)∧gd from0 t10 < ↑(List.length o0_follow)∧(Inv19 (List.set o0_follow (Int.toNat (gd from0 t10)) r0_2) (w64 (t10+1))∧mu20 (List.set o0_follow (Int.toNat (gd from0 t10)) r0_2) (w64 (t10+1)) < mu20 o0_follow t10)))∧((decide (t10 < (↑(List.length from0):Int)))=false→(fin=({ sets:=zi.sets b,follow:=o0_follow }))))))):zaY from0 to0 b fin:=by
 unfold zaY
 have kk:=cfOk [] 30
 refine fD (x:=bodyOf Tryz.f159) kk Tryz.func159 ?_
 refine wkS [1,3,4,7] [(1,.ptr 3 0),(3,zr b),(4,vL zd from0),(7,vL zd to0)] (by kernel_rfl) ?_
 refine sDE kk [] [4] [(25,vL zd from0),(28,vi ((↑(List.length (List.map zd from0)):Int))),(31,vi 0)] [(25,vL zd from0),(28,vi ((↑(List.length from0):Int))),(31,vi 0)] obN ?_
 refine bD (id:=0) ?_
 obtain ⟨Inv19,mu20,h0Inv19,hInv19⟩:=h
 refine loD (fun (q:List (List Int)×Int)=>(fun (o0_follow:List (List Int)) (t10:Int)=>([(1,.ptr 3 0),(3,.agg [oL 25 zf (zi.sets b),oL 40 zj o0_follow]),(7,vL zd to0),(25,vL zd from0),(28,vi ((↑(List.length from0):Int))),(31,vi t10)]:Sta)) q.1 q.2) (fun (q:List (List Int)×Int)=>Inv19 q.1 q.2) (fun (q:List (List Int)×Int)=>mu20 q.1 q.2) ((zi.follow b),0) [] h0Inv19 ?_
 rintro ⟨o0_follow,t10⟩ hi
 have h:=hInv19 o0_follow t10 hi
 refine sD kk [] [] [(34,vB (decide (t10 < (↑(List.length from0):Int))))] obN ?_
 refine qD ?_
 refine cD (t:=11) (b:=decide (t10 < (↑(List.length from0):Int))) (fun hb21=>?_) (fun hb21=>?_)
 ·have h:=h.1 hb21
  refine Sem.skip' (by kernel_rfl) Wk.refl ?_
  show Sem _ _ _ _ _
  refine wkD [34] ?_
  refine qD ?_
  refine bD (id:=1) ?_
  obtain ⟨h22,h⟩:=h
  obtain ⟨h23,h⟩:=h
  refine sD kk [.e (fi (gd from0 t10))] [] [(22,vi (gd from0 t10))] (obC h22 (obC (zL zd from0 t10 _ rfl h22 h23) obN)) ?_
  obtain ⟨h24,h⟩:=h
  obtain ⟨h25,h⟩:=h
  obtain ⟨h26,h⟩:=h
  obtain ⟨r0_2,hc27,h⟩:=h
  obtain ⟨h28,h⟩:=h
  obtain ⟨h29,h⟩:=h
  obtain ⟨h30,h⟩:=h
  refine rDE kk [.e (fL zd (gd o0_follow (gd from0 t10))),.c (vL zd r0_2) [],.e (fL zd (gd o0_follow (gd from0 t10)))] [22] [(3,.agg [oL 25 zf (zi.sets b),.own 40 (List.set (List.map zj o0_follow) ((0:Nat)+Int.toNat (gd from0 t10)) (FV.sl (List.map zd r0_2)))])] [(3,.agg [oL 25 zf (zi.sets b),oL 40 zj (List.set o0_follow (Int.toNat (gd from0 t10)) r0_2)])] (obC h24 (obC (show Int.toNat (gd from0 t10) < List.length (List.map zj o0_follow) from by simpa only [nm] using h25) (obC (show (List.map zj o0_follow)[((0:Nat)+Int.toNat (gd from0 t10):Nat)]?=some (fL zd (gd o0_follow (gd from0 t10))) from by have:=zL zj o0_follow (gd from0 t10) _ rfl h24 h26;simpa only [nm,enq,zj] using this) (obC hc27 (obC h28 (obC (show Int.toNat (gd from0 t10) < List.length (List.map zj o0_follow) from by simpa only [nm] using h29) (obC (show (List.map zj o0_follow)[((0:Nat)+Int.toNat (gd from0 t10):Nat)]?=some (fL zd (gd o0_follow (gd from0 t10))) from by have:=zL zj o0_follow (gd from0 t10) _ rfl h28 h30;simpa only [nm,enq,zj] using this) obN))))))) ?_
  show Sem _ _ _ _ _
  refine rD kk [] [] [(31,vi (w64 (t10+1)))] obN ?_
  exact lD ((List.set o0_follow (Int.toNat (gd from0 t10)) r0_2),(w64 (t10+1))) [] h
 ·have h:=h.2 hb21
  refine xD (i:=0) ?_
  obtain he0:=h
  subst fin
  exact (endD [] (.tup []) [.agg [oL 25 zf (zi.sets b),oL 40 zj o0_follow]]).2
set_option maxHeartbeats 1000000 in
theorem zeO (x:zg) (y:zg) (b:zi) (res:zg) (fin:zi)
 (h:(∃ o:zi,zaY (zg.last x) (zg.first y) b o∧(∃ J4:List Int→Prop,(∀ (out_first:List Int),J4 out_first→(∃ J7:List Int→Prop,(∀ (out_last:List Int),J7 out_last→(res=({ first:=out_first,last:=out_last,null:=zg.null x && zg.null y })∧fin=o))∧(((zg.null y)=true→(∃ r0_2:List Int,zag (zg.last x) (zg.last y) r0_2∧J7 r0_2))∧((zg.null y)=false→J7 (zg.last y)))))∧(((zg.null x)=true→(∃ r0_3:List Int,zag (zg.first x) (zg.first y) r0_3∧J4 r0_3))∧((zg.null x)=false→J4 (zg.first x)))))):zaK x y b res fin:=by
 unfold zaK
 have kk:=cfOk [41] 42
 refine fD (x:=bodyOf Tryz.f144) kk Tryz.func144 ?_
 refine wkS [1,3,4,7] [(1,.ptr 3 0),(3,zr b),(4,zx x),(7,zx y)] (by kernel_rfl) ?_
 refine sDE kk [] [4,7] [(13,.ptr 14 0),(14,zx x),(16,.ptr 17 0),(17,zx y),(19,.ptr 20 0),(20,.agg [.own 3 ([]),.own 3 ([]),vB false])] [(13,.ptr 14 0),(14,zx x),(16,.ptr 17 0),(17,zx y),(19,.ptr 20 0),(20,.agg [oL 3 zd ([]),oL 3 zd ([]),vB false])] obN ?_
 obtain ⟨o,hc0,h⟩:=h
 refine sD kk [.c (.tup []) [zr o]] [1] [(3,zr o)] (obC hc0 obN) ?_
 refine sM [] [(22,.ptr 23 0),(23,.agg [vL zd (zg.first x),vL zd (zg.last y),vB (zg.null x && zg.null y)])] ?_ (fun hk0=>?_)
 ·obtain ⟨J4,hJ4,h⟩:=h
  refine sjD (fun (q:List Int)=>J4 q) (fun (q:List Int)=>(fun (out_first:List Int)=>([(3,zr o),(13,.ptr 14 0),(14,zx x),(16,.ptr 17 0),(17,zx y),(19,.ptr 20 0),(20,.agg [oL 3 zd ([]),oL 3 zd ([]),vB false]),(22,.ptr 23 0),(23,.agg [vL zd out_first,vL zd (zg.last y),vB (zg.null x && zg.null y)])]:Sta)) q) ?_ ?_
  ·rintro out_first hj
   have h:=hJ4 out_first hj
   obtain ⟨J7,hJ7,h⟩:=h
   refine sjD (fun (q:List Int)=>J7 q) (fun (q:List Int)=>(fun (out_last:List Int)=>([(3,zr o),(19,.ptr 20 0),(20,.agg [oL 3 zd ([]),oL 3 zd ([]),vB false]),(22,.ptr 23 0),(23,.agg [vL zd out_first,vL zd out_last,vB (zg.null x && zg.null y)])]:Sta)) q) ?_ ?_
   ·rintro out_last hj
    have h:=hJ7 out_last hj
    refine sD kk [] [22,23] [(20,.agg [vL zd out_first,vL zd out_last,vB (zg.null x && zg.null y)])] obN ?_
    refine tD ?_
    obtain ⟨he0,he1⟩:=h
    subst res fin
    exact (endD [] (.agg [vL zd out_first,vL zd out_last,vB (zg.null x && zg.null y)]) [zr o]).1
   ·refine sD kk [] [] [(103,vB (zg.null y))] obN ?_
    refine cD (t:=34) (b:=zg.null y) (fun hb8=>?_) (fun hb8=>?_)
    ·have h:=h.1 hb8
     obtain ⟨r0_2,hc9,h⟩:=h
     refine rD kk [.c (vL zd r0_2) []] [13,14,16,17,103] [(23,.agg [vL zd out_first,vL zd r0_2,vB (zg.null x && zg.null y)])] (obC hc9 obN) ?_
     exact jD r0_2 [] h
    ·have h:=h.2 hb8
     refine Sem.skip' (by kernel_rfl) Wk.refl ?_
     exact jD (zg.last y) [] h
  ·refine sD kk [] [] [(79,vB (zg.null x))] obN ?_
   refine cD (t:=26) (b:=zg.null x) (fun hb10=>?_) (fun hb10=>?_)
   ·have h:=h.1 hb10
    obtain ⟨r0_3,hc11,h⟩:=h
    refine rD kk [.c (vL zd r0_3) []] [79] [(23,.agg [vL zd r0_3,vL zd (zg.last y),vB (zg.null x && zg.null y)])] (obC hc11 obN) ?_
    exact jD r0_3 [] h
   ·have h:=h.2 hb10
    refine Sem.skip' (by kernel_rfl) Wk.refl ?_
    exact jD (zg.first x) [] h
 ·rcases Bool.eq_false_or_eq_true (zg.null x) with hb1 | hb1
  ·refine sD kk [bT,bT,bT] [] [(22,.ptr 23 0),(23,.agg [vL zd (zg.first x),vL zd (zg.last y),vB (zg.null y)])] (obC (gtt hb1) (obC (gtt hb1) (obC hb1 obN))) ?_
   exact Sem.cast (by try rw [hb1];kernel_rfl) hk0
  ·refine sD kk [bF,bF,bF] [] [(22,.ptr 23 0),(23,.agg [vL zd (zg.first x),vL zd (zg.last y),vB false])] (obC (gtf hb1) (obC (gtf hb1) (obC hb1 obN))) ?_
   exact Sem.cast (by try rw [hb1];kernel_rfl) hk0
set_option maxHeartbeats 1000000 in
theorem zdB (x:za) (n:Int) (b:zi) (res:(List zg)) (fin:zi)
 (h:(∃ (Inv5:List zb→List (List Int)→List zg→Int→Prop) (mu6:List zb→List (List Int)→List zg→Int→Nat),Inv5 (zi.sets b) (zi.follow b) ([]) 0∧(∀ (o0_sets:List zb) (o0_follow:List (List Int)) (out:List zg) (t8:Int),Inv5 o0_sets o0_follow out t8→(((decide (t8 < n))=true→(∃ r0_2:zg,∃ o_2:zi,zak x ({ sets:=o0_sets,follow:=o0_follow }) r0_2 o_2∧((List.length out+(1:Nat)) * (56:Nat)≤(2:Nat) ^ (47:Nat))∧(Inv5 (zi.sets o_2) (zi.follow o_2) (out++[r0_2]) (w64 (t8+1))∧mu6 (zi.sets o_2) (zi.follow o_2) (out++[r0_2]) (w64 (t8+1)) < mu6 o0_sets o0_follow out t8)))∧((decide (t8 < n))=false→(res=out∧fin=({ sets:=o0_sets,follow:=o0_follow }))))))):zaq x n b res fin:=by
 unfold zaq
 have kk:=cfOk [17] 18
 refine fD (x:=bodyOf Tryz.f160) kk Tryz.func160 ?_
 refine wkS [1,3,4,7] [(1,.ptr 3 0),(3,zr b),(4,zm x),(7,vi n)] (by kernel_rfl) ?_
 refine sDE kk [] [4] [(13,.ptr 14 0),(14,zm x),(19,.own 158 ([]))] [(13,.ptr 14 0),(14,zm x),(19,oL 158 zu ([]))] obN ?_
 refine qD ?_
 refine sD kk [] [7] [(22,vi n),(25,vi 0)] obN ?_
 refine bD (id:=0) ?_
 obtain ⟨Inv5,mu6,h0Inv5,hInv5⟩:=h
 refine loD (fun (q:List zb×List (List Int)×List zg×Int)=>(fun (o0_sets:List zb) (o0_follow:List (List Int)) (out:List zg) (t8:Int)=>([(1,.ptr 3 0),(3,.agg [oL 25 zf o0_sets,oL 40 zj o0_follow]),(13,.ptr 14 0),(14,zm x),(19,oL 158 zu out),(22,vi n),(25,vi t8)]:Sta)) q.1 q.2.1 q.2.2.1 q.2.2.2) (fun (q:List zb×List (List Int)×List zg×Int)=>Inv5 q.1 q.2.1 q.2.2.1 q.2.2.2) (fun (q:List zb×List (List Int)×List zg×Int)=>mu6 q.1 q.2.1 q.2.2.1 q.2.2.2) ((zi.sets b),(zi.follow b),([]),0) [] h0Inv5 ?_
 rintro ⟨o0_sets,o0_follow,out,t8⟩ hi
 have h:=hInv5 o0_sets o0_follow out t8 hi
 refine sD kk [] [] [(28,vB (decide (t8 < n)))] obN ?_
 refine qD ?_
 refine cD (t:=9) (b:=decide (t8 < n)) (fun hb7=>?_) (fun hb7=>?_)
 ·have h:=h.1 hb7
  refine Sem.skip' (by kernel_rfl) Wk.refl ?_
  show Sem _ _ _ _ _
  refine wkD [28] ?_
  refine qD ?_
  refine bD (id:=1) ?_
  obtain ⟨r0_2,o_2,hc8,h⟩:=h
  obtain ⟨h9,h⟩:=h
  refine rDE kk [.c (zx r0_2) [zr o_2]] [] [(3,zr o_2),(19,.own 158 (List.map zu out++List.take (List.length [FV.agg [FV.sl (List.map zd (zg.first r0_2)),FV.sl (List.map zd (zg.last r0_2)),FV.pv (Value.bool (zg.null r0_2))]]) (List.drop (0:Nat) [FV.agg [FV.sl (List.map zd (zg.first r0_2)),FV.sl (List.map zd (zg.last r0_2)),FV.pv (Value.bool (zg.null r0_2))]])))] [(3,zr o_2),(19,oL 158 zu (out++[r0_2]))] (obC hc8 (obC (show (0:Nat)=(0:Nat)∧List.length (List.map zu out)=List.length (List.map zu out) from ⟨rfl,rfl⟩) (obC (show (List.length (List.map zu out)+List.length (List.take (1:Nat) (List.drop (0:Nat) [FV.agg [FV.sl (List.map zd (zg.first r0_2)),FV.sl (List.map zd (zg.last r0_2)),FV.pv (Value.bool (zg.null r0_2))]]))) * (56:Nat)≤(2:Nat) ^ (47:Nat) from by simpa only [nm] using h9) (obC (show List.all (List.take (1:Nat) (List.drop (0:Nat) [FV.agg [FV.sl (List.map zd (zg.first r0_2)),FV.sl (List.map zd (zg.last r0_2)),FV.pv (Value.bool (zg.null r0_2))]])) (FV.fits (3:Nat))=true from by first | exact zbo _ | rfl | simp [isByteF,FV.fits,FV.size,FV.cells,FV.one,zd]) obN)))) ?_
  show Sem _ _ _ _ _
  refine rD kk [] [] [(25,vi (w64 (t8+1)))] obN ?_
  exact lD ((zi.sets o_2),(zi.follow o_2),(out++[r0_2]),(w64 (t8+1))) [] h
 ·have h:=h.2 hb7
  refine xD (i:=0) ?_
  show Sem _ _ _ _ _
  refine wkD [1,13,14,22,25,28] ?_
  refine sD kk [] [] [] obN ?_
  refine tD ?_
  obtain ⟨he0,he1⟩:=h
  subst res fin
  exact (endD [] (oL 158 zu out) [.agg [oL 25 zf o0_sets,oL 40 zj o0_follow]]).1
set_option maxHeartbeats 1000000 in
theorem W_place_maybe (x:zg) (res:zg)
 (h:(res=({ first:=zg.first x,last:=zg.last x,null:=true }))):zcG x res:=by
 unfold zcG
 have kk:=cfOk [4] 5
 refine fD (x:=bodyOf Tryz.f162) kk Tryz.func162 ?_
 refine wkS [1] [(1,zx x)] (by kernel_rfl) ?_
 refine sDE kk [] [1] [(4,.ptr 5 0),(5,zx x),(7,.ptr 8 0),(8,.agg [.own 3 ([]),.own 3 ([]),vB false])] [(4,.ptr 5 0),(5,zx x),(7,.ptr 8 0),(8,.agg [oL 3 zd ([]),oL 3 zd ([]),vB false])] obN ?_
 refine sD kk [] [] [(5,.agg [vL zd (zg.first x),vL zd (zg.last x),vB true])] obN ?_
 refine sD kk [] [4,5] [(8,.agg [vL zd (zg.first x),vL zd (zg.last x),vB true])] obN ?_
 refine tD ?_
 obtain he0:=h
 subst res
 exact (endD [] (.agg [vL zd (zg.first x),vL zd (zg.last x),vB true]) []).1
end Go.Ev
