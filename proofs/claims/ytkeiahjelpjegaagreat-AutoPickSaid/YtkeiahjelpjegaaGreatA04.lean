import Derived.Test.YtkeiahjelpjegaaGreatA03
import Derived.Lib.RowBridge
set_option linter.unusedSimpArgs false
set_option linter.unusedVariables false
namespace Go.Ev
open Go Go.Proofs
set_option maxRecDepth 8000
set_option maxHeartbeats 1000000
theorem zb1 (n:Int) (m:zf) (res:Int) (fin:zf)
 (h:(ck (decide (w64 (m.At+1) > (↑(List.length m.L):Int))) (res=0∧fin=({ L:=m.L,At:=w64 (m.At+1) })) ((0≤w64 (w64 (m.At+1) - 1))∧w64 (w64 (m.At+1) - 1) < ↑(List.length m.L)∧(n≠0)∧(res=(Int.tmod (w64 (gd m.L (w64 (w64 (m.At+1) - 1)))) n)∧fin=({ L:=m.L,At:=w64 (m.At+1) }))))):zl n m res fin:=by
 unfold zl;have kk:=cfOk [] 36;refine fD (x:=bodyOf Tryz.f49) kk Tryz.func49 ?_;refine wkS [1,3,4] [(1,.ptr 3 0),(3,zk m),(4,vi n)] (by kernel_rfl) ?_;refine sO oN [] [] ?_;refine sO oN [] [(3,.agg [vL zae m.L,vi (w64 (m.At+1))])] ?_;refine qD ?_;refine sV oN [] (List.length (List.map zae m.L)) (List.length m.L) (fun q=>[(64,vB (decide (w64 (m.At+1) > (↑(q):Int))))]) ?_;refine cH 21 h (fun c h=>?_) (fun c h=>?_)
 ·refine sO oN [1,4,64] [(13,vi 0)] ?_;refine tD ?_;obtain ⟨a,b⟩:=h;subst res fin;exact (endQ []).1
 ·refine kD ?_;show Sem _ _ _ _ _;refine wkD [64] ?_;obtain ⟨h1,h⟩:=h;obtain ⟨h2,h⟩:=h;obtain ⟨h3,h⟩:=h;refine sO (xo zae rfl h1 h2 (nd h3 oN)) [1,4] [(13,vi (Int.tmod (w64 (gd m.L (w64 (w64 (m.At+1) - 1)))) n))] ?_;refine tD ?_;obtain ⟨a,b⟩:=h;subst res fin;exact (endQ []).1
theorem zgg (s0:za) (b:Int) (res:za)
 (h:((w64 (Int.tdiv b 64)=0∨w64 (Int.tdiv b 64)=1∨w64 (Int.tdiv b 64)=2∨w64 (Int.tdiv b 64)=3)∧((decide (w64 (Int.tdiv b 64)=0))=true→((decide (w64 (Int.tdiv b 64)=0))=true→(0≤Int.tmod b 64))∧(res=({ e0:=IntKind.wrap IntKind.u64 (↑(BitVec.toNat (BitVec.ofInt (IntKind.bits IntKind.u64) s0.e0 ||| BitVec.ofInt (IntKind.bits IntKind.u64) (IntKind.wrap IntKind.u64 (1 * 2 ^ Min.min (Int.toNat (Int.tmod b 64)) (IntKind.bits IntKind.u64))))):Int),e1:=s0.e1,e2:=s0.e2,e3:=s0.e3 })))∧((decide (w64 (Int.tdiv b 64)=1))=true→((decide (w64 (Int.tdiv b 64)=1))=true→(0≤Int.tmod b 64))∧(res=({ e0:=s0.e0,e1:=IntKind.wrap IntKind.u64 (↑(BitVec.toNat (BitVec.ofInt (IntKind.bits IntKind.u64) s0.e1 ||| BitVec.ofInt (IntKind.bits IntKind.u64) (IntKind.wrap IntKind.u64 (1 * 2 ^ Min.min (Int.toNat (Int.tmod b 64)) (IntKind.bits IntKind.u64))))):Int),e2:=s0.e2,e3:=s0.e3 })))∧((decide (w64 (Int.tdiv b 64)=2))=true→((decide (w64 (Int.tdiv b 64)=2))=true→(0≤Int.tmod b 64))∧(res=({ e0:=s0.e0,e1:=s0.e1,e2:=IntKind.wrap IntKind.u64 (↑(BitVec.toNat (BitVec.ofInt (IntKind.bits IntKind.u64) s0.e2 ||| BitVec.ofInt (IntKind.bits IntKind.u64) (IntKind.wrap IntKind.u64 (1 * 2 ^ Min.min (Int.toNat (Int.tmod b 64)) (IntKind.bits IntKind.u64))))):Int),e3:=s0.e3 })))∧((decide (w64 (Int.tdiv b 64)=3))=true→((decide (w64 (Int.tdiv b 64)=3))=true→(0≤Int.tmod b 64))∧(res=({ e0:=s0.e0,e1:=s0.e1,e2:=s0.e2,e3:=IntKind.wrap IntKind.u64 (↑(BitVec.toNat (BitVec.ofInt (IntKind.bits IntKind.u64) s0.e3 ||| BitVec.ofInt (IntKind.bits IntKind.u64) (IntKind.wrap IntKind.u64 (1 * 2 ^ Min.min (Int.toNat (Int.tmod b 64)) (IntKind.bits IntKind.u64))))):Int) }))))):zbl s0 b res:=by
 unfold zbl;have kk:=cfOk [16] 17;refine fD (x:=bodyOf Tryz.f95) kk Tryz.func95 ?_;refine wkS [1,4] [(1,zy s0),(4,vi b)] (by kernel_rfl) ?_;refine sO oN [1] [(7,.ptr 14 0),(13,.ptr 26 0),(14,zy s0),(26,.agg [vI .u64 0,vI .u64 0,vI .u64 0,vI .u64 0])] ?_;obtain ⟨c,h⟩:=h;rcases c with a | a | a | a
 ·have a:=decide_eq_true a;have h:=h.1 a;obtain ⟨h1,h⟩:=h;refine sO (nd (show (64:Int)≠(0:Int) from by first | decide | rfl | trivial) (nd (show (64:Int)≠(0:Int) from by first | decide | rfl | trivial) (op (.n 0) (of_decide_eq_true a) (nd (show (64:Int)≠(0:Int) from by first | decide | rfl | trivial) (nd (h1 a) (op (.n 0) (of_decide_eq_true a) oN)))))) [4] [(14,.agg [vI .u64 (IntKind.wrap IntKind.u64 (↑(BitVec.toNat (BitVec.ofInt (IntKind.bits IntKind.u64) s0.e0 ||| BitVec.ofInt (IntKind.bits IntKind.u64) (IntKind.wrap IntKind.u64 (1 * 2 ^ Min.min (Int.toNat (Int.tmod b 64)) (IntKind.bits IntKind.u64))))):Int)),vI .u64 s0.e1,vI .u64 s0.e2,vI .u64 s0.e3])] ?_;refine sO oN [7,14] [(26,.agg [vI .u64 (IntKind.wrap IntKind.u64 (↑(BitVec.toNat (BitVec.ofInt (IntKind.bits IntKind.u64) s0.e0 ||| BitVec.ofInt (IntKind.bits IntKind.u64) (IntKind.wrap IntKind.u64 (1 * 2 ^ Min.min (Int.toNat (Int.tmod b 64)) (IntKind.bits IntKind.u64))))):Int)),vI .u64 s0.e1,vI .u64 s0.e2,vI .u64 s0.e3])] ?_;refine tD ?_;subst h;exact (endQ []).1
 ·have a:=decide_eq_true a;have h:=h.2.1 a;obtain ⟨h2,h⟩:=h;refine sO (nd (show (64:Int)≠(0:Int) from by first | decide | rfl | trivial) (nd (show (64:Int)≠(0:Int) from by first | decide | rfl | trivial) (op (.n 1) (of_decide_eq_true a) (nd (show (64:Int)≠(0:Int) from by first | decide | rfl | trivial) (nd (h2 a) (op (.n 1) (of_decide_eq_true a) oN)))))) [4] [(14,.agg [vI .u64 s0.e0,vI .u64 (IntKind.wrap IntKind.u64 (↑(BitVec.toNat (BitVec.ofInt (IntKind.bits IntKind.u64) s0.e1 ||| BitVec.ofInt (IntKind.bits IntKind.u64) (IntKind.wrap IntKind.u64 (1 * 2 ^ Min.min (Int.toNat (Int.tmod b 64)) (IntKind.bits IntKind.u64))))):Int)),vI .u64 s0.e2,vI .u64 s0.e3])] ?_;refine sO oN [7,14] [(26,.agg [vI .u64 s0.e0,vI .u64 (IntKind.wrap IntKind.u64 (↑(BitVec.toNat (BitVec.ofInt (IntKind.bits IntKind.u64) s0.e1 ||| BitVec.ofInt (IntKind.bits IntKind.u64) (IntKind.wrap IntKind.u64 (1 * 2 ^ Min.min (Int.toNat (Int.tmod b 64)) (IntKind.bits IntKind.u64))))):Int)),vI .u64 s0.e2,vI .u64 s0.e3])] ?_;refine tD ?_;subst h;exact (endQ []).1
 ·have a:=decide_eq_true a;have h:=h.2.2.1 a;obtain ⟨h3,h⟩:=h;refine sO (nd (show (64:Int)≠(0:Int) from by first | decide | rfl | trivial) (nd (show (64:Int)≠(0:Int) from by first | decide | rfl | trivial) (op (.n 2) (of_decide_eq_true a) (nd (show (64:Int)≠(0:Int) from by first | decide | rfl | trivial) (nd (h3 a) (op (.n 2) (of_decide_eq_true a) oN)))))) [4] [(14,.agg [vI .u64 s0.e0,vI .u64 s0.e1,vI .u64 (IntKind.wrap IntKind.u64 (↑(BitVec.toNat (BitVec.ofInt (IntKind.bits IntKind.u64) s0.e2 ||| BitVec.ofInt (IntKind.bits IntKind.u64) (IntKind.wrap IntKind.u64 (1 * 2 ^ Min.min (Int.toNat (Int.tmod b 64)) (IntKind.bits IntKind.u64))))):Int)),vI .u64 s0.e3])] ?_;refine sO oN [7,14] [(26,.agg [vI .u64 s0.e0,vI .u64 s0.e1,vI .u64 (IntKind.wrap IntKind.u64 (↑(BitVec.toNat (BitVec.ofInt (IntKind.bits IntKind.u64) s0.e2 ||| BitVec.ofInt (IntKind.bits IntKind.u64) (IntKind.wrap IntKind.u64 (1 * 2 ^ Min.min (Int.toNat (Int.tmod b 64)) (IntKind.bits IntKind.u64))))):Int)),vI .u64 s0.e3])] ?_;refine tD ?_;subst h;exact (endQ []).1
 ·have a:=decide_eq_true a;have h:=h.2.2.2 a;obtain ⟨h4,h⟩:=h;refine sO (nd (show (64:Int)≠(0:Int) from by first | decide | rfl | trivial) (nd (show (64:Int)≠(0:Int) from by first | decide | rfl | trivial) (op (.n 3) (of_decide_eq_true a) (nd (show (64:Int)≠(0:Int) from by first | decide | rfl | trivial) (nd (h4 a) (op (.n 3) (of_decide_eq_true a) oN)))))) [4] [(14,.agg [vI .u64 s0.e0,vI .u64 s0.e1,vI .u64 s0.e2,vI .u64 (IntKind.wrap IntKind.u64 (↑(BitVec.toNat (BitVec.ofInt (IntKind.bits IntKind.u64) s0.e3 ||| BitVec.ofInt (IntKind.bits IntKind.u64) (IntKind.wrap IntKind.u64 (1 * 2 ^ Min.min (Int.toNat (Int.tmod b 64)) (IntKind.bits IntKind.u64))))):Int))])] ?_;refine sO oN [7,14] [(26,.agg [vI .u64 s0.e0,vI .u64 s0.e1,vI .u64 s0.e2,vI .u64 (IntKind.wrap IntKind.u64 (↑(BitVec.toNat (BitVec.ofInt (IntKind.bits IntKind.u64) s0.e3 ||| BitVec.ofInt (IntKind.bits IntKind.u64) (IntKind.wrap IntKind.u64 (1 * 2 ^ Min.min (Int.toNat (Int.tmod b 64)) (IntKind.bits IntKind.u64))))):Int))])] ?_;refine tD ?_;subst h;exact (endQ []).1
theorem zgP (m:Int) (s:Int) (res:za)
 (h:(∃ (n:Int→Int→Int→Int→Int→Prop) (p:Int→Int→Int→Int→Int→Nat),n 0 0 0 0 0∧(∀ (a:Int) (d:Int) (c:Int) (e:Int) (b:Int),n a d c e b→(ck (decide (b < 256)) (∃ r:Int→Int→Int→Int→Prop,(∀ (f:Int) (k:Int) (j:Int) (g:Int),r f k j g→(n f k j g (w64 (b+1))∧p f k j g (w64 (b+1)) < p a d c e b))∧(ck (decide (b≥m) && decide (b≤s)) (∃ l:za,zbl ({ e0:=a,e1:=d,e2:=c,e3:=e }) b l∧r l.e0 l.e1 l.e2 l.e3) (r a d c e))) (res=({ e0:=a,e1:=d,e2:=c,e3:=e })))))):zaT m s res:=by
 unfold zaT;have kk:=cfOk [22] 23;refine fD (x:=bodyOf Tryz.f59) kk Tryz.func59 ?_;refine wkS [1,4] [(1,vi m),(4,vi s)] (by kernel_rfl) ?_;refine sO oN [] [(13,.ptr 26 0),(26,.agg [vI .u64 0,vI .u64 0,vI .u64 0,vI .u64 0])] ?_;refine sO oN [] [(16,.ptr 32 0),(32,.agg [vI .u64 0,vI .u64 0,vI .u64 0,vI .u64 0])] ?_;refine qD ?_;refine sO oN [] [(19,vi 0)] ?_;refine bD (id:=0) ?_;obtain ⟨n,p,t,u⟩:=h;refine loE [] (u5 fun a d c e b=>[(19,vi b),(32,.agg [vI .u64 a,vI .u64 d,vI .u64 c,vI .u64 e])]) (u5 n) (u5 p) (0,0,0,0,0) [] t ?_;rintro ⟨a,d,c,e,b⟩ hi;have h:=u a d c e b hi;refine qD ?_;refine sO oN [] [(25,vB (decide (b < 256)))] ?_;refine cH 8 h (fun y h=>?_) (fun y h=>?_)
 ·refine kD ?_;show Sem _ _ _ _ _;refine wkD [25] ?_;obtain ⟨r,w,h⟩:=h;refine sjE (u4 r) [] (u4 fun f k j g=>[(32,.agg [vI .u64 f,vI .u64 k,vI .u64 j,vI .u64 g])]) ?_ ?_
  ·rintro ⟨f,k,j,g⟩ hj;have h:=w f k j g hj;refine rO oN [] [(19,vi (w64 (b+1)))] ?_;exact lD (f,k,j,g,(w64 (b+1))) [] h
  ·refine bD (id:=1) ?_;refine sM [] [(55,vB (decide (b≥m) && decide (b≤s)))] ?_ (fun A=>?_)
   ·refine cH 18 h (fun B h=>?_) (fun B h=>?_)
    ·obtain ⟨l,v,h⟩:=h;refine rO (ca v oN) [55] [(32,zy l)] ?_;exact jD (l.e0,l.e1,l.e2,l.e3) [] h
    ·refine kD ?_;exact jD (a,d,c,e) [] h
   ·rcases eft (decide (b≥m)) with o | o
    ·refine sO (g1 o 1113 oN) [] [(55,vB (decide (b≤s)))] ?_;exact Sem.cast (by try rw [o];kernel_rfl) A
    ·refine sO (g1 o 1113 oN) [] [(55,vB false)] ?_;exact Sem.cast (by try rw [o];kernel_rfl) A
 ·refine xD (i:=0) ?_;show Sem _ _ _ _ _;refine wkD [1,4,19,25] ?_;refine sO oN [16,32] [(26,.agg [vI .u64 a,vI .u64 d,vI .u64 c,vI .u64 e])] ?_;refine tD ?_;subst h;exact (endQ []).1
theorem zgh (a:za) (res:za)
 (h:(∃ (m:Int→Int→Int→Int→Int→Prop) (o:Int→Int→Int→Int→Int→Nat),m 0 0 0 0 0∧(∀ (b:Int) (d:Int) (c:Int) (e:Int) (i:Int),m b d c e i→(ck (decide (i < 256)) (∃ p:Int→Int→Int→Int→Prop,(∀ (g:Int) (l:Int) (k:Int) (j:Int),p g l k j→(m g l k j (w64 (i+1))∧o g l k j (w64 (i+1)) < o b d c e i))∧(∃ n:Bool,zbm a i n∧(ck (!n) (∃ f:za,zbl ({ e0:=b,e1:=d,e2:=c,e3:=e }) i f∧p f.e0 f.e1 f.e2 f.e3) (p b d c e)))) (res=({ e0:=b,e1:=d,e2:=c,e3:=e })))))):zbR a res:=by
 unfold zbR;have kk:=cfOk [16] 17;refine fD (x:=bodyOf Tryz.f97) kk Tryz.func97 ?_;refine wkS [1] [(1,zy a)] (by kernel_rfl) ?_;refine sO oN [1] [(4,.ptr 8 0),(7,.ptr 14 0),(8,zy a),(14,.agg [vI .u64 0,vI .u64 0,vI .u64 0,vI .u64 0])] ?_;refine sO oN [] [(10,.ptr 20 0),(20,.agg [vI .u64 0,vI .u64 0,vI .u64 0,vI .u64 0])] ?_;refine qD ?_;refine sO oN [] [(13,vi 0)] ?_;refine bD (id:=0) ?_;obtain ⟨m,o,r,s⟩:=h;refine loE [] (u5 fun b d c e i=>[(13,vi i),(20,.agg [vI .u64 b,vI .u64 d,vI .u64 c,vI .u64 e])]) (u5 m) (u5 o) (0,0,0,0,0) [] r ?_;rintro ⟨b,d,c,e,i⟩ hi;have h:=s b d c e i hi;refine qD ?_;refine sO oN [] [(19,vB (decide (i < 256)))] ?_;refine cH 6 h (fun v h=>?_) (fun v h=>?_)
 ·refine kD ?_;show Sem _ _ _ _ _;refine wkD [19] ?_;obtain ⟨p,u,h⟩:=h;refine sjE (u4 p) [] (u4 fun g l k j=>[(20,.agg [vI .u64 g,vI .u64 l,vI .u64 k,vI .u64 j])]) ?_ ?_
  ·rintro ⟨g,l,k,j⟩ hj;have h:=u g l k j hj;refine rO oN [] [(13,vi (w64 (i+1)))] ?_;exact lD (g,l,k,j,(w64 (i+1))) [] h
  ·refine bD (id:=1) ?_;obtain ⟨n,w,h⟩:=h;refine sO (ca w oN) [] [(37,vB (!n))] ?_;refine cH 12 h (fun y h=>?_) (fun y h=>?_)
   ·obtain ⟨f,t,h⟩:=h;refine rO (ca t oN) [37] [(20,zy f)] ?_;exact jD (f.e0,f.e1,f.e2,f.e3) [] h
   ·refine kD ?_;exact jD (b,d,c,e) [] h
 ·refine xD (i:=0) ?_;show Sem _ _ _ _ _;refine wkD [4,8,13,19] ?_;refine sO oN [10,20] [(14,.agg [vI .u64 b,vI .u64 d,vI .u64 c,vI .u64 e])] ?_;refine tD ?_;subst h;exact (endQ []).1
theorem zfS (b:Int) (res:zj)
 (h:(∃ r0:za,zaT b b r0∧(res=({ Kind:=2,Set:=r0,Lo:=0,Hi:=0,Kids:=[] })))):zaQ b res:=by
 unfold zaQ;have kk:=cfOk [] 7;refine fD (x:=bodyOf Tryz.f27) kk Tryz.func27 ?_;refine wkS [1] [(1,vi b)] (by kernel_rfl) ?_;refine sO oN [] [(7,.ptr 14 0),(14,.agg [vi 0,vI .u64 0,vI .u64 0,vI .u64 0,vI .u64 0,vi 0,vi 0,oL 28 zc ([])])] ?_;obtain ⟨r0,a,h⟩:=h;refine sO (ca a oN) [1] [(14,.agg [vi 2,vI .u64 r0.e0,vI .u64 r0.e1,vI .u64 r0.e2,vI .u64 r0.e3,vi 0,vi 0,oL 28 zc ([])])] ?_;refine tD ?_;subst h;exact (endQ []).1
theorem zat (m:zf) (res:zj) (fin:zf)
 (h:(∃ r0:Int,∃ o:zf,zl 8 m r0 o∧(ck (r0 == 0) (res=({ Kind:=1,Set:={ e0:=0,e1:=0,e2:=0,e3:=0 },Lo:=0,Hi:=0,Kids:=[] })∧fin=o) (ck (r0 == 1) (∃ c:za,zaT (97) (99) c∧(res=({ Kind:=2,Set:=c,Lo:=0,Hi:=0,Kids:=[] })∧fin=o)) (ck (r0 == 2) (∃ g:za,zaT (97) (97) g∧(∃ b:za,zbR g b∧(res=({ Kind:=2,Set:=b,Lo:=0,Hi:=0,Kids:=[] })∧fin=o))) (ck (r0 == 3) (∃ a:Int,∃ k:zf,zl (6) o a k∧(0≤a)∧(Int.toNat a < 6)∧a < ↑(List.length ([10,45,90,0,255,48]))∧(∃ d:zj,zaQ (gd [10,45,90,0,255,48] a) d∧(res=d∧fin=k))) (∃ f:Int,∃ i:zf,zl 3 o f i∧(∃ e:zj,zaQ (w64 (97+f)) e∧(res=e∧fin=i))))))))):zaR m res fin:=by
 unfold zaR;have kk:=cfOk [] 29;refine fD (x:=bodyOf Tryz.f62) kk Tryz.func62 ?_;refine wkS [1,3] [(1,.ptr 3 0),(3,zk m)] (by kernel_rfl) ?_;refine sO oN [] [(7,.ptr 14 0),(14,.agg [vi 0,vI .u64 0,vI .u64 0,vI .u64 0,vI .u64 0,vi 0,vi 0,oL 28 zc ([])])] ?_;refine qD ?_;obtain ⟨r0,o,D,h⟩:=h;refine sO (ca D oN) [] [(3,zk o),(13,vi r0)] ?_;refine bD (id:=0) ?_;refine sO oN [] [(16,vB (r0 == 0))] ?_;refine cH 5 h (fun u h=>?_) (fun u h=>?_)
 ·refine sO oN [1,13,16] [(14,.agg [vi 1,vI .u64 0,vI .u64 0,vI .u64 0,vI .u64 0,vi 0,vi 0,oL 28 zc ([])])] ?_;refine tD ?_;obtain ⟨l,j⟩:=h;subst res fin;exact (endQ []).1
 ·refine sO oN [16] [(25,vB (r0 == 1))] ?_;refine cH 8 h (fun w h=>?_) (fun w h=>?_)
  ·obtain ⟨c,F,h⟩:=h;refine sO (ca F oN) [1,13,25] [(14,.agg [vi 2,vI .u64 c.e0,vI .u64 c.e1,vI .u64 c.e2,vI .u64 c.e3,vi 0,vi 0,oL 28 zc ([])])] ?_;refine tD ?_;obtain ⟨l,j⟩:=h;subst res fin;exact (endQ []).1
  ·refine sO oN [25] [(37,vB (r0 == 2))] ?_;refine cH 12 h (fun s h=>?_) (fun s h=>?_)
   ·obtain ⟨g,v,h⟩:=h;obtain ⟨b,A,h⟩:=h;refine sO (ca v (ca A oN)) [1,13,37] [(14,.agg [vi 2,vI .u64 b.e0,vI .u64 b.e1,vI .u64 b.e2,vI .u64 b.e3,vi 0,vi 0,oL 28 zc ([])])] ?_;refine tD ?_;obtain ⟨l,j⟩:=h;subst res fin;exact (endQ []).1
   ·refine sO oN [13,37] [(52,vB (r0 == 3))] ?_;refine cH 17 h (fun E h=>?_) (fun E h=>?_)
    ·obtain ⟨a,k,t,h⟩:=h;obtain ⟨h9,h⟩:=h;obtain ⟨y,h⟩:=h;obtain ⟨B,h⟩:=h;obtain ⟨d,r,h⟩:=h;refine sO (ca t (nd h9 (nd y (el (show ([FV.pv (Value.int IntKind.i64 (10)),FV.pv (Value.int IntKind.i64 (45:Int)),FV.pv (Value.int IntKind.i64 (90:Int)),FV.pv (Value.int IntKind.i64 (0)),FV.pv (Value.int IntKind.i64 (255:Int)),FV.pv (Value.int IntKind.i64 (48:Int))])[((0:Nat)+Int.toNat a:Nat)]?=some (fi (gd [(10:Int),(45:Int),(90:Int),(0:Int),(255:Int),(48:Int)] a)) from by have:=zcV zb ([(10:Int),(45:Int),(90:Int),(0:Int),(255:Int),(48:Int)]) a _ rfl h9 B;simpa only [nm,enq,zb] using this) (ca r oN))))) [1,52] [(3,zk k),(14,zbj d)] ?_;refine tD ?_;obtain ⟨l,j⟩:=h;subst res fin;exact (endQ []).1
    ·refine kD ?_;show Sem _ _ _ _ _;refine wkD [52] ?_;obtain ⟨f,i,p,h⟩:=h;obtain ⟨e,n,h⟩:=h;refine sO (ca p (ca n oN)) [1] [(3,zk i),(14,zbj e)] ?_;refine tD ?_;obtain ⟨l,j⟩:=h;subst res fin;exact (endQ []).1
theorem zeE (kind:Int) (l:(List zj)) (res:zj)
 (h:(∃ (c:List zj→Int→Prop) (d:List zj→Int→Nat),c ([]) 0∧(∀ (a:List zj) (i:Int),c a i→(ck (decide (i < (↑(List.length l):Int))) (∃ e:List zj→Prop,(∀ (b:List zj),e b→(c b (w64 (i+1))∧d b (w64 (i+1)) < d a i))∧(0≤i)∧i < ↑(List.length l)∧(ck ((gd l i).Kind == kind) ((0≤i)∧i < ↑(List.length l)∧((List.length a+List.length (gd l i).Kids) * 80≤2 ^ 47)∧e (a++(gd l i).Kids)) ((0≤i)∧i < ↑(List.length l)∧((List.length a+1) * 80≤2 ^ 47)∧e (a++[gd l i])))) (res=({ Kind:=kind,Set:={ e0:=0,e1:=0,e2:=0,e3:=0 },Lo:=0,Hi:=0,Kids:=a })))))):z6 kind l res:=by
 unfold z6;have kk:=cfOk [40] 41;refine fD (x:=bodyOf Tryz.f63) kk Tryz.func63 ?_;refine wkS [1,4] [(1,vi kind),(4,vL zc l)] (by kernel_rfl) ?_;refine sO oN [] [(13,.ptr 26 0),(26,.agg [vi 0,vI .u64 0,vI .u64 0,vI .u64 0,vI .u64 0,vi 0,vi 0,oL 28 zc ([])])] ?_;refine sO oN [] [(16,.ptr 32 0),(32,.agg [vi kind,vI .u64 0,vI .u64 0,vI .u64 0,vI .u64 0,vi 0,vi 0,oL 28 zc ([])])] ?_;refine qD ?_;refine sO oN [] [(19,vi 0)] ?_;refine bD (id:=0) ?_;obtain ⟨c,d,f,g⟩:=h;refine loE [] (u2 fun a i=>[(19,vi i),(32,.agg [vi kind,vI .u64 0,vI .u64 0,vI .u64 0,vI .u64 0,vi 0,vi 0,oL 28 zc a])]) (u2 c) (u2 d) (([]),0) [] f ?_;rintro ⟨a,i⟩ hi;have h:=g a i hi;refine qD ?_;refine sV oN [] (List.length (List.map zc l)) (List.length l) (fun q=>[(37,vB (decide (i < (↑(q):Int))))]) ?_;refine cH 12 h (fun m h=>?_) (fun m h=>?_)
 ·refine kD ?_;show Sem _ _ _ _ _;refine wkD [37] ?_;obtain ⟨e,k,h⟩:=h;refine sjE e [] (fun b=>[(32,.agg [vi kind,vI .u64 0,vI .u64 0,vI .u64 0,vI .u64 0,vi 0,vi 0,oL 28 zc b])]) ?_ ?_
  ·rintro b hj;have h:=k b hj;refine rO oN [] [(19,vi (w64 (i+1)))] ?_;exact lD (b,(w64 (i+1))) [] h
  ·refine bD (id:=1) ?_;obtain ⟨n,h⟩:=h;obtain ⟨r,h⟩:=h;refine sO (xo zc (zC _) n r oN) [] [(64,vB ((gd l i).Kind == kind))] ?_;refine cH 21 h (fun j h=>?_) (fun j h=>?_)
   ·obtain ⟨p,h⟩:=h;obtain ⟨u,h⟩:=h;obtain ⟨o,h⟩:=h;refine rV (xo zc (zC _) p u (nd (show (0:Nat)=(0:Nat)∧List.length (List.map zc a)=List.length (List.map zc a) from ⟨rfl,rfl⟩) (nd (show (List.length (List.map zc a)+List.length (List.map zc (gd l i).Kids)) * (80:Nat)≤(2:Nat) ^ (47:Nat) from by simpa only [nm] using o) (nd (show List.all (List.map zc (gd l i).Kids) (FV.fits (8:Nat))=true from by first | exact fits_api_Rx _ | exact keysenc_api_Rx _ | rfl | simp [isByteF,FV.fits,FV.size,FV.cells,FV.one,zC]) oN)))) [64] (show AV from .own 28 (List.map zc a++List.map zc (gd l i).Kids)) (oL 28 zc (a++(gd l i).Kids)) (fun q=>[(32,.agg [vi kind,vI .u64 0,vI .u64 0,vI .u64 0,vI .u64 0,vi 0,vi 0,q])]) ?_;exact jD (a++(gd l i).Kids) [] h
   ·obtain ⟨t,h⟩:=h;obtain ⟨s,h⟩:=h;obtain ⟨v,h⟩:=h;refine rV (xo zc (zC _) t s (apo zc a v oN)) [64] (show AV from .own 28 (List.map zc a++[FV.agg [FV.pv (Value.int IntKind.i64 (gd l i).Kind),FV.pv (Value.int IntKind.u64 (za.e0 (gd l i).Set)),FV.pv (Value.int IntKind.u64 (za.e1 (gd l i).Set)),FV.pv (Value.int IntKind.u64 (za.e2 (gd l i).Set)),FV.pv (Value.int IntKind.u64 (za.e3 (gd l i).Set)),FV.pv (Value.int IntKind.i64 (gd l i).Lo),FV.pv (Value.int IntKind.i64 (gd l i).Hi),FV.sl (List.map zc (gd l i).Kids)]])) (oL 28 zc (a++[gd l i])) (fun q=>[(32,.agg [vi kind,vI .u64 0,vI .u64 0,vI .u64 0,vI .u64 0,vi 0,vi 0,q])]) ?_;exact jD (a++[gd l i]) [] h
 ·refine xD (i:=0) ?_;show Sem _ _ _ _ _;refine wkD [1,4,19,37] ?_;refine sO (nd (show (0:Nat)=(0:Nat)∧List.length (List.map zc a)=List.length (List.map zc a) from ⟨rfl,rfl⟩) oN) [16,32] [(26,.agg [vi kind,vI .u64 0,vI .u64 0,vI .u64 0,vI .u64 0,vi 0,vi 0,oL 28 zc a])] ?_;refine tD ?_;subst h;exact (endQ []).1
theorem za4 (g:Int) (m:zf) (res:zj) (fin:zf)
 (h:(∃ r0:Int,∃ o:zf,zl 8 m r0 o∧(ck (decide (g < 1) || (decide (r0 < 2) || decide (o.At≥(↑(List.length o.L):Int)))) (∃ v:zj,∃ F:zf,zaR o v F∧(res=v∧fin=F)) (ck (decide (r0 < 5)) (∃ d:zj,∃ H:zf,zM (w64 (g - 1)) o d H∧(∃ a:zj,∃ B:zf,zM (w64 (g - 1)) H a B∧(∃ p:zj,z6 3 ([d,a]) p∧(res=p∧fin=B)))) (ck (r0 == 5) (∃ c:zj,∃ N:zf,zM (w64 (g - 1)) o c N∧(∃ b:zj,∃ D:zf,zM (w64 (g - 1)) N b D∧(∃ s:zj,z6 4 ([c,b]) s∧(res=s∧fin=D)))) (∃ f:Int,∃ E:zf,zl 3 o f E∧(∃ y:List Int→Int→Int→Prop,(∀ (r:List Int) (i:Int) (k:Int),y r i k→(∃ e:zj,∃ A:zf,zM (w64 (g - 2)) ({ L:=r,At:=i }) e A∧(res=({ Kind:=5,Set:={ e0:=0,e1:=0,e2:=0,e3:=0 },Lo:=f,Hi:=k,Kids:=[e] })∧fin=A)))∧(∃ t:Int,∃ l:zf,zl 2 E t l∧(ck (t == 1) (∃ j:Int,∃ n:zf,zl 2 l j n∧y n.L n.At (w64 ((if f > 1 then f else 1)+j))) (y l.L l.At (-1))))))))))):zM g m res fin:=by
 unfold zM;have kk:=cfOk [74] 75;refine fD (x:=bodyOf Tryz.f25) kk Tryz.func25 ?_;refine wkS [1,3,4] [(1,.ptr 3 0),(3,zk m),(4,vi g)] (by kernel_rfl) ?_;refine sO oN [] [(13,.ptr 26 0),(26,.agg [vi 0,vI .u64 0,vI .u64 0,vI .u64 0,vI .u64 0,vi 0,vi 0,oL 28 zc ([])])] ?_;obtain ⟨r0,o,a6,h⟩:=h;refine sO (ca a6 oN) [] [(3,zk o),(16,vi r0)] ?_;refine qD ?_;refine sM [] [(79,vB (decide (g < 1) || (decide (r0 < 2) || decide (o.At≥(↑(List.length o.L):Int)))))] ?_ (fun J=>?_)
 ·refine cH 26 h (fun a7 h=>?_) (fun a7 h=>?_)
  ·obtain ⟨v,F,a1,h⟩:=h;refine sO (ca a1 oN) [1,4,16,79] [(3,zk F),(26,zbj v)] ?_;refine tD ?_;obtain ⟨M,I⟩:=h;subst res fin;exact (endQ []).1
  ·refine kD ?_;show Sem _ _ _ _ _;refine wkD [79] ?_;refine qD ?_;refine bD (id:=0) ?_;refine sO oN [] [(88,vB (decide (r0 < 5)))] ?_;refine cH 29 h (fun a0 h=>?_) (fun a0 h=>?_)
   ·obtain ⟨d,H,a3,h⟩:=h;obtain ⟨a,B,a4,h⟩:=h;obtain ⟨p,a2,h⟩:=h;refine sO (ca a3 (ca a4 (ca (Eq.mp (by unfold z6;(try simp only [List.drop_zero,List.take_length]);first | done | simp only [nm,enq]:z6 3 ([d,a]) p=CallE Tryz.prog 63 [vi 3,.f (FV.sl (List.take (List.length [FV.agg [FV.pv (Value.int IntKind.i64 d.Kind),FV.pv (Value.int IntKind.u64 (za.e0 d.Set)),FV.pv (Value.int IntKind.u64 (za.e1 d.Set)),FV.pv (Value.int IntKind.u64 (za.e2 d.Set)),FV.pv (Value.int IntKind.u64 (za.e3 d.Set)),FV.pv (Value.int IntKind.i64 d.Lo),FV.pv (Value.int IntKind.i64 d.Hi),FV.sl (List.take (List.length (List.map zc d.Kids)) (List.drop 0 (List.map zc d.Kids)))],FV.agg [FV.pv (Value.int IntKind.i64 a.Kind),FV.pv (Value.int IntKind.u64 (za.e0 a.Set)),FV.pv (Value.int IntKind.u64 (za.e1 a.Set)),FV.pv (Value.int IntKind.u64 (za.e2 a.Set)),FV.pv (Value.int IntKind.u64 (za.e3 a.Set)),FV.pv (Value.int IntKind.i64 a.Lo),FV.pv (Value.int IntKind.i64 a.Hi),FV.sl (List.take (List.length (List.map zc a.Kids)) (List.drop 0 (List.map zc a.Kids)))]]) (List.drop 0 [FV.agg [FV.pv (Value.int IntKind.i64 d.Kind),FV.pv (Value.int IntKind.u64 (za.e0 d.Set)),FV.pv (Value.int IntKind.u64 (za.e1 d.Set)),FV.pv (Value.int IntKind.u64 (za.e2 d.Set)),FV.pv (Value.int IntKind.u64 (za.e3 d.Set)),FV.pv (Value.int IntKind.i64 d.Lo),FV.pv (Value.int IntKind.i64 d.Hi),FV.sl (List.take (List.length (List.map zc d.Kids)) (List.drop 0 (List.map zc d.Kids)))],FV.agg [FV.pv (Value.int IntKind.i64 a.Kind),FV.pv (Value.int IntKind.u64 (za.e0 a.Set)),FV.pv (Value.int IntKind.u64 (za.e1 a.Set)),FV.pv (Value.int IntKind.u64 (za.e2 a.Set)),FV.pv (Value.int IntKind.u64 (za.e3 a.Set)),FV.pv (Value.int IntKind.i64 a.Lo),FV.pv (Value.int IntKind.i64 a.Hi),FV.sl (List.take (List.length (List.map zc a.Kids)) (List.drop 0 (List.map zc a.Kids)))]])))] [] (zbj p) []) a2) oN))) [1,4,16,88] [(3,zk B),(26,zbj p)] ?_;refine tD ?_;obtain ⟨M,I⟩:=h;subst res fin;exact (endQ []).1
   ·refine sO oN [16,88] [(127,vB (r0 == 5))] ?_;refine cH 42 h (fun a5 h=>?_) (fun a5 h=>?_)
    ·obtain ⟨c,N,W,h⟩:=h;obtain ⟨b,D,O,h⟩:=h;obtain ⟨s,Y,h⟩:=h;refine sO (ca W (ca O (ca (Eq.mp (by unfold z6;(try simp only [List.drop_zero,List.take_length]);first | done | simp only [nm,enq]:z6 4 ([c,b]) s=CallE Tryz.prog 63 [vi 4,.f (FV.sl (List.take (List.length [FV.agg [FV.pv (Value.int IntKind.i64 c.Kind),FV.pv (Value.int IntKind.u64 (za.e0 c.Set)),FV.pv (Value.int IntKind.u64 (za.e1 c.Set)),FV.pv (Value.int IntKind.u64 (za.e2 c.Set)),FV.pv (Value.int IntKind.u64 (za.e3 c.Set)),FV.pv (Value.int IntKind.i64 c.Lo),FV.pv (Value.int IntKind.i64 c.Hi),FV.sl (List.take (List.length (List.map zc c.Kids)) (List.drop 0 (List.map zc c.Kids)))],FV.agg [FV.pv (Value.int IntKind.i64 b.Kind),FV.pv (Value.int IntKind.u64 (za.e0 b.Set)),FV.pv (Value.int IntKind.u64 (za.e1 b.Set)),FV.pv (Value.int IntKind.u64 (za.e2 b.Set)),FV.pv (Value.int IntKind.u64 (za.e3 b.Set)),FV.pv (Value.int IntKind.i64 b.Lo),FV.pv (Value.int IntKind.i64 b.Hi),FV.sl (List.take (List.length (List.map zc b.Kids)) (List.drop 0 (List.map zc b.Kids)))]]) (List.drop 0 [FV.agg [FV.pv (Value.int IntKind.i64 c.Kind),FV.pv (Value.int IntKind.u64 (za.e0 c.Set)),FV.pv (Value.int IntKind.u64 (za.e1 c.Set)),FV.pv (Value.int IntKind.u64 (za.e2 c.Set)),FV.pv (Value.int IntKind.u64 (za.e3 c.Set)),FV.pv (Value.int IntKind.i64 c.Lo),FV.pv (Value.int IntKind.i64 c.Hi),FV.sl (List.take (List.length (List.map zc c.Kids)) (List.drop 0 (List.map zc c.Kids)))],FV.agg [FV.pv (Value.int IntKind.i64 b.Kind),FV.pv (Value.int IntKind.u64 (za.e0 b.Set)),FV.pv (Value.int IntKind.u64 (za.e1 b.Set)),FV.pv (Value.int IntKind.u64 (za.e2 b.Set)),FV.pv (Value.int IntKind.u64 (za.e3 b.Set)),FV.pv (Value.int IntKind.i64 b.Lo),FV.pv (Value.int IntKind.i64 b.Hi),FV.sl (List.take (List.length (List.map zc b.Kids)) (List.drop 0 (List.map zc b.Kids)))]])))] [] (zbj s) []) Y) oN))) [1,4,127] [(3,zk D),(26,zbj s)] ?_;refine tD ?_;obtain ⟨M,I⟩:=h;subst res fin;exact (endQ []).1
    ·refine kD ?_;show Sem _ _ _ _ _;refine wkD [127] ?_;obtain ⟨f,E,X,h⟩:=h;refine sO (ca X oN) [] [(3,zk E),(19,.ptr 38 0),(38,.agg [vi 5,vI .u64 0,vI .u64 0,vI .u64 0,vI .u64 0,vi f,vi (-1),oL 28 zc ([])])] ?_;obtain ⟨y,Q,h⟩:=h;refine sjE (u3 y) [] (u3 fun r i k=>[(3,.agg [vL zae r,vi i]),(38,.agg [vi 5,vI .u64 0,vI .u64 0,vI .u64 0,vI .u64 0,vi f,vi k,oL 28 zc ([])])]) ?_ ?_
     ·rintro ⟨r,i,k⟩ hj;have h:=Q r i k hj;obtain ⟨e,A,S,h⟩:=h;refine sV (ca S oN) [1,4] (show AV from .own 28 ([FV.agg [FV.pv (Value.int IntKind.i64 e.Kind),FV.pv (Value.int IntKind.u64 (za.e0 e.Set)),FV.pv (Value.int IntKind.u64 (za.e1 e.Set)),FV.pv (Value.int IntKind.u64 (za.e2 e.Set)),FV.pv (Value.int IntKind.u64 (za.e3 e.Set)),FV.pv (Value.int IntKind.i64 e.Lo),FV.pv (Value.int IntKind.i64 e.Hi),FV.sl (List.take (List.length (List.map zc e.Kids)) (List.drop (0:Nat) (List.map zc e.Kids)))]])) (oL 28 zc ([e])) (fun q=>[(3,zk A),(38,.agg [vi 5,vI .u64 0,vI .u64 0,vI .u64 0,vI .u64 0,vi f,vi k,q])]) ?_;refine sO (nd (show (0:Nat)=(0:Nat)∧(1:Nat)=List.length (List.map zc [e]) from by first | decide | rfl | trivial | (simp only [nm]<;>first | decide | rfl | omega)) oN) [19,38] [(26,.agg [vi 5,vI .u64 0,vI .u64 0,vI .u64 0,vI .u64 0,vi f,vi k,oL 28 zc ([e])])] ?_;refine tD ?_;obtain ⟨M,I⟩:=h;subst res fin;exact (endQ []).1
     ·obtain ⟨t,l,R,h⟩:=h;refine sO (ca R oN) [] [(3,zk l),(181,vB (t == 1))] ?_;refine cH 60 h (fun V h=>?_) (fun V h=>?_)
      ·obtain ⟨j,n,U,h⟩:=h;refine rV (ca U oN) [181] (vi (w64 ((if true=true then if f > 1 then f else 1 else if f < 1 then f else 1)+j))) (vi (w64 ((if f > 1 then f else 1)+j))) (fun q=>[(3,zk n),(38,.agg [vi 5,vI .u64 0,vI .u64 0,vI .u64 0,vI .u64 0,vi f,q,oL 28 zc ([])])]) ?_;exact jD (n.L,n.At,(w64 ((if f > 1 then f else 1)+j))) [] h
      ·refine kD ?_;exact jD (l.L,l.At,(-1)) [] h
 ·rcases eft (decide (g < 1)) with u | u
  ·refine sO (g1 u 22388888888887 oN) [] [(79,vB true)] ?_;exact Sem.cast (by try rw [u];kernel_rfl) J
  ·rcases eft (decide (r0 < 2)) with w | w
   ·refine sO (g2 w u 55622222222223 oN) [] [(79,vB true)] ?_;exact Sem.cast (by try rw [u];try rw [w];kernel_rfl) J
   ·refine sV (g2 w u 55622222222223 oN) [] (List.length (List.map zae o.L)) (List.length o.L) (fun q=>[(79,vB (decide (o.At≥(↑(q):Int))))]) ?_;exact Sem.cast (by try rw [u];try rw [w];kernel_rfl) J
theorem zcQ (m:zf) (res:zj) (fin:zf)
 (h:(∃ r0:zj,∃ o:zf,zM 2 m r0 o∧(∃ b:Int,zai r0 b∧(ck (decide (b > 12)) (∃ a:za,zaT (98) (98) a∧(res=({ Kind:=2,Set:=a,Lo:=0,Hi:=0,Kids:=[] })∧fin=o)) (res=r0∧fin=o))))):zaH m res fin:=by
 unfold zaH;have kk:=cfOk [11] 12;refine fD (x:=bodyOf Tryz.f89) kk Tryz.func89 ?_;refine wkS [1,3] [(1,.ptr 3 0),(3,zk m)] (by kernel_rfl) ?_;refine sO oN [] [(7,.ptr 14 0),(14,.agg [vi 0,vI .u64 0,vI .u64 0,vI .u64 0,vI .u64 0,vi 0,vi 0,oL 28 zc ([])])] ?_;obtain ⟨r0,o,d,h⟩:=h;refine sO (ca d oN) [1] [(3,zk o),(10,.ptr 20 0),(20,zbj r0)] ?_;refine qD ?_;obtain ⟨b,c,h⟩:=h;refine sO (ca (Eq.mp (by unfold zai;(try simp only [List.drop_zero,List.take_length]);first | done | simp only [nm,enq]:zai r0 b=CallE Tryz.prog 26 [.agg [vi r0.Kind,vI .u64 (za.e0 r0.Set),vI .u64 (za.e1 r0.Set),vI .u64 (za.e2 r0.Set),vI .u64 (za.e3 r0.Set),vi r0.Lo,vi r0.Hi,.f (FV.sl (List.take (List.length (List.map zc r0.Kids)) (List.drop 0 (List.map zc r0.Kids))))]] [] (vi b) []) c) oN) [] [(20,zu r0),(25,vB (decide (b > 12)))] ?_;refine cH 8 h (fun i h=>?_) (fun i h=>?_)
 ·obtain ⟨a,e,h⟩:=h;refine sO (ca e oN) [10,20,25] [(14,.agg [vi 2,vI .u64 a.e0,vI .u64 a.e1,vI .u64 a.e2,vI .u64 a.e3,vi 0,vi 0,oL 28 zc ([])])] ?_;refine tD ?_;obtain ⟨f,g⟩:=h;subst res fin;exact (endQ [(14,7)]).1
 ·refine kD ?_;show Sem _ _ _ _ _;refine wkD [25] ?_;refine sO oN [10,20] [(14,zu r0)] ?_;refine tD ?_;obtain ⟨f,g⟩:=h;subst res fin;exact (endQ []).1
end Go.Ev
namespace Go.Ev
open Go Go.Proofs
set_option maxRecDepth 8000
set_option maxHeartbeats 1000000
theorem zc3 (S:Int) (a1:Bool) (m:zf) (res:zp) (fin:zf)
 (h:(∃ r0:Int,∃ o:zf,zl 3 m r0 o∧(∃ J3:List Int→Int→Int→Prop,(∀ (Y:List Int) (O:Int) (v:Int),J3 Y O v→(∃ a7:List Int→Int→List Int→Bool→Prop,(∀ (I:List Int) (B:Int) (b:List Int) (t:Bool),a7 I B b t→(∃ a4:Int,∃ b0:zf,zl (12) ({ L:=I,At:=B }) a4 b0∧(ck (a4 == 11) (res=({ Conds:=b,All:=t,Bol:=false,Rx:={ Kind:=0,Set:={ e0:=0,e1:=0,e2:=0,e3:=0 },Lo:=0,Hi:=0,Kids:=[] },Trail:={ Kind:=0,Set:={ e0:=0,e1:=0,e2:=0,e3:=0 },Lo:=0,Hi:=0,Kids:=[] },Eof:=true,Act:=w64 (1+r0),To:=v })∧fin=b0) (∃ a:zj,∃ Q:zf,zaH b0 a Q∧(∃ a6:List Int→Int→Bool→Int→Int→Int→Int→Int→Int→Int→List zj→Prop,(∀ (H:List Int) (D:Int) (M:Bool) (l:Int) (f:Int) (g:Int) (j:Int) (e:Int) (p:Int) (r:Int) (k:List zj),a6 H D M l f g j e p r k→(res=({ Conds:=b,All:=t,Bol:=M,Rx:=a,Trail:={ Kind:=l,Set:={ e0:=f,e1:=g,e2:=j,e3:=e },Lo:=p,Hi:=r,Kids:=k },Eof:=false,Act:=w64 (1+r0),To:=v })∧fin=({ L:=H,At:=D })))∧(ck (!a1) (∃ E:Int,∃ a5:zf,zl (6) Q E a5∧(∃ a2:Int,∃ R:zf,zl 5 a5 a2 R∧(ck (a2 == 4) (∃ d:zj,∃ U:zf,zaH R d U∧a6 U.L U.At (E == 5) d.Kind (za.e0 d.Set) (za.e1 d.Set) (za.e2 d.Set) (za.e3 d.Set) d.Lo d.Hi d.Kids) (a6 R.L R.At (E == 5) 0 0 0 0 0 0 0 ([]))))) (a6 Q.L Q.At false 0 0 0 0 0 0 0 ([]))))))))∧(∃ N:Int,∃ A:zf,zl 4 ({ L:=Y,At:=O }) N A∧(ck (N == 0) (a7 A.L A.At ([]) true) (ck (N == 1) (∃ (W:List Int→Int→List Int→Int→Prop) (a3:List Int→Int→List Int→Int→Nat),W A.L A.At ([]) 0∧(∀ (y:List Int) (u:Int) (c:List Int) (J:Int),W y u c J→(ck (decide (J < S)) (∃ a8:List Int→Int→List Int→Prop,(∀ (w:List Int) (s:Int) (n:List Int),a8 w s n→(W w s n (w64 (J+1))∧a3 w s n (w64 (J+1)) < a3 y u c J))∧(∃ a0:Int,∃ F:zf,zl 2 ({ L:=y,At:=u }) a0 F∧(ck (a0 == 1) (((List.length c+1) * 8≤2 ^ 47)∧a8 F.L F.At (c++[J])) (a8 F.L F.At c)))) (a7 y u c false)))) (a7 A.L A.At ([]) false))))))∧(ck (w64 (1+r0) == 3) (∃ X:Int,∃ V:zf,zl S o X V∧J3 V.L V.At X) (J3 o.L o.At 0))))):zbb S a1 m res fin:=by
 unfold zbb;have kk:=cfOk [45,61] 62;refine fD (x:=bodyOf Tryz.f50) kk Tryz.func50 ?_;refine wkS [1,3,4,7] [(1,.ptr 3 0),(3,zk m),(4,vi S),(7,vB a1)] (by kernel_rfl) ?_;refine sO oN [] [(19,.ptr 38 0),(38,.agg [oL 3 zb ([]),vB false,vB false,vi 0,vI .u64 0,vI .u64 0,vI .u64 0,vI .u64 0,vi 0,vi 0,oL 28 zc ([]),vi 0,vI .u64 0,vI .u64 0,vI .u64 0,vI .u64 0,vi 0,vi 0,oL 28 zc ([]),vB false,vi 0,vi 0])] ?_;obtain ⟨r0,o,d3,h⟩:=h;refine sO (ca d3 oN) [] [(3,zk o),(22,.ptr 44 0),(44,.agg [oL 3 zb ([]),vB false,vB false,vi 0,vI .u64 0,vI .u64 0,vI .u64 0,vI .u64 0,vi 0,vi 0,oL 28 zc ([]),vi 0,vI .u64 0,vI .u64 0,vI .u64 0,vI .u64 0,vi 0,vi 0,oL 28 zc ([]),vB false,vi (w64 (1+r0)),vi 0])] ?_;obtain ⟨J3,d4,h⟩:=h;refine sjE (u3 J3) [] (u3 fun Y O v=>[(3,.agg [vL zae Y,vi O]),(44,.agg [oL 3 zb ([]),vB false,vB false,vi 0,vI .u64 0,vI .u64 0,vI .u64 0,vI .u64 0,vi 0,vi 0,oL 28 zc ([]),vi 0,vI .u64 0,vI .u64 0,vI .u64 0,vI .u64 0,vi 0,vi 0,oL 28 zc ([]),vB false,vi (w64 (1+r0)),vi v])]) ?_ ?_
 ·rintro ⟨Y,O,v⟩ hj;have h:=d4 Y O v hj;obtain ⟨a7,b7,h⟩:=h;refine sjE (u4 a7) [4] (u4 fun I B b t=>[(3,.agg [vL zae I,vi B]),(44,.agg [oL 3 zb b,vB t,vB false,vi 0,vI .u64 0,vI .u64 0,vI .u64 0,vI .u64 0,vi 0,vi 0,oL 28 zc ([]),vi 0,vI .u64 0,vI .u64 0,vI .u64 0,vI .u64 0,vi 0,vi 0,oL 28 zc ([]),vB false,vi (w64 (1+r0)),vi v])]) ?_ ?_
  ·rintro ⟨I,B,b,t⟩ hj;have h:=b7 I B b t hj;refine qD ?_;obtain ⟨a4,b0,b8,h⟩:=h;refine sO (ca b8 oN) [] [(3,zk b0),(130,vB (a4 == 11))] ?_;refine cH 43 h (fun c4 h=>?_) (fun c4 h=>?_)
   ·refine sO oN [1,7,130] [(44,.agg [oL 3 zb b,vB t,vB false,vi 0,vI .u64 0,vI .u64 0,vI .u64 0,vI .u64 0,vi 0,vi 0,oL 28 zc ([]),vi 0,vI .u64 0,vI .u64 0,vI .u64 0,vI .u64 0,vi 0,vi 0,oL 28 zc ([]),vB true,vi (w64 (1+r0)),vi v])] ?_;refine sO (nd (show (0:Nat)=(0:Nat)∧List.length (List.map zb b)=List.length (List.map zb b) from ⟨rfl,rfl⟩) (nd (show (0:Nat)=(0:Nat)∧(0:Nat)=List.length (List.map zc []) from by first | decide | rfl | trivial) (nd (show (0:Nat)=(0:Nat)∧(0:Nat)=List.length (List.map zc []) from by first | decide | rfl | trivial) oN))) [22,44] [(38,.agg [oL 3 zb b,vB t,vB false,vi 0,vI .u64 0,vI .u64 0,vI .u64 0,vI .u64 0,vi 0,vi 0,oL 28 zc ([]),vi 0,vI .u64 0,vI .u64 0,vI .u64 0,vI .u64 0,vi 0,vi 0,oL 28 zc ([]),vB true,vi (w64 (1+r0)),vi v])] ?_;refine tD ?_;obtain ⟨d2,d1⟩:=h;subst res fin;exact (endQ [(38,10),(38,18)]).1
   ·refine kD ?_;show Sem _ _ _ _ _;refine wkD [130] ?_;obtain ⟨a,Q,c2,h⟩:=h;refine sO (ca c2 oN) [] [(3,zk Q),(44,.agg [oL 3 zb b,vB t,vB false,vi a.Kind,vI .u64 (za.e0 a.Set),vI .u64 (za.e1 a.Set),vI .u64 (za.e2 a.Set),vI .u64 (za.e3 a.Set),vi a.Lo,vi a.Hi,vL zc a.Kids,vi 0,vI .u64 0,vI .u64 0,vI .u64 0,vI .u64 0,vi 0,vi 0,oL 28 zc ([]),vB false,vi (w64 (1+r0)),vi v])] ?_;obtain ⟨a6,c1,h⟩:=h;refine sjE (u11 a6) [1,7] (u11 fun H D M l f g j e p r k=>[(3,.agg [vL zae H,vi D]),(44,.agg [oL 3 zb b,vB t,vB M,vi a.Kind,vI .u64 (za.e0 a.Set),vI .u64 (za.e1 a.Set),vI .u64 (za.e2 a.Set),vI .u64 (za.e3 a.Set),vi a.Lo,vi a.Hi,vL zc a.Kids,vi l,vI .u64 f,vI .u64 g,vI .u64 j,vI .u64 e,vi p,vi r,vL zc k,vB false,vi (w64 (1+r0)),vi v])]) ?_ ?_
    ·rintro ⟨H,D,M,l,f,g,j,e,p,r,k⟩ hj;have h:=c1 H D M l f g j e p r k hj;refine sO (nd (show (0:Nat)=(0:Nat)∧List.length (List.map zb b)=List.length (List.map zb b) from ⟨rfl,rfl⟩) oN) [22,44] [(38,.agg [oL 3 zb b,vB t,vB M,vi a.Kind,vI .u64 (za.e0 a.Set),vI .u64 (za.e1 a.Set),vI .u64 (za.e2 a.Set),vI .u64 (za.e3 a.Set),vi a.Lo,vi a.Hi,vL zc a.Kids,vi l,vI .u64 f,vI .u64 g,vI .u64 j,vI .u64 e,vi p,vi r,vL zc k,vB false,vi (w64 (1+r0)),vi v])] ?_;refine tD ?_;obtain ⟨d2,d1⟩:=h;subst res fin;exact (endQ []).1
    ·refine sO oN [7] [(151,vB (!a1))] ?_;refine cH 50 h (fun b2 h=>?_) (fun b2 h=>?_)
     ·obtain ⟨E,a5,c5,h⟩:=h;refine sO (ca c5 oN) [151] [(3,zk a5),(44,.agg [oL 3 zb b,vB t,vB (E == 5),vi a.Kind,vI .u64 (za.e0 a.Set),vI .u64 (za.e1 a.Set),vI .u64 (za.e2 a.Set),vI .u64 (za.e3 a.Set),vi a.Lo,vi a.Hi,vL zc a.Kids,vi 0,vI .u64 0,vI .u64 0,vI .u64 0,vI .u64 0,vi 0,vi 0,oL 28 zc ([]),vB false,vi (w64 (1+r0)),vi v])] ?_;obtain ⟨a2,R,b9,h⟩:=h;refine sO (ca b9 oN) [] [(3,zk R),(172,vB (a2 == 4))] ?_;refine cH 57 h (fun c3 h=>?_) (fun c3 h=>?_)
      ·obtain ⟨d,U,b6,h⟩:=h;refine rO (ca b6 oN) [1,172] [(3,zk U),(44,.agg [oL 3 zb b,vB t,vB (E == 5),vi a.Kind,vI .u64 (za.e0 a.Set),vI .u64 (za.e1 a.Set),vI .u64 (za.e2 a.Set),vI .u64 (za.e3 a.Set),vi a.Lo,vi a.Hi,vL zc a.Kids,vi d.Kind,vI .u64 (za.e0 d.Set),vI .u64 (za.e1 d.Set),vI .u64 (za.e2 d.Set),vI .u64 (za.e3 d.Set),vi d.Lo,vi d.Hi,vL zc d.Kids,vB false,vi (w64 (1+r0)),vi v])] ?_;exact jD (U.L,U.At,(E == 5),d.Kind,(za.e0 d.Set),(za.e1 d.Set),(za.e2 d.Set),(za.e3 d.Set),d.Lo,d.Hi,d.Kids) [] h
      ·refine kD ?_;exact jD (R.L,R.At,(E == 5),0,0,0,0,0,0,0,([])) [(44,18)] h
     ·refine kD ?_;exact jD (Q.L,Q.At,false,0,0,0,0,0,0,0,([])) [(44,18)] h
  ·obtain ⟨N,A,c6,h⟩:=h;refine sO (ca c6 oN) [] [(3,zk A),(64,vi N)] ?_;refine bD (id:=0) ?_;refine sO oN [] [(67,vB (N == 0))] ?_;refine cH 22 h (fun c7 h=>?_) (fun c7 h=>?_)
   ·refine rO oN [4,64,67] [(44,.agg [oL 3 zb ([]),vB true,vB false,vi 0,vI .u64 0,vI .u64 0,vI .u64 0,vI .u64 0,vi 0,vi 0,oL 28 zc ([]),vi 0,vI .u64 0,vI .u64 0,vI .u64 0,vI .u64 0,vi 0,vi 0,oL 28 zc ([]),vB false,vi (w64 (1+r0)),vi v])] ?_;exact jD (A.L,A.At,([]),true) [] h
   ·refine sO oN [64,67] [(76,vB (N == 1))] ?_;refine cH 25 h (fun c9 h=>?_) (fun c9 h=>?_)
    ·refine sO oN [76] [(25,vi 0)] ?_;refine bD (id:=1) ?_;obtain ⟨W,a3,a9,b1⟩:=h;refine loE [] (u4 fun y u c J=>[(3,.agg [vL zae y,vi u]),(25,vi J),(44,.agg [oL 3 zb c,vB false,vB false,vi 0,vI .u64 0,vI .u64 0,vI .u64 0,vI .u64 0,vi 0,vi 0,oL 28 zc ([]),vi 0,vI .u64 0,vI .u64 0,vI .u64 0,vI .u64 0,vi 0,vi 0,oL 28 zc ([]),vB false,vi (w64 (1+r0)),vi v])]) (u4 W) (u4 a3) (A.L,A.At,([]),0) [] a9 ?_;rintro ⟨y,u,c,J⟩ hi;have h:=b1 y u c J hi;refine qD ?_;refine sO oN [] [(88,vB (decide (J < S)))] ?_;refine cH 29 h (fun c0 h=>?_) (fun c0 h=>?_)
     ·refine kD ?_;show Sem _ _ _ _ _;refine wkD [88] ?_;obtain ⟨a8,c8,h⟩:=h;refine sjE (u3 a8) [] (u3 fun w s n=>[(3,.agg [vL zae w,vi s]),(44,.agg [oL 3 zb n,vB false,vB false,vi 0,vI .u64 0,vI .u64 0,vI .u64 0,vI .u64 0,vi 0,vi 0,oL 28 zc ([]),vi 0,vI .u64 0,vI .u64 0,vI .u64 0,vI .u64 0,vi 0,vi 0,oL 28 zc ([]),vB false,vi (w64 (1+r0)),vi v])]) ?_ ?_
      ·rintro ⟨w,s,n⟩ hj;have h:=c8 w s n hj;refine rO oN [] [(25,vi (w64 (J+1)))] ?_;exact lD (w,s,n,(w64 (J+1))) [] h
      ·refine bD (id:=2) ?_;obtain ⟨a0,F,b5,h⟩:=h;refine sO (ca b5 oN) [] [(3,zk F),(103,vB (a0 == 1))] ?_;refine cH 34 h (fun d0 h=>?_) (fun d0 h=>?_)
       ·obtain ⟨d5,h⟩:=h;refine rV (apo zb c d5 oN) [103] (show AV from .own 3 (List.map zb c++[FV.pv (Value.int IntKind.i64 J)])) (oL 3 zb (c++[J])) (fun q=>[(44,.agg [q,vB false,vB false,vi 0,vI .u64 0,vI .u64 0,vI .u64 0,vI .u64 0,vi 0,vi 0,oL 28 zc ([]),vi 0,vI .u64 0,vI .u64 0,vI .u64 0,vI .u64 0,vi 0,vi 0,oL 28 zc ([]),vB false,vi (w64 (1+r0)),vi v])]) ?_;exact jD (F.L,F.At,(c++[J])) [] h
       ·refine kD ?_;exact jD (F.L,F.At,c) [] h
     ·refine xD (i:=1) ?_;exact jD (y,u,c,false) [] h
    ·refine kD ?_;exact jD (A.L,A.At,([]),false) [] h
 ·refine sO oN [] [(46,vB (w64 (1+r0) == 3))] ?_;refine cH 15 h (fun b3 h=>?_) (fun b3 h=>?_)
  ·obtain ⟨X,V,b4,h⟩:=h;refine rO (ca b4 oN) [46] [(3,zk V),(44,.agg [oL 3 zb ([]),vB false,vB false,vi 0,vI .u64 0,vI .u64 0,vI .u64 0,vI .u64 0,vi 0,vi 0,oL 28 zc ([]),vi 0,vI .u64 0,vI .u64 0,vI .u64 0,vI .u64 0,vi 0,vi 0,oL 28 zc ([]),vB false,vi (w64 (1+r0)),vi X])] ?_;exact jD (V.L,V.At,X) [] h
  ·refine kD ?_;exact jD (o.L,o.At,0) [] h
theorem zfQ (l:(List Int)) (p:Bool) (res:zx)
 (h:(∃ J2:List Int→Prop,(∀ (m:List Int),J2 m→(∃ r0:Int,∃ o:zf,zl 3 ({ L:=m,At:=0 }) r0 o∧(∃ e:Int,∃ v:zf,zl 2 o e v∧(0≤w64 (1+r0)∧Int.toNat (w64 (1+r0))≤3)∧(∃ f:Int,∃ u:zf,zl 3 v f u∧(∃ k:Int,∃ n:zf,zl 4 u k n∧(∃ (g:List zp→Int→List Int→Int→Prop) (r:List zp→Int→List Int→Int→Nat),g ([]) (w64 (1+k)) n.L n.At∧(∀ (a:List zp) (i:Int) (d:List Int) (c:Int),g a i d c→(ck (decide (i > 0)) (∃ b:zp,∃ j:zf,zbb (w64 (1+r0)) p ({ L:=d,At:=c }) b j∧((List.length a+1) * 216≤2 ^ 47)∧(g (a++[b]) (w64 (i - 1)) j.L j.At∧r (a++[b]) (w64 (i - 1)) j.L j.At < r a i d c)) (res=({ Conds:=List.take (Int.toNat (w64 (1+r0))) [{ Name:={ data:=#[(73:UInt8),(78:UInt8),(73:UInt8),(84:UInt8),(73:UInt8),(65:UInt8),(76:UInt8)] },Exclusive:=false },{ Name:={ data:=#[(66:UInt8)] },Exclusive:=e == 1 },{ Name:={ data:=#[(67:UInt8),(95:UInt8),(49:UInt8)] },Exclusive:=false }],Default:=decide (f > 0),Rules:=a }))))))))))∧(ck (decide ((↑(List.length l):Int) > 60)) (((0:Int)≤60∧Int.toNat 60≤List.length l∧List.all (List.map zae l) (FV.fits 1)=true)∧J2 (List.take (Int.toNat 60) l)) (J2 l)))):zbD l p res:=by
 unfold zbD;have kk:=cfOk [49] 50;refine fD (x:=bodyOf Tryz.f18) kk Tryz.func18 ?_;refine wkS [1,4] [(1,vL zae l),(4,vB p)] (by kernel_rfl) ?_;refine sO oN [] [(13,.ptr 26 0),(26,.agg [oL 57 zm ([]),vB false,oL 60 zt ([])])] ?_;obtain ⟨J2,B,h⟩:=h;refine sjE J2 [] (fun m=>[(1,vL zae m)]) ?_ ?_
 ·rintro m hj;have h:=B m hj;refine sO oN [1] [(16,.ptr 98 0),(98,.agg [vL zae m,vi 0])] ?_;obtain ⟨r0,o,H,h⟩:=h;refine sO (ca H oN) [] [(19,vi (w64 (1+r0))),(98,zk o)] ?_;obtain ⟨e,v,F,h⟩:=h;obtain ⟨h5,h⟩:=h;obtain ⟨f,u,D,h⟩:=h;refine sV (ca F (nd (show True∧(0:Int)≤w64 ((1:Int)+r0)∧(0:Nat)=(0:Nat)∧Int.toNat (w64 ((1:Int)+r0))≤(3:Nat) from by simpa only [nm] using h5) (ca D oN))) [] (show AV from .f (FV.sl (List.take (Int.toNat (w64 ((1:Int)+r0))) (List.drop (0:Nat) [FV.agg [FV.pv (Value.string { data:=#[(73:UInt8),(78:UInt8),(73:UInt8),(84:UInt8),(73:UInt8),(65:UInt8),(76:UInt8)] }),FV.pv (Value.bool false)],FV.agg [FV.pv (Value.string { data:=#[(66:UInt8)] }),FV.pv (Value.bool (e == 1))],FV.agg [FV.pv (Value.string { data:=#[(67:UInt8),(95:UInt8),(49:UInt8)] }),FV.pv (Value.bool false)]])))) (vL zm (List.take (Int.toNat (w64 (1+r0))) [{ Name:={ data:=#[(73:UInt8),(78:UInt8),(73:UInt8),(84:UInt8),(73:UInt8),(65:UInt8),(76:UInt8)] },Exclusive:=false },{ Name:={ data:=#[(66:UInt8)] },Exclusive:=e == 1 },{ Name:={ data:=#[(67:UInt8),(95:UInt8),(49:UInt8)] },Exclusive:=false }])) (fun q=>[(22,.ptr 44 0),(44,.agg [q,vB (decide (f > 0)),oL 60 zt ([])]),(98,zk u)]) ?_;refine qD ?_;obtain ⟨k,n,E,h⟩:=h;refine sO (ca E oN) [] [(25,vi (w64 (1+k))),(98,zk n)] ?_;refine bD (id:=0) ?_;obtain ⟨g,r,s,t⟩:=h;refine loE [] (u4 fun a i d c=>[(25,vi i),(44,.agg [vL zm (List.take (Int.toNat (w64 (1+r0))) [{ Name:={ data:=#[(73:UInt8),(78:UInt8),(73:UInt8),(84:UInt8),(73:UInt8),(65:UInt8),(76:UInt8)] },Exclusive:=false },{ Name:={ data:=#[(66:UInt8)] },Exclusive:=e == 1 },{ Name:={ data:=#[(67:UInt8),(95:UInt8),(49:UInt8)] },Exclusive:=false }]),vB (decide (f > 0)),oL 60 zt a]),(98,.agg [vL zae d,vi c])]) (u4 g) (u4 r) (([]),(w64 (1+k)),n.L,n.At) [] s ?_;rintro ⟨a,i,d,c⟩ hi;have h:=t a i d c hi;refine qD ?_;refine sO oN [] [(112,vB (decide (i > 0)))] ?_;refine cH 37 h (fun A h=>?_) (fun A h=>?_)
  ·refine kD ?_;show Sem _ _ _ _ _;refine wkD [112] ?_;refine qD ?_;refine bD (id:=1) ?_;obtain ⟨b,j,y,h⟩:=h;obtain ⟨I,h⟩:=h;refine rV (ca y (apo zt a I oN)) [] (show AV from .own 60 (List.map zt a++[FV.agg [FV.sl (List.take (List.length (List.map zb b.Conds)) (List.drop (0:Nat) (List.map zb b.Conds))),FV.pv (Value.bool b.All),FV.pv (Value.bool b.Bol),FV.pv (Value.int IntKind.i64 (zj.Kind b.Rx)),FV.pv (Value.int IntKind.u64 (zj.Set b.Rx).e0),FV.pv (Value.int IntKind.u64 (zj.Set b.Rx).e1),FV.pv (Value.int IntKind.u64 (zj.Set b.Rx).e2),FV.pv (Value.int IntKind.u64 (zj.Set b.Rx).e3),FV.pv (Value.int IntKind.i64 (zj.Lo b.Rx)),FV.pv (Value.int IntKind.i64 (zj.Hi b.Rx)),FV.sl (List.map zc (zj.Kids b.Rx)),FV.pv (Value.int IntKind.i64 (zj.Kind b.Trail)),FV.pv (Value.int IntKind.u64 (zj.Set b.Trail).e0),FV.pv (Value.int IntKind.u64 (zj.Set b.Trail).e1),FV.pv (Value.int IntKind.u64 (zj.Set b.Trail).e2),FV.pv (Value.int IntKind.u64 (zj.Set b.Trail).e3),FV.pv (Value.int IntKind.i64 (zj.Lo b.Trail)),FV.pv (Value.int IntKind.i64 (zj.Hi b.Trail)),FV.sl (List.map zc (zj.Kids b.Trail)),FV.pv (Value.bool b.Eof),FV.pv (Value.int IntKind.i64 b.Act),FV.pv (Value.int IntKind.i64 b.To)]])) (oL 60 zt (a++[b])) (fun q=>[(44,.agg [vL zm (List.take (Int.toNat (w64 (1+r0))) [{ Name:={ data:=#[(73:UInt8),(78:UInt8),(73:UInt8),(84:UInt8),(73:UInt8),(65:UInt8),(76:UInt8)] },Exclusive:=false },{ Name:={ data:=#[(66:UInt8)] },Exclusive:=e == 1 },{ Name:={ data:=#[(67:UInt8),(95:UInt8),(49:UInt8)] },Exclusive:=false }]),vB (decide (f > 0)),q]),(98,zk j)]) ?_;show Sem _ _ _ _ _;refine rO oN [] [(25,vi (w64 (i - 1)))] ?_;exact lD ((a++[b]),(w64 (i - 1)),j.L,j.At) [] h
  ·refine xD (i:=0) ?_;show Sem _ _ _ _ _;refine wkD [4,16,19,25,98,112] ?_;refine sO (nd (show (0:Nat)=(0:Nat)∧List.length (List.map zt a)=List.length (List.map zt a) from ⟨rfl,rfl⟩) oN) [22,44] [(26,.agg [vL zm (List.take (Int.toNat (w64 (1+r0))) [{ Name:={ data:=#[(73:UInt8),(78:UInt8),(73:UInt8),(84:UInt8),(73:UInt8),(65:UInt8),(76:UInt8)] },Exclusive:=false },{ Name:={ data:=#[(66:UInt8)] },Exclusive:=e == 1 },{ Name:={ data:=#[(67:UInt8),(95:UInt8),(49:UInt8)] },Exclusive:=false }]),vB (decide (f > 0)),oL 60 zt a])] ?_;refine tD ?_;obtain he0:=h;subst res;exact (endD [] (.agg [vL zm (List.take (Int.toNat (w64 (1+r0))) [{ Name:={ data:=#[(73:UInt8),(78:UInt8),(73:UInt8),(84:UInt8),(73:UInt8),(65:UInt8),(76:UInt8)] },Exclusive:=false },{ Name:={ data:=#[(66:UInt8)] },Exclusive:=e == 1 },{ Name:={ data:=#[(67:UInt8),(95:UInt8),(49:UInt8)] },Exclusive:=false }]),vB (decide (f > 0)),oL 60 zt a]) []).1
 ·refine sV oN [] (List.length (List.map zae l)) (List.length l) (fun q=>[(34,vB (decide ((↑(q):Int) > 60)))]) ?_;refine cH 11 h (fun w h=>?_) (fun w h=>?_)
  ·obtain ⟨J,h⟩:=h;refine rOE (nd (show True∧(0:Int)≤(60:Int)∧(0:Nat)≤Int.toNat (60:Int)∧Int.toNat (60:Int)≤List.length (List.map zae l)∧List.all (List.map zae l) (FV.fits (1:Nat))=true from by simpa only [nm] using J) oN) [34] [(1,.f (FV.sl (List.take (Int.toNat 60 - 0) (List.drop 0 (List.map zae l)))))] [(1,vL zae (List.take (Int.toNat 60) l))] ?_;exact jD (List.take (Int.toNat 60) l) [] h
  ·refine kD ?_;exact jD l [] h
theorem zh6 (i:Int) (res:Bool)
 (h:(res=(decide (i < 0) || decide (i≥40)))):zcS i res:=by
 unfold zcS;have kk:=cfOk [] 9;refine fD (x:=bodyOf Tryz.f51) kk Tryz.func51 ?_;refine wkS [1] [(1,vi i)] (by kernel_rfl) ?_;refine sO oN [] [] ?_;refine sM [1] [(7,vB (decide (i < 0) || decide (i≥40)))] ?_ (fun b=>?_)
 ·refine tD ?_;subst h;exact (endQ []).1
 ·rcases eft (decide (i < 0)) with a | a
  ·refine sO (g1 a 223 oN) [1] [(7,vB true)] ?_;exact Sem.cast (by try rw [a];kernel_rfl) b
  ·refine sO (g1 a 223 oN) [1] [(7,vB (decide (i≥40)))] ?_;exact Sem.cast (by try rw [a];kernel_rfl) b
theorem zci (s0:(List za)) (v:za) (res:Int)
 (h:(∃ (a:Int→Prop) (b:Int→Nat),a 0∧(∀ (t8:Int),a t8→(ck (decide (t8 < (↑(List.length s0):Int))) ((0≤t8)∧t8 < ↑(List.length s0)∧(ck (v.e0 == (gd s0 t8).e0 && (v.e1 == (gd s0 t8).e1 && (v.e2 == (gd s0 t8).e2 && (v.e3 == (gd s0 t8).e3 && true)))) (res=t8) (a (w64 (t8+1))∧b (w64 (t8+1)) < b t8))) (res=(-1)))))):zaC s0 v res:=by
 unfold zaC;have kk:=cfOk [17] 19;refine fD (x:=bodyOf Tryz.f91) kk Tryz.func91 ?_;refine wkS [1,4] [(1,vL ze s0),(4,zy v)] (by kernel_rfl) ?_;refine sO oN [4] [(10,.ptr 20 0),(20,zy v)] ?_;refine qD ?_;refine sV oN [] (List.length (List.map ze s0)) (List.length s0) (fun q=>[(22,vi ((↑(q):Int))),(25,vi 0)]) ?_;refine bD (id:=0) ?_;obtain ⟨a,b,c,d⟩:=h;refine loE [] (fun t8=>[(25,vi t8)]) a b 0 [] c ?_;rintro t8 hi;have h:=d t8 hi;refine sO oN [] [(28,vB (decide (t8 < (↑(List.length s0):Int))))] ?_;refine qD ?_;refine cH 9 h (fun g h=>?_) (fun g h=>?_)
 ·refine kD ?_;show Sem _ _ _ _ _;refine wkD [28] ?_;refine qD ?_;refine bD (id:=1) ?_;refine sO oN [] [(16,vi t8)] ?_;obtain ⟨f,h⟩:=h;obtain ⟨j,h⟩:=h;refine sO (xo ze (za8 _) f j oN) [] [(49,vB (v.e0 == (gd s0 t8).e0 && (v.e1 == (gd s0 t8).e1 && (v.e2 == (gd s0 t8).e2 && (v.e3 == (gd s0 t8).e3 && true)))))] ?_;refine cH 16 h (fun e h=>?_) (fun e h=>?_)
  ·refine sO oN [1,10,16,20,22,25,49] [(13,vi t8)] ?_;refine tD ?_;subst h;exact (endQ []).1
  ·refine kD ?_;show Sem _ _ _ _ _;refine wkD [16,49] ?_;refine rO oN [] [(25,vi (w64 (t8+1)))] ?_;exact lD (w64 (t8+1)) [] h
 ·refine xD (i:=0) ?_;show Sem _ _ _ _ _;refine wkD [1,10,20,22,25,28] ?_;refine sO oN [] [(13,vi (-1))] ?_;refine tD ?_;subst h;exact (endQ []).1
theorem zb3 (s0:(List za)) (v:za) (res:Bool)
 (h:(∃ r0:Int,zaC s0 v r0∧(res=(decide (r0≥0))))):zah s0 v res:=by
 unfold zah;have kk:=cfOk [] 9;refine fD (x:=bodyOf Tryz.f53) kk Tryz.func53 ?_;refine wkS [1,4] [(1,vL ze s0),(4,zy v)] (by kernel_rfl) ?_;refine sO oN [4] [(10,.ptr 20 0),(20,zy v)] ?_;obtain ⟨r0,a,h⟩:=h;refine sO (ca a oN) [1,10,20] [(13,vB (decide (r0≥0)))] ?_;refine tD ?_;subst h;exact (endQ []).1
theorem W_auto_places (l:(List Int)) (b:Int) (res:Bool)
 (h:(∃ (c:Int→Int→Prop) (e:Int→Int→Nat),c (-1) 0∧(∀ (last:Int) (a:Int),c last a→(ck (decide (a < (↑(List.length l):Int))) ((0≤a)∧a < ↑(List.length l)∧(ck (decide (gd l a≤last) || decide (gd l a≥b)) (res=false) (c (gd l a) (w64 (a+1))∧e (gd l a) (w64 (a+1)) < e last a))) (res=true))))):zcC l b res:=by
 unfold zcC;have kk:=cfOk [] 24;refine fD (x:=bodyOf Tryz.f55) kk Tryz.func55 ?_;refine wkS [1,4] [(1,vL zb l),(4,vi b)] (by kernel_rfl) ?_;refine sO oN [] [] ?_;refine sO oN [] [(16,vi (-1))] ?_;refine qD ?_;refine sV oN [1] (List.length (List.map zb l)) (List.length l) (fun q=>[(25,vL zb l),(28,vi ((↑(q):Int))),(31,vi 0)]) ?_;refine bD (id:=0) ?_;obtain ⟨c,e,f,g⟩:=h;refine loE [] (u2 fun last a=>[(16,vi last),(31,vi a)]) (u2 c) (u2 e) ((-1),0) [] f ?_;rintro ⟨last,a⟩ hi;have h:=g last a hi;refine sO oN [] [(34,vB (decide (a < (↑(List.length l):Int))))] ?_;refine qD ?_;refine cH 11 h (fun m h=>?_) (fun m h=>?_)
 ·refine kD ?_;show Sem _ _ _ _ _;refine wkD [34] ?_;refine qD ?_;refine bD (id:=1) ?_;obtain ⟨n,h⟩:=h;obtain ⟨o,h⟩:=h;refine sO (xo zb rfl n o oN) [] [(22,vi (gd l a))] ?_;refine qD ?_;refine sM [16] [(64,vB (decide (gd l a≤last) || decide (gd l a≥b)))] ?_ (fun j=>?_)
  ·refine cH 21 h (fun k h=>?_) (fun k h=>?_)
   ·refine sO oN [4,22,25,28,31,64] [(13,vB false)] ?_;refine tD ?_;subst h;exact (endQ []).1
   ·refine kD ?_;show Sem _ _ _ _ _;refine wkD [64] ?_;refine rO oN [22] [(16,vi (gd l a))] ?_;show Sem _ _ _ _ _;refine rO oN [] [(31,vi (w64 (a+1)))] ?_;exact lD ((gd l a),(w64 (a+1))) [] h
  ·rcases eft (decide (gd l a≤last)) with d | d
   ·refine sO (g1 d 2223 oN) [16] [(64,vB true)] ?_;exact Sem.cast (by try rw [d];kernel_rfl) j
   ·refine sO (g1 d 2223 oN) [16] [(64,vB (decide (gd l a≥b)))] ?_;exact Sem.cast (by try rw [d];kernel_rfl) j
 ·refine xD (i:=0) ?_;show Sem _ _ _ _ _;refine wkD [4,16,25,28,31,34] ?_;refine sO oN [] [(13,vB true)] ?_;refine tD ?_;subst h;exact (endQ []).1
theorem zbo (s0:(List Int)) (res:Int)
 (h:(∃ (a:Int→Prop) (b:Int→Nat),a 0∧(∀ (t8:Int),a t8→(ck (decide (t8 < (↑(List.length s0):Int))) ((0≤t8)∧t8 < ↑(List.length s0)∧(∃ c:Bool,zcS (gd s0 t8) c∧(ck (c) (res=t8) (a (w64 (t8+1))∧b (w64 (t8+1)) < b t8)))) (res=(-1)))))):zac s0 res:=by
 unfold zac;have kk:=cfOk [17] 19;refine fD (x:=bodyOf Tryz.f90) kk Tryz.func90 ?_;refine wkS [1,4] [(1,vL zb s0),(4,.clo 51 [])] (by kernel_rfl) ?_;refine sO oN [] [] ?_;refine qD ?_;refine sV oN [] (List.length (List.map zb s0)) (List.length s0) (fun q=>[(22,vi ((↑(q):Int))),(25,vi 0)]) ?_;refine bD (id:=0) ?_;obtain ⟨a,b,d,e⟩:=h;refine loE [] (fun t8=>[(25,vi t8)]) a b 0 [] d ?_;rintro t8 hi;have h:=e t8 hi;refine sO oN [] [(28,vB (decide (t8 < (↑(List.length s0):Int))))] ?_;refine qD ?_;refine cH 9 h (fun f h=>?_) (fun f h=>?_)
 ·refine kD ?_;show Sem _ _ _ _ _;refine wkD [28] ?_;refine qD ?_;refine bD (id:=1) ?_;refine sO oN [] [(16,vi t8)] ?_;obtain ⟨k,h⟩:=h;obtain ⟨l,h⟩:=h;obtain ⟨c,j,h⟩:=h;refine sO (xo zb rfl k l (ca j oN)) [] [(49,vB c)] ?_;refine cH 16 h (fun g h=>?_) (fun g h=>?_)
  ·refine sO oN [1,4,16,22,25,49] [(13,vi t8)] ?_;refine tD ?_;subst h;exact (endQ []).1
  ·refine kD ?_;show Sem _ _ _ _ _;refine wkD [16,49] ?_;refine rO oN [] [(25,vi (w64 (t8+1)))] ?_;exact lD (w64 (t8+1)) [] h
 ·refine xD (i:=0) ?_;show Sem _ _ _ _ _;refine wkD [1,4,22,25,28] ?_;refine sO oN [] [(13,vi (-1))] ?_;refine tD ?_;subst h;exact (endQ []).1
theorem zbf (s0:(List Int)) (res:Bool)
 (h:(∃ r0:Int,zac s0 r0∧(res=(decide (r0≥0))))):zO s0 res:=by
 unfold zO;have kk:=cfOk [] 9;refine fD (x:=bodyOf Tryz.f52) kk Tryz.func52 ?_;refine wkS [1,4] [(1,vL zb s0),(4,.clo 51 [])] (by kernel_rfl) ?_;refine sO oN [] [] ?_;obtain ⟨r0,a,h⟩:=h;refine sO (ca a oN) [1,4] [(13,vB (decide (r0≥0)))] ?_;refine tD ?_;subst h;exact (endQ []).1
theorem W_auto_Right (a:zi) (res:Bool)
 (h:(ck (decide ((↑(List.length a.Sets):Int) > 600) || ((↑(List.length (List.map zb a.Owner)):Int) != (↑(List.length a.Sets):Int) || ((↑(List.length (List.map zg a.Follow)):Int) != (↑(List.length a.Sets):Int) || ((↑(List.length (List.map zh a.Ends)):Int) != (↑(List.length a.Sets):Int) || decide ((↑(List.length a.Starts):Int) > 16))))) (res=false) (∃ r0:Bool,zO a.Owner r0∧(ck (r0) (res=false) (∃ m:Bool,zah a.Sets ({ e0:=0,e1:=0,e2:=0,e3:=0 }) m∧(ck (m) (res=false) (C_auto_lists a∧((List.length a.Follow < 1099511627776∧List.length a.Starts < 1099511627776)∧∃ (d:Nat→Prop) (f:Prop),d 0∧(∀ (i:Nat) (y:(List Int)),i < (List.length a.Follow+List.length a.Starts)→y=List.getD (a.Follow++a.Starts) i []→d i→(∃ l:Bool,zcC y ((↑(List.length a.Sets):Int)) l∧(ck (!l) f (d (i+1)))))∧(d ((List.length a.Follow+List.length a.Starts))→(res=true))∧(f→(res=false)))))))))):zcs a res:=by
 unfold zcs;have kk:=cfOk [] 55;refine fD (x:=bodyOf Tryz.f19) kk Tryz.func19 ?_;refine wkS [1] [(1,zU a)] (by kernel_rfl) ?_;refine sO oN [1] [(4,.ptr 8 0),(7,.ptr 14 0),(8,zU a),(14,vB false)] ?_;refine sV oN [] (List.length (List.map ze a.Sets)) (List.length a.Sets) (fun q=>[(10,.ptr 20 0),(20,vi ((↑(q):Int)))]) ?_;refine sO oN [] [(13,.clo 51 [])] ?_;refine qD ?_;refine sM [] [(112,vB (decide ((↑(List.length a.Sets):Int) > 600) || ((↑(List.length (List.map zb a.Owner)):Int) != (↑(List.length a.Sets):Int) || ((↑(List.length (List.map zg a.Follow)):Int) != (↑(List.length a.Sets):Int) || ((↑(List.length (List.map zh a.Ends)):Int) != (↑(List.length a.Sets):Int) || decide ((↑(List.length a.Starts):Int) > 16))))))] ?_ (fun r=>?_)
 ·refine cH 37 h (fun F h=>?_) (fun F h=>?_)
  ·refine sO oN [4,8,10,13,20,112] [] ?_;refine tD ?_;subst h;exact (endQ []).1
  ·refine kD ?_;show Sem _ _ _ _ _;refine wkD [112] ?_;refine qD ?_;obtain ⟨r0,E,h⟩:=h;rcases eft (r0) with n | n
   ·have h:=h.1 n;refine sO (ca E (g1 n 22223 oN)) [13] [(142,vB true)] ?_;refine cD (t:=47) (b:=true) (fun w=>?_) (fun w=>?_)
    ·refine sO oN [4,8,10,20,142] [] ?_;refine tD ?_;subst h;exact (endQ []).1
    ·cases w
   ·have h:=h.2 n;obtain ⟨m,J,h⟩:=h;refine sO (ca E (g1 n 2222 (ca J (g1 n 3 oN)))) [13] [(142,vB m)] ?_;refine cH 47 h (fun H h=>?_) (fun H h=>?_)
    ·refine sO oN [4,8,10,20,142] [] ?_;refine tD ?_;subst h;exact (endQ []).1
    ·refine kD ?_;show Sem _ _ _ _ _;refine wkD [142] ?_;refine qD ?_;obtain ⟨I,h⟩:=h;refine sO (ca I oN) [4,8] [(148,.clo 92 [.fp (zcK a) 0])] ?_;refine bD (id:=0) ?_;obtain ⟨A,d,f,v,s,u,p⟩:=h;refine Sem.rangeG (σ:=Unit) (c:=(cf [] 55)) (by rfl) (tg:=49) (ps:=[50]) (by kernel_rfl) (by kernel_rfl) (lists_it2 a A) (fun i _=>⟨rfl,fun y hy=>⟨1,by rw [List.mem_singleton.1 hy];rfl⟩⟩) [(7,.ptr 14 0),(10,.ptr 20 0)] [14,20] (fun (_:Unit)=>([vB false,vi ((↑(List.length a.Sets):Int))]:List AV)) (fun (i:Nat) (q:Unit)=>d i ) (fun (q:Unit)=>f ) () ((wkE (G':=[(7,.ptr 14 0),(10,.ptr 20 0),(14,vB false),(20,vi ((↑(List.length a.Sets):Int)))]) [] [7,10,14,20] (by kernel_rfl)).trans (Wk.pick [7,10,14,20] (by kernel_rfl))) v (by rfl) (fun q=>by rfl) (by rfl) (by decide) (fun q q'=>by rfl) (by decide) (by decide) ?_ ?_ ?_
     ·rintro i _ hi j;obtain ⟨y,hy⟩:∃ y:(List Int),y=List.getD (a.Follow++a.Starts) i []:=⟨_,rfl⟩;have h:=s i y hi hy j;refine Sem.weak (Wk.pick [3,6,7,10,151] (G':=[(3,vB false),(6,vi ((↑(List.length a.Sets):Int))),(7,.ptr 3 0),(10,.ptr 6 0),(151,vL zb y)]) (by rw [hy];kernel_rfl)) ?_;show Sem _ (cfr [] 55) (sq1 (sq1 (sq2 (sq1 (sq2 (sq2 (sq2 (sq2 (sq2 (bodyOf Tryz.f19)))))))))) _ _;have kr:=cfrOk [] 55;refine rO oN [151] [(16,vL zb y)] ?_;refine ⟨rfl,?_⟩;show Sem _ (cfr [] 55) (sq2 (sq1 (sq2 (sq1 (sq2 (sq2 (sq2 (sq2 (sq2 (bodyOf Tryz.f19)))))))))) _ _;refine bD (id:=1) ?_;obtain ⟨l,D,h⟩:=h;refine sO (ca D oN) [10,16] [(163,vB (!l))] ?_;refine cH 54 h (fun B h=>?_) (fun B h=>?_)
      ·refine sO oN [163] [] ?_;refine tD ?_;exact rndSr (wkE [] [3,6] (by rfl)) (by kernel_rfl) ⟨(),rfl,h⟩
      ·refine kD ?_;exact rndSn (wkE [] [3,6] (by rfl)) (by kernel_rfl) ⟨(),rfl,h⟩
     ·rintro _ j;have h:=u j;refine ⟨[(7,.ptr 14 0),(14,vB false)],Wk.pick [7,14] (by kernel_rfl),?_⟩;show Sem _ _ _ _ _;refine sO oN [] [(14,vB true)] ?_;refine tD ?_;subst h;exact (endQ []).1
     ·rintro _ j;have h:=p j;refine ⟨[(7,.ptr 14 0),(14,vB false)],Wk.pick [7,14] (by kernel_rfl),?_⟩;subst h;exact (endQ []).1
 ·rcases eft (decide ((↑(List.length a.Sets):Int) > 600)) with e | e
  ·refine sO (g1 e 22222388888788888788887 oN) [] [(112,vB true)] ?_;exact Sem.cast (by try rw [e];kernel_rfl) r
  ·rcases eft ((↑(List.length (List.map zb a.Owner)):Int) != (↑(List.length a.Sets):Int)) with g | g
   ·refine sO (g2 g e 55555622222388888788887 oN) [] [(112,vB true)] ?_;exact Sem.cast (by try rw [e];try rw [g];kernel_rfl) r
   ·rcases eft ((↑(List.length (List.map zg a.Follow)):Int) != (↑(List.length a.Sets):Int)) with k | k
    ·refine sO (g1 e 222223 (g2 k g 55555622222388887 oN)) [] [(112,vB true)] ?_;exact Sem.cast (by try rw [e];try rw [g];try rw [k];kernel_rfl) r
    ·rcases eft ((↑(List.length (List.map zh a.Ends)):Int) != (↑(List.length a.Sets):Int)) with o | o
     ·refine sO (g2 g e 555556222223 (g2 o k 55555622223 oN)) [] [(112,vB true)] ?_;exact Sem.cast (by try rw [e];try rw [g];try rw [k];try rw [o];kernel_rfl) r
     ·refine sV (g2 g e 555556222223 (g2 o k 55555622223 oN)) [] (List.length (List.map zg a.Starts)) (List.length a.Starts) (fun q=>[(112,vB (decide ((↑(q):Int) > 16)))]) ?_;exact Sem.cast (by try rw [e];try rw [g];try rw [k];try rw [o];kernel_rfl) r
end Go.Ev
namespace Go.Ev
open Go Go.Proofs
set_option maxRecDepth 8000
set_option maxHeartbeats 1000000
theorem W_auto_Read (a:zi) (b:(List Int)) (c0:Int) (res:(List Int)) (res_1:Int)
 (h:(∃ (m:Int→List (List Int)→Int→Prop) (p:Int→List (List Int)→Int→Nat),m (-1) ([]) 0∧(∀ (d:Int) (c:List (List Int)) (e:Int),m d c e→(ck (decide (e < (↑(List.length b):Int))) (∃ r:Int→List (List Int)→Prop,(∀ (g:Int) (f:List (List Int)),r g f→(m g f (w64 (e+1))∧p g f (w64 (e+1)) < p d c e))∧(0≤e)∧e < ↑(List.length b)∧(0≤gd b e)∧gd b e < ↑(List.length a.Sets)∧(∃ o:Bool,zeg (gd a.Sets (gd b e)) c0 o∧(ck (!o) (r d c) ((0≤gd b e)∧gd b e < ↑(List.length a.Follow)∧((List.length c+1) * 24≤2 ^ 47)∧(0≤gd b e)∧gd b e < ↑(List.length a.Ends)∧((gd a.Ends (gd b e))=true→((d == (-1:Int))=false→(0≤gd b e)))∧((gd a.Ends (gd b e))=true→((d == (-1:Int))=false→gd b e < ↑(List.length a.Owner)))∧(ck (gd a.Ends (gd b e) && (d == (-1:Int) || decide (gd a.Owner (gd b e) < d))) ((0≤gd b e)∧gd b e < ↑(List.length a.Owner)∧r (gd a.Owner (gd b e)) (c++[gd a.Follow (gd b e)])) (r d (c++[gd a.Follow (gd b e)]))))))) (∃ l:List Int,zS c l∧(∃ n:List Int,zY l ([]) n∧(res=n∧res_1=d))))))):zdM a b c0 res res_1:=by
 unfold zdM;have kk:=cfOk [60] 61;refine fD (x:=bodyOf Tryz.f57) kk Tryz.func57 ?_;refine wkS [1,4,7] [(1,zU a),(4,vL zb b),(7,vi c0)] (by kernel_rfl) ?_;refine sO oN [1] [(10,.ptr 20 0),(20,zU a)] ?_;refine sO oN [] [(22,vi (-1))] ?_;refine sO oN [] [(25,oL 40 zg ([]))] ?_;refine qD ?_;refine sV oN [4] (List.length (List.map zb b)) (List.length b) (fun q=>[(34,vL zb b),(37,vi ((↑(q):Int))),(40,vi 0)]) ?_;refine bD (id:=0) ?_;obtain ⟨m,p,s,t⟩:=h;refine loE [] (u3 fun d c e=>[(22,vi d),(25,oL 40 zg c),(40,vi e)]) (u3 m) (u3 p) ((-1),([]),0) [] s ?_;rintro ⟨d,c,e⟩ hi;have h:=t d c e hi;refine sO oN [] [(43,vB (decide (e < (↑(List.length b):Int))))] ?_;refine qD ?_;refine cH 14 h (fun J h=>?_) (fun J h=>?_)
 ·refine kD ?_;show Sem _ _ _ _ _;refine wkD [43] ?_;obtain ⟨r,N,h⟩:=h;refine sjE (u2 r) [] (u2 fun g f=>[(22,vi g),(25,oL 40 zg f)]) ?_ ?_
  ·rintro ⟨g,f⟩ hj;have h:=N g f hj;refine rO oN [] [(40,vi (w64 (e+1)))] ?_;exact lD (g,f,(w64 (e+1))) [] h
  ·refine bD (id:=1) ?_;obtain ⟨O,h⟩:=h;obtain ⟨R,h⟩:=h;refine sO (xo zb rfl O R oN) [] [(31,vi (gd b e))] ?_;refine qD ?_;obtain ⟨V,h⟩:=h;obtain ⟨Q,h⟩:=h;obtain ⟨o,D,h⟩:=h;refine sO (xo ze (za8 _) V Q (ca D oN)) [] [(73,vB (!o))] ?_;refine cH 24 h (fun H h=>?_) (fun H h=>?_)
   ·refine xD (i:=1) ?_;exact jD (d,c) [] h
   ·refine kD ?_;show Sem _ _ _ _ _;refine wkD [73] ?_;obtain ⟨W,h⟩:=h;obtain ⟨U,h⟩:=h;obtain ⟨S,h⟩:=h;refine sOE (xo zg rfl W U (apo zg c S oN)) [] [(25,.own 40 (List.map zg c++[FV.sl (List.map zb (gd a.Follow (gd b e)))]))] [(25,oL 40 zg (c++[gd a.Follow (gd b e)]))] ?_;obtain ⟨u,h⟩:=h;obtain ⟨A,h⟩:=h;obtain ⟨E,F,h⟩:=h;refine sM [] [(151,vB (gd a.Ends (gd b e) && (d == (-1:Int) || decide (gd a.Owner (gd b e) < d))))] ?_ (fun v=>?_)
    ·refine cH 50 h (fun B h=>?_) (fun B h=>?_)
     ·obtain ⟨I,h⟩:=h;obtain ⟨M,h⟩:=h;refine rO (xo zb rfl I M oN) [31,151] [(22,vi (gd a.Owner (gd b e)))] ?_;exact jD ((gd a.Owner (gd b e)),(c++[gd a.Follow (gd b e)])) [] h
     ·refine kD ?_;exact jD (d,(c++[gd a.Follow (gd b e)])) [] h
    ·rcases eft (gd a.Ends (gd b e)) with k | k
     ·rcases eft (d == (-1:Int)) with j | j
      ·refine sO (xo zh rfl u A (g2 k j 1115555555163 oN)) [] [(151,vB true)] ?_;exact Sem.cast (by try rw [k];try rw [j];kernel_rfl) v
      ·refine sO (xo zh rfl u A (g2 j k 4442222 (xo zb rfl ((E k) j) ((F k) j) (g2 k j 555163 oN)))) [] [(151,vB (decide (gd a.Owner (gd b e) < d)))] ?_;exact Sem.cast (by try rw [k];try rw [j];kernel_rfl) v
     ·refine sO (xo zh rfl u A (g1 k 11113 oN)) [] [(151,vB false)] ?_;exact Sem.cast (by try rw [k];kernel_rfl) v
 ·refine xD (i:=0) ?_;show Sem _ _ _ _ _;refine wkD [7,10,20,34,37,40,43] ?_;obtain ⟨l,w,h⟩:=h;obtain ⟨n,y,h⟩:=h;refine sO (ca (Eq.mp (by unfold zS;(try simp only [List.drop_zero,List.take_length]);first | done | simp only [nm,enq]:zS c l=CallE Tryz.prog 94 [.f (FV.sl (List.take (List.length (List.map zg c)) (List.drop 0 (List.map zg c))))] [] (oL 3 zb l) []) w) (ca (Eq.mp (by unfold zY;(try simp only [List.drop_zero,List.take_length]);first | done | simp only [nm,enq]:zY l ([]) n=CallE Tryz.prog 82 [.f (FV.sl (List.take (List.length (List.map zb l)) (List.drop 0 (List.map zb l)))),.f (FV.sl [])] [] (vL zb n) []) y) oN)) [25] [(19,vL zb n)] ?_;refine tD ?_;obtain ⟨Y,X⟩:=h;subst res res_1;exact (endQ []).1
theorem W_auto_Run_L1 (p:Int) (v:zi) (res:Bool) (fin:zi)
 (h:(res=(decide (p < 0) || decide (p≥(↑(List.length v.Sets):Int)))∧fin=v)):zdL p v res fin:=by
 unfold zdL;have kk:=cfOk [] 13;refine fD (x:=bodyOf Tryz.f56) kk Tryz.func56 ?_;refine wkS [1,3,4] [(1,vi p),(3,zU v),(4,.ptr 3 0)] (by kernel_rfl) ?_;refine sO oN [] [] ?_;refine sM [1,4] [(10,vB (decide (p < 0) || decide (p≥(↑(List.length v.Sets):Int))))] ?_ (fun b=>?_)
 ·refine tD ?_;obtain ⟨c,d⟩:=h;subst res fin;exact (endQ []).1
 ·rcases eft (decide (p < 0)) with a | a
  ·refine sO (g1 a 222223 oN) [1,4] [(10,vB true)] ?_;exact Sem.cast (by try rw [a];kernel_rfl) b
  ·refine sV (g1 a 222223 oN) [1,4] (List.length (List.map ze v.Sets)) (List.length v.Sets) (fun q=>[(10,vB (decide (p≥(↑(q):Int))))]) ?_;exact Sem.cast (by try rw [a];kernel_rfl) b
theorem zbw (s0:(List Int)) (cap:zi) (res:Int) (fin:zi)
 (h:(∃ (g:List za→List Int→List (List Int)→List Bool→List (List Int)→Int→Prop) (k:List za→List Int→List (List Int)→List Bool→List (List Int)→Int→Nat),g cap.Sets cap.Owner cap.Follow cap.Ends cap.Starts 0∧(∀ (d:List za) (c:List Int) (a:List (List Int)) (e:List Bool) (b:List (List Int)) (t8:Int),g d c a e b t8→(ck (decide (t8 < (↑(List.length s0):Int))) ((0≤t8)∧t8 < ↑(List.length s0)∧(∃ j:Bool,∃ f:zi,zdL (gd s0 t8) ({ Sets:=d,Owner:=c,Follow:=a,Ends:=e,Starts:=b }) j f∧(ck (j) (res=t8∧fin=f) (g f.Sets f.Owner f.Follow f.Ends f.Starts (w64 (t8+1))∧k f.Sets f.Owner f.Follow f.Ends f.Starts (w64 (t8+1)) < k d c a e b t8)))) (res=(-1)∧fin=({ Sets:=d,Owner:=c,Follow:=a,Ends:=e,Starts:=b })))))):zaf s0 cap res fin:=by
 unfold zaf;have kk:=cfOk [17] 19;refine fD (x:=bodyOf Tryz.f90) kk Tryz.func90 ?_;refine wkS [1,3,4] [(1,vL zb s0),(3,zU cap),(4,.clo 56 [.ptr 3 0])] (by kernel_rfl) ?_;refine sO oN [] [] ?_;refine qD ?_;refine sV oN [] (List.length (List.map zb s0)) (List.length s0) (fun q=>[(22,vi ((↑(q):Int))),(25,vi 0)]) ?_;refine bD (id:=0) ?_;obtain ⟨g,k,l,m⟩:=h;refine loE [] (u6 fun d c a e b t8=>[(3,.agg [vL ze d,vL zb c,vL zg a,vL zh e,vL zg b]),(25,vi t8)]) (u6 g) (u6 k) (cap.Sets,cap.Owner,cap.Follow,cap.Ends,cap.Starts,0) [] l ?_;rintro ⟨d,c,a,e,b,t8⟩ hi;have h:=m d c a e b t8 hi;refine sO oN [] [(28,vB (decide (t8 < (↑(List.length s0):Int))))] ?_;refine qD ?_;refine cH 9 h (fun o h=>?_) (fun o h=>?_)
 ·refine kD ?_;show Sem _ _ _ _ _;refine wkD [28] ?_;refine qD ?_;refine bD (id:=1) ?_;refine sO oN [] [(16,vi t8)] ?_;obtain ⟨s,h⟩:=h;obtain ⟨t,h⟩:=h;obtain ⟨j,f,p,h⟩:=h;refine sO (xo zb rfl s t (ca p oN)) [] [(3,zU f),(49,vB j)] ?_;refine cH 16 h (fun n h=>?_) (fun n h=>?_)
  ·refine sO oN [1,4,16,22,25,49] [(13,vi t8)] ?_;refine tD ?_;obtain ⟨u,r⟩:=h;subst res fin;exact (endQ []).1
  ·refine kD ?_;show Sem _ _ _ _ _;refine wkD [16,49] ?_;refine rO oN [] [(25,vi (w64 (t8+1)))] ?_;exact lD (f.Sets,f.Owner,f.Follow,f.Ends,f.Starts,(w64 (t8+1))) [] h
 ·refine xD (i:=0) ?_;show Sem _ _ _ _ _;refine wkD [1,4,22,25,28] ?_;refine sO oN [] [(13,vi (-1))] ?_;refine tD ?_;obtain ⟨u,r⟩:=h;subst res fin;exact (endQ []).1
theorem zbk (s0:(List Int)) (cap:zi) (res:Bool) (fin:zi)
 (h:(∃ r0:Int,∃ o:zi,zaf s0 cap r0 o∧(res=(decide (r0≥0))∧fin=o))):zR s0 cap res fin:=by
 unfold zR;have kk:=cfOk [] 9;refine fD (x:=bodyOf Tryz.f52) kk Tryz.func52 ?_;refine wkS [1,3,4] [(1,vL zb s0),(3,zU cap),(4,.clo 56 [.ptr 3 0])] (by kernel_rfl) ?_;refine sO oN [] [] ?_;obtain ⟨r0,o,a,h⟩:=h;refine sO (ca a oN) [1,4] [(3,zU o),(13,vB (decide (r0≥0)))] ?_;refine tD ?_;obtain ⟨b,c⟩:=h;subst res fin;exact (endQ []).1
theorem W_auto_Run (a:zi) (p:(List Int)) (w0:ByteArray) (res:Int) (res_1:Int)
 (h:(∃ r0:Bool,zcs a r0∧(ck (!r0) (res=(-1)∧res_1=0) (∃ s:Bool,∃ o:zi,zR p a s o∧(ck (s) (res=(-1)∧res_1=0) (∃ w:Int→Int→Prop,(∀ (l:Int) (n:Int),w l n→(res=l∧res_1=n))∧(∃ (r:List Int→Int→Int→Int→Prop) (u:List Int→Int→Int→Int→Nat),r p (-1) 0 0∧(∀ (j:List Int) (e:Int) (g:Int) (c:Int),r j e g c→(ck (decide (c < (↑(ByteArray.size w0):Int))) ((0≤c)∧c < ↑(ByteArray.size w0)∧(∃ k:List Int,∃ m:Int,zdM o j (w64 (↑(UInt8.toNat (byteAt w0 c)):Int)) k m∧(∃ y:Int→Int→Prop,(∀ (d:Int) (f:Int),y d f→(ck ((↑(List.length k):Int) == 0) (w d f) (r k d f (w64 (c+1))∧u k d f (w64 (c+1)) < u j e g c)))∧(ck (m != (-1:Int)) (y m (w64 (c+1))) (y e g))))) (w e g)))))))))):zex a p w0 res res_1:=by
 unfold zex;have kk:=cfOk [21,39,47,48] 49;refine fD (x:=bodyOf Tryz.f20) kk Tryz.func20 ?_;refine wkS [1,4,7] [(1,zU a),(4,vL zb p),(7,vS w0)] (by kernel_rfl) ?_;refine sO oN [1] [(10,.ptr 20 0),(20,zU a),(22,vi 0)] ?_;refine sO oN [] [(19,vi (-1))] ?_;refine sO oN [] [(25,.clo 56 [.ptr 20 0])] ?_;refine qD ?_;obtain ⟨r0,J,h⟩:=h;rcases eft (!r0) with v | v
 ·have h:=h.1 v;refine sO (ca J (g1 v 2223 oN)) [25] [(61,vB true)] ?_;refine cD (t:=20) (b:=true) (fun D=>?_) (fun D=>?_)
  ·refine sO oN [4,7,10,20,61] [] ?_;refine tD ?_;obtain ⟨Q,M⟩:=h;subst res res_1;exact (endQ []).1
  ·cases D
 ·have h:=h.2 v;obtain ⟨s,o,V,h⟩:=h;refine sO (ca J (g1 v 222 (ca V (g1 v 3 oN)))) [25] [(20,zU o),(61,vB s)] ?_;refine cH 20 h (fun U h=>?_) (fun U h=>?_)
  ·refine sO oN [4,7,10,20,61] [] ?_;refine tD ?_;obtain ⟨Q,M⟩:=h;subst res res_1;exact (endQ []).1
  ·refine kD ?_;show Sem _ _ _ _ _;refine wkD [61] ?_;obtain ⟨w,O,h⟩:=h;refine sjD (u2 w) (u2 fun l n=>[(19,vi l),(22,vi n)]) ?_ ?_
   ·rintro ⟨l,n⟩ hj;have h:=O l n hj;refine sO oN [] [] ?_;refine tD ?_;obtain ⟨Q,M⟩:=h;subst res res_1;exact (endQ []).1
   ·refine sO oN [] [(70,vi ((↑(ByteArray.size w0):Int))),(73,vi 0)] ?_;refine bD (id:=0) ?_;obtain ⟨r,u,A,B⟩:=h;refine loE [] (u4 fun j e g c=>[(4,vL zb j),(19,vi e),(22,vi g),(73,vi c)]) (u4 r) (u4 u) (p,(-1),0,0) [] A ?_;rintro ⟨j,e,g,c⟩ hi;have h:=B j e g c hi;refine sO oN [] [(76,vB (decide (c < (↑(ByteArray.size w0):Int))))] ?_;refine qD ?_;refine cH 25 h (fun R h=>?_) (fun R h=>?_)
    ·refine kD ?_;show Sem _ _ _ _ _;refine wkD [76] ?_;refine qD ?_;refine bD (id:=1) ?_;refine sO oN [] [(28,vi c)] ?_;obtain ⟨F,h⟩:=h;obtain ⟨S,h⟩:=h;obtain ⟨k,m,H,h⟩:=h;refine sO (nd F (op (.y (byteAt w0 c)) (zab w0 c F S) (ca H oN))) [4] [(31,vL zb k),(34,vi m)] ?_;obtain ⟨y,E,h⟩:=h;refine sjE (u2 y) [28,34] (u2 fun d f=>[(19,vi d),(22,vi f)]) ?_ ?_
     ·rintro ⟨d,f⟩ hj;have h:=E d f hj;refine sO oN [31] [(4,vL zb k)] ?_;refine sV oN [] (List.length (List.map zb k)) (List.length k) (fun q=>[(136,vB ((↑(q):Int) == 0))]) ?_;refine cH 45 h (fun N h=>?_) (fun N h=>?_)
      ·refine xD (i:=0) ?_;exact jD (d,f) [] h
      ·refine kD ?_;show Sem _ _ _ _ _;refine wkD [136] ?_;refine rO oN [] [(73,vi (w64 (c+1)))] ?_;exact lD (k,d,f,(w64 (c+1))) [] h
     ·refine sO oN [] [(115,vB (m != (-1:Int)))] ?_;refine cH 38 h (fun I h=>?_) (fun I h=>?_)
      ·refine rO oN [28,34,115] [(19,vi m),(22,vi (w64 (c+1)))] ?_;exact jD (m,(w64 (c+1))) [] h
      ·refine kD ?_;exact jD (e,g) [] h
    ·refine xD (i:=0) ?_;exact jD (e,g) [] h
end Go.Ev
namespace Go.Ev
open Go Go.Proofs
set_option maxRecDepth 8000
set_option maxHeartbeats 1000000
theorem zdP (l:(List Int)) (t:(List Int)) (c:Int) (cond:Int) (res:Bool)
 (h:(∃ r0:Bool,zcR r0∧(ck (!r0) (res=false) (∃ b:zx,zbD l false b∧(∃ a:ByteArray,zbE t a∧(∃ d:zi,∃ f:Int,zbL b d f∧(ck (f != 0 || (↑(List.length d.Starts):Int) != w64 (2 * (↑(List.length b.Conds):Int))) (res=false) ((w64 ((↑(ByteArray.size a):Int)+1)≠0)∧((↑(List.length b.Conds):Int)≠0)∧(∃ r:Int→Prop,(∀ (p:Int),r p→(0≤w64 (w64 (2 * Int.tmod (w64 cond) (↑(List.length b.Conds):Int))+p))∧w64 (w64 (2 * Int.tmod (w64 cond) (↑(List.length b.Conds):Int))+p) < ↑(List.length d.Starts)∧(0≤Int.tmod (w64 c) (w64 ((↑(ByteArray.size a):Int)+1))∧Int.toNat (Int.tmod (w64 c) (w64 ((↑(ByteArray.size a):Int)+1)))≤ByteArray.size a)∧(∃ m:Int,∃ j:Int,zex d (gd d.Starts (w64 (w64 (2 * Int.tmod (w64 cond) (↑(List.length b.Conds):Int))+p))) (ByteArray.extract a (Int.toNat (Int.tmod (w64 c) (w64 ((↑(ByteArray.size a):Int)+1)))) (ByteArray.size a)) m j∧(∃ i:Int,∃ k:Int,zbB b a (Int.tmod (w64 c) (w64 ((↑(ByteArray.size a):Int)+1))) (Int.tmod (w64 cond) (↑(List.length b.Conds):Int)) i k∧(res=(r0 && (m == i && j == k))))))∧((Int.tmod (w64 c) (w64 ((↑(ByteArray.size a):Int)+1)) == 0)=false→(0≤w64 (Int.tmod (w64 c) (w64 ((↑(ByteArray.size a):Int)+1)) - 1)))∧((Int.tmod (w64 c) (w64 ((↑(ByteArray.size a):Int)+1)) == 0)=false→w64 (Int.tmod (w64 c) (w64 ((↑(ByteArray.size a):Int)+1)) - 1) < ↑(ByteArray.size a))∧(ck (Int.tmod (w64 c) (w64 ((↑(ByteArray.size a):Int)+1)) == 0 || (↑(UInt8.toNat (byteAt a (w64 (Int.tmod (w64 c) (w64 ((↑(ByteArray.size a):Int)+1)) - 1)))):Int) == 10) (r 1) (r 0))))))))))):zbx l t c cond res:=by
 unfold zbx;have kk:=cfOk [] 101;refine fD (x:=bodyOf Tryz.f8) kk Tryz.func8 ?_;refine wkS [1,4,7,10] [(1,vL zae l),(4,vL zae t),(7,vI .u8 c),(10,vI .u8 cond)] (by kernel_rfl) ?_;refine sO oN [] [] ?_;obtain ⟨r0,B,h⟩:=h;refine sO (ca B oN) [] [(28,vB r0)] ?_;refine qD ?_;refine sO oN [] [(70,vB (!r0))] ?_;refine cH 23 h (fun J h=>?_) (fun J h=>?_)
 ·refine sO oN [1,4,7,10,28,70] [(25,vB false)] ?_;refine tD ?_;subst h;exact (endQ []).1
 ·refine kD ?_;show Sem _ _ _ _ _;refine wkD [70] ?_;obtain ⟨b,N,h⟩:=h;obtain ⟨a,D,h⟩:=h;refine sO (ca N (ca D oN)) [1,4] [(31,.ptr 62 0),(34,vS a),(62,.agg [vL zm b.Conds,vB b.Default,oL 60 zt b.Rules])] ?_;obtain ⟨d,f,M,h⟩:=h;refine sO (ca (Eq.mp (by unfold zbL;(try simp only [List.drop_zero,List.take_length]);first | done | simp only [nm,enq]:zbL b d f=CallE Tryz.prog 15 [.agg [vL zm b.Conds,vB b.Default,.f (FV.sl (List.take (List.length (List.map zt b.Rules)) (List.drop 0 (List.map zt b.Rules))))]] [] (.tup [zU d,vi f]) []) M) oN) [] [(37,.ptr 74 0),(40,vi f),(62,zQ b),(74,zU d)] ?_;refine qD ?_;refine sM [40] [(133,vB (f != 0 || (↑(List.length d.Starts):Int) != w64 (2 * (↑(List.length b.Conds):Int))))] ?_ (fun n=>?_)
  ·refine cH 44 h (fun O h=>?_) (fun O h=>?_)
   ·refine sO oN [7,10,28,31,34,37,62,74,133] [(25,vB false)] ?_;refine tD ?_;subst h;exact (endQ []).1
   ·refine kD ?_;show Sem _ _ _ _ _;refine wkD [133] ?_;obtain ⟨h7,h⟩:=h;obtain ⟨h8,h⟩:=h;refine sV (nd h7 (nd (show (↑(List.length (List.map zm b.Conds)):Int)≠(0:Int) from by simpa only [nm] using h8) oN)) [7,10] (List.length (List.map zm b.Conds)) (List.length b.Conds) (fun q=>[(43,vi (Int.tmod (w64 c) (w64 ((↑(ByteArray.size a):Int)+1)))),(46,vi (Int.tmod (w64 cond) (↑(q):Int)))]) ?_;refine sO oN [] [(49,vi 0)] ?_;obtain ⟨r,y,h⟩:=h;refine sjE r [] (fun p=>[(49,vi p)]) ?_ ?_
    ·rintro p hj;have h:=y p hj;obtain ⟨F,h⟩:=h;obtain ⟨H,h⟩:=h;obtain ⟨E,h⟩:=h;obtain ⟨m,j,A,h⟩:=h;refine sO (xo zg rfl F H (nd (show (0:Int)≤Int.tmod (w64 c) (w64 ((↑(ByteArray.size a):Int)+1))∧True∧Int.toNat (Int.tmod (w64 c) (w64 ((↑(ByteArray.size a):Int)+1)))≤ByteArray.size a∧ByteArray.size a≤ByteArray.size a from by simpa only [nm] using E) (ca A oN))) [37,49,74] [(52,vi m),(55,vi j)] ?_;obtain ⟨i,k,v,h⟩:=h;refine sO (ca v oN) [31,34,43,46,62] [(58,vi i),(61,vi k)] ?_;refine sM [28,52,55,58,61] [(25,vB (r0 && (m == i && j == k)))] ?_ (fun n=>?_)
     ·refine tD ?_;subst h;exact (endQ []).1
     ·rcases eft (r0) with g | g
      ·rcases eft (m == i) with o | o
       ·refine sO (g2 o g 44461113 oN) [28,52,55,58,61] [(25,vB (j == k))] ?_;exact Sem.cast (by try rw [g];try rw [o];kernel_rfl) n
       ·refine sO (g2 o g 44461113 oN) [28,52,55,58,61] [(25,vB false)] ?_;exact Sem.cast (by try rw [g];try rw [o];kernel_rfl) n
      ·refine sO (g1 g 11138888 oN) [28,52,55,58,61] [(25,vB false)] ?_;exact Sem.cast (by try rw [g];kernel_rfl) n
    ·obtain ⟨u,I,h⟩:=h;refine sM [] [(196,vB (Int.tmod (w64 c) (w64 ((↑(ByteArray.size a):Int)+1)) == 0 || (↑(UInt8.toNat (byteAt a (w64 (Int.tmod (w64 c) (w64 ((↑(ByteArray.size a):Int)+1)) - 1)))):Int) == 10))] ?_ (fun n=>?_)
     ·refine cH 65 h (fun w h=>?_) (fun w h=>?_)
      ·refine rO oN [196] [(49,vi 1)] ?_;exact jD 1 [] h
      ·refine kD ?_;exact jD 0 [] h
     ·rcases eft (Int.tmod (w64 c) (w64 ((↑(ByteArray.size a):Int)+1)) == 0) with e | e
      ·refine sO (g1 e 222223 oN) [] [(196,vB true)] ?_;exact Sem.cast (by try rw [e];kernel_rfl) n
      ·refine sO (g1 e 2222 (nd (u e) (op (.y (byteAt a (w64 (Int.tmod (w64 c) (w64 ((↑(ByteArray.size a):Int)+1)) - 1)))) (zab a (w64 (Int.tmod (w64 c) (w64 ((↑(ByteArray.size a):Int)+1)) - 1)) (u e) (I e)) (g1 e 23 oN)))) [] [(196,vB ((↑(UInt8.toNat (byteAt a (w64 (Int.tmod (w64 c) (w64 ((↑(ByteArray.size a):Int)+1)) - 1)))):Int) == 10))] ?_;exact Sem.cast (by try rw [e];kernel_rfl) n
  ·rcases eft (f != 0) with s | s
   ·refine sO (g1 s 222222223 oN) [40] [(133,vB true)] ?_;exact Sem.cast (by try rw [s];kernel_rfl) n
   ·refine sOE (g1 s 222222223 oN) [40] [(133,vB ((↑(List.length (List.map zg d.Starts)):Int) != w64 (2 * (↑(List.length (List.map zm b.Conds)):Int))))] [(133,vB ((↑(List.length d.Starts):Int) != w64 (2 * (↑(List.length b.Conds):Int))))] ?_;exact Sem.cast (by try rw [s];kernel_rfl) n
end Go.Ev
namespace Go.Ev
open Go Go.Proofs
def orBit (w:Int) (i:Int):Int:=IntKind.u64.wrap (BitVec.ofInt IntKind.u64.bits w ||| BitVec.ofInt IntKind.u64.bits (IntKind.u64.wrap (1 * 2 ^ min i.toNat IntKind.u64.bits))).toNat
def setAdd (s:za) (i:Int):za:=
 if i < 64 then { s with e0:=orBit s.e0 i } else if i < 128 then { s with e1:=orBit s.e1 (i - 64) } else if i < 192 then { s with e2:=orBit s.e2 (i - 128) } else { s with e3:=orBit s.e3 (i - 192) }
theorem w64_id0 {n:Int} (h0:-2 ^ 63≤n) (h1:n < 2 ^ 63):w64 n=n:=wrap64 (by omega) (by omega)
theorem quot64 (i:Int) (h0:0≤i) (h1:i < 256):w64 (Int.tdiv i 64)=i / 64∧i.tmod 64=i - 64 * (i / 64)∧0≤i.tmod 64:=by
 rw [Int.tdiv_eq_ediv_of_nonneg h0,Int.tmod_eq_emod_of_nonneg h0]
 exact ⟨w64_id0 (by omega) (by omega),by omega,by omega⟩
theorem add_ok (s:za) (i:Int) (h0:0≤i) (h1:i < 256):zbl s i (setAdd s i):=by
 obtain ⟨q,m,hm⟩:=quot64 i h0 h1
 refine zgg s i _ ?_
 rw [q,m]
 refine ⟨by omega,fun h=>⟨fun _=>by omega,?_⟩,fun h=>⟨fun _=>by omega,?_⟩,fun h=>⟨fun _=>by omega,?_⟩,fun h=>⟨fun _=>by omega,?_⟩⟩
 all_goals
  have h:=of_decide_eq_true h
  rw [h]
 ·simp [setAdd,show i < 64 by omega,orBit]
 ·simp [setAdd,show ¬ i < 64 by omega,show i < 128 by omega,orBit]
 ·simp [setAdd,show ¬ i < 64 by omega,show ¬ i < 128 by omega,show i < 192 by omega,orBit]
 ·simp [setAdd,show ¬ i < 64 by omega,show ¬ i < 128 by omega,show ¬ i < 192 by omega,orBit]
def bitOf (w:Int) (i:Int):Bool:=IntKind.u64.wrap (BitVec.ofInt IntKind.u64.bits (w.fdiv (2 ^ min i.toNat IntKind.u64.bits)) &&& BitVec.ofInt IntKind.u64.bits 1).toNat == 1
def setHas (s:za) (i:Int):Bool:=
 if i < 0 then false else if i < 64 then bitOf s.e0 i else if i < 128 then bitOf s.e1 (i - 64) else if i < 192 then bitOf s.e2 (i - 128) else if i < 256 then bitOf s.e3 (i - 192) else false
theorem has_ok (s:za) (i:Int):zbm s i (setHas s i):=by
 refine zgi s i _ ⟨fun g=>⟨fun g1=>?_,fun g1=>?_⟩,fun g=>?_⟩
 ·have g:=of_decide_eq_true g
  have g1:=of_decide_eq_true g1
  obtain ⟨q,m,hm⟩:=quot64 i g g1
  rw [q,m]
  refine ⟨by omega,fun h=>⟨fun _ _ _=>by omega,?_⟩,fun h=>⟨fun _ _ _=>by omega,?_⟩,fun h=>⟨fun _ _ _=>by omega,?_⟩,fun h=>⟨fun _ _ _=>by omega,?_⟩⟩
  all_goals
   have h:=of_decide_eq_true h
   rw [h]
  ·simp [setHas,show ¬ i < 0 by omega,show i < 64 by omega,bitOf]
  ·simp [setHas,show ¬ i < 0 by omega,show ¬ i < 64 by omega,show i < 128 by omega,bitOf]
  ·simp [setHas,show ¬ i < 0 by omega,show ¬ i < 64 by omega,show ¬ i < 128 by omega,show i < 192 by omega,bitOf]
  ·simp [setHas,show ¬ i < 0 by omega,show ¬ i < 64 by omega,show ¬ i < 128 by omega,show ¬ i < 192 by omega,show i < 256 by omega,bitOf]
 ·have g:=of_decide_eq_true g
  have g1:=of_decide_eq_false g1
  simp [setHas,show ¬ i < 0 by omega,show ¬ i < 64 by omega,show ¬ i < 128 by omega,show ¬ i < 192 by omega,show ¬ i < 256 by omega]
 ·have g:=of_decide_eq_false g
  simp [setHas,show i < 0 by omega]
end Go.Ev
namespace Go.Ev
open Go Go.Proofs
theorem zG {x:Int} (h0:-9223372036854775808≤x) (h1:x≤9223372036854775807):w64 x=x:=wrap64 h0 (by omega)
def setTo (p:Int→Bool):Nat→za
 | 0=>⟨0,0,0,0⟩
 | n+1=>if p n then setAdd (setTo p n) n else setTo p n
def mkSet (p:Int→Bool):za:=setTo p 256
theorem zgS (lo hi:Int):zaT lo hi (mkSet fun i=>decide (i≥lo) && decide (i≤hi)):=by
 refine zgP _ _ _ ⟨fun e0 e1 e2 e3 b=>∃ n:Nat,n≤256∧b=n∧za.mk e0 e1 e2 e3=setTo (fun i=>decide (i≥lo) && decide (i≤hi)) n,fun _ _ _ _ b=>(256 - b).toNat,⟨0,by omega,rfl,rfl⟩,?_⟩
 rintro e0 e1 e2 e3 b ⟨n,hn,rfl,hs⟩
 refine ⟨fun hb=>?_,fun hb=>?_⟩
 ·have hb:n < 256:=by have:=of_decide_eq_true hb;omega
  have hw:w64 ((n:Int)+1)=((n+1:Nat):Int):=zG (by omega) (by omega)
  refine ⟨fun a b c d=>za.mk a b c d=setTo (fun i=>decide (i≥lo) && decide (i≤hi)) (n+1),fun a b c d h=>⟨⟨n+1,by omega,hw,h⟩,by rw [hw];show (256 - _:Int).toNat < (256 - _:Int).toNat;omega⟩,fun ht=>⟨_,add_ok _ _ (by omega) (by omega),?_⟩,fun ht=>?_⟩
  ·simp only [setTo,ht,if_true,hs]
  ·simp only [setTo,ht,hs];rfl
 ·have hb:n=256:=by have:=of_decide_eq_false hb;omega
  subst hb
  exact hs.symm
theorem setNot_ok (s:za):zbR s (mkSet fun i=>!setHas s i):=by
 refine zgh _ _ ⟨fun e0 e1 e2 e3 b=>∃ n:Nat,n≤256∧b=n∧za.mk e0 e1 e2 e3=setTo (fun i=>!setHas s i) n,fun _ _ _ _ b=>(256 - b).toNat,⟨0,by omega,rfl,rfl⟩,?_⟩
 rintro e0 e1 e2 e3 b ⟨n,hn,rfl,hs⟩
 refine ⟨fun hb=>?_,fun hb=>?_⟩
 ·have hb:n < 256:=by have:=of_decide_eq_true hb;omega
  have hw:w64 ((n:Int)+1)=((n+1:Nat):Int):=zG (by omega) (by omega)
  refine ⟨fun a b c d=>za.mk a b c d=setTo (fun i=>!setHas s i) (n+1),fun a b c d h=>⟨⟨n+1,by omega,hw,h⟩,by rw [hw];show (256 - _:Int).toNat < (256 - _:Int).toNat;omega⟩,_,has_ok _ _,fun ht=>⟨_,add_ok _ _ (by omega) (by omega),?_⟩,fun ht=>?_⟩
  ·simp only [setTo,ht,if_true,hs]
  ·simp only [setTo,ht,hs];rfl
 ·have hb:n=256:=by have:=of_decide_eq_false hb;omega
  subst hb
  exact hs.symm
theorem char3_ok (b:Int):zaQ b ⟨2,mkSet fun i=>decide (i≥b) && decide (i≤b),0,0,[]⟩:=by
 exact zfS _ _ ⟨_,zgS _ _,rfl⟩
end Go.Ev
namespace Go.Ev.Pl
open Go Go.Ev
abbrev SS (l:List Int):Prop:=l.Pairwise (· < ·)
theorem zic:∀ {a b:List Int},SS a→SS b→(∀ x,x∈a↔x∈b)→a=b
 | [],[],_,_,_=>rfl
 | [],y :: b,_,_,h=>by have:=(h y).2 (List.mem_cons_self ..);simp at this
 | x :: a,[],_,_,h=>by have:=(h x).1 (List.mem_cons_self ..);simp at this
 | x :: a,y :: b,ha,hb,h=>by
   have ha:=List.pairwise_cons.1 ha
   have hb:=List.pairwise_cons.1 hb
   have hxy:x=y:=by
    rcases List.mem_cons.1 ((h x).1 (List.mem_cons_self ..)) with e | e
    ·exact e
    ·rcases List.mem_cons.1 ((h y).2 (List.mem_cons_self ..)) with e' | e'
     ·exact e'.symm
     ·have:=hb.1 x e;have:=ha.1 y e';omega
   subst hxy
   rw [zic ha.2 hb.2]
   intro z
   constructor
   ·intro hz
    rcases List.mem_cons.1 ((h z).1 (List.mem_cons_of_mem _ hz)) with e | e
    ·subst e;have:=ha.1 z hz;omega
    ·exact e
   ·intro hz
    rcases List.mem_cons.1 ((h z).2 (List.mem_cons_of_mem _ hz)) with e | e
    ·subst e;have:=hb.1 z hz;omega
    ·exact e
def join (a b:List Int):List Int:=compactInts (sortInts (a++b))
theorem upTo_spec (zs:List Int) (hs:zs.Pairwise (·≤·)):∀ m,m≤zs.length→SS (Lib.compactUpTo zs.toArray m)∧∀ x,x∈Lib.compactUpTo zs.toArray m↔x∈zs.take m:=by
 intro m
 induction m with
 | zero=>intro _;simp [Lib.compactUpTo]
 | succ m ih=>
   intro hm
   obtain ⟨h1,h2⟩:=ih (by omega)
   have hg:zs.toArray[m]! = zs[m]'(by omega):=by simp [getElem!_pos,show m < zs.length by omega]
   have ht:∀ x,x∈zs.take (m+1)↔x∈zs.take m∨x=zs[m]'(by omega):=by
    intro x;rw [List.take_succ_eq_append_getElem (by omega),List.mem_append,List.mem_singleton]
   have hle:∀ x∈zs.take m,x≤zs[m]'(by omega):=by
    intro x hx
    obtain ⟨i,hi,rfl⟩:=List.mem_iff_getElem.1 hx
    simp only [List.length_take] at hi
    rw [List.getElem_take]
    exact List.pairwise_iff_getElem.1 hs i m (by omega) (by omega) (by omega)
   rw [Lib.compactUpTo_succ,hg]
   by_cases hk:Lib.keeps zs.toArray m=true
   ·rw [if_pos hk]
    refine ⟨List.pairwise_append.2 ⟨h1,by simp,fun x hx y hy=>?_⟩,fun x=>?_⟩
    ·simp at hy;subst hy
     have hx:=(h2 x).1 hx
     have h3:=hle x hx
     simp only [Lib.keeps,decide_eq_true_eq] at hk
     rcases hk with rfl | hk
     ·simp at hx
     ·have hm0:m≠0:=by rintro rfl;simp at hx
      have hg':zs.toArray[m - 1]! = zs[m - 1]'(by omega):=by simp [getElem!_pos,show m - 1 < zs.length by omega]
      rw [hg,hg'] at hk
      obtain ⟨i,hi,rfl⟩:=List.mem_iff_getElem.1 hx
      simp only [List.length_take] at hi
      rw [List.getElem_take] at h3 ⊢
      have h5:zs[i]'(by omega)≤zs[m - 1]'(by omega):=by
       by_cases e:i=m - 1
       ·subst e;exact Int.le_refl _
       ·exact List.pairwise_iff_getElem.1 hs i (m - 1) (by omega) (by omega) (by omega)
      have h6:zs[m - 1]'(by omega)≤zs[m]'(by omega):=List.pairwise_iff_getElem.1 hs (m - 1) m (by omega) (by omega) (by omega)
      have:zs[m - 1]'(by omega)≠zs[m]'(by omega):=fun e=>hk e.symm
      omega
    ·rw [ht];simp [h2]
   ·rw [if_neg hk]
    refine ⟨by simpa using h1,fun x=>?_⟩
    rw [List.append_nil,ht,h2]
    constructor
    ·exact .inl
    ·rintro (h | rfl)
     ·exact h
     ·simp only [Lib.keeps,decide_eq_true_eq,not_or,Decidable.not_not] at hk
      obtain ⟨hm0,hk⟩:=hk
      have hg':zs.toArray[m - 1]! = zs[m - 1]'(by omega):=by simp [getElem!_pos,show m - 1 < zs.length by omega]
      rw [hg,hg'] at hk
      rw [hk]
      refine List.mem_iff_getElem.2 ⟨m - 1,by simp;omega,by rw [List.getElem_take]⟩
theorem sort_spec (l:List Int):(sortInts l).Pairwise (·≤·)∧∀ x,x∈sortInts l↔x∈l:=by
 refine ⟨?_,fun x=>by simp [sortInts]⟩
 have:=List.pairwise_mergeSort (le:=fun x y:Int=>decide (x≤y)) (fun a b c h1 h2=>by simp at *;omega) (fun a b=>by simp;omega) l
 exact this.imp (by simp)
theorem zb6 (a b:List Int):SS (join a b)∧∀ x,x∈join a b↔x∈a∨x∈b:=by
 obtain ⟨h1,h2⟩:=sort_spec (a++b)
 obtain ⟨h3,h4⟩:=upTo_spec _ h1 _ (Nat.le_refl _)
 refine ⟨h3,fun x=>?_⟩
 show x∈Lib.compactUpTo _ _↔_
 rw [h4,List.take_length,h2,List.mem_append]
theorem sort_len (l:List Int):(sortInts l).length=l.length:=by simp [sortInts]
theorem join_len (a b:List Int):(join a b).length≤a.length+b.length:=by
 have:=Lib.compact_length_le (sortInts (a++b))
 rw [sort_len,List.length_append] at this
 exact this
def addL:List Int→List Int→List Int
 | [],b=>b
 | a,[]=>a
 | x :: a,y :: b=>if x < y then x :: addL a (y :: b) else if y < x then y :: addL (x :: a) b else x :: addL a b
 termination_by a b=>a.length+b.length
theorem zc2:∀ (a b:List Int) (x:Int),x∈addL a b↔x∈a∨x∈b
 | [],b,z=>by simp [addL]
 | x :: a,[],z=>by simp [addL]
 | x :: a,y :: b,z=>by
   rw [addL]
   split
   ·rw [List.mem_cons,zc2 a (y :: b)];grind
   ·split
    ·rw [List.mem_cons,zc2 (x :: a) b];grind
    ·rw [List.mem_cons,zc2 a b];grind
 termination_by a b=>a.length+b.length
theorem addL_ss:∀ {a b:List Int},SS a→SS b→SS (addL a b)
 | [],b,_,hb=>by rw [addL];exact hb
 | x :: a,[],ha,_=>by rw [addL];exact ha;simp
 | x :: a,y :: b,ha,hb=>by
   have ha':=List.pairwise_cons.1 ha
   have hb':=List.pairwise_cons.1 hb
   rw [addL]
   split
   ·refine List.pairwise_cons.2 ⟨fun z hz=>?_,addL_ss ha'.2 hb⟩
    rw [zc2] at hz;grind
   ·split
    ·refine List.pairwise_cons.2 ⟨fun z hz=>?_,addL_ss ha hb'.2⟩
     rw [zc2] at hz;grind
    ·refine List.pairwise_cons.2 ⟨fun z hz=>?_,addL_ss ha'.2 hb'.2⟩
     rw [zc2] at hz;grind
 termination_by a b=>a.length+b.length
end Go.Ev.Pl
namespace Go.Ev.Pl
open Go Go.Ev
theorem zG {x:Int} (h0:-9223372036854775808≤x) (h1:x≤9223372036854775807):w64 x=x:=wrap64 h0 (by omega)
theorem rx_sizeOf {x y:zj} (h:y∈x.Kids):SizeOf.sizeOf y < SizeOf.sizeOf x:=by
 cases x with
 | mk k s lo hi kids=>
   have:=List.sizeOf_lt_of_mem h
   simp only [zj.mk.sizeOf_spec]
   simp at this
   omega
theorem rxInd {P:zj→Prop} (h:∀ x,(∀ y∈x.Kids,P y)→P x) (x:zj):P x:=
 h x fun y hy=>rxInd h y
 termination_by SizeOf.sizeOf x
 decreasing_by exact rx_sizeOf hy
mutual
def cata {α:Type} (f:zj→List α→α):zj→α
 | ⟨k,s,lo,hi,kids⟩=>f ⟨k,s,lo,hi,kids⟩ (cataL f kids)
def cataL {α:Type} (f:zj→List α→α):List zj→List α
 | []=>[]
 | x :: r=>cata f x :: cataL f r
end
theorem cataL_map {α:Type} (f:zj→List α→α):∀ l,cataL f l=l.map (cata f)
 | []=>rfl
 | x :: r=>by rw [cataL,cataL_map f r];rfl
theorem zea {α:Type} (f:zj→List α→α) (x:zj):cata f x=f x (x.Kids.map (cata f)):=by
 cases x;rw [cata,cataL_map]
def Wf (x:zj):Prop:=cata (α:=Prop) (fun x l=>x.Kids.length < 1099511627776∧∀ p∈l,p) x
theorem zhb (x:zj):Wf x↔x.Kids.length < 1099511627776∧∀ y∈x.Kids,Wf y:=by
 show cata (α:=Prop) _ x↔_
 rw [zea]
 constructor
 ·rintro ⟨h1,h2⟩;exact ⟨h1,fun y hy=>h2 _ (List.mem_map.2 ⟨y,hy,rfl⟩)⟩
 ·rintro ⟨h1,h2⟩
  refine ⟨h1,fun p hp=>?_⟩
  obtain ⟨y,hy,rfl⟩:=List.mem_map.1 hp
  exact h2 y hy
theorem z8 {α:Type} [Inhabited α] {l:List α} {i:Nat} (h:i < l.length):gd l (i:Int)=l[i]:=by
 simp [gd,List.getD,h]
def timesN (x:zj):Nat:=(max 1 (min 1000 (max x.Lo x.Hi))).toNat
def sizeN:zj→Nat:=cata fun x l=>if x.Kind=2 then 1 else if 3≤x.Kind∧x.Kind≤5 then l.sum * (if x.Kind=5 then timesN x else 1) else 0
theorem zcv (x:zj):sizeN x=if x.Kind=2 then 1 else if 3≤x.Kind∧x.Kind≤5 then (x.Kids.map sizeN).sum * (if x.Kind=5 then timesN x else 1) else 0:=zea _ x
def sizeZ (x:zj):Int:=min (sizeN x:Int) (1000000:Int)
theorem zfe {l:List Nat} {i:Nat} (h:i < l.length):(l.take (i+1)).sum=(l.take i).sum+l[i]:=by
 rw [List.take_succ_eq_append_getElem h,List.sum_append];simp
theorem rxSize_ok:∀ x,Wf x→zdj x (sizeZ x):=by
 refine rxInd fun x ih hw=>?_
 obtain ⟨hl,hk⟩:=(zhb x).1 hw
 refine W_rx_Size x _ ⟨fun h=>?_,fun h=>⟨fun h2=>?_,fun h2=>?_⟩⟩
 ·have h:x.Kind=2:=by simpa using h
  simp [sizeZ,zcv,h];omega
 ·have:x.Kind < 3∨x.Kind > 5:=by simpa using h2
  have h:x.Kind≠2:=by simpa using h
  rw [sizeZ,zcv,if_neg h,if_neg (by omega)];omega
 ·have h:x.Kind≠2:=by simpa using h
  have h2:3≤x.Kind∧x.Kind≤5:=by simp at h2;omega
  have hT:(timesN x:Int)=max 1 (min 1000 (max x.Lo x.Hi)):=by simp only [timesN];omega
  refine ⟨fun n t=>∃ i:Nat,t=i∧i≤x.Kids.length∧n=min (((x.Kids.map sizeN).take i).sum:Int) 1000000,fun n t=>(x.Kids.length - t).toNat,⟨0,rfl,by omega,by simp;omega⟩,?_⟩
  rintro n t ⟨i,rfl,hi,hn⟩
  refine ⟨fun ht=>?_,fun ht=>?_⟩
  ·have ht:i < x.Kids.length:=by simpa using ht
   refine ⟨by omega,by omega,sizeZ x.Kids[i],by rw [z8 ht];exact ih _ (List.getElem_mem ht) (hk _ (List.getElem_mem ht)),?_⟩
   have hs:=zfe (l:=x.Kids.map sizeN) (i:=i) (by simpa using ht)
   rw [List.getElem_map] at hs
   have hz:sizeZ x.Kids[i]=min (sizeN x.Kids[i]:Int) (1000000:Int):=rfl
   have hw1:w64 (n+sizeZ x.Kids[i])=n+sizeZ x.Kids[i]:=zG (by omega) (by omega)
   have hw2:w64 ((i:Int)+1)=((i+1:Nat):Int):=zG (by omega) (by omega)
   rw [hw1,hw2]
   refine ⟨⟨i+1,rfl,by omega,?_⟩,by dsimp only;omega⟩
   rw [hs];simp;omega
  ·have ht:i=x.Kids.length:=by have:¬ i < x.Kids.length:=by simpa using ht
                               omega
   subst ht
   rw [List.take_of_length_le (by simp)] at hn
   refine ⟨fun m=>m=n * (if x.Kind=5 then (timesN x:Int) else 1),fun m hm=>?_,fun h5=>?_,fun h5=>?_⟩
   ·subst hm
    rw [sizeZ,zcv,if_neg h,if_pos h2]
    by_cases h5:x.Kind=5
    ·simp only [if_pos h5]
     have hp:(1:Int)≤timesN x:=by omega
     have hp2:(timesN x:Int)≤1000:=by omega
     generalize (x.Kids.map sizeN).sum=S at hn ⊢
     subst hn
     rw [Int.natCast_mul]
     generalize (timesN x:Int)=T at hp hp2 ⊢
     simp
     rcases Int.le_total (S:Int) 1000000 with hS | hS
     ·rw [Int.min_eq_left hS];omega
     ·rw [Int.min_eq_right hS]
      have h1:(1000000:Int) * 1≤1000000 * T:=Int.mul_le_mul_of_nonneg_left hp (by omega)
      have h2:(1000000:Int) * T≤S * T:=Int.mul_le_mul_of_nonneg_right hS (by omega)
      omega
    ·simp only [if_neg h5];simp;omega
   ·have h5:x.Kind=5:=by simpa using h5
    rw [if_pos h5,hT]
    have:∀ a:Int,0≤a→a≤1000000→w64 (a * max 1 (min 1000 (max x.Lo x.Hi)))=a * max 1 (min 1000 (max x.Lo x.Hi)):=fun a h1 h2=>by
     have e1:0≤a * max 1 (min 1000 (max x.Lo x.Hi)):=Int.mul_nonneg h1 (by omega)
     have e2:a * max 1 (min 1000 (max x.Lo x.Hi))≤1000000 * 1000:=Int.mul_le_mul h2 (by omega) (by omega) (by omega)
     exact zG (by omega) (by omega)
    rw [← this n (by omega) (by omega)]
    congr 1;congr 1
    simp;omega
   ·have h5:x.Kind≠5:=by simpa using h5
    rw [if_neg h5];omega
theorem zen:∀ x,Wf x→zai x (sizeZ x):=by
 refine rxInd fun x ih hw=>?_
 obtain ⟨hl,hk⟩:=(zhb x).1 hw
 refine zfP x _ ⟨fun h=>?_,fun h=>?_⟩
 ·have h:x.Kind=2:=by simpa using h
  simp [sizeZ,zcv,h];omega
 have h:x.Kind≠2:=by simpa using h
 refine ⟨fun b=>b=decide (3≤x.Kind∧x.Kind≤5),fun b hb=>⟨fun hbt=>?_,fun hbf=>?_⟩,fun h3=>?_,fun h3=>⟨fun h4=>?_,fun h4=>?_⟩⟩
 ·have h2:3≤x.Kind∧x.Kind≤5:=by rw [hbt] at hb;simpa using hb.symm
  have hT:(timesN x:Int)=max 1 (min 1000 (max x.Lo x.Hi)):=by simp only [timesN];omega
  have hp:(1:Int)≤timesN x:=by omega
  have hp2:(timesN x:Int)≤1000:=by omega
  refine ⟨fun n t=>∃ i:Nat,t=i∧i≤x.Kids.length∧n=min (((x.Kids.map sizeN).take i).sum:Int) 1000000,fun n t=>(x.Kids.length - t).toNat,⟨0,rfl,by omega,by simp;omega⟩,?_⟩
  rintro n t ⟨i,rfl,hi,hn⟩
  refine ⟨fun ht=>?_,fun ht=>?_⟩
  ·have ht:i < x.Kids.length:=by simpa using ht
   refine ⟨by omega,by omega,sizeZ x.Kids[i],by rw [z8 ht];exact ih _ (List.getElem_mem ht) (hk _ (List.getElem_mem ht)),?_⟩
   have hs:=zfe (l:=x.Kids.map sizeN) (i:=i) (by simpa using ht)
   rw [List.getElem_map] at hs
   have hz:sizeZ x.Kids[i]=min (sizeN x.Kids[i]:Int) (1000000:Int):=rfl
   have hw1:w64 (n+sizeZ x.Kids[i])=n+sizeZ x.Kids[i]:=zG (by omega) (by omega)
   have hw2:w64 ((i:Int)+1)=((i+1:Nat):Int):=zG (by omega) (by omega)
   rw [hw1,hw2]
   refine ⟨fun hg=>?_,fun hg=>?_⟩
   ·have hg:n+sizeZ x.Kids[i] > 1000000:=by simpa using hg
    have hsum:(x.Kids.map sizeN).sum≥((x.Kids.map sizeN).take (i+1)).sum:=by
     conv=>lhs;rw [← List.take_append_drop (i+1) (x.Kids.map sizeN),List.sum_append]
     omega
    rw [sizeZ,zcv,if_neg h,if_pos h2]
    have:(1000001:Int)≤(((x.Kids.map sizeN).sum * (if x.Kind=5 then timesN x else 1):Nat):Int):=by
     split
     ·have h3:(x.Kids.map sizeN).sum * 1≤(x.Kids.map sizeN).sum * timesN x:=Nat.mul_le_mul_left _ (by omega)
      omega
     ·omega
    omega
   ·have hg:¬ n+sizeZ x.Kids[i] > 1000000:=by simpa using hg
    exact ⟨⟨i+1,rfl,by omega,by rw [hs];simp;omega⟩,by dsimp only;omega⟩
  ·have ht:i=x.Kids.length:=by have:¬ i < x.Kids.length:=by simpa using ht
                               omega
   subst ht
   rw [List.take_of_length_le (by simp)] at hn
   refine ⟨fun m=>m=n * (if x.Kind=5 then (timesN x:Int) else 1),fun m hm=>?_,fun h5=>?_,fun h5=>?_⟩
   ·subst hm
    rw [sizeZ,zcv,if_neg h,if_pos h2]
    by_cases h5:x.Kind=5
    ·simp only [if_pos h5]
     generalize (x.Kids.map sizeN).sum=S at hn ⊢
     subst hn
     rw [Int.natCast_mul]
     generalize (timesN x:Int)=T at hp hp2 ⊢
     simp
     rcases Int.le_total (S:Int) 1000000 with hS | hS
     ·rw [Int.min_eq_left hS];omega
     ·rw [Int.min_eq_right hS]
      have h1:(1000000:Int) * 1≤1000000 * T:=Int.mul_le_mul_of_nonneg_left hp (by omega)
      have h2:(1000000:Int) * T≤S * T:=Int.mul_le_mul_of_nonneg_right hS (by omega)
      omega
    ·simp only [if_neg h5];simp;omega
   ·have h5:x.Kind=5:=by simpa using h5
    rw [if_pos h5,hT]
    have:∀ a:Int,0≤a→a≤1000000→w64 (a * max 1 (min 1000 (max x.Lo x.Hi)))=a * max 1 (min 1000 (max x.Lo x.Hi)):=fun a h1 h2=>by
     have e1:0≤a * max 1 (min 1000 (max x.Lo x.Hi)):=Int.mul_nonneg h1 (by omega)
     have e2:a * max 1 (min 1000 (max x.Lo x.Hi))≤1000000 * 1000:=Int.mul_le_mul h2 (by omega) (by omega) (by omega)
     exact zG (by omega) (by omega)
    rw [← this n (by omega) (by omega)]
    congr 1;congr 1
    simp;omega
   ·have h5:x.Kind≠5:=by simpa using h5
    rw [if_neg h5];omega
 ·have h2:¬ (3≤x.Kind∧x.Kind≤5):=by rw [hbf] at hb;simpa using hb.symm
  rw [sizeZ,zcv,if_neg h,if_neg h2];omega
 ·have h3':x.Kind=3:=by simpa using h3
  simp [h3']
 ·have h4':x.Kind=4:=by simpa using h4
  simp [h4']
 ·have h3':x.Kind≠3:=by simpa using h3
  have h4':x.Kind≠4:=by simpa using h4
  show decide (x.Kind=5)=decide (3≤x.Kind∧x.Kind≤5)
  rw [decide_eq_decide];omega
def nodesZ:zj→Int→Int:=cata fun x l most=>l.foldl (fun m g=>if m≥0 then g m else m) (most - 1)
theorem zfm (x:zj) (most:Int):nodesZ x most=x.Kids.foldl (fun m y=>if m≥0 then nodesZ y m else m) (most - 1):=by
 unfold nodesZ
 rw [zea,List.foldl_map]
theorem nodesZ_le:∀ x most,0≤most→nodesZ x most≤most - 1∧-1≤nodesZ x most:=by
 refine rxInd fun x ih most hm=>?_
 rw [zfm]
 have key:∀ (l:List zj) (m:Int),(∀ y∈l,y∈x.Kids)→-1≤m→(l.foldl (fun m y=>if m≥0 then nodesZ y m else m) m)≤m∧-1≤l.foldl (fun m y=>if m≥0 then nodesZ y m else m) m:=by
  intro l
  induction l with
  | nil=>intro m _ h;exact ⟨Int.le_refl _,h⟩
  | cons y r ih2=>
    intro m hl h
    simp only [List.foldl_cons]
    split
    ·rename_i h0
     obtain ⟨h1,h2⟩:=ih y (hl y (List.mem_cons_self ..)) m h0
     obtain ⟨h3,h4⟩:=ih2 _ (fun z hz=>hl z (List.mem_cons_of_mem _ hz)) h2
     exact ⟨by omega,h4⟩
    ·exact ih2 m (fun z hz=>hl z (List.mem_cons_of_mem _ hz)) h
 exact key x.Kids (most - 1) (fun _ h=>h) (by omega)
theorem zaK {α β:Type} {f:β→α→β} {b:β} {l:List α} {i:Nat} (h:i < l.length):(l.take (i+1)).foldl f b=f ((l.take i).foldl f b) l[i]:=by
 rw [List.take_succ_eq_append_getElem h,List.foldl_append];rfl
theorem nodes_pre {x:zj} {most:Int} (hm:0≤most) (i:Nat):-1≤(x.Kids.take i).foldl (fun m y=>if m≥0 then nodesZ y m else m) (most - 1)∧(x.Kids.take i).foldl (fun m y=>if m≥0 then nodesZ y m else m) (most - 1) < most:=by
 induction i with
 | zero=>simp;omega
 | succ i ih=>
   by_cases h:i < x.Kids.length
   ·rw [zaK h]
    split
    ·rename_i h0
     have:=nodesZ_le x.Kids[i] _ h0
     omega
    ·exact ih
   ·rw [List.take_of_length_le (by omega)] at ih ⊢;exact ih
theorem rxNodes_ok:∀ x,Wf x→∀ most,0≤most→most≤1000000→zdi x most (nodesZ x most):=by
 refine rxInd fun x ih hw most hm0 hm1=>?_
 obtain ⟨hl,hk⟩:=(zhb x).1 hw
 rw [zfm]
 have hw0:w64 (most - 1)=most - 1:=zG (by omega) (by omega)
 refine W_rx_nodes x most _ ⟨fun m t=>∃ i:Nat,t=i∧i≤x.Kids.length∧m=(x.Kids.take i).foldl (fun m y=>if m≥0 then nodesZ y m else m) (most - 1),fun m t=>(x.Kids.length - t).toNat,⟨0,rfl,by omega,by rw [hw0];rfl⟩,?_⟩
 rintro m t ⟨i,rfl,hi,hm⟩
 have hb:=nodes_pre (x:=x) hm0 i
 rw [← hm] at hb
 refine ⟨fun ht=>?_,fun ht=>?_⟩
 ·have ht:i < x.Kids.length:=by simpa using ht
  have hw2:w64 ((i:Int)+1)=((i+1:Nat):Int):=zG (by omega) (by omega)
  have hs:=zaK (f:=fun m y=>if m≥0 then nodesZ y m else m) (b:=most - 1) ht
  rw [← hm] at hs
  refine ⟨fun m'=>m'=if m≥0 then nodesZ x.Kids[i] m else m,fun m' hm'=>?_,by omega,by omega,fun hg=>?_,fun hg=>?_⟩
  ·rw [hw2]
   exact ⟨⟨i+1,rfl,by omega,by rw [hs,hm']⟩,by dsimp only;omega⟩
  ·have hg:m≥0:=by simpa using hg
   refine ⟨nodesZ x.Kids[i] m,?_,by rw [if_pos hg]⟩
   rw [z8 ht]
   exact ih _ (List.getElem_mem ht) (hk _ (List.getElem_mem ht)) _ hg (by omega)
  ·have hg:¬ m≥0:=by simpa using hg
   rw [if_neg hg]
 ·have ht:i=x.Kids.length:=by have:¬ i < x.Kids.length:=by simpa using ht
                              omega
  subst ht
  rw [hm,List.take_of_length_le (Nat.le_refl _)]
def WfB (x:zj):Prop:=cata (α:=Prop) (fun x l=>x.Kids.length < 9223372036854775808∧∀ p∈l,p) x
theorem wfB_eq (x:zj):WfB x↔x.Kids.length < 9223372036854775808∧∀ y∈x.Kids,WfB y:=by
 unfold WfB
 rw [zea]
 simp only [List.mem_map,forall_exists_index,and_imp,forall_apply_eq_imp_iff₂]
theorem zhc:∀ x,Wf x→WfB x:=by
 refine rxInd fun x ih hw=>?_
 obtain ⟨hl,hk⟩:=(zhb x).1 hw
 exact (wfB_eq x).2 ⟨by omega,fun y hy=>ih y hy (hk y hy)⟩
theorem refNodesB_ok:∀ x,WfB x→∀ most,0≤most→most≤1000000→zaG x most (nodesZ x most):=by
 refine rxInd fun x ih hw most hm0 hm1=>?_
 obtain ⟨hl,hk⟩:=(wfB_eq x).1 hw
 rw [zfm]
 have hw0:w64 (most - 1)=most - 1:=zG (by omega) (by omega)
 refine zfb x most _ ⟨fun m t=>∃ i:Nat,t=i∧i≤x.Kids.length∧m=(x.Kids.take i).foldl (fun m y=>if m≥0 then nodesZ y m else m) (most - 1),fun m t=>(x.Kids.length - t).toNat,⟨0,rfl,by omega,by rw [hw0];rfl⟩,?_⟩
 rintro m t ⟨i,rfl,hi,hm⟩
 have hb:=nodes_pre (x:=x) hm0 i
 rw [← hm] at hb
 have hstay:∀ (l:List zj) (m:Int),m < 0→l.foldl (fun m y=>if m≥0 then nodesZ y m else m) m=m:=by
  intro l
  induction l with
  | nil=>intro m _;rfl
  | cons y r ih2=>intro m h;rw [List.foldl_cons,if_neg (by omega)];exact ih2 m h
 refine ⟨fun ht=>?_,fun ht=>?_⟩
 ·simp only [List.length_map,Bool.and_eq_true,decide_eq_true_eq] at ht
  obtain ⟨ht,hg⟩:=ht
  have ht:i < x.Kids.length:=by omega
  have hw2:w64 ((i:Int)+1)=((i+1:Nat):Int):=zG (by omega) (by omega)
  have hs:=zaK (f:=fun m y=>if m≥0 then nodesZ y m else m) (b:=most - 1) ht
  rw [← hm,if_pos hg] at hs
  refine ⟨by omega,by omega,nodesZ x.Kids[i] m,?_,?_⟩
  ·rw [z8 ht]
   exact ih _ (List.getElem_mem ht) (hk _ (List.getElem_mem ht)) _ hg (by omega)
  ·rw [hw2]
   exact ⟨⟨i+1,rfl,by omega,hs.symm⟩,by dsimp only;omega⟩
 ·simp only [List.length_map,Bool.and_eq_false_iff,decide_eq_false_iff_not] at ht
  rcases Nat.lt_or_ge i x.Kids.length with hlt | hge
  ·have hneg:m < 0:=by omega
   have e:=List.foldl_append (f:=fun m y=>if m≥0 then nodesZ y m else m) (b:=most - 1) (l:=x.Kids.take i) (l':=x.Kids.drop i)
   rw [List.take_append_drop,← hm,hstay _ _ hneg] at e
   exact e
  ·rw [hm,List.take_of_length_le hge]
theorem refNodes_ok (x:zj) (hw:Wf x) (most:Int) (h0:0≤most) (h1:most≤1000000):zaG x most (nodesZ x most):=refNodesB_ok x (zhc x hw) most h0 h1
def noSet (s:za):Bool:=s.e0 == 0 && (s.e1 == 0 && (s.e2 == 0 && (s.e3 == 0 && true)))
def timesB (lo hi:Int):Bool:=decide (0≤lo) && (decide (lo≤20) && (hi == -1 || decide (hi≥max 1 lo) && decide (hi≤20)))
def ownB (x:zj):Bool:=
 if x.Kind=5 then noSet x.Set && (decide (x.Kids.length=1) && timesB x.Lo x.Hi)
 else if x.Kind=1 then noSet x.Set && (x.Lo == 0 && x.Hi == 0 && decide (x.Kids.length=0))
 else if x.Kind=2 then !noSet x.Set && (x.Lo == 0 && x.Hi == 0 && decide (x.Kids.length=0))
 else if x.Kind=3∨x.Kind=4 then noSet x.Set && (x.Lo == 0 && x.Hi == 0 && decide (x.Kids.length≥2))
 else false
def oddK (x k:zj):Bool:=k.Kind == x.Kind && x.Kind != 5
def rgt:zj→Int→Bool:=cata fun x l deep=>decide (deep > 0) && ownB x && (x.Kids.zip l).all fun (k,g)=>!oddK x k && g (deep - 1)
theorem zgn (x:zj) (deep:Int):rgt x deep=(decide (deep > 0) && ownB x && x.Kids.all fun k=>!oddK x k && rgt k (deep - 1)):=by
 unfold rgt
 rw [zea]
 congr 1
 rw [List.zip_map_right,List.all_map]
 generalize x.Kids=l
 induction l with
 | nil=>rfl
 | cons y r ih=>simp only [List.zip_cons_cons,List.all_cons,Function.comp] at ih ⊢;rw [ih];rfl
def pat (x:zj):zL:={ Kind:=x.Kind,Set:=x.Set,Lo:=x.Lo,Hi:=x.Hi,Kids:=x.Kids }
theorem times_ok (x:zL):zbA x (timesB x.Lo x.Hi):=by
 refine zfH x _ ⟨fun h=>?_,fun h=>?_⟩
 ·simp only [Bool.or_eq_true,decide_eq_true_eq] at h
  simp only [timesB,Bool.and_eq_false_iff,decide_eq_false_iff_not];omega
 ·simp only [Bool.or_eq_false_iff,decide_eq_false_iff_not] at h
  have h1:decide (0≤x.Lo)=true:=by simp;omega
  have h2:decide (x.Lo≤20)=true:=by simp;omega
  simp only [timesB,h1,h2,Bool.true_and]
  congr 2
  have:(if x.Lo > 1 then x.Lo else 1)=max 1 x.Lo:=by omega
  rw [this]
theorem len0 (l:List zj):decide (l=[])=(decide ((2:Int)≤(l.length:Int)+2) && (l.length:Int)+2 == 2):=by
 cases l with
 | nil=>rfl
 | cons a r=>
   have:((((a :: r).length:Nat):Int)+2 == 2)=false:=by
    show decide _=false
    simp only [decide_eq_false_iff_not,List.length_cons];omega
   rw [this];simp
theorem own_ok (x:zj) (hl:x.Kids.length < 1099511627776):zbW (pat x) (ownB x):=by
 refine zgM (pat x) _ ⟨fun many=>many=(if x.Kind=1∨x.Kind=2 then (x.Kids.length:Int)+2 else x.Kids.length)∧(x.Kind=1∨x.Kind=2∨x.Kind=3∨x.Kind=4),?_,fun h5=>?_,fun h5=>?_⟩
 ·rintro many ⟨rfl,hk⟩
  show ownB x=((!noSet x.Set) == (x.Kind == 2) && (x.Lo == 0 && (x.Hi == 0 && (decide (_≥2) && (!decide (x.Kind < 3) || _ == 2)))))
  rcases hk with h | h | h | h
  all_goals simp only [ownB,h]
  ·cases noSet x.Set<;>cases hlo:(x.Lo == 0)<;>cases hhi:(x.Hi == 0)<;>simp [len0]
  ·cases noSet x.Set<;>cases hlo:(x.Lo == 0)<;>cases hhi:(x.Hi == 0)<;>simp [len0]
  ·cases noSet x.Set<;>cases hlo:(x.Lo == 0)<;>cases hhi:(x.Hi == 0)<;>simp<;>omega
  ·cases noSet x.Set<;>cases hlo:(x.Lo == 0)<;>cases hhi:(x.Hi == 0)<;>simp<;>omega
 ·have h5:x.Kind=5:=by simpa [pat] using h5
  refine ⟨fun hs=>⟨fun h1=>⟨_,times_ok (pat x),?_⟩,fun h1=>?_⟩,fun hs=>?_⟩
  ·have h1:x.Kids.length=1:=by simp [pat] at h1;omega
   have hs:noSet x.Set=true:=by rw [Bool.not_not] at hs;exact hs
   simp only [ownB,if_pos h5,hs,h1];rfl
  ·have h1:x.Kids.length≠1:=by simp [pat] at h1;omega
   simp [ownB,if_pos h5,h1]
  ·have hs:noSet x.Set=false:=by rw [Bool.not_not] at hs;exact hs
   simp [ownB,if_pos h5,hs]
 ·have h5:x.Kind≠5:=by simpa [pat] using h5
  refine ⟨fun b=>b=decide (x.Kind=1∨x.Kind=2),fun b hb=>⟨fun h=>?_,fun h=>?_⟩,fun h=>?_,fun h=>?_⟩
  ·have h12:x.Kind=1∨x.Kind=2:=by rw [h] at hb;simpa using hb.symm
   refine ⟨?_,by omega⟩
   rw [if_pos h12];exact zG (by show _≤(x.Kids.length:Int)+2;omega) (by show (x.Kids.length:Int)+2≤_;omega)
  ·have h12:¬ (x.Kind=1∨x.Kind=2):=by rw [h] at hb;simpa using hb.symm
   refine ⟨fun b=>b=decide (x.Kind=3∨x.Kind=4),fun b' hb'=>⟨fun h'=>?_,fun h'=>?_⟩,fun h'=>?_,fun h'=>?_⟩
   ·have h34:x.Kind=3∨x.Kind=4:=by rw [h'] at hb';simpa using hb'.symm
    exact ⟨by rw [if_neg h12];rfl,by omega⟩
   ·have h34:¬ (x.Kind=3∨x.Kind=4):=by rw [h'] at hb';simpa using hb'.symm
    simp only [ownB];rw [if_neg h5,if_neg (by omega),if_neg (by omega),if_neg h34]
   ·have:x.Kind=3:=by simpa [pat] using h'
    simp [pat,this]
   ·have:x.Kind≠3:=by simpa [pat] using h'
    simp [pat,this];rfl
  ·have:x.Kind=1:=by simpa [pat] using h
   simp [pat,this]
  ·have:x.Kind≠1:=by simpa [pat] using h
   simp [pat,this];rfl
theorem rxRight_ok:∀ x,Wf x→∀ deep,-1000≤deep→deep≤1000→zav (pat x) deep (rgt x deep):=by
 refine rxInd fun x ih hw deep hd0 hd1=>?_
 obtain ⟨hl,hk⟩:=(zhb x).1 hw
 have hodd:∀ k∈x.Kids,0 < deep→za9 k (pat x) deep (oddK x k || !rgt k (deep - 1)) (pat x) deep:=by
  intro k hkm hpos
  have hw1:w64 (deep - 1)=deep - 1:=zG (by omega) (by omega)
  have hrec:zav ({ Kind:=zj.Kind k,Set:=zj.Set k,Lo:=zj.Lo k,Hi:=zj.Hi k,Kids:=zj.Kids k }) (w64 (deep - 1)) (rgt k (deep - 1)):=by
   rw [hw1];exact ih k hkm (hk k hkm) _ (by omega) (by omega)
  refine zec k (pat x) deep _ _ _ ⟨fun h1=>⟨fun h2=>?_,fun h2=>⟨_,hrec,?_,rfl,rfl⟩⟩,fun h1=>⟨_,hrec,?_,rfl,rfl⟩⟩
  ·have h1:(k.Kind == x.Kind)=true:=h1
   have h2:(x.Kind != 5)=true:=h2
   simp [oddK,h1,h2]
  ·have h2:(x.Kind != 5)=false:=h2
   simp [oddK,h2]
  ·have h1:(k.Kind == x.Kind)=false:=h1
   simp [oddK,h1]
 have hall:∀ l:List zj,l.length < 1099511627776→(∀ k∈l,k∈x.Kids)→0 < deep→zF l (pat x) deep (l.any fun k=>oddK x k || !rgt k (deep - 1)) (pat x) deep:=by
  intro l hll hlm hpos
  obtain ⟨z,hz,hz2⟩:∃ z:Int,(decide (z≥0)=l.any fun k=>oddK x k || !rgt k (deep - 1))∧zJ l (pat x) deep z (pat x) deep:=by
   have hfind:∀ i:Nat,(∀ (j:Nat) (hj:j < l.length),j < i→(oddK x l[j] || !rgt l[j] (deep - 1))=false)→(i=l.length→(l.any fun k=>oddK x k || !rgt k (deep - 1))=false):=by
    intro i h e
    subst e
    rw [List.any_eq_false]
    intro k hkm
    obtain ⟨j,hj,rfl⟩:=List.mem_iff_getElem.1 hkm
    rw [h j hj hj];simp
   cases hany:l.any fun k=>oddK x k || !rgt k (deep - 1) with
   | false=>
     refine ⟨-1,by simp,?_⟩
     refine zad l (pat x) deep _ _ _ ⟨fun a b c d e f g h o t=>(⟨a,⟨b,c,d,e⟩,f,g,h⟩:zL)=pat x∧o=deep∧∃ i:Nat,t=i∧i≤l.length,fun _ _ _ _ _ _ _ _ _ t=>(l.length - t).toNat,⟨rfl,rfl,0,rfl,by omega⟩,?_⟩
     rintro a b c d e f g h o t ⟨hp,rfl,i,rfl,hi⟩
     refine ⟨fun ht=>?_,fun ht=>⟨rfl,hp.symm,rfl⟩⟩
     have ht:i < l.length:=by simpa using ht
     have hw2:w64 ((i:Int)+1)=((i+1:Nat):Int):=zG (by omega) (by omega)
     refine ⟨by omega,by omega,_,pat x,o,by rw [z8 ht,hp];exact hodd l[i] (hlm _ (List.getElem_mem ht)) hpos,fun hb=>?_,fun hb=>?_⟩
     ·rw [List.any_eq_false] at hany
      exact absurd hb (hany _ (List.getElem_mem ht))
     ·rw [hw2]
      exact ⟨⟨rfl,rfl,i+1,rfl,by omega⟩,by dsimp only;omega⟩
   | true=>
     obtain ⟨k0,hk0,hk1⟩:=List.any_eq_true.1 hany
     have hex:∃ i:Nat,∃ hi:i < l.length,(oddK x l[i] || !rgt l[i] (deep - 1))=true∧∀ (j:Nat) (hj:j < i),(oddK x (l[j]'(by omega)) || !rgt (l[j]'(by omega)) (deep - 1))=false:=by
      obtain ⟨j0,hj0,rfl⟩:=List.mem_iff_getElem.1 hk0
      induction j0 using Nat.strongRecOn with
      | _ j0 ihj=>
        by_cases hex:∃ j:Nat,∃ hj:j < j0,(oddK x (l[j]'(by omega)) || !rgt (l[j]'(by omega)) (deep - 1))=true
        ·obtain ⟨j,hj,hj1⟩:=hex
         exact ihj j hj (by omega) (List.getElem_mem _) hj1
        ·refine ⟨j0,hj0,hk1,fun j hj=>?_⟩
         cases hb:(oddK x (l[j]'(by omega)) || !rgt (l[j]'(by omega)) (deep - 1)) with
         | false=>rfl
         | true=>exact absurd ⟨j,hj,hb⟩ hex
     obtain ⟨n,hn,hn1,hn2⟩:=hex
     refine ⟨n,by simp,?_⟩
     refine zad l (pat x) deep _ _ _ ⟨fun a b c d e f g h o t=>(⟨a,⟨b,c,d,e⟩,f,g,h⟩:zL)=pat x∧o=deep∧∃ i:Nat,t=i∧i≤n,fun _ _ _ _ _ _ _ _ _ t=>(l.length - t).toNat,⟨rfl,rfl,0,rfl,by omega⟩,?_⟩
     rintro a b c d e f g h o t ⟨hp,rfl,i,rfl,hi⟩
     refine ⟨fun ht=>?_,fun ht=>?_⟩
     ·have ht:i < l.length:=by simpa using ht
      have hw2:w64 ((i:Int)+1)=((i+1:Nat):Int):=zG (by omega) (by omega)
      refine ⟨by omega,by omega,_,pat x,o,by rw [z8 ht,hp];exact hodd l[i] (hlm _ (List.getElem_mem ht)) hpos,fun hb=>⟨?_,rfl,rfl⟩,fun hb=>?_⟩
      ·rcases Nat.lt_or_ge i n with hlt | hge
       ·rw [hn2 i hlt] at hb;cases hb
       ·have:i=n:=by omega
        rw [this]
      ·rcases Nat.lt_or_ge i n with hlt | hge
       ·rw [hw2]
        exact ⟨⟨rfl,rfl,i+1,rfl,by omega⟩,by dsimp only;omega⟩
       ·have:i=n:=by omega
        subst this
        rw [hn1] at hb;cases hb
     ·have:¬ i < l.length:=by simpa using ht
      omega
  refine zaB l (pat x) deep _ _ _ ⟨z,_,_,hz2,hz.symm,rfl,rfl⟩
 rw [zgn]
 refine zfI (pat x) deep _ ⟨fun hd=>⟨_,own_ok x hl,fun ho=>⟨_,_,_,hall x.Kids hl (fun _ h=>h) (by simpa using hd),?_⟩,fun ho=>?_⟩,fun hd=>?_⟩
 ·rw [hd,ho]
  simp only [Bool.true_and]
  rw [List.any_eq_not_all_not,Bool.not_not]
  congr 1
  funext k
  cases oddK x k<;>cases rgt k (deep - 1)<;>rfl
 ·rw [ho];simp
 ·rw [hd];simp
def rightB (x:zj):Bool:=rgt x 20 && (decide (sizeZ x≤200) && decide (nodesZ x 1000≥0))
theorem zdm (x:zj) (hw:Wf x):zcF x (rightB x):=by
 refine W_rx_Right x _ ⟨_,rxRight_ok x hw 20 (by omega) (by omega),fun h=>⟨_,rxSize_ok x hw,fun h2=>⟨_,rxNodes_ok x hw 1000 (by omega) (by omega),?_⟩,fun h2=>?_⟩,fun h=>?_⟩
 ·rw [rightB,h,h2];rfl
 ·rw [rightB,h2];simp
 ·rw [rightB,h];simp
end Go.Ev.Pl
namespace Go.Ev.Pl
open Go Go.Ev
theorem noSet_eq (s:za):(s.e0 == 0 && (s.e1 == 0 && (s.e2 == 0 && (s.e3 == 0 && true))))=noSet s:=rfl
theorem zgY (l:List zj):((l.length:Int) == 0)=decide (l.length=0):=by
 show decide _=decide _
 simp only [decide_eq_decide];omega
theorem refRight_ok:∀ x,Wf x→∀ deep,-1000≤deep→deep≤1000→zaE x deep (rgt x deep):=by
 refine rxInd fun x ih hw deep hd0 hd1=>?_
 obtain ⟨hl,hk⟩:=(zhb x).1 hw
 have hw1:w64 (deep - 1)=deep - 1:=zG (by omega) (by omega)
 rw [zgn]
 refine ze9 x deep _ ⟨fun h=>?_,fun h=>?_⟩
 ·have:¬ deep > 0:=by have:deep < 1:=by simpa using h
                      omega
  simp [this]
 have hd:decide (deep > 0)=true:=by have:¬ deep < 1:=by simpa using h
                                    simp;omega
 have hpos:0 < deep:=by simpa using hd
 rw [hd,Bool.true_and]
 simp only [noSet_eq,Bool.not_not]
 refine ⟨fun h1=>?_,fun h1=>⟨fun h2=>?_,fun h2=>⟨fun h5=>?_,fun h5=>?_⟩⟩⟩
 ·have h1:x.Kind=1:=by simpa using h1
  have:x.Kids.all (fun k=>!oddK x k && rgt k (deep - 1))=true∨¬ x.Kids.length=0:=by
   cases x.Kids with
   | nil=>exact .inl rfl
   | cons a r=>right;simp
  simp only [ownB,h1]
  rcases this with h | h
  ·rw [h,zgY];simp
  ·rw [zgY];simp [h]
 ·have h2:x.Kind=2:=by simpa using h2
  have:x.Kids.all (fun k=>!oddK x k && rgt k (deep - 1))=true∨¬ x.Kids.length=0:=by
   cases x.Kids with
   | nil=>exact .inl rfl
   | cons a r=>right;simp
  simp only [ownB,h2]
  rcases this with h | h
  ·rw [h,zgY];simp
  ·rw [zgY];simp [h]
 ·have h5:x.Kind=5:=by simpa using h5
  have hmax:(if true=true then if x.Lo > 1 then x.Lo else 1 else if x.Lo < 1 then x.Lo else 1)=max 1 x.Lo:=by simp;omega
  have hmax2:(if x.Lo > 1 then x.Lo else 1)=max 1 x.Lo:=by omega
  simp only [eq_self,if_true,hmax2]
  have hown:ownB x=(noSet x.Set && (decide (x.Kids.length=1) && timesB x.Lo x.Hi)):=by simp only [ownB,if_pos h5]
  refine ⟨fun hs=>⟨fun hlo=>⟨fun hlo2=>⟨fun hhi=>⟨fun h1=>⟨fun _ _ _ _ _=>?_,_,ih _ ?_ (hk _ ?_) _ (by omega) (by omega),?_⟩,fun h1=>?_⟩,fun hhi=>?_⟩,fun hlo2=>?_⟩,fun hlo=>?_⟩,fun hs=>?_⟩
  ·have h1':x.Kids.length=1:=by (rw [List.length_map] at h1;have:(x.Kids.length:Int)=1:=by simpa using h1);omega
   omega
  ·have h1':x.Kids.length=1:=by (rw [List.length_map] at h1;have:(x.Kids.length:Int)=1:=by simpa using h1);omega
   match hq:x.Kids,h1' with
   | [a],_=>simp
  ·have h1':x.Kids.length=1:=by (rw [List.length_map] at h1;have:(x.Kids.length:Int)=1:=by simpa using h1);omega
   match hq:x.Kids,h1' with
   | [a],_=>simp
  ·-- the kid's word
   have h1':x.Kids.length=1:=by (rw [List.length_map] at h1;have:(x.Kids.length:Int)=1:=by simpa using h1);omega
   match hq:x.Kids,h1' with
   | [a],_=>
     have ht:timesB x.Lo x.Hi=true:=by
      have a1:decide (0≤x.Lo)=true:=by have:x.Lo≥0:=by simpa using hlo
                                       simp;omega
      simp only [timesB,a1,hlo2,hhi,Bool.true_and]
     rw [hown,hs,hq,ht,hw1]
     have ho:oddK x a=false:=by simp [oddK,h5]
     simp [ho]
  ·have h1':x.Kids.length≠1:=by intro e;rw [List.length_map,e] at h1;simp at h1
   rw [hown];simp [h1']
  ·rw [hown];simp only [timesB];rw [hhi];simp
  ·rw [hown];simp only [timesB];rw [hlo2];simp
  ·have:decide (0≤x.Lo)=false:=by have:¬ x.Lo≥0:=by simpa using hlo
                                  simp;omega
   rw [hown];simp only [timesB];rw [this];simp
  ·rw [hown,hs];simp
 ·have h1:x.Kind≠1:=by simpa using h1
  have h2:x.Kind≠2:=by simpa using h2
  have h5:x.Kind≠5:=by simpa using h5
  have hodd:∀ k,oddK x k=(k.Kind == x.Kind):=fun k=>by simp [oddK,h5]
  refine ⟨fun b=>b=decide (x.Kind=3∨x.Kind=4),fun b hb=>⟨fun hbt=>⟨fun hg=>?_,fun hg=>?_⟩,fun hbf=>?_⟩,fun h3=>?_,fun h3=>?_⟩
  ·have h34:x.Kind=3∨x.Kind=4:=by rw [hbt] at hb;simpa using hb.symm
   have:ownB x=false:=by
    simp only [ownB,if_neg h5,if_neg h1,if_neg h2,if_pos h34]
    simp only [Bool.or_eq_true,decide_eq_true_eq,Bool.not_eq_true',Bool.and_eq_false_iff] at hg ⊢
    rcases hg with hg | hg | hg
    ·exact .inl hg
    ·exact .inr (.inl (hg.imp id id))
    ·right;right;simp;omega
   rw [this];simp
  ·have h34:x.Kind=3∨x.Kind=4:=by rw [hbt] at hb;simpa using hb.symm
   have hown:ownB x=true:=by
    simp only [ownB,if_neg h5,if_neg h1,if_neg h2,if_pos h34]
    simp only [Bool.or_eq_false_iff,decide_eq_false_iff_not,Bool.not_eq_false',Bool.and_eq_true,decide_eq_true_eq] at hg ⊢
    obtain ⟨g1,g2,g3⟩:=hg
    exact ⟨g1,g2,by omega⟩
   rw [hown,Bool.true_and]
   refine ⟨fun t=>∃ i:Nat,t=i∧i≤x.Kids.length∧(x.Kids.take i).all (fun k=>!oddK x k && rgt k (deep - 1))=true,fun t=>(x.Kids.length - t).toNat,⟨0,rfl,by omega,rfl⟩,?_⟩
   rintro t ⟨i,rfl,hi,hall⟩
   refine ⟨fun ht=>?_,fun ht=>?_⟩
   ·have ht:i < x.Kids.length:=by simpa using ht
    have hw2:w64 ((i:Int)+1)=((i+1:Nat):Int):=zG (by omega) (by omega)
    have hm:=List.getElem_mem ht
    have hfail:∀ {b:Bool},(!oddK x x.Kids[i] && rgt x.Kids[i] (deep - 1))=false→(x.Kids.all fun k=>!oddK x k && rgt k (deep - 1))=false:=fun h=>by
     rw [List.all_eq_false];exact ⟨_,hm,by rw [h];simp⟩
    refine ⟨by omega,by omega,fun ho=>?_,fun ho=>⟨fun _=>by omega,fun _=>by omega,_,by rw [z8 ht,hw1];exact ih _ hm (hk _ hm) _ (by omega) (by omega),fun hr=>?_,fun hr=>?_⟩⟩
    ·rw [z8 ht] at ho
     exact (hfail (b:=true) (by rw [hodd,ho];rfl)).symm▸rfl
    ·have hr:rgt x.Kids[i] (deep - 1)=false:=by simpa using hr
     exact hfail (b:=true) (by rw [hr];simp)
    ·have hr:rgt x.Kids[i] (deep - 1)=true:=by simpa using hr
     rw [z8 ht] at ho
     rw [hw2]
     refine ⟨⟨i+1,rfl,by omega,?_⟩,by dsimp only;omega⟩
     rw [List.take_succ_eq_append_getElem ht,List.all_append,hall]
     simp [hodd,ho,hr]
   ·have ht:i=x.Kids.length:=by have:¬ i < x.Kids.length:=by simpa using ht
                                omega
    subst ht
    rw [List.take_of_length_le (Nat.le_refl _)] at hall
    exact hall
  ·have h34:¬ (x.Kind=3∨x.Kind=4):=by rw [hbf] at hb;simpa using hb.symm
   have:ownB x=false:=by simp only [ownB,if_neg h5,if_neg h1,if_neg h2,if_neg h34]
   rw [this];simp
  ·have:x.Kind=3:=by simpa using h3
   simp [this]
  ·have:x.Kind≠3:=by simpa using h3
   simp [this];rfl
theorem zc5 (x:zj) (hw:Wf x):zaF x (rightB x):=by
 refine zfa x _ ⟨_,refRight_ok x hw 20 (by omega) (by omega),fun h=>⟨_,zen x hw,fun h2=>⟨_,refNodes_ok x hw 1000 (by omega) (by omega),?_⟩,fun h2=>?_⟩,fun h=>?_⟩
 ·rw [rightB,h,h2];rfl
 ·rw [rightB,h2];simp
 ·rw [rightB,h];simp
def nullB:zj→Bool:=cata fun x l=>if x.Kind=1 then true else if x.Kind=3 then l.all id else if x.Kind=4 then l.any id else if x.Kind=5 then decide (x.Lo≤0) || l.all id else false
theorem nullB_eq (x:zj):nullB x=if x.Kind=1 then true else if x.Kind=3 then x.Kids.all nullB else if x.Kind=4 then x.Kids.any nullB else if x.Kind=5 then decide (x.Lo≤0) || x.Kids.all nullB else false:=by
 unfold nullB;rw [zea];simp only [List.all_map,List.any_map];rfl
end Go.Ev.Pl
namespace Go.Ev.Pl
open Go Go.Ev
structure GA where
 n:Nat
 sets:List za
 null:Bool
 first:Nat→Bool
 last:Nat→Bool
 follow:Nat→Nat→Bool
def gEmpty:GA:=⟨0,[],true,fun _=>false,fun _=>false,fun _ _=>false⟩
def gNone:GA:=⟨0,[],false,fun _=>false,fun _=>false,fun _ _=>false⟩
def gByte (s:za):GA:=⟨1,[s],false,fun i=>i == 0,fun i=>i == 0,fun _ _=>false⟩
def blk (n:Nat) (p q:Nat→Nat→Bool) (r:Nat→Nat→Bool) (i j:Nat):Bool:=
 if i < n then (if j < n then p i j else r i (j - n)) else (if j < n then false else q (i - n) (j - n))
def gCat (a b:GA):GA:=
 ⟨a.n+b.n,a.sets++b.sets,a.null && b.null,fun i=>if i < a.n then a.first i else a.null && b.first (i - a.n),
   fun i=>if i < a.n then b.null && a.last i else b.last (i - a.n),blk a.n a.follow b.follow fun i j=>a.last i && b.first j⟩
def gAlt (a b:GA):GA:=
 ⟨a.n+b.n,a.sets++b.sets,a.null || b.null,fun i=>if i < a.n then a.first i else b.first (i - a.n),
   fun i=>if i < a.n then a.last i else b.last (i - a.n),blk a.n a.follow b.follow fun _ _=>false⟩
def gAgain (a:GA):GA:={ a with follow:=fun i j=>a.follow i j || a.last i && a.first j }
def gMaybe (a:GA):GA:={ a with null:=true }
structure Canon (a:GA):Prop where
 sets:a.sets.length=a.n
 first:∀ i,a.n≤i→a.first i=false
 last:∀ i,a.n≤i→a.last i=false
 follow:∀ i j,a.n≤i∨a.n≤j→a.follow i j=false
theorem cat_empty_r {a:GA} (h:Canon a):gCat a gEmpty=a:=by
 obtain ⟨n,sets,null,f,l,fo⟩:=a
 simp only [gCat,gEmpty,GA.mk.injEq,Nat.add_zero,List.append_nil,Bool.and_true,Bool.and_false,true_and]
 refine ⟨?_,?_,?_⟩
 ·funext i;split
  ·rfl
  ·rename_i hi;exact (h.first i (by show n≤i;omega)).symm
 ·funext i;split
  ·rfl
  ·rename_i hi;exact (h.last i (by show n≤i;omega)).symm
 ·funext i j
  simp only [blk]
  split<;>split
  ·rfl
  ·rename_i h1 h2;exact (h.follow i j (by show n≤i∨n≤j;omega)).symm
  ·rename_i h1 h2;exact (h.follow i j (by show n≤i∨n≤j;omega)).symm
  ·rename_i h1 h2;exact (h.follow i j (by show n≤i∨n≤j;omega)).symm
theorem canon_zero {a:GA} (h:Canon a) (hn:a.n=0) (hnull:a.null=true):a=gEmpty:=by
 obtain ⟨n,sets,null,f,l,fo⟩:=a
 simp only at hn hnull;subst hn hnull
 have hs:sets=[]:=List.length_eq_zero_iff.1 h.sets
 subst hs
 simp only [gEmpty,GA.mk.injEq,true_and]
 exact ⟨funext fun i=>h.first i (Nat.zero_le _),funext fun i=>h.last i (Nat.zero_le _),funext fun i=>funext fun j=>h.follow i j (.inl (Nat.zero_le _))⟩
theorem zbJ:Canon gEmpty:=⟨rfl,fun _ _=>rfl,fun _ _=>rfl,fun _ _ _=>rfl⟩
theorem zdf:Canon gNone:=⟨rfl,fun _ _=>rfl,fun _ _=>rfl,fun _ _ _=>rfl⟩
theorem canon_byte (s:za):Canon (gByte s):=⟨rfl,fun i h=>by simp [gByte] at h ⊢;omega,fun i h=>by simp [gByte] at h ⊢;omega,fun _ _ _=>rfl⟩
theorem zcO {a b:GA} (ha:Canon a) (hb:Canon b):Canon (gCat a b):=by
 refine ⟨by simp [gCat,ha.sets,hb.sets],fun i h=>?_,fun i h=>?_,fun i j h=>?_⟩
 ·simp only [gCat] at h ⊢;rw [if_neg (by omega),hb.first _ (by omega)];simp
 ·simp only [gCat] at h ⊢;rw [if_neg (by omega),hb.last _ (by omega)]
 ·simp only [gCat,blk] at h ⊢
  split<;>split
  ·omega
  ·rw [hb.first _ (by omega)];simp
  ·rfl
  ·exact hb.follow _ _ (by omega)
theorem zhX {a b:GA} (ha:Canon a) (hb:Canon b):Canon (gAlt a b):=by
 refine ⟨by simp [gAlt,ha.sets,hb.sets],fun i h=>?_,fun i h=>?_,fun i j h=>?_⟩
 ·simp only [gAlt] at h ⊢;rw [if_neg (by omega),hb.first _ (by omega)]
 ·simp only [gAlt] at h ⊢;rw [if_neg (by omega),hb.last _ (by omega)]
 ·simp only [gAlt,blk] at h ⊢
  split<;>split
  ·omega
  ·rfl
  ·rfl
  ·exact hb.follow _ _ (by omega)
theorem zdH {a:GA} (h:Canon a):Canon (gAgain a):=
 ⟨h.sets,h.first,h.last,fun i j hij=>by
   simp only [gAgain] at hij ⊢
   rw [h.follow i j hij]
   rcases hij with hi | hj
   ·rw [h.last i hi];rfl
   ·rw [h.first j hj];simp⟩
theorem ze3 {a:GA} (h:Canon a):Canon (gMaybe a):=⟨h.sets,h.first,h.last,h.follow⟩
def iter (f:GA→GA):Nat→GA→GA
 | 0,z=>z
 | k+1,z=>f (iter f k z)
theorem zes {f:GA→GA} (hf:∀ a,Canon a→Canon (f a)):∀ k {z},Canon z→Canon (iter f k z)
 | 0,_,h=>h
 | k+1,_,h=>hf _ (zes hf k h)
def gRep (a:GA) (lo hi:Int):GA:=
 if hi < 0 then iter (gCat a) (max lo 1 - 1).toNat (if lo=0 then gMaybe (gAgain a) else gAgain a)
 else iter (gCat a) lo.toNat (iter (fun o=>gMaybe (gCat a o)) (hi - lo).toNat gEmpty)
theorem canon_rep {a:GA} (h:Canon a) (lo hi:Int):Canon (gRep a lo hi):=by
 unfold gRep
 split
 ·refine zes (fun b hb=>zcO h hb) _ ?_
  split
  ·exact ze3 (zdH h)
  ·exact zdH h
 ·exact zes (fun b hb=>zcO h hb) _ (zes (fun b hb=>ze3 (zcO h hb)) _ zbJ)
def gof:zj→GA:=cata fun x l=>
 if x.Kind=2 then gByte x.Set else if x.Kind=3 then l.foldl gCat gEmpty else if x.Kind=4 then l.foldl gAlt gNone
 else if x.Kind=5 then gRep (l.headD gEmpty) x.Lo x.Hi else gEmpty
theorem zcW (x:zj):gof x=if x.Kind=2 then gByte x.Set else if x.Kind=3 then x.Kids.foldl (fun o y=>gCat o (gof y)) gEmpty else if x.Kind=4 then x.Kids.foldl (fun o y=>gAlt o (gof y)) gNone
 else if x.Kind=5 then gRep ((x.Kids.map gof).headD gEmpty) x.Lo x.Hi else gEmpty:=by
 unfold gof;rw [zea];simp only [List.foldl_map]
theorem zap:∀ x,Canon (gof x):=by
 refine rxInd fun x ih=>?_
 have key:∀ (f:GA→GA→GA),(∀ a b,Canon a→Canon b→Canon (f a b))→∀ (l:List zj) (z:GA),(∀ y∈l,y∈x.Kids)→Canon z→Canon (l.foldl (fun o y=>f o (gof y)) z):=by
  intro f hf l
  induction l with
  | nil=>intro z _ h;exact h
  | cons y r ih2=>intro z hl h;exact ih2 _ (fun a ha=>hl a (List.mem_cons_of_mem _ ha)) (hf _ _ h (ih y (hl y (List.mem_cons_self ..))))
 rw [zcW]
 split
 ·exact canon_byte _
 ·split
  ·exact key gCat (fun a b=>zcO) _ _ (fun _ h=>h) zbJ
  ·split
   ·exact key gAlt (fun a b=>zhX) _ _ (fun _ h=>h) zdf
   ·split
    ·refine canon_rep ?_ _ _
     cases hq:x.Kids with
     | nil=>exact zbJ
     | cons y r=>exact ih y (by rw [hq];exact List.mem_cons_self ..)
    ·exact zbJ
end Go.Ev.Pl
namespace Go.Ev.Pl
open Go Go.Ev
def lst (n:Nat) (p:Nat→Bool) (off:Nat):List Int:=((List.range n).filter p).map fun i=>((i+off:Nat):Int)
theorem zaA {n:Nat} {p:Nat→Bool} {off:Nat} {x:Int}:x∈lst n p off↔∃ i,i < n∧p i=true∧x=((i+off:Nat):Int):=by
 simp only [lst,List.mem_map,List.mem_filter,List.mem_range]
 constructor
 ·rintro ⟨i,⟨h1,h2⟩,rfl⟩;exact ⟨i,h1,h2,rfl⟩
 ·rintro ⟨i,h1,h2,rfl⟩;exact ⟨i,⟨h1,h2⟩,rfl⟩
theorem zd1 (n:Nat) (p:Nat→Bool) (off:Nat):SS (lst n p off):=by
 unfold lst SS
 rw [List.pairwise_map]
 refine List.Pairwise.filter _ ?_
 exact List.pairwise_lt_range.imp fun h=>by omega
theorem zbe (n:Nat) (p:Nat→Bool) (off:Nat):(lst n p off).length≤n:=by
 unfold lst
 rw [List.length_map]
 exact Nat.le_trans (List.length_filter_le _ _) (by simp)
theorem lst_congr {n:Nat} {p q:Nat→Bool} {off:Nat} (h:∀ i,i < n→p i=q i):lst n p off=lst n q off:=by
 unfold lst
 rw [List.filter_congr fun i hi=>h i (List.mem_range.1 hi)]
theorem lst_left {n m:Nat} {p:Nat→Bool} {off:Nat} {q:Nat→Bool} (h1:∀ i,i < n→q i=p i) (h2:∀ i,n≤i→i < n+m→q i=false):lst n p off=lst (n+m) q off:=by
 refine zic (zd1 _ _ _) (zd1 _ _ _) fun x=>?_
 rw [zaA,zaA]
 constructor
 ·rintro ⟨i,hi,hp,rfl⟩;exact ⟨i,by omega,by rw [h1 i hi];exact hp,rfl⟩
 ·rintro ⟨i,hi,hp,rfl⟩
  rcases Nat.lt_or_ge i n with h | h
  ·exact ⟨i,h,by rw [← h1 i h];exact hp,rfl⟩
  ·rw [h2 i h hi] at hp;cases hp
theorem zhr {n m:Nat} {p:Nat→Bool} {off:Nat} {q:Nat→Bool} (h1:∀ i,i < n→q i=false) (h2:∀ i,i < m→q (n+i)=p i):lst m p (off+n)=lst (n+m) q off:=by
 refine zic (zd1 _ _ _) (zd1 _ _ _) fun x=>?_
 rw [zaA,zaA]
 constructor
 ·rintro ⟨i,hi,hp,rfl⟩;exact ⟨n+i,by omega,by rw [h2 i hi];exact hp,by omega⟩
 ·rintro ⟨i,hi,hp,rfl⟩
  rcases Nat.lt_or_ge i n with h | h
  ·rw [h1 i h] at hp;cases hp
  ·exact ⟨i - n,by omega,by rw [← h2 _ (by omega),show n+(i - n)=i by omega];exact hp,by omega⟩
theorem zfp {n m:Nat} {p p':Nat→Bool} {off:Nat} {q:Nat→Bool} {l:List Int} (hs:SS l) (hm:∀ x,x∈l↔x∈lst n p off∨x∈lst m p' (off+n)) (h1:∀ i,i < n→q i=p i) (h2:∀ i,i < m→q (n+i)=p' i):l=lst (n+m) q off:=by
 refine zic hs (zd1 _ _ _) fun x=>?_
 rw [hm,zaA,zaA,zaA]
 constructor
 ·rintro (⟨i,hi,hp,rfl⟩ | ⟨i,hi,hp,rfl⟩)
  ·exact ⟨i,by omega,by rw [h1 i hi];exact hp,rfl⟩
  ·exact ⟨n+i,by omega,by rw [h2 i hi];exact hp,by omega⟩
 ·rintro ⟨i,hi,hp,rfl⟩
  rcases Nat.lt_or_ge i n with h | h
  ·exact .inl ⟨i,h,by rw [← h1 i h];exact hp,rfl⟩
  ·exact .inr ⟨i - n,by omega,by rw [← h2 _ (by omega),show n+(i - n)=i by omega];exact hp,by omega⟩
def flw (g:GA) (off:Nat):List (List Int):=(List.range g.n).map fun i=>lst g.n (g.follow i) off
theorem zau (g:GA) (off:Nat):(flw g off).length=g.n:=by simp [flw]
theorem zcL (g:GA) (off:Nat) {i:Nat} (h:i < g.n):(flw g off)[i]'(by rw [zau];exact h)=lst g.n (g.follow i) off:=by simp [flw]
theorem flw_ext {g:GA} {off:Nat} {l:List (List Int)} (hl:l.length=g.n) (h:∀ (i:Nat) (hi:i < l.length),l[i]=lst g.n (g.follow i) off):l=flw g off:=by
 apply List.ext_getElem
 ·rw [hl,zau]
 ·intro i h1 h2
  rw [h i h1,zcL g off (by rw [hl] at h1;exact h1)]
def leadF (F:List (List Int)) (fr to:List Int):List (List Int):=F.mapIdx fun i f=>if (i:Int)∈fr then join f to else f
theorem za7 (F:List (List Int)) (fr to:List Int):(leadF F fr to).length=F.length:=by simp [leadF]
theorem zbI (F:List (List Int)) (fr to:List Int) {i:Nat} (h:i < F.length):(leadF F fr to)[i]'(by rw [za7];exact h)=if (i:Int)∈fr then join F[i] to else F[i]:=by simp [leadF]
theorem lead_cat (F0:List (List Int)) (a b:GA):leadF (F0++flw a F0.length++flw b (F0.length+a.n)) (lst a.n a.last F0.length) (lst b.n b.first (F0.length+a.n))=F0++flw (gCat a b) F0.length:=by
 apply List.ext_getElem
 ·rw [za7];simp only [List.length_append,zau];simp only [gCat];omega
 ·intro i h1 h2
  rw [za7] at h1
  rw [zbI _ _ _ h1]
  simp only [List.length_append,zau] at h1
  have hin:(i:Int)∈lst a.n a.last F0.length↔F0.length≤i∧i < F0.length+a.n∧a.last (i - F0.length)=true:=by
   rw [zaA]
   constructor
   ·rintro ⟨j,hj,hp,e⟩
    have:i=j+F0.length:=by omega
    subst this
    exact ⟨by omega,by omega,by rw [Nat.add_sub_cancel];exact hp⟩
   ·rintro ⟨q1,q2,q3⟩
    exact ⟨i - F0.length,by omega,q3,by omega⟩
  rcases Nat.lt_or_ge i F0.length with hi | hi
  ·rw [if_neg (by rw [hin];omega),List.getElem_append_left (by simp only [List.length_append,zau];omega),List.getElem_append_left hi,List.getElem_append_left hi]
  ·have hr:(F0++flw (gCat a b) F0.length)[i]'h2=lst (a.n+b.n) ((gCat a b).follow (i - F0.length)) F0.length:=by
    rw [List.getElem_append_right hi,zcL _ _ (by show _ < a.n+b.n;omega)];rfl
   rw [hr]
   rcases Nat.lt_or_ge i (F0.length+a.n) with hi2 | hi2
   ·have hl:(F0++flw a F0.length++flw b (F0.length+a.n))[i]'(by simp only [List.length_append,zau];omega)=lst a.n (a.follow (i - F0.length)) F0.length:=by
     rw [List.getElem_append_left (by simp only [List.length_append,zau];omega),List.getElem_append_right hi,zcL _ _ (by omega)]
    rw [hl]
    by_cases hla:a.last (i - F0.length)=true
    ·rw [if_pos (hin.2 ⟨hi,hi2,hla⟩)]
     obtain ⟨j1,j2⟩:=zb6 (lst a.n (a.follow (i - F0.length)) F0.length) (lst b.n b.first (F0.length+a.n))
     refine zfp j1 j2 (fun j hj=>?_) (fun j hj=>?_)
     ·simp only [gCat,blk];rw [if_pos (by omega),if_pos hj]
     ·simp only [gCat,blk];rw [if_pos (by omega),if_neg (by omega),hla,Nat.add_sub_cancel_left];rfl
    ·rw [if_neg (fun h=>hla (hin.1 h).2.2)]
     have hla:a.last (i - F0.length)=false:=by simpa using hla
     refine lst_left (fun j hj=>?_) (fun j h1 h2=>?_)
     ·simp only [gCat,blk];rw [if_pos (by omega),if_pos hj]
     ·simp only [gCat,blk];rw [if_pos (by omega),if_neg (by omega),hla];rfl
   ·rw [if_neg (by rw [hin];omega)]
    have hl:(F0++flw a F0.length++flw b (F0.length+a.n))[i]'(by simp only [List.length_append,zau];omega)=lst b.n (b.follow (i - (F0.length+a.n))) (F0.length+a.n):=by
     rw [List.getElem_append_right (by simp only [List.length_append,zau];omega)]
     simp only [List.length_append,zau]
     rw [zcL _ _ (by omega)]
    rw [hl]
    refine zhr (fun j hj=>?_) (fun j hj=>?_)
    ·simp only [gCat,blk];rw [if_neg (by omega),if_pos hj]
    ·simp only [gCat,blk];rw [if_neg (by omega),if_neg (by omega),show i - F0.length - a.n=i - (F0.length+a.n) by omega,Nat.add_sub_cancel_left]
theorem lead_again (F0:List (List Int)) (a:GA):leadF (F0++flw a F0.length) (lst a.n a.last F0.length) (lst a.n a.first F0.length)=F0++flw (gAgain a) F0.length:=by
 apply List.ext_getElem
 ·rw [za7];simp only [List.length_append,zau];rfl
 ·intro i h1 h2
  rw [za7] at h1
  rw [zbI _ _ _ h1]
  simp only [List.length_append,zau] at h1
  have hin:(i:Int)∈lst a.n a.last F0.length↔F0.length≤i∧i < F0.length+a.n∧a.last (i - F0.length)=true:=by
   rw [zaA]
   constructor
   ·rintro ⟨j,hj,hp,e⟩
    have:i=j+F0.length:=by omega
    subst this
    exact ⟨by omega,by omega,by rw [Nat.add_sub_cancel];exact hp⟩
   ·rintro ⟨q1,q2,q3⟩
    exact ⟨i - F0.length,by omega,q3,by omega⟩
  rcases Nat.lt_or_ge i F0.length with hi | hi
  ·rw [if_neg (by rw [hin];omega),List.getElem_append_left hi,List.getElem_append_left hi]
  ·have hr:(F0++flw (gAgain a) F0.length)[i]'h2=lst a.n ((gAgain a).follow (i - F0.length)) F0.length:=by
    rw [List.getElem_append_right hi,zcL _ _ (by show _ < a.n;omega)];rfl
   have hl:(F0++flw a F0.length)[i]'(by simp only [List.length_append,zau];omega)=lst a.n (a.follow (i - F0.length)) F0.length:=by
    rw [List.getElem_append_right hi,zcL _ _ (by omega)]
   rw [hr,hl]
   by_cases hla:a.last (i - F0.length)=true
   ·rw [if_pos (hin.2 ⟨hi,by omega,hla⟩)]
    obtain ⟨j1,j2⟩:=zb6 (lst a.n (a.follow (i - F0.length)) F0.length) (lst a.n a.first F0.length)
    refine zic j1 (zd1 _ _ _) fun x=>?_
    rw [j2,zaA,zaA,zaA]
    simp only [gAgain,hla,Bool.true_and,Bool.or_eq_true]
    constructor
    ·rintro (⟨j,q1,q2,rfl⟩ | ⟨j,q1,q2,rfl⟩)
     ·exact ⟨j,q1,.inl q2,rfl⟩
     ·exact ⟨j,q1,.inr q2,rfl⟩
    ·rintro ⟨j,q1,q2 | q2,rfl⟩
     ·exact .inl ⟨j,q1,q2,rfl⟩
     ·exact .inr ⟨j,q1,q2,rfl⟩
   ·rw [if_neg (fun h=>hla (hin.1 h).2.2)]
    have hla:a.last (i - F0.length)=false:=by simpa using hla
    exact lst_congr fun j hj=>by simp [gAgain,hla]
theorem flw_alt (a b:GA) (off:Nat):flw a off++flw b (off+a.n)=flw (gAlt a b) off:=by
 refine flw_ext (by simp [zau,gAlt]) fun i hi=>?_
 simp only [List.length_append,zau] at hi
 show _=lst (a.n+b.n) _ off
 rcases Nat.lt_or_ge i a.n with h | h
 ·rw [List.getElem_append_left (by rw [zau];exact h),zcL _ _ h]
  refine lst_left (fun j hj=>?_) (fun j h1 h2=>?_)
  ·simp only [gAlt,blk];rw [if_pos h,if_pos hj]
  ·simp only [gAlt,blk];rw [if_pos h,if_neg (by omega)]
 ·rw [List.getElem_append_right (by rw [zau];exact h)]
  simp only [zau]
  rw [zcL _ _ (by omega)]
  refine zhr (fun j hj=>?_) (fun j hj=>?_)
  ·simp only [gAlt,blk];rw [if_neg (by omega),if_pos hj]
  ·simp only [gAlt,blk];rw [if_neg (by omega),if_neg (by omega),Nat.add_sub_cancel_left]
def pc (g:GA) (off:Nat):zq:=⟨lst g.n g.first off,lst g.n g.last off,g.null⟩
theorem cat_first (a b:GA) (off:Nat):(if a.null=true then join (lst a.n a.first off) (lst b.n b.first (off+a.n)) else lst a.n a.first off)=lst (a.n+b.n) (gCat a b).first off:=by
 split
 ·rename_i h
  obtain ⟨j1,j2⟩:=zb6 (lst a.n a.first off) (lst b.n b.first (off+a.n))
  exact zfp j1 j2 (fun j hj=>by simp only [gCat];rw [if_pos hj]) (fun j hj=>by simp only [gCat];rw [if_neg (by omega),h,Nat.add_sub_cancel_left];rfl)
 ·rename_i h
  have h:a.null=false:=by simpa using h
  exact lst_left (fun j hj=>by simp only [gCat];rw [if_pos hj]) (fun j h1 h2=>by simp only [gCat];rw [if_neg (by omega),h];rfl)
theorem cat_last (a b:GA) (off:Nat):(if b.null=true then join (lst a.n a.last off) (lst b.n b.last (off+a.n)) else lst b.n b.last (off+a.n))=lst (a.n+b.n) (gCat a b).last off:=by
 split
 ·rename_i h
  obtain ⟨j1,j2⟩:=zb6 (lst a.n a.last off) (lst b.n b.last (off+a.n))
  exact zfp j1 j2 (fun j hj=>by simp only [gCat];rw [if_pos hj,h];rfl) (fun j hj=>by simp only [gCat];rw [if_neg (by omega),Nat.add_sub_cancel_left])
 ·rename_i h
  have h:b.null=false:=by simpa using h
  exact zhr (fun j hj=>by simp only [gCat];rw [if_pos hj,h];rfl) (fun j hj=>by simp only [gCat];rw [if_neg (by omega),Nat.add_sub_cancel_left])
theorem alt_first (a b:GA) (off:Nat):join (lst a.n a.first off) (lst b.n b.first (off+a.n))=lst (a.n+b.n) (gAlt a b).first off:=by
 obtain ⟨j1,j2⟩:=zb6 (lst a.n a.first off) (lst b.n b.first (off+a.n))
 exact zfp j1 j2 (fun j hj=>by simp only [gAlt];rw [if_pos hj]) (fun j hj=>by simp only [gAlt];rw [if_neg (by omega),Nat.add_sub_cancel_left])
theorem alt_last (a b:GA) (off:Nat):join (lst a.n a.last off) (lst b.n b.last (off+a.n))=lst (a.n+b.n) (gAlt a b).last off:=by
 obtain ⟨j1,j2⟩:=zb6 (lst a.n a.last off) (lst b.n b.last (off+a.n))
 exact zfp j1 j2 (fun j hj=>by simp only [gAlt];rw [if_pos hj]) (fun j hj=>by simp only [gAlt];rw [if_neg (by omega),Nat.add_sub_cancel_left])
end Go.Ev.Pl
namespace Go.Ev.Pl
open Go Go.Ev
theorem set_eq {α:Type} {l:List α} {i:Nat} {x:α} {m:List α} (hl:m.length=l.length) (h1:∀ (j:Nat) (h:j < l.length),j≠i→m[j]'(by omega)=l[j]) (h2:∀ h:i < l.length,m[i]'(by omega)=x):l.set i x=m:=by
 apply List.ext_getElem
 ·simp [hl]
 ·intro j a b
  rw [List.getElem_set]
  split
  ·rename_i e;subst e;exact (h2 (by simpa using a)).symm
  ·rename_i e;exact (h1 j (by simpa using a) (fun h=>e h.symm)).symm
theorem zdc {α:Type} {L:List (List α)} {i:Nat} (h:i < L.length):(L.take (i+1)).flatten=(L.take i).flatten++L[i]:=by
 rw [List.take_succ_eq_append_getElem h,List.flatten_append];simp
theorem zb9 {α:Type} (L:List (List α)) (i:Nat):(L.take i).flatten.length≤L.flatten.length:=by
 conv=>rhs;rw [← List.take_append_drop i L]
 rw [List.flatten_append,List.length_append];omega
theorem concat_ok (L:List (List Int)) (hL:L.length < 1099511627776) (hT:L.flatten.length < 1000000000):zS L L.flatten:=by
 refine zdh L _ ⟨fun s t=>∃ i:Nat,t=i∧i≤L.length∧s=(L.take i).flatten.length,fun s t=>(L.length - t).toNat,⟨0,rfl,by omega,by simp⟩,?_⟩
 rintro s t ⟨i,rfl,hi,rfl⟩
 have hb:=zb9 L i
 refine ⟨fun ht=>?_,fun ht=>?_⟩
 ·have ht:i < L.length:=by simpa using ht
  have hs:=congrArg List.length (zdc ht)
  rw [List.length_append] at hs
  have hb2:=zb9 L (i+1)
  have hg:gd L (i:Int)=L[i]:=z8 ht
  have hw1:w64 (((L.take i).flatten.length:Int)+(gd L (i:Int)).length)=((L.take (i+1)).flatten.length:Int):=by
   rw [hg,hs];exact (zG (by omega) (by omega)).trans (by omega)
  have hw2:w64 ((i:Int)+1)=((i+1:Nat):Int):=zG (by omega) (by omega)
  rw [hw1,hw2]
  exact ⟨True,fun _=>⟨⟨i+1,rfl,by omega,rfl⟩,by dsimp only;omega⟩,by omega,by omega,fun h=>absurd (of_decide_eq_true h) (by omega),fun _=>trivial⟩
 ·refine ⟨⟨by omega,by omega⟩,fun l t=>∃ i:Nat,t=i∧i≤L.length∧l=(L.take i).flatten,fun l t=>(L.length - t).toNat,⟨0,rfl,by omega,rfl⟩,?_⟩
  rintro l t ⟨j,rfl,hj,rfl⟩
  have hb3:=zb9 L j
  refine ⟨fun ht=>?_,fun ht=>?_⟩
  ·have ht:j < L.length:=by simpa using ht
   have hg:gd L (j:Int)=L[j]:=z8 ht
   have hs:=zdc ht
   have hs2:=congrArg List.length hs
   rw [List.length_append] at hs2
   have hb2:=zb9 L (j+1)
   have hw2:w64 ((j:Int)+1)=((j+1:Nat):Int):=zG (by omega) (by omega)
   rw [hw2,hg]
   exact ⟨by omega,by omega,by omega,⟨j+1,rfl,by omega,hs.symm⟩,by dsimp only;omega⟩
  ·have:j=L.length:=by have:¬ j < L.length:=by simpa using ht
                       omega
   subst this
   rw [List.take_of_length_le (Nat.le_refl _)]
theorem zdy (a b:List Int) (ha:a.length < 100000000) (hb:b.length < 100000000):zY a b (join a b):=by
 have h:=concat_ok [a,b] (by simp) (by simp;omega)
 have e:[a,b].flatten=a++b:=by simp
 rw [e] at h
 exact zgN a b _ ⟨_,h,by simp;omega,sort_len _,by rw [sort_len];simp;omega,rfl⟩
theorem lead_ok (fr to:List Int) (b:zr) (hfr:SS fr) (hin:∀ x∈fr,0≤x∧x < b.follow.length) (hto:to.length < 10000000) (hF:∀ f∈b.follow,f.length < 10000000) (hlen:fr.length < 10000000):zaW fr to b { sets:=b.sets,follow:=leadF b.follow fr to }:=by
 refine zeA fr to b _ ⟨fun F t=>∃ i:Nat,t=i∧i≤fr.length∧F=leadF b.follow (fr.take i) to,fun F t=>(fr.length - t).toNat,⟨0,rfl,by omega,by simp [leadF];exact (List.ext_getElem (by simp) (fun j h1 h2=>by simp))⟩,?_⟩
 rintro F t ⟨i,rfl,hi,rfl⟩
 refine ⟨fun ht=>?_,fun ht=>?_⟩
 ·have ht:i < fr.length:=by simpa using ht
  have hg:gd fr (i:Int)=fr[i]:=z8 ht
  rw [hg]
  obtain ⟨q0,q1⟩:=hin _ (List.getElem_mem ht)
  obtain ⟨e,he⟩:∃ e:Nat,fr[i]=e:=⟨fr[i].toNat,by omega⟩
  rw [he] at q1 ⊢
  have he2:e < b.follow.length:=by omega
  have hl:(leadF b.follow (fr.take i) to).length=b.follow.length:=za7 _ _ _
  have hnot:∀ j:Nat,(hj:j < b.follow.length)→j=e→¬ ((j:Int)∈fr.take i):=by
   rintro j hj rfl hm
   obtain ⟨k,hk,hk2⟩:=List.mem_iff_getElem.1 hm
   simp only [List.length_take] at hk
   rw [List.getElem_take] at hk2
   have:=List.pairwise_iff_getElem.1 hfr k i (by omega) ht (by omega)
   omega
  have hge:gd (leadF b.follow (fr.take i) to) (e:Int)=b.follow[e]:=by
   rw [z8 (by rw [hl];exact he2),zbI _ _ _ he2,if_neg (hnot e he2 rfl)]
  have hw2:w64 ((i:Int)+1)=((i+1:Nat):Int):=zG (by omega) (by omega)
  refine ⟨by omega,by omega,by omega,by rw [hl];omega,by rw [hl];omega,join b.follow[e] to,?_,by omega,by rw [hl];omega,by rw [hl];omega,?_⟩
  ·rw [hge];exact zdy _ _ (by have:=hF _ (List.getElem_mem he2);omega) (by omega)
  ·rw [hw2]
   refine ⟨⟨i+1,rfl,by omega,?_⟩,by dsimp only;omega⟩
   show List.set _ e _=_
   refine set_eq (by rw [za7,za7]) (fun j hj hne=>?_) (fun hj=>?_)
   ·rw [hl] at hj
    rw [zbI _ _ _ hj,zbI _ _ _ hj,List.take_succ_eq_append_getElem ht,he]
    have:((j:Int)∈fr.take i++[(e:Int)])↔(j:Int)∈fr.take i:=by
     rw [List.mem_append,List.mem_singleton]
     constructor
     ·rintro (h | h)
      ·exact h
      ·exact absurd (by omega) hne
     ·exact .inl
    simp only [this]
   ·rw [zbI _ _ _ he2,List.take_succ_eq_append_getElem ht,he,if_pos (by simp)]
 ·have:i=fr.length:=by have:¬ i < fr.length:=by simpa using ht
                       omega
  subst this
  rw [List.take_of_length_le (Nat.le_refl _)]
theorem zd6 (g:GA) (off:Nat) (h:g.n < 10000000):∀ f∈flw g off,f.length < 10000000:=by
 intro f hf
 simp only [flw,List.mem_map,List.mem_range] at hf
 obtain ⟨i,_,rfl⟩:=hf
 have:=zbe g.n (g.follow i) off
 omega
theorem cat_ok (F0:List (List Int)) (S:List za) (a b:GA) (hF:∀ f∈F0,f.length < 10000000) (hab:a.n+b.n < 1000000) (hF2:F0.length < 1000000) :
 zaD (pc a F0.length) (pc b (F0.length+a.n)) { sets:=S,follow:=F0++flw a F0.length++flw b (F0.length+a.n) } (pc (gCat a b) F0.length) { sets:=S,follow:=F0++flw (gCat a b) F0.length }:=by
 have hla:=zbe a.n a.last F0.length
 have hlb:=zbe b.n b.first (F0.length+a.n)
 have hlb2:=zbe b.n b.last (F0.length+a.n)
 have hla2:=zbe a.n a.first F0.length
 have hlead:=lead_ok (lst a.n a.last F0.length) (lst b.n b.first (F0.length+a.n)) { sets:=S,follow:=F0++flw a F0.length++flw b (F0.length+a.n) } (zd1 _ _ _) (fun x hx=>by
  obtain ⟨i,hi,_,rfl⟩:=zaA.1 hx
  simp only [List.length_append,zau];omega) (by omega) (fun f hf=>by
  rcases List.mem_append.1 hf with hf | hf
  ·rcases List.mem_append.1 hf with hf | hf
   ·exact hF f hf
   ·exact zd6 a _ (by omega) f hf
  ·exact zd6 b _ (by omega) f hf) (by omega)
 simp only [lead_cat] at hlead
 refine ze7 _ _ _ _ _ ⟨_,hlead,fun l=>l=lst (a.n+b.n) (gCat a b).first F0.length,?_,fun hn=>⟨_,zdy _ _ (by show (lst _ _ _).length < _;omega) (by show (lst _ _ _).length < _;omega),?_⟩,fun hn=>?_⟩
 ·rintro l rfl
  refine ⟨fun l=>l=lst (a.n+b.n) (gCat a b).last F0.length,?_,fun hn=>⟨_,zdy _ _ (by show (lst _ _ _).length < _;omega) (by show (lst _ _ _).length < _;omega),?_⟩,fun hn=>?_⟩
  ·rintro l rfl;exact ⟨rfl,rfl⟩
  ·have:=cat_last a b F0.length
   rw [if_pos (show b.null=true from hn)] at this;exact this
  ·have:=cat_last a b F0.length
   rw [if_neg (by show ¬ (b.null=true);have:b.null=false:=hn;simp [this])] at this;exact this
 ·have:=cat_first a b F0.length
  rw [if_pos (show a.null=true from hn)] at this;exact this
 ·have:=cat_first a b F0.length
  rw [if_neg (by show ¬ (a.null=true);have:a.null=false:=hn;simp [this])] at this;exact this
end Go.Ev.Pl
namespace Go.Ev.Pl
open Go Go.Ev
def Rgt (x:zj):Prop:=∃ d,rgt x d=true
theorem zdn {x:zj} (h:Rgt x):ownB x=true∧∀ k∈x.Kids,Rgt k:=by
 obtain ⟨d,h⟩:=h
 rw [zgn] at h
 simp only [Bool.and_eq_true,List.all_eq_true] at h
 exact ⟨h.1.2,fun k hk=>⟨d - 1,(h.2 k hk).2⟩⟩
theorem zeV {x:zj} (h:ownB x=true) (h5:x.Kind=5):(∃ k,x.Kids=[k])∧0≤x.Lo∧x.Lo≤20∧(x.Hi = -1∨1≤x.Hi∧x.Lo≤x.Hi∧x.Hi≤20):=by
 simp only [ownB,if_pos h5,timesB,Bool.and_eq_true,decide_eq_true_eq,Bool.or_eq_true,beq_iff_eq] at h
 obtain ⟨_,h1,h2,h3,h4⟩:=h
 refine ⟨?_,h2,h3,?_⟩
 ·match hq:x.Kids,h1 with
  | [k],_=>exact ⟨k,rfl⟩
 ·rcases h4 with h4 | ⟨h4,h5⟩
  ·exact .inl h4
  ·exact .inr (by omega)
theorem own_kids {x:zj} (h:ownB x=true) (h34:x.Kind=3∨x.Kind=4):2≤x.Kids.length:=by
 simp only [ownB] at h
 rw [if_neg (by omega),if_neg (by omega),if_neg (by omega),if_pos h34] at h
 simp only [Bool.and_eq_true,decide_eq_true_eq] at h
 exact h.2.2
theorem zeo {x:zj} (h:ownB x=true):x.Kind=1∨x.Kind=2∨x.Kind=3∨x.Kind=4∨x.Kind=5:=by
 simp only [ownB] at h
 split at h
 ·omega
 ·split at h
  ·omega
  ·split at h
   ·omega
   ·split at h
    ·omega
    ·cases h
theorem iter_n {f:GA→GA} {a:GA} (hf:∀ o,(f o).n=a.n+o.n):∀ k z,(iter f k z).n=k * a.n+z.n
 | 0,z=>by simp [iter]
 | k+1,z=>by rw [iter,hf,iter_n hf k,Nat.succ_mul];omega
def cpS (a:GA) (k:Nat):List za:=(List.replicate k a.sets).flatten
theorem zfr {f:GA→GA} {a:GA} (hf:∀ o,(f o).sets=a.sets++o.sets):∀ k z,(iter f k z).sets=cpS a k++z.sets
 | 0,z=>by simp [iter,cpS]
 | k+1,z=>by rw [iter,hf,zfr hf k];simp [cpS,List.replicate_succ]
theorem zhy (a:GA):∀ k z,(iter (gCat a) k z).null=(z.null && (decide (k=0) || a.null))
 | 0,z=>by simp [iter]
 | k+1,z=>by
   rw [iter]
   show (a.null && (iter (gCat a) k z).null)=_
   rw [zhy a k z]
   cases a.null<;>cases z.null<;>simp
theorem rep_n (a:GA) {lo hi:Int} (h1:0≤lo) (h2:hi = -1∨1≤hi∧lo≤hi):(gRep a lo hi).n=(max 1 (max lo hi)).toNat * a.n:=by
 unfold gRep
 split
 ·rw [iter_n (f:=gCat a) (a:=a) (fun _=>rfl)]
  have:(if lo=0 then gMaybe (gAgain a) else gAgain a).n=a.n:=by split<;>rfl
  rw [this,← Nat.succ_mul]
  congr 1
  omega
 ·rw [iter_n (f:=gCat a) (a:=a) (fun _=>rfl),iter_n (f:=fun o=>gMaybe (gCat a o)) (a:=a) (fun _=>rfl)]
  show _+(_+0)=_
  rw [Nat.add_zero,← Nat.add_mul]
  congr 1
  omega
theorem rep_sets (a:GA) {lo hi:Int} (h1:0≤lo) (h2:hi = -1∨1≤hi∧lo≤hi):(gRep a lo hi).sets=cpS a (max 1 (max lo hi)).toNat:=by
 have key:∀ j k,cpS a j++cpS a k=cpS a (j+k):=fun j k=>by
  simp only [cpS];rw [← List.flatten_append,List.replicate_append_replicate]
 unfold gRep
 split
 ·rw [zfr (f:=gCat a) (a:=a) (fun _=>rfl)]
  have:(if lo=0 then gMaybe (gAgain a) else gAgain a).sets=cpS a 1:=by split<;>simp [cpS,gMaybe,gAgain]
  rw [this,key]
  congr 1
  omega
 ·rw [zfr (f:=gCat a) (a:=a) (fun _=>rfl),zfr (f:=fun o=>gMaybe (gCat a o)) (a:=a) (fun _=>rfl)]
  show _++(_++[])=_
  rw [List.append_nil,key]
  congr 1
  omega
theorem rep_null (a:GA) {lo hi:Int} (h1:0≤lo) (h2:hi = -1∨1≤hi∧lo≤hi):(gRep a lo hi).null=(decide (lo≤0) || a.null):=by
 unfold gRep
 split
 ·rw [zhy]
  by_cases h:lo=0
  ·subst h;simp [gMaybe,gAgain];left;rfl
  ·have:¬ lo≤0:=by omega
   simp only [if_neg h,gAgain,this,decide_false,Bool.false_or]
   cases a.null<;>simp
 ·rw [zhy]
  have hin:∀ k,(iter (fun o=>gMaybe (gCat a o)) k gEmpty).null=true:=by
   intro k;cases k<;>rfl
  rw [hin,Bool.true_and]
  congr 1
  simp only [decide_eq_decide];omega
theorem zhK {f:GA→GA→GA} (hf:∀ a b,(f a b).n=a.n+b.n):∀ (l:List zj) (z:GA),(l.foldl (fun o y=>f o (gof y)) z).n=z.n+(l.map fun y=>(gof y).n).sum
 | [],z=>by simp
 | y :: r,z=>by rw [List.foldl_cons,zhK hf r,hf];simp;omega
theorem gof_n:∀ x,Rgt x→(gof x).n=sizeN x:=by
 refine rxInd fun x ih hr=>?_
 obtain ⟨ho,hk⟩:=zdn hr
 have hkn:(x.Kids.map fun y=>(gof y).n)=x.Kids.map sizeN:=List.map_congr_left fun y hy=>ih y hy (hk y hy)
 rw [zcW,zcv]
 rcases zeo ho with h | h | h | h | h
 ·simp [h,gEmpty]
 ·simp [h,gByte]
 ·simp only [h]
  simp only [show ¬ ((3:Int)=2) by omega,if_false,if_true,show (3:Int)≤3∧(3:Int)≤5 from ⟨by omega,by omega⟩,show ¬ ((3:Int)=5) by omega]
  rw [zhK (f:=gCat) (fun _ _=>rfl),hkn]
  show 0+_=_;simp
 ·simp only [h]
  simp only [show ¬ ((4:Int)=2) by omega,show ¬ ((4:Int)=3) by omega,if_false,if_true,show (3:Int)≤4∧(4:Int)≤5 from ⟨by omega,by omega⟩,show ¬ ((4:Int)=5) by omega]
  rw [zhK (f:=gAlt) (fun _ _=>rfl),hkn]
  show 0+_=_;simp
 ·obtain ⟨⟨k,hq⟩,h1,h2,h3⟩:=zeV ho h
  simp only [h]
  simp only [show ¬ ((5:Int)=2) by omega,show ¬ ((5:Int)=3) by omega,show ¬ ((5:Int)=4) by omega,if_false,if_true,show (3:Int)≤5∧(5:Int)≤5 from ⟨by omega,by omega⟩]
  rw [hq]
  simp only [List.map_cons,List.map_nil,List.headD_cons,List.sum_cons,List.sum_nil,Nat.add_zero]
  rw [rep_n _ h1 (by omega),ih k (by rw [hq];simp) (hk k (by rw [hq];simp)),Nat.mul_comm]
  congr 1
  simp only [timesN];omega
theorem zeJ:∀ (l:List zj) (z:GA),(l.foldl (fun o y=>gCat o (gof y)) z).null=(z.null && l.all fun y=>(gof y).null)
 | [],z=>by simp
 | y :: r,z=>by rw [List.foldl_cons,zeJ r];simp [gCat,Bool.and_assoc]
theorem zeK:∀ (l:List zj) (z:GA),(l.foldl (fun o y=>gAlt o (gof y)) z).null=(z.null || l.any fun y=>(gof y).null)
 | [],z=>by simp
 | y :: r,z=>by rw [List.foldl_cons,zeK r];simp [gAlt,Bool.or_assoc]
theorem all_congr' {l:List zj} {p q:zj→Bool} (h:∀ y∈l,p y=q y):l.all p=l.all q:=by
 induction l with
 | nil=>rfl
 | cons y r ih=>simp only [List.all_cons];rw [h y (List.mem_cons_self ..),ih fun z hz=>h z (List.mem_cons_of_mem _ hz)]
theorem any_congr' {l:List zj} {p q:zj→Bool} (h:∀ y∈l,p y=q y):l.any p=l.any q:=by
 induction l with
 | nil=>rfl
 | cons y r ih=>simp only [List.any_cons];rw [h y (List.mem_cons_self ..),ih fun z hz=>h z (List.mem_cons_of_mem _ hz)]
theorem gof_null:∀ x,Rgt x→(gof x).null=nullB x:=by
 refine rxInd fun x ih hr=>?_
 obtain ⟨ho,hk⟩:=zdn hr
 rw [zcW,nullB_eq]
 rcases zeo ho with h | h | h | h | h
 ·simp [h,gEmpty]
 ·simp [h,gByte]
 ·simp only [h]
  simp only [show ¬ ((3:Int)=2) by omega,show ¬ ((3:Int)=1) by omega,if_false,if_true]
  rw [zeJ,all_congr' fun y hy=>ih y hy (hk y hy)];rfl
 ·simp only [h]
  simp only [show ¬ ((4:Int)=2) by omega,show ¬ ((4:Int)=3) by omega,show ¬ ((4:Int)=1) by omega,if_false,if_true]
  rw [zeK,any_congr' fun y hy=>ih y hy (hk y hy)];rfl
 ·obtain ⟨⟨k,hq⟩,h1,h2,h3⟩:=zeV ho h
  simp only [h]
  simp only [show ¬ ((5:Int)=2) by omega,show ¬ ((5:Int)=3) by omega,show ¬ ((5:Int)=4) by omega,show ¬ ((5:Int)=1) by omega,if_false,if_true]
  rw [hq]
  simp only [List.map_cons,List.map_nil,List.headD_cons,List.all_cons,List.all_nil,Bool.and_true]
  rw [rep_null _ h1 (by omega),ih k (by rw [hq];simp) (hk k (by rw [hq];simp))]
theorem zero_null:∀ x,Rgt x→sizeN x=0→nullB x=true:=by
 refine rxInd fun x ih hr h0=>?_
 obtain ⟨ho,hk⟩:=zdn hr
 rw [zcv] at h0
 rw [nullB_eq]
 have hsum:(x.Kids.map sizeN).sum=0→∀ y∈x.Kids,nullB y=true:=fun h y hy=>ih y hy (hk y hy) (by
  have:=List.sum_eq_zero_iff_forall_eq_nat.1 h (sizeN y) (List.mem_map.2 ⟨y,hy,rfl⟩);exact this)
 rcases zeo ho with h | h | h | h | h
 ·simp [h]
 ·simp [h] at h0
 ·simp only [h] at h0 ⊢
  simp at h0
  simp only [show ¬ ((3:Int)=1) by omega,if_false,if_true,List.all_eq_true]
  exact hsum h0
 ·simp only [h] at h0 ⊢
  simp at h0
  have h2:=own_kids ho (.inr h)
  simp only [show ¬ ((4:Int)=1) by omega,show ¬ ((4:Int)=3) by omega,if_false,if_true]
  have hm:x.Kids[0]'(by omega)∈x.Kids:=List.getElem_mem _
  exact List.any_eq_true.2 ⟨_,hm,hsum h0 _ hm⟩
 ·obtain ⟨⟨k,hq⟩,h1,h2,h3⟩:=zeV ho h
  simp only [h] at h0 ⊢
  simp only [show ¬ ((5:Int)=2) by omega,if_false,if_true,show (3:Int)≤5∧(5:Int)≤5 from ⟨by omega,by omega⟩] at h0
  have ht:1≤timesN x:=by simp only [timesN];omega
  have hs:(x.Kids.map sizeN).sum=0:=by
   rcases Nat.mul_eq_zero.1 h0 with h | h
   ·exact h
   ·omega
  simp only [show ¬ ((5:Int)=3) by omega,show ¬ ((5:Int)=4) by omega,show ¬ ((5:Int)=1) by omega,if_false,if_true]
  have:x.Kids.all nullB=true:=List.all_eq_true.2 (hsum hs)
  rw [this];simp
theorem gof_zero {x:zj} (hr:Rgt x) (h0:sizeN x=0):gof x=gEmpty:=
 canon_zero (zap x) ((gof_n x hr).trans h0) ((gof_null x hr).trans (zero_null x hr h0))
end Go.Ev.Pl
namespace Go.Ev.Pl
open Go Go.Ev
def hF (h:Nat→GA) (m n:Nat):Nat→List (List Int)
 | 0=>[]
 | N+1=>hF h m n N++flw (h N) (m+N * n)
theorem hF_len {h:Nat→GA} {m n:Nat} (hn:∀ j,(h j).n=n):∀ N,(hF h m n N).length=N * n
 | 0=>by simp [hF]
 | N+1=>by rw [hF,List.length_append,hF_len hn N,zau,hn,Nat.succ_mul]
theorem hF_congr {h h':Nat→GA} {m n:Nat}:∀ N,(∀ j,j < N→h j=h' j)→hF h m n N=hF h' m n N
 | 0,_=>rfl
 | N+1,e=>by rw [hF,hF,hF_congr N (fun j hj=>e j (by omega)),e N (by omega)]
theorem zg2 {h:Nat→GA} {m n:Nat} (hs:∀ j,(h j).n < 10000000):∀ N,∀ f∈hF h m n N,f.length < 10000000
 | 0,f,hf=>by simp [hF] at hf
 | N+1,f,hf=>by
   rw [hF,List.mem_append] at hf
   rcases hf with hf | hf
   ·exact zg2 hs N f hf
   ·exact zd6 _ _ (hs N) f hf
theorem cpS_succ (a:GA) (k:Nat):cpS a (k+1)=cpS a k++a.sets:=by
 simp only [cpS,List.replicate_succ',List.flatten_append];simp
structure Room (F0:List (List Int)) (S:List za) (n:Nat):Prop where
 same:S.length=F0.length
 small:∀ f∈F0,f.length < 10000000
 room:F0.length+n < 1000000
def PieceOk (x:zj):Prop:=∀ F0 S,Room F0 S (gof x).n→zak x { sets:=S,follow:=F0 } (pc (gof x) F0.length) { sets:=S++(gof x).sets,follow:=F0++flw (gof x) F0.length }
theorem copies_ok {k:zj} (hp:PieceOk k) (N:Nat) (hN:N≤1000) (F0:List (List Int)) (S:List za) (hr:Room F0 S (N * (gof k).n)) :
 zan k N { sets:=S,follow:=F0 } ((List.range N).map fun i=>pc (gof k) (F0.length+i * (gof k).n)) { sets:=S++cpS (gof k) N,follow:=F0++hF (fun _=>gof k) F0.length (gof k).n N }:=by
 have hc:=zap k
 refine zdO k N _ _ _ ⟨fun s f o t=>∃ i:Nat,t=i∧i≤N∧s=S++cpS (gof k) i∧f=F0++hF (fun _=>gof k) F0.length (gof k).n i∧o=(List.range i).map fun i=>pc (gof k) (F0.length+i * (gof k).n),
  fun _ _ _ t=>(N - t).toNat,⟨0,rfl,by omega,by simp [cpS],by simp [hF],rfl⟩,?_⟩
 rintro s f o t ⟨i,rfl,hi,rfl,rfl,rfl⟩
 refine ⟨fun ht=>?_,fun ht=>?_⟩
 ·have ht:i < N:=by simpa using ht
  have hle:(i+1) * (gof k).n≤N * (gof k).n:=Nat.mul_le_mul_right _ ht
  rw [Nat.add_mul,Nat.one_mul] at hle
  have hlen:(F0++hF (fun _=>gof k) F0.length (gof k).n i).length=F0.length+i * (gof k).n:=by rw [List.length_append,hF_len fun _=>rfl]
  have hroom:=hr.room
  have hsl:∀ j,(cpS (gof k) j).length=j * (gof k).n:=fun j=>by simp [cpS,hc.sets]
  have:=hp (F0++hF (fun _=>gof k) F0.length (gof k).n i) (S++cpS (gof k) i) ⟨by rw [hlen,List.length_append,hr.same,hsl],fun f hf=>by
   rcases List.mem_append.1 hf with hf | hf
   ·exact hr.small f hf
   ·exact zg2 (fun _=>by omega) i f hf,by rw [hlen];omega⟩
  rw [hlen,List.append_assoc,List.append_assoc,← cpS_succ] at this
  have hw2:w64 ((i:Int)+1)=((i+1:Nat):Int):=zG (by omega) (by omega)
  refine ⟨_,_,this,by simp;omega,?_⟩
  rw [hw2]
  exact ⟨⟨i+1,rfl,by omega,rfl,rfl,by rw [List.range_succ,List.map_append];rfl⟩,by dsimp only;omega⟩
 ·have:i=N:=by have:¬ i < N:=by simpa using ht
               omega
  subst this
  exact ⟨rfl,rfl⟩
def fromEnd (h:Nat→GA) (mb:Nat→Bool) (N:Nat):Nat→GA
 | 0=>gEmpty
 | i+1=>let o:=gCat (h (N - 1 - i)) (fromEnd h mb N i);if mb (N - 1 - i)=true then gMaybe o else o
theorem fromEnd_n {h:Nat→GA} {mb:Nat→Bool} {N n:Nat} (hn:∀ j,(h j).n=n):∀ i,(fromEnd h mb N i).n=i * n
 | 0=>by simp [fromEnd,gEmpty]
 | i+1=>by
   simp only [fromEnd]
   have:(gCat (h (N - 1 - i)) (fromEnd h mb N i)).n=(i+1) * n:=by
    show (h (N - 1 - i)).n+(fromEnd h mb N i).n=_
    rw [hn,fromEnd_n hn i,Nat.succ_mul];omega
   split
   ·exact this
   ·exact this
theorem rep_loop {x:zj} {h:Nat→GA} {N n:Nat} {F0:List (List Int)} {S S':List za} (hn:∀ j,(h j).n=n) (hr:Room F0 S (N * n)) (hN:N≤1000) {l:List zq} (hl:l=(List.range N).map fun j=>pc (h j) (F0.length+j * n))
 {res:zq} {fin:zr} (hres:res=pc (fromEnd h (fun j=>decide (x.Hi≥0) && decide ((j:Int)≥x.Lo)) N N) F0.length)
 (hfin:fin={ sets:=S',follow:=F0++flw (fromEnd h (fun j=>decide (x.Hi≥0) && decide ((j:Int)≥x.Lo)) N N) F0.length }) :
 (List.length l < 1099511627776∧∃ (Inv24:Nat→List za→List (List Int)→List Int→List Int→Bool→Prop),Inv24 0 S' (F0++hF h F0.length n N) [] [] Bool.true∧
   (∀ (i:Nat) (y:zq),i < List.length l→l[List.length l - 1 - i]?=some y→∀ (s:List za) (f:List (List Int)) (o1 o2:List Int) (o3:Bool),Inv24 i s f o1 o2 o3→
     (∃ r0_6:zq,∃ o_4:zr,zaD y { first:=o1,last:=o2,null:=o3 } { sets:=s,follow:=f } r0_6 o_4∧
       (((decide (x.Hi≥0) && decide ((List.length l:Int) - 1 - i≥x.Lo))=true→(∃ r0_7:zq,zcB r0_6 r0_7∧Inv24 (i+1) o_4.sets o_4.follow r0_7.first r0_7.last r0_7.null))∧
         ((decide (x.Hi≥0) && decide ((List.length l:Int) - 1 - i≥x.Lo))=false→Inv24 (i+1) o_4.sets o_4.follow r0_6.first r0_6.last r0_6.null))))∧
   (∀ (s:List za) (f:List (List Int)) (o1 o2:List Int) (o3:Bool),Inv24 (List.length l) s f o1 o2 o3→(res={ first:=o1,last:=o2,null:=o3 }∧fin={ sets:=s,follow:=f }))):=by
 have hll:l.length=N:=by rw [hl];simp
 obtain ⟨mb,hmb⟩:∃ mb:Nat→Bool,mb=fun j:Nat=>decide (x.Hi≥0) && decide ((j:Int)≥x.Lo):=⟨_,rfl⟩
 rw [← hmb] at hres hfin
 have hroom:=hr.room
 rw [hll]
 refine ⟨by omega,fun i s f o1 o2 o3=>i≤N∧s=S'∧f=F0++hF h F0.length n (N - i)++flw (fromEnd h mb N i) (F0.length+(N - i) * n)∧(⟨o1,o2,o3⟩:zq)=pc (fromEnd h mb N i) (F0.length+(N - i) * n),⟨by omega,rfl,by simp [fromEnd,flw,gEmpty],rfl⟩,?_,?_⟩
 ·rintro i y hi hy s f o1 o2 o3 ⟨_,rfl,rfl,hp⟩
  have hy:y=pc (h (N - 1 - i)) (F0.length+(N - 1 - i) * n):=by
   rw [hl,List.getElem?_map,List.getElem?_range (by omega)] at hy
   simpa using hy.symm
  have e1:N - i=(N - 1 - i)+1:=by omega
  have hlen:(F0++hF h F0.length n (N - 1 - i)).length=F0.length+(N - 1 - i) * n:=by rw [List.length_append,hF_len hn]
  have hmul:(N - 1 - i) * n+(n+i * n)=N * n:=by
   have:N=(N - 1 - i)+(1+i):=by omega
   conv=>rhs;rw [this,Nat.add_mul,Nat.add_mul,Nat.one_mul]
  have hcat:=cat_ok (F0++hF h F0.length n (N - 1 - i)) s (h (N - 1 - i)) (fromEnd h mb N i) (fun f hf=>by
   rcases List.mem_append.1 hf with hf | hf
   ·exact hr.small f hf
   ·exact zg2 (fun j=>by have:=hn j;omega) _ f hf) (by rw [hn,fromEnd_n hn];omega) (by rw [hlen];omega)
  rw [hlen,hn] at hcat
  have hpos:F0.length+(N - 1 - i) * n+n=F0.length+(N - i) * n:=by rw [e1,Nat.succ_mul];omega
  rw [hpos] at hcat
  have hfl:F0++hF h F0.length n (N - i)=F0++hF h F0.length n (N - 1 - i)++flw (h (N - 1 - i)) (F0.length+(N - 1 - i) * n):=by
   rw [e1,hF,List.append_assoc]
  rw [hfl,hp,hy]
  refine ⟨_,_,hcat,fun hm=>⟨_,W_place_maybe _ _ rfl,?_⟩,fun hm=>?_⟩
  all_goals have hidx:((N:Int) - 1 - i)=((N - 1 - i:Nat):Int):=by omega
  all_goals rw [hidx] at hm
  all_goals have e2:N - (i+1)=N - 1 - i:=by omega
  ·have hf:fromEnd h mb N (i+1)=gMaybe (gCat (h (N - 1 - i)) (fromEnd h mb N i)):=by
    simp only [fromEnd];rw [if_pos];rw [hmb];exact hm
   dsimp only;rw [hf,e2]
   exact ⟨by omega,rfl,rfl,rfl⟩
  ·have hf:fromEnd h mb N (i+1)=gCat (h (N - 1 - i)) (fromEnd h mb N i):=by
    simp only [fromEnd];rw [if_neg];rw [hmb];simpa using hm
   dsimp only;rw [hf,e2]
   exact ⟨by omega,rfl,rfl,rfl⟩
 ·rintro s f o1 o2 o3 ⟨_,rfl,rfl,hp⟩
  rw [Nat.sub_self,Nat.zero_mul,Nat.add_zero] at hp
  refine ⟨by rw [hres,hp],?_⟩
  rw [hfin]
  simp [hF]
end Go.Ev.Pl
namespace Go.Ev.Pl
open Go Go.Ev
theorem zhJ {g z:GA} {h:Nat→GA} {mb:Nat→Bool} {N:Nat} (hz:Canon z) (hN:1≤N) (hh:∀ j,j < N - 1→h j=g) (hl:h (N - 1)=z) (hm:∀ j,mb j=false):∀ i,i < N→fromEnd h mb N (i+1)=iter (gCat g) i z
 | 0,hi=>by
   simp only [fromEnd,hm]
   rw [if_neg (by simp),Nat.sub_zero,hl,cat_empty_r hz];rfl
 | i+1,hi=>by
   have ih:=zhJ hz hN hh hl hm i (by omega)
   rw [fromEnd]
   simp only [hm]
   rw [if_neg (by simp),ih,hh _ (by omega)];rfl
theorem zhI {g:GA} {h:Nat→GA} {mb:Nat→Bool} {N L:Nat} (hL:L≤N) (hh:∀ j,h j=g) (hm:∀ j,j < N→mb j=decide (L≤j)):∀ i,i≤N→
 fromEnd h mb N i=iter (gCat g) (i - (N - L)) (iter (fun o=>gMaybe (gCat g o)) (min i (N - L)) gEmpty)
 | 0,_=>by simp [fromEnd,iter]
 | i+1,hi=>by
   have ih:=zhI hL hh hm i (by omega)
   rw [fromEnd]
   simp only [hh,ih]
   rw [hm _ (by omega)]
   by_cases hc:L≤N - 1 - i
   ·rw [if_pos (by simpa using hc),show i - (N - L)=0 by omega,show i+1 - (N - L)=0 by omega,show min i (N - L)=i by omega,show min (i+1) (N - L)=i+1 by omega];rfl
   ·rw [if_neg (by simpa using hc),show i+1 - (N - L)=(i - (N - L))+1 by omega,show min i (N - L)=N - L by omega,show min (i+1) (N - L)=N - L by omega];rfl
theorem flw_again (g:GA) (b:Prop) [Decidable b] (off:Nat):flw (if b then gMaybe (gAgain g) else gAgain g) off=flw (gAgain g) off:=by split<;>rfl
theorem map_range_set {α:Type} {f:Nat→α} {N i:Nat} {v:α} (h:i < N):((List.range N).map f).set i v=(List.range N).map fun j=>if j=i then v else f j:=by
 refine set_eq (by simp) (fun j hj hne=>?_) (fun hj=>?_)
 ·simp only [List.getElem_map,List.getElem_range];rw [if_neg hne]
 ·simp only [List.getElem_map,List.getElem_range,if_true]
theorem rep_ok {x:zj} (hr:Rgt x) (h5:x.Kind=5) (hw:Wf x) (hp:∀ k∈x.Kids,PieceOk k) (F0:List (List Int)) (S:List za) (hroom:Room F0 S (gof x).n) :
 zbt x { sets:=S,follow:=F0 } (pc (gof x) F0.length) { sets:=S++(gof x).sets,follow:=F0++flw (gof x) F0.length }:=by
 obtain ⟨ho,hk⟩:=zdn hr
 obtain ⟨⟨k,hq⟩,h1,h2,h3⟩:=zeV ho h5
 have hkm:k∈x.Kids:=by rw [hq];simp
 have hgn:=gof_n x hr
 have hgof:gof x=gRep (gof k) x.Lo x.Hi:=by
  rw [zcW,h5,hq];simp
 refine ze6 x _ _ _ ⟨_,rxSize_ok x hw,fun h0=>?_,fun h0=>?_⟩
 ·have h0:sizeN x=0:=by
   have:sizeZ x=0:=by simpa using h0
   simp only [sizeZ] at this;omega
  rw [gof_zero hr h0]
  exact ⟨rfl,by simp [gEmpty,flw]⟩
 obtain ⟨N,hN⟩:∃ N:Nat,N=(max 1 (max x.Lo x.Hi)).toNat:=⟨_,rfl⟩
 have hN1:1≤N:=by omega
 have hN2:N≤20:=by omega
 have hNi:(N:Int)=max 1 (max x.Lo x.Hi):=by omega
 have hn:(gof x).n=N * (gof k).n:=by rw [hgof,rep_n _ h1 (by omega),hN]
 have hs:(gof x).sets=cpS (gof k) N:=by rw [hgof,rep_sets _ h1 (by omega),hN]
 have hroom2:Room F0 S (N * (gof k).n):=by rw [← hn];exact hroom
 have hcp:=copies_ok (hp k hkm) N (by omega) F0 S hroom2
 have hlen2:F0.length+N * (gof k).n < 1000000:=hroom2.room
 have hcnt:(if (1:Int) > if x.Hi > x.Lo then x.Hi else x.Lo then (1:Int) else if x.Hi > x.Lo then x.Hi else x.Lo)=(N:Int):=by rw [hNi];split<;>omega
 rw [hcnt,hq]
 simp only [List.length_cons,List.length_nil,List.getD_cons_zero]
 refine ⟨by omega,_,_,hcp,?_⟩
 rw [← hs]
 by_cases hneg:x.Hi < 0
 ·-- from some times on
  obtain ⟨z,hz⟩:∃ z:GA,z=if x.Lo=0 then gMaybe (gAgain (gof k)) else gAgain (gof k):=⟨_,rfl⟩
  have hzc:Canon z:=by rw [hz];split;exact ze3 (zdH (zap k));exact zdH (zap k)
  have hzn:z.n=(gof k).n:=by rw [hz];split<;>rfl
  obtain ⟨h,hh⟩:∃ h:Nat→GA,h=fun j=>if j=N - 1 then z else gof k:=⟨_,rfl⟩
  have hhn:∀ j,(h j).n=(gof k).n:=fun j=>by rw [hh];dsimp only;split;exact hzn;rfl
  have hfe:fromEnd h (fun j:Nat=>decide (x.Hi≥0) && decide ((j:Int)≥x.Lo)) N N=gof x:=by
   have:=zhJ (mb:=fun j:Nat=>decide (x.Hi≥0) && decide ((j:Int)≥x.Lo)) hzc hN1 (h:=h) (g:=gof k) (fun j hj=>by rw [hh];dsimp only;rw [if_neg (by omega)]) (by rw [hh];simp) (fun j=>by simp;omega) (N - 1) (by omega)
   rw [show N - 1+1=N by omega] at this
   rw [this,hgof]
   unfold gRep
   rw [if_pos hneg,← hz]
   congr 1;omega
  obtain ⟨N1,rfl⟩:∃ N1,N=N1+1:=⟨N - 1,by omega⟩
  have hF1:hF h F0.length (gof k).n (N1+1)=hF (fun _=>gof k) F0.length (gof k).n N1++flw (gAgain (gof k)) (F0.length+N1 * (gof k).n):=by
   rw [hF,hF_congr N1 (h':=fun _=>gof k) (fun j hj=>by rw [hh];dsimp only;rw [if_neg (by omega)])]
   congr 1
   rw [hh];dsimp only;rw [if_pos (by omega),hz,flw_again]
  refine ⟨fun s f l=>s=S++(gof x).sets∧f=F0++hF h F0.length (gof k).n (N1+1)∧l=(List.range (N1+1)).map fun j=>pc (h j) (F0.length+j * (gof k).n),?_,fun _=>?_,fun hc=>absurd (of_decide_eq_false hc) (by omega)⟩
  ·rintro s f l ⟨rfl,rfl,hl⟩
   exact ⟨zeO l,rep_loop (x:=x) (h:=h) (N:=N1+1) (S:=S) hhn hroom2 (by omega) hl (by rw [hfe]) (by rw [hfe])⟩
  ·have hwl:w64 ((((List.range (N1+1)).map fun i=>pc (gof k) (F0.length+i * (gof k).n)).length:Int) - 1)=(N1:Int):=by
    rw [List.length_map,List.length_range];exact (zG (by omega) (by omega)).trans (by omega)
   have hgl:gd ((List.range (N1+1)).map fun i=>pc (gof k) (F0.length+i * (gof k).n)) (N1:Int)=pc (gof k) (F0.length+N1 * (gof k).n):=by
    rw [z8 (by simp)];simp
   rw [hwl,hgl]
   have hlen:(F0++hF (fun _=>gof k) F0.length (gof k).n N1).length=F0.length+N1 * (gof k).n:=by rw [List.length_append,hF_len fun _=>rfl]
   have hmul:(N1+1) * (gof k).n=N1 * (gof k).n+(gof k).n:=Nat.succ_mul _ _
   have hla:=zbe (gof k).n (gof k).last (F0.length+N1 * (gof k).n)
   have hlf:=zbe (gof k).n (gof k).first (F0.length+N1 * (gof k).n)
   have hlead:=lead_ok (lst (gof k).n (gof k).last (F0.length+N1 * (gof k).n)) (lst (gof k).n (gof k).first (F0.length+N1 * (gof k).n)) { sets:=S++(gof x).sets,follow:=F0++hF (fun _=>gof k) F0.length (gof k).n (N1+1) } (zd1 _ _ _) (fun y hy=>by
    obtain ⟨i,hi,_,rfl⟩:=zaA.1 hy
    simp only [List.length_append,hF_len fun _=>rfl];omega) (by omega) (fun f hf=>by
    rcases List.mem_append.1 hf with hf | hf
    ·exact hroom.small f hf
    ·exact zg2 (fun _=>by omega) _ f hf) (by omega)
   have hag:=lead_again (F0++hF (fun _=>gof k) F0.length (gof k).n N1) (gof k)
   rw [hlen,List.append_assoc,List.append_assoc] at hag
   have hag2:leadF (F0++hF (fun _=>gof k) F0.length (gof k).n (N1+1)) (lst (gof k).n (gof k).last (F0.length+N1 * (gof k).n)) (lst (gof k).n (gof k).first (F0.length+N1 * (gof k).n))=F0++hF h F0.length (gof k).n (N1+1):=by
    rw [hF1];exact hag
   simp only [hag2] at hlead
   have hset:∀ b:Bool,b=z.null→List.set ((List.range (N1+1)).map fun i=>pc (gof k) (F0.length+i * (gof k).n)) (Int.toNat (N1:Int)) { first:=(pc (gof k) (F0.length+N1 * (gof k).n)).first,last:=(pc (gof k) (F0.length+N1 * (gof k).n)).last,null:=b }=(List.range (N1+1)).map fun j=>pc (h j) (F0.length+j * (gof k).n):=by
    intro b hb
    rw [Int.toNat_natCast,map_range_set (by omega)]
    refine List.map_congr_left fun j hj=>?_
    rw [hh];dsimp only
    by_cases e:j=N1
    ·subst e
     rw [if_pos rfl,if_pos (by omega)]
     have e1:z.first=(gof k).first:=by rw [hz];split<;>rfl
     have e2:z.last=(gof k).last:=by rw [hz];split<;>rfl
     rw [hb]
     simp only [pc,hzn,e1,e2]
    ·rw [if_neg e,if_neg (by omega)]
   have hll:((List.range (N1+1)).map fun i=>pc (gof k) (F0.length+i * (gof k).n)).length=N1+1:=by simp
   rw [hll]
   refine ⟨by omega,by omega,by omega,by omega,_,hlead,by omega,fun hn=>⟨fun _=>by omega,rfl,rfl,hset _ ?_⟩,fun hn=>⟨fun _=>by omega,rfl,rfl,hset _ ?_⟩⟩
   ·have hn:(gof k).null=true:=hn
    rw [hz];split<;>simp [gMaybe,gAgain,hn]
   ·have hn:(gof k).null=false:=hn
    rw [hz]
    by_cases e:x.Lo=0
    ·rw [if_pos e,e];rfl
    ·rw [if_neg e]
     show (x.Lo == 0)=(gof k).null
     rw [hn];simpa using e
 ·-- from some times to others
  have hhi:1≤x.Hi∧x.Lo≤x.Hi:=by omega
  have hfe:fromEnd (fun _=>gof k) (fun j:Nat=>decide (x.Hi≥0) && decide ((j:Int)≥x.Lo)) N N=gof x:=by
   have:=zhI (h:=fun _=>gof k) (g:=gof k) (mb:=fun j:Nat=>decide (x.Hi≥0) && decide ((j:Int)≥x.Lo)) (N:=N) (L:=x.Lo.toNat) (by omega) (fun _=>rfl) (fun j hj=>by
    have:decide (x.Hi≥0)=true:=by simp;omega
    simp only [this,Bool.true_and,decide_eq_decide];omega) N (Nat.le_refl _)
   rw [this,hgof]
   unfold gRep
   rw [if_neg hneg]
   congr 1
   ·omega
   ·congr 1;omega
  refine ⟨fun s f l=>s=S++(gof x).sets∧f=F0++hF (fun _=>gof k) F0.length (gof k).n N∧l=(List.range N).map fun j=>pc (gof k) (F0.length+j * (gof k).n),?_,fun hc=>absurd (of_decide_eq_true hc) hneg,fun _=>⟨rfl,rfl,rfl⟩⟩
  rintro s f l ⟨rfl,rfl,hl⟩
  exact ⟨zeO l,rep_loop (x:=x) (h:=fun _=>gof k) (N:=N) (S:=S) (fun _=>rfl) hroom2 (by omega) hl (by rw [hfe]) (by rw [hfe])⟩
end Go.Ev.Pl
namespace Go.Ev.Pl
open Go Go.Ev
theorem pc_first (g:GA) (off:Nat):(pc g off).first=lst g.n g.first off:=rfl
theorem pc_last (g:GA) (off:Nat):(pc g off).last=lst g.n g.last off:=rfl
theorem pc_null (g:GA) (off:Nat):(pc g off).null=g.null:=rfl
theorem pre_n {f:GA→GA→GA} (hf:∀ a b,(f a b).n=a.n+b.n) {z:GA} (hz:z.n=0) {l:List zj} {i:Nat} (h:i < l.length) :
 ((l.take i).foldl (fun o y=>f o (gof y)) z).n+(gof l[i]).n≤(l.foldl (fun o y=>f o (gof y)) z).n:=by
 have e:=zhK hf (l.take (i+1)) z
 rw [zaK h,hf] at e
 rw [e,zhK hf]
 have:(l.map fun y=>(gof y).n).sum=((l.take (i+1)).map fun y=>(gof y).n).sum+((l.drop (i+1)).map fun y=>(gof y).n).sum:=by
  rw [← List.sum_append,← List.map_append,List.take_append_drop]
 omega
theorem piece_ok:∀ x,Wf x→Rgt x→PieceOk x:=by
 refine rxInd fun x ih hw hr=>?_
 obtain ⟨hl,hkw⟩:=(zhb x).1 hw
 obtain ⟨ho,hk⟩:=zdn hr
 intro F0 S hroom
 have hrm:=hroom.room
 refine zee x _ _ _ ⟨fun h=>?_,fun h2=>⟨fun h=>?_,fun h3=>⟨fun h=>?_,fun h4=>⟨fun h=>?_,fun h5=>?_⟩⟩⟩⟩
 ·have h:x.Kind=2:=by simpa using h
  have hg:gof x=gByte x.Set:=by rw [zcW,if_pos h]
  rw [hg] at hrm ⊢
  have hrm:F0.length+1 < 1000000:=hrm
  refine ⟨_,_,zed _ _ _ _ ⟨?_,?_,rfl,rfl⟩,?_,?_⟩
  ·have:=hroom.same;simp only;omega
  ·simp only;omega
  ·have:lst 1 (fun i=>i == 0) F0.length=[(S.length:Int)]:=by
    rw [hroom.same];simp [lst,List.range_succ]
   simp only [pc,gByte,this]
  ·rfl
 ·have h:x.Kind=3:=by simpa using h
  have hg:gof x=x.Kids.foldl (fun o y=>gCat o (gof y)) gEmpty:=by rw [zcW];simp [h]
  refine ⟨fun s f a b c t=>∃ i:Nat,t=i∧i≤x.Kids.length∧s=S++((x.Kids.take i).foldl (fun o y=>gCat o (gof y)) gEmpty).sets∧f=F0++flw ((x.Kids.take i).foldl (fun o y=>gCat o (gof y)) gEmpty) F0.length∧(⟨a,b,c⟩:zq)=pc ((x.Kids.take i).foldl (fun o y=>gCat o (gof y)) gEmpty) F0.length,
   fun _ _ _ _ _ t=>(x.Kids.length - t).toNat,⟨0,rfl,by omega,by simp [gEmpty],by simp [gEmpty,flw],rfl⟩,?_⟩
  rintro s f a b c t ⟨i,rfl,hi,rfl,rfl,hp⟩
  refine ⟨fun ht=>?_,fun ht=>?_⟩
  ·have ht:i < x.Kids.length:=by simpa using ht
   have hm:=List.getElem_mem ht
   obtain ⟨o,ho'⟩:∃ o,o=(x.Kids.take i).foldl (fun o y=>gCat o (gof y)) gEmpty:=⟨_,rfl⟩
   have hn:=pre_n (f:=gCat) (fun _ _=>rfl) (z:=gEmpty) rfl ht
   rw [← hg,← ho'] at hn
   have hsucc:=zaK (f:=fun o y=>gCat o (gof y)) (b:=gEmpty) ht
   rw [← ho'] at hsucc hp ⊢
   have hoc:Canon o:=by
    rw [ho']
    have:∀ (l:List zj) (z:GA),Canon z→Canon (l.foldl (fun o y=>gCat o (gof y)) z):=by
     intro l
     induction l with
     | nil=>intro z h;exact h
     | cons y r ih2=>intro z h;exact ih2 _ (zcO h (zap y))
    exact this _ _ zbJ
   have hlen:(F0++flw o F0.length).length=F0.length+o.n:=by rw [List.length_append,zau]
   have hpk:=ih _ hm (hkw _ hm) (hk _ hm) (F0++flw o F0.length) (S++o.sets) ⟨by rw [hlen,List.length_append,hroom.same,hoc.sets],fun f hf=>by
    rcases List.mem_append.1 hf with hf | hf
    ·exact hroom.small f hf
    ·exact zd6 _ _ (by omega) f hf,by rw [hlen];omega⟩
   rw [hlen] at hpk
   have hcat:=cat_ok F0 ((S++o.sets)++(gof x.Kids[i]).sets) o (gof x.Kids[i]) hroom.small (by omega) (by omega)
   have hw2:w64 ((i:Int)+1)=((i+1:Nat):Int):=zG (by omega) (by omega)
   rw [z8 ht,hp]
   refine ⟨by omega,by omega,_,_,hpk,_,_,hcat,?_⟩
   rw [hw2]
   exact ⟨⟨i+1,rfl,by omega,by rw [hsucc];simp [gCat],by rw [hsucc],by rw [hsucc]⟩,by dsimp only;omega⟩
  ·have:i=x.Kids.length:=by have:¬ i < x.Kids.length:=by simpa using ht
                            omega
   subst this
   rw [List.take_of_length_le (Nat.le_refl _),← hg] at hp ⊢
   exact ⟨hp.symm,rfl⟩
 ·have h:x.Kind=4:=by simpa using h
  have hg:gof x=x.Kids.foldl (fun o y=>gAlt o (gof y)) gNone:=by rw [zcW];simp [h]
  refine ⟨fun s f a b c t=>∃ i:Nat,t=i∧i≤x.Kids.length∧s=S++((x.Kids.take i).foldl (fun o y=>gAlt o (gof y)) gNone).sets∧f=F0++flw ((x.Kids.take i).foldl (fun o y=>gAlt o (gof y)) gNone) F0.length∧(⟨a,b,c⟩:zq)=pc ((x.Kids.take i).foldl (fun o y=>gAlt o (gof y)) gNone) F0.length,
   fun _ _ _ _ _ t=>(x.Kids.length - t).toNat,⟨0,rfl,by omega,by simp [gNone],by simp [gNone,flw],rfl⟩,?_⟩
  rintro s f a b c t ⟨i,rfl,hi,rfl,rfl,hp⟩
  refine ⟨fun ht=>?_,fun ht=>?_⟩
  ·have ht:i < x.Kids.length:=by simpa using ht
   have hm:=List.getElem_mem ht
   obtain ⟨o,ho'⟩:∃ o,o=(x.Kids.take i).foldl (fun o y=>gAlt o (gof y)) gNone:=⟨_,rfl⟩
   have hn:=pre_n (f:=gAlt) (fun _ _=>rfl) (z:=gNone) rfl ht
   rw [← hg,← ho'] at hn
   have hsucc:=zaK (f:=fun o y=>gAlt o (gof y)) (b:=gNone) ht
   rw [← ho'] at hsucc hp ⊢
   have hoc:Canon o:=by
    rw [ho']
    have:∀ (l:List zj) (z:GA),Canon z→Canon (l.foldl (fun o y=>gAlt o (gof y)) z):=by
     intro l
     induction l with
     | nil=>intro z h;exact h
     | cons y r ih2=>intro z h;exact ih2 _ (zhX h (zap y))
    exact this _ _ zdf
   have hlen:(F0++flw o F0.length).length=F0.length+o.n:=by rw [List.length_append,zau]
   have hpk:=ih _ hm (hkw _ hm) (hk _ hm) (F0++flw o F0.length) (S++o.sets) ⟨by rw [hlen,List.length_append,hroom.same,hoc.sets],fun f hf=>by
    rcases List.mem_append.1 hf with hf | hf
    ·exact hroom.small f hf
    ·exact zd6 _ _ (by omega) f hf,by rw [hlen];omega⟩
   rw [hlen] at hpk
   have hw2:w64 ((i:Int)+1)=((i+1:Nat):Int):=zG (by omega) (by omega)
   rw [z8 ht]
   have hpa:a=lst o.n o.first F0.length:=congrArg zq.first hp
   have hpb:b=lst o.n o.last F0.length:=congrArg zq.last hp
   have hpc:c=o.null:=congrArg zq.null hp
   have l1:=zbe o.n o.first F0.length
   have l2:=zbe o.n o.last F0.length
   have l3:=zbe (gof x.Kids[i]).n (gof x.Kids[i]).first (F0.length+o.n)
   have l4:=zbe (gof x.Kids[i]).n (gof x.Kids[i]).last (F0.length+o.n)
   refine ⟨by omega,by omega,_,_,hpk,_,zdy _ _ (by rw [hpa];omega) (by rw [pc_first];omega),_,zdy _ _ (by rw [hpb];omega) (by rw [pc_last];omega),?_⟩
   rw [hw2]
   refine ⟨⟨i+1,rfl,by omega,by rw [hsucc];simp [gAlt],?_,?_⟩,by dsimp only;omega⟩
   ·rw [hsucc,← flw_alt,← List.append_assoc]
   ·rw [hsucc,hpa,hpb,hpc,pc_first,pc_last,pc_null,alt_first,alt_last];rfl
  ·have:i=x.Kids.length:=by have:¬ i < x.Kids.length:=by simpa using ht
                            omega
   subst this
   rw [List.take_of_length_le (Nat.le_refl _),← hg] at hp ⊢
   exact ⟨hp.symm,rfl⟩
 ·have h:x.Kind=5:=by simpa using h
  exact ⟨_,_,rep_ok hr h hw (fun k hkm=>ih k hkm (hkw k hkm) (hk k hkm)) F0 S hroom,rfl,rfl⟩
 ·have h1:x.Kind=1:=by
   simp only [beq_eq_false_iff_ne,ne_eq] at h2 h3 h4 h5
   have:=zeo ho;omega
  have hg:gof x=gEmpty:=by rw [zcW];simp [h1]
  rw [hg]
  exact ⟨rfl,by simp [gEmpty,flw]⟩
def plc (g:GA):zaN:=⟨g.sets,lst g.n g.first 0,lst g.n g.last 0,flw g 0,g.null⟩
def noPl:zaN:=⟨[],[],[],[],false⟩
theorem za6 {x:zj} (h:rightB x=true):Rgt x∧sizeN x≤200:=by
 simp only [rightB,Bool.and_eq_true,decide_eq_true_eq] at h
 refine ⟨⟨20,h.1⟩,?_⟩
 have:=h.2.1
 simp only [sizeZ] at this;omega
theorem placeOf_ok (x:zj) (hw:Wf x):zew x (if rightB x=true then plc (gof x) else noPl) (if rightB x=true then 0 else 1):=by
 refine W_place_Of x _ _ ⟨_,zdm x hw,fun h=>?_,fun h=>?_⟩
 ·have h:rightB x=false:=by simpa using h
  rw [h];exact ⟨rfl,rfl⟩
 ·have h:rightB x=true:=by simpa using h
  obtain ⟨hr,hs⟩:=za6 h
  have hn:=gof_n x hr
  have:=piece_ok x hw hr [] [] ⟨rfl,fun f hf=>by simp at hf,by simp;omega⟩
  refine ⟨_,_,this,?_,?_⟩
  ·rw [if_pos h];simp [plc,pc]
  ·rw [if_pos h]
end Go.Ev.Pl
namespace Go.Ev.Pl
open Go Go.Ev
end Go.Ev.Pl
namespace Go.Ev.Pl
open Go Go.Ev
end Go.Ev.Pl
namespace Go.Ev.Pl
open Go Go.Ev
def setOf (lo hi:Int):za:=mkSet fun i=>decide (i≥lo) && decide (i≤hi)
theorem noset_97:noSet (setOf 97 97)=false:=by kernel_rfl
theorem noset_98:noSet (setOf 98 98)=false:=by kernel_rfl
theorem noset_99:noSet (setOf 99 99)=false:=by kernel_rfl
theorem noset_10:noSet (setOf 10 10)=false:=by kernel_rfl
theorem noset_45:noSet (setOf 45 45)=false:=by kernel_rfl
theorem noset_90:noSet (setOf 90 90)=false:=by kernel_rfl
theorem noset_0:noSet (setOf 0 0)=false:=by kernel_rfl
theorem noset_255:noSet (setOf 255 255)=false:=by kernel_rfl
theorem noset_48:noSet (setOf 48 48)=false:=by kernel_rfl
theorem noset_ac:noSet (setOf 97 99)=false:=by kernel_rfl
theorem noset_not:noSet (mkSet fun i=>!setHas (setOf 97 97) i)=false:=by kernel_rfl
def zset:za:=⟨0,0,0,0⟩
def chr (b:Int):zj:=⟨2,setOf b b,0,0,[]⟩
theorem wf_leaf (k:Int) (s:za) (lo hi:Int):Wf ⟨k,s,lo,hi,[]⟩:=(zhb _).2 ⟨by simp,fun y hy=>by simp at hy⟩
end Go.Ev.Pl
namespace Go.Ev.Pl
open Go Go.Ev
def cnt:zj→Nat:=cata fun _ l=>1+l.sum
theorem zgD (x:zj):cnt x=1+(x.Kids.map cnt).sum:=zea _ x
theorem zf2:∀ l:List zj,l.length≤(l.map cnt).sum
 | []=>Nat.le_refl _
 | x :: r=>by have:=zf2 r;have:=zgD x;simp;omega
theorem sum_mem_le {l:List zj} {y:zj} (h:y∈l):cnt y≤(l.map cnt).sum:=by
 induction l with
 | nil=>simp at h
 | cons x r ih=>
   rcases List.mem_cons.1 h with rfl | h
   ·simp
   ·have:=ih h;simp;omega
theorem wf_of_cnt:∀ x,cnt x < 1000000→Wf x:=by
 refine rxInd fun x ih h=>?_
 rw [zgD] at h
 have:=zf2 x.Kids
 exact (zhb x).2 ⟨by omega,fun y hy=>ih y hy (by have:=sum_mem_le hy;omega)⟩
theorem nodesZ_cnt:∀ x (most:Int),(cnt x:Int)≤most→nodesZ x most=most - cnt x:=by
 refine rxInd fun x ih most hm=>?_
 rw [zfm]
 rw [zgD] at hm ⊢
 have key:∀ (l:List zj) (m:Int),(∀ y∈l,y∈x.Kids)→(((l.map cnt).sum:Nat):Int)≤m→l.foldl (fun m y=>if m≥0 then nodesZ y m else m) m=m - (((l.map cnt).sum:Nat):Int):=by
  intro l
  induction l with
  | nil=>intro m _ _;simp
  | cons y r ih2=>
    intro m hl h
    simp only [List.map_cons,List.sum_cons] at h ⊢
    rw [List.foldl_cons,if_pos (by omega),ih y (hl y (List.mem_cons_self ..)) m (by omega),ih2 _ (fun z hz=>hl z (List.mem_cons_of_mem _ hz)) (by omega)]
    omega
 rw [key x.Kids (most - 1) (fun _ h=>h) (by omega)]
 omega
theorem rgt_mono:∀ x (d:Int),rgt x d=true→∀ d',d≤d'→rgt x d'=true:=by
 refine rxInd fun x ih d h d' hd=>?_
 rw [zgn] at h ⊢
 simp only [Bool.and_eq_true,decide_eq_true_eq,List.all_eq_true,Bool.not_eq_true'] at h ⊢
 exact ⟨⟨by omega,h.1.2⟩,fun k hk=>⟨(h.2 k hk).1,ih k hk _ (h.2 k hk).2 _ (by omega)⟩⟩
theorem rgt_leaf {s:za} (h:noSet s=false):rgt ⟨2,s,0,0,[]⟩ 1=true:=by
 rw [zgn];simp [ownB,h]
theorem rgt_empty:rgt ⟨1,zset,0,0,[]⟩ 1=true:=by kernel_rfl
def Bytes (l:List Int):Prop:=∀ b∈l,0≤b∧b≤255
structure MOk (m:zf):Prop where
 bytes:Bytes m.L
 len:m.L.length≤1000
 at0:0≤m.At
theorem zdZ (n:Int) (m:zf) (hn:1≤n) (hm:MOk m) (ha:m.At < 1000000):∃ r,0≤r∧r < n∧zl n m r { L:=m.L,At:=m.At+1 }:=by
 have h0:=hm.at0
 have hl:=hm.len
 have hw1:w64 (m.At+1)=m.At+1:=zG (by omega) (by omega)
 have hw2:w64 (m.At+1 - 1)=m.At:=(zG (by omega) (by omega)).trans (by omega)
 by_cases hg:m.At+1 > m.L.length
 ·refine ⟨0,by omega,by omega,zb1 n m _ _ ?_⟩
  rw [hw1]
  exact ⟨fun _=>⟨rfl,rfl⟩,fun h=>absurd hg (by simpa using h)⟩
 ·have hi:m.At.toNat < m.L.length:=by omega
  have he:gd m.L m.At=m.L[m.At.toNat]:=by simp [gd,List.getD,hi]
  obtain ⟨b0,b1⟩:=hm.bytes _ (List.getElem_mem hi)
  have hw3:w64 (gd m.L m.At)=gd m.L m.At:=by rw [he];exact zG (by omega) (by omega)
  refine ⟨Int.tmod (gd m.L m.At) n,?_,?_,zb1 n m _ _ ?_⟩
  ·rw [he,Int.tmod_eq_emod_of_nonneg b0];exact Int.emod_nonneg _ (by omega)
  ·rw [he,Int.tmod_eq_emod_of_nonneg b0];exact Int.emod_lt_of_pos _ (by omega)
  ·rw [hw1,hw2,hw3]
   exact ⟨fun h=>absurd (by simpa using h) hg,fun _=>⟨by omega,by omega,by omega,rfl,rfl⟩⟩
theorem chr_ok (b:Int):zaQ b (chr b):=char3_ok b
theorem rgt_chr {b:Int} (h:noSet (setOf b b)=false):rgt (chr b) 1=true:=rgt_leaf h
structure Good (d:Nat) (r:zj):Prop where
 right:rgt r ((d:Int)+1)=true
 small:cnt r≤2 ^ (d+1) - 1
theorem zfD (k:Int) (s:za) (lo hi:Int):cnt ⟨k,s,lo,hi,[]⟩=1:=by rw [zgD];rfl
theorem leaf_ok (m:zf) (hm:MOk m) (ha:m.At < 900000):∃ r o,zaR m r o∧Good 0 r∧o.L=m.L∧m.At≤o.At∧o.At≤m.At+2:=by
 obtain ⟨r0,p0,p1,hp⟩:=zdZ 8 m (by omega) hm (by omega)
 have hm1:MOk { L:=m.L,At:=m.At+1 }:=⟨hm.bytes,hm.len,by have:=hm.at0;simp only;omega⟩
 have good:∀ {r:zj},rgt r 1=true→cnt r=1→Good 0 r:=fun h1 h2=>⟨by simpa using h1,by omega⟩
 by_cases h0:r0=0
 ·subst h0
  exact ⟨_,_,zat m _ _ ⟨_,_,hp,fun _=>⟨rfl,rfl⟩,fun h=>by simp at h⟩,good rgt_empty (zfD _ _ _ _),rfl,by simp only;omega,by simp only;omega⟩
 by_cases h1:r0=1
 ·subst h1
  exact ⟨_,_,zat m _ _ ⟨_,_,hp,fun h=>by simp at h,fun _=>⟨fun _=>⟨_,zgS 97 99,rfl,rfl⟩,fun h=>by simp at h⟩⟩,good (rgt_leaf noset_ac) (zfD _ _ _ _),rfl,by simp only;omega,by simp only;omega⟩
 by_cases h2:r0=2
 ·subst h2
  exact ⟨_,_,zat m _ _ ⟨_,_,hp,fun h=>by simp at h,fun _=>⟨fun h=>by simp at h,fun _=>⟨fun _=>⟨_,zgS 97 97,_,setNot_ok _,rfl,rfl⟩,fun h=>by simp at h⟩⟩⟩,good (rgt_leaf noset_not) (zfD _ _ _ _),rfl,by simp only;omega,by simp only;omega⟩
 by_cases h3:r0=3
 ·subst h3
  obtain ⟨r1,q0,q1,hq⟩:=zdZ 6 _ (by omega) hm1 (by simp only;omega)
  have hr:r1=0∨r1=1∨r1=2∨r1=3∨r1=4∨r1=5:=by omega
  have hs:noSet (setOf (gd [10,45,90,0,255,48] r1) (gd [10,45,90,0,255,48] r1))=false:=by
   rcases hr with rfl | rfl | rfl | rfl | rfl | rfl
   ·exact noset_10
   ·exact noset_45
   ·exact noset_90
   ·exact noset_0
   ·exact noset_255
   ·exact noset_48
  exact ⟨_,_,zat m _ _ ⟨_,_,hp,fun h=>by simp at h,fun _=>⟨fun h=>by simp at h,fun _=>⟨fun h=>by simp at h,fun _=>⟨fun _=>⟨_,_,hq,q0,by omega,by simp;omega,_,chr_ok _,rfl,rfl⟩,fun h=>by simp at h⟩⟩⟩⟩,good (rgt_chr hs) (zfD _ _ _ _),rfl,by simp only;omega,by simp only;omega⟩
 obtain ⟨r1,q0,q1,hq⟩:=zdZ 3 _ (by omega) hm1 (by simp only;omega)
 have hr:r1=0∨r1=1∨r1=2:=by omega
 have hs:noSet (setOf (w64 (97+r1)) (w64 (97+r1)))=false:=by
  rcases hr with rfl | rfl | rfl
  ·exact noset_97
  ·exact noset_98
  ·exact noset_99
 exact ⟨_,_,zat m _ _ ⟨_,_,hp,fun h=>absurd (by simpa using h) h0,fun _=>⟨fun h=>absurd (by simpa using h) h1,fun _=>⟨fun h=>absurd (by simpa using h) h2,fun _=>⟨fun h=>absurd (by simpa using h) h3,fun _=>⟨_,_,hq,_,chr_ok _,rfl,rfl⟩⟩⟩⟩⟩,good (rgt_chr hs) (zfD _ _ _ _),rfl,by simp only;omega,by simp only;omega⟩
def jk (kind:Int) (r:zj):List zj:=if r.Kind=kind then r.Kids else [r]
theorem joined_ok (kind:Int) (r1 r2:zj) (h1:r1.Kids.length < 1000000) (h2:r2.Kids.length < 1000000):z6 kind [r1,r2] ⟨kind,zset,0,0,jk kind r1++jk kind r2⟩:=by
 have hjl:∀ r:zj,r.Kids.length < 1000000→(jk kind r).length < 1000000:=fun r h=>by unfold jk;split;exact h;simp
 have hj1:=hjl r1 h1
 have hj2:=hjl r2 h2
 refine zeE kind _ _ ⟨fun k t=>(t=0∧k=[])∨(t=1∧k=jk kind r1)∨(t=2∧k=jk kind r1++jk kind r2),fun _ t=>(2 - t).toNat,.inl ⟨rfl,rfl⟩,?_⟩
 rintro k t (⟨rfl,rfl⟩ | ⟨rfl,rfl⟩ | ⟨rfl,rfl⟩)
 ·refine ⟨fun _=>⟨fun k'=>k'=jk kind r1,?_,by omega,by simp,fun h=>⟨by omega,by simp,?_,?_⟩,fun h=>⟨by omega,by simp,by simp,?_⟩⟩,fun h=>by simp at h⟩
  ·rintro k' rfl;exact ⟨.inr (.inl ⟨rfl,rfl⟩),by show Int.toNat (2 - 1) < Int.toNat (2 - 0);decide⟩
  ·have:gd [r1,r2] 0=r1:=rfl
   rw [this];simp;omega
  ·have:gd [r1,r2] 0=r1:=rfl
   rw [this] at h ⊢
   have h:r1.Kind=kind:=by simpa using h
   simp [jk,h]
  ·have:gd [r1,r2] 0=r1:=rfl
   rw [this] at h ⊢
   have h:r1.Kind≠kind:=by simpa using h
   simp [jk,h]
 ·refine ⟨fun _=>⟨fun k'=>k'=jk kind r1++jk kind r2,?_,by omega,by simp,fun h=>⟨by omega,by simp,?_,?_⟩,fun h=>⟨by omega,by simp,?_,?_⟩⟩,fun h=>by simp at h⟩
  ·rintro k' rfl;exact ⟨.inr (.inr ⟨rfl,rfl⟩),by show Int.toNat (2 - 2) < Int.toNat (2 - 1);decide⟩
  ·have:gd [r1,r2] 1=r2:=rfl
   rw [this];omega
  ·have:gd [r1,r2] 1=r2:=rfl
   rw [this] at h ⊢
   have h:r2.Kind=kind:=by simpa using h
   simp [jk,h]
  ·omega
  ·have:gd [r1,r2] 1=r2:=rfl
   rw [this] at h ⊢
   have h:r2.Kind≠kind:=by simpa using h
   simp [jk,h]
 ·exact ⟨fun h=>by simp at h,fun _=>rfl⟩
theorem zhx {kind:Int} (hk:kind=3∨kind=4) {d:Nat} {r1 r2:zj} (h1:Good d r1) (h2:Good d r2):Good (d+1) ⟨kind,zset,0,0,jk kind r1++jk kind r2⟩:=by
 have key:∀ r,Good d r→1≤(jk kind r).length∧((jk kind r).map cnt).sum≤cnt r∧∀ k∈jk kind r,k.Kind≠kind∧rgt k ((d:Int)+1)=true:=by
  intro r h
  have hr:=h.right
  by_cases e:r.Kind=kind
  ·rw [zgn] at hr
   simp only [Bool.and_eq_true,decide_eq_true_eq,List.all_eq_true,Bool.not_eq_true'] at hr
   have:=own_kids hr.1.2 (by omega)
   simp only [jk,if_pos e]
   refine ⟨by omega,by rw [zgD];omega,fun k hkm=>?_⟩
   obtain ⟨q1,q2⟩:=hr.2 k hkm
   refine ⟨fun e2=>?_,rgt_mono _ _ q2 _ (by omega)⟩
   simp only [oddK,e2,e] at q1
   rcases hk with rfl | rfl<;>simp at q1
  ·simp only [jk,if_neg e]
   exact ⟨by simp,by simp,fun k hkm=>by simp at hkm;subst hkm;exact ⟨e,hr⟩⟩
 obtain ⟨a1,a2,a3⟩:=key r1 h1
 obtain ⟨b1,b2,b3⟩:=key r2 h2
 constructor
 ·rw [zgn]
  simp only [Bool.and_eq_true,decide_eq_true_eq,List.all_eq_true,Bool.not_eq_true']
  refine ⟨⟨by omega,?_⟩,fun k hkm=>?_⟩
  ·have hz:noSet zset=true:=rfl
   simp only [ownB]
   rw [if_neg (by omega),if_neg (by omega),if_neg (by omega),if_pos hk,hz]
   simp;omega
  ·have:k.Kind≠kind∧rgt k ((d:Int)+1)=true:=by
    rcases List.mem_append.1 hkm with h | h
    ·exact a3 k h
    ·exact b3 k h
   refine ⟨by simp [oddK,this.1],?_⟩
   have e:(((d+1:Nat):Int)+1 - 1)=(d:Int)+1:=by omega
   rw [e];exact this.2
 ·rw [zgD]
  simp only [List.map_append,List.sum_append]
  have:=h1.small
  have:=h2.small
  have e:2 ^ (d+1+1)=2 ^ (d+1)+2 ^ (d+1):=by rw [Nat.pow_succ];omega
  have:1≤2 ^ (d+1):=Nat.one_le_two_pow
  omega
theorem good_mono {d d':Nat} {r:zj} (h:Good d r) (hd:d≤d'):Good d' r:=by
 refine ⟨rgt_mono _ _ h.right _ (by omega),?_⟩
 have:=h.small
 have:2 ^ (d+1)≤2 ^ (d'+1):=Nat.pow_le_pow_right (by omega) (by omega)
 omega
theorem zfs {d:Nat} {r:zj} (h:Good d r) (hd:d≤10):r.Kids.length < 1000000∧Wf r:=by
 have hs:=h.small
 have:2 ^ (d+1)≤2 ^ 11:=Nat.pow_le_pow_right (by omega) (by omega)
 have e:=zgD r
 have:=zf2 r.Kids
 exact ⟨by omega,wf_of_cnt r (by omega)⟩
theorem mk_ok:∀ (d:Nat),d≤5→∀ (deep:Int),deep≤d→-10≤deep→∀ m,MOk m→m.At+10 * 3 ^ d < 100000→∃ r o,zM deep m r o∧Good d r∧o.L=m.L∧m.At≤o.At∧o.At≤m.At+10 * 3 ^ d:=by
 intro d
 induction d using Nat.strongRecOn with
 | _ d ih=>
 intro hd5 deep hdd hd0 m hm hat
 have h30:(1:Int)≤3 ^ d:=by exact_mod_cast Nat.one_le_pow d 3 (by omega)
 have hm0:=hm.at0
 obtain ⟨k,p0,p1,hp⟩:=zdZ 8 m (by omega) hm (by omega)
 have hm1:MOk { L:=m.L,At:=m.At+1 }:=⟨hm.bytes,hm.len,by simp only;omega⟩
 by_cases hleaf:(decide (deep < 1) || (decide (k < 2) || decide (m.At+1≥(m.L.length:Int))))=true
 ·obtain ⟨r,o,c1,c2,c3,c4,c5⟩:=leaf_ok _ hm1 (by simp only;omega)
  exact ⟨r,o,za4 deep m _ _ ⟨_,_,hp,fun _=>⟨_,_,c1,rfl,rfl⟩,fun h=>(by rw [hleaf] at h;cases h)⟩,good_mono c2 (by omega),c3,by simp only at c4;omega,by simp only at c5;omega⟩
 have hleaf:(decide (deep < 1) || (decide (k < 2) || decide (m.At+1≥(m.L.length:Int))))=false:=by simpa using hleaf
 have hdp:1≤deep:=by simp only [Bool.or_eq_false_iff,decide_eq_false_iff_not] at hleaf;omega
 obtain ⟨e,rfl⟩:∃ e,d=e+1:=⟨d - 1,by omega⟩
 have h3:(3:Int) ^ (e+1)=3 * 3 ^ e:=by rw [Int.pow_succ];omega
 have h3e:(1:Int)≤3 ^ e:=by exact_mod_cast Nat.one_le_pow e 3 (by omega)
 have hw1:w64 (deep - 1)=deep - 1:=zG (by omega) (by omega)
 have hw2:w64 (deep - 2)=deep - 2:=zG (by omega) (by omega)
 by_cases hk5:k < 5
 ·obtain ⟨r1,o1,c1,g1,l1,u1,v1⟩:=ih e (by omega) (by omega) (deep - 1) (by omega) (by omega) _ hm1 (by simp only;omega)
  simp only at l1 u1 v1
  obtain ⟨r2,o2,c2,g2,l2,u2,v2⟩:=ih e (by omega) (by omega) (deep - 1) (by omega) (by omega) o1 ⟨by rw [l1];exact hm.bytes,by rw [l1];exact hm.len,by omega⟩ (by omega)
  refine ⟨_,o2,za4 deep m _ _ ⟨_,_,hp,fun h=>(by rw [hleaf] at h;cases h),fun _=>⟨fun _=>⟨_,_,by rw [hw1];exact c1,_,_,by rw [hw1];exact c2,_,joined_ok 3 r1 r2 (zfs g1 (by omega)).1 (zfs g2 (by omega)).1,rfl,rfl⟩,fun h=>absurd hk5 (by simpa using h)⟩⟩,zhx (.inl rfl) g1 g2,by rw [l2,l1],by omega,by omega⟩
 by_cases hk5':k=5
 ·obtain ⟨r1,o1,c1,g1,l1,u1,v1⟩:=ih e (by omega) (by omega) (deep - 1) (by omega) (by omega) _ hm1 (by simp only;omega)
  simp only at l1 u1 v1
  obtain ⟨r2,o2,c2,g2,l2,u2,v2⟩:=ih e (by omega) (by omega) (deep - 1) (by omega) (by omega) o1 ⟨by rw [l1];exact hm.bytes,by rw [l1];exact hm.len,by omega⟩ (by omega)
  refine ⟨_,o2,za4 deep m _ _ ⟨_,_,hp,fun h=>(by rw [hleaf] at h;cases h),fun _=>⟨fun h=>absurd (by simpa using h) hk5,fun _=>⟨fun _=>⟨_,_,by rw [hw1];exact c1,_,_,by rw [hw1];exact c2,_,joined_ok 4 r1 r2 (zfs g1 (by omega)).1 (zfs g2 (by omega)).1,rfl,rfl⟩,fun h=>absurd hk5' (by simpa using h)⟩⟩⟩,zhx (.inr rfl) g1 g2,by rw [l2,l1],by omega,by omega⟩
 obtain ⟨lo,q0,q1,hq⟩:=zdZ 3 _ (by omega) hm1 (by simp only;omega)
 simp only at hq
 have hm2:MOk { L:=m.L,At:=m.At+1+1 }:=⟨hm.bytes,hm.len,by simp only;omega⟩
 obtain ⟨st,s0,s1,hs⟩:=zdZ 2 _ (by omega) hm2 (by simp only;omega)
 simp only at hs
 have hm3:MOk { L:=m.L,At:=m.At+1+1+1 }:=⟨hm.bytes,hm.len,by simp only;omega⟩
 obtain ⟨more,t0,t1,ht⟩:=zdZ 2 _ (by omega) hm3 (by simp only;omega)
 simp only at ht
 have kid:∀ a:Int,m.At+1≤a→a≤m.At+4→∃ r o,zM (deep - 2) { L:=m.L,At:=a } r o∧Good e r∧o.L=m.L∧m.At≤o.At∧o.At≤m.At+10 * 3 ^ (e+1):=by
  intro a ha1 ha2
  obtain ⟨r,o,c,g,l,u,v⟩:=ih e (by omega) (by omega) (deep - 2) (by omega) (by omega) { L:=m.L,At:=a } ⟨hm.bytes,hm.len,by simp only;omega⟩ (by simp only;omega)
  simp only at l u v
  exact ⟨r,o,c,g,l,by omega,by omega⟩
 have good:∀ {r:zj} {hi:Int},Good e r→timesB lo hi=true→Good (e+1) ⟨5,zset,lo,hi,[r]⟩:=by
  intro r hi g htm
  constructor
  ·rw [zgn]
   have hz:noSet zset=true:=rfl
   have e1:(((e+1:Nat):Int)+1 - 1)=(e:Int)+1:=by omega
   have e2:decide ((((e+1:Nat):Int)+1) > 0)=true:=by simp;omega
   rw [e1,e2]
   simp [ownB,hz,htm,oddK,g.right]
  ·rw [zgD]
   have:=g.small
   have epow:2 ^ (e+1+1)=2 ^ (e+1)+2 ^ (e+1):=by rw [Nat.pow_succ];omega
   have:1≤2 ^ (e+1):=Nat.one_le_two_pow
   simp;omega
 have hwhi:w64 ((if lo > 1 then lo else 1)+more)=(if lo > 1 then lo else 1)+more:=by
  split<;>exact zG (by omega) (by omega)
 have fin:∀ (a hi:Int),m.At+1≤a→a≤m.At+4→timesB lo hi=true→((st=1∧a=m.At+4∧hi=(if lo > 1 then lo else 1)+more)∨(st≠1∧a=m.At+3∧hi = -1))→
  ∃ r o,zM deep m r o∧Good (e+1) r∧o.L=m.L∧m.At≤o.At∧o.At≤m.At+10 * 3 ^ (e+1):=by
  intro a hi ha1 ha2 htm hcase
  obtain ⟨r,o,c,g,l,u,v⟩:=kid a ha1 ha2
  refine ⟨_,o,za4 deep m _ _ ⟨_,_,hp,fun h=>(by rw [hleaf] at h;cases h),fun _=>⟨fun h=>absurd (by simpa using h) hk5,fun _=>⟨fun h=>absurd (by simpa using h) hk5',fun _=>⟨_,_,hq,fun L A H=>L=m.L∧A=a∧H=hi,?_,_,_,hs,fun h1=>?_,fun h1=>?_⟩⟩⟩⟩,good g htm,l,u,v⟩
  ·rintro L A H ⟨rfl,rfl,rfl⟩
   exact ⟨_,_,by rw [hw2];exact c,rfl,rfl⟩
  ·have h1:st=1:=by simpa using h1
   rcases hcase with ⟨_,rfl,rfl⟩ | ⟨h2,_⟩
   ·exact ⟨_,_,ht,rfl,by simp only;omega,hwhi⟩
   ·exact absurd h1 h2
  ·have h1:st≠1:=by simpa using h1
   rcases hcase with ⟨h2,_⟩ | ⟨_,rfl,rfl⟩
   ·exact absurd h2 h1
   ·exact ⟨rfl,by simp only;omega,rfl⟩
 by_cases h1:st=1
 ·refine fin (m.At+4) ((if lo > 1 then lo else 1)+more) (by omega) (by omega) ?_ (.inl ⟨h1,rfl,rfl⟩)
  simp only [timesB,Bool.and_eq_true,decide_eq_true_eq,Bool.or_eq_true]
  refine ⟨by omega,by omega,.inr ⟨?_,?_⟩⟩<;>split<;>omega
 ·refine fin (m.At+3) (-1) (by omega) (by omega) ?_ (.inr ⟨h1,rfl,rfl⟩)
  simp only [timesB,Bool.and_eq_true,decide_eq_true_eq,Bool.or_eq_true]
  exact ⟨by omega,by omega,.inl (by simp)⟩
end Go.Ev.Pl
namespace Go.Ev.Pl
open Go Go.Ev
section
variable (N : Nat) (B : Nat → Int)
def hdS (sets:List za) (p i:Nat):Prop:=i < N∧∃ s,sets[p]?=some s∧setHas s (B i)=true
inductive Pth (sets:List za) (last:Nat→Bool) (fo:Nat→Nat→Bool):Nat→Nat→Nat→Prop where
 | last {p i:Nat} (h:hdS N B sets p i) (hl:last p=true):Pth sets last fo p i (i+1)
 | step {p q i j:Nat} (h:hdS N B sets p i) (hf:fo p q=true) (hp:Pth sets last fo q (i+1) j):Pth sets last fo p i j
def one (g:GA) (i j:Nat):Prop:=∃ p,g.first p=true∧Pth N B g.sets g.last g.follow p i j
def acc (g:GA) (i j:Nat):Prop:=(g.null=true∧i=j)∨one N B g i j
variable {N B}
theorem pth_lt {sets:List za} {last:Nat→Bool} {fo:Nat→Nat→Bool} {p i j:Nat} (h:Pth N B sets last fo p i j):i < j∧j≤N:=by
 induction h with
 | last h _=>exact ⟨by omega,h.1⟩
 | step h _ _ ih=>omega
theorem ziD {g:GA} {i j:Nat} (h:acc N B g i j) (hi:i≤N):i≤j∧j≤N:=by
 rcases h with ⟨_,rfl⟩ | ⟨p,_,h⟩
 ·exact ⟨Nat.le_refl _,hi⟩
 ·have:=pth_lt h;omega
theorem zdY {sets sets':List za} {last last':Nat→Bool} {fo fo':Nat→Nat→Bool} (I:Nat→Prop) (f:Nat→Nat) (hI:∀ p q i,I p→hdS N B sets p i→fo p q=true→I q)
 (h1:∀ p i,I p→hdS N B sets p i→hdS N B sets' (f p) i) (h2:∀ p i,I p→hdS N B sets p i→last p=true→last' (f p)=true)
 (h3:∀ p q i,I p→hdS N B sets p i→fo p q=true→fo' (f p) (f q)=true) {p i j:Nat} (h:Pth N B sets last fo p i j):I p→Pth N B sets' last' fo' (f p) i j:=by
 induction h with
 | last h hl=>exact fun hp=>.last (h1 _ _ hp h) (h2 _ _ hp h hl)
 | step h hf _ ih=>exact fun hp=>.step (h1 _ _ hp h) (h3 _ _ _ hp h hf) (ih (hI _ _ _ hp h hf))
theorem hd_lt {sets:List za} {p i:Nat} (h:hdS N B sets p i):p < sets.length:=by
 obtain ⟨_,s,hs,_⟩:=h;exact (List.getElem?_eq_some_iff.1 hs).1
theorem zeY {s t:List za} {p i:Nat} (hp:p < s.length):hdS N B (s++t) p i↔hdS N B s p i:=by
 unfold hdS;rw [List.getElem?_append_left hp]
theorem zg1 {s t:List za} {p i:Nat}:hdS N B (s++t) (s.length+p) i↔hdS N B t p i:=by
 unfold hdS;rw [List.getElem?_append_right (by omega),show s.length+p - s.length=p by omega]
variable {a b : GA}
theorem zfE (ha:Canon a) {p i j:Nat}:Pth N B (gCat a b).sets (gCat a b).last (gCat a b).follow (a.n+p) i j↔Pth N B b.sets b.last b.follow p i j:=by
 constructor
 ·intro h
  have:=zdY (sets':=b.sets) (last':=b.last) (fo':=b.follow) (fun q=>a.n≤q) (fun q=>q - a.n) ?_ ?_ ?_ ?_ h (by omega)
  ·rwa [show a.n+p - a.n=p by omega] at this
  ·intro p q i hp _ hf
   simp only [gCat,blk] at hf
   rw [if_neg (by omega)] at hf
   by_cases hq:q < a.n
   ·rw [if_pos hq] at hf;cases hf
   ·omega
  ·intro p i hp hd
   have hd:hdS N B (a.sets++b.sets) p i:=hd
   rw [show p=a.sets.length+(p - a.n) by rw [ha.sets];omega] at hd
   exact zg1.1 hd
  ·intro p i hp _ hl
   simp only [gCat] at hl
   rwa [if_neg (by omega)] at hl
  ·intro p q i hp _ hf
   simp only [gCat,blk] at hf
   rw [if_neg (by omega)] at hf
   by_cases hq:q < a.n
   ·rw [if_pos hq] at hf;cases hf
   ·rwa [if_neg hq] at hf
 ·intro h
  refine zdY (fun _=>True) (fun q=>a.n+q) (fun _ _ _ _ _ _=>trivial) ?_ ?_ ?_ h trivial
  ·intro p i _ hd
   show hdS N B (a.sets++b.sets) (a.n+p) i
   rw [← ha.sets];exact zg1.2 hd
  ·intro p i _ _ hl
   simp only [gCat];rwa [if_neg (by omega),show a.n+p - a.n=p by omega]
  ·intro p q i _ _ hf
   simp only [gCat,blk];rwa [if_neg (by omega),if_neg (by omega),show a.n+p - a.n=p by omega,show a.n+q - a.n=q by omega]
theorem zer (ha:Canon a) {p i j:Nat} (hp:p < a.n):Pth N B (gCat a b).sets (gCat a b).last (gCat a b).follow p i j↔
 (b.null=true∧Pth N B a.sets a.last a.follow p i j)∨∃ k,Pth N B a.sets a.last a.follow p i k∧one N B b k j:=by
 constructor
 ·intro h
  generalize hs:(gCat a b).sets=sets at h
  generalize hl:(gCat a b).last=last at h
  generalize hf:(gCat a b).follow=fo at h
  induction h with
  | last h hl'=>
    subst hs hl
    have hd:=(zeY (t:=b.sets) (by rw [ha.sets];exact hp)).1 h
    simp only [gCat,if_pos hp,Bool.and_eq_true] at hl'
    exact .inl ⟨hl'.1,.last hd hl'.2⟩
  | @step p q i j h hf' hq ih=>
    have hd:=(zeY (t:=b.sets) (by rw [ha.sets];exact hp)).1 (by rw [← hs] at h;exact h)
    have hf2:=hf'
    rw [← hf] at hf2
    simp only [gCat,blk,if_pos hp] at hf2
    by_cases hqn:q < a.n
    ·rw [if_pos hqn] at hf2
     rcases ih hqn with ⟨h1,h2⟩ | ⟨k,h1,h2⟩
     ·exact .inl ⟨h1,.step hd hf2 h2⟩
     ·exact .inr ⟨k,.step hd hf2 h1,h2⟩
    ·rw [if_neg hqn,Bool.and_eq_true] at hf2
     rw [← hs,← hl,← hf,show q=a.n+(q - a.n) by omega,zfE ha] at hq
     exact .inr ⟨i+1,.last hd hf2.1,q - a.n,hf2.2,hq⟩
 ·rintro (⟨hn,h⟩ | ⟨k,h,q,hq,h2⟩)
  ·refine zdY (fun q=>True) (fun q=>q) (fun _ _ _ _ _ _=>trivial) ?_ ?_ ?_ h trivial
   ·exact fun p i _ hd=>(zeY (hd_lt hd)).2 hd
   ·intro p i _ hd hl
    have:=hd_lt hd
    rw [ha.sets] at this
    simp only [gCat,if_pos this,hn,hl];rfl
   ·intro p q i _ hd hf
    have:=hd_lt hd
    rw [ha.sets] at this
    have hqn:q < a.n:=by
     rcases Nat.lt_or_ge q a.n with h | h
     ·exact h
     ·rw [ha.follow p q (.inr h)] at hf;cases hf
    simp only [gCat,blk,if_pos this,if_pos hqn,hf]
  ·induction h with
   | last h hl=>
     have hd:=(zeY (t:=b.sets) (hd_lt h)).2 h
     refine .step (q:=a.n+q) hd ?_ ((zfE ha).2 h2)
     simp only [gCat,blk,if_pos hp]
     rw [if_neg (by omega),show a.n+q - a.n=q by omega,hl,hq];rfl
   | @step p q' i j h hf hp' ih=>
     have hd:=(zeY (t:=b.sets) (hd_lt h)).2 h
     have hqn:q' < a.n:=by
      rcases Nat.lt_or_ge q' a.n with h | h
      ·exact h
      ·rw [ha.follow p q' (.inr h)] at hf;cases hf
     refine .step (q:=q') hd ?_ (ih hqn h2)
     simp only [gCat,blk,if_pos hp,if_pos hqn,hf]
theorem zdD (ha:Canon a) {p:Nat} (h:a.first p=true):p < a.n:=by
 rcases Nat.lt_or_ge p a.n with h1 | h1
 ·exact h1
 ·rw [ha.first p h1] at h;cases h
theorem acc_cat (ha:Canon a) {i j:Nat}:acc N B (gCat a b) i j↔∃ k,acc N B a i k∧acc N B b k j:=by
 constructor
 ·rintro (⟨hn,rfl⟩ | ⟨p,hf,h⟩)
  ·simp only [gCat,Bool.and_eq_true] at hn
   exact ⟨i,.inl ⟨hn.1,rfl⟩,.inl ⟨hn.2,rfl⟩⟩
  ·by_cases hp:p < a.n
   ·simp only [gCat,if_pos hp] at hf
    rcases (zer ha hp).1 h with ⟨h1,h2⟩ | ⟨k,h1,h2⟩
    ·exact ⟨j,.inr ⟨p,hf,h2⟩,.inl ⟨h1,rfl⟩⟩
    ·exact ⟨k,.inr ⟨p,hf,h1⟩,.inr h2⟩
   ·simp only [gCat,if_neg hp,Bool.and_eq_true] at hf
    rw [show p=a.n+(p - a.n) by omega,zfE ha] at h
    exact ⟨i,.inl ⟨hf.1,rfl⟩,.inr ⟨_,hf.2,h⟩⟩
 ·rintro ⟨k,(⟨h1,rfl⟩ | ⟨p,h1,h2⟩),(⟨h3,rfl⟩ | ⟨q,h3,h4⟩)⟩
  ·exact .inl ⟨by simp only [gCat,h1,h3];rfl,rfl⟩
  ·refine .inr ⟨a.n+q,?_,(zfE ha).2 h4⟩
   simp only [gCat];rw [if_neg (by omega),show a.n+q - a.n=q by omega,h1,h3];rfl
  ·have hp:=zdD ha h1
   exact .inr ⟨p,by simp only [gCat,if_pos hp,h1],(zer ha hp).2 (.inl ⟨h3,h2⟩)⟩
  ·have hp:=zdD ha h1
   exact .inr ⟨p,by simp only [gCat,if_pos hp,h1],(zer ha hp).2 (.inr ⟨k,h2,q,h3,h4⟩)⟩
theorem alt_left (ha:Canon a) {p i j:Nat} (hp:p < a.n):Pth N B (gAlt a b).sets (gAlt a b).last (gAlt a b).follow p i j↔Pth N B a.sets a.last a.follow p i j:=by
 constructor
 ·intro h
  refine zdY (fun q=>q < a.n) (fun q=>q) ?_ ?_ ?_ ?_ h hp
  ·intro p q i hp _ hf
   simp only [gAlt,blk,if_pos hp] at hf
   by_cases hq:q < a.n
   ·exact hq
   ·rw [if_neg hq] at hf;cases hf
  ·exact fun p i hp hd=>(zeY (t:=b.sets) (by rw [ha.sets];exact hp)).1 hd
  ·intro p i hp _ hl;simpa only [gAlt,if_pos hp] using hl
  ·intro p q i hp _ hf
   simp only [gAlt,blk,if_pos hp] at hf
   by_cases hq:q < a.n
   ·rwa [if_pos hq] at hf
   ·rw [if_neg hq] at hf;cases hf
 ·intro h
  refine zdY (fun q=>True) (fun q=>q) (fun _ _ _ _ _ _=>trivial) ?_ ?_ ?_ h trivial
  ·exact fun p i _ hd=>(zeY (hd_lt hd)).2 hd
  ·intro p i _ hd hl
   have:=hd_lt hd
   rw [ha.sets] at this
   simp only [gAlt,if_pos this,hl]
  ·intro p q i _ hd hf
   have:=hd_lt hd
   rw [ha.sets] at this
   have hqn:q < a.n:=by
    rcases Nat.lt_or_ge q a.n with h | h
    ·exact h
    ·rw [ha.follow p q (.inr h)] at hf;cases hf
   simp only [gAlt,blk,if_pos this,if_pos hqn,hf]
theorem alt_right (ha:Canon a) {p i j:Nat}:Pth N B (gAlt a b).sets (gAlt a b).last (gAlt a b).follow (a.n+p) i j↔Pth N B b.sets b.last b.follow p i j:=by
 constructor
 ·intro h
  have:=zdY (sets':=b.sets) (last':=b.last) (fo':=b.follow) (fun q=>a.n≤q) (fun q=>q - a.n) ?_ ?_ ?_ ?_ h (by omega)
  ·rwa [show a.n+p - a.n=p by omega] at this
  ·intro p q i hp _ hf
   simp only [gAlt,blk] at hf
   rw [if_neg (by omega)] at hf
   by_cases hq:q < a.n
   ·rw [if_pos hq] at hf;cases hf
   ·omega
  ·intro p i hp hd
   have hd:hdS N B (a.sets++b.sets) p i:=hd
   rw [show p=a.sets.length+(p - a.n) by rw [ha.sets];omega] at hd
   exact zg1.1 hd
  ·intro p i hp _ hl
   simp only [gAlt] at hl
   rwa [if_neg (by omega)] at hl
  ·intro p q i hp _ hf
   simp only [gAlt,blk] at hf
   rw [if_neg (by omega)] at hf
   by_cases hq:q < a.n
   ·rw [if_pos hq] at hf;cases hf
   ·rwa [if_neg hq] at hf
 ·intro h
  refine zdY (fun _=>True) (fun q=>a.n+q) (fun _ _ _ _ _ _=>trivial) ?_ ?_ ?_ h trivial
  ·intro p i _ hd
   show hdS N B (a.sets++b.sets) (a.n+p) i
   rw [← ha.sets];exact zg1.2 hd
  ·intro p i _ _ hl
   simp only [gAlt];rwa [if_neg (by omega),show a.n+p - a.n=p by omega]
  ·intro p q i _ _ hf
   simp only [gAlt,blk];rwa [if_neg (by omega),if_neg (by omega),show a.n+p - a.n=p by omega,show a.n+q - a.n=q by omega]
theorem acc_alt (ha:Canon a) {i j:Nat}:acc N B (gAlt a b) i j↔acc N B a i j∨acc N B b i j:=by
 constructor
 ·rintro (⟨hn,rfl⟩ | ⟨p,hf,h⟩)
  ·simp only [gAlt,Bool.or_eq_true] at hn
   exact hn.imp (fun h=>.inl ⟨h,rfl⟩) fun h=>.inl ⟨h,rfl⟩
  ·by_cases hp:p < a.n
   ·simp only [gAlt,if_pos hp] at hf
    exact .inl (.inr ⟨p,hf,(alt_left ha hp).1 h⟩)
   ·simp only [gAlt,if_neg hp] at hf
    rw [show p=a.n+(p - a.n) by omega,alt_right ha] at h
    exact .inr (.inr ⟨_,hf,h⟩)
 ·rintro ((⟨h1,rfl⟩ | ⟨p,h1,h2⟩) | (⟨h1,rfl⟩ | ⟨q,h3,h4⟩))
  ·exact .inl ⟨by simp only [gAlt,h1];rfl,rfl⟩
  ·have hp:=zdD ha h1
   exact .inr ⟨p,by simp only [gAlt,if_pos hp,h1],(alt_left ha hp).2 h2⟩
  ·exact .inl ⟨by simp only [gAlt,h1];simp,rfl⟩
  ·refine .inr ⟨a.n+q,?_,(alt_right ha).2 h4⟩
   simp only [gAlt];rw [if_neg (by omega),show a.n+q - a.n=q by omega,h3]
def pow (R:Nat→Nat→Prop):Nat→Nat→Nat→Prop
 | 0,i,j=>i=j
 | m+1,i,j=>∃ k,pow R m i k∧R k j
theorem pow_add {R:Nat→Nat→Prop} {m:Nat}:∀ {q i j:Nat},pow R (m+q) i j↔∃ k,pow R m i k∧pow R q k j
 | 0,i,j=>⟨fun h=>⟨j,h,rfl⟩,fun ⟨k,h,e⟩=>by cases e;exact h⟩
 | q+1,i,j=>by
   show (∃ k,pow R (m+q) i k∧R k j)↔_
   constructor
   ·rintro ⟨k,h1,h2⟩
    obtain ⟨l,h3,h4⟩:=pow_add.1 h1
    exact ⟨l,h3,k,h4,h2⟩
   ·rintro ⟨l,h3,k,h4,h2⟩
    exact ⟨k,pow_add.2 ⟨l,h3,h4⟩,h2⟩
theorem zf1 {R:Nat→Nat→Prop} {i j:Nat}:pow R 1 i j↔R i j:=⟨fun ⟨k,e,h⟩=>by cases e;exact h,fun h=>⟨i,rfl,h⟩⟩
theorem zcH {R:Nat→Nat→Prop} {m i j:Nat}:pow R (m+1) i j↔∃ k,R i k∧pow R m k j:=by
 rw [Nat.add_comm,pow_add]
 exact ⟨fun ⟨k,h1,h2⟩=>⟨k,zf1.1 h1,h2⟩,fun ⟨k,h1,h2⟩=>⟨k,zf1.2 h1,h2⟩⟩
theorem zcP {i j:Nat}:acc N B gEmpty i j↔i=j:=by
 constructor
 ·rintro (⟨_,h⟩ | ⟨p,h,_⟩)
  ·exact h
  ·cases h
 ·exact fun h=>.inl ⟨rfl,h⟩
theorem acc_none {i j:Nat}:¬ acc N B gNone i j:=fun h=>by
 rcases h with ⟨h,_⟩ | ⟨p,h,_⟩<;>cases h
theorem acc_byte {s:za} {i j:Nat}:acc N B (gByte s) i j↔i < N∧setHas s (B i)=true∧j=i+1:=by
 constructor
 ·rintro (⟨h,_⟩ | ⟨p,h,h2⟩)
  ·cases h
  ·simp only [gByte,beq_iff_eq] at h
   subst h
   cases h2 with
   | last h hl=>
     obtain ⟨h1,s',h2,h3⟩:=h
     simp only [gByte,List.getElem?_cons_zero,Option.some.injEq] at h2
     subst h2
     exact ⟨h1,h3,rfl⟩
   | step h hf _=>cases hf
 ·rintro ⟨h1,h2,rfl⟩
  exact .inr ⟨0,rfl,.last ⟨h1,s,rfl,h2⟩ rfl⟩
theorem zh3 {i j:Nat}:acc N B (gMaybe a) i j↔i=j∨acc N B a i j:=by
 constructor
 ·rintro (⟨_,h⟩ | h)
  ·exact .inl h
  ·exact .inr (.inr h)
 ·rintro (h | ⟨_,h⟩ | h)
  ·exact .inl ⟨rfl,h⟩
  ·exact .inl ⟨rfl,h⟩
  ·exact .inr h
theorem zfG {i j:Nat}:acc N B (gAgain a) i j↔∃ m,pow (acc N B a) (m+1) i j:=by
 constructor
 ·rintro (⟨hn,rfl⟩ | ⟨p,hp,h⟩)
  ·exact ⟨0,zf1.2 (.inl ⟨hn,rfl⟩)⟩
  ·have key:∀ {p i j:Nat},Pth N B a.sets a.last (gAgain a).follow p i j→∃ k m,Pth N B a.sets a.last a.follow p i k∧pow (acc N B a) m k j:=by
    intro p i j h
    induction h with
    | last h hl=>exact ⟨_,0,.last h hl,rfl⟩
    | @step p q i j h hf hq ih=>
      obtain ⟨k,m,h1,h2⟩:=ih
      simp only [gAgain,Bool.or_eq_true,Bool.and_eq_true] at hf
      rcases hf with hf | ⟨hl,hq⟩
      ·exact ⟨k,m,.step h hf h1,h2⟩
      ·exact ⟨i+1,m+1,.last h hl,zcH.2 ⟨k,.inr ⟨q,hq,h1⟩,h2⟩⟩
   obtain ⟨k,m,h1,h2⟩:=key h
   exact ⟨m,zcH.2 ⟨k,.inr ⟨p,hp,h1⟩,h2⟩⟩
 ·rintro ⟨m,h⟩
  have mono:∀ {p i j:Nat},Pth N B a.sets a.last a.follow p i j→Pth N B a.sets a.last (gAgain a).follow p i j:=by
   intro p i j h
   exact zdY (fun _=>True) (fun q=>q) (fun _ _ _ _ _ _=>trivial) (fun _ _ _ h=>h) (fun _ _ _ _ h=>h) (fun p q i _ _ hf=>by simp only [gAgain,hf];rfl) h trivial
  have glue:∀ {p i k q j:Nat},Pth N B a.sets a.last a.follow p i k→a.first q=true→Pth N B a.sets a.last (gAgain a).follow q k j→Pth N B a.sets a.last (gAgain a).follow p i j:=by
   intro p i k q j h hq h2
   induction h with
   | last h hl=>exact .step h (by simp only [gAgain,hl,hq];simp) h2
   | step h hf _ ih=>exact .step h (by simp only [gAgain,hf];rfl) (ih h2)
  induction m generalizing i with
  | zero=>
    rcases zf1.1 h with ⟨hn,rfl⟩ | ⟨p,hp,h⟩
    ·exact .inl ⟨hn,rfl⟩
    ·exact .inr ⟨p,hp,mono h⟩
  | succ m ih=>
    obtain ⟨k,h1,h2⟩:=zcH.1 h
    have h2:=ih h2
    rcases h1 with ⟨hn,rfl⟩ | ⟨p,hp,h1⟩
    ·exact h2
    ·rcases h2 with ⟨hn,rfl⟩ | ⟨q,hq,h2⟩
     ·exact .inr ⟨p,hp,mono h1⟩
     ·exact .inr ⟨p,hp,glue h1 hq h2⟩
theorem zg8 (ha:Canon a) {z:GA}:∀ {k i j:Nat},acc N B (iter (gCat a) k z) i j↔∃ l,pow (acc N B a) k i l∧acc N B z l j
 | 0,i,j=>⟨fun h=>⟨i,rfl,h⟩,fun ⟨l,e,h⟩=>by cases e;exact h⟩
 | k+1,i,j=>by
   rw [iter,acc_cat ha]
   constructor
   ·rintro ⟨m,h1,h2⟩
    obtain ⟨l,h3,h4⟩:=(zg8 ha).1 h2
    exact ⟨l,zcH.2 ⟨m,h1,h3⟩,h4⟩
   ·rintro ⟨l,h1,h2⟩
    obtain ⟨m,h3,h4⟩:=zcH.1 h1
    exact ⟨m,h3,(zg8 ha).2 ⟨l,h4,h2⟩⟩
theorem zg7 (ha:Canon a):∀ {k i j:Nat},acc N B (iter (fun o=>gMaybe (gCat a o)) k gEmpty) i j↔∃ m,m≤k∧pow (acc N B a) m i j
 | 0,i,j=>by
   rw [iter,zcP]
   constructor
   ·exact fun h=>⟨0,Nat.le_refl _,h⟩
   ·rintro ⟨m,h,e⟩
    have hm:m=0:=by omega
    subst hm
    exact e
 | k+1,i,j=>by
   rw [iter,zh3,acc_cat ha]
   constructor
   ·rintro (h | ⟨l,h1,h2⟩)
    ·exact ⟨0,by omega,h⟩
    ·obtain ⟨m,h3,h4⟩:=(zg7 ha).1 h2
     exact ⟨m+1,by omega,zcH.2 ⟨l,h1,h4⟩⟩
   ·rintro ⟨m,h1,h2⟩
    cases m with
    | zero=>exact .inl h2
    | succ m=>
      obtain ⟨l,h3,h4⟩:=zcH.1 h2
      exact .inr ⟨l,h3,(zg7 ha).2 ⟨m,by omega,h4⟩⟩
theorem zh2 (ha:Canon a) {lo hi:Int} (h0:0≤lo) (h1:hi = -1∨1≤hi∧lo≤hi) {i j:Nat}:acc N B (gRep a lo hi) i j↔∃ q,(hi < 0∨lo+(q:Nat)≤hi)∧pow (acc N B a) (lo.toNat+q) i j:=by
 unfold gRep
 split
 ·rename_i hh
  rw [zg8 ha]
  by_cases hl:lo=0
  ·subst hl
   rw [show (max (0:Int) 1 - 1).toNat=0 from rfl]
   simp only [if_true]
   constructor
   ·rintro ⟨l,e,h⟩
    cases e
    rcases zh3.1 h with e | h
    ·exact ⟨0,.inl hh,e⟩
    ·obtain ⟨m,h⟩:=zfG.1 h
     refine ⟨m+1,.inl hh,?_⟩
     rw [show (0:Int).toNat=0 from rfl,Nat.zero_add];exact h
   ·rintro ⟨q,_,h⟩
    rw [show (0:Int).toNat=0 from rfl,Nat.zero_add] at h
    refine ⟨i,rfl,zh3.2 ?_⟩
    cases q with
    | zero=>exact .inl h
    | succ q=>exact .inr (zfG.2 ⟨q,h⟩)
  ·rw [if_neg hl]
   obtain ⟨n,hn⟩:∃ n:Nat,lo=((n+1:Nat):Int):=⟨(lo - 1).toNat,by omega⟩
   subst hn
   rw [show (max (((n+1:Nat):Int)) 1 - 1).toNat=n by omega]
   have e2:((n+1:Nat):Int).toNat=n+1:=by omega
   rw [e2]
   constructor
   ·rintro ⟨l,h2,h3⟩
    obtain ⟨m,h4⟩:=zfG.1 h3
    refine ⟨m,.inl hh,?_⟩
    rw [show n+1+m=n+(m+1) by omega]
    exact pow_add.2 ⟨l,h2,h4⟩
   ·rintro ⟨q,_,h⟩
    rw [show n+1+q=n+(q+1) by omega] at h
    obtain ⟨l,h2,h3⟩:=pow_add.1 h
    exact ⟨l,h2,zfG.2 ⟨q,h3⟩⟩
 ·rename_i hh
  rw [zg8 ha]
  constructor
  ·rintro ⟨l,h2,h3⟩
   obtain ⟨m,h4,h5⟩:=(zg7 ha).1 h3
   exact ⟨m,.inr (by omega),pow_add.2 ⟨l,h2,h5⟩⟩
  ·rintro ⟨q,h2,h3⟩
   obtain ⟨l,h4,h5⟩:=pow_add.1 h3
   exact ⟨l,h4,(zg7 ha).2 ⟨q,by omega,h5⟩⟩
end
end Go.Ev.Pl
namespace Go.Ev.Pl
open Go Go.Ev
noncomputable def bl (N:Nat) (P:Nat→Prop):List Bool:=(List.range (N+1)).map fun j=>@decide (P j) (Classical.propDecidable _)
theorem zcq (N:Nat) (P:Nat→Prop):(bl N P).length=N+1:=by simp [bl]
theorem bl_get {N:Nat} {P:Nat→Prop} {j:Nat} (h:j < (bl N P).length):(bl N P)[j]=@decide (P j) (Classical.propDecidable _):=by simp [bl]
theorem bl_gd {N:Nat} {P:Nat→Prop} {j:Nat} (h:j≤N):gd (bl N P) (j:Int)=true↔P j:=by
 rw [z8 (by rw [zcq];omega),bl_get];simp
theorem bl_gdf {N:Nat} {P:Nat→Prop} {j:Nat} (h:j≤N):gd (bl N P) (j:Int)=false↔¬ P j:=by
 rw [z8 (by rw [zcq];omega),bl_get];simp
theorem zbz {N:Nat} {P Q:Nat→Prop} (h:∀ j,j≤N→(P j↔Q j)):bl N P=bl N Q:=by
 unfold bl
 refine List.map_congr_left fun j hj=>?_
 have:=h j (by have:=List.mem_range.1 hj;omega)
 by_cases hp:P j
 ·simp [hp,this.1 hp]
 ·have hq:¬ Q j:=fun hq=>hp (this.2 hq)
  simp [hp,hq]
theorem bl_ext {N:Nat} {P:Nat→Prop} {l:List Bool} (hl:l.length=N+1) (h:∀ (j:Nat) (hj:j < l.length),l[j]=true↔P j):l=bl N P:=by
 refine List.ext_getElem (by rw [hl,zcq]) fun j h1 h2=>?_
 rw [bl_get]
 by_cases hp:P j
 ·simp [hp,(h j h1).2 hp]
 ·have:l[j]≠true:=fun e=>hp ((h j h1).1 e)
  simp [hp,this]
theorem bl_none (N:Nat):List.replicate (N+1) false=bl N fun _=>False:=
 bl_ext (by simp) fun j hj=>by simp
theorem bl_copy (N:Nat) (P Q:Nat→Prop):List.take (bl N P).length (bl N Q)++List.drop (bl N Q).length (List.replicate (bl N P).length false)=bl N Q:=by
 rw [zcq,zcq,List.take_of_length_le (by rw [zcq];exact Nat.le_refl _),List.drop_of_length_le (by simp),List.append_nil]
theorem bl_copy1 (N:Nat) (P:Nat→Prop):bl N P++List.drop (bl N P).length (List.replicate (bl N P).length false)=bl N P:=by
 rw [List.drop_of_length_le (by simp),List.append_nil]
theorem bl_set {N:Nat} {P:Nat→Prop} {i:Nat} (b:Bool) (h:i≤N):(bl N P).set i b=bl N fun j=>if j=i then b=true else P j:=
 bl_ext (by rw [List.length_set,zcq]) fun j hj=>by
  rw [List.getElem_set]
  by_cases hij:i=j
  ·subst hij;simp
  ·rw [if_neg hij,if_neg (fun e=>hij e.symm),bl_get];simp
theorem or_ok {N:Nat} (hN:N < 100000) (P Q:Nat→Prop):zaS (bl N P) (bl N Q) (bl N fun j=>P j∨Q j):=by
 have hl:=zcq N P
 refine zgO _ _ _ ⟨fun out t=>∃ i:Nat,t=i∧i≤N+1∧out=(bl N fun j=>P j∨Q j).take i,fun _ t=>(N+1 - t).toNat,⟨0,rfl,by omega,by simp⟩,?_⟩
 rintro out t ⟨i,rfl,hi,rfl⟩
 rw [hl]
 refine ⟨fun ht=>?_,fun ht=>?_⟩
 ·have ht:i < N+1:=by have:=of_decide_eq_true ht;omega
  have hw2:w64 ((i:Int)+1)=((i+1:Nat):Int):=zG (by omega) (by omega)
  have hlt:((bl N fun j=>P j∨Q j).take i).length=i:=by rw [List.length_take,zcq];omega
  have htk:(bl N fun j=>P j∨Q j).take (i+1)=(bl N fun j=>P j∨Q j).take i++[@decide (P i∨Q i) (Classical.propDecidable _)]:=by
   rw [List.take_succ_eq_append_getElem (by rw [zcq];omega),bl_get]
  rw [hw2,hlt]
  refine ⟨by omega,by omega,fun hg=>⟨fun _=>by omega,⟨i+1,rfl,by omega,?_⟩,by first | omega | (dsimp only;omega)⟩,fun hg=>⟨fun _=>by omega,fun _=>by rw [zcq];omega,fun _=>by omega,⟨i+1,rfl,by omega,?_⟩,by first | omega | (dsimp only;omega)⟩⟩
  ·rw [htk]
   have:=(bl_gd (by omega)).1 hg
   simp [this]
  ·rw [htk]
   have hp:=(bl_gdf (by omega)).1 hg
   congr 2
   by_cases hq:Q i
   ·rw [(bl_gd (by omega)).2 hq];simp [hq]
   ·rw [(bl_gdf (by omega)).2 hq];simp [hp,hq]
 ·have ht:i=N+1:=by have:=of_decide_eq_false ht;omega
  subst ht
  rw [List.take_of_length_le (by rw [zcq];exact Nat.le_refl _)]
theorem within_ok {N:Nat} (hN:N < 100000) (P Q:Nat→Prop) (b:Bool) (hb:b=true↔∀ j,j≤N→P j→Q j):zaw (bl N P) (bl N Q) b:=by
 have hl:=zcq N P
 have hl2:=zcq N Q
 refine zeC _ _ _ ⟨fun t=>∃ i:Nat,t=i∧i≤N+1∧∀ j,j < i→P j→Q j,fun t=>(N+1 - t).toNat,⟨0,rfl,by omega,by omega⟩,?_⟩
 rintro t ⟨i,rfl,hi,hall⟩
 rw [hl,hl2]
 refine ⟨fun ht=>?_,fun ht=>?_⟩
 ·have ht:i < N+1:=by have:=of_decide_eq_true ht;omega
  have hw2:w64 ((i:Int)+1)=((i+1:Nat):Int):=zG (by omega) (by omega)
  rw [hw2]
  refine ⟨by omega,by omega,fun _=>by omega,fun _=>by omega,fun hg=>?_,fun hg=>⟨⟨i+1,rfl,by omega,?_⟩,by first | omega | (dsimp only;omega)⟩⟩
  ·simp only [Bool.and_eq_true,Bool.not_eq_true'] at hg
   have h1:=(bl_gd (by omega)).1 hg.1
   have h2:=(bl_gdf (by omega)).1 hg.2
   cases b with
   | false=>rfl
   | true=>exact absurd (hb.1 rfl i (by omega) h1) h2
  ·intro j hj hp
   by_cases hji:j=i
   ·subst hji
    rw [(bl_gd (by omega)).2 hp,Bool.true_and,Bool.not_eq_false'] at hg
    exact (bl_gd (by omega)).1 hg
   ·exact hall j (by omega) hp
 ·have ht:i=N+1:=by have:=of_decide_eq_false ht;omega
  subst ht
  exact (hb.2 fun j hj hp=>hall j (by omega) hp)
theorem closed_ok (x:zj):zbi x (x.Kind == 5 && (decide (x.Hi < 0) && decide (x.Lo≤1))):=zeD _ _ rfl
open Classical in
noncomputable def cntB (P:Nat→Prop):Nat→Nat
 | 0=>0
 | n+1=>cntB P n+if P n then 1 else 0
theorem cntB_le (P:Nat→Prop):∀ n,cntB P n≤n
 | 0=>Nat.le_refl _
 | n+1=>by have:=cntB_le P n;unfold cntB;split<;>omega
theorem cntB_mono {P Q:Nat→Prop}:∀ n,(∀ j,j < n→P j→Q j)→cntB P n≤cntB Q n
 | 0,_=>Nat.le_refl _
 | n+1,h=>by
   have:=cntB_mono n fun j hj=>h j (by omega)
   unfold cntB
   by_cases hp:P n
   ·rw [if_pos hp,if_pos (h n (by omega) hp)];omega
   ·rw [if_neg hp];split<;>omega
theorem cntB_lt {P Q:Nat→Prop}:∀ n,(∀ j,j < n→P j→Q j)→(∃ j,j < n∧¬ P j∧Q j)→cntB P n+1≤cntB Q n
 | 0,_,⟨j,hj,_⟩=>by omega
 | n+1,h,⟨j,hj,h1,h2⟩=>by
   unfold cntB
   by_cases hjn:j=n
   ·subst hjn
    have:=cntB_mono j fun k hk=>h k (by omega)
    rw [if_neg h1,if_pos h2];omega
   ·have:=cntB_lt n (fun k hk=>h k (by omega)) ⟨j,by omega,h1,h2⟩
    by_cases hp:P n
    ·rw [if_pos hp,if_pos (h n (by omega) hp)];omega
    ·rw [if_neg hp];split<;>omega
theorem cntB_full {P:Nat→Prop}:∀ n,n≤cntB P n→∀ j,j < n→P j
 | 0,_,j,hj=>by omega
 | n+1,h,j,hj=>by
   unfold cntB at h
   have:=cntB_le P n
   by_cases hp:P n
   ·rw [if_pos hp] at h
    by_cases hjn:j=n
    ·subst hjn;exact hp
    ·exact cntB_full n (by omega) j (by omega)
   ·rw [if_neg hp] at h;omega
end Go.Ev.Pl
namespace Go.Ev.Pl
open Go Go.Ev
def bt (s:ByteArray) (i:Nat):Int:=w64 (((byteAt s (i:Int)).toNat:Nat):Int)
abbrev Tx (s:ByteArray) (g:GA) (F:Nat→Prop) (j:Nat):Prop:=∃ i,i≤s.size∧F i∧acc s.size (bt s) g i j
theorem zga:∀ (l:List zj) (z:GA),Canon z→Canon (l.foldl (fun o y=>gCat o (gof y)) z)
 | [],_,h=>h
 | y :: r,_,h=>zga r _ (zcO h (zap y))
theorem zet:∀ (l:List zj) (z:GA),Canon z→Canon (l.foldl (fun o y=>gAlt o (gof y)) z)
 | [],_,h=>h
 | y :: r,_,h=>zet r _ (zhX h (zap y))
theorem gof_k1 {x:zj} (h:x.Kind=1):gof x=gEmpty:=by
 rw [zcW,if_neg (by omega),if_neg (by omega),if_neg (by omega),if_neg (by omega)]
theorem gof_k2 {x:zj} (h:x.Kind=2):gof x=gByte x.Set:=by rw [zcW,if_pos h]
theorem gof_k3 {x:zj} (h:x.Kind=3):gof x=x.Kids.foldl (fun o y=>gCat o (gof y)) gEmpty:=by rw [zcW,if_neg (by omega),if_pos h]
theorem gof_k4 {x:zj} (h:x.Kind=4):gof x=x.Kids.foldl (fun o y=>gAlt o (gof y)) gNone:=by rw [zcW,if_neg (by omega),if_neg (by omega),if_pos h]
theorem gof_k5 {x k:zj} (h:x.Kind=5) (hk:x.Kids=[k]):gof x=gRep (gof k) x.Lo x.Hi:=by
 rw [zcW,if_neg (by omega),if_neg (by omega),if_neg (by omega),if_pos h,hk];rfl
theorem pow_le {N:Nat} {B:Nat→Int} {g:GA}:∀ {m i j:Nat},pow (acc N B g) m i j→i≤N→j≤N
 | 0,i,j,h,hi=>by cases h;exact hi
 | m+1,i,j,⟨k,h1,h2⟩,hi=>(ziD h2 (pow_le h1 hi)).2
def clo (k:zj):Bool:=k.Kind == 5 && (decide (k.Hi < 0) && decide (k.Lo≤1))
theorem clo_trans {N:Nat} {B:Nat→Int} {k:zj} (hr:Rgt k) (hc:clo k=true) {i l j:Nat} (h1:acc N B (gof k) i l) (h2:acc N B (gof k) l j):acc N B (gof k) i j:=by
 simp only [clo,Bool.and_eq_true,beq_iff_eq,decide_eq_true_eq] at hc
 obtain ⟨h5,hh,hl⟩:=hc
 obtain ⟨⟨k2,hk2⟩,h0,_,hhi⟩:=zeV (zdn hr).1 h5
 rw [gof_k5 h5 hk2] at h1 h2 ⊢
 have hhi:k.Hi = -1∨1≤k.Hi∧k.Lo≤k.Hi:=hhi.imp id fun h=>⟨h.1,h.2.1⟩
 obtain ⟨q1,_,p1⟩:=(zh2 (zap k2) h0 hhi).1 h1
 obtain ⟨q2,_,p2⟩:=(zh2 (zap k2) h0 hhi).1 h2
 refine (zh2 (zap k2) h0 hhi).2 ⟨q1+(k.Lo.toNat+q2),.inl hh,?_⟩
 rw [← Nat.add_assoc]
 exact pow_add.2 ⟨l,p1,p2⟩
theorem zhm {R:Nat→Nat→Prop} (hR:∀ i l j,R i l→R l j→R i j):∀ {m i j:Nat},pow R (m+1) i j→R i j
 | 0,i,j,h=>zf1.1 h
 | m+1,i,j,⟨k,h1,h2⟩=>hR _ _ _ (zhm hR h1) h2
theorem st_congr {x:zj} {s:ByteArray} {l:List Bool} {N:Nat} {P Q:Nat→Prop} (h:zT x s l (bl N P)) (e:∀ j,j≤N→(P j↔Q j)):zT x s l (bl N Q):=by rw [← zbz e];exact h
theorem step_ok (s:ByteArray) (hs:s.size < 99999):∀ x,Wf x→Rgt x→∀ F,zT x s (bl s.size F) (bl s.size (Tx s (gof x) F)):=by
 refine rxInd fun x ih hw hr F=>?_
 obtain ⟨hl,hk⟩:=(zhb x).1 hw
 obtain ⟨ho,hrk⟩:=zdn hr
 have hlen:=zcq s.size F
 have hkind:=zeo ho
 refine zfM x s _ _ ⟨⟨by omega,by omega,by rw [hlen];omega,by rw [hlen];omega⟩,fun out=>bl s.size (Tx s (gof x) F)=out,fun out h=>h,fun h1=>?_,fun h1=>⟨fun h2=>?_,fun h2=>⟨fun h3=>?_,fun h3=>⟨fun h4=>?_,fun h4=>⟨fun h5=>?_,fun h5=>?_⟩⟩⟩⟩⟩
 ·have h1:x.Kind=1:=by simpa using h1
  rw [bl_copy1,gof_k1 h1]
  refine zbz fun j hj=>⟨?_,fun h=>⟨j,hj,h,zcP.2 rfl⟩⟩
  rintro ⟨i,_,hf,ha⟩
  cases zcP.1 ha;exact hf
 ·have h2:x.Kind=2:=by simpa using h2
  refine ⟨fun out t=>∃ i:Nat,t=i∧i≤s.size∧out=bl s.size fun j=>1≤j∧j≤i∧F (j - 1)∧setHas x.Set (bt s (j - 1))=true,fun _ t=>(s.size - t).toNat,⟨0,rfl,by omega,?_⟩,?_⟩
  ·rw [hlen,bl_none]
   exact zbz fun j hj=>⟨fun h=>h.elim,fun h=>by omega⟩
  rintro out t ⟨i,rfl,hi,rfl⟩
  have hset:∀ b:Bool,i < s.size→(b=true↔F i∧setHas x.Set (bt s i)=true)→List.set (bl s.size fun j=>1≤j∧j≤i∧F (j - 1)∧setHas x.Set (bt s (j - 1))=true) (i+1) b=bl s.size fun j=>1≤j∧j≤i+1∧F (j - 1)∧setHas x.Set (bt s (j - 1))=true:=by
   intro b hi hb
   rw [bl_set b (by omega)]
   refine zbz fun j hj=>?_
   by_cases hji:j=i+1
   ·subst hji
    rw [if_pos rfl,hb,Nat.add_sub_cancel]
    exact ⟨fun h=>⟨by omega,by omega,h⟩,fun h=>h.2.2⟩
   ·rw [if_neg hji]
    exact ⟨fun h=>⟨h.1,by omega,h.2.2⟩,fun h=>⟨h.1,by omega,h.2.2⟩⟩
  refine ⟨fun ht=>?_,fun ht=>?_⟩
  ·have ht:i < s.size:=by have:=of_decide_eq_true ht;omega
   have hw2:w64 ((i:Int)+1)=((i+1:Nat):Int):=zG (by omega) (by omega)
   simp only [hw2,Int.toNat_natCast,hlen,zcq]
   refine ⟨by omega,by omega,fun hg=>⟨fun _=>by omega,fun _=>by omega,_,has_ok _ _,fun _=>by omega,fun _=>by omega,fun _=>by omega,⟨i+1,rfl,by omega,hset _ ht ?_⟩,by omega⟩,fun hg=>⟨fun _=>by omega,fun _=>by omega,fun _=>by omega,⟨i+1,rfl,by omega,hset _ ht ?_⟩,by omega⟩⟩
   ·exact ⟨fun h=>⟨(bl_gd (by omega)).1 hg,h⟩,fun h=>h.2⟩
   ·exact ⟨fun h=>(by cases h),fun h=>absurd h.1 ((bl_gdf (by omega)).1 hg)⟩
  ·have ht:i=s.size:=by have:=of_decide_eq_false ht;omega
   subst ht
   rw [gof_k2 h2]
   refine zbz fun j hj=>⟨?_,?_⟩
   ·rintro ⟨i,_,hf,ha⟩
    obtain ⟨e1,e2,rfl⟩:=acc_byte.1 ha
    exact ⟨by omega,by omega,hf,e2⟩
   ·rintro ⟨e1,e2,hf,e3⟩
    exact ⟨j - 1,by omega,hf,acc_byte.2 ⟨by omega,e3,by omega⟩⟩
 ·have h3:x.Kind=3:=by simpa using h3
  refine ⟨fun now t=>∃ i:Nat,t=i∧i≤x.Kids.length∧now=bl s.size (Tx s ((x.Kids.take i).foldl (fun o y=>gCat o (gof y)) gEmpty) F),fun _ t=>(x.Kids.length - t).toNat,⟨0,rfl,by omega,?_⟩,?_⟩
  ·refine zbz fun j hj=>⟨fun h=>⟨j,hj,h,zcP.2 rfl⟩,?_⟩
   rintro ⟨i,_,hf,ha⟩
   cases zcP.1 ha;exact hf
  rintro now t ⟨i,rfl,hi,rfl⟩
  refine ⟨fun ht=>?_,fun ht=>?_⟩
  ·have ht:i < x.Kids.length:=by have:=of_decide_eq_true ht;omega
   have hw2:w64 ((i:Int)+1)=((i+1:Nat):Int):=zG (by omega) (by omega)
   rw [hw2]
   refine ⟨by omega,by omega,_,?_,⟨i+1,rfl,by omega,rfl⟩,by dsimp only;omega⟩
   rw [z8 ht]
   have:=ih _ (List.getElem_mem ht) (hk _ (List.getElem_mem ht)) (hrk _ (List.getElem_mem ht)) (Tx s ((x.Kids.take i).foldl (fun o y=>gCat o (gof y)) gEmpty) F)
   refine st_congr this fun j hj=>?_
   rw [zaK ht]
   constructor
   ·rintro ⟨l,hl,⟨i0,h0,hf,h1⟩,h2⟩
    exact ⟨i0,h0,hf,(acc_cat (zga _ _ zbJ)).2 ⟨l,h1,h2⟩⟩
   ·rintro ⟨i0,h0,hf,ha⟩
    obtain ⟨l,h1,h2⟩:=(acc_cat (zga _ _ zbJ)).1 ha
    exact ⟨l,(ziD h1 h0).2,⟨i0,h0,hf,h1⟩,h2⟩
  ·have ht:i=x.Kids.length:=by have:=of_decide_eq_false ht;omega
   subst ht
   rw [bl_copy,List.take_of_length_le (Nat.le_refl _),gof_k3 h3]
 ·have h4:x.Kind=4:=by simpa using h4
  refine ⟨fun now t=>∃ i:Nat,t=i∧i≤x.Kids.length∧now=bl s.size (Tx s ((x.Kids.take i).foldl (fun o y=>gAlt o (gof y)) gNone) F),fun _ t=>(x.Kids.length - t).toNat,⟨0,rfl,by omega,?_⟩,?_⟩
  ·rw [hlen,bl_none]
   exact zbz fun j hj=>⟨fun h=>h.elim,fun ⟨_,_,_,ha⟩=>acc_none ha⟩
  rintro now t ⟨i,rfl,hi,rfl⟩
  refine ⟨fun ht=>?_,fun ht=>?_⟩
  ·have ht:i < x.Kids.length:=by have:=of_decide_eq_true ht;omega
   have hw2:w64 ((i:Int)+1)=((i+1:Nat):Int):=zG (by omega) (by omega)
   rw [hw2]
   refine ⟨by omega,by omega,bl s.size (Tx s (gof x.Kids[i]) F),?_,_,or_ok (by omega) _ _,⟨i+1,rfl,by omega,?_⟩,by dsimp only;omega⟩
   ·rw [z8 ht]
    exact ih _ (List.getElem_mem ht) (hk _ (List.getElem_mem ht)) (hrk _ (List.getElem_mem ht)) F
   ·refine zbz fun j hj=>?_
    rw [zaK ht]
    constructor
    ·rintro (⟨i0,h0,hf,ha⟩ | ⟨i0,h0,hf,ha⟩)
     ·exact ⟨i0,h0,hf,(acc_alt (zet _ _ zdf)).2 (.inl ha)⟩
     ·exact ⟨i0,h0,hf,(acc_alt (zet _ _ zdf)).2 (.inr ha)⟩
    ·rintro ⟨i0,h0,hf,ha⟩
     exact ((acc_alt (zet _ _ zdf)).1 ha).imp (fun h=>⟨i0,h0,hf,h⟩) fun h=>⟨i0,h0,hf,h⟩
  ·have ht:i=x.Kids.length:=by have:=of_decide_eq_false ht;omega
   subst ht
   rw [List.take_of_length_le (Nat.le_refl _),gof_k4 h4]
 ·have h5:x.Kind=5:=by simpa using h5
  obtain ⟨⟨k,hkk⟩,hlo0,hlo1,hhi⟩:=zeV ho h5
  have hkm:k∈x.Kids:=by rw [hkk];exact List.mem_cons_self ..
  have hkid:=ih k hkm (hk k hkm) (hrk k hkm)
  have hkd:List.getD x.Kids 0 default=k:=by rw [hkk];rfl
  have hkl:0 < x.Kids.length:=by rw [hkk];simp
  rw [hkd]
  refine ⟨_,zen x hw,fun hz=>?_,fun hz=>?_⟩
  ·have hz:sizeN x=0:=by simp only [sizeZ,beq_iff_eq] at hz;omega
   rw [bl_copy1,gof_zero hr hz]
   refine zbz fun j hj=>⟨?_,fun h=>⟨j,hj,h,zcP.2 rfl⟩⟩
   rintro ⟨i,_,hf,ha⟩
   cases zcP.1 ha;exact hf
  obtain ⟨S,hS⟩:∃ S:Nat→Nat→Prop,S=fun m j=>∃ i,i≤s.size∧F i∧pow (acc s.size (bt s) (gof k)) m i j:=⟨_,rfl⟩
  have hSle:∀ m j,S m j→j≤s.size:=by
   intro m j h;rw [hS] at h;obtain ⟨i,h0,_,h1⟩:=h;exact pow_le h1 h0
  have hstep:∀ m,zT k s (bl s.size (S m)) (bl s.size (S (m+1))):=by
   intro m
   refine st_congr (hkid (S m)) fun j hj=>?_
   rw [hS]
   constructor
   ·rintro ⟨l,hl,⟨i0,h0,hf,h1⟩,h2⟩
    exact ⟨i0,h0,hf,l,h1,h2⟩
   ·rintro ⟨i0,h0,hf,l,h1,h2⟩
    exact ⟨l,pow_le h1 h0,⟨i0,h0,hf,h1⟩,h2⟩
  have hSs:∀ m j,S (m+1) j↔∃ l,S m l∧acc s.size (bt s) (gof k) l j:=by
   intro m j;rw [hS]
   constructor
   ·rintro ⟨i0,h0,hf,l,h1,h2⟩;exact ⟨l,⟨i0,h0,hf,h1⟩,h2⟩
   ·rintro ⟨l,⟨i0,h0,hf,h1⟩,h2⟩;exact ⟨i0,h0,hf,l,h1,h2⟩
  obtain ⟨lo,hlo⟩:∃ lo:Nat,x.Lo=lo:=⟨x.Lo.toNat,by omega⟩
  obtain ⟨U,hU⟩:∃ U:Nat→Nat→Prop,U=fun m j=>∃ q,q≤m∧S (lo+q) j:=⟨_,rfl⟩
  have hhi':x.Hi = -1∨1≤x.Hi∧x.Lo≤x.Hi:=hhi.imp id fun h=>⟨h.1,h.2.1⟩
  have hT:∀ j,Tx s (gof x) F j↔∃ q:Nat,(x.Hi < 0∨x.Lo+(q:Nat)≤x.Hi)∧S (lo+q) j:=by
   intro j
   have e:x.Lo.toNat=lo:=by omega
   rw [gof_k5 h5 hkk,hS]
   constructor
   ·rintro ⟨i,hi,hf,ha⟩
    obtain ⟨q,h1,h2⟩:=(zh2 (zap k) hlo0 hhi').1 ha
    rw [e] at h2
    exact ⟨q,h1,i,hi,hf,h2⟩
   ·rintro ⟨q,h1,i,hi,hf,h2⟩
    exact ⟨i,hi,hf,(zh2 (zap k) hlo0 hhi').2 ⟨q,h1,by rw [e];exact h2⟩⟩
  have hfin:∀ m:Nat,(x.Hi < 0∨x.Lo+(m:Nat)≤x.Hi)→(∀ q:Nat,(x.Hi < 0∨x.Lo+(q:Nat)≤x.Hi)→∀ j,S (lo+q) j→U m j)→bl s.size (Tx s (gof x) F)=bl s.size (U m):=by
   intro m hm hq
   refine zbz fun j hj=>?_
   rw [hT]
   constructor
   ·rintro ⟨q,h1,h2⟩;exact hq q h1 j h2
   ·intro h
    rw [hU] at h
    obtain ⟨q,h1,h2⟩:=h
    exact ⟨q,by omega,h2⟩
  refine ⟨fun now t=>∃ m:Nat,t=m∧m≤lo∧now=bl s.size (S m),fun _ t=>(lo - t).toNat,⟨0,rfl,by omega,?_⟩,?_⟩
  ·refine zbz fun j hj=>?_
   rw [hS]
   constructor
   ·exact fun h=>⟨j,hj,h,rfl⟩
   ·rintro ⟨i,_,hf,e⟩;cases e;exact hf
  rintro now t ⟨m,rfl,hm,rfl⟩
  refine ⟨fun ht=>?_,fun ht=>?_⟩
  ·have ht:m < lo:=by have:=of_decide_eq_true ht;omega
   have hw2:w64 ((m:Int)+1)=((m+1:Nat):Int):=zG (by omega) (by omega)
   rw [hw2]
   exact ⟨hkl,_,hstep m,⟨m+1,rfl,by omega,rfl⟩,by dsimp only;omega⟩
  have ht:m=lo:=by have:=of_decide_eq_false ht;omega
  subst ht
  rw [bl_copy]
  refine ⟨fun most=>(x.Hi < 0→most=s.size+1)∧(¬ x.Hi < 0→most=x.Hi - x.Lo),fun most hmost=>⟨fun most=>(0≤most∧most≤100000)∧(x.Hi < 0→most=s.size+1∨clo k=true∧((1≤m∧most=0)∨(m=0∧most=1)))∧(¬ x.Hi < 0→most=x.Hi - x.Lo),fun most hm3=>?_,fun hh=>⟨fun _=>hkl,_,closed_ok k,fun hc=>?_,fun hc=>?_⟩,fun hh=>?_⟩,fun hh=>?_,fun hh=>?_⟩
  ·obtain ⟨⟨hm0,hm1⟩,hmA,hmB⟩:=hm3
   refine ⟨fun out now t=>∃ q:Nat,t=q∧(q:Int)≤most∧now=bl s.size (S (m+q))∧out=bl s.size (U q)∧q≤cntB (U q) (s.size+1),fun _ _ t=>(most - t).toNat,⟨0,rfl,by omega,rfl,?_,by omega⟩,?_⟩
   ·refine zbz fun j hj=>?_
    rw [hU]
    constructor
    ·exact fun h=>⟨0,Nat.le_refl _,h⟩
    ·rintro ⟨q,h1,h2⟩
     obtain rfl:q=0:=by omega
     exact h2
   rintro out now t ⟨q,rfl,hq,rfl,rfl,hcnt⟩
   have hmle:∀ q:Nat,(q:Int)≤most→x.Hi < 0∨x.Lo+(q:Nat)≤x.Hi:=by
    intro q hq
    by_cases hh:x.Hi < 0
    ·exact .inl hh
    ·have:=hmB hh;exact .inr (by omega)
   refine ⟨fun ht=>?_,fun ht=>?_⟩
   ·have ht:(q:Int) < most:=of_decide_eq_true ht
    have hw2:w64 ((q:Int)+1)=((q+1:Nat):Int):=zG (by omega) (by omega)
    rw [hw2]
    refine ⟨hkl,_,hstep (m+q),@decide (∀ j,j≤s.size→S (m+q+1) j→U q j) (Classical.propDecidable _),within_ok (by omega) _ _ _ (by simp),fun hb=>?_,fun hb=>⟨_,or_ok (by omega) _ _,⟨q+1,rfl,by omega,rfl,?_,?_⟩,by dsimp only;omega⟩⟩
    ·have hb:∀ j,j≤s.size→S (m+q+1) j→U q j:=by simpa using hb
     suffices main:∀ q2 j,S (m+q2) j→U q j from hfin q (hmle q (by omega)) fun q2 _=>main q2
     intro q2
     induction q2 with
     | zero=>intro j h;rw [hU];exact ⟨0,by omega,h⟩
     | succ q2 ih2=>
       intro j h
       obtain ⟨l,h1,h2⟩:=(hSs (m+q2) j).1 h
       have h3:=ih2 l h1
       rw [hU] at h3
       obtain ⟨q3,h4,h5⟩:=h3
       have h6:S (m+q3+1) j:=(hSs _ _).2 ⟨l,h5,h2⟩
       by_cases hq3:q3=q
       ·subst hq3;exact hb j (hSle _ _ h6) h6
       ·rw [hU];exact ⟨q3+1,by omega,h6⟩
    ·refine zbz fun j hj=>?_
     rw [hU]
     constructor
     ·rintro (⟨q3,h1,h2⟩ | h)
      ·exact ⟨q3,by omega,h2⟩
      ·exact ⟨q+1,by omega,h⟩
     ·rintro ⟨q3,h1,h2⟩
      by_cases hq3:q3=q+1
      ·subst hq3;exact .inr h2
      ·exact .inl ⟨q3,by omega,h2⟩
    ·have hb:¬ ∀ j,j≤s.size→S (m+q+1) j→U q j:=by simpa using hb
     have:∃ j,j < s.size+1∧¬ U q j∧U (q+1) j:=by
      refine Classical.byContradiction fun hno=>hb fun j hj h=>?_
      refine Classical.byContradiction fun hu=>hno ⟨j,by omega,hu,?_⟩
      rw [hU];exact ⟨q+1,by omega,h⟩
     have:=cntB_lt (s.size+1) (fun j _ h=>by
      rw [hU] at h ⊢
      obtain ⟨q3,h1,h2⟩:=h
      exact ⟨q3,by omega,h2⟩) this
     omega
   ·have ht:(q:Int)=most:=by have:=of_decide_eq_false ht;omega
    refine hfin q (hmle q (by omega)) fun q2 hq2 j hj=>?_
    by_cases hh:x.Hi < 0
    ·rcases hmA hh with hA | ⟨hc,hA⟩
     ·exact cntB_full (s.size+1) (by omega) j (by have:=hSle _ _ hj;omega)
     ·have htr:∀ i l j,acc s.size (bt s) (gof k) i l→acc s.size (bt s) (gof k) l j→acc s.size (bt s) (gof k) i j:=fun i l j=>clo_trans (hrk k hkm) hc
      rw [hU]
      rw [hS] at hj ⊢
      obtain ⟨i,hi,hf,hp⟩:=hj
      rcases hA with ⟨hm1,hA⟩ | ⟨hm0,hA⟩
      ·obtain ⟨n,rfl⟩:∃ n,m=n+1:=⟨m - 1,by omega⟩
       rw [show n+1+q2=n+(q2+1) by omega] at hp
       obtain ⟨l,p1,p2⟩:=pow_add.1 hp
       exact ⟨0,by omega,i,hi,hf,l,p1,zhm htr p2⟩
      ·subst hm0
       cases q2 with
       | zero=>exact ⟨0,by omega,i,hi,hf,hp⟩
       | succ q2=>
         rw [Nat.zero_add] at hp
         exact ⟨1,by omega,i,hi,hf,zf1.2 (zhm htr hp)⟩
    ·rw [hU]
     have:=hmB hh
     exact ⟨q2,by omega,hj⟩
  ·have hh:x.Hi < 0:=of_decide_eq_true hh
   have hw3:w64 (1 - x.Lo)=1 - x.Lo:=zG (by omega) (by omega)
   rw [hw3]
   refine ⟨by split<;>omega,fun _=>.inr ⟨hc,?_⟩,fun h=>absurd hh h⟩
   by_cases h1:1≤m
   ·exact .inl ⟨h1,by rw [if_neg (by omega)]⟩
   ·exact .inr ⟨by omega,by rw [if_pos (by omega)];omega⟩
  ·have hh:x.Hi < 0:=of_decide_eq_true hh
   have:=hmost.1 hh
   exact ⟨by omega,fun _=>.inl this,fun h=>absurd hh h⟩
  ·have hh:¬ x.Hi < 0:=of_decide_eq_false hh
   have:=hmost.2 hh
   exact ⟨by omega,fun h=>absurd h hh,fun _=>this⟩
  ·have hh:x.Hi < 0:=of_decide_eq_true hh
   exact ⟨fun _=>by rw [hlen];omega,fun h=>absurd hh h⟩
  ·have hh:¬ x.Hi < 0:=of_decide_eq_false hh
   exact ⟨fun h=>absurd h hh,fun _=>zG (by omega) (by omega)⟩
 ·have e1:x.Kind≠1:=by simpa using h1
  have e2:x.Kind≠2:=by simpa using h2
  have e3:x.Kind≠3:=by simpa using h3
  have e4:x.Kind≠4:=by simpa using h4
  have e5:x.Kind≠5:=by simpa using h5
  omega
end Go.Ev.Pl
namespace Go.Ev.Pl
open Go Go.Ev
theorem may_ok (x:zj) (s:ByteArray) (hw:Wf x) (hr:rightB x=true) (hs:s.size≤10000):zbQ x s true:=
 zgf x s _ ⟨_,zc5 x hw,by rw [hr,Bool.true_and];exact (decide_eq_true (by omega)).symm⟩
theorem lst_succ (n:Nat) (p:Nat→Bool):lst (n+1) p 0=lst n p 0++if p n=true then [(n:Int)] else []:=by
 unfold lst
 rw [List.range_succ,List.filter_append,List.map_append]
 by_cases h:p n=true
 ·simp [h]
 ·simp [h]
abbrev alph:ByteArray:={ data:=#[(97:UInt8),(97:UInt8),(98:UInt8),(98:UInt8),(99:UInt8),(99:UInt8),(45:UInt8),(90:UInt8),(10:UInt8),(48:UInt8),(0:UInt8),(255:UInt8)] }
def txt (l:List Int):Nat→ByteArray
 | 0=>{ data:=#[] }
 | n+1=>txt l n++ByteArray.extract alph (Int.toNat (Int.tmod (w64 (gd l n)) 12)) (Int.toNat (w64 (Int.tmod (w64 (gd l n)) 12+1)))
theorem text_ok (l:List Int) (hb:Bytes l):∃ s,zbE l s∧s.size≤12:=by
 have hal:alph.size=12:=by rfl
 have one:∀ i,i < l.length→0≤Int.tmod (w64 (gd l (i:Int))) 12∧w64 (Int.tmod (w64 (gd l (i:Int))) 12+1)=Int.tmod (w64 (gd l (i:Int))) 12+1∧Int.tmod (w64 (gd l (i:Int))) 12 < 12:=by
  intro i hi
  obtain ⟨h0,h1⟩:=hb _ (List.getElem_mem hi)
  rw [z8 hi,zG (by omega) (by omega)]
  have h2:=Int.tmod_nonneg (a:=l[i]) 12 h0
  have h3:=Int.tmod_lt_of_pos l[i] (show (0:Int) < 12 by omega)
  exact ⟨h2,zG (by omega) (by omega),h3⟩
 have hsz:∀ n,n≤l.length→(txt l n).size=n:=by
  intro n
  induction n with
  | zero=>intro _;rfl
  | succ n ih=>
    intro hn
    obtain ⟨h1,h2,h3⟩:=one n (by omega)
    rw [txt,ByteArray.size_append,ih (by omega),ByteArray.size_extract,h2,hal]
    omega
 refine ⟨txt l (min 12 l.length),?_,by rw [hsz _ (Nat.min_le_right _ _)];exact Nat.min_le_left _ _⟩
 refine zfR l _ ⟨fun s t=>∃ i:Nat,t=i∧i≤min 12 l.length∧s=txt l i,fun _ t=>(12 - t).toNat,⟨0,rfl,by omega,rfl⟩,?_⟩
 rintro s t ⟨i,rfl,hi,rfl⟩
 rw [List.length_map]
 refine ⟨fun ht=>?_,fun ht=>?_⟩
 ·simp only [Bool.and_eq_true,decide_eq_true_eq] at ht
  have hil:i < l.length:=by omega
  obtain ⟨h1,h2,h3⟩:=one i hil
  have hw2:w64 ((i:Int)+1)=((i+1:Nat):Int):=zG (by omega) (by omega)
  refine ⟨by omega,by omega,by omega,by omega,⟨h1,by rw [h2];omega,by rw [h2];omega,?_⟩,?_,?_,?_⟩
  ·rw [h2];show _≤12;omega
  ·rw [hsz i (by omega),show ByteArray.size (ByteArray.extract _ _ _)=_ from ByteArray.size_extract,h2,show IntKind.max IntKind.i64=9223372036854775807 by decide]
   show (((i+(min _ 12 - _):Nat)):Int)≤_
   omega
  ·rw [hw2];exact ⟨i+1,rfl,by omega,rfl⟩
  ·rw [hw2];first | omega | (dsimp only;omega)
 ·simp only [Bool.and_eq_false_iff,decide_eq_false_iff_not] at ht
  have:i=min 12 l.length:=by omega
  rw [this]
end Go.Ev.Pl
namespace Go.Ev.Pl
open Go Go.Ev
theorem bytes_of {w:World} {a:Option Addr} {len cap:Nat} {zs:List Int}
 (h:(a=none∧len=0∧cap=0∧zs=[])∨∃ x,a=some x∧len≤cap∧cap≤maxLen∧zs.length=cap∧(∀ i,i < zs.length→w.cell? (x.add i)=some (.int .u8 (zs.getD i 0)))∧∀ n∈zs,(Lit.int .u8 n).wf=true):Bytes (zs.take len):=by
 intro b hb
 have hb:=List.mem_of_mem_take hb
 rcases h with ⟨_,_,_,rfl⟩ | ⟨_,_,_,_,_,_,h⟩
 ·simp at hb
 ·have:=h b hb
  simp only [Lit.wf,Bool.and_eq_true,decide_eq_true_eq] at this
  have e1:IntKind.u8.min=0:=by decide
  have e2:IntKind.u8.max=255:=by decide
  rw [e1,e2] at this
  exact this
section
variable {N : Nat} {B : Nat → Int}
end
end Go.Ev.Pl
namespace Go.Ev.Pl
open Go Go.Ev
theorem index_ok (l:List Int) (v:Int) (hl:l.length < 1000000):∃ r,zaX l v r∧(r≥0↔v∈l):=by
 by_cases hv:v∈l
 ·obtain ⟨n,hn,hnv,hmin⟩:∃ n,n < l.length∧l[n]?=some v∧∀ m,m < n→l[m]?≠some v:=by
   have hex:∃ n,l[n]?=some v:=List.mem_iff_getElem?.1 hv
   induction l with
   | nil=>simp at hv
   | cons x l ih=>
     by_cases hx:x=v
     ·exact ⟨0,by simp,by simp [hx],fun m hm=>by omega⟩
     ·have hv':v∈l:=by
       rcases List.mem_cons.1 hv with e | e
       ·exact absurd e.symm hx
       ·exact e
      obtain ⟨n,h1,h2,h3⟩:=ih (by simp at hl;omega) hv' (List.mem_iff_getElem?.1 hv')
      refine ⟨n+1,by simp;omega,by simpa using h2,fun m hm=>?_⟩
      cases m with
      | zero=>simp [hx]
      | succ m=>simpa using h3 m (by omega)
  refine ⟨n,?_,⟨fun _=>hv,fun _=>by omega⟩⟩
  refine zcc l v _ ⟨fun t=>∃ i:Nat,t=i∧i≤n,fun t=>(l.length - t).toNat,⟨0,rfl,by omega⟩,?_⟩
  rintro t ⟨i,rfl,hi⟩
  have hw2:w64 ((i:Int)+1)=((i+1:Nat):Int):=zG (by omega) (by omega)
  have hil:i < l.length:=by omega
  refine ⟨fun ht=>⟨by omega,by omega,fun he=>?_,fun he=>?_⟩,fun ht=>?_⟩
  ·rw [z8 hil,beq_iff_eq] at he
   by_cases hin:i=n
   ·subst hin;rfl
   ·exact absurd (by rw [List.getElem?_eq_getElem hil,he]) (hmin i (by omega))
  ·rw [z8 hil,beq_eq_false_iff_ne] at he
   have hin:i≠n:=fun e=>by
    subst e
    rw [List.getElem?_eq_getElem hil] at hnv
    exact he (Option.some.inj hnv).symm
   rw [hw2]
   exact ⟨⟨i+1,rfl,by omega⟩,by first | omega | (dsimp only;omega)⟩
  ·have:=of_decide_eq_false ht;omega
 ·refine ⟨-1,?_,⟨fun h=>by omega,fun h=>absurd h hv⟩⟩
  refine zcc l v _ ⟨fun t=>∃ i:Nat,t=i∧i≤l.length,fun t=>(l.length - t).toNat,⟨0,rfl,by omega⟩,?_⟩
  rintro t ⟨i,rfl,hi⟩
  refine ⟨fun ht=>?_,fun ht=>rfl⟩
  have hil:i < l.length:=by have:=of_decide_eq_true ht;omega
  have hw2:w64 ((i:Int)+1)=((i+1:Nat):Int):=zG (by omega) (by omega)
  refine ⟨by omega,by omega,fun he=>?_,fun he=>?_⟩
  ·rw [z8 hil,beq_iff_eq] at he
   exact absurd (he▸List.getElem_mem hil) hv
  ·rw [hw2]
   exact ⟨⟨i+1,rfl,by omega⟩,by first | omega | (dsimp only;omega)⟩
theorem contains_ok (l:List Int) (v:Int) (hl:l.length < 1000000) (b:Bool) (hb:b=true↔v∈l):zay l v b:=by
 obtain ⟨r,h1,h2⟩:=index_ok l v hl
 refine zcT l v _ ⟨r,h1,?_⟩
 rw [Bool.eq_iff_iff,hb,decide_eq_true_eq,h2]
end Go.Ev.Pl
namespace Go.Ev
open Go Go.Proofs
def bitOf2 (w:Int) (i:Int):Bool:=!(IntKind.u64.wrap (BitVec.ofInt IntKind.u64.bits w &&& BitVec.ofInt IntKind.u64.bits (IntKind.u64.wrap (1 * 2 ^ min i.toNat IntKind.u64.bits))).toNat == 0)
def setHas2 (s:za) (i:Int):Bool:=
 if i < 0 then false else if i < 64 then bitOf2 s.e0 i else if i < 128 then bitOf2 s.e1 (i - 64) else if i < 192 then bitOf2 s.e2 (i - 128) else if i < 256 then bitOf2 s.e3 (i - 192) else false
theorem has2_ok (s:za) (i:Int):zeg s i (setHas2 s i):=by
 refine W_set_Has s i _ ⟨fun g=>⟨fun g1=>?_,fun g1=>?_⟩,fun g=>?_⟩
 ·have g:=of_decide_eq_true g
  have g1:=of_decide_eq_true g1
  obtain ⟨q,m,hm⟩:=quot64 i g g1
  rw [q,m]
  refine ⟨by omega,fun h=>⟨fun _ _ _=>by omega,?_⟩,fun h=>⟨fun _ _ _=>by omega,?_⟩,fun h=>⟨fun _ _ _=>by omega,?_⟩,fun h=>⟨fun _ _ _=>by omega,?_⟩⟩
  all_goals
   have h:=of_decide_eq_true h
   rw [h]
  ·simp [setHas2,show ¬ i < 0 by omega,show i < 64 by omega,bitOf2,bne]
  ·simp [setHas2,show ¬ i < 0 by omega,show ¬ i < 64 by omega,show i < 128 by omega,bitOf2,bne]
  ·simp [setHas2,show ¬ i < 0 by omega,show ¬ i < 64 by omega,show ¬ i < 128 by omega,show i < 192 by omega,bitOf2,bne]
  ·simp [setHas2,show ¬ i < 0 by omega,show ¬ i < 64 by omega,show ¬ i < 128 by omega,show ¬ i < 192 by omega,show i < 256 by omega,bitOf2,bne]
 ·have g:=of_decide_eq_true g
  have g1:=of_decide_eq_false g1
  simp [setHas2,show ¬ i < 0 by omega,show ¬ i < 64 by omega,show ¬ i < 128 by omega,show ¬ i < 192 by omega,show ¬ i < 256 by omega]
 ·have g:=of_decide_eq_false g
  simp [setHas2,show i < 0 by omega]
end Go.Ev
namespace Go.Ev.Pl
open Go Go.Ev
theorem wrapu (n:Int):IntKind.u64.wrap n=n % 2 ^ 64:=by
 simp [IntKind.wrap,IntKind.bits,IntKind.signed]
theorem and_pow (V k:Nat):V &&& 2 ^ k=(V / 2 ^ k % 2) * 2 ^ k:=by
 have hb:V.testBit k=decide (V / 2 ^ k % 2=1):=Nat.testBit_eq_decide_div_mod_eq
 have hlt:V / 2 ^ k % 2 < 2:=Nat.mod_lt _ (by omega)
 by_cases h:V / 2 ^ k % 2=1
 ·rw [h,Nat.one_mul]
  refine Nat.eq_of_testBit_eq fun j=>?_
  rw [Nat.testBit_and,Nat.testBit_two_pow]
  by_cases hj:k=j
  ·subst hj;rw [hb];simp [h]
  ·simp [hj]
 ·rw [show V / 2 ^ k % 2=0 by omega,Nat.zero_mul]
  refine Nat.eq_of_testBit_eq fun j=>?_
  rw [Nat.testBit_and,Nat.testBit_two_pow,Nat.zero_testBit]
  by_cases hj:k=j
  ·subst hj;rw [hb];simp [h]
  ·simp [hj]
theorem bit_eq (w i:Int) (h0:0≤i) (h1:i < 64):bitOf2 w i=bitOf w i:=by
 obtain ⟨k,rfl⟩:∃ k:Nat,i=k:=⟨i.toNat,by omega⟩
 have hk:k < 64:=by omega
 have hmin:min ((k:Int)).toNat IntKind.u64.bits=k:=by simp [IntKind.bits];omega
 have hb:IntKind.u64.bits=64:=rfl
 unfold bitOf2 bitOf
 rw [hmin,hb]
 simp only [wrapu,BitVec.toNat_and,BitVec.toNat_ofInt]
 obtain ⟨V,hV⟩:∃ V:Nat,w % 2 ^ 64=V:=⟨(w % 2 ^ 64).toNat,by omega⟩
 have e0:((2 ^ 64:Nat):Int)=2 ^ 64:=by norm_cast
 have h2k:(2:Int) ^ k=((2 ^ k:Nat):Int):=by norm_cast
 have hkk:2 ^ k < 2 ^ 64:=Nat.pow_lt_pow_right (by omega) hk
 have hkp:0 < 2 ^ k:=Nat.pow_pos (by omega)
 have hVlt:V < 2 ^ 64:=by omega
 have e1:(1 * 2 ^ k % 2 ^ 64 % ((2 ^ 64:Nat):Int)).toNat=2 ^ k:=by
  rw [e0,Int.one_mul,h2k];omega
 have e2:((1:Int) % ((2 ^ 64:Nat):Int)).toNat=1:=by rw [e0];rfl
 rw [e1,e2,e0,hV,Int.toNat_natCast,and_pow,Nat.and_one_is_mod]
 have hw:w=V+2 ^ 64 * (w / 2 ^ 64):=by have:=Int.emod_add_mul_ediv w (2 ^ 64);omega
 have hsplit:(2:Int) ^ 64=2 ^ k * (2 * 2 ^ (63 - k)):=by
  rw [← Int.mul_assoc,← Int.pow_succ,← Int.pow_add];congr 1;omega
 have hdiv:w.fdiv (2 ^ k)=((V / 2 ^ k:Nat):Int)+2 * (2 ^ (63 - k) * (w / 2 ^ 64)):=by
  rw [Int.fdiv_eq_ediv_of_nonneg _ (by rw [h2k];omega)]
  have:w=V+2 ^ k * (2 * (2 ^ (63 - k) * (w / 2 ^ 64))):=by
   rw [← Int.mul_assoc,← Int.mul_assoc,Int.mul_assoc (2 ^ k) 2,← hsplit];exact hw
  conv=>lhs;rw [this]
  rw [Int.add_mul_ediv_left _ _ (by rw [h2k];omega),h2k]
  norm_cast
 have hmod:(w.fdiv (2 ^ k) % 2 ^ 64).toNat % 2=V / 2 ^ k % 2:=by
  rw [hdiv]
  generalize 2 ^ (63 - k) * (w / 2 ^ 64)=Z
  omega
 rw [hmod]
 have:V / 2 ^ k % 2 < 2:=Nat.mod_lt _ (by omega)
 by_cases hbit:V / 2 ^ k % 2=1
 ·rw [hbit];simp;omega
 ·have:V / 2 ^ k % 2=0:=by omega
  rw [this];simp
theorem has2_eq (s:za) (i:Int):setHas2 s i=setHas s i:=by
 unfold setHas2 setHas
 split
 ·rfl
 ·split
  ·exact bit_eq _ _ (by omega) (by omega)
  ·split
   ·exact bit_eq _ _ (by omega) (by omega)
   ·split
    ·exact bit_eq _ _ (by omega) (by omega)
    ·split
     ·exact bit_eq _ _ (by omega) (by omega)
     ·rfl
theorem setHas_ok (s:za) (i:Int):zeg s i (setHas s i):=by rw [← has2_eq];exact has2_ok s i
end Go.Ev.Pl
