import Derived.Test.YtdjaimobmmgobaaGreatA03
import Derived.Lib.RowBridge
set_option linter.unusedSimpArgs false
set_option linter.unusedVariables false
namespace Go.Ev
open Go Go.Proofs
set_option maxRecDepth 8000
set_option maxHeartbeats 1000000
theorem zh5 (x:zO) (res:Bool)
 (h:(∃ o:Int→Prop,(∀ (b:Int),o b→(res=((!(zb.e0 x.Set == 0 && (zb.e1 x.Set == 0 && (zb.e2 x.Set == 0 && (zb.e3 x.Set == 0 && true))))) == (x.Kind == 2) && (x.Lo == 0 && (x.Hi == 0 && (decide (b≥2) && (!decide (x.Kind < 3) || b == 2)))))))∧(ck (x.Kind == 5) (ck (!!(zb.e0 x.Set == 0 && (zb.e1 x.Set == 0 && (zb.e2 x.Set == 0 && (zb.e3 x.Set == 0 && true))))) (ck ((↑(List.length x.Kids):Int) == 1) (∃ m:Bool,zcw x m∧(res=m)) (res=false)) (res=false)) (∃ r:Bool→Prop,(∀ (e:Bool),r e→(ck (e) (o (w64 ((↑(List.length x.Kids):Int)+2))) (∃ p:Bool→Prop,(∀ (f:Bool),p f→(ck (f) (o ((↑(List.length x.Kids):Int))) (res=false)))∧(ck (x.Kind == 3) (p (x.Kind == 3)) (p (x.Kind == 4))))))∧(ck (x.Kind == 1) (r (x.Kind == 1)) (r (x.Kind == 2))))))):zc7 x res:=by
 have kk:=cfOk [] 65;refine fE kk Tryz.func137 [(1,zS x)] ?_;refine sO oN [1] [(4,.ptr 8 0),(8,zS x)] ?_;refine sV oN [] (List.length (List.map zc x.Kids)) (List.length x.Kids) (fun q=>[(10,vB (!(zb.e0 x.Set == 0 && (zb.e1 x.Set == 0 && (zb.e2 x.Set == 0 && (zb.e3 x.Set == 0 && true)))))),(13,vi ((↑(q):Int)))]) ?_;refine qD ?_;refine sO oN [] [(43,vi x.Kind)] ?_;refine bD (id:=0) ?_;obtain ⟨o,u,h⟩:=h;refine sjE o [43] (fun b=>[(13,vi b)]) ?_ ?_
 ·rintro b hj;have h:=u b hj;refine qD ?_;refine sO oN [] [(16,vB (decide (x.Kind < 3)))] ?_;refine sM [4,8,10,13,16] [(7,vB ((!(zb.e0 x.Set == 0 && (zb.e1 x.Set == 0 && (zb.e2 x.Set == 0 && (zb.e3 x.Set == 0 && true))))) == (x.Kind == 2) && (x.Lo == 0 && (x.Hi == 0 && (decide (b≥2) && (!decide (x.Kind < 3) || b == 2))))))] ?_ (fun n=>?_)
  ·refine tD ?_;subst h;exact (endQ []).1
  ·rcases eft ((!(zb.e0 x.Set == 0 && (zb.e1 x.Set == 0 && (zb.e2 x.Set == 0 && (zb.e3 x.Set == 0 && true))))) == (x.Kind == 2)) with a | a
   ·rcases eft (x.Lo == 0) with c | c
    ·rcases eft (x.Hi == 0) with d | d
     ·rcases eft (decide (b≥2)) with g | g
      ·rcases eft (!decide (x.Kind < 3)) with l | l
       ·refine sO (g1 a 1113 (g2 d c 4446113 (g2 g l 11155163 oN))) [4,8,10,13,16] [(7,vB true)] ?_;exact Sem.cast (by try rw [a];try rw [c];try rw [d];try rw [g];try rw [l];kernel_rfl) n
       ·refine sO (g1 a 1113 (g2 d c 4446113 (g2 g l 11155163 oN))) [4,8,10,13,16] [(7,vB (b == 2))] ?_;exact Sem.cast (by try rw [a];try rw [c];try rw [d];try rw [g];try rw [l];kernel_rfl) n
      ·refine sO (g2 c a 44461113 (g2 g d 44611113 oN)) [4,8,10,13,16] [(7,vB false)] ?_;exact Sem.cast (by try rw [a];try rw [c];try rw [d];try rw [g];kernel_rfl) n
     ·refine sO (g1 a 1113 (g2 d c 444611388888 oN)) [4,8,10,13,16] [(7,vB false)] ?_;exact Sem.cast (by try rw [a];try rw [c];try rw [d];kernel_rfl) n
    ·refine sO (g2 c a 4446111388888888 oN) [4,8,10,13,16] [(7,vB false)] ?_;exact Sem.cast (by try rw [a];try rw [c];kernel_rfl) n
   ·refine sO (g1 a 1113888888888888 oN) [4,8,10,13,16] [(7,vB false)] ?_;exact Sem.cast (by try rw [a];kernel_rfl) n
 ·refine bD (id:=3) ?_;refine qD ?_;refine bD (id:=2) ?_;refine qD ?_;refine bD (id:=1) ?_;refine qD ?_;refine qD ?_;refine sO oN [] [(46,vB (x.Kind == 5))] ?_;refine cH 15 h (fun v h=>?_) (fun v h=>?_)
  ·refine xD (i:=1) ?_;show Sem _ _ _ _ _;refine wkD [43,46] ?_;refine qD ?_;rcases eft (!!(zb.e0 x.Set == 0 && (zb.e1 x.Set == 0 && (zb.e2 x.Set == 0 && (zb.e3 x.Set == 0 && true))))) with k | k
   ·have h:=h.1 k;rcases eft ((↑(List.length x.Kids):Int) == 1) with j | j
    ·have h:=h.1 j;obtain ⟨m,t,h⟩:=h;refine sO (g2 j k 44611 (ca t (g1 j 3 oN))) [4,8,10,13] [(7,vB m)] ?_;refine tD ?_;subst h;exact (endQ []).1
    ·have h:=h.2 j;refine sO (g2 j k 446113 oN) [4,8,10,13] [(7,vB false)] ?_;refine tD ?_;subst h;exact (endQ []).1
   ·have h:=h.2 k;refine sO (g1 k 113888 oN) [4,8,10,13] [(7,vB false)] ?_;refine tD ?_;subst h;exact (endQ []).1
  ·refine kW [46] ?_;refine qD ?_;obtain ⟨r,B,h⟩:=h;refine sjE r [] (fun e=>[(52,vB e)]) ?_ ?_
   ·rintro e hj;have h:=B e hj;refine cH 17 h (fun A h=>?_) (fun A h=>?_)
    ·refine xD (i:=2) ?_;show Sem _ _ _ _ _;refine wkD [43,52] ?_;refine rO oN [] [(13,vi (w64 ((↑(List.length x.Kids):Int)+2)))] ?_;exact jD (w64 ((↑(List.length x.Kids):Int)+2)) [] h
    ·refine kW [52] ?_;obtain ⟨p,D,h⟩:=h;refine sjE p [43] (fun f=>[(61,vB f)]) ?_ ?_
     ·rintro f hj;have h:=D f hj;refine cH 20 h (fun s h=>?_) (fun s h=>?_)
      ·refine xD (i:=3) ?_;exact jD ((↑(List.length x.Kids):Int)) [] h
      ·refine kW [4,8,10,13,61] ?_;refine xD (i:=0) ?_;show Sem _ _ _ _ _;refine sO oN [] [(7,vB false)] ?_;refine tD ?_;subst h;exact (endQ []).1
     ·refine sO oN [] [(61,vB (x.Kind == 3))] ?_;refine cH 20 h (fun w h=>?_) (fun w h=>?_)
      ·refine kD ?_;exact jD (x.Kind == 3) [] h
      ·refine rO oN [43] [(61,vB (x.Kind == 4))] ?_;exact jD (x.Kind == 4) [] h
   ·refine sO oN [] [(52,vB (x.Kind == 1))] ?_;refine cH 17 h (fun y h=>?_) (fun y h=>?_)
    ·refine kD ?_;exact jD (x.Kind == 1) [] h
    ·refine rO oN [] [(52,vB (x.Kind == 2))] ?_;exact jD (x.Kind == 2) [] h
theorem ze4 (k:zf) (v:zO) (a:Int) (res:Bool) (fin:zO) (fin_1:Int)
 (h:(ck (k.Kind == v.Kind) (ck (v.Kind != 5) (res=true∧fin=v∧fin_1=a) (∃ r0:Bool,zaN ({ Kind:=k.Kind,Set:=k.Set,Lo:=k.Lo,Hi:=k.Hi,Kids:=k.Kids }) (w64 (a - 1)) r0∧(res=(!r0)∧fin=v∧fin_1=a))) (∃ b:Bool,zaN ({ Kind:=k.Kind,Set:=k.Set,Lo:=k.Lo,Hi:=k.Hi,Kids:=k.Kids }) (w64 (a - 1)) b∧(res=(!b)∧fin=v∧fin_1=a)))):zbQ k v a res fin fin_1:=by
 have kk:=cfOk [] 22;refine fE kk Tryz.func136 [(1,zD k),(3,zS v),(4,.ptr 3 0),(6,vi a),(7,.ptr 6 0)] ?_;refine sO oN [1] [(10,.ptr 20 0),(20,zD k)] ?_;rcases eft (k.Kind == v.Kind) with c | c
 ·have h:=h.1 c;rcases eft (v.Kind != 5) with d | d
  ·have h:=h.1 d;refine sO (g2 d c 4446222223 oN) [4,7,10,20] [(13,vB true)] ?_;refine tD ?_;obtain ⟨g,e,f⟩:=h;subst res fin fin_1;exact (endQ []).1
  ·have h:=h.2 d;obtain ⟨r0,j,h⟩:=h;refine sO (g2 d c 44462222 (ca j (g1 d 23 oN))) [4,7,10,20] [(13,vB (!r0))] ?_;refine tD ?_;obtain ⟨g,e,f⟩:=h;subst res fin fin_1;exact (endQ []).1
 ·have h:=h.2 c;obtain ⟨b,i,h⟩:=h;refine sO (g1 c 11137777 (ca i (g0 78 oN))) [4,7,10,20] [(13,vB (!b))] ?_;refine tD ?_;obtain ⟨g,e,f⟩:=h;subst res fin fin_1;exact (endQ []).1
theorem zah (s0:(List zf)) (cap:zO) (l:Int) (res:Int) (fin:zO) (fin_1:Int)
 (h:(∃ (m:Int→Int→Int→Int→Int→Int→Int→List zf→Int→Int→Prop) (o:Int→Int→Int→Int→Int→Int→Int→List zf→Int→Int→Nat),m cap.Kind (zb.e0 cap.Set) (zb.e1 cap.Set) (zb.e2 cap.Set) (zb.e3 cap.Set) cap.Lo cap.Hi cap.Kids l 0∧(∀ (g:Int) (c:Int) (b:Int) (d:Int) (a:Int) (k:Int) (j:Int) (f:List zf) (o1:Int) (t8:Int),m g c b d a k j f o1 t8→(ck (decide (t8 < (↑(List.length s0):Int))) ((0≤t8)∧t8 < ↑(List.length s0)∧(∃ p:Bool,∃ e:zO,∃ n:Int,zbQ (gd s0 t8) ({ Kind:=g,Set:={ e0:=c,e1:=b,e2:=d,e3:=a },Lo:=k,Hi:=j,Kids:=f }) o1 p e n∧(ck (p) (res=t8∧fin=e∧fin_1=n) (m e.Kind (zb.e0 e.Set) (zb.e1 e.Set) (zb.e2 e.Set) (zb.e3 e.Set) e.Lo e.Hi e.Kids n (w64 (t8+1))∧o e.Kind (zb.e0 e.Set) (zb.e1 e.Set) (zb.e2 e.Set) (zb.e3 e.Set) e.Lo e.Hi e.Kids n (w64 (t8+1)) < o g c b d a k j f o1 t8)))) (res=(-1)∧fin=({ Kind:=g,Set:={ e0:=c,e1:=b,e2:=d,e3:=a },Lo:=k,Hi:=j,Kids:=f })∧fin_1=o1))))):zV s0 cap l res fin fin_1:=by
 have kk:=cfOk [17] 19;refine fE kk Tryz.func153 [(1,vL zc s0),(3,zS cap),(4,.clo 136 [.ptr 3 0,.ptr 6 0]),(6,vi l)] ?_;refine sO oN [] [] ?_;refine qD ?_;refine sV oN [] (List.length (List.map zc s0)) (List.length s0) (fun q=>[(22,vi ((↑(q):Int))),(25,vi 0)]) ?_;refine bD (id:=0) ?_;obtain ⟨m,o,r,s⟩:=h;refine loE [] (u10 fun g c b d a k j f o1 t8=>[(3,.agg [vi g,vI .u64 c,vI .u64 b,vI .u64 d,vI .u64 a,vi k,vi j,vL zc f]),(6,vi o1),(25,vi t8)]) (u10 m) (u10 o) (cap.Kind,(zb.e0 cap.Set),(zb.e1 cap.Set),(zb.e2 cap.Set),(zb.e3 cap.Set),cap.Lo,cap.Hi,cap.Kids,l,0) [] r ?_;rintro ⟨g,c,b,d,a,k,j,f,o1,t8⟩ hi;have h:=s g c b d a k j f o1 t8 hi;refine sO oN [] [(28,vB (decide (t8 < (↑(List.length s0):Int))))] ?_;refine qD ?_;refine cH 9 h (fun u h=>?_) (fun u h=>?_)
 ·refine kW [28] ?_;refine qD ?_;refine bD (id:=1) ?_;refine sO oN [] [(16,vi t8)] ?_;obtain ⟨B,h⟩:=h;obtain ⟨A,h⟩:=h;obtain ⟨p,e,n,t,h⟩:=h;refine sO (xo zc (zL _) B A (ca t oN)) [] [(3,zS e),(6,vi n),(49,vB p)] ?_;refine cH 16 h (fun v h=>?_) (fun v h=>?_)
  ·refine sO oN [1,4,16,22,25,49] [(13,vi t8)] ?_;refine tD ?_;obtain ⟨y,D,w⟩:=h;subst res fin fin_1;exact (endQ []).1
  ·refine kW [16,49] ?_;refine rO oN [] [(25,vi (w64 (t8+1)))] ?_;exact lD (e.Kind,(zb.e0 e.Set),(zb.e1 e.Set),(zb.e2 e.Set),(zb.e3 e.Set),e.Lo,e.Hi,e.Kids,n,(w64 (t8+1))) [] h
 ·refine xD (i:=0) ?_;show Sem _ _ _ _ _;refine wkD [1,4,22,25,28] ?_;refine sO oN [] [(13,vi (-1))] ?_;refine tD ?_;obtain ⟨y,D,w⟩:=h;subst res fin fin_1;exact (endQ []).1
theorem zaG (s0:(List zf)) (cap:zO) (a:Int) (res:Bool) (fin:zO) (fin_1:Int)
 (h:(∃ r0:Int,∃ o:zO,∃ b:Int,zV s0 cap a r0 o b∧(res=(decide (r0≥0))∧fin=o∧fin_1=b))):zR s0 cap a res fin fin_1:=by
 have kk:=cfOk [] 9;refine fE kk Tryz.func138 [(1,vL zc s0),(3,zS cap),(4,.clo 136 [.ptr 3 0,.ptr 6 0]),(6,vi a)] ?_;refine sO oN [] [] ?_;obtain ⟨r0,o,b,c,h⟩:=h;refine sO (ca c oN) [1,4] [(3,zS o),(6,vi b),(13,vB (decide (r0≥0)))] ?_;refine tD ?_;obtain ⟨f,d,e⟩:=h;subst res fin fin_1;exact (endQ []).1
theorem zgX (x:zO) (a:Int) (res:Bool)
 (h:(ck (decide (a > 0)) (∃ r0:Bool,zc7 x r0∧(ck (r0) (∃ c:Bool,∃ o:zO,∃ f:Int,zR x.Kids x a c o f∧(res=(!c))) (res=false))) (res=false))):zaN x a res:=by
 have kk:=cfOk [] 20;refine fE kk Tryz.func117 [(1,zS x),(4,vi a)] ?_;refine sO oN [1,4] [(7,.ptr 14 0),(10,.ptr 20 0),(14,zS x),(20,vi a)] ?_;refine sO oN [] [(16,.clo 136 [.ptr 14 0,.ptr 20 0])] ?_;rcases eft (decide (a > 0)) with b | b
 ·have h:=h.1 b;obtain ⟨r0,e,h⟩:=h;rcases eft (r0) with d | d
  ·have h:=h.1 d;obtain ⟨c,o,f,g,h⟩:=h;refine sO (g1 b 11 (ca e (g2 d b 61111 (ca g (g1 d 13 oN))))) [7,10,14,16,20] [(13,vB (!c))] ?_;refine tD ?_;subst h;exact (endQ []).1
  ·have h:=h.2 d;refine sO (g1 b 11 (ca e (g2 d b 6111113 oN))) [7,10,14,16,20] [(13,vB false)] ?_;refine tD ?_;subst h;exact (endQ []).1
 ·have h:=h.2 b;refine sO (g1 b 113888888 oN) [7,10,14,16,20] [(13,vB false)] ?_;refine tD ?_;subst h;exact (endQ []).1
theorem W_rx_Size (x:zf) (res:Int)
 (h:(ck (x.Kind == 2) (res=1) (ck (decide (x.Kind < 3) || decide (x.Kind > 5)) (res=0) (∃ (d:Int→Int→Prop) (e:Int→Int→Nat),d 0 0∧(∀ (n:Int) (b:Int),d n b→(ck (decide (b < (↑(List.length x.Kids):Int))) ((0≤b)∧b < ↑(List.length x.Kids)∧(∃ a:Int,ze8 (gd x.Kids b) a∧(d (if false=true then if 1000000 > w64 (n+a) then 1000000 else w64 (n+a) else if 1000000 < w64 (n+a) then 1000000 else w64 (n+a)) (w64 (b+1))∧e (if false=true then if 1000000 > w64 (n+a) then 1000000 else w64 (n+a) else if 1000000 < w64 (n+a) then 1000000 else w64 (n+a)) (w64 (b+1)) < e n b))) (∃ f:Int→Prop,(∀ (c:Int),f c→(res=(if false=true then if 1000000 > c then 1000000 else c else if 1000000 < c then 1000000 else c)))∧(ck (x.Kind == 5) (f (w64 (n * if (if false=true then if (if x.Hi > x.Lo then x.Hi else x.Lo) > 1000 then if x.Hi > x.Lo then x.Hi else x.Lo else 1000 else if (if x.Hi > x.Lo then x.Hi else x.Lo) < 1000 then if x.Hi > x.Lo then x.Hi else x.Lo else 1000) > 1 then if false=true then if (if x.Hi > x.Lo then x.Hi else x.Lo) > 1000 then if x.Hi > x.Lo then x.Hi else x.Lo else 1000 else if (if x.Hi > x.Lo then x.Hi else x.Lo) < 1000 then if x.Hi > x.Lo then x.Hi else x.Lo else 1000 else 1))) (f n))))))))):ze8 x res:=by
 have kk:=cfOk [] 43;refine fE kk Tryz.func118 [(1,zD x)] ?_;refine sO oN [1] [(4,.ptr 8 0),(7,vi 0),(8,zD x)] ?_;refine qD ?_;refine sO oN [] [(22,vB (x.Kind == 2))] ?_;refine cH 7 h (fun v h=>?_) (fun v h=>?_)
 ·refine sO oN [4,8,22] [(7,vi 1)] ?_;refine tD ?_;subst h;exact (endQ []).1
 ·refine kW [22] ?_;refine qD ?_;refine sM [] [(46,vB (decide (x.Kind < 3) || decide (x.Kind > 5)))] ?_ (fun l=>?_)
  ·refine cH 15 h (fun s h=>?_) (fun s h=>?_)
   ·refine sO oN [4,8,46] [] ?_;refine tD ?_;subst h;exact (endQ []).1
   ·refine kW [46] ?_;refine qD ?_;refine sV oN [] (List.length (List.map zc x.Kids)) (List.length x.Kids) (fun q=>[(52,vL zc x.Kids),(55,vi ((↑(q):Int))),(58,vi 0)]) ?_;refine bD (id:=0) ?_;obtain ⟨d,e,g,k⟩:=h;refine loE [] (u2 fun n b=>[(7,vi n),(58,vi b)]) (u2 d) (u2 e) (0,0) [] g ?_;rintro ⟨n,b⟩ hi;have h:=k n b hi;refine sO oN [] [(61,vB (decide (b < (↑(List.length x.Kids):Int))))] ?_;refine qD ?_;refine cH 20 h (fun r h=>?_) (fun r h=>?_)
    ·refine kW [61] ?_;refine qD ?_;refine bD (id:=1) ?_;obtain ⟨t,h⟩:=h;obtain ⟨u,h⟩:=h;refine sO (xo zc (zL _) t u oN) [] [(13,.ptr 26 0),(26,zD (gd x.Kids b))] ?_;obtain ⟨a,o,h⟩:=h;refine rO (ca o oN) [13,26] [(7,vi (if false=true then if 1000000 > w64 (n+a) then 1000000 else w64 (n+a) else if 1000000 < w64 (n+a) then 1000000 else w64 (n+a)))] ?_;show Sem _ _ _ _ _;refine rO oN [] [(58,vi (w64 (b+1)))] ?_;exact lD ((if false=true then if 1000000 > w64 (n+a) then 1000000 else w64 (n+a) else if 1000000 < w64 (n+a) then 1000000 else w64 (n+a)),(w64 (b+1))) [] h
    ·refine xD (i:=0) ?_;show Sem _ _ _ _ _;refine wkD [52,55,58,61] ?_;obtain ⟨f,p,h⟩:=h;refine sjD f (fun c=>[(7,vi c)]) ?_ ?_
     ·rintro c hj;have h:=p c hj;refine sO oN [] [(7,vi (if false=true then if 1000000 > c then 1000000 else c else if 1000000 < c then 1000000 else c))] ?_;refine tD ?_;subst h;exact (endQ []).1
     ·refine sO oN [] [(94,vB (x.Kind == 5))] ?_;refine cH 31 h (fun m h=>?_) (fun m h=>?_)
      ·refine rOE oN [4,8,94] [(7,vi (w64 (n * if true=true then if (if false=true then if (if true=true then if x.Hi > x.Lo then x.Hi else x.Lo else if x.Hi < x.Lo then x.Hi else x.Lo) > 1000 then if true=true then if x.Hi > x.Lo then x.Hi else x.Lo else if x.Hi < x.Lo then x.Hi else x.Lo else 1000 else if (if true=true then if x.Hi > x.Lo then x.Hi else x.Lo else if x.Hi < x.Lo then x.Hi else x.Lo) < 1000 then if true=true then if x.Hi > x.Lo then x.Hi else x.Lo else if x.Hi < x.Lo then x.Hi else x.Lo else 1000) > 1 then if false=true then if (if true=true then if x.Hi > x.Lo then x.Hi else x.Lo else if x.Hi < x.Lo then x.Hi else x.Lo) > 1000 then if true=true then if x.Hi > x.Lo then x.Hi else x.Lo else if x.Hi < x.Lo then x.Hi else x.Lo else 1000 else if (if true=true then if x.Hi > x.Lo then x.Hi else x.Lo else if x.Hi < x.Lo then x.Hi else x.Lo) < 1000 then if true=true then if x.Hi > x.Lo then x.Hi else x.Lo else if x.Hi < x.Lo then x.Hi else x.Lo else 1000 else 1 else if (if false=true then if (if true=true then if x.Hi > x.Lo then x.Hi else x.Lo else if x.Hi < x.Lo then x.Hi else x.Lo) > 1000 then if true=true then if x.Hi > x.Lo then x.Hi else x.Lo else if x.Hi < x.Lo then x.Hi else x.Lo else 1000 else if (if true=true then if x.Hi > x.Lo then x.Hi else x.Lo else if x.Hi < x.Lo then x.Hi else x.Lo) < 1000 then if true=true then if x.Hi > x.Lo then x.Hi else x.Lo else if x.Hi < x.Lo then x.Hi else x.Lo else 1000) < 1 then if false=true then if (if true=true then if x.Hi > x.Lo then x.Hi else x.Lo else if x.Hi < x.Lo then x.Hi else x.Lo) > 1000 then if true=true then if x.Hi > x.Lo then x.Hi else x.Lo else if x.Hi < x.Lo then x.Hi else x.Lo else 1000 else if (if true=true then if x.Hi > x.Lo then x.Hi else x.Lo else if x.Hi < x.Lo then x.Hi else x.Lo) < 1000 then if true=true then if x.Hi > x.Lo then x.Hi else x.Lo else if x.Hi < x.Lo then x.Hi else x.Lo else 1000 else 1)))] [(7,vi (w64 (n * if (if false=true then if (if x.Hi > x.Lo then x.Hi else x.Lo) > 1000 then if x.Hi > x.Lo then x.Hi else x.Lo else 1000 else if (if x.Hi > x.Lo then x.Hi else x.Lo) < 1000 then if x.Hi > x.Lo then x.Hi else x.Lo else 1000) > 1 then if false=true then if (if x.Hi > x.Lo then x.Hi else x.Lo) > 1000 then if x.Hi > x.Lo then x.Hi else x.Lo else 1000 else if (if x.Hi > x.Lo then x.Hi else x.Lo) < 1000 then if x.Hi > x.Lo then x.Hi else x.Lo else 1000 else 1)))] ?_;exact jD (w64 (n * if (if false=true then if (if x.Hi > x.Lo then x.Hi else x.Lo) > 1000 then if x.Hi > x.Lo then x.Hi else x.Lo else 1000 else if (if x.Hi > x.Lo then x.Hi else x.Lo) < 1000 then if x.Hi > x.Lo then x.Hi else x.Lo else 1000) > 1 then if false=true then if (if x.Hi > x.Lo then x.Hi else x.Lo) > 1000 then if x.Hi > x.Lo then x.Hi else x.Lo else 1000 else if (if x.Hi > x.Lo then x.Hi else x.Lo) < 1000 then if x.Hi > x.Lo then x.Hi else x.Lo else 1000 else 1)) [] h
      ·refine kD ?_;exact jD n [] h
  ·rcases eft (decide (x.Kind < 3)) with j | j
   ·refine sO (g1 j 2223 oN) [] [(46,vB true)] ?_;exact Sem.cast (by try rw [j];kernel_rfl) l
   ·refine sO (g1 j 2223 oN) [] [(46,vB (decide (x.Kind > 5)))] ?_;exact Sem.cast (by try rw [j];kernel_rfl) l
theorem W_rx_nodes (x:zf) (e:Int) (res:Int)
 (h:(∃ (d:Int→Int→Prop) (g:Int→Int→Nat),d (w64 (e - 1)) 0∧(∀ (a:Int) (c:Int),d a c→(ck (decide (c < (↑(List.length x.Kids):Int))) (∃ k:Int→Prop,(∀ (b:Int),k b→(d b (w64 (c+1))∧g b (w64 (c+1)) < g a c))∧(0≤c)∧c < ↑(List.length x.Kids)∧(ck (decide (a≥0)) (∃ f:Int,zfn (gd x.Kids c) a f∧k f) (k a))) (res=a))))):zfn x e res:=by
 have kk:=cfOk [22] 23;refine fE kk Tryz.func119 [(1,zD x),(4,vi e)] ?_;refine sO oN [1] [(7,.ptr 14 0),(14,zD x)] ?_;refine sO oN [] [(4,vi (w64 (e - 1)))] ?_;refine qD ?_;refine sV oN [7,14] (List.length (List.map zc x.Kids)) (List.length x.Kids) (fun q=>[(31,vL zc x.Kids),(34,vi ((↑(q):Int))),(37,vi 0)]) ?_;refine bD (id:=0) ?_;obtain ⟨d,g,j,l⟩:=h;refine loE [] (u2 fun a c=>[(4,vi a),(37,vi c)]) (u2 d) (u2 g) ((w64 (e - 1)),0) [] j ?_;rintro ⟨a,c⟩ hi;have h:=l a c hi;refine sO oN [] [(40,vB (decide (c < (↑(List.length x.Kids):Int))))] ?_;refine qD ?_;refine cH 13 h (fun p h=>?_) (fun p h=>?_)
 ·refine kW [40] ?_;obtain ⟨k,n,h⟩:=h;refine sjE k [] (fun b=>[(4,vi b)]) ?_ ?_
  ·rintro b hj;have h:=n b hj;refine rO oN [] [(37,vi (w64 (c+1)))] ?_;exact lD (b,(w64 (c+1))) [] h
  ·refine bD (id:=1) ?_;obtain ⟨r,h⟩:=h;obtain ⟨s,h⟩:=h;refine sO (xo zc (zL _) r s oN) [] [(19,.ptr 38 0),(38,zD (gd x.Kids c))] ?_;refine sO oN [] [(52,vB (decide (a≥0)))] ?_;refine cH 17 h (fun o h=>?_) (fun o h=>?_)
   ·obtain ⟨f,m,h⟩:=h;refine rO (ca m oN) [19,38,52] [(4,vi f)] ?_;exact jD f [] h
   ·refine kD ?_;exact jD a [] h
 ·refine xD (i:=0) ?_;show Sem _ _ _ _ _;refine wkD [31,34,37,40] ?_;refine sO oN [4] [(13,vi a)] ?_;refine tD ?_;subst h;exact (endQ []).1
theorem W_rx_Right (x:zf) (res:Bool)
 (h:(∃ r0:Bool,zaN ({ Kind:=x.Kind,Set:=x.Set,Lo:=x.Lo,Hi:=x.Hi,Kids:=x.Kids }) 20 r0∧(ck (r0) (∃ c:Int,ze8 x c∧(ck (decide (c≤200)) (∃ b:Int,zfn x (1000) b∧(res=(decide (b≥0)))) (res=false))) (res=false)))):zcL x res:=by
 have kk:=cfOk [] 15;refine fE kk Tryz.func86 [(1,zD x)] ?_;refine sO oN [1] [(4,.ptr 8 0),(8,zD x)] ?_;obtain ⟨r0,e,h⟩:=h;rcases eft (r0) with a | a
 ·have h:=h.1 a;obtain ⟨c,f,h⟩:=h;rcases eft (decide (c≤200)) with d | d
  ·have h:=h.1 d;obtain ⟨b,g,h⟩:=h;refine sO (ca e (g1 a 11 (ca f (g2 d a 4611 (ca g (g1 d 13 oN)))))) [4,8] [(7,vB (decide (b≥0)))] ?_;refine tD ?_;subst h;exact (endQ []).1
  ·have h:=h.2 d;refine sO (ca e (g1 a 11 (ca f (g2 d a 461113 oN)))) [4,8] [(7,vB false)] ?_;refine tD ?_;subst h;exact (endQ []).1
 ·have h:=h.2 a;refine sO (ca e (g1 a 11138888 oN)) [4,8] [(7,vB false)] ?_;refine tD ?_;subst h;exact (endQ []).1
theorem ze5 (s0:zb) (b:zy) (res:zu) (fin:zy)
 (h:((List.length b.sets+1) * 32≤2 ^ 47)∧((List.length b.follow+1) * 24≤2 ^ 47)∧(res=({ first:=[(↑(List.length b.sets):Int)],last:=[(↑(List.length b.sets):Int)],null:=false })∧fin=({ sets:=b.sets++[s0],follow:=b.follow++[[]] }))):zc2 s0 b res fin:=by
 have kk:=cfOk [] 34;refine fE kk Tryz.func154 [(1,.ptr 3 0),(3,zA b),(4,zQ s0)] ?_;refine sO oN [4] [(10,.ptr 20 0),(13,.ptr 26 0),(20,zQ s0),(26,.agg [oL 3 za ([]),oL 3 za ([]),vB false])] ?_;refine sOE oN [] [(16,.own 3 ([FV.pv (Value.int IntKind.i64 (↑(List.length (List.map zm b.sets)):Int))]))] [(16,oL 3 za ([(↑(List.length b.sets):Int)]))] ?_;obtain ⟨h0,h⟩:=h;obtain ⟨h1,h⟩:=h;refine sOE (apo zm b.sets h0 (apo zj b.follow h1 oN)) [1,10,20] [(3,.agg [.own 52 (List.map zm b.sets++[FV.agg [FV.pv (Value.int IntKind.u64 s0.e0),FV.pv (Value.int IntKind.u64 s0.e1),FV.pv (Value.int IntKind.u64 s0.e2),FV.pv (Value.int IntKind.u64 s0.e3)]]),.own 27 (List.map zj b.follow++[FV.sl []])])] [(3,.agg [oL 52 zm (b.sets++[s0]),oL 27 zj (b.follow++[[]])])] ?_;refine sOE oN [16] [(26,.agg [.f (FV.sl (List.take 1 (List.drop 0 (List.map za [(↑(List.length b.sets):Int)])))),.f (FV.sl (List.take 1 (List.drop 0 (List.map za [(↑(List.length b.sets):Int)])))),vB false])] [(26,.agg [vL za ([(↑(List.length b.sets):Int)]),vL za ([(↑(List.length b.sets):Int)]),vB false])] ?_;refine tD ?_;obtain ⟨c,a⟩:=h;subst res fin;exact (endQ []).1
theorem zd3 (a:(List (List Int))) (res:(List Int))
 (h:(∃ (e:Int→Int→Prop) (j:Int→Int→Nat),e 0 0∧(∀ (size:Int) (c:Int),e size c→(ck (decide (c < (↑(List.length a):Int))) (∃ m:Prop,(m→(e (w64 (size+(↑(List.length (gd a c)):Int))) (w64 (c+1))∧j (w64 (size+(↑(List.length (gd a c)):Int))) (w64 (c+1)) < j size c))∧(0≤c)∧c < ↑(List.length a)∧(ck (decide (w64 (size+(↑(List.length (gd a c)):Int)) < 0)) False m)) ((0≤size∧size≤2 ^ 40)∧(∃ (f:List Int→Int→Prop) (g:List Int→Int→Nat),f ([]) 0∧(∀ (b:List Int) (d:Int),f b d→(ck (decide (d < (↑(List.length a):Int))) ((0≤d)∧d < ↑(List.length a)∧((List.length b+List.length (gd a d)) * 8≤2 ^ 47)∧(f (b++gd a d) (w64 (d+1))∧g (b++gd a d) (w64 (d+1)) < g b d)) (res=b))))))))):zax a res:=by
 have kk:=cfOk [35] 36;refine fE kk Tryz.func141 [(1,vL zj a)] ?_;refine sO oN [] [] ?_;refine sO oN [] [(10,vi 0)] ?_;refine qD ?_;refine sV oN [] (List.length (List.map zj a)) (List.length a) (fun q=>[(28,vL zj a),(31,vi ((↑(q):Int))),(34,vi 0)]) ?_;refine bD (id:=0) ?_;obtain ⟨e,j,k,n⟩:=h;refine loE [] (u2 fun size c=>[(10,vi size),(34,vi c)]) (u2 e) (u2 j) (0,0) [] k ?_;rintro ⟨size,c⟩ hi;have h:=n size c hi;refine sO oN [] [(37,vB (decide (c < (↑(List.length a):Int))))] ?_;refine qD ?_;refine cH 12 h (fun t h=>?_) (fun t h=>?_)
 ·refine kW [37] ?_;obtain ⟨m,p,h⟩:=h;refine sjD (fun (_:Unit)=>m) (fun (_:Unit)=>[(1,vL zj a),(10,vi (w64 (size+(↑(List.length (gd a c)):Int)))),(28,vL zj a),(31,vi ((↑(List.length a):Int))),(34,vi c)]) ?_ ?_
  ·rintro _ hj;have h:=p hj;refine rO oN [] [(34,vi (w64 (c+1)))] ?_;exact lD ((w64 (size+(↑(List.length (gd a c)):Int))),(w64 (c+1))) [] h
  ·refine bD (id:=1) ?_;obtain ⟨u,h⟩:=h;obtain ⟨A,h⟩:=h;refine sO (xo zj rfl u A oN) [] [(16,vL za (gd a c))] ?_;refine sV oN [16] (List.length (List.map za (gd a c))) (List.length (gd a c)) (fun q=>[(10,vi (w64 (size+(↑(q):Int))))]) ?_;refine sO oN [] [(61,vB (decide (w64 (size+(↑(List.length (gd a c)):Int)) < 0)))] ?_;refine cH 20 h (fun r h=>?_) (fun r h=>?_)
   ·exact h.elim
   ·refine kD ?_;exact jD () [] h
 ·refine xD (i:=0) ?_;show Sem _ _ _ _ _;refine wkD [28,31,34,37] ?_;obtain ⟨y,h⟩:=h;refine sO (nd y oN) [10] [(19,oL 3 za ([]))] ?_;refine qD ?_;refine sV oN [1] (List.length (List.map zj a)) (List.length a) (fun q=>[(76,vL zj a),(79,vi ((↑(q):Int))),(82,vi 0)]) ?_;refine bD (id:=2) ?_;obtain ⟨f,g,l,o⟩:=h;refine loE [] (u2 fun b d=>[(19,oL 3 za b),(82,vi d)]) (u2 f) (u2 g) (([]),0) [] l ?_;rintro ⟨b,d⟩ hi;have h:=o b d hi;refine sO oN [] [(85,vB (decide (d < (↑(List.length a):Int))))] ?_;refine qD ?_;refine cH 28 h (fun s h=>?_) (fun s h=>?_)
  ·refine kW [85] ?_;refine qD ?_;refine bD (id:=3) ?_;obtain ⟨w,h⟩:=h;obtain ⟨B,h⟩:=h;refine sO (xo zj rfl w B oN) [] [(25,vL za (gd a d))] ?_;obtain ⟨v,h⟩:=h;refine rOE (nd (show (0:Nat)=(0:Nat)∧List.length (List.map za b)=List.length (List.map za b) from ⟨rfl,rfl⟩) (nd (show (List.length (List.map za b)+List.length (List.map za (gd a d))) * (8:Nat)≤(2:Nat) ^ (47:Nat) from by simpa only [nm] using v) (nd (show List.all (List.map za (gd a d)) (FV.fits (1:Nat))=true from by first | exact zgG _ | exact keysenc_i64 _ | rfl | simp [isByteF,FV.fits,FV.size,FV.cells,FV.one,za]) oN))) [25] [(19,.own 3 (List.map za b++List.map za (gd a d)))] [(19,oL 3 za (b++gd a d))] ?_;show Sem _ _ _ _ _;refine rO oN [] [(82,vi (w64 (d+1)))] ?_;exact lD ((b++gd a d),(w64 (d+1))) [] h
  ·refine xD (i:=2) ?_;show Sem _ _ _ _ _;refine wkD [76,79,82,85] ?_;refine sO oN [19] [(7,oL 3 za b)] ?_;refine tD ?_;subst h;exact (endQ []).1
theorem zh6 (a:(List Int)) (b:(List Int)) (res:(List Int))
 (h:(∃ r0:List Int,zax ([a,b]) r0∧List.length r0 < 1099511627776∧(List.length (sortInts r0)=List.length r0)∧List.length (sortInts r0) < 1099511627776∧(res=(compactInts (sortInts r0))))):zaq a b res:=by
 have kk:=cfOk [] 14;refine fE kk Tryz.func124 [(1,vL za a),(4,vL za b)] ?_;refine sO oN [] [] ?_;obtain ⟨r0,c,h⟩:=h;refine sO (ca (Eq.mp (by unfold zax;(try simp only [List.drop_zero,List.take_length]);first | done | simp only [nm,enq]:zax ([a,b]) r0=CallE Tryz.prog 141 [.f (FV.sl (List.take (List.length [FV.sl (List.map za a),FV.sl (List.map za b)]) (List.drop 0 [FV.sl (List.map za a),FV.sl (List.map za b)])))] [] (oL 3 za r0) []) c) oN) [1,4] [(16,oL 3 za r0)] ?_;obtain ⟨h1,h⟩:=h;obtain ⟨h2,h⟩:=h;refine sO (nd (show (0:Nat)=(0:Nat)∧List.length (List.map za r0)=List.length (List.map za r0) from ⟨rfl,rfl⟩) (op (.l (List.map za (sortInts r0))) (show Prod.fst (sortF,false) (List.map za r0)=some (List.map za (sortInts r0)) from by first | exact sortF_map za (fun _=>rfl) _ h1 | (have:=sortF_map za (fun _=>rfl) _ h1;simpa only [nm,enq] using this)) (nd (show List.length (List.map za (sortInts r0))=List.length (List.map za r0) from by simpa only [nm] using h2) oN))) [] [(16,oL 3 za (sortInts r0))] ?_;obtain ⟨h3,h⟩:=h;refine sO (nd (show (0:Nat)=(0:Nat)∧List.length (List.map za (sortInts r0))=List.length (List.map za (sortInts r0)) from ⟨rfl,rfl⟩) (op (.l (List.map za (compactInts (sortInts r0)))) (show Prod.fst (compactF,true) (List.map za (sortInts r0))=some (List.map za (compactInts (sortInts r0))) from by first | exact zhS za (fun _=>rfl) _ h3 | (have:=zhS za (fun _=>rfl) _ h3;simpa only [nm,enq] using this)) oN)) [16] [(13,oL 3 za (compactInts (sortInts r0)))] ?_;refine tD ?_;subst h;exact (endQ [(13,0)]).1
theorem zfv (c:(List Int)) (l:(List Int)) (b:zy) (fin:zy)
 (h:(∃ (e:List (List Int)→Int→Prop) (g:List (List Int)→Int→Nat),e b.follow 0∧(∀ (a:List (List Int)) (d:Int),e a d→(ck (decide (d < (↑(List.length c):Int))) ((0≤d)∧d < ↑(List.length c)∧(0≤gd c d)∧(Int.toNat (gd c d) < List.length a)∧gd c d < ↑(List.length a)∧(∃ f:List Int,zaq (gd a (gd c d)) l f∧(0≤gd c d)∧(Int.toNat (gd c d) < List.length a)∧gd c d < ↑(List.length a)∧(e (List.set a (Int.toNat (gd c d)) f) (w64 (d+1))∧g (List.set a (Int.toNat (gd c d)) f) (w64 (d+1)) < g a d))) (fin=({ sets:=b.sets,follow:=a })))))):zbm c l b fin:=by
 have kk:=cfOk [] 30;refine fE kk Tryz.func165 [(1,.ptr 3 0),(3,zA b),(4,vL za c),(7,vL za l)] ?_;refine sV oN [4] (List.length (List.map za c)) (List.length c) (fun q=>[(25,vL za c),(28,vi ((↑(q):Int))),(31,vi 0)]) ?_;refine bD (id:=0) ?_;obtain ⟨e,g,j,k⟩:=h;refine loE [] (u2 fun a d=>[(3,.agg [oL 52 zm b.sets,oL 27 zj a]),(31,vi d)]) (u2 e) (u2 g) (b.follow,0) [] j ?_;rintro ⟨a,d⟩ hi;have h:=k a d hi;refine sO oN [] [(34,vB (decide (d < (↑(List.length c):Int))))] ?_;refine qD ?_;refine cH 11 h (fun p h=>?_) (fun p h=>?_)
 ·refine kW [34] ?_;refine qD ?_;refine bD (id:=1) ?_;obtain ⟨u,h⟩:=h;obtain ⟨v,h⟩:=h;refine sO (xo za rfl u v oN) [] [(22,vi (gd c d))] ?_;obtain ⟨o,h⟩:=h;obtain ⟨r,h⟩:=h;obtain ⟨s,h⟩:=h;obtain ⟨f,n,h⟩:=h;obtain ⟨m,h⟩:=h;obtain ⟨t,h⟩:=h;obtain ⟨w,h⟩:=h;refine rV (nd o (nd (show Int.toNat (gd c d) < List.length (List.map zj a) from by simpa only [nm] using r) (el (show (List.map zj a)[((0:Nat)+Int.toNat (gd c d):Nat)]?=some (fL za (gd a (gd c d))) from by have:=zbu zj a (gd c d) _ rfl o s;simpa only [nm,enq,zj] using this) (ca n (nd m (nd (show Int.toNat (gd c d) < List.length (List.map zj a) from by simpa only [nm] using t) (el (show (List.map zj a)[((0:Nat)+Int.toNat (gd c d):Nat)]?=some (fL za (gd a (gd c d))) from by have:=zbu zj a (gd c d) _ rfl m w;simpa only [nm,enq,zj] using this) oN))))))) [22] (show AV from .own 27 (List.set (List.map zj a) ((0:Nat)+Int.toNat (gd c d)) (FV.sl (List.map za f)))) (oL 27 zj (List.set a (Int.toNat (gd c d)) f)) (fun q=>[(3,.agg [oL 52 zm b.sets,q])]) ?_;show Sem _ _ _ _ _;refine rO oN [] [(31,vi (w64 (d+1)))] ?_;exact lD ((List.set a (Int.toNat (gd c d)) f),(w64 (d+1))) [] h
 ·refine xD (i:=0) ?_;obtain he0:=h;subst fin;exact (endQ []).2
theorem zf6 (x:zu) (y:zu) (b:zy) (res:zu) (fin:zy)
 (h:(∃ o:zy,zbm x.last y.first b o∧(∃ J4:List Int→Prop,(∀ (a:List Int),J4 a→(∃ J7:List Int→Prop,(∀ (c:List Int),J7 c→(res=({ first:=a,last:=c,null:=x.null && y.null })∧fin=o))∧(ck y.null (∃ d:List Int,zaq x.last y.last d∧J7 d) (J7 y.last))))∧(ck x.null (∃ e:List Int,zaq x.first y.first e∧J4 e) (J4 x.first))))):zaY x y b res fin:=by
 have kk:=cfOk [41] 42;refine fE kk Tryz.func155 [(1,.ptr 3 0),(3,zA b),(4,zK x),(7,zK y)] ?_;refine sO oN [4,7] [(13,.ptr 26 0),(16,.ptr 32 0),(19,.ptr 38 0),(26,zK x),(32,zK y),(38,.agg [oL 3 za ([]),oL 3 za ([]),vB false])] ?_;obtain ⟨o,m,h⟩:=h;refine sO (ca m oN) [1] [(3,zA o)] ?_;refine sM [] [(22,.ptr 44 0),(44,.agg [vL za x.first,vL za y.last,vB (x.null && y.null)])] ?_ (fun g=>?_)
 ·obtain ⟨J4,n,h⟩:=h;refine sjE J4 [] (fun a=>[(44,.agg [vL za a,vL za y.last,vB (x.null && y.null)])]) ?_ ?_
  ·rintro a hj;have h:=n a hj;obtain ⟨J7,l,h⟩:=h;refine sjE J7 [13,16,26,32] (fun c=>[(44,.agg [vL za a,vL za c,vB (x.null && y.null)])]) ?_ ?_
   ·rintro c hj;have h:=l c hj;refine sO oN [22,44] [(38,.agg [vL za a,vL za c,vB (x.null && y.null)])] ?_;refine tD ?_;obtain ⟨r,s⟩:=h;subst res fin;exact (endQ []).1
   ·refine sO oN [] [(103,vB y.null)] ?_;refine cH 34 h (fun p h=>?_) (fun p h=>?_)
    ·obtain ⟨d,k,h⟩:=h;refine rO (ca k oN) [13,16,26,32,103] [(44,.agg [vL za a,vL za d,vB (x.null && y.null)])] ?_;exact jD d [] h
    ·refine kD ?_;exact jD y.last [] h
  ·refine sO oN [] [(79,vB x.null)] ?_;refine cH 26 h (fun j h=>?_) (fun j h=>?_)
   ·obtain ⟨e,i,h⟩:=h;refine rO (ca i oN) [79] [(44,.agg [vL za e,vL za y.last,vB (x.null && y.null)])] ?_;exact jD e [] h
   ·refine kD ?_;exact jD x.first [] h
 ·rcases eft x.null with f | f
  ·refine sO (g1 f 113 oN) [] [(22,.ptr 44 0),(44,.agg [vL za x.first,vL za y.last,vB y.null])] ?_;exact Sem.cast (by try rw [f];kernel_rfl) g
  ·refine sO (g1 f 113 oN) [] [(22,.ptr 44 0),(44,.agg [vL za x.first,vL za y.last,vB false])] ?_;exact Sem.cast (by try rw [f];kernel_rfl) g
theorem zez (x:zf) (n:Int) (b:zy) (res:(List zu)) (fin:zy)
 (h:(∃ (g:List zb→List (List Int)→List zu→Int→Prop) (j:List zb→List (List Int)→List zu→Int→Nat),g b.sets b.follow ([]) 0∧(∀ (c:List zb) (a:List (List Int)) (e:List zu) (t8:Int),g c a e t8→(ck (decide (t8 < n)) (∃ d:zu,∃ f:zy,zay x ({ sets:=c,follow:=a }) d f∧((List.length e+1) * 56≤2 ^ 47)∧(g f.sets f.follow (e++[d]) (w64 (t8+1))∧j f.sets f.follow (e++[d]) (w64 (t8+1)) < j c a e t8)) (res=e∧fin=({ sets:=c,follow:=a })))))):zaF x n b res fin:=by
 have kk:=cfOk [17] 18;refine fE kk Tryz.func166 [(1,.ptr 3 0),(3,zA b),(4,zD x),(7,vi n)] ?_;refine sO oN [4] [(13,.ptr 26 0),(19,oL 195 zt ([])),(26,zD x)] ?_;refine qD ?_;refine sO oN [7] [(22,vi n),(25,vi 0)] ?_;refine bD (id:=0) ?_;obtain ⟨g,j,k,l⟩:=h;refine loE [] (u4 fun c a e t8=>[(3,.agg [oL 52 zm c,oL 27 zj a]),(19,oL 195 zt e),(25,vi t8)]) (u4 g) (u4 j) (b.sets,b.follow,([]),0) [] k ?_;rintro ⟨c,a,e,t8⟩ hi;have h:=l c a e t8 hi;refine sO oN [] [(28,vB (decide (t8 < n)))] ?_;refine qD ?_;refine cH 9 h (fun o h=>?_) (fun o h=>?_)
 ·refine kW [28] ?_;refine qD ?_;refine bD (id:=1) ?_;obtain ⟨d,f,m,h⟩:=h;obtain ⟨h9,h⟩:=h;refine rV (ca m (apo zt e h9 oN)) [] (show AV from .own 195 (List.map zt e++[FV.agg [FV.sl (List.map za d.first),FV.sl (List.map za d.last),FV.pv (Value.bool d.null)]])) (oL 195 zt (e++[d])) (fun q=>[(3,zA f),(19,q)]) ?_;show Sem _ _ _ _ _;refine rO oN [] [(25,vi (w64 (t8+1)))] ?_;exact lD (f.sets,f.follow,(e++[d]),(w64 (t8+1))) [] h
 ·refine xD (i:=0) ?_;show Sem _ _ _ _ _;refine wkD [1,13,22,25,26,28] ?_;refine sO oN [] [] ?_;refine tD ?_;obtain ⟨p,r⟩:=h;subst res fin;exact (endQ []).1
theorem W_place_maybe (x:zu) (res:zu)
 (h:(res=({ first:=x.first,last:=x.last,null:=true }))):zev x res:=by
 have kk:=cfOk [4] 5;refine fE kk Tryz.func168 [(1,zK x)] ?_;refine sO oN [1] [(4,.ptr 8 0),(7,.ptr 14 0),(8,zK x),(14,.agg [oL 3 za ([]),oL 3 za ([]),vB false])] ?_;refine sO oN [] [(8,.agg [vL za x.first,vL za x.last,vB true])] ?_;refine sO oN [4,8] [(14,.agg [vL za x.first,vL za x.last,vB true])] ?_;refine tD ?_;subst h;exact (endQ []).1
theorem zf5 (x:zf) (b:zy) (res:zu) (fin:zy)
 (h:(∃ r0:Int,ze8 x r0∧(ck (r0 == 0) (res=({ first:=[],last:=[],null:=true })∧fin=b) (0 < List.length x.Kids∧(∃ a:List zu,∃ o:zy,zaF (List.getD x.Kids 0 default) (if 1 > if x.Hi > x.Lo then x.Hi else x.Lo then 1 else if x.Hi > x.Lo then x.Hi else x.Lo) b a o∧(∃ w:List zb→List (List Int)→List zu→Prop,(∀ (m:List zb) (k:List (List Int)) (l:List zu),w m k l→(zak l∧(List.length l < 1099511627776∧∃ (p:Nat→List zb→List (List Int)→List Int→List Int→Bool→Prop),p 0 m k ([]) ([]) true∧(∀ (i:Nat) (y:zu),i < List.length l→l[List.length l - 1 - i]?=some y→∀ (f:List zb) (d:List (List Int)) (e:List Int) (g:List Int) (j:Bool),p i f d e g j→(∃ n:zu,∃ u:zy,zaY y ({ first:=e,last:=g,null:=j }) ({ sets:=f,follow:=d }) n u∧(ck (decide (x.Hi≥0) && decide ((↑(List.length l):Int) - 1 - (↑i:Int)≥x.Lo)) (∃ r:zu,zev n r∧p (i+1) u.sets u.follow r.first r.last r.null) (p (i+1) u.sets u.follow n.first n.last n.null))))∧(∀ (f:List zb) (d:List (List Int)) (e:List Int) (g:List Int) (j:Bool),p (List.length l) f d e g j→(res=({ first:=e,last:=g,null:=j })∧fin=({ sets:=f,follow:=d }))))))∧(ck (decide (x.Hi < 0)) ((0≤w64 ((↑(List.length a):Int) - 1))∧(Int.toNat (w64 ((↑(List.length a):Int) - 1)) < List.length a)∧Int.toNat (w64 ((↑(List.length a):Int) - 1)) < List.length a∧Int.toNat (w64 ((↑(List.length a):Int) - 1)) < List.length a∧(∃ t:zy,zbm (gd a (w64 ((↑(List.length a):Int) - 1))).last (gd a (w64 ((↑(List.length a):Int) - 1))).first o t∧Int.toNat (w64 ((↑(List.length a):Int) - 1)) < List.length a∧(ck (gd a (w64 ((↑(List.length a):Int) - 1))).null (((gd a (w64 ((↑(List.length a):Int) - 1))).null=true→Int.toNat (w64 ((↑(List.length a):Int) - 1)) < List.length a)∧w t.sets t.follow (List.set a (Int.toNat (w64 ((↑(List.length a):Int) - 1))) { first:=(gd a (w64 ((↑(List.length a):Int) - 1))).first,last:=(gd a (w64 ((↑(List.length a):Int) - 1))).last,null:=true })) (((gd a (w64 ((↑(List.length a):Int) - 1))).null=false→Int.toNat (w64 ((↑(List.length a):Int) - 1)) < List.length a)∧w t.sets t.follow (List.set a (Int.toNat (w64 ((↑(List.length a):Int) - 1))) { first:=(gd a (w64 ((↑(List.length a):Int) - 1))).first,last:=(gd a (w64 ((↑(List.length a):Int) - 1))).last,null:=x.Lo == 0 }))))) (w o.sets o.follow a)))))))):zcb x b res fin:=by
 have kk:=cfOk [75] 76;refine fE kk Tryz.func156 [(1,.ptr 3 0),(3,zA b),(4,zD x)] ?_;refine sO oN [1,4] [(7,.ptr 14 0),(10,.ptr 20 0),(13,.ptr 26 0),(14,.ptr 3 0),(20,zD x),(26,.agg [oL 3 za ([]),oL 3 za ([]),vB false])] ?_;refine qD ?_;obtain ⟨r0,X,h⟩:=h;refine sO (ca X oN) [] [(37,vB (r0 == 0))] ?_;refine cH 12 h (fun a4 h=>?_) (fun a4 h=>?_)
 ·refine sO oN [7,10,14,20,37] [(26,.agg [oL 3 za ([]),oL 3 za ([]),vB true])] ?_;refine tD ?_;obtain ⟨U,Y⟩:=h;subst res fin;exact (endQ [(26,0),(26,1)]).1
 ·refine kW [37] ?_;obtain ⟨h2,h⟩:=h;obtain ⟨a,o,a0,h⟩:=h;refine sO (nd (show (0:Int)≤(0:Int) from by first | decide | rfl | trivial) (el (show (List.map zc x.Kids)[(Int.toNat (0:Int):Nat)]?=some (zbF (List.getD x.Kids (0:Nat) default)) from by have:=zbM zc x.Kids ((0:Nat)) _ (zL _) h2;simpa only [nm,enq,zL] using this) (ca (Eq.mp (by unfold zaF;(try simp only [List.drop_zero,List.take_length]);first | done | simp only [nm,enq]:zaF (List.getD x.Kids 0 default) (if 1 > if x.Hi > x.Lo then x.Hi else x.Lo then 1 else if x.Hi > x.Lo then x.Hi else x.Lo) b a o=CallE Tryz.prog 166 [.ptr 3 0,.agg [vi (List.getD x.Kids 0 default).Kind,vI .u64 (zb.e0 (List.getD x.Kids 0 default).Set),vI .u64 (zb.e1 (List.getD x.Kids 0 default).Set),vI .u64 (zb.e2 (List.getD x.Kids 0 default).Set),vI .u64 (zb.e3 (List.getD x.Kids 0 default).Set),vi (List.getD x.Kids 0 default).Lo,vi (List.getD x.Kids 0 default).Hi,vL zc (List.getD x.Kids 0 default).Kids],vi (if true=true then if 1 > if true=true then if x.Hi > x.Lo then x.Hi else x.Lo else if x.Hi < x.Lo then x.Hi else x.Lo then 1 else if true=true then if x.Hi > x.Lo then x.Hi else x.Lo else if x.Hi < x.Lo then x.Hi else x.Lo else if 1 < if true=true then if x.Hi > x.Lo then x.Hi else x.Lo else if x.Hi < x.Lo then x.Hi else x.Lo then 1 else if true=true then if x.Hi > x.Lo then x.Hi else x.Lo else if x.Hi < x.Lo then x.Hi else x.Lo)] [.agg [oL 52 zm b.sets,oL 27 zj b.follow]] (oL 195 zt a) [zA o]) a0) oN))) [] [(3,zA o),(16,oL 195 zt a)] ?_;refine sO oN [] [(19,.ptr 38 0),(38,.agg [oL 3 za ([]),oL 3 za ([]),vB true])] ?_;obtain ⟨w,M,h⟩:=h;refine sjE (u3 w) [] (u3 fun m k l=>[(3,.agg [oL 52 zm m,oL 27 zj k]),(16,oL 195 zt l)]) ?_ ?_
  ·rintro ⟨m,k,l⟩ hj;have h:=M m k l hj;refine qD ?_;obtain ⟨Q,h⟩:=h;refine sO (ca (Eq.mp (by unfold zak;(try simp only [List.drop_zero,List.take_length]);first | done | simp only [nm,enq]:zak l=CallE Tryz.prog 167 [.f (FV.sl (List.take (List.length (List.map zt l)) (List.drop 0 (List.map zt l))))] [] (.clo 183 [.fp (fL zt l) 0]) []) Q) oN) [16] [(172,.clo 183 [.fp (fL zt l) 0])] ?_;refine bD (id:=0) ?_;obtain ⟨a5,p,A,B,D⟩:=h;refine Sem.range (α:=zu) (σ:=List zb×List (List Int)×List Int×List Int×Bool) (c:=(cf [75] 76)) (by rfl) (tg:=57) (p0:=58) (p1:=59) (by kernel_rfl) (xs:=l) (by kernel_rfl) back_ok_183 (ey:=(fun (y:zu)=>(zb0 y:FV))) (sz:=3) (fun y=>zae y) (fun y=>by simp [FV.fits,FV.size,FV.cells,FV.one,zae]) (by omega) [(7,.ptr 14 0),(10,.ptr 20 0),(13,.ptr 26 0),(19,.ptr 38 0)] [3,14,20,26,38] (fun (q:List zb×List (List Int)×List Int×List Int×Bool)=>(fun (f:List zb) (d:List (List Int)) (e:List Int) (g:List Int) (j:Bool)=>([.agg [oL 52 zm f,oL 27 zj d],.ptr 3 0,zD x,.agg [oL 3 za ([]),oL 3 za ([]),vB false],.agg [vL za e,vL za g,vB j]]:List AV)) q.1 q.2.1 q.2.2.1 q.2.2.2.1 q.2.2.2.2) (fun (i:Nat) (q:List zb×List (List Int)×List Int×List Int×Bool)=>p i q.1 q.2.1 q.2.2.1 q.2.2.2.1 q.2.2.2.2) (m,k,([]),([]),true) ((wkE (G':=[(3,.agg [oL 52 zm m,oL 27 zj k]),(7,.ptr 14 0),(10,.ptr 20 0),(13,.ptr 26 0),(14,.ptr 3 0),(19,.ptr 38 0),(20,zD x),(26,.agg [oL 3 za ([]),oL 3 za ([]),vB false]),(38,.agg [vL za ([]),vL za ([]),vB true])]) [(38,0),(38,1)] [3,7,10,13,14,19,20,26,38] (by kernel_rfl)).trans (Wk.pick [7,10,13,19,3,14,20,26,38] (by kernel_rfl))) A (by rfl) (fun q=>by rfl) (by rfl) (by decide) (fun q q'=>by rfl) (Nat.le_of_ble_eq_true rfl) (Nat.le_of_ble_eq_true rfl) (by decide) ?_ ?_
   ·rintro i ⟨f,d,e,g,j⟩ y hi hy hinv;have h:=B i y hi hy f d e g j hinv;refine Sem.weak (Wk.pick [3,6,7,9,10,12,13,15,19,175,178] (G':=[(3,.agg [oL 52 zm f,oL 27 zj d]),(6,.ptr 3 0),(7,.ptr 6 0),(9,zD x),(10,.ptr 9 0),(12,.agg [oL 3 za ([]),oL 3 za ([]),vB false]),(13,.ptr 12 0),(15,.agg [vL za e,vL za g,vB j]),(19,.ptr 15 0),(175,vi ((↑(List.length l):Int) - 1 - (↑i:Int))),(178,zK y)]) (by kernel_rfl)) ?_;show Sem _ (cfr [75] 76) (sq1 (sq1 (sq2 (sq1 (sq2 (sq2 (sq2 (sq2 (sq2 (bodyOf Tryz.f156)))))))))) _ _;have kr:=cfrOk [75] 76;refine sO oN [13,175] [(25,vi ((↑(List.length l):Int) - 1 - (↑i:Int)))] ?_;refine rO oN [178] [(28,.ptr 56 0),(56,zK y)] ?_;refine ⟨rfl,?_⟩;show Sem _ (cfr [75] 76) (sq2 (sq1 (sq2 (sq1 (sq2 (sq2 (sq2 (sq2 (sq2 (bodyOf Tryz.f156)))))))))) _ _;refine bD (id:=1) ?_;obtain ⟨n,u,O,h⟩:=h;refine sO (ca O oN) [7,28,56] [(3,zA u),(15,zK n)] ?_;refine sM [10,25] [(217,vB (decide (x.Hi≥0) && decide ((↑(List.length l):Int) - 1 - (↑i:Int)≥x.Lo)))] ?_ (fun E=>?_)
    ·refine cH 72 h (fun I h=>?_) (fun I h=>?_)
     ·obtain ⟨r,F,h⟩:=h;refine rO (ca F oN) [19,217] [(15,zK r)] ?_;exact rndE (wkE [] [3,6,9,12,15] (by rfl)) (by kernel_rfl) ⟨(u.sets,u.follow,r.first,r.last,r.null),rfl,h⟩
     ·refine kD ?_;exact rndE (wkE [] [3,6,9,12,15] (by rfl)) (by kernel_rfl) ⟨(u.sets,u.follow,n.first,n.last,n.null),rfl,h⟩
    ·rcases eft (decide (x.Hi≥0)) with v | v
     ·refine sO (g1 v 11113 oN) [10,25] [(217,vB (decide ((↑(List.length l):Int) - 1 - (↑i:Int)≥x.Lo)))] ?_;exact Sem.cast (by try rw [v];kernel_rfl) E
     ·refine sO (g1 v 11113 oN) [10,25] [(217,vB false)] ?_;exact Sem.cast (by try rw [v];kernel_rfl) E
   ·rintro ⟨f,d,e,g,j⟩ hinv;have h:=D f d e g j hinv;refine ⟨[(3,.agg [oL 52 zm f,oL 27 zj d]),(13,.ptr 26 0),(19,.ptr 38 0),(26,.agg [oL 3 za ([]),oL 3 za ([]),vB false]),(38,.agg [vL za e,vL za g,vB j])],Wk.pick [3,13,19,26,38] (by kernel_rfl),?_⟩;show Sem _ _ _ _ _;refine sO oN [19,38] [(26,.agg [vL za e,vL za g,vB j])] ?_;refine tD ?_;obtain ⟨U,Y⟩:=h;subst res fin;exact (endQ []).1
  ·refine sO oN [] [(85,vB (decide (x.Hi < 0)))] ?_;refine cH 28 h (fun H h=>?_) (fun H h=>?_)
   ·obtain ⟨R,h⟩:=h;obtain ⟨V,h⟩:=h;refine sOE (nd (show (0:Int)≤w64 ((↑(List.length (List.map zt a)):Int) - 1) from by simpa only [nm] using R) (nd (show Int.toNat (w64 ((↑(List.length (List.map zt a)):Int) - 1)) < List.length (List.map zt a) from by simpa only [nm] using V) oN)) [85] [(22,AV.ep 16 0 (0+Int.toNat (w64 ((↑(List.length (List.map zt a)):Int) - 1))) 0)] [(22,AV.ep 16 0 (Int.toNat (w64 ((↑(List.length a):Int) - 1))) 0)] ?_;obtain ⟨S,h⟩:=h;obtain ⟨a1,h⟩:=h;obtain ⟨t,J,h⟩:=h;refine sO (el (zbM zt a (Int.toNat (w64 ((↑(List.length a):Int) - 1))) _ (zae _) S) (el (zbM zt a (Int.toNat (w64 ((↑(List.length a):Int) - 1))) _ (zae _) a1) (ca J oN))) [] [(3,zA t)] ?_;obtain ⟨N,h⟩:=h;rcases eft (gd a (w64 ((↑(List.length a):Int) - 1))).null with s | s
    ·have h:=h.1 s;obtain ⟨a3,h⟩:=h;refine rOE (el (zbM zt a (Int.toNat (w64 ((↑(List.length a):Int) - 1))) _ (zae _) N) (g1 s 2223 (el (zbM zt a (Int.toNat (w64 ((↑(List.length a):Int) - 1))) _ (zae _) (a3 s)) oN))) [22] [(16,.own 195 (List.set (List.map zt a) (Int.toNat (w64 ((↑(List.length a):Int) - 1))) (FV.agg [FV.sl (List.map za (gd a (w64 ((↑(List.length a):Int) - 1))).first),FV.sl (List.map za (gd a (w64 ((↑(List.length a):Int) - 1))).last),FV.pv (Value.bool true)])))] [(16,oL 195 zt (List.set a (Int.toNat (w64 ((↑(List.length a):Int) - 1))) { first:=(gd a (w64 ((↑(List.length a):Int) - 1))).first,last:=(gd a (w64 ((↑(List.length a):Int) - 1))).last,null:=true }))] ?_;exact jD (t.sets,t.follow,(List.set a (Int.toNat (w64 ((↑(List.length a):Int) - 1))) { first:=(gd a (w64 ((↑(List.length a):Int) - 1))).first,last:=(gd a (w64 ((↑(List.length a):Int) - 1))).last,null:=true })) [] h
    ·have h:=h.2 s;obtain ⟨a2,h⟩:=h;refine rOE (el (zbM zt a (Int.toNat (w64 ((↑(List.length a):Int) - 1))) _ (zae _) N) (g1 s 2223 (el (zbM zt a (Int.toNat (w64 ((↑(List.length a):Int) - 1))) _ (zae _) (a2 s)) oN))) [22] [(16,.own 195 (List.set (List.map zt a) (Int.toNat (w64 ((↑(List.length a):Int) - 1))) (FV.agg [FV.sl (List.map za (gd a (w64 ((↑(List.length a):Int) - 1))).first),FV.sl (List.map za (gd a (w64 ((↑(List.length a):Int) - 1))).last),FV.pv (Value.bool (x.Lo == 0))])))] [(16,oL 195 zt (List.set a (Int.toNat (w64 ((↑(List.length a):Int) - 1))) { first:=(gd a (w64 ((↑(List.length a):Int) - 1))).first,last:=(gd a (w64 ((↑(List.length a):Int) - 1))).last,null:=x.Lo == 0 }))] ?_;exact jD (t.sets,t.follow,(List.set a (Int.toNat (w64 ((↑(List.length a):Int) - 1))) { first:=(gd a (w64 ((↑(List.length a):Int) - 1))).first,last:=(gd a (w64 ((↑(List.length a):Int) - 1))).last,null:=x.Lo == 0 })) [] h
   ·refine kD ?_;exact jD (o.sets,o.follow,a) [] h
theorem ze6 (x:zf) (b:zy) (res:zu) (fin:zy)
 (h:(ck (x.Kind == 2) (∃ r0:zu,∃ o:zy,zc2 x.Set b r0 o∧(res=r0∧fin=o)) (ck (x.Kind == 3) (∃ (v:List zb→List (List Int)→List Int→List Int→Bool→Int→Prop) (H:List zb→List (List Int)→List Int→List Int→Bool→Int→Nat),v b.sets b.follow ([]) ([]) true 0∧(∀ (m:List zb) (j:List (List Int)) (f:List Int) (k:List Int) (l:Bool) (u:Int),v m j f k l u→(ck (decide (u < (↑(List.length x.Kids):Int))) ((0≤u)∧u < ↑(List.length x.Kids)∧(∃ I:zu,∃ V:zy,zay (gd x.Kids u) ({ sets:=m,follow:=j }) I V∧(∃ p:zu,∃ y:zy,zaY ({ first:=f,last:=k,null:=l }) I V p y∧(v y.sets y.follow p.first p.last p.null (w64 (u+1))∧H y.sets y.follow p.first p.last p.null (w64 (u+1)) < H m j f k l u)))) (res=({ first:=f,last:=k,null:=l })∧fin=({ sets:=m,follow:=j }))))) (ck (x.Kind == 4) (∃ (w:List zb→List (List Int)→List Int→List Int→Bool→Int→Prop) (E:List zb→List (List Int)→List Int→List Int→Bool→Int→Nat),w b.sets b.follow ([]) ([]) false 0∧(∀ (g:List zb) (d:List (List Int)) (c:List Int) (e:List Int) (a:Bool) (t:Int),w g d c e a t→(ck (decide (t < (↑(List.length x.Kids):Int))) ((0≤t)∧t < ↑(List.length x.Kids)∧(∃ n:zu,∃ A:zy,zay (gd x.Kids t) ({ sets:=g,follow:=d }) n A∧(∃ s:List Int,zaq c n.first s∧(∃ r:List Int,zaq e n.last r∧(w A.sets A.follow s r (a || n.null) (w64 (t+1))∧E A.sets A.follow s r (a || n.null) (w64 (t+1)) < E g d c e a t))))) (res=({ first:=c,last:=e,null:=a })∧fin=({ sets:=g,follow:=d }))))) (ck (x.Kind == 5) (∃ B:zu,∃ F:zy,zcb x b B F∧(res=B∧fin=F)) (res=({ first:=[],last:=[],null:=true })∧fin=b)))))):zay x b res fin:=by
 have kk:=cfOk [37,68] 75;refine fE kk Tryz.func139 [(1,.ptr 3 0),(3,zA b),(4,zD x)] ?_;refine sO oN [4] [(10,.ptr 20 0),(13,.ptr 26 0),(20,zD x),(26,.agg [oL 3 za ([]),oL 3 za ([]),vB false])] ?_;refine qD ?_;refine sO oN [] [(40,vi x.Kind)] ?_;refine bD (id:=0) ?_;refine sO oN [] [(43,vB (x.Kind == 2))] ?_;refine cH 14 h (fun a8 h=>?_) (fun a8 h=>?_)
 ·obtain ⟨r0,o,a9,h⟩:=h;refine sO (ca a9 oN) [1,10,20,40,43] [(3,zA o),(26,zK r0)] ?_;refine tD ?_;obtain ⟨N,Q⟩:=h;subst res fin;exact (endQ []).1
 ·refine sO oN [43] [(61,vB (x.Kind == 3))] ?_;refine cH 20 h (fun b0 h=>?_) (fun b0 h=>?_)
  ·refine sO oN [40,61] [(16,.ptr 32 0),(32,.agg [oL 3 za ([]),oL 3 za ([]),vB true])] ?_;refine qD ?_;refine sV oN [10,20] (List.length (List.map zc x.Kids)) (List.length x.Kids) (fun q=>[(73,vL zc x.Kids),(76,vi ((↑(q):Int))),(79,vi 0)]) ?_;refine bD (id:=1) ?_;obtain ⟨v,H,J,O⟩:=h;refine loE [] (u6 fun m j f k l u=>[(3,.agg [oL 52 zm m,oL 27 zj j]),(32,.agg [vL za f,vL za k,vB l]),(79,vi u)]) (u6 v) (u6 H) (b.sets,b.follow,([]),([]),true,0) [(32,0),(32,1)] J ?_;rintro ⟨m,j,f,k,l,u⟩ hi;have h:=O m j f k l u hi;refine sO oN [] [(82,vB (decide (u < (↑(List.length x.Kids):Int))))] ?_;refine qD ?_;refine cH 27 h (fun a2 h=>?_) (fun a2 h=>?_)
   ·refine kW [82] ?_;refine qD ?_;refine bD (id:=2) ?_;obtain ⟨a7,h⟩:=h;obtain ⟨b3,h⟩:=h;refine sO (xo zc (zL _) a7 b3 oN) [] [(22,.ptr 44 0),(44,zD (gd x.Kids u))] ?_;obtain ⟨I,V,a3,h⟩:=h;obtain ⟨p,y,a5,h⟩:=h;refine rO (ca a3 (ca a5 oN)) [22,44] [(3,zA y),(32,zK p)] ?_;show Sem _ _ _ _ _;refine rO oN [] [(79,vi (w64 (u+1)))] ?_;exact lD (y.sets,y.follow,p.first,p.last,p.null,(w64 (u+1))) [] h
   ·refine xD (i:=1) ?_;show Sem _ _ _ _ _;refine wkD [1,73,76,79,82] ?_;refine sO oN [16,32] [(26,.agg [vL za f,vL za k,vB l])] ?_;refine tD ?_;obtain ⟨N,Q⟩:=h;subst res fin;exact (endQ []).1
  ·refine sO oN [61] [(115,vB (x.Kind == 4))] ?_;refine cH 38 h (fun a0 h=>?_) (fun a0 h=>?_)
   ·refine sO oN [40,115] [(25,.ptr 50 0),(50,.agg [oL 3 za ([]),oL 3 za ([]),vB false])] ?_;refine qD ?_;refine sV oN [10,20] (List.length (List.map zc x.Kids)) (List.length x.Kids) (fun q=>[(124,vL zc x.Kids),(127,vi ((↑(q):Int))),(130,vi 0)]) ?_;refine bD (id:=3) ?_;obtain ⟨w,E,M,R⟩:=h;refine loE [] (u6 fun g d c e a t=>[(3,.agg [oL 52 zm g,oL 27 zj d]),(50,.agg [vL za c,vL za e,vB a]),(130,vi t)]) (u6 w) (u6 E) (b.sets,b.follow,([]),([]),false,0) [(50,0),(50,1)] M ?_;rintro ⟨g,d,c,e,a,t⟩ hi;have h:=R g d c e a t hi;refine sO oN [] [(133,vB (decide (t < (↑(List.length x.Kids):Int))))] ?_;refine qD ?_;refine cH 44 h (fun a1 h=>?_) (fun a1 h=>?_)
    ·refine kW [133] ?_;refine qD ?_;refine bD (id:=4) ?_;obtain ⟨b2,h⟩:=h;obtain ⟨b1,h⟩:=h;refine sO (xo zc (zL _) b2 b1 oN) [] [(31,.ptr 62 0),(62,zD (gd x.Kids t))] ?_;obtain ⟨n,A,a4,h⟩:=h;refine sO (ca a4 oN) [31,62] [(3,zA A),(34,.ptr 68 0),(68,zK n)] ?_;obtain ⟨s,U,h⟩:=h;obtain ⟨r,S,h⟩:=h;refine rM [34,68] [(50,.agg [vL za s,vL za r,vB (a || n.null)])] ?_ (fun X=>?_)
     ·show Sem _ _ _ _ _;refine rO oN [] [(130,vi (w64 (t+1)))] ?_;exact lD (A.sets,A.follow,s,r,(a || n.null),(w64 (t+1))) [] h
     ·rcases eft (a) with D | D
      ·refine rO (ca U (ca S (g1 D 223 oN))) [34,68] [(50,.agg [vL za s,vL za r,vB true])] ?_;exact kcast (by try rw [D];kernel_rfl) X
      ·refine rO (ca U (ca S (g1 D 223 oN))) [34,68] [(50,.agg [vL za s,vL za r,vB n.null])] ?_;exact kcast (by try rw [D];kernel_rfl) X
    ·refine xD (i:=3) ?_;show Sem _ _ _ _ _;refine wkD [1,124,127,130,133] ?_;refine sO oN [25,50] [(26,.agg [vL za c,vL za e,vB a])] ?_;refine tD ?_;obtain ⟨N,Q⟩:=h;subst res fin;exact (endQ []).1
   ·refine sO oN [40,115] [(208,vB (x.Kind == 5))] ?_;refine cH 69 h (fun a6 h=>?_) (fun a6 h=>?_)
    ·obtain ⟨B,F,Y,h⟩:=h;refine sO (ca Y oN) [1,10,20,208] [(3,zA F),(26,zK B)] ?_;refine tD ?_;obtain ⟨N,Q⟩:=h;subst res fin;exact (endQ []).1
    ·refine kW [1,10,20,208] ?_;refine sO oN [] [(26,.agg [oL 3 za ([]),oL 3 za ([]),vB true])] ?_;refine tD ?_;obtain ⟨N,Q⟩:=h;subst res fin;exact (endQ [(26,0),(26,1)]).1
theorem W_place_Of (x:zf) (res:zao) (res_1:Int)
 (h:(∃ r0:Bool,zcL x r0∧(ck (!r0) (res=({ Sets:=[],First:=[],Last:=[],Follow:=[],Null:=false })∧res_1=1) (∃ a:zu,∃ o:zy,zay x ({ sets:=[],follow:=[] }) a o∧(res=({ Sets:=o.sets,First:=a.first,Last:=a.last,Follow:=o.follow,Null:=a.null })∧res_1=0))))):zhB x res res_1:=by
 have kk:=cfOk [] 30;refine fE kk Tryz.func120 [(1,zD x)] ?_;refine sO oN [1] [(4,.ptr 8 0),(7,.ptr 14 0),(8,zD x),(14,.agg [oL 52 zm ([]),oL 3 za ([]),oL 3 za ([]),oL 27 zj ([]),vB false])] ?_;refine qD ?_;obtain ⟨r0,d,h⟩:=h;refine sO (ca d oN) [] [(25,vB (!r0))] ?_;refine cH 8 h (fun f h=>?_) (fun f h=>?_)
 ·refine sO oN [4,8,25] [(10,vi 1),(14,.agg [oL 52 zm ([]),oL 3 za ([]),oL 3 za ([]),oL 27 zj ([]),vB false])] ?_;refine tD ?_;obtain ⟨e,b⟩:=h;subst res res_1;exact (endD [] (.tup [.agg [.f (FV.sl (List.take (List.length (List.map zm [])) (List.drop 0 (List.map zm [])))),.f (FV.sl (List.take (List.length (List.map za [])) (List.drop 0 (List.map za [])))),.f (FV.sl (List.take (List.length (List.map za [])) (List.drop 0 (List.map za [])))),.f (FV.sl (List.take (List.length (List.map zj [])) (List.drop 0 (List.map zj [])))),vB false],vi 1]) []).1
 ·refine kW [25] ?_;refine sO oN [] [(13,.ptr 68 0),(68,.agg [oL 52 zm ([]),oL 27 zj ([])])] ?_;obtain ⟨a,o,c,h⟩:=h;refine sO (ca c oN) [4,8] [(16,.ptr 32 0),(32,zK a),(68,zA o)] ?_;refine sOE oN [13,16,32,68] [(10,vi 0),(14,.agg [.f (FV.sl (List.take (List.length (List.map zm o.sets)) (List.drop 0 (List.map zm o.sets)))),vL za a.first,vL za a.last,.f (FV.sl (List.take (List.length (List.map zj o.follow)) (List.drop 0 (List.map zj o.follow)))),vB a.null])] [(10,vi 0),(14,.agg [vL zm o.sets,vL za a.first,vL za a.last,vL zj o.follow,vB a.null])] ?_;refine tD ?_;obtain ⟨e,b⟩:=h;subst res res_1;exact (endQ []).1
theorem zcr (s0:(List Int)) (v:Int) (res:Int)
 (h:(∃ (a:Int→Prop) (b:Int→Nat),a 0∧(∀ (t8:Int),a t8→(ck (decide (t8 < (↑(List.length s0):Int))) ((0≤t8)∧t8 < ↑(List.length s0)∧(ck (v == gd s0 t8) (res=t8) (a (w64 (t8+1))∧b (w64 (t8+1)) < b t8))) (res=(-1)))))):zbz s0 v res:=by
 have kk:=cfOk [17] 19;refine fE kk Tryz.func140 [(1,vL za s0),(4,vi v)] ?_;refine sO oN [] [] ?_;refine qD ?_;refine sV oN [] (List.length (List.map za s0)) (List.length s0) (fun q=>[(22,vi ((↑(q):Int))),(25,vi 0)]) ?_;refine bD (id:=0) ?_;obtain ⟨a,b,c,d⟩:=h;refine loE [] (fun t8=>[(25,vi t8)]) a b 0 [] c ?_;rintro t8 hi;have h:=d t8 hi;refine sO oN [] [(28,vB (decide (t8 < (↑(List.length s0):Int))))] ?_;refine qD ?_;refine cH 9 h (fun g h=>?_) (fun g h=>?_)
 ·refine kW [28] ?_;refine qD ?_;refine bD (id:=1) ?_;refine sO oN [] [(16,vi t8)] ?_;obtain ⟨j,h⟩:=h;obtain ⟨f,h⟩:=h;refine sO (xo za rfl j f oN) [] [(49,vB (v == gd s0 t8))] ?_;refine cH 16 h (fun e h=>?_) (fun e h=>?_)
  ·refine sO oN [1,4,16,22,25,49] [(13,vi t8)] ?_;refine tD ?_;subst h;exact (endQ []).1
  ·refine kW [16,49] ?_;refine rO oN [] [(25,vi (w64 (t8+1)))] ?_;exact lD (w64 (t8+1)) [] h
 ·refine xD (i:=0) ?_;show Sem _ _ _ _ _;refine wkD [1,4,22,25,28] ?_;refine sO oN [] [(13,vi (-1))] ?_;refine tD ?_;subst h;exact (endQ []).1
theorem zdE (s0:(List Int)) (v:Int) (res:Bool)
 (h:(∃ r0:Int,zbz s0 v r0∧(res=(decide (r0≥0))))):zaC s0 v res:=by
 have kk:=cfOk [] 9;refine fE kk Tryz.func123 [(1,vL za s0),(4,vi v)] ?_;refine sO oN [] [] ?_;obtain ⟨r0,a,h⟩:=h;refine sO (ca a oN) [1,4] [(13,vB (decide (r0≥0)))] ?_;refine tD ?_;subst h;exact (endQ []).1
theorem zh3 (k:Int) (v:zao) (b:ByteArray) (a:Int) (res:Bool) (fin:zao) (c:ByteArray) (fin_2:Int)
 (h:(0≤k)∧k < ↑(List.length v.Sets)∧(0≤a)∧a < ↑(ByteArray.size b)∧(∃ r0:Bool,zg8 (gd v.Sets k) (w64 (↑(UInt8.toNat (byteAt b a)):Int)) r0∧(res=r0∧fin=v∧c=b∧fin_2=a))):zc5 k v b a res fin c fin_2:=by
 have kk:=cfOk [] 16;refine fE kk Tryz.func121 [(1,vi k),(3,zbx v),(4,.ptr 3 0),(6,vS b),(7,.ptr 6 0),(9,vi a),(10,.ptr 9 0)] ?_;refine sO oN [] [] ?_;obtain ⟨h0,h⟩:=h;obtain ⟨h1,h⟩:=h;obtain ⟨h2,h⟩:=h;obtain ⟨h3,h⟩:=h;obtain ⟨r0,d,h⟩:=h;refine sO (xo zm (zbH _) h0 h1 (nd h2 (op (.y (byteAt b a)) (byte_ok b a h2 h3) (ca d oN)))) [1,4,7,10] [(16,vB r0)] ?_;refine tD ?_;obtain ⟨f,i,e,g⟩:=h;subst res fin c fin_2;exact (endQ []).1
theorem W_split_ahead (x:zf) (s0:ByteArray) (res:(List Bool))
 (h:(∃ r0:zao,∃ a5:Int,zhB x r0 a5∧(∃ (I:ByteArray→List zb→List Int→List Int→List (List Int)→Bool→List Bool→List Int→Int→Prop) (V:ByteArray→List zb→List Int→List Int→List (List Int)→Bool→List Bool→List Int→Int→Nat),I s0 r0.Sets r0.First r0.Last r0.Follow r0.Null ([r0.Null]) r0.First 0∧(∀ (Q:ByteArray) (v:List zb) (s:List Int) (w:List Int) (n:List (List Int)) (u:Bool) (H:List Bool) (m:List Int) (F:Int),I Q v s w n u H m F→(ck (decide (F < (↑(ByteArray.size s0):Int))) (∃ (N:ByteArray→List zb→List Int→List Int→List (List Int)→Bool→Int→List Int→Bool→Int→Prop) (X:ByteArray→List zb→List Int→List Int→List (List Int)→Bool→Int→List Int→Bool→Int→Nat),N Q v s w n u F ([]) false 0∧(∀ (A:ByteArray) (k:List zb) (e:List Int) (j:List Int) (d:List (List Int)) (g:Bool) (a0:Int) (a:List Int) (y:Bool) (c:Int),N A k e j d g a0 a y c→(ck (decide (c < (↑(List.length m):Int))) (∃ U:ByteArray→List zb→List Int→List Int→List (List Int)→Bool→Int→List Int→Bool→Prop,(∀ (D:ByteArray) (p:List zb) (l:List Int) (r:List Int) (f:List (List Int)) (o:Bool) (R:Int) (t:List Int) (B:Bool),U D p l r f o R t B→(N D p l r f o R t B (w64 (c+1))∧X D p l r f o R t B (w64 (c+1)) < X A k e j d g a0 a y c))∧(0≤c)∧c < ↑(List.length m)∧(∃ Y:Bool,∃ b:zao,∃ M:ByteArray,∃ J:Int,zc5 (gd m c) ({ Sets:=k,First:=e,Last:=j,Follow:=d,Null:=g }) A a0 Y b M J∧(ck (Y) ((0≤gd m c)∧gd m c < ↑(List.length b.Follow)∧((List.length a+List.length (gd b.Follow (gd m c))) * 8≤2 ^ 47)∧(ck (y) (U M b.Sets b.First b.Last b.Follow b.Null J (a++gd b.Follow (gd m c)) true) (∃ S:Bool,zaC b.Last (gd m c) S∧U M b.Sets b.First b.Last b.Follow b.Null J (a++gd b.Follow (gd m c)) S))) (U M b.Sets b.First b.Last b.Follow b.Null J a y)))) (∃ E:List Int,zaq a ([]) E∧((List.length H+1) * 1≤2 ^ 47)∧(I A k e j d g (H++[y]) E (w64 (F+1))∧V A k e j d g (H++[y]) E (w64 (F+1)) < V Q v s w n u H m F))))) (res=H)))))):zdh x s0 res:=by
 have kk:=cfOk [62] 63;refine fE kk Tryz.func87 [(1,zD x),(4,vS s0)] ?_;refine sO oN [1,4] [(7,.ptr 14 0),(10,.ptr 20 0),(14,zD x),(20,vS s0)] ?_;obtain ⟨r0,a5,b9,h⟩:=h;refine sO (ca b9 oN) [7,14] [(16,.ptr 32 0),(32,zbx r0)] ?_;refine sOE oN [] [(22,.own 4 ([FV.pv (Value.bool r0.Null)]))] [(22,oL 4 zY ([r0.Null]))] ?_;refine sO oN [] [(25,vL za r0.First)] ?_;refine qD ?_;refine sO oN [] [(79,vi ((↑(ByteArray.size s0):Int))),(82,vi 0)] ?_;refine bD (id:=0) ?_;obtain ⟨I,V,a2,a4⟩:=h;refine loE [] (u9 fun Q v s w n u H m F=>[(20,vS Q),(22,oL 4 zY H),(25,vL za m),(32,.agg [vL zm v,vL za s,vL za w,vL zj n,vB u]),(82,vi F)]) (u9 I) (u9 V) (s0,r0.Sets,r0.First,r0.Last,r0.Follow,r0.Null,([r0.Null]),r0.First,0) [] a2 ?_;rintro ⟨Q,v,s,w,n,u,H,m,F⟩ hi;have h:=a4 Q v s w n u H m F hi;refine sO oN [] [(85,vB (decide (F < (↑(ByteArray.size s0):Int))))] ?_;refine qD ?_;refine cH 28 h (fun a6 h=>?_) (fun a6 h=>?_)
 ·refine kW [85] ?_;refine qD ?_;refine bD (id:=1) ?_;refine sO oN [] [(28,.ptr 56 0),(56,vi F)] ?_;refine sO oN [28] [(31,.clo 121 [.ptr 32 0,.ptr 20 0,.ptr 56 0])] ?_;refine sO oN [] [(34,oL 3 za ([]))] ?_;refine sO oN [] [(37,vB false)] ?_;refine qD ?_;refine sV oN [25] (List.length (List.map za m)) (List.length m) (fun q=>[(94,vL za m),(97,vi ((↑(q):Int))),(100,vi 0)]) ?_;refine bD (id:=2) ?_;obtain ⟨N,X,a1,a3⟩:=h;refine loE [] (u10 fun A k e j d g a0 a y c=>[(20,vS A),(32,.agg [vL zm k,vL za e,vL za j,vL zj d,vB g]),(34,oL 3 za a),(37,vB y),(56,vi a0),(100,vi c)]) (u10 N) (u10 X) (Q,v,s,w,n,u,F,([]),false,0) [] a1 ?_;rintro ⟨A,k,e,j,d,g,a0,a,y,c⟩ hi;have h:=a3 A k e j d g a0 a y c hi;refine sO oN [] [(103,vB (decide (c < (↑(List.length m):Int))))] ?_;refine qD ?_;refine cH 34 h (fun b2 h=>?_) (fun b2 h=>?_)
  ·refine kW [103] ?_;obtain ⟨U,a7,h⟩:=h;refine sjE (u9 U) [] (u9 fun D p l r f o R t B=>[(20,vS D),(32,.agg [vL zm p,vL za l,vL za r,vL zj f,vB o]),(34,oL 3 za t),(37,vB B),(56,vi R)]) ?_ ?_
   ·rintro ⟨D,p,l,r,f,o,R,t,B⟩ hj;have h:=a7 D p l r f o R t B hj;refine rO oN [] [(100,vi (w64 (c+1)))] ?_;exact lD (D,p,l,r,f,o,R,t,B,(w64 (c+1))) [] h
   ·refine bD (id:=3) ?_;obtain ⟨b8,h⟩:=h;obtain ⟨b3,h⟩:=h;refine sO (xo za rfl b8 b3 oN) [] [(43,vi (gd m c))] ?_;obtain ⟨Y,b,M,J,a8,h⟩:=h;refine sO (ca a8 oN) [] [(20,vS M),(32,zbx b),(56,vi J),(118,vB Y)] ?_;refine cH 39 h (fun b0 h=>?_) (fun b0 h=>?_)
    ·obtain ⟨b4,h⟩:=h;obtain ⟨b5,h⟩:=h;obtain ⟨b6,h⟩:=h;refine sOE (xo zj rfl b4 b5 (nd (show (0:Nat)=(0:Nat)∧List.length (List.map za a)=List.length (List.map za a) from ⟨rfl,rfl⟩) (nd (show (List.length (List.map za a)+List.length (List.map za (gd b.Follow (gd m c)))) * (8:Nat)≤(2:Nat) ^ (47:Nat) from by simpa only [nm] using b6) (nd (show List.all (List.map za (gd b.Follow (gd m c))) (FV.fits (1:Nat))=true from by first | exact zgG _ | exact keysenc_i64 _ | rfl | simp [isByteF,FV.fits,FV.size,FV.cells,FV.one,za]) oN)))) [118] [(34,.own 3 (List.map za a++List.map za (gd b.Follow (gd m c))))] [(34,oL 3 za (a++gd b.Follow (gd m c)))] ?_;rcases eft (y) with O | O
     ·have h:=h.1 O;refine rO (g1 O 22223 oN) [43] [(37,vB true)] ?_;exact jD (M,b.Sets,b.First,b.Last,b.Follow,b.Null,J,(a++gd b.Follow (gd m c)),true) [] h
     ·have h:=h.2 O;obtain ⟨S,b1,h⟩:=h;refine rO (g1 O 2222 (ca b1 (g1 O 3 oN))) [43] [(37,vB S)] ?_;exact jD (M,b.Sets,b.First,b.Last,b.Follow,b.Null,J,(a++gd b.Follow (gd m c)),S) [] h
    ·refine kD ?_;exact jD (M,b.Sets,b.First,b.Last,b.Follow,b.Null,J,a,y) [] h
  ·refine xD (i:=2) ?_;show Sem _ _ _ _ _;refine wkD [31,56,94,97,100,103] ?_;obtain ⟨E,a9,h⟩:=h;refine sO (ca (Eq.mp (by unfold zaq;(try simp only [List.drop_zero,List.take_length]);first | done | simp only [nm,enq]:zaq a ([]) E=CallE Tryz.prog 124 [.f (FV.sl (List.take (List.length (List.map za a)) (List.drop 0 (List.map za a)))),.f (FV.sl [])] [] (vL za E) []) a9) oN) [34] [(25,vL za E)] ?_;obtain ⟨b7,h⟩:=h;refine rOE (apo zY H b7 oN) [37] [(22,.own 4 (List.map zY H++[FV.pv (Value.bool y)]))] [(22,oL 4 zY (H++[y]))] ?_;show Sem _ _ _ _ _;refine rO oN [] [(82,vi (w64 (F+1)))] ?_;exact lD (A,k,e,j,d,g,(H++[y]),E,(w64 (F+1))) [] h
 ·refine xD (i:=0) ?_;show Sem _ _ _ _ _;refine wkD [10,16,20,25,32,79,82,85] ?_;refine sO oN [22] [(13,oL 4 zY H)] ?_;refine tD ?_;subst h;exact (endQ []).1
theorem W_split_Ahead (x:zf) (s0:ByteArray) (res:(List Bool))
 (h:(∃ r0:Bool,zcL x r0∧(ck (!r0 || decide ((↑(ByteArray.size s0):Int) > 10000)) (res=([])) (∃ a:List Bool,zdh x s0 a∧(res=a))))):zeu x s0 res:=by
 have kk:=cfOk [] 16;refine fE kk Tryz.func85 [(1,zD x),(4,vS s0)] ?_;refine sO oN [1] [(7,.ptr 14 0),(14,zD x)] ?_;refine qD ?_;obtain ⟨r0,d,h⟩:=h;refine sM [] [(37,vB (!r0 || decide ((↑(ByteArray.size s0):Int) > 10000)))] ?_ (fun c=>?_)
 ·refine cH 12 h (fun f h=>?_) (fun f h=>?_)
  ·refine sO oN [4,7,14,37] [(13,oL 4 zY ([]))] ?_;refine tD ?_;subst h;exact (endQ []).1
  ·refine kW [37] ?_;obtain ⟨a,e,h⟩:=h;refine sO (ca e oN) [4,7,14] [(13,oL 4 zY a)] ?_;refine tD ?_;subst h;exact (endQ []).1
 ·rcases eft (!r0) with b | b
  ·refine sO (ca d (g1 b 2223 oN)) [] [(37,vB true)] ?_;exact Sem.cast (by try rw [b];kernel_rfl) c
  ·refine sO (ca d (g1 b 2223 oN)) [] [(37,vB (decide ((↑(ByteArray.size s0):Int) > 10000)))] ?_;exact Sem.cast (by try rw [b];kernel_rfl) c
theorem zjy (x:zf) (res:zf)
 (h:(∃ J2:List zf→Prop,(∀ (a:List zf),J2 a→(∃ (e:List zf→Int→Prop) (g:List zf→Int→Nat),e ([]) 0∧(∀ (b:List zf) (d:Int),e b d→(ck (decide (d < (↑(List.length a):Int))) ((0≤d)∧d < ↑(List.length a)∧(∃ c:zf,zcs (gd a d) c∧((List.length b+1) * 80≤2 ^ 47)∧(e (b++[c]) (w64 (d+1))∧g (b++[c]) (w64 (d+1)) < g b d))) (res=({ Kind:=x.Kind,Set:=x.Set,Lo:=x.Lo,Hi:=x.Hi,Kids:=b }))))))∧(ck (x.Kind == 3) (∃ f:List zf,zba x.Kids f∧J2 f) (J2 x.Kids)))):zcs x res:=by
 have kk:=cfOk [28] 29;refine fE kk Tryz.func88 [(1,zD x)] ?_;refine sO oN [1] [(4,.ptr 8 0),(7,.ptr 14 0),(8,zD x),(14,.agg [vi 0,vI .u64 0,vI .u64 0,vI .u64 0,vI .u64 0,vi 0,vi 0,oL 55 zc ([])])] ?_;obtain ⟨J2,s,h⟩:=h;refine sjE J2 [] (fun a=>[(8,.agg [vi x.Kind,vI .u64 (zb.e0 x.Set),vI .u64 (zb.e1 x.Set),vI .u64 (zb.e2 x.Set),vI .u64 (zb.e3 x.Set),vi x.Lo,vi x.Hi,vL zc a])]) ?_ ?_
 ·rintro a hj;have h:=s a hj;refine sO oN [] [(10,oL 55 zc ([]))] ?_;refine qD ?_;refine sV oN [] (List.length (List.map zc a)) (List.length a) (fun q=>[(43,vL zc a),(46,vi ((↑(q):Int))),(49,vi 0)]) ?_;refine bD (id:=0) ?_;obtain ⟨e,g,j,k⟩:=h;refine loE [] (u2 fun b d=>[(10,oL 55 zc b),(49,vi d)]) (u2 e) (u2 g) (([]),0) [] j ?_;rintro ⟨b,d⟩ hi;have h:=k b d hi;refine sO oN [] [(52,vB (decide (d < (↑(List.length a):Int))))] ?_;refine qD ?_;refine cH 17 h (fun l h=>?_) (fun l h=>?_)
  ·refine kW [52] ?_;refine qD ?_;refine bD (id:=1) ?_;obtain ⟨t,h⟩:=h;obtain ⟨p,h⟩:=h;refine sO (xo zc (zL _) t p oN) [] [(16,.ptr 32 0),(32,zD (gd a d))] ?_;obtain ⟨c,o,h⟩:=h;obtain ⟨r,h⟩:=h;refine rOE (ca o (apo zc b r oN)) [16,32] [(10,.own 55 (List.map zc b++[FV.agg [FV.pv (Value.int IntKind.i64 c.Kind),FV.pv (Value.int IntKind.u64 (zb.e0 c.Set)),FV.pv (Value.int IntKind.u64 (zb.e1 c.Set)),FV.pv (Value.int IntKind.u64 (zb.e2 c.Set)),FV.pv (Value.int IntKind.u64 (zb.e3 c.Set)),FV.pv (Value.int IntKind.i64 c.Lo),FV.pv (Value.int IntKind.i64 c.Hi),FV.sl (List.map zc c.Kids)]]))] [(10,oL 55 zc (b++[c]))] ?_;show Sem _ _ _ _ _;refine rO oN [] [(49,vi (w64 (d+1)))] ?_;exact lD ((b++[c]),(w64 (d+1))) [] h
  ·refine xD (i:=0) ?_;show Sem _ _ _ _ _;refine wkD [43,46,49,52] ?_;refine sV oN [10] (show AV from .f (FV.sl (List.take (List.length (List.map zc b)) (List.drop (0:Nat) (List.map zc b))))) (vL zc b) (fun q=>[(8,.agg [vi x.Kind,vI .u64 (zb.e0 x.Set),vI .u64 (zb.e1 x.Set),vI .u64 (zb.e2 x.Set),vI .u64 (zb.e3 x.Set),vi x.Lo,vi x.Hi,q])]) ?_;refine sO oN [4,8] [(14,.agg [vi x.Kind,vI .u64 (zb.e0 x.Set),vI .u64 (zb.e1 x.Set),vI .u64 (zb.e2 x.Set),vI .u64 (zb.e3 x.Set),vi x.Lo,vi x.Hi,vL zc b])] ?_;refine tD ?_;subst h;exact (endQ []).1
 ·refine sO oN [] [(25,vB (x.Kind == 3))] ?_;refine cH 8 h (fun m h=>?_) (fun m h=>?_)
  ·obtain ⟨f,n,h⟩:=h;refine rO (ca n oN) [25] [(8,.agg [vi x.Kind,vI .u64 (zb.e0 x.Set),vI .u64 (zb.e1 x.Set),vI .u64 (zb.e2 x.Set),vI .u64 (zb.e3 x.Set),vi x.Lo,vi x.Hi,vL zc f])] ?_;exact jD f [] h
  ·refine kD ?_;exact jD x.Kids [] h
theorem zf0 (l:(List Int)) (res:(List Int))
 (h:((0:Int)≤0∧0≤(↑(List.length l):Int)∧(↑(List.length l):Int) < 2 ^ 40∧(↑(1:Nat):Int) * (↑(List.length l):Int)≤2 ^ 47)∧(zdj l∧(List.length l < 1099511627776∧∃ (b:Nat→List Int→Prop),b 0 (List.replicate 0 0)∧(∀ (i:Nat) (y:Int),i < List.length l→l[List.length l - 1 - i]?=some y→∀ (a:List Int),b i a→((List.length a+1) * 1≤2 ^ 47)∧b (i+1) (a++[y]))∧(∀ (a:List Int),b (List.length l) a→(res=a))))):zb6 l res:=by
 have kk:=cfOk [] 18;refine fE kk Tryz.func89 [(1,vL zF l)] ?_;refine sO oN [] [] ?_;obtain ⟨h0,h⟩:=h;refine sOE (nd (show (0:Int)≤(0:Int)∧(0:Int)≤(↑(List.length (List.map zF l)):Int)∧(↑(List.length (List.map zF l)):Int) < (2:Int) ^ (40:Nat)∧(↑(1:Nat):Int) * (↑(List.length (List.map zF l)):Int)≤(2:Int) ^ (47:Nat) from by simpa only [nm] using h0) oN) [] [(10,.ptr 20 0),(20,.own 5 (List.replicate (Int.toNat 0) (FV.pv (Value.int IntKind.u8 0))))] [(10,.ptr 20 0),(20,oL 5 zF (List.replicate 0 0))] ?_;refine qD ?_;obtain ⟨j,h⟩:=h;refine sO (ca j oN) [1] [(31,.clo 145 [.fp (fL zF l) 0])] ?_;refine bD (id:=0) ?_;obtain ⟨k,b,e,g,f⟩:=h;refine Sem.range (α:=Int) (σ:=List Int) (c:=(cf [] 18)) (by rfl) (tg:=10) (p0:=11) (p1:=12) (by kernel_rfl) (xs:=l) (by kernel_rfl) back_ok_145 (ey:=(fun (y:Int)=>(.pv (.int .u8 y):FV))) (sz:=1) (fun y=>rfl) (fun y=>by rfl) (by omega) [(10,.ptr 20 0)] [20] (fun a=>[oL 5 zF a]) (fun (i:Nat) (q:List Int)=>b i q) (List.replicate 0 0) ((wkE (G':=[(10,.ptr 20 0),(20,oL 5 zF (List.replicate 0 0))]) [] [10,20] (by kernel_rfl)).trans (Wk.pick [10,20] (by kernel_rfl))) e (by rfl) (fun q=>by rfl) (by rfl) (by decide) (fun q q'=>by rfl) (Nat.le_of_ble_eq_true rfl) (Nat.le_of_ble_eq_true rfl) (by decide) ?_ ?_
 ·rintro i a y hi hy d;have h:=g i y hi hy a d;refine Sem.weak (Wk.pick [3,10,34,37] (G':=[(3,oL 5 zF a),(10,.ptr 3 0),(34,vi ((↑(List.length l):Int) - 1 - (↑i:Int))),(37,vI .u8 y)]) (by kernel_rfl)) ?_;show Sem _ (cfr [] 18) (sq1 (sq1 (sq2 (sq1 (sq2 (sq2 (bodyOf Tryz.f89))))))) _ _;have kr:=cfrOk [] 18;refine rO oN [34,37] [(16,vI .u8 y)] ?_;refine ⟨rfl,?_⟩;show Sem _ (cfr [] 18) (sq2 (sq1 (sq2 (sq1 (sq2 (sq2 (bodyOf Tryz.f89))))))) _ _;refine bD (id:=1) ?_;obtain ⟨h6,h⟩:=h;refine rOE (apo zF a h6 oN) [10,16] [(3,.own 5 (List.map zF a++[FV.pv (Value.int IntKind.u8 y)]))] [(3,oL 5 zF (a++[y]))] ?_;exact rndE (wkE [] [3] (by rfl)) (by kernel_rfl) ⟨(a++[y]),rfl,h⟩
 ·rintro a d;have h:=f a d;refine ⟨[(10,.ptr 20 0),(20,oL 5 zF a)],Wk.pick [10,20] (by kernel_rfl),?_⟩;show Sem _ _ _ _ _;refine sOE oN [10,20] [(7,.f (FV.sl (List.take (List.length (List.map zF a)) (List.drop 0 (List.map zF a)))))] [(7,vL zF a)] ?_;refine tD ?_;subst h;exact (endQ []).1
theorem W_split_Split (r0:zw) (b:ByteArray) (res:Int)
 (h:(∃ a:List Bool,zeu r0.Rx b a∧(ck ((↑(List.length a):Int) == 0) (res=0) (ck (zf.Kind r0.Trail == 0) ((0≤(↑(ByteArray.size b):Int))∧(ByteArray.size b < List.length a)∧ByteArray.size b < List.length a∧(ck (List.getD a (ByteArray.size b) default) (res=((↑(ByteArray.size b):Int))) (res=0))) (∃ j:Bool,zcL r0.Trail j∧(ck (!j) (res=0) (∃ l:zf,zcs r0.Trail l∧(∃ g:List Int,zb6 (bytesOf b) g∧(∃ c:List Bool,zdh l (bytesT (List.map zF g)) c∧(∃ (e:Int→Prop) (f:Int→Nat),e ((↑(ByteArray.size b):Int))∧(∀ (h0:Int),e h0→(ck (decide (h0 > 0)) ((0≤h0)∧(Int.toNat h0 < List.length a)∧h0 < ↑(List.length a)∧((gd a h0)=true→(0≤w64 ((↑(ByteArray.size b):Int) - h0)))∧((gd a h0)=true→(Int.toNat (w64 ((↑(ByteArray.size b):Int) - h0)) < List.length c))∧((gd a h0)=true→w64 ((↑(ByteArray.size b):Int) - h0) < ↑(List.length c))∧(ck (gd a h0 && gd c (w64 ((↑(ByteArray.size b):Int) - h0))) (res=h0) (e (w64 (h0 - 1))∧f (w64 (h0 - 1)) < f h0))) (res=0))))))))))))):zct r0 b res:=by
 have kk:=cfOk [28,59] 60;refine fE kk Tryz.func55 [(1,zbg r0),(4,vS b)] ?_;refine sO oN [1] [(7,.ptr 14 0),(14,zbg r0)] ?_;refine sO oN [] [(16,vi ((↑(ByteArray.size b):Int)))] ?_;obtain ⟨a,B,h⟩:=h;refine sO (ca B oN) [] [(19,oL 4 zY a)] ?_;refine qD ?_;refine bD (id:=0) ?_;refine sV oN [] (List.length (List.map zY a)) (List.length a) (fun q=>[(46,vB ((↑(q):Int) == 0))]) ?_;refine cH 15 h (fun J h=>?_) (fun J h=>?_)
 ·refine sO oN [4,7,14,16,19,46] [(13,vi 0)] ?_;refine tD ?_;subst h;exact (endQ []).1
 ·refine sO oN [46] [(58,vB (zf.Kind r0.Trail == 0))] ?_;refine cH 19 h (fun A h=>?_) (fun A h=>?_)
  ·refine qD ?_;obtain ⟨h3,h⟩:=h;obtain ⟨h4,h⟩:=h;obtain ⟨h5,h⟩:=h;refine sO (nd h3 (nd (show Int.toNat (↑(ByteArray.size b):Int) < List.length (List.map zY a) from by simpa only [nm] using h4) (el (show (List.map zY a)[((0:Nat)+Int.toNat (↑(ByteArray.size b):Int):Nat)]?=some (fB (List.getD a (ByteArray.size b) default)) from by have:=zbM zY a (ByteArray.size b) _ rfl h5;simpa only [nm,enq,zY] using this) oN))) [4,7,14,19,58] [(82,vB (List.getD a (ByteArray.size b) default))] ?_;refine cH 27 h (fun H h=>?_) (fun H h=>?_)
   ·refine sO oN [16,82] [(13,vi ((↑(ByteArray.size b):Int)))] ?_;refine tD ?_;subst h;exact (endQ []).1
   ·refine kW [16,82] ?_;refine sO oN [] [(13,vi 0)] ?_;refine tD ?_;subst h;exact (endQ []).1
  ·obtain ⟨j,F,h⟩:=h;refine sO (ca F oN) [58] [(88,vB (!j))] ?_;refine cH 29 h (fun I h=>?_) (fun I h=>?_)
   ·refine sO oN [4,7,14,16,19,88] [(13,vi 0)] ?_;refine tD ?_;subst h;exact (endQ []).1
   ·refine kW [88] ?_;obtain ⟨l,y,h⟩:=h;obtain ⟨g,v,h⟩:=h;obtain ⟨c,s,h⟩:=h;refine sO (ca y (ca v (nd (show List.all (List.map zF g) isByteF=true from by first | exact fits_u8 _ | exact keysenc_u8 _ | rfl | simp [isByteF,FV.fits,FV.size,FV.cells,FV.one,zF]) (ca s oN)))) [4,7,14] [(22,oL 4 zY c)] ?_;refine qD ?_;refine sO oN [] [(25,vi ((↑(ByteArray.size b):Int)))] ?_;refine bD (id:=1) ?_;obtain ⟨e,f,k,n⟩:=h;refine loE [] (fun h0=>[(25,vi h0)]) e f ((↑(ByteArray.size b):Int)) [] k ?_;rintro h0 hi;have h:=n h0 hi;refine qD ?_;refine sO oN [] [(133,vB (decide (h0 > 0)))] ?_;refine cH 44 h (fun t h=>?_) (fun t h=>?_)
    ·refine kW [133] ?_;refine qD ?_;refine bD (id:=2) ?_;obtain ⟨m,h⟩:=h;obtain ⟨o,h⟩:=h;obtain ⟨w,h⟩:=h;obtain ⟨u,D,E,h⟩:=h;refine sM [] [(175,vB (gd a h0 && gd c (w64 ((↑(ByteArray.size b):Int) - h0))))] ?_ (fun p=>?_)
     ·refine cH 58 h (fun r h=>?_) (fun r h=>?_)
      ·refine sO oN [16,19,22,25,175] [(13,vi h0)] ?_;refine tD ?_;subst h;exact (endQ []).1
      ·refine kW [175] ?_;refine rO oN [] [(25,vi (w64 (h0 - 1)))] ?_;exact lD (w64 (h0 - 1)) [] h
     ·rcases eft (gd a h0) with d | d
      ·refine sO (nd m (nd (show Int.toNat h0 < List.length (List.map zY a) from by simpa only [nm] using o) (el (show (List.map zY a)[((0:Nat)+Int.toNat h0:Nat)]?=some (fB (gd a h0)) from by have:=zbu zY a h0 _ rfl m w;simpa only [nm,enq,zY] using this) (g1 d 11111 (nd (u d) (nd (show Int.toNat (w64 ((↑(ByteArray.size b):Int) - h0)) < List.length (List.map zY c) from by simpa only [nm] using (D d)) (g1 d 1 (el (show (List.map zY c)[((0:Nat)+Int.toNat (w64 ((↑(ByteArray.size b):Int) - h0)):Nat)]?=some (fB (gd c (w64 ((↑(ByteArray.size b):Int) - h0)))) from by have:=zbu zY c (w64 ((↑(ByteArray.size b):Int) - h0)) _ rfl (u d) (E d);simpa only [nm,enq,zY] using this) (g1 d 3 oN))))))))) [] [(175,vB (gd c (w64 ((↑(ByteArray.size b):Int) - h0))))] ?_;exact Sem.cast (by try rw [d];kernel_rfl) p
      ·refine sO (nd m (nd (show Int.toNat h0 < List.length (List.map zY a) from by simpa only [nm] using o) (el (show (List.map zY a)[((0:Nat)+Int.toNat h0:Nat)]?=some (fB (gd a h0)) from by have:=zbu zY a h0 _ rfl m w;simpa only [nm,enq,zY] using this) (g1 d 1111113 oN)))) [] [(175,vB false)] ?_;exact Sem.cast (by try rw [d];kernel_rfl) p
    ·refine xD (i:=1) ?_;show Sem _ _ _ _ _;refine wkD [16,19,22,25,133] ?_;refine sO oN [] [(13,vi 0)] ?_;refine tD ?_;subst h;exact (endQ []).1
theorem zgU (b:Int) (d:Int) (s0:zh) (res:Bool) (fin:zh)
 (h:(ck (b == (-1:Int)) (ck (!(zd.Spec s0.Program).Default) (res=false∧fin=({ Program:=s0.Program,W:=s0.W,At:=s0.At,Cond:=s0.Cond,Out:={ Tokens:=zi.Tokens s0.Out,Jam:=s0.At } })) (∃ o:zh,zbb ({ Rule:=b,Start:=s0.At,End:=w64 (s0.At+1),Cond:=s0.Cond }) s0 o∧(res=true∧fin=o))) ((0≤b)∧b < ↑(List.length (zd.Spec s0.Program).Rules)∧(0≤s0.At∧0≤w64 (s0.At+d)∧Int.toNat s0.At≤Int.toNat (w64 (s0.At+d))∧Int.toNat (w64 (s0.At+d))≤ByteArray.size s0.W)∧(∃ r0:Int,zct (gd (zd.Spec s0.Program).Rules b) (ByteArray.extract s0.W (Int.toNat s0.At) (Int.toNat (w64 (s0.At+d)))) r0∧(∃ J8:Int→Prop,(∀ (h0:Int),J8 h0→(∃ a:zh,zbb ({ Rule:=b,Start:=s0.At,End:=w64 (s0.At+h0),Cond:=s0.Cond }) s0 a∧(∃ e:Int→Prop,(∀ (c:Int),e c→(res=true∧fin=({ Program:=a.Program,W:=a.W,At:=a.At,Cond:=c,Out:=a.Out })))∧(ck ((gd (zd.Spec s0.Program).Rules b).Act == 3) (e (gd (zd.Spec s0.Program).Rules b).To) (e a.Cond)))))∧(ck (r0 == 0) (J8 d) (J8 r0))))))):zcu b d s0 res fin:=by
 have kk:=cfOk [] 94;refine fE kk Tryz.func35 [(1,.ptr 3 0),(3,axs s0),(4,vi b),(7,vi d)] ?_;refine sO oN [] [] ?_;refine sO oN [] [(22,.ptr 44 0),(44,.agg [vi b,vi s0.At,vi (w64 (s0.At+1)),vi s0.Cond])] ?_;refine qD ?_;refine sO oN [] [(82,vB (b == (-1:Int)))] ?_;refine cH 27 h (fun r h=>?_) (fun r h=>?_)
 ·refine qD ?_;refine sO oN [4,7,82] [(103,vB (!(zd.Spec s0.Program).Default))] ?_;refine cH 34 h (fun s h=>?_) (fun s h=>?_)
  ·refine sO oN [1,22,44,103] [(3,.agg [vL zn (zd.Spec s0.Program).Conds,vB (zd.Spec s0.Program).Default,vL zg (zd.Spec s0.Program).Rules,vL za (zd.Tables s0.Program).Map,vi (zd.Tables s0.Program).Width,vL za (zd.Tables s0.Program).Base,vL za (zd.Tables s0.Program).Default,vL za (zd.Tables s0.Program).Next,vL za (zd.Tables s0.Program).Check,vL za (zd.Tables s0.Program).Accept,vL za (zd.Tables s0.Program).Start,vS s0.W,vi s0.At,vi s0.Cond,oL 49 zp (zi.Tokens s0.Out),vi s0.At])] ?_;refine sO oN [] [(19,vB false)] ?_;refine tD ?_;obtain ⟨f,k⟩:=h;subst res fin;exact (endQ []).1
  ·refine kW [103] ?_;obtain ⟨o,m,h⟩:=h;refine sO (ca m oN) [1,22,44] [(3,axs o)] ?_;refine sO oN [] [(19,vB true)] ?_;refine tD ?_;obtain ⟨f,k⟩:=h;subst res fin;exact (endQ []).1
 ·refine kW [82] ?_;obtain ⟨h3,h⟩:=h;obtain ⟨h4,h⟩:=h;refine sO (xo zg (zaA _) h3 h4 oN) [4] [(25,.ptr 50 0),(50,zbg (gd (zd.Spec s0.Program).Rules b))] ?_;obtain ⟨h5,h⟩:=h;refine sO (nd h5 oN) [] [(28,vS (ByteArray.extract s0.W (Int.toNat s0.At) (Int.toNat (w64 (s0.At+d)))))] ?_;obtain ⟨r0,p,h⟩:=h;refine sO (ca p oN) [28] [(31,vi r0)] ?_;obtain ⟨J8,n,h⟩:=h;refine sjE J8 [7] (fun h0=>[(31,vi h0)]) ?_ ?_
  ·rintro h0 hj;have h:=n h0 hj;refine sO oN [31] [(44,.agg [vi b,vi s0.At,vi (w64 (s0.At+h0)),vi s0.Cond])] ?_;obtain ⟨a,l,h⟩:=h;refine sO (ca l oN) [22,44] [(3,axs a)] ?_;obtain ⟨e,g,h⟩:=h;refine sjD e (fun c=>[(3,.agg [vL zn (zd.Spec a.Program).Conds,vB (zd.Spec a.Program).Default,vL zg (zd.Spec a.Program).Rules,vL za (zd.Tables a.Program).Map,vi (zd.Tables a.Program).Width,vL za (zd.Tables a.Program).Base,vL za (zd.Tables a.Program).Default,vL za (zd.Tables a.Program).Next,vL za (zd.Tables a.Program).Check,vL za (zd.Tables a.Program).Accept,vL za (zd.Tables a.Program).Start,vS a.W,vi a.At,vi c,oL 49 zp (zi.Tokens a.Out),vi (zi.Jam a.Out)])]) ?_ ?_
   ·rintro c hj;have h:=g c hj;refine sO oN [] [(19,vB true)] ?_;refine tD ?_;obtain ⟨f,k⟩:=h;subst res fin;exact (endQ []).1
   ·refine sO oN [] [(265,vB ((gd (zd.Spec s0.Program).Rules b).Act == 3))] ?_;refine cH 88 h (fun i h=>?_) (fun i h=>?_)
    ·refine rO oN [1,25,50,265] [(3,.agg [vL zn (zd.Spec a.Program).Conds,vB (zd.Spec a.Program).Default,vL zg (zd.Spec a.Program).Rules,vL za (zd.Tables a.Program).Map,vi (zd.Tables a.Program).Width,vL za (zd.Tables a.Program).Base,vL za (zd.Tables a.Program).Default,vL za (zd.Tables a.Program).Next,vL za (zd.Tables a.Program).Check,vL za (zd.Tables a.Program).Accept,vL za (zd.Tables a.Program).Start,vS a.W,vi a.At,vi (gd (zd.Spec s0.Program).Rules b).To,oL 49 zp (zi.Tokens a.Out),vi (zi.Jam a.Out)])] ?_;exact jD (gd (zd.Spec s0.Program).Rules b).To [] h
    ·refine kD ?_;exact jD a.Cond [] h
  ·refine sO oN [] [(223,vB (r0 == 0))] ?_;refine cH 74 h (fun j h=>?_) (fun j h=>?_)
   ·refine rO oN [7,223] [(31,vi d)] ?_;exact jD d [] h
   ·refine kD ?_;exact jD r0 [] h
theorem W_spec_Active (s0:zr) (a:Int) (cond:Int) (res:Bool)
 (h:(ck (decide (a < 0) || (decide (a≥(↑(List.length (List.map zg s0.Rules)):Int)) || (decide (cond < 0) || decide (cond≥(↑(List.length s0.Conds):Int))))) (res=false) ((0≤a)∧a < ↑(List.length s0.Rules)∧(ck (gd s0.Rules a).All (res=true) (∃ r0:Bool,zaC (gd s0.Rules a).Conds cond r0∧(ck (r0) (res=true) (ck ((↑(List.length (List.map za (gd s0.Rules a).Conds)):Int) == 0) (((gd s0.Rules a).All=false→((r0)=false→(((↑(List.length (List.map za (gd s0.Rules a).Conds)):Int) == 0)=true→(0≤cond))))∧((gd s0.Rules a).All=false→((r0)=false→(((↑(List.length (List.map za (gd s0.Rules a).Conds)):Int) == 0)=true→cond < ↑(List.length s0.Conds))))∧(res=(!(gd s0.Conds cond).Exclusive))) (res=false)))))))):zdi s0 a cond res:=by
 have kk:=cfOk [] 56;refine fE kk Tryz.func92 [(1,zag s0),(4,vi a),(7,vi cond)] ?_;refine sO oN [1] [(10,.ptr 20 0),(20,zag s0)] ?_;refine qD ?_;refine sM [] [(82,vB (decide (a < 0) || (decide (a≥(↑(List.length (List.map zg s0.Rules)):Int)) || (decide (cond < 0) || decide (cond≥(↑(List.length s0.Conds):Int))))))] ?_ (fun i=>?_)
 ·refine cH 27 h (fun k h=>?_) (fun k h=>?_)
  ·refine sO oN [4,7,10,20,82] [(19,vB false)] ?_;refine tD ?_;subst h;exact (endQ []).1
  ·refine kW [82] ?_;obtain ⟨h4,h⟩:=h;obtain ⟨h5,h⟩:=h;refine sO (xo zg (zaA _) h4 h5 oN) [4] [(22,.ptr 44 0),(44,zbg (gd s0.Rules a))] ?_;rcases eft (gd s0.Rules a).All with d | d
   ·have h:=h.1 d;refine sO (g1 d 222238888887 oN) [7,10,20,22,44] [(19,vB true)] ?_;refine tD ?_;subst h;exact (endQ []).1
   ·have h:=h.2 d;obtain ⟨r0,j,h⟩:=h;rcases eft (r0) with b | b
    ·have h:=h.1 b;refine sO (g1 d 2222 (ca j (g2 b d 62222223 oN))) [7,10,20,22,44] [(19,vB true)] ?_;refine tD ?_;subst h;exact (endQ []).1
    ·have h:=h.2 b;rcases eft ((↑(List.length (List.map za (gd s0.Rules a).Conds)):Int) == 0) with c | c
     ·have h:=h.1 c;obtain ⟨l,h⟩:=h;obtain ⟨m,h⟩:=h;refine sO (g1 d 2222 (ca j (g1 d 3 (g2 c b 555551111 (xo zn (zbO _) (((l d) b) c) (((m d) b) c) (g2 b c 444263 oN)))))) [7,10,20,22,44] [(19,vB (!(gd s0.Conds cond).Exclusive))] ?_;refine tD ?_;subst h;exact (endQ []).1
     ·have h:=h.2 c;refine sO (g1 d 2222 (ca j (g1 d 3 (g2 b c 222224444444263 oN)))) [7,10,20,22,44] [(19,vB false)] ?_;refine tD ?_;subst h;exact (endQ []).1
 ·rcases eft (decide (a < 0)) with e | e
  ·refine sO (g1 e 222223887888887 oN) [] [(82,vB true)] ?_;exact Sem.cast (by try rw [e];kernel_rfl) i
  ·rcases eft (decide (a≥(↑(List.length (List.map zg s0.Rules)):Int))) with f | f
   ·refine sO (g2 f e 555556223888887 oN) [] [(82,vB true)] ?_;exact Sem.cast (by try rw [e];try rw [f];kernel_rfl) i
   ·rcases eft (decide (cond < 0)) with g | g
    ·refine sO (g1 e 222223 (g2 g f 556222223 oN)) [] [(82,vB true)] ?_;exact Sem.cast (by try rw [e];try rw [f];try rw [g];kernel_rfl) i
    ·refine sV (g1 e 222223 (g2 g f 556222223 oN)) [] (List.length (List.map zn s0.Conds)) (List.length s0.Conds) (fun q=>[(82,vB (decide (cond≥(↑(q):Int))))]) ?_;exact Sem.cast (by try rw [e];try rw [f];try rw [g];kernel_rfl) i
theorem W_model_Eof (s0:zr) (cond:Int) (res:Int)
 (h:(∃ (c:Int→Prop) (d:Int→Nat),c 0∧(∀ (a:Int),c a→(ck (decide (a < (↑(List.length s0.Rules):Int))) ((0≤a)∧a < ↑(List.length s0.Rules)∧(ck (gd s0.Rules a).Eof (∃ f:Bool,zdi s0 a cond f∧(ck (f) (res=a) (c (w64 (a+1))∧d (w64 (a+1)) < d a))) (c (w64 (a+1))∧d (w64 (a+1)) < d a))) (res=(-1)))))):zgf s0 cond res:=by
 have kk:=cfOk [23] 25;refine fE kk Tryz.func58 [(1,zag s0),(4,vi cond)] ?_;refine sO oN [1] [(7,.ptr 14 0),(14,zag s0)] ?_;refine qD ?_;refine sV oN [] (List.length (List.map zg s0.Rules)) (List.length s0.Rules) (fun q=>[(25,vL zg s0.Rules),(28,vi ((↑(q):Int))),(31,vi 0)]) ?_;refine bD (id:=0) ?_;obtain ⟨c,d,g,j⟩:=h;refine loE [] (fun a=>[(31,vi a)]) c d 0 [] g ?_;rintro a hi;have h:=j a hi;refine sO oN [] [(34,vB (decide (a < (↑(List.length s0.Rules):Int))))] ?_;refine qD ?_;refine cH 11 h (fun l h=>?_) (fun l h=>?_)
 ·refine kW [34] ?_;refine qD ?_;refine bD (id:=1) ?_;obtain ⟨p,h⟩:=h;obtain ⟨o,h⟩:=h;refine sO (xo zg (zaA _) p o oN) [] [(16,vi a),(19,.ptr 38 0),(38,zbg (gd s0.Rules a))] ?_;rcases eft (gd s0.Rules a).Eof with e | e
  ·have h:=h.1 e;obtain ⟨f,m,h⟩:=h;refine sO (g1 e 1111 (ca m (g1 e 3 oN))) [19,38] [(67,vB f)] ?_;refine cH 22 h (fun n h=>?_) (fun n h=>?_)
   ·refine sO oN [4,7,14,16,25,28,31,67] [(13,vi a)] ?_;refine tD ?_;subst h;exact (endQ []).1
   ·refine kW [16,67] ?_;refine rO oN [] [(31,vi (w64 (a+1)))] ?_;exact lD (w64 (a+1)) [] h
  ·have h:=h.2 e;refine sO (g1 e 11113 oN) [19,38] [(67,vB false)] ?_;refine cD (t:=22) (b:=false) (fun k=>?_) (fun k=>?_)
   ·cases k
   ·refine kW [16,67] ?_;refine rO oN [] [(31,vi (w64 (a+1)))] ?_;exact lD (w64 (a+1)) [] h
 ·refine xD (i:=0) ?_;show Sem _ _ _ _ _;refine wkD [4,7,14,25,28,31,34] ?_;refine sO oN [] [(13,vi (-1))] ?_;refine tD ?_;subst h;exact (endQ []).1
theorem zgV (s0:zh) (fin:zh)
 (h:(∃ r0:Int,zgf (zd.Spec s0.Program) s0.Cond r0∧(ck (r0 != (-1:Int)) (∃ o:zh,zbb ({ Rule:=r0,Start:=s0.At,End:=s0.At,Cond:=s0.Cond }) s0 o∧(fin=o)) (fin=s0)))):zcv s0 fin:=by
 have kk:=cfOk [] 31;refine fE kk Tryz.func37 [(1,.ptr 3 0),(3,axs s0)] ?_;obtain ⟨r0,b,h⟩:=h;refine sO (ca b oN) [] [(7,vi r0)] ?_;refine sO oN [] [(43,vB (r0 != (-1:Int)))] ?_;refine cH 14 h (fun c h=>?_) (fun c h=>?_)
 ·obtain ⟨o,a,h⟩:=h;refine rO (ca a oN) [1,7,43] [(3,axs o)] ?_;obtain he0:=h;subst fin;exact (endQ []).2
 ·refine kD ?_;obtain he0:=h;subst fin;exact (endQ []).2
end Go.Ev
namespace Go.Ev
open Go Go.Proofs
set_option maxRecDepth 8000
set_option maxHeartbeats 1000000
theorem zjB (p:zd) (w0:ByteArray) (res:zi) (res_1:Int)
 (h:(∃ r0:Bool,zc1 p w0 r0∧(ck (!r0) (res=({ Tokens:=[],Jam:=0 })∧res_1=1) (∃ (e:zh→Prop) (l:zh→Nat),e ({ Program:=p,W:=w0,At:=0,Cond:=0,Out:={ Tokens:=[],Jam:=(-1:Int) } })∧(∀ (c:zh),e c→(∃ k:Bool,∃ d:zh,zca c k d∧(ck (k) (∃ j:Int,∃ g:Int,∃ o:zh,zb8 d j g o∧(∃ f:Bool,∃ a:zh,zcu j g o f a∧(ck (!f) (res=a.Out∧res_1=0) (e a∧l a < l c)))) (∃ b:zh,zcv d b∧(res=b.Out∧res_1=0))))))))):zbA p w0 res res_1:=by
 have kk:=cfOk [] 34;refine fE kk Tryz.func16 [(1,zE p),(4,vS w0)] ?_;refine sO oN [1] [(7,.ptr 14 0),(13,.ptr 26 0),(14,zE p),(26,.agg [oL 49 zp ([]),vi 0])] ?_;refine qD ?_;obtain ⟨r0,D,h⟩:=h;refine sO (ca D oN) [] [(31,vB (!r0))] ?_;refine cH 10 h (fun B h=>?_) (fun B h=>?_)
 ·refine sO oN [4,7,14,31] [(16,vi 1),(26,.agg [oL 49 zp ([]),vi 0])] ?_;refine tD ?_;obtain ⟨y,t⟩:=h;subst res res_1;exact (endD [] (.tup [.agg [.f (FV.sl (List.take (List.length (List.map zp [])) (List.drop 0 (List.map zp [])))),vi 0],vi 1]) []).1
 ·refine kW [31] ?_;refine sO oN [4,7,14] [(19,.ptr 86 0),(86,.agg [vL zn (zr.Conds p.Spec),vB (zr.Default p.Spec),vL zg (zr.Rules p.Spec),vL za (zk.Map p.Tables),vi (zk.Width p.Tables),vL za (zk.Base p.Tables),vL za (zk.Default p.Tables),vL za (zk.Next p.Tables),vL za (zk.Check p.Tables),vL za (zk.Accept p.Tables),vL za (zk.Start p.Tables),vS w0,vi 0,vi 0,oL 49 zp ([]),vi (-1)])] ?_;refine qD ?_;refine bD (id:=0) ?_;obtain ⟨e,l,m,n⟩:=h;refine loE [] (fun c=>[(86,axs c)]) e l ({ Program:=p,W:=w0,At:=0,Cond:=0,Out:={ Tokens:=[],Jam:=(-1:Int) } }) [] m ?_;rintro c hi;have h:=n c hi;refine qD ?_;obtain ⟨k,d,u,h⟩:=h;refine sO (ca u oN) [] [(49,vB k),(86,axs d)] ?_;refine cH 16 h (fun v h=>?_) (fun v h=>?_)
  ·refine kW [49] ?_;refine bD (id:=1) ?_;obtain ⟨j,g,o,r,h⟩:=h;obtain ⟨f,a,A,h⟩:=h;refine sO (ca r (ca A oN)) [] [(70,vB (!f)),(86,axs a)] ?_;refine cH 23 h (fun s h=>?_) (fun s h=>?_)
   ·refine sOE oN [19,70,86] [(16,vi 0),(26,.agg [.f (FV.sl (List.take (List.length (List.map zp (zi.Tokens a.Out))) (List.drop 0 (List.map zp (zi.Tokens a.Out))))),vi (zi.Jam a.Out)])] [(16,vi 0),(26,zaU a.Out)] ?_;refine tD ?_;obtain ⟨y,t⟩:=h;subst res res_1;exact (endQ []).1
   ·refine kD ?_;exact lD a [] h
  ·refine xD (i:=0) ?_;show Sem _ _ _ _ _;refine wkD [49] ?_;obtain ⟨b,w,h⟩:=h;refine sO (ca w oN) [] [(86,axs b)] ?_;refine sOE oN [19,86] [(16,vi 0),(26,.agg [.f (FV.sl (List.take (List.length (List.map zp (zi.Tokens b.Out))) (List.drop 0 (List.map zp (zi.Tokens b.Out))))),vi (zi.Jam b.Out)])] [(16,vi 0),(26,zaU b.Out)] ?_;refine tD ?_;obtain ⟨y,t⟩:=h;subst res res_1;exact (endQ []).1
theorem zg5 (l:(List Int)) (res:ByteArray)
 (h:(∃ (a:ByteArray→Int→Prop) (c:ByteArray→Int→Nat),a ({ data:=#[] }) 0∧(∀ (s0:ByteArray) (i:Int),a s0 i→(ck (decide (i < (↑(List.length (List.map zF l)):Int)) && decide (i < 12)) ((0≤i)∧i < ↑(List.length l)∧(0≤i)∧i < ↑(List.length l)∧(0≤Int.tmod (w64 (gd l i)) 12∧0≤w64 (Int.tmod (w64 (gd l i)) 12+1)∧Int.toNat (Int.tmod (w64 (gd l i)) 12)≤Int.toNat (w64 (Int.tmod (w64 (gd l i)) 12+1))∧Int.toNat (w64 (Int.tmod (w64 (gd l i)) 12+1))≤ByteArray.size { data:=#[(97:UInt8),(97:UInt8),(98:UInt8),(98:UInt8),(99:UInt8),(99:UInt8),(45:UInt8),(90:UInt8),(10:UInt8),(48:UInt8),(0:UInt8),(255:UInt8)] })∧((↑(ByteArray.size s0+ByteArray.size (ByteArray.extract { data:=#[(97:UInt8),(97:UInt8),(98:UInt8),(98:UInt8),(99:UInt8),(99:UInt8),(45:UInt8),(90:UInt8),(10:UInt8),(48:UInt8),(0:UInt8),(255:UInt8)] } (Int.toNat (Int.tmod (w64 (gd l i)) 12)) (Int.toNat (w64 (Int.tmod (w64 (gd l i)) 12+1))))):Int)≤IntKind.max IntKind.i64)∧(a (s0++ByteArray.extract { data:=#[(97:UInt8),(97:UInt8),(98:UInt8),(98:UInt8),(99:UInt8),(99:UInt8),(45:UInt8),(90:UInt8),(10:UInt8),(48:UInt8),(0:UInt8),(255:UInt8)] } (Int.toNat (Int.tmod (w64 (gd l i)) 12)) (Int.toNat (w64 (Int.tmod (w64 (gd l i)) 12+1)))) (w64 (i+1))∧c (s0++ByteArray.extract { data:=#[(97:UInt8),(97:UInt8),(98:UInt8),(98:UInt8),(99:UInt8),(99:UInt8),(45:UInt8),(90:UInt8),(10:UInt8),(48:UInt8),(0:UInt8),(255:UInt8)] } (Int.toNat (Int.tmod (w64 (gd l i)) 12)) (Int.toNat (w64 (Int.tmod (w64 (gd l i)) 12+1)))) (w64 (i+1)) < c s0 i)) (res=s0))))):zcA l res:=by
 have kk:=cfOk [31] 32;refine fE kk Tryz.func13 [(1,vL zF l)] ?_;refine sO oN [] [] ?_;refine sO oN [] [(10,vS ({ data:=#[] }))] ?_;refine qD ?_;refine sO oN [] [(13,vi 0)] ?_;refine bD (id:=0) ?_;obtain ⟨a,c,d,e⟩:=h;refine loE [] (u2 fun s0 i=>[(10,vS s0),(13,vi i)]) (u2 a) (u2 c) (({ data:=#[] }),0) [] d ?_;rintro ⟨s0,i⟩ hi;have h:=e s0 i hi;refine qD ?_;refine sM [] [(37,vB (decide (i < (↑(List.length (List.map zF l)):Int)) && decide (i < 12)))] ?_ (fun f=>?_)
 ·refine cH 12 h (fun g h=>?_) (fun g h=>?_)
  ·refine kW [37] ?_;refine qD ?_;refine bD (id:=1) ?_;obtain ⟨n,h⟩:=h;obtain ⟨p,h⟩:=h;obtain ⟨k,h⟩:=h;obtain ⟨j,h⟩:=h;obtain ⟨m,h⟩:=h;obtain ⟨o,h⟩:=h;refine rO (xo zF rfl n p (nd (show (12:Int)≠(0:Int) from by first | decide | rfl | trivial) (xo zF rfl k j (nd (show (12:Int)≠(0:Int) from by first | decide | rfl | trivial) (nd m (nd o oN)))))) [] [(10,vS (s0++ByteArray.extract { data:=#[(97:UInt8),(97:UInt8),(98:UInt8),(98:UInt8),(99:UInt8),(99:UInt8),(45:UInt8),(90:UInt8),(10:UInt8),(48:UInt8),(0:UInt8),(255:UInt8)] } (Int.toNat (Int.tmod (w64 (gd l i)) 12)) (Int.toNat (w64 (Int.tmod (w64 (gd l i)) 12+1)))))] ?_;show Sem _ _ _ _ _;refine rO oN [] [(13,vi (w64 (i+1)))] ?_;exact lD ((s0++ByteArray.extract { data:=#[(97:UInt8),(97:UInt8),(98:UInt8),(98:UInt8),(99:UInt8),(99:UInt8),(45:UInt8),(90:UInt8),(10:UInt8),(48:UInt8),(0:UInt8),(255:UInt8)] } (Int.toNat (Int.tmod (w64 (gd l i)) 12)) (Int.toNat (w64 (Int.tmod (w64 (gd l i)) 12+1)))),(w64 (i+1))) [] h
  ·refine xD (i:=0) ?_;show Sem _ _ _ _ _;refine wkD [1,13,37] ?_;refine sO oN [10] [(7,vS s0)] ?_;refine tD ?_;subst h;exact (endQ []).1
 ·rcases eft (decide (i < (↑(List.length (List.map zF l)):Int))) with b | b
  ·refine sO (g1 b 113 oN) [] [(37,vB (decide (i < 12)))] ?_;exact Sem.cast (by try rw [b];kernel_rfl) f
  ·refine sO (g1 b 113 oN) [] [(37,vB false)] ?_;exact Sem.cast (by try rw [b];kernel_rfl) f
theorem zhA (l:(List Int)) (n:Int) (m:(List Int)) (res:zZ)
 (h:(∃ (u:List Int→Int→Prop) (D:List Int→Int→Nat),u (List.replicate (Int.toNat 256) 0) 0∧(∀ (c:List Int) (b:Int),u c b→(ck (decide (b < 256) && decide (b < (↑(List.length m):Int))) ((0≤b)∧b < ↑(List.length m)∧(0≤w64 (97+Int.tmod b 100))∧(Int.toNat (w64 (97+Int.tmod b 100)) < List.length c)∧w64 (97+Int.tmod b 100) < ↑(List.length c)∧(u (List.set c (Int.toNat (w64 (97+Int.tmod b 100))) (Int.tmod (w64 (gd m b)) 3)) (w64 (b+1))∧D (List.set c (Int.toNat (w64 (97+Int.tmod b 100))) (Int.tmod (w64 (gd m b)) 3)) (w64 (b+1)) < D c b)) ((Int.toNat 255 < List.length c)∧255 < List.length c∧(∃ (s:List (List Int)→List Int→Int→Int→Prop) (v:List (List Int)→List Int→Int→Int→Nat),s ([]) ([]) 0 0∧(∀ (e:List (List Int)) (d:List Int) (r:Int) (i:Int),s e d r i→(ck (decide (i < w64 (1+Int.tmod (w64 n) 8))) (∃ (t:List Int→Int→List Int→Int→Prop) (w:List Int→Int→List Int→Int→Nat),t d r ([]) 0∧(∀ (a:List Int) (j:Int) (f:List Int) (p:Int),t a j f p→(ck (decide (p < 4)) (∃ B:List Int→List Int→Prop,(∀ (g:List Int) (o:List Int),B g o→(t g (w64 (j+1)) o (w64 (p+1))∧w g (w64 (j+1)) o (w64 (p+1)) < w a j f p))∧(∃ A:Int→Prop,(∀ (k:Int),A k→(ck (decide (p < 3)) ((w64 (w64 (1+Int.tmod (w64 n) 8)+1)≠0)∧((List.length f+1) * 8≤2 ^ 47)∧B a (f++[w64 (Int.tmod k (w64 (w64 (1+Int.tmod (w64 n) 8)+1)) - 1)])) ((0≤Int.tmod k 4)∧(Int.toNat (Int.tmod k 4) < 4)∧Int.tmod k 4 < ↑(List.length ([(-1:Int),(-1:Int),0,1]))∧((List.length a+1) * 8≤2 ^ 47)∧B (a++[gd [(-1:Int),(-1:Int),0,1] (Int.tmod k 4)]) f)))∧(ck (decide (j < (↑(List.length l):Int))) ((0≤j)∧j < ↑(List.length l)∧A (w64 (gd l j))) (A 0)))) (((List.length e+1) * 24≤2 ^ 47)∧(s (e++[f]) a j (w64 (i+1))∧v (e++[f]) a j (w64 (i+1)) < v e d r i))))) ((w64 (1+Int.tmod (w64 n) 8)≠0)∧(res=({ Map:=List.set c 255 2,Rows:=e,Accept:=d,Start:=[0,Int.tmod (w64 (Int.tdiv (w64 n) 8)) (w64 (1+Int.tmod (w64 n) 8))] }))))))))))):zcO l n m res:=by
 have kk:=(cfOk [20,99] 100).wv [19];refine fE kk Tryz.func28 [(1,vL zF l),(4,vI .u8 n),(7,vL zF m)] ?_;refine sO oN [] [(19,.ptr 38 0),(38,.agg [oL 3 za ([]),oL 27 zj ([]),oL 3 za ([]),oL 3 za ([])])] ?_;refine sO (nd (show (8:Int)≠(0:Int) from by first | decide | rfl | trivial) oN) [] [(22,vi (w64 (1+Int.tmod (w64 n) 8)))] ?_;refine sV (nd (show (0:Int)≤(256:Int)∧(256:Int)≤(256:Int)∧(256:Int) < (2:Int) ^ (40:Nat)∧(↑(8:Nat):Int) * (256:Int)≤(2:Int) ^ (47:Nat) from by first | decide | rfl | trivial) (nd (show (0:Nat)=(0:Nat)∧(256:Nat)=List.length (List.replicate (Int.toNat (256:Int)) (FV.pv (Value.int IntKind.i64 (0)))) from by first | decide | rfl | trivial) oN)) [] (show AV from .own 3 (List.replicate (Int.toNat (256:Int)) (FV.pv (Value.int IntKind.i64 (0))))) (oL 3 za (List.replicate (Int.toNat 256) 0)) (fun q=>[(25,.ptr 50 0),(50,.agg [q,oL 27 zj ([]),oL 3 za ([]),oL 3 za ([])])]) ?_;refine qD ?_;refine sO oN [] [(28,vi 0)] ?_;refine bD (id:=0) ?_;obtain ⟨u,D,J,M⟩:=h;refine loE [] (u2 fun c b=>[(28,vi b),(50,.agg [oL 3 za c,oL 27 zj ([]),oL 3 za ([]),oL 3 za ([])])]) (u2 u) (u2 D) ((List.replicate (Int.toNat 256) 0),0) [] J ?_;rintro ⟨c,b⟩ hi;have h:=M c b hi;refine qD ?_;refine sM [] [(85,vB (decide (b < 256) && decide (b < (↑(List.length m):Int))))] ?_ (fun Y=>?_)
 ·refine cH 28 h (fun a2 h=>?_) (fun a2 h=>?_)
  ·refine kW [85] ?_;refine qD ?_;refine bD (id:=1) ?_;obtain ⟨b3,h⟩:=h;obtain ⟨b1,h⟩:=h;obtain ⟨a8,h⟩:=h;obtain ⟨b0,h⟩:=h;obtain ⟨b4,h⟩:=h;refine rV (nd (show (100:Int)≠(0:Int) from by first | decide | rfl | trivial) (xo zF rfl b3 b1 (nd (show (3:Int)≠(0:Int) from by first | decide | rfl | trivial) (nd a8 (nd (show Int.toNat (w64 ((97:Int)+Int.tmod b (100:Int))) < List.length (List.map za c) from by simpa only [nm] using b0) (el (show (List.map za c)[((0:Nat)+Int.toNat (w64 ((97:Int)+Int.tmod b (100:Int))):Nat)]?=some (fi (gd c (w64 ((97:Int)+Int.tmod b (100:Int))))) from by have:=zbu za c (w64 ((97:Int)+Int.tmod b (100:Int))) _ rfl a8 b4;simpa only [nm,enq,za] using this) oN)))))) [] (show AV from .own 3 (List.set (List.map za c) ((0:Nat)+Int.toNat (w64 ((97:Int)+Int.tmod b (100:Int)))) (FV.pv (Value.int IntKind.i64 (Int.tmod (w64 (gd m b)) (3:Int)))))) (oL 3 za (List.set c (Int.toNat (w64 (97+Int.tmod b 100))) (Int.tmod (w64 (gd m b)) 3))) (fun q=>[(50,.agg [q,oL 27 zj ([]),oL 3 za ([]),oL 3 za ([])])]) ?_;show Sem _ _ _ _ _;refine rO oN [] [(28,vi (w64 (b+1)))] ?_;exact lD ((List.set c (Int.toNat (w64 (97+Int.tmod b 100))) (Int.tmod (w64 (gd m b)) 3)),(w64 (b+1))) [] h
  ·refine xD (i:=0) ?_;show Sem _ _ _ _ _;refine wkD [7,28,85] ?_;obtain ⟨b5,h⟩:=h;obtain ⟨b2,h⟩:=h;refine sV (nd (show (0:Int)≤(255:Int) from by first | decide | rfl | trivial) (nd (show Int.toNat (255:Int) < List.length (List.map za c) from by simpa only [nm] using b5) (el (zbM za c (255) _ rfl b2) oN))) [] (show AV from .own 3 (List.set (List.map za c) (255:Nat) (FV.pv (Value.int IntKind.i64 (2))))) (oL 3 za (List.set c 255 2)) (fun q=>[(50,.agg [q,oL 27 zj ([]),oL 3 za ([]),oL 3 za ([])])]) ?_;refine sO oN [] [(31,vi 0)] ?_;refine qD ?_;refine sO oN [] [(34,vi 0)] ?_;refine bD (id:=2) ?_;obtain ⟨s,v,E,H⟩:=h;refine loE [] (u4 fun e d r i=>[(31,vi r),(34,vi i),(50,.agg [oL 3 za (List.set c 255 2),oL 27 zj e,oL 3 za d,oL 3 za ([])])]) (u4 s) (u4 v) (([]),([]),0,0) [] E ?_;rintro ⟨e,d,r,i⟩ hi;have h:=H e d r i hi;refine qD ?_;refine sO oN [] [(145,vB (decide (i < w64 (1+Int.tmod (w64 n) 8))))] ?_;refine cH 48 h (fun O h=>?_) (fun O h=>?_)
   ·refine kW [145] ?_;refine qD ?_;refine bD (id:=3) ?_;refine sO oN [] [(37,oL 3 za ([]))] ?_;refine qD ?_;refine sO oN [] [(40,vi 0)] ?_;refine bD (id:=4) ?_;obtain ⟨t,w,F,I⟩:=h;refine loE [] (u4 fun a j f p=>[(31,vi j),(37,oL 3 za f),(40,vi p),(50,.agg [oL 3 za (List.set c 255 2),oL 27 zj e,oL 3 za a,oL 3 za ([])])]) (u4 t) (u4 w) (d,r,([]),0) [] F ?_;rintro ⟨a,j,f,p⟩ hi;have h:=I a j f p hi;refine qD ?_;refine sO oN [] [(157,vB (decide (p < 4)))] ?_;refine cH 52 h (fun V h=>?_) (fun V h=>?_)
    ·refine kW [157] ?_;obtain ⟨B,Q,h⟩:=h;refine sjE (u2 B) [] (u2 fun g o=>[(31,vi (w64 (j+1))),(37,oL 3 za o),(50,.agg [oL 3 za (List.set c 255 2),oL 27 zj e,oL 3 za g,oL 3 za ([])])]) ?_ ?_
     ·rintro ⟨g,o⟩ hj;have h:=Q g o hj;refine rO oN [] [(40,vi (w64 (p+1)))] ?_;exact lD (g,(w64 (j+1)),o,(w64 (p+1))) [] h
     ·refine bD (id:=5) ?_;refine sO oN [] [(43,vi 0)] ?_;obtain ⟨A,R,h⟩:=h;refine sjE A [] (fun k=>[(43,vi k)]) ?_ ?_
      ·rintro k hj;have h:=R k hj;refine sO oN [] [(31,vi (w64 (j+1)))] ?_;refine sO oN [] [(202,vB (decide (p < 3)))] ?_;refine cH 67 h (fun U h=>?_) (fun U h=>?_)
       ·obtain ⟨a1,h⟩:=h;obtain ⟨a7,h⟩:=h;refine rOE (nd a1 (apo za f a7 oN)) [43,202] [(37,.own 3 (List.map za f++[FV.pv (Value.int IntKind.i64 (w64 (Int.tmod k (w64 (w64 (1+Int.tmod (w64 n) 8)+1)) - 1)))]))] [(37,oL 3 za (f++[w64 (Int.tmod k (w64 (w64 (1+Int.tmod (w64 n) 8)+1)) - 1)]))] ?_;exact jD (a,(f++[w64 (Int.tmod k (w64 (w64 (1+Int.tmod (w64 n) 8)+1)) - 1)])) [] h
       ·obtain ⟨N,h⟩:=h;obtain ⟨a4,h⟩:=h;obtain ⟨a3,h⟩:=h;obtain ⟨a9,h⟩:=h;refine rV (nd (show (4:Int)≠(0:Int) from by first | decide | rfl | trivial) (nd N (nd a4 (el (show ([FV.pv (Value.int IntKind.i64 (-1)),FV.pv (Value.int IntKind.i64 (-1)),FV.pv (Value.int IntKind.i64 (0)),FV.pv (Value.int IntKind.i64 (1))])[((0:Nat)+Int.toNat (Int.tmod k (4:Int)):Nat)]?=some (fi (gd [(-1:Int),(-1:Int),(0:Int),(1:Int)] (Int.tmod k (4:Int)))) from by have:=zbu za ([(-1:Int),(-1:Int),(0:Int),(1:Int)]) (Int.tmod k (4:Int)) _ rfl N a3;simpa only [nm,enq,za] using this) (apo za a a9 oN))))) [43,202] (show AV from .own 3 (List.map za a++[FV.pv (Value.int IntKind.i64 (gd [(-1:Int),(-1:Int),(0:Int),(1:Int)] (Int.tmod k (4:Int))))])) (oL 3 za (a++[gd [(-1:Int),(-1:Int),0,1] (Int.tmod k 4)])) (fun q=>[(50,.agg [oL 3 za (List.set c 255 2),oL 27 zj e,q,oL 3 za ([])])]) ?_;exact jD ((a++[gd [(-1:Int),(-1:Int),0,1] (Int.tmod k 4)]),f) [] h
      ·refine sV oN [] (List.length (List.map zF l)) (List.length l) (fun q=>[(175,vB (decide (j < (↑(q):Int))))]) ?_;refine cH 58 h (fun S h=>?_) (fun S h=>?_)
       ·obtain ⟨a5,h⟩:=h;obtain ⟨a0,h⟩:=h;refine rO (xo zF rfl a5 a0 oN) [175] [(43,vi (w64 (gd l j)))] ?_;exact jD (w64 (gd l j)) [] h
       ·refine kD ?_;exact jD 0 [] h
    ·refine xD (i:=4) ?_;show Sem _ _ _ _ _;refine wkD [40,157] ?_;obtain ⟨a6,h⟩:=h;refine rV (apo zj e a6 oN) [37] (show AV from .own 27 (List.map zj e++[FV.sl (List.take (List.length (List.map za f)) (List.drop (0:Nat) (List.map za f)))])) (oL 27 zj (e++[f])) (fun q=>[(50,.agg [oL 3 za (List.set c 255 2),q,oL 3 za a,oL 3 za ([])])]) ?_;show Sem _ _ _ _ _;refine rO oN [] [(34,vi (w64 (i+1)))] ?_;exact lD ((e++[f]),a,j,(w64 (i+1))) [] h
   ·refine xD (i:=2) ?_;show Sem _ _ _ _ _;refine wkD [1,31,34,145] ?_;obtain ⟨X,h⟩:=h;refine sV (nd (show (8:Int)≠(0:Int) from by first | decide | rfl | trivial) (nd X oN)) [4,22] (show AV from .own 3 ([FV.pv (Value.int IntKind.i64 (0)),FV.pv (Value.int IntKind.i64 (Int.tmod (w64 (Int.tdiv (w64 n) (8:Int))) (w64 ((1:Int)+Int.tmod (w64 n) (8:Int)))))])) (oL 3 za ([0,Int.tmod (w64 (Int.tdiv (w64 n) 8)) (w64 (1+Int.tmod (w64 n) 8))])) (fun q=>[(50,.agg [oL 3 za (List.set c 255 2),oL 27 zj e,oL 3 za d,q])]) ?_;refine sO (nd (show (0:Nat)=(0:Nat)∧List.length (List.map za (List.set c (255:Nat) (2:Int)))=List.length (List.map za (List.set c (255:Nat) (2:Int))) from ⟨rfl,rfl⟩) (nd (show (0:Nat)=(0:Nat)∧List.length (List.map zj e)=List.length (List.map zj e) from ⟨rfl,rfl⟩) (nd (show (0:Nat)=(0:Nat)∧List.length (List.map za d)=List.length (List.map za d) from ⟨rfl,rfl⟩) (nd (show (0:Nat)=(0:Nat)∧(2:Nat)=List.length (List.map za [(0:Int),Int.tmod (w64 (Int.tdiv (w64 n) (8:Int))) (w64 ((1:Int)+Int.tmod (w64 n) (8:Int)))]) from by first | decide | rfl | trivial | (simp only [nm]<;>first | decide | rfl | omega)) oN)))) [25,50] [(38,.agg [oL 3 za (List.set c 255 2),oL 27 zj e,oL 3 za d,oL 3 za ([0,Int.tmod (w64 (Int.tdiv (w64 n) 8)) (w64 (1+Int.tmod (w64 n) 8))])])] ?_;refine tD ?_;subst h;exact (endQ []).1
 ·rcases eft (decide (b < 256)) with y | y
  ·refine sV (g1 y 11113 oN) [] (List.length (List.map zF m)) (List.length m) (fun q=>[(85,vB (decide (b < (↑(q):Int))))]) ?_;exact Sem.cast (by try rw [y];kernel_rfl) Y
  ·refine sO (g1 y 11113 oN) [] [(85,vB false)] ?_;exact Sem.cast (by try rw [y];kernel_rfl) Y
end Go.Ev
namespace Go.Ev
open Go Go.Proofs
set_option maxRecDepth 8000
set_option maxHeartbeats 1000000
theorem zg3 (d:zZ) (res:zk)
 (h:(List.length d.Map * 8≤2 ^ 47)∧(∃ r0:Int,zav d.Map r0∧(List.length d.Accept * 8≤2 ^ 47)∧(List.length d.Start * 8≤2 ^ 47)∧(∃ (k:List Int→List Int→List Int→List Int→Int→Prop) (m:List Int→List Int→List Int→List Int→Int→Nat),k ([]) ([]) ([]) ([]) 0∧(∀ (g:List Int) (a:List Int) (b:List Int) (f:List Int) (i:Int),k g a b f i→(ck (decide (i < (↑(List.length d.Rows):Int))) (((List.length g+1) * 8≤2 ^ 47)∧((List.length a+1) * 8≤2 ^ 47)∧(∃ (l:List Int→List Int→Int→Prop) (n:List Int→List Int→Int→Nat),l b f 0∧(∀ (e:List Int) (c:List Int) (j:Int),l e c j→(0≤i)∧i < ↑(List.length d.Rows)∧(ck (decide (j < (↑(List.length (gd d.Rows i)):Int))) ((0≤i)∧i < ↑(List.length d.Rows)∧(0≤j)∧j < ↑(List.length (gd d.Rows i))∧((List.length e+1) * 8≤2 ^ 47)∧((List.length c+1) * 8≤2 ^ 47)∧(l (e++[gd (gd d.Rows i) j]) (c++[i]) (w64 (j+1))∧n (e++[gd (gd d.Rows i) j]) (c++[i]) (w64 (j+1)) < n e c j)) (k (g++[(↑(List.length b):Int)]) (a++[(-1:Int)]) e c (w64 (i+1))∧m (g++[(↑(List.length b):Int)]) (a++[(-1:Int)]) e c (w64 (i+1)) < m g a b f i))))) (res=({ Map:=d.Map,Width:=r0,Base:=g,Default:=a,Next:=b,Check:=f,Accept:=d.Accept,Start:=d.Start }))))))):zbe d res:=by
 have kk:=cfOk [68] 69;refine fE kk Tryz.func29 [(1,zar d)] ?_;refine sO oN [1] [(4,.ptr 8 0),(7,.ptr 14 0),(8,zar d),(14,.agg [oL 3 za ([]),vi 0,oL 3 za ([]),oL 3 za ([]),oL 3 za ([]),oL 3 za ([]),oL 3 za ([]),oL 3 za ([])])] ?_;obtain ⟨h0,h⟩:=h;obtain ⟨r0,I,h⟩:=h;obtain ⟨h2,h⟩:=h;obtain ⟨h3,h⟩:=h;refine sOE (nd (show ((0:Nat)+List.length (List.map za d.Map)) * (8:Nat)≤(2:Nat) ^ (47:Nat) from by simpa only [nm] using h0) (nd (show List.all (List.map za d.Map) (FV.fits (1:Nat))=true from by first | exact zgG _ | exact keysenc_i64 _ | rfl | simp [isByteF,FV.fits,FV.size,FV.cells,FV.one,za]) (ca I (nd (show ((0:Nat)+List.length (List.map za d.Accept)) * (8:Nat)≤(2:Nat) ^ (47:Nat) from by simpa only [nm] using h2) (nd (show List.all (List.map za d.Accept) (FV.fits (1:Nat))=true from by first | exact zgG _ | exact keysenc_i64 _ | rfl | simp [isByteF,FV.fits,FV.size,FV.cells,FV.one,za]) (nd (show ((0:Nat)+List.length (List.map za d.Start)) * (8:Nat)≤(2:Nat) ^ (47:Nat) from by simpa only [nm] using h3) (nd (show List.all (List.map za d.Start) (FV.fits (1:Nat))=true from by first | exact zgG _ | exact keysenc_i64 _ | rfl | simp [isByteF,FV.fits,FV.size,FV.cells,FV.one,za]) oN))))))) [] [(10,.ptr 20 0),(20,.agg [.f (FV.sl (List.take (List.length (List.map za d.Map)) (List.drop 0 (List.map za d.Map)))),vi r0,.own 3 ([]),.own 3 ([]),.own 3 ([]),.own 3 ([]),.f (FV.sl (List.take (List.length (List.map za d.Accept)) (List.drop 0 (List.map za d.Accept)))),.f (FV.sl (List.take (List.length (List.map za d.Start)) (List.drop 0 (List.map za d.Start))))])] [(10,.ptr 20 0),(20,.agg [vL za d.Map,vi r0,oL 3 za ([]),oL 3 za ([]),oL 3 za ([]),oL 3 za ([]),vL za d.Accept,vL za d.Start])] ?_;refine qD ?_;refine sO oN [] [(13,vi 0)] ?_;refine bD (id:=0) ?_;obtain ⟨k,m,p,s⟩:=h;refine loE [] (u5 fun g a b f i=>[(13,vi i),(20,.agg [vL za d.Map,vi r0,oL 3 za g,oL 3 za a,oL 3 za b,oL 3 za f,vL za d.Accept,vL za d.Start])]) (u5 k) (u5 m) (([]),([]),([]),([]),0) [] p ?_;rintro ⟨g,a,b,f,i⟩ hi;have h:=s g a b f i hi;refine qD ?_;refine sV oN [] (List.length (List.map zj d.Rows)) (List.length d.Rows) (fun q=>[(70,vB (decide (i < (↑(q):Int))))]) ?_;refine cH 23 h (fun t h=>?_) (fun t h=>?_)
 ·refine kW [70] ?_;refine qD ?_;refine bD (id:=1) ?_;obtain ⟨E,h⟩:=h;refine sV (apo za g E oN) [] (show AV from .own 3 (List.map za g++[FV.pv (Value.int IntKind.i64 (↑(List.length (List.map za b)):Int))])) (oL 3 za (g++[(↑(List.length b):Int)])) (fun q=>[(20,.agg [vL za d.Map,vi r0,q,oL 3 za a,oL 3 za b,oL 3 za f,vL za d.Accept,vL za d.Start])]) ?_;obtain ⟨y,h⟩:=h;refine sV (apo za a y oN) [] (show AV from .own 3 (List.map za a++[FV.pv (Value.int IntKind.i64 (-1))])) (oL 3 za (a++[(-1:Int)])) (fun q=>[(20,.agg [vL za d.Map,vi r0,oL 3 za (g++[(↑(List.length b):Int)]),q,oL 3 za b,oL 3 za f,vL za d.Accept,vL za d.Start])]) ?_;refine sO oN [] [(16,vi 0)] ?_;refine bD (id:=2) ?_;obtain ⟨l,n,o,r⟩:=h;refine loE [] (u3 fun e c j=>[(16,vi j),(20,.agg [vL za d.Map,vi r0,oL 3 za (g++[(↑(List.length b):Int)]),oL 3 za (a++[(-1:Int)]),oL 3 za e,oL 3 za c,vL za d.Accept,vL za d.Start])]) (u3 l) (u3 n) (b,f,0) [] o ?_;rintro ⟨e,c,j⟩ hi;have h:=r e c j hi;refine qD ?_;obtain ⟨D,h⟩:=h;obtain ⟨w,h⟩:=h;refine sV (xo zj rfl D w oN) [] (List.length (List.map za (gd d.Rows i))) (List.length (gd d.Rows i)) (fun q=>[(139,vB (decide (j < (↑(q):Int))))]) ?_;refine cH 46 h (fun u h=>?_) (fun u h=>?_)
  ·refine kW [139] ?_;refine qD ?_;refine bD (id:=3) ?_;obtain ⟨A,h⟩:=h;obtain ⟨v,h⟩:=h;obtain ⟨J,h⟩:=h;obtain ⟨F,h⟩:=h;obtain ⟨B,h⟩:=h;refine sV (xo zj rfl A v (xo za rfl J F (apo za e B oN))) [] (show AV from .own 3 (List.map za e++[FV.pv (Value.int IntKind.i64 (gd (gd d.Rows i) j))])) (oL 3 za (e++[gd (gd d.Rows i) j])) (fun q=>[(20,.agg [vL za d.Map,vi r0,oL 3 za (g++[(↑(List.length b):Int)]),oL 3 za (a++[(-1:Int)]),q,oL 3 za c,vL za d.Accept,vL za d.Start])]) ?_;obtain ⟨H,h⟩:=h;refine rV (apo za c H oN) [] (show AV from .own 3 (List.map za c++[FV.pv (Value.int IntKind.i64 i)])) (oL 3 za (c++[i])) (fun q=>[(20,.agg [vL za d.Map,vi r0,oL 3 za (g++[(↑(List.length b):Int)]),oL 3 za (a++[(-1:Int)]),oL 3 za (e++[gd (gd d.Rows i) j]),q,vL za d.Accept,vL za d.Start])]) ?_;show Sem _ _ _ _ _;refine rO oN [] [(16,vi (w64 (j+1)))] ?_;exact lD ((e++[gd (gd d.Rows i) j]),(c++[i]),(w64 (j+1))) [] h
  ·refine xD (i:=2) ?_;show Sem _ _ _ _ _;refine wkD [16,139] ?_;refine rO oN [] [(13,vi (w64 (i+1)))] ?_;exact lD ((g++[(↑(List.length b):Int)]),(a++[(-1:Int)]),e,c,(w64 (i+1))) [] h
 ·refine xD (i:=0) ?_;show Sem _ _ _ _ _;refine wkD [4,8,13,70] ?_;refine sO (nd (show (0:Nat)=(0:Nat)∧List.length (List.map za g)=List.length (List.map za g) from ⟨rfl,rfl⟩) (nd (show (0:Nat)=(0:Nat)∧List.length (List.map za a)=List.length (List.map za a) from ⟨rfl,rfl⟩) (nd (show (0:Nat)=(0:Nat)∧List.length (List.map za b)=List.length (List.map za b) from ⟨rfl,rfl⟩) (nd (show (0:Nat)=(0:Nat)∧List.length (List.map za f)=List.length (List.map za f) from ⟨rfl,rfl⟩) oN)))) [10,20] [(14,.agg [vL za d.Map,vi r0,oL 3 za g,oL 3 za a,oL 3 za b,oL 3 za f,vL za d.Accept,vL za d.Start])] ?_;refine tD ?_;subst h;exact (endQ []).1
theorem zhz (l:(List Int)) (k:(List Int)) (n:Int) (m:(List Int)) (res:zd)
 (h:(∃ r0:zr,zbJ l false r0∧(∃ b:zZ,zcO k n m b∧(∃ (p:List Int→Int→Prop) (s:List Int→Int→Nat),p b.Accept 0∧(∀ (a:List Int) (i:Int),p a i→(ck (decide (i < (↑(List.length a):Int))) (∃ w:List Int→Prop,(∀ (f:List Int),w f→(p f (w64 (i+1))∧s f (w64 (i+1)) < s a i))∧(0≤i)∧(Int.toNat i < List.length a)∧i < ↑(List.length a)∧((decide (gd a i≥(↑(List.length (List.map zg r0.Rules)):Int)))=false→(0≤i))∧((decide (gd a i≥(↑(List.length (List.map zg r0.Rules)):Int)))=false→(Int.toNat i < List.length a))∧((decide (gd a i≥(↑(List.length (List.map zg r0.Rules)):Int)))=false→i < ↑(List.length a))∧((decide (gd a i≥(↑(List.length (List.map zg r0.Rules)):Int)))=false→((decide (gd a i≥0))=true→(0≤i)))∧((decide (gd a i≥(↑(List.length (List.map zg r0.Rules)):Int)))=false→((decide (gd a i≥0))=true→(Int.toNat i < List.length a)))∧((decide (gd a i≥(↑(List.length (List.map zg r0.Rules)):Int)))=false→((decide (gd a i≥0))=true→i < ↑(List.length a)))∧((decide (gd a i≥(↑(List.length (List.map zg r0.Rules)):Int)))=false→((decide (gd a i≥0))=true→(0≤gd a i)))∧((decide (gd a i≥(↑(List.length (List.map zg r0.Rules)):Int)))=false→((decide (gd a i≥0))=true→(Int.toNat (gd a i) < List.length r0.Rules)))∧((decide (gd a i≥(↑(List.length (List.map zg r0.Rules)):Int)))=false→((decide (gd a i≥0))=true→gd a i < ↑(List.length r0.Rules)))∧(ck (decide (gd a i≥(↑(List.length (List.map zg r0.Rules)):Int)) || decide (gd a i≥0) && (gd r0.Rules (gd a i)).Eof) ((0≤i)∧(Int.toNat i < List.length a)∧i < ↑(List.length a)∧w (List.set a (Int.toNat i) (-1:Int))) (w a))) (∃ (o:List Int→Int→Prop) (r:List Int→Int→Nat),o ([]) 0∧(∀ (c:List Int) (j:Int),o c j→(ck (decide (j < w64 (2 * (↑(List.length r0.Conds):Int)))) ((w64 ((↑(List.length b.Rows):Int)+1)≠0)∧((List.length c+1) * 8≤2 ^ 47)∧(o (c++[w64 (Int.tmod j (w64 ((↑(List.length b.Rows):Int)+1)) - 1)]) (w64 (j+1))∧r (c++[w64 (Int.tmod j (w64 ((↑(List.length b.Rows):Int)+1)) - 1)]) (w64 (j+1)) < r c j)) (∃ d:zk,zbe ({ Map:=b.Map,Rows:=b.Rows,Accept:=a,Start:=c }) d∧(res=({ Spec:=r0,Tables:=d })))))))))))):zcN l k n m res:=by
 have kk:=cfOk [] 84;refine fE kk Tryz.func14 [(1,vL zF l),(4,vL zF k),(7,vI .u8 n),(10,vL zF m)] ?_;refine sO oN [] [(25,.ptr 50 0),(50,.agg [oL 81 zn ([]),vB false,oL 57 zg ([]),oL 3 za ([]),vi 0,oL 3 za ([]),oL 3 za ([]),oL 3 za ([]),oL 3 za ([]),oL 3 za ([]),oL 3 za ([])])] ?_;obtain ⟨r0,a5,h⟩:=h;refine sO (ca a5 oN) [1] [(28,.ptr 56 0),(56,.agg [vL zn r0.Conds,vB r0.Default,oL 57 zg r0.Rules])] ?_;obtain ⟨b,a6,h⟩:=h;refine sO (ca a6 oN) [4,7,10] [(31,.ptr 62 0),(62,zhs b)] ?_;refine qD ?_;refine sO oN [] [(34,vi 0)] ?_;refine bD (id:=0) ?_;obtain ⟨p,s,y,A⟩:=h;refine loE [] (u2 fun a i=>[(34,vi i),(62,.agg [oL 3 za b.Map,oL 27 zj b.Rows,oL 3 za a,oL 3 za b.Start])]) (u2 p) (u2 s) (b.Accept,0) [] y ?_;rintro ⟨a,i⟩ hi;have h:=A a i hi;refine qD ?_;refine sV oN [] (List.length (List.map za a)) (List.length a) (fun q=>[(70,vB (decide (i < (↑(q):Int))))]) ?_;refine cH 23 h (fun a4 h=>?_) (fun a4 h=>?_)
 ·refine kW [70] ?_;obtain ⟨w,a1,h⟩:=h;refine sjE w [] (fun f=>[(62,.agg [oL 3 za b.Map,oL 27 zj b.Rows,oL 3 za f,oL 3 za b.Start])]) ?_ ?_
  ·rintro f hj;have h:=a1 f hj;refine rO oN [] [(34,vi (w64 (i+1)))] ?_;exact lD (f,(w64 (i+1))) [] h
  ·refine bD (id:=1) ?_;obtain ⟨u,h⟩:=h;obtain ⟨N,h⟩:=h;obtain ⟨M,h⟩:=h;obtain ⟨B,V,a3,E,U,R,F,Q,S,h⟩:=h;refine sM [] [(163,vB (decide (gd a i≥(↑(List.length (List.map zg r0.Rules)):Int)) || decide (gd a i≥0) && (gd r0.Rules (gd a i)).Eof))] ?_ (fun I=>?_)
   ·refine cH 54 h (fun J h=>?_) (fun J h=>?_)
    ·obtain ⟨D,h⟩:=h;obtain ⟨Y,h⟩:=h;obtain ⟨X,h⟩:=h;refine rV (nd D (nd (show Int.toNat i < List.length (List.map za a) from by simpa only [nm] using Y) (el (show (List.map za a)[((0:Nat)+Int.toNat i:Nat)]?=some (fi (gd a i)) from by have:=zbu za a i _ rfl D X;simpa only [nm,enq,za] using this) oN))) [163] (show AV from .own 3 (List.set (List.map za a) ((0:Nat)+Int.toNat i) (FV.pv (Value.int IntKind.i64 (-1))))) (oL 3 za (List.set a (Int.toNat i) (-1:Int))) (fun q=>[(62,.agg [oL 3 za b.Map,oL 27 zj b.Rows,q,oL 3 za b.Start])]) ?_;exact jD (List.set a (Int.toNat i) (-1:Int)) [] h
    ·refine kD ?_;exact jD a [] h
   ·rcases eft (decide (gd a i≥(↑(List.length (List.map zg r0.Rules)):Int))) with e | e
    ·refine sO (nd u (nd (show Int.toNat i < List.length (List.map za a) from by simpa only [nm] using N) (el (show (List.map za a)[((0:Nat)+Int.toNat i:Nat)]?=some (fi (gd a i)) from by have:=zbu za a i _ rfl u M;simpa only [nm,enq,za] using this) (g1 e 222222223 oN)))) [] [(163,vB true)] ?_;exact Sem.cast (by try rw [e];kernel_rfl) I
    ·rcases eft (decide (gd a i≥0)) with g | g
     ·refine sO (nd u (nd (show Int.toNat i < List.length (List.map za a) from by simpa only [nm] using N) (el (show (List.map za a)[((0:Nat)+Int.toNat i:Nat)]?=some (fi (gd a i)) from by have:=zbu za a i _ rfl u M;simpa only [nm,enq,za] using this) (g1 e 2222 (nd (B e) (nd (show Int.toNat i < List.length (List.map za a) from by simpa only [nm] using (V e)) (g1 e 2 (el (show (List.map za a)[((0:Nat)+Int.toNat i:Nat)]?=some (fi (gd a i)) from by have:=zbu za a i _ rfl (B e) (a3 e);simpa only [nm,enq,za] using this) (g2 g e 55111111 (nd ((E e) g) (nd (show Int.toNat i < List.length (List.map za a) from by simpa only [nm] using ((U e) g)) (g1 g 1 (el (show (List.map za a)[((0:Nat)+Int.toNat i:Nat)]?=some (fi (gd a i)) from by have:=zbu za a i _ rfl ((E e) g) ((R e) g);simpa only [nm,enq,za] using this) (g1 g 1 (nd ((F e) g) (nd (show Int.toNat (gd a i) < List.length (List.map zg r0.Rules) from by simpa only [nm] using ((Q e) g)) (g1 g 11 (el (show (List.map zg r0.Rules)[((0:Nat)+Int.toNat (gd a i):Nat)]?=some (zdu (gd r0.Rules (gd a i))) from by have:=zbu zg r0.Rules (gd a i) _ (zaA _) ((F e) g) ((S e) g);simpa only [nm,enq,zaA] using this) (g2 e g 263 oN))))))))))))))))))) [] [(163,vB (gd r0.Rules (gd a i)).Eof)] ?_;exact Sem.cast (by try rw [e];try rw [g];kernel_rfl) I
     ·refine sO (nd u (nd (show Int.toNat i < List.length (List.map za a) from by simpa only [nm] using N) (el (show (List.map za a)[((0:Nat)+Int.toNat i:Nat)]?=some (fi (gd a i)) from by have:=zbu za a i _ rfl u M;simpa only [nm,enq,za] using this) (g1 e 2222 (nd (B e) (nd (show Int.toNat i < List.length (List.map za a) from by simpa only [nm] using (V e)) (g1 e 2 (el (show (List.map za a)[((0:Nat)+Int.toNat i:Nat)]?=some (fi (gd a i)) from by have:=zbu za a i _ rfl (B e) (a3 e);simpa only [nm,enq,za] using this) (g2 e g 224444444444263 oN))))))))) [] [(163,vB false)] ?_;exact Sem.cast (by try rw [e];try rw [g];kernel_rfl) I
 ·refine xD (i:=0) ?_;show Sem _ _ _ _ _;refine wkD [34,70] ?_;refine sO oN [] [(62,.agg [oL 3 za b.Map,oL 27 zj b.Rows,oL 3 za a,oL 3 za ([])])] ?_;refine qD ?_;refine sO oN [] [(37,vi 0)] ?_;refine bD (id:=2) ?_;obtain ⟨o,r,t,v⟩:=h;refine loE [] (u2 fun c j=>[(37,vi j),(62,.agg [oL 3 za b.Map,oL 27 zj b.Rows,oL 3 za a,oL 3 za c])]) (u2 o) (u2 r) (([]),0) [] t ?_;rintro ⟨c,j⟩ hi;have h:=v c j hi;refine qD ?_;refine sV oN [] (List.length (List.map zn r0.Conds)) (List.length r0.Conds) (fun q=>[(196,vB (decide (j < w64 (2 * (↑(q):Int)))))]) ?_;refine cH 65 h (fun H h=>?_) (fun H h=>?_)
  ·refine kW [196] ?_;refine qD ?_;refine bD (id:=3) ?_;obtain ⟨a0,h⟩:=h;obtain ⟨a2,h⟩:=h;refine rV (nd (show w64 ((↑(List.length (List.map zj b.Rows)):Int)+1)≠(0:Int) from by simpa only [nm] using a0) (apo za c a2 oN)) [] (show AV from .own 3 (List.map za c++[FV.pv (Value.int IntKind.i64 (w64 (Int.tmod j (w64 ((↑(List.length (List.map zj b.Rows)):Int)+1)) - 1)))])) (oL 3 za (c++[w64 (Int.tmod j (w64 ((↑(List.length b.Rows):Int)+1)) - 1)])) (fun q=>[(62,.agg [oL 3 za b.Map,oL 27 zj b.Rows,oL 3 za a,q])]) ?_;show Sem _ _ _ _ _;refine rO oN [] [(37,vi (w64 (j+1)))] ?_;exact lD ((c++[w64 (Int.tmod j (w64 ((↑(List.length b.Rows):Int)+1)) - 1)]),(w64 (j+1))) [] h
  ·refine xD (i:=2) ?_;show Sem _ _ _ _ _;refine wkD [37,196] ?_;obtain ⟨d,O,h⟩:=h;refine sOE (ca (Eq.mp (by unfold zbe;(try simp only [List.drop_zero,List.take_length]);first | done | simp only [nm,enq]:zbe ({ Map:=b.Map,Rows:=b.Rows,Accept:=a,Start:=c }) d=CallE Tryz.prog 29 [.agg [.f (FV.sl (List.take (List.length (List.map za b.Map)) (List.drop 0 (List.map za b.Map)))),.f (FV.sl (List.take (List.length (List.map zj b.Rows)) (List.drop 0 (List.map zj b.Rows)))),.f (FV.sl (List.take (List.length (List.map za a)) (List.drop 0 (List.map za a)))),.f (FV.sl (List.take (List.length (List.map za c)) (List.drop 0 (List.map za c))))]] [] (.agg [vL za d.Map,vi d.Width,oL 3 za d.Base,oL 3 za d.Default,oL 3 za d.Next,oL 3 za d.Check,vL za d.Accept,vL za d.Start]) []) O) oN) [28,31,56,62] [(50,.agg [vL zn r0.Conds,vB r0.Default,.f (FV.sl (List.take (List.length (List.map zg r0.Rules)) (List.drop 0 (List.map zg r0.Rules)))),vL za d.Map,vi d.Width,.f (FV.sl (List.take (List.length (List.map za d.Base)) (List.drop 0 (List.map za d.Base)))),.f (FV.sl (List.take (List.length (List.map za d.Default)) (List.drop 0 (List.map za d.Default)))),.f (FV.sl (List.take (List.length (List.map za d.Next)) (List.drop 0 (List.map za d.Next)))),.f (FV.sl (List.take (List.length (List.map za d.Check)) (List.drop 0 (List.map za d.Check)))),vL za d.Accept,vL za d.Start])] [(50,.agg [vL zn r0.Conds,vB r0.Default,vL zg r0.Rules,vL za d.Map,vi d.Width,vL za d.Base,vL za d.Default,vL za d.Next,vL za d.Check,vL za d.Accept,vL za d.Start])] ?_;refine tD ?_;subst h;exact (endQ []).1
theorem zet (l:(List Int)) (k:(List Int)) (n:Int) (m:(List Int)) (t:(List Int)) (res:Bool)
 (h:(∃ r0:Bool,zbC r0∧(ck (!r0) (res=false) (∃ c:zd,zcN l k n m c∧(∃ o:ByteArray,zcA t o∧(∃ a:zi,∃ O:Int,zbA c o a O∧(∃ (M:Int→Int→Prop) (a1:Int→Int→Nat),M 0 0∧(∀ (e:Int) (i:Int),M e i→(ck (decide (i < (↑(List.length a.Tokens):Int))) ((0≤i)∧i < ↑(List.length a.Tokens)∧(ck ((gd a.Tokens i).Start != e || (decide ((gd a.Tokens i).Rule < (-1:Int)) || decide ((gd a.Tokens i).Rule≥(↑(List.length (zr.Rules c.Spec)):Int)))) (res=false) (((decide ((gd a.Tokens i).Rule≥0))=true→(0≤(gd a.Tokens i).Rule))∧((decide ((gd a.Tokens i).Rule≥0))=true→(gd a.Tokens i).Rule < ↑(List.length (zr.Rules c.Spec)))∧(ck (decide ((gd a.Tokens i).End < e) || bif (gd a.Tokens i).End == e then !(decide ((gd a.Tokens i).Rule≥0) && (gd (zr.Rules c.Spec) (gd a.Tokens i).Rule).Eof) || bif decide ((gd a.Tokens i).Rule≥0) && (gd (zr.Rules c.Spec) (gd a.Tokens i).Rule).Eof then e != (↑(ByteArray.size o):Int) || (decide (w64 (i+1) < (↑(List.length (List.map zp a.Tokens)):Int)) || decide ((gd a.Tokens i).Rule < 0) && ((gd a.Tokens i).End != w64 (e+1) || !zr.Default c.Spec)) else decide ((gd a.Tokens i).Rule < 0) && ((gd a.Tokens i).End != w64 (e+1) || !zr.Default c.Spec) else bif decide ((gd a.Tokens i).Rule≥0) && (gd (zr.Rules c.Spec) (gd a.Tokens i).Rule).Eof then e != (↑(ByteArray.size o):Int) || (decide (w64 (i+1) < (↑(List.length (List.map zp a.Tokens)):Int)) || decide ((gd a.Tokens i).Rule < 0) && ((gd a.Tokens i).End != w64 (e+1) || !zr.Default c.Spec)) else decide ((gd a.Tokens i).Rule < 0) && ((gd a.Tokens i).End != w64 (e+1) || !zr.Default c.Spec)) (res=false) (M (gd a.Tokens i).End (w64 (i+1))∧a1 (gd a.Tokens i).End (w64 (i+1)) < a1 e i))))) (res=(r0 && (O == 0 && bif a.Jam == e then bif decide (e < (↑(ByteArray.size o):Int)) then !zr.Default c.Spec || a.Jam == (-1:Int) && e == (↑(ByteArray.size o):Int) else a.Jam == (-1:Int) && e == (↑(ByteArray.size o):Int) else a.Jam == (-1:Int) && e == (↑(ByteArray.size o):Int))))))))))))):zbD l k n m t res:=by
 have kk:=cfOk [] 164;refine fE kk Tryz.func5 [(1,vL zF l),(4,vL zF k),(7,vI .u8 n),(10,vL zF m),(13,vL zF t)] ?_;refine sO oN [] [] ?_;obtain ⟨r0,a8,h⟩:=h;refine sO (ca a8 oN) [] [(34,vB r0)] ?_;refine qD ?_;refine sO oN [] [(67,vB (!r0))] ?_;refine cH 22 h (fun b2 h=>?_) (fun b2 h=>?_)
 ·refine sO oN [1,4,7,10,13,34,67] [(31,vB false)] ?_;refine tD ?_;subst h;exact (endQ []).1
 ·refine kW [67] ?_;obtain ⟨c,a7,h⟩:=h;obtain ⟨o,b3,h⟩:=h;refine sO (ca a7 (ca b3 oN)) [1,4,7,10,13] [(37,.ptr 74 0),(40,vS o),(74,zE c)] ?_;obtain ⟨a,O,b1,h⟩:=h;refine sO (ca b1 oN) [] [(43,.ptr 86 0),(46,vi O),(86,zaU a)] ?_;refine sO oN [] [(49,vi 0)] ?_;refine qD ?_;refine sO oN [] [(52,vi 0)] ?_;refine bD (id:=0) ?_;obtain ⟨M,a1,a2,a3⟩:=h;refine loE [] (u2 fun e i=>[(49,vi e),(52,vi i)]) (u2 M) (u2 a1) (0,0) [] a2 ?_;rintro ⟨e,i⟩ hi;have h:=a3 e i hi;refine qD ?_;refine sV oN [] (List.length (List.map zp a.Tokens)) (List.length a.Tokens) (fun q=>[(121,vB (decide (i < (↑(q):Int))))]) ?_;refine cH 40 h (fun a5 h=>?_) (fun a5 h=>?_)
  ·refine kW [121] ?_;refine qD ?_;refine bD (id:=1) ?_;obtain ⟨b4,h⟩:=h;obtain ⟨a9,h⟩:=h;refine sO (xo zp (z7 _) b4 a9 oN) [] [(55,.ptr 110 0),(110,zc0 (gd a.Tokens i))] ?_;refine qD ?_;refine sM [] [(196,vB ((gd a.Tokens i).Start != e || (decide ((gd a.Tokens i).Rule < (-1:Int)) || decide ((gd a.Tokens i).Rule≥(↑(List.length (zr.Rules c.Spec)):Int)))))] ?_ (fun j=>?_)
   ·refine cH 65 h (fun a4 h=>?_) (fun a4 h=>?_)
    ·refine sO oN [34,37,40,43,46,49,52,55,74,86,110,196] [(31,vB false)] ?_;refine tD ?_;subst h;exact (endQ []).1
    ·refine kW [196] ?_;obtain ⟨b5,b0,h⟩:=h;refine sM [] [(58,vB (decide ((gd a.Tokens i).Rule≥0) && (gd (zr.Rules c.Spec) (gd a.Tokens i).Rule).Eof))] ?_ (fun j=>?_)
     ·refine qD ?_;refine sM [49,58] [(382,vB (decide ((gd a.Tokens i).End < e) || bif (gd a.Tokens i).End == e then !(decide ((gd a.Tokens i).Rule≥0) && (gd (zr.Rules c.Spec) (gd a.Tokens i).Rule).Eof) || bif decide ((gd a.Tokens i).Rule≥0) && (gd (zr.Rules c.Spec) (gd a.Tokens i).Rule).Eof then e != (↑(ByteArray.size o):Int) || (decide (w64 (i+1) < (↑(List.length (List.map zp a.Tokens)):Int)) || decide ((gd a.Tokens i).Rule < 0) && ((gd a.Tokens i).End != w64 (e+1) || !zr.Default c.Spec)) else decide ((gd a.Tokens i).Rule < 0) && ((gd a.Tokens i).End != w64 (e+1) || !zr.Default c.Spec) else bif decide ((gd a.Tokens i).Rule≥0) && (gd (zr.Rules c.Spec) (gd a.Tokens i).Rule).Eof then e != (↑(ByteArray.size o):Int) || (decide (w64 (i+1) < (↑(List.length (List.map zp a.Tokens)):Int)) || decide ((gd a.Tokens i).Rule < 0) && ((gd a.Tokens i).End != w64 (e+1) || !zr.Default c.Spec)) else decide ((gd a.Tokens i).Rule < 0) && ((gd a.Tokens i).End != w64 (e+1) || !zr.Default c.Spec)))] ?_ (fun j=>?_)
      ·refine cH 127 h (fun a6 h=>?_) (fun a6 h=>?_)
       ·refine sO oN [34,37,40,43,46,52,55,74,86,110,382] [(31,vB false)] ?_;refine tD ?_;subst h;exact (endQ []).1
       ·refine kW [382] ?_;refine rO oN [55,110] [(49,vi (gd a.Tokens i).End)] ?_;show Sem _ _ _ _ _;refine rO oN [] [(52,vi (w64 (i+1)))] ?_;exact lD ((gd a.Tokens i).End,(w64 (i+1))) [] h
      ·rcases eft (decide ((gd a.Tokens i).End < e)) with b | b
       ·refine sO (g1 b 22222238887888887 oN) [49,58] [(382,vB true)] ?_;exact Sem.cast (by try rw [b];kernel_rfl) j
       ·rcases eft ((gd a.Tokens i).End == e) with d | d
        ·rcases eft (!(decide ((gd a.Tokens i).Rule≥0) && (gd (zr.Rules c.Spec) (gd a.Tokens i).Rule).Eof)) with g | g
         ·refine sO (g2 d b 555551153 (g2 g b 62223888887 oN)) [49,58] [(382,vB true)] ?_;exact Sem.cast (by try rw [b];try rw [d];try rw [g];kernel_rfl) j
         ·rcases eft (decide ((gd a.Tokens i).Rule≥0) && (gd (zr.Rules c.Spec) (gd a.Tokens i).Rule).Eof) with p | p
          ·rcases eft (e != (↑(ByteArray.size o):Int)) with w | w
           ·refine sO (g2 d b 555551153 (g2 g b 622 (g2 w p 4444422222243 (g2 g p 263888887 oN)))) [49,58] [(382,vB true)] ?_;exact Sem.cast (by try rw [b];try rw [d];try rw [g];try rw [p];try rw [w];kernel_rfl) j
           ·rcases eft (decide (w64 (i+1) < (↑(List.length (List.map zp a.Tokens)):Int))) with v | v
            ·refine sO (g2 d b 555551153 (g2 g b 622 (g2 w p 4444422222243 (g2 p g 53 (g2 v g 6222223 oN))))) [49,58] [(382,vB true)] ?_;exact Sem.cast (by try rw [b];try rw [d];try rw [g];try rw [p];try rw [w];try rw [v];kernel_rfl) j
            ·rcases eft (decide ((gd a.Tokens i).Rule < 0)) with D | D
             ·rcases eft ((gd a.Tokens i).End != w64 (e+1)) with S | S
              ·refine sO (g2 d b 555551153 (g2 g b 622 (g2 w p 4444422222243 (g2 p g 53 (g2 v g 62222 (g2 S D 444444222243 (g2 v D 263 oN))))))) [49,58] [(382,vB true)] ?_;exact Sem.cast (by try rw [b];try rw [d];try rw [g];try rw [p];try rw [w];try rw [v];try rw [D];try rw [S];kernel_rfl) j
              ·refine sO (g2 d b 555551153 (g2 g b 622 (g2 w p 4444422222243 (g2 p g 53 (g2 v g 62222 (g2 S D 444444222243 (g2 v D 263 oN))))))) [49,58] [(382,vB (!zr.Default c.Spec))] ?_;exact Sem.cast (by try rw [b];try rw [d];try rw [g];try rw [p];try rw [w];try rw [v];try rw [D];try rw [S];kernel_rfl) j
             ·refine sO (g2 d b 555551153 (g2 g b 622 (g2 w p 4444422222243 (g2 g p 263 (g2 v D 22224444444263 oN))))) [49,58] [(382,vB false)] ?_;exact Sem.cast (by try rw [b];try rw [d];try rw [g];try rw [p];try rw [w];try rw [v];try rw [D];kernel_rfl) j
          ·rcases eft (decide ((gd a.Tokens i).Rule < 0)) with J | J
           ·rcases eft ((gd a.Tokens i).End != w64 (e+1)) with R | R
            ·refine sO (g2 b d 2222244263 (g2 g p 22444444263 (g2 J R 7777111111555516738 oN))) [49,58] [(382,vB true)] ?_;exact Sem.cast (by try rw [b];try rw [d];try rw [g];try rw [p];try rw [J];try rw [R];kernel_rfl) j
            ·refine sO (g2 b d 2222244263 (g2 g p 22444444263 (g2 J R 7777111111555516738 oN))) [49,58] [(382,vB (!zr.Default c.Spec))] ?_;exact Sem.cast (by try rw [b];try rw [d];try rw [g];try rw [p];try rw [J];try rw [R];kernel_rfl) j
           ·refine sO (g2 b d 2222244263 (g2 p g 5511111153 (g2 J g 677771111111738 oN))) [49,58] [(382,vB false)] ?_;exact Sem.cast (by try rw [b];try rw [d];try rw [g];try rw [p];try rw [J];kernel_rfl) j
        ·rcases eft (decide ((gd a.Tokens i).Rule≥0) && (gd (zr.Rules c.Spec) (gd a.Tokens i).Rule).Eof) with r | r
         ·rcases eft (e != (↑(ByteArray.size o):Int)) with B | B
          ·refine sO (g2 b d 2222244263 (g2 r B 771111155555516738888887 oN)) [49,58] [(382,vB true)] ?_;exact Sem.cast (by try rw [b];try rw [d];try rw [r];try rw [B];kernel_rfl) j
          ·rcases eft (decide (w64 (i+1) < (↑(List.length (List.map zp a.Tokens)):Int))) with A | A
           ·refine sO (g2 b d 2222244263 (g2 B r 774444422222243 (g2 A r 768222223 oN))) [49,58] [(382,vB true)] ?_;exact Sem.cast (by try rw [b];try rw [d];try rw [r];try rw [B];try rw [A];kernel_rfl) j
           ·rcases eft (decide ((gd a.Tokens i).Rule < 0)) with F | F
            ·rcases eft ((gd a.Tokens i).End != w64 (e+1)) with X | X
             ·refine sO (g2 b d 2222244263 (g2 B r 774444422222243 (g2 A r 7682222 (g2 X F 444444222243 (g2 A F 263 oN))))) [49,58] [(382,vB true)] ?_;exact Sem.cast (by try rw [b];try rw [d];try rw [r];try rw [B];try rw [A];try rw [F];try rw [X];kernel_rfl) j
             ·refine sO (g2 b d 2222244263 (g2 B r 774444422222243 (g2 A r 7682222 (g2 X F 444444222243 (g2 A F 263 oN))))) [49,58] [(382,vB (!zr.Default c.Spec))] ?_;exact Sem.cast (by try rw [b];try rw [d];try rw [r];try rw [B];try rw [A];try rw [F];try rw [X];kernel_rfl) j
            ·refine sO (g2 b d 2222244263 (g2 r B 77111115555551673 (g2 A F 822224444444263 oN))) [49,58] [(382,vB false)] ?_;exact Sem.cast (by try rw [b];try rw [d];try rw [r];try rw [B];try rw [A];try rw [F];kernel_rfl) j
         ·rcases eft (decide ((gd a.Tokens i).Rule < 0)) with I | I
          ·rcases eft ((gd a.Tokens i).End != w64 (e+1)) with Q | Q
           ·refine sO (g2 d b 555551153 (g2 r b 67711111173 (g2 I Q 87777111111555516738 oN))) [49,58] [(382,vB true)] ?_;exact Sem.cast (by try rw [b];try rw [d];try rw [r];try rw [I];try rw [Q];kernel_rfl) j
           ·refine sO (g2 d b 555551153 (g2 r b 67711111173 (g2 I Q 87777111111555516738 oN))) [49,58] [(382,vB (!zr.Default c.Spec))] ?_;exact Sem.cast (by try rw [b];try rw [d];try rw [r];try rw [I];try rw [Q];kernel_rfl) j
          ·refine sO (g2 b d 2222244263 (g2 I r 7744444476877771111111738 oN)) [49,58] [(382,vB false)] ?_;exact Sem.cast (by try rw [b];try rw [d];try rw [r];try rw [I];kernel_rfl) j
     ·rcases eft (decide ((gd a.Tokens i).Rule≥0)) with H | H
      ·refine sO (g1 H 111111 (xo zg (zaA _) (b5 H) (b0 H) (g1 H 113 oN))) [] [(58,vB (gd (zr.Rules c.Spec) (gd a.Tokens i).Rule).Eof)] ?_;exact Sem.cast (by try rw [H];kernel_rfl) j
      ·refine sO (g1 H 111111113 oN) [] [(58,vB false)] ?_;exact Sem.cast (by try rw [H];kernel_rfl) j
   ·rcases eft ((gd a.Tokens i).Start != e) with N | N
    ·refine sO (g1 N 222388888887 oN) [] [(196,vB true)] ?_;exact Sem.cast (by try rw [N];kernel_rfl) j
    ·rcases eft (decide ((gd a.Tokens i).Rule < (-1:Int))) with V | V
     ·refine sO (g2 V N 555622222223 oN) [] [(196,vB true)] ?_;exact Sem.cast (by try rw [N];try rw [V];kernel_rfl) j
     ·refine sV (g2 V N 555622222223 oN) [] (List.length (List.map zg (zr.Rules c.Spec))) (List.length (zr.Rules c.Spec)) (fun q=>[(196,vB (decide ((gd a.Tokens i).Rule≥(↑(q):Int))))]) ?_;exact Sem.cast (by try rw [N];try rw [V];kernel_rfl) j
  ·refine xD (i:=0) ?_;show Sem _ _ _ _ _;refine wkD [52,121] ?_;refine sM [34,37,40,43,46,49,74,86] [(31,vB (r0 && (O == 0 && bif a.Jam == e then bif decide (e < (↑(ByteArray.size o):Int)) then !zr.Default c.Spec || a.Jam == (-1:Int) && e == (↑(ByteArray.size o):Int) else a.Jam == (-1:Int) && e == (↑(ByteArray.size o):Int) else a.Jam == (-1:Int) && e == (↑(ByteArray.size o):Int))))] ?_ (fun j=>?_)
   ·refine tD ?_;subst h;exact (endQ []).1
   ·rcases eft (r0) with s | s
    ·rcases eft (O == 0) with f | f
     ·rcases eft (a.Jam == e) with u | u
      ·rcases eft (decide (e < (↑(ByteArray.size o):Int))) with y | y
       ·rcases eft (!zr.Default c.Spec) with E | E
        ·refine sO (g1 s 113 (g2 u f 44444111143 (g2 y f 4111143 (g2 f E 155555163 oN)))) [34,37,40,43,46,49,74,86] [(31,vB true)] ?_;exact Sem.cast (by try rw [s];try rw [f];try rw [u];try rw [y];try rw [E];kernel_rfl) j
        ·rcases eft (a.Jam == (-1:Int)) with a0 | a0
         ·refine sO (g1 s 113 (g2 u f 44444111143 (g2 f y 14444161 (g2 a0 E 5555111153 (g2 f E 163 oN))))) [34,37,40,43,46,49,74,86] [(31,vB (e == (↑(ByteArray.size o):Int)))] ?_;exact Sem.cast (by try rw [s];try rw [f];try rw [u];try rw [y];try rw [E];try rw [a0];kernel_rfl) j
         ·refine sO (g1 s 113 (g2 u f 44444111143 (g2 f y 14444161 (g2 a0 E 5555111153 (g2 f E 163 oN))))) [34,37,40,43,46,49,74,86] [(31,vB false)] ?_;exact Sem.cast (by try rw [s];try rw [f];try rw [u];try rw [y];try rw [E];try rw [a0];kernel_rfl) j
       ·rcases eft (a.Jam == (-1:Int)) with U | U
        ·refine sO (g1 s 113 (g2 u f 44444111143 (g2 y f 4111143 (g2 f U 17777444476183 oN)))) [34,37,40,43,46,49,74,86] [(31,vB (e == (↑(ByteArray.size o):Int)))] ?_;exact Sem.cast (by try rw [s];try rw [f];try rw [u];try rw [y];try rw [U];kernel_rfl) j
        ·refine sO (g1 s 113 (g2 u f 44444111143 (g2 y f 4111143 (g2 f U 17777444476183 oN)))) [34,37,40,43,46,49,74,86] [(31,vB false)] ?_;exact Sem.cast (by try rw [s];try rw [f];try rw [u];try rw [y];try rw [U];kernel_rfl) j
      ·rcases eft (a.Jam == (-1:Int)) with Y | Y
       ·refine sO (g1 s 113 (g2 u f 44444111143 (g2 f Y 188881817777444476183 oN))) [34,37,40,43,46,49,74,86] [(31,vB (e == (↑(ByteArray.size o):Int)))] ?_;exact Sem.cast (by try rw [s];try rw [f];try rw [u];try rw [Y];kernel_rfl) j
       ·refine sO (g1 s 113 (g2 u f 44444111143 (g2 f Y 188881817777444476183 oN))) [34,37,40,43,46,49,74,86] [(31,vB false)] ?_;exact Sem.cast (by try rw [s];try rw [f];try rw [u];try rw [Y];kernel_rfl) j
     ·refine sO (g2 f s 44611111111113 oN) [34,37,40,43,46,49,74,86] [(31,vB false)] ?_;exact Sem.cast (by try rw [s];try rw [f];kernel_rfl) j
    ·refine sO (g1 s 11388888888888 oN) [34,37,40,43,46,49,74,86] [(31,vB false)] ?_;exact Sem.cast (by try rw [s];kernel_rfl) j
theorem W_set_Has (s0:zb) (b:Int) (res:Bool)
 (h:(ck (decide (b≥0)) (ck (decide (b < 256)) ((w64 (Int.tdiv b 64)=0∨w64 (Int.tdiv b 64)=1∨w64 (Int.tdiv b 64)=2∨w64 (Int.tdiv b 64)=3)∧((decide (w64 (Int.tdiv b 64)=0))=true→((decide (b≥0))=true→((decide (b < 256))=true→((decide (w64 (Int.tdiv b 64)=0))=true→(0≤Int.tmod b 64))))∧(res=(IntKind.wrap IntKind.u64 (↑(BitVec.toNat (BitVec.ofInt (IntKind.bits IntKind.u64) s0.e0 &&& BitVec.ofInt (IntKind.bits IntKind.u64) (IntKind.wrap IntKind.u64 (1 * 2 ^ Min.min (Int.toNat (Int.tmod b 64)) (IntKind.bits IntKind.u64))))):Int) != 0)))∧((decide (w64 (Int.tdiv b 64)=1))=true→((decide (b≥0))=true→((decide (b < 256))=true→((decide (w64 (Int.tdiv b 64)=1))=true→(0≤Int.tmod b 64))))∧(res=(IntKind.wrap IntKind.u64 (↑(BitVec.toNat (BitVec.ofInt (IntKind.bits IntKind.u64) s0.e1 &&& BitVec.ofInt (IntKind.bits IntKind.u64) (IntKind.wrap IntKind.u64 (1 * 2 ^ Min.min (Int.toNat (Int.tmod b 64)) (IntKind.bits IntKind.u64))))):Int) != 0)))∧((decide (w64 (Int.tdiv b 64)=2))=true→((decide (b≥0))=true→((decide (b < 256))=true→((decide (w64 (Int.tdiv b 64)=2))=true→(0≤Int.tmod b 64))))∧(res=(IntKind.wrap IntKind.u64 (↑(BitVec.toNat (BitVec.ofInt (IntKind.bits IntKind.u64) s0.e2 &&& BitVec.ofInt (IntKind.bits IntKind.u64) (IntKind.wrap IntKind.u64 (1 * 2 ^ Min.min (Int.toNat (Int.tmod b 64)) (IntKind.bits IntKind.u64))))):Int) != 0)))∧((decide (w64 (Int.tdiv b 64)=3))=true→((decide (b≥0))=true→((decide (b < 256))=true→((decide (w64 (Int.tdiv b 64)=3))=true→(0≤Int.tmod b 64))))∧(res=(IntKind.wrap IntKind.u64 (↑(BitVec.toNat (BitVec.ofInt (IntKind.bits IntKind.u64) s0.e3 &&& BitVec.ofInt (IntKind.bits IntKind.u64) (IntKind.wrap IntKind.u64 (1 * 2 ^ Min.min (Int.toNat (Int.tmod b 64)) (IntKind.bits IntKind.u64))))):Int) != 0)))) (res=false)) (res=false))):zg8 s0 b res:=by
 have kk:=cfOk [] 22;refine fE kk Tryz.func122 [(1,zQ s0),(4,vi b)] ?_;refine sO oN [1] [(7,.ptr 14 0),(14,zQ s0)] ?_;rcases eft (decide (b≥0)) with d | d
 ·have h:=h.1 d;rcases eft (decide (b < 256)) with a | a
  ·have h:=h.1 a;obtain ⟨e,h⟩:=h;rcases e with c | c | c | c
   ·have c:=decide_eq_true c;have h:=h.1 c;obtain ⟨h3,h⟩:=h;refine sO (g2 a d 44611 (nd (show (64:Int)≠(0:Int) from by first | decide | rfl | trivial) (g1 a 1 (op (.n 0) (of_decide_eq_true c) (g1 a 111 (nd (show (64:Int)≠(0:Int) from by first | decide | rfl | trivial) (g1 a 1 (nd (((h3 d) a) c) (g1 a 113 oN))))))))) [4,7,14] [(13,vB (IntKind.wrap IntKind.u64 (↑(BitVec.toNat (BitVec.ofInt (IntKind.bits IntKind.u64) s0.e0 &&& BitVec.ofInt (IntKind.bits IntKind.u64) (IntKind.wrap IntKind.u64 (1 * 2 ^ Min.min (Int.toNat (Int.tmod b 64)) (IntKind.bits IntKind.u64))))):Int) != 0))] ?_;refine tD ?_;subst h;exact (endQ []).1
   ·have c:=decide_eq_true c;have h:=h.2.1 c;obtain ⟨h4,h⟩:=h;refine sO (g2 a d 44611 (nd (show (64:Int)≠(0:Int) from by first | decide | rfl | trivial) (g1 a 1 (op (.n 1) (of_decide_eq_true c) (g1 a 111 (nd (show (64:Int)≠(0:Int) from by first | decide | rfl | trivial) (g1 a 1 (nd (((h4 d) a) c) (g1 a 113 oN))))))))) [4,7,14] [(13,vB (IntKind.wrap IntKind.u64 (↑(BitVec.toNat (BitVec.ofInt (IntKind.bits IntKind.u64) s0.e1 &&& BitVec.ofInt (IntKind.bits IntKind.u64) (IntKind.wrap IntKind.u64 (1 * 2 ^ Min.min (Int.toNat (Int.tmod b 64)) (IntKind.bits IntKind.u64))))):Int) != 0))] ?_;refine tD ?_;subst h;exact (endQ []).1
   ·have c:=decide_eq_true c;have h:=h.2.2.1 c;obtain ⟨h5,h⟩:=h;refine sO (g2 a d 44611 (nd (show (64:Int)≠(0:Int) from by first | decide | rfl | trivial) (g1 a 1 (op (.n 2) (of_decide_eq_true c) (g1 a 111 (nd (show (64:Int)≠(0:Int) from by first | decide | rfl | trivial) (g1 a 1 (nd (((h5 d) a) c) (g1 a 113 oN))))))))) [4,7,14] [(13,vB (IntKind.wrap IntKind.u64 (↑(BitVec.toNat (BitVec.ofInt (IntKind.bits IntKind.u64) s0.e2 &&& BitVec.ofInt (IntKind.bits IntKind.u64) (IntKind.wrap IntKind.u64 (1 * 2 ^ Min.min (Int.toNat (Int.tmod b 64)) (IntKind.bits IntKind.u64))))):Int) != 0))] ?_;refine tD ?_;subst h;exact (endQ []).1
   ·have c:=decide_eq_true c;have h:=h.2.2.2 c;obtain ⟨h6,h⟩:=h;refine sO (g2 a d 44611 (nd (show (64:Int)≠(0:Int) from by first | decide | rfl | trivial) (g1 a 1 (op (.n 3) (of_decide_eq_true c) (g1 a 111 (nd (show (64:Int)≠(0:Int) from by first | decide | rfl | trivial) (g1 a 1 (nd (((h6 d) a) c) (g1 a 113 oN))))))))) [4,7,14] [(13,vB (IntKind.wrap IntKind.u64 (↑(BitVec.toNat (BitVec.ofInt (IntKind.bits IntKind.u64) s0.e3 &&& BitVec.ofInt (IntKind.bits IntKind.u64) (IntKind.wrap IntKind.u64 (1 * 2 ^ Min.min (Int.toNat (Int.tmod b 64)) (IntKind.bits IntKind.u64))))):Int) != 0))] ?_;refine tD ?_;subst h;exact (endQ []).1
  ·have h:=h.2 a;refine sO (g2 a d 4461111111113 oN) [4,7,14] [(13,vB false)] ?_;refine tD ?_;subst h;exact (endQ []).1
 ·have h:=h.2 d;refine sO (g1 d 1138888888888 oN) [4,7,14] [(13,vB false)] ?_;refine tD ?_;subst h;exact (endQ []).1
theorem zhv (r0:zaR) (d:Int) (res:Bool)
 (h:(∃ (f:Int→Prop) (k:Int→Nat),f 0∧(∀ (a:Int),f a→(ck (decide (a < (↑(List.length r0.Conds):Int))) ((0≤a)∧a < ↑(List.length r0.Conds)∧((decide (gd r0.Conds a < 0))=false→((decide (gd r0.Conds a≥d))=false→((decide (a > 0))=true→(0≤w64 (a - 1)))))∧((decide (gd r0.Conds a < 0))=false→((decide (gd r0.Conds a≥d))=false→((decide (a > 0))=true→w64 (a - 1) < ↑(List.length r0.Conds))))∧(ck (decide (gd r0.Conds a < 0) || (decide (gd r0.Conds a≥d) || decide (a > 0) && decide (gd r0.Conds a≤gd r0.Conds (w64 (a - 1))))) (res=false) (f (w64 (a+1))∧k (w64 (a+1)) < k a))) (res=(!r0.All || (↑(List.length r0.Conds):Int) == 0)))))):zcK r0 d res:=by
 have kk:=cfOk [] 46;refine fE kk Tryz.func110 [(1,zaW r0),(4,vi d)] ?_;refine sO oN [1] [(7,.ptr 14 0),(14,zaW r0)] ?_;refine qD ?_;refine sV oN [] (List.length (List.map za r0.Conds)) (List.length r0.Conds) (fun q=>[(25,vL za r0.Conds),(28,vi ((↑(q):Int))),(31,vi 0)]) ?_;refine bD (id:=0) ?_;obtain ⟨f,k,l,m⟩:=h;refine loE [] (fun a=>[(31,vi a)]) f k 0 [] l ?_;rintro a hi;have h:=m a hi;refine sO oN [] [(34,vB (decide (a < (↑(List.length r0.Conds):Int))))] ?_;refine qD ?_;refine cH 11 h (fun n h=>?_) (fun n h=>?_)
 ·refine kW [34] ?_;refine qD ?_;refine bD (id:=1) ?_;obtain ⟨p,h⟩:=h;obtain ⟨r,h⟩:=h;refine sO (xo za rfl p r oN) [] [(16,vi a),(19,vi (gd r0.Conds a))] ?_;obtain ⟨s,t,h⟩:=h;refine sM [16,19] [(106,vB (decide (gd r0.Conds a < 0) || (decide (gd r0.Conds a≥d) || decide (a > 0) && decide (gd r0.Conds a≤gd r0.Conds (w64 (a - 1))))))] ?_ (fun j=>?_)
  ·refine cH 35 h (fun o h=>?_) (fun o h=>?_)
   ·refine sO oN [4,7,14,25,28,31,106] [(13,vB false)] ?_;refine tD ?_;subst h;exact (endQ []).1
   ·refine kW [106] ?_;refine rO oN [] [(31,vi (w64 (a+1)))] ?_;exact lD (w64 (a+1)) [] h
  ·rcases eft (decide (gd r0.Conds a < 0)) with b | b
   ·refine sO (g1 b 222388887 oN) [16,19] [(106,vB true)] ?_;exact Sem.cast (by try rw [b];kernel_rfl) j
   ·rcases eft (decide (gd r0.Conds a≥d)) with c | c
    ·refine sO (g2 c b 555622223 oN) [16,19] [(106,vB true)] ?_;exact Sem.cast (by try rw [b];try rw [c];kernel_rfl) j
    ·rcases eft (decide (a > 0)) with e | e
     ·refine sO (g1 b 2223 (g2 e c 555111111 (xo za rfl (((s b) c) e) (((t b) c) e) (g2 c e 44263 oN)))) [16,19] [(106,vB (decide (gd r0.Conds a≤gd r0.Conds (w64 (a - 1)))))] ?_;exact Sem.cast (by try rw [b];try rw [c];try rw [e];kernel_rfl) j
     ·refine sO (g1 b 2223 (g2 c e 22244444444263 oN)) [16,19] [(106,vB false)] ?_;exact Sem.cast (by try rw [b];try rw [c];try rw [e];kernel_rfl) j
 ·refine xD (i:=0) ?_;show Sem _ _ _ _ _;refine wkD [4,25,28,31,34] ?_;refine sM [7,14] [(13,vB (!r0.All || (↑(List.length r0.Conds):Int) == 0))] ?_ (fun j=>?_)
  ·refine tD ?_;subst h;exact (endQ []).1
  ·rcases eft (!r0.All) with g | g
   ·refine sO (g1 g 22223 oN) [7,14] [(13,vB true)] ?_;exact Sem.cast (by try rw [g];kernel_rfl) j
   ·refine sV (g1 g 22223 oN) [7,14] (List.length (List.map za r0.Conds)) (List.length r0.Conds) (fun q=>[(13,vB ((↑(q):Int) == 0))]) ?_;exact Sem.cast (by try rw [g];kernel_rfl) j
theorem zh4 (r0:zaR) (a:Int) (res:Bool)
 (h:(ck (r0.Act == 3) (res=(decide (r0.To≥0) && decide (r0.To < a))) (res=(bif r0.Act == 1 then r0.To == 0 else r0.Act == 2 && r0.To == 0)))):zc6 r0 a res:=by
 have kk:=cfOk [] 30;refine fE kk Tryz.func111 [(1,zaW r0),(4,vi a)] ?_;refine sO oN [1] [(7,.ptr 14 0),(14,zaW r0)] ?_;refine qD ?_;refine sO oN [] [(22,vB (r0.Act == 3))] ?_;refine cH 7 h (fun f h=>?_) (fun f h=>?_)
 ·refine sM [4,7,14,22] [(13,vB (decide (r0.To≥0) && decide (r0.To < a)))] ?_ (fun c=>?_)
  ·refine tD ?_;subst h;exact (endQ []).1
  ·rcases eft (decide (r0.To≥0)) with d | d
   ·refine sO (g1 d 11113 oN) [4,7,14,22] [(13,vB (decide (r0.To < a)))] ?_;exact Sem.cast (by try rw [d];kernel_rfl) c
   ·refine sO (g1 d 11113 oN) [4,7,14,22] [(13,vB false)] ?_;exact Sem.cast (by try rw [d];kernel_rfl) c
 ·refine kW [4,22] ?_;refine sM [7,14] [(13,vB (bif r0.Act == 1 then r0.To == 0 else r0.Act == 2 && r0.To == 0))] ?_ (fun c=>?_)
  ·refine tD ?_;subst h;exact (endQ []).1
  ·rcases eft (r0.Act == 1) with b | b
   ·refine sO (g1 b 22237777 oN) [7,14] [(13,vB (r0.To == 0))] ?_;exact Sem.cast (by try rw [b];kernel_rfl) c
   ·rcases eft (r0.Act == 2) with e | e
    ·refine sO (g2 e b 55561113 oN) [7,14] [(13,vB (r0.To == 0))] ?_;exact Sem.cast (by try rw [b];try rw [e];kernel_rfl) c
    ·refine sO (g2 e b 55561113 oN) [7,14] [(13,vB false)] ?_;exact Sem.cast (by try rw [b];try rw [e];kernel_rfl) c
theorem zf1 (r0:zaR) (res:Bool)
 (h:(ck r0.Eof (ck (!r0.Bol) (∃ d:Bool,zby r0.Rx d∧(ck (d) (∃ f:Bool,zby r0.Trail f∧(res=f)) (res=false))) (res=false)) (∃ e:Bool,zcL r0.Rx e∧(ck (e) (∃ c:Bool,zby r0.Trail c∧(ck (c) (res=true) (∃ g:Bool,zcL r0.Trail g∧(res=g)))) (res=false))))):zb7 r0 res:=by
 have kk:=cfOk [] 31;refine fE kk Tryz.func112 [(1,zaW r0)] ?_;refine sO oN [1] [(4,.ptr 8 0),(8,zaW r0)] ?_;refine qD ?_;refine sO oN [] [(13,vB r0.Eof)] ?_;refine cH 4 h (fun p h=>?_) (fun p h=>?_)
 ·rcases eft (!r0.Bol) with b | b
  ·have h:=h.1 b;obtain ⟨d,l,h⟩:=h;rcases eft (d) with j | j
   ·have h:=h.1 j;obtain ⟨f,o,h⟩:=h;refine sO (g1 b 111 (ca l (g2 j b 6111 (ca o (g1 j 3 oN))))) [4,8,13] [(7,vB f)] ?_;refine tD ?_;subst h;exact (endQ []).1
   ·have h:=h.2 j;refine sO (g1 b 111 (ca l (g2 j b 61113 oN))) [4,8,13] [(7,vB false)] ?_;refine tD ?_;subst h;exact (endQ []).1
  ·have h:=h.2 b;refine sO (g1 b 11138888 oN) [4,8,13] [(7,vB false)] ?_;refine tD ?_;subst h;exact (endQ []).1
 ·refine kW [13] ?_;obtain ⟨e,k,h⟩:=h;rcases eft (e) with a | a
  ·have h:=h.1 a;obtain ⟨c,m,h⟩:=h;rcases eft (c) with i | i
   ·have h:=h.1 i;refine sO (ca k (g1 a 111 (ca m (g2 a i 1555163 oN)))) [4,8] [(7,vB true)] ?_;refine tD ?_;subst h;exact (endQ []).1
   ·have h:=h.2 i;obtain ⟨g,n,h⟩:=h;refine sO (ca k (g1 a 111 (ca m (g2 i a 4222 (ca n (g2 a i 163 oN)))))) [4,8] [(7,vB g)] ?_;refine tD ?_;subst h;exact (endQ []).1
  ·have h:=h.2 a;refine sO (ca k (g1 a 111113 oN)) [4,8] [(7,vB false)] ?_;refine tD ?_;subst h;exact (endQ []).1
theorem zjz (x:zf) (res:Bool)
 (h:(res=(x.Kind == 0 && (zb.e0 x.Set == 0 && (zb.e1 x.Set == 0 && (zb.e2 x.Set == 0 && (zb.e3 x.Set == 0 && true))) && (x.Lo == 0 && (x.Hi == 0 && (↑(List.length x.Kids):Int) == 0)))))):zby x res:=by
 have kk:=cfOk [] 28;refine fE kk Tryz.func133 [(1,zD x)] ?_;refine sO oN [1] [(4,.ptr 8 0),(8,zD x)] ?_;refine sM [4,8] [(7,vB (x.Kind == 0 && (zb.e0 x.Set == 0 && (zb.e1 x.Set == 0 && (zb.e2 x.Set == 0 && (zb.e3 x.Set == 0 && true))) && (x.Lo == 0 && (x.Hi == 0 && (↑(List.length x.Kids):Int) == 0)))))] ?_ (fun d=>?_)
 ·refine tD ?_;subst h;exact (endQ []).1
 ·rcases eft (x.Kind == 0) with a | a
  ·rcases eft (zb.e0 x.Set == 0 && (zb.e1 x.Set == 0 && (zb.e2 x.Set == 0 && (zb.e3 x.Set == 0 && true)))) with b | b
   ·rcases eft (x.Lo == 0) with c | c
    ·rcases eft (x.Hi == 0) with e | e
     ·refine sV (g2 b a 444461113 (g2 e c 444611113 oN)) [4,8] (List.length (List.map zc x.Kids)) (List.length x.Kids) (fun q=>[(7,vB ((↑(q):Int) == 0))]) ?_;exact Sem.cast (by try rw [a];try rw [b];try rw [c];try rw [e];kernel_rfl) d
     ·refine sO (g2 b a 444461113 (g2 e c 444611113 oN)) [4,8] [(7,vB false)] ?_;exact Sem.cast (by try rw [a];try rw [b];try rw [c];try rw [e];kernel_rfl) d
    ·refine sO (g1 a 11113 (g2 c b 4446111388888 oN)) [4,8] [(7,vB false)] ?_;exact Sem.cast (by try rw [a];try rw [b];try rw [c];kernel_rfl) d
   ·refine sO (g2 b a 444461113888888888 oN) [4,8] [(7,vB false)] ?_;exact Sem.cast (by try rw [a];try rw [b];kernel_rfl) d
  ·refine sO (g1 a 111138888888888888 oN) [4,8] [(7,vB false)] ?_;exact Sem.cast (by try rw [a];kernel_rfl) d
end Go.Ev
namespace Go.Ev
open Go Go.RowKit
variable {P : Program}
def noCE:CEx:=fun _ _ _ _ _=>False
theorem RM.wp_det {G:Sta} {U1 U2:List Up} {T1 T2:List Acc}:∀ (m:RM) (T:List Acc),m.wp noCE G T (fun U' T'=>U'=U1∧T'=T1)→m.wp noCE G T (fun U' T'=>U'=U2∧T'=T2)→U1=U2∧T1=T2
 | .ret U,T,⟨h1,h2⟩,⟨h3,h4⟩=>⟨h1.symm.trans h3,h2.symm.trans h4⟩
 | .fail,T,h,_=>h.elim
 | .ask b o k,T,⟨v,h1,h2,h3⟩,⟨v',g1,g2,g3⟩=>by
   rw [h1] at g1;cases g1
   exact RM.wp_det (k v) _ h3 g3
 | .peek b k,T,⟨v,h1,h2⟩,⟨v',g1,g2⟩=>by
   rw [h1] at g1;cases g1
   exact RM.wp_det (k _) _ h2 g2
 | .call g args outs k,T,⟨r,o,h1,h2⟩,_=>h1.elim
section
variable {CE : CEx} {c : Cfg} {G G' : Sta} {own : Own} {a : Act} {w : World} {ops : Array Oper} {X : Nat → Nat → Bool}
variable {F : Fence} {n : Nat} {Q : Exit → Act → World → Prop}
def Tp (ops:Array Oper):List Ent→Prop
 | []=>True
 | x :: r=>(∀ o,ops[x.i]?=some o→∀ e∈o.after,Region.binds .any e=true→e.on < ops.size∧∀ y∈x :: r,e.on≠y.i)∧Tp ops r
def entOkX (ops:Array Oper) (X:Nat→Nat→Bool):List Ent→Prop
 | []=>True
 | x :: r=>(∀ y∈r,anc ops ops.size x.i y.i=false→X x.i y.i=false→x.ind y)∧entOkX ops X r
theorem Tp.mid:∀ {p:List Ent} {y:Ent} {r:List Ent},Tp ops (p++y :: r)→Tp ops (p++r)
 | [],y,r,h=>h.2
 | x :: p,y,r,h=>by
   refine ⟨fun o ho e he hb=>?_,Tp.mid h.2⟩
   obtain ⟨h1,h2⟩:=h.1 o ho e he hb
   refine ⟨h1,fun z hz=>h2 z ?_⟩
   show z∈(x :: p)++y :: r
   have hz:z∈(x :: p)++r:=hz
   rcases List.mem_append.1 hz with hz | hz
   ·exact List.mem_append_left _ hz
   ·exact List.mem_append_right _ (List.mem_cons_of_mem _ hz)
theorem entOkX.mid:∀ {p:List Ent} {y:Ent} {r:List Ent},entOkX ops X (p++y :: r)→(∀ x∈p,anc ops ops.size x.i y.i=false→X x.i y.i=false→x.ind y)∧entOkX ops X (p++r)
 | [],y,r,h=>⟨fun x hx=>by simp at hx,h.2⟩
 | x :: p,y,r,h=>by
   obtain ⟨h1,h2⟩:=h
   obtain ⟨h3,h4⟩:=entOkX.mid h2
   refine ⟨fun z hz=>?_,fun z hz=>h1 z ?_,h4⟩
   ·rcases List.mem_cons.1 hz with rfl | hz
    ·exact h1 y (by simp)
    ·exact h3 z hz
   ·have hz:z∈p++r:=hz
    show z∈p++y :: r
    rcases List.mem_append.1 hz with hz | hz
    ·exact List.mem_append_left _ hz
    ·exact List.mem_append_right _ (List.mem_cons_of_mem _ hz)
structure Pl (ops:Array Oper) (X:Nat→Nat→Bool) (es:List Ent) (listed:Array Bool):Prop where
 sz:listed.size=ops.size
 cl:Closed ops listed
 ls:∀ i,i < ops.size→(listed.getD i true=false↔i∈es.map (·.i))
 lt:∀ x∈es,x.i < ops.size
 nd:(es.map (·.i)).Nodup
 tp:Tp ops es
 ok:entOkX ops X es
theorem Pl.empty {es:List Ent} {listed:Array Bool} (h:Pl ops X es listed) (hr:Region.ready .any ops listed=[]):es=[]:=by
 cases es with
 | nil=>rfl
 | cons x es=>
   exfalso
   have hx:=h.lt x (List.mem_cons_self ..)
   have:x.i∈Region.ready .any ops listed:=by
    rw [mem_ready]
    refine ⟨(h.ls x.i hx).2 (by simp),ops[x.i],by simp [hx],fun e he hb=>?_⟩
    obtain ⟨h2,h3⟩:=h.tp.1 ops[x.i] (by simp [hx]) e he hb
    cases hle:listed.getD e.on false with
    | true=>rfl
    | false=>
      have:listed.getD e.on true=false:=by
       simp only [Array.getD_eq_getD_getElem?,Array.getElem?_eq_getElem (show e.on < listed.size by rw [h.sz];exact h2),Option.getD_some] at hle ⊢;exact hle
      have:=(h.ls e.on h2).1 this
      obtain ⟨y,hy,e1⟩:=List.mem_map.1 this
      exact absurd e1.symm (h3 y hy)
   rw [hr] at this;cases this
theorem Pl.pick {es:List Ent} {listed:Array Bool} (h:Pl ops X es listed) {i:Nat} (hi:i∈Region.ready .any ops listed) (hX:∀ x∈es,x.i≠i→X x.i i=false) (hrun:Runs CE (stepRM c ops) es G G') :
 ∃ (y:Ent) (es':List Ent),y.i=i∧(stepRM c ops y.i).wp CE G [] (fun U' T'=>U'=y.U∧T'=y.T)∧Runs CE (stepRM c ops) es' (app y.U G) G'∧Pl ops X es' (listed.setIfInBounds i true)∧es'.length+1=es.length∧(∀ z∈es',z∈es)∧(∀ z∈es',z.i≠i)∧∀ z∈es,z.i≠i→z∈es':=by
 obtain ⟨h1,o,ho,hready⟩:=mem_ready.1 hi
 have hilt:i < ops.size:=(Array.getElem?_eq_some_iff.1 ho).1
 have hmem:=(h.ls i hilt).1 h1
 obtain ⟨y,hy,rfl⟩:=List.mem_map.1 hmem
 obtain ⟨p,r,rfl⟩:=List.append_of_mem hy
 obtain ⟨hm1,hm2⟩:=entOkX.mid h.ok
 have hnd:=h.nd
 have hnotin:∀ z∈p++r,z.i≠y.i:=by
  intro z hz e
  rw [List.map_append,List.map_cons,List.nodup_append,List.nodup_cons] at hnd
  rcases List.mem_append.1 hz with hz | hz
  ·exact hnd.2.2 z.i (List.mem_map.2 ⟨z,hz,rfl⟩) y.i (by simp) e
  ·exact hnd.2.1.1 (e▸List.mem_map.2 ⟨z,hz,rfl⟩)
 have hind:∀ x∈p,x.ind y:=by
  intro x hx
  refine hm1 x hx ?_ (hX x (List.mem_append_left _ hx) (hnotin x (List.mem_append_left _ hx)))
  cases ha:anc ops ops.size x.i y.i with
  | false=>rfl
  | true=>
    have hxl:=zht h.sz h.cl ops.size x.i y.i ha (fun o' ho' e he hb=>by rw [ho] at ho';cases ho';exact hready e he hb)
    have hxlt:=h.lt x (List.mem_append_left _ hx)
    have:listed.getD x.i true=false:=(h.ls x.i hxlt).2 (by simp [List.mem_map];exact .inl ⟨x,hx,rfl⟩)
    have hsz:=h.sz
    simp only [Array.getD_eq_getD_getElem?,Array.getElem?_eq_getElem (show x.i < listed.size by omega),Option.getD_some] at hxl this
    rw [hxl] at this;cases this
 obtain ⟨r1,r2⟩:=Runs.front hind hrun
 have hsub:(p++r).Sublist (p++y :: r):=List.Sublist.append (List.Sublist.refl _) (List.sublist_cons_self _ _)
 refine ⟨y,p++r,rfl,r1,r2,⟨by simpa using h.sz,?_,?_,fun x hx=>h.lt x (hsub.mem hx),hnd.sublist (hsub.map _),h.tp.mid,hm2⟩,by simp;omega,fun z hz=>hsub.mem hz,hnotin,?_⟩
 ·intro j o' ho' hj e he hb
  have hlst:listed.getD e.on false=true→(listed.setIfInBounds y.i true).getD e.on false=true:=fun h=>getD_set_true h
  by_cases hjy:y.i=j
  ·subst hjy
   rw [ho] at ho';cases ho'
   exact hlst (hready e he hb)
  ·rw [getD_set_ne true hjy] at hj
   exact hlst (h.cl j o' ho' hj e he hb)
 ·intro j hj
  by_cases hjy:y.i=j
  ·subst hjy
   have hsz:=h.sz
   have:(listed.setIfInBounds y.i true).getD y.i true=true:=by
    simp [Array.getD_eq_getD_getElem?,Array.getElem?_setIfInBounds,show y.i < listed.size by omega]
   rw [this]
   simp only [Bool.true_eq_false,false_iff]
   intro hmem
   obtain ⟨z,hz,e⟩:=List.mem_map.1 hmem
   exact hnotin z hz e
  ·rw [getD_set_ne true hjy,h.ls j hj]
   simp only [List.map_append,List.map_cons,List.mem_append,List.mem_cons]
   constructor
   ·rintro (h | h | h)
    ·exact .inl h
    ·exact absurd h.symm hjy
    ·exact .inr h
   ·rintro (h | h)
    ·exact .inl h
    ·exact .inr (.inr h)
 ·intro z hz hzi
  rcases List.mem_append.1 hz with hz | hz
  ·exact List.mem_append_left _ hz
  ·rcases List.mem_cons.1 hz with rfl | hz
   ·exact absurd rfl hzi
   ·exact List.mem_append_right _ hz
theorem Pl.done {es:List Ent} {listed:Array Bool} (he:es=[]) (s:St P c.nt G own a w) (h:Runs CE (stepRM c ops) es G G')
 (hq:∀ own' a' w',St P c.nt G' own' a' w'→Tr own w own' w'→a'.defers=a.defers→Q .normal a' w'):Q .normal a w:=by
 subst he
 have:G=G':=h
 subst this
 exact hq own a w s (Tr.refl _ _) rfl
theorem Pl.end {es:List Ent} {listed:Array Bool} (h:Pl ops X es listed) (he:es=[]):Region.ready .any ops listed=[]:=by
 subst he
 cases hr:Region.ready .any ops listed with
 | nil=>rfl
 | cons i r=>
   have:i∈Region.ready .any ops listed:=by rw [hr];exact List.mem_cons_self ..
   obtain ⟨h1,o,ho,_⟩:=mem_ready.1 this
   have hi:i < ops.size:=(Array.getElem?_eq_some_iff.1 ho).1
   have:=(h.ls i hi).1 h1
   simp at this
theorem runs_one (hc:CfgOk P c) (hip:IpsOk P c) (hCE:∀ g args outs r outs',CE g args outs r outs'→CallE P g args outs r outs') (hF:WideF P F):∀ (fuel:Nat) (es:List Ent) {listed:Array Bool} {G G':Sta} {own:Own} {a:Act} {w:World},
 es.length≤fuel→Pl ops X es listed→(∀ x∈es,∀ y∈es,X x.i y.i=false)→
 St P c.nt G own a w→Runs CE (stepRM c ops) es G G'→(∀ own' a' w',St P c.nt G' own' a' w'→Tr own w own' w'→a'.defers=a.defers→Q .normal a' w')→wpAnyIn F n P .any ops Q fuel listed a w:=by
 intro fuel
 induction fuel with
 | zero=>
   intro es listed G G' own a w hf hp hX s h hq
   have he:es=[]:=List.length_eq_zero_iff.1 (by omega)
   exact ⟨hp.end he,Pl.done (listed:=listed) he s h hq⟩
 | succ fuel ih=>
   intro es listed G G' own a w hf hp hX s h hq
   refine ⟨fun hr=>Pl.done (listed:=listed) (hp.empty hr) s h hq,fun i hi=>?_⟩
   have hi1:=mem_ready.1 hi
   obtain ⟨hi1,oi,hoi,_⟩:=hi1
   have hmem:=(hp.ls i (Array.getElem?_eq_some_iff.1 hoi).1).1 hi1
   obtain ⟨z,hz,ez⟩:=List.mem_map.1 hmem
   obtain ⟨y,es',rfl,r1,r2,hp',hlen,hsub,hne,_⟩:=hp.pick hi (fun x hx _=>ez▸hX x hx z hz) h
   refine zd6 hc hip hCE hF s r1 fun own' a' w' s' t' d'=>?_
   exact ih es' (by omega) hp' (fun x hx y hy=>hX x (hsub x hx) y (hsub y hy)) s' r2 fun own2 a2 w2 s2 t2 d2=>hq own2 a2 w2 s2 (t'.trans t2) (d2.trans d')
def xp (A B:Nat) (i j:Nat):Bool:=i == A && j == B
theorem runs_two (hc:CfgOk P c) (hip:IpsOk P c) (hF:WideF P F) {A B:Nat} (hAB:A≠B):∀ (fuel:Nat) (es1 es2:List Ent) {listed:Array Bool} {G G1 G2:Sta} {own:Own} {a:Act} {w:World},
 es1.length≤fuel→Pl ops (xp A B) es1 listed→Pl ops (xp B A) es2 listed→
 St P c.nt G own a w→Runs noCE (stepRM c ops) es1 G G1→Runs noCE (stepRM c ops) es2 G G2→(∀ own' a' w',St P c.nt G1 own' a' w'→Tr own w own' w'→a'.defers=a.defers→Q .normal a' w')→(∀ own' a' w',St P c.nt G2 own' a' w'→Tr own w own' w'→a'.defers=a.defers→Q .normal a' w')→wpAnyIn F n P .any ops Q fuel listed a w:=by
 have hCE:∀ g args outs r outs',noCE g args outs r outs'→CallE P g args outs r outs':=fun _ _ _ _ _ h=>h.elim
 intro fuel
 induction fuel with
 | zero=>
   intro es1 es2 listed G G1 G2 own a w hf hp1 hp2 s h1 h2 hq hq'
   have he:es1=[]:=List.length_eq_zero_iff.1 (by omega)
   exact ⟨hp1.end he,Pl.done (listed:=listed) he s h1 hq⟩
 | succ fuel ih=>
   intro es1 es2 listed G G1 G2 own a w hf hp1 hp2 s h1 h2 hq hq'
   refine ⟨fun hr=>Pl.done (listed:=listed) (hp1.empty hr) s h1 hq,fun i hi=>?_⟩
   by_cases hA:i=A
   ·subst hA
    obtain ⟨y,es',e,r1,r2,hp',hlen,hsub,hne,_⟩:=hp1.pick hi (fun x hx hxi=>by simp only [xp,Bool.and_eq_false_imp,beq_iff_eq];intro e;exact absurd e hxi) h1
    refine e▸zd6 hc hip hCE hF s r1 fun own' a' w' s' t' d'=>?_
    rw [e]
    exact runs_one hc hip hCE hF fuel es' (by omega) hp' (fun x hx y hy=>by simp only [xp,Bool.and_eq_false_imp,beq_iff_eq];intro e;exact absurd e (hne x hx)) s' r2 fun own2 a2 w2 s2 t2 d2=>hq own2 a2 w2 s2 (t'.trans t2) (d2.trans d')
   ·by_cases hB:i=B
    ·subst hB
     obtain ⟨y,es',e,r1,r2,hp',hlen,hsub,hne,_⟩:=hp2.pick hi (fun x hx hxi=>by simp only [xp,Bool.and_eq_false_imp,beq_iff_eq];intro e;exact absurd e hxi) h2
     have hl:es2.length=es1.length:=by
      have:(es2.map (·.i)).Perm (es1.map (·.i)):=by
       refine (List.perm_ext_iff_of_nodup hp2.nd hp1.nd).2 fun j=>?_
       constructor
       ·intro hj
        obtain ⟨z,hz,rfl⟩:=List.mem_map.1 hj
        exact (hp1.ls z.i (hp2.lt z hz)).1 ((hp2.ls z.i (hp2.lt z hz)).2 hj)
       ·intro hj
        obtain ⟨z,hz,rfl⟩:=List.mem_map.1 hj
        exact (hp2.ls z.i (hp1.lt z hz)).1 ((hp1.ls z.i (hp1.lt z hz)).2 hj)
      simpa using this.length_eq
     refine e▸zd6 hc hip hCE hF s r1 fun own' a' w' s' t' d'=>?_
     rw [e]
     exact runs_one hc hip hCE hF fuel es' (by omega) hp' (fun x hx y hy=>by simp only [xp,Bool.and_eq_false_imp,beq_iff_eq];intro e;exact absurd e (hne x hx)) s' r2 fun own2 a2 w2 s2 t2 d2=>hq' own2 a2 w2 s2 (t'.trans t2) (d2.trans d')
    ·obtain ⟨y1,f1,e1,r1,r2,hp1',hlen,hsub,hne,_⟩:=hp1.pick hi (fun x hx hxi=>by simp only [xp,Bool.and_eq_false_imp,beq_iff_eq];intro _;simpa using hB) h1
     obtain ⟨y2,f2,e2,q1,q2,hp2',hlen2,hsub2,hne2,_⟩:=hp2.pick hi (fun x hx hxi=>by simp only [xp,Bool.and_eq_false_imp,beq_iff_eq];intro _;simpa using hA) h2
     obtain ⟨hU,_⟩:=RM.wp_det _ [] (e1▸r1) (e2▸q1)
     refine e1▸zd6 hc hip hCE hF s r1 fun own' a' w' s' t' d'=>?_
     rw [e1]
     exact ih f1 f2 (by omega) hp1' hp2' s' r2 (by rw [hU];exact q2) (fun own2 a2 w2 s2 t2 d2=>hq own2 a2 w2 s2 (t'.trans t2) (d2.trans d')) (fun own2 a2 w2 s2 t2 d2=>hq' own2 a2 w2 s2 (t'.trans t2) (d2.trans d'))
end
end Go.Ev
namespace Go.Ev
open Go Go.RowKit
variable {P : Program}
section
variable {c : Cfg} {ops : Array Oper}
def evIx (c:Cfg) (ops:Array Oper):List Nat→List Lg→Sta→List Ora→Option (List Prop×List Lg×Sta)
 | [],log,G,q=>match q with
   | []=>some ([],log,G)
   | _=>none
 | i :: r,log,G,q=>match ops[i]? with
   | none=>none
   | some o=>match (guard2 c ops o).ev noCE G [] q with
     | some (obs,q',U,T)=>match evIx c ops r (log++[⟨i,T++Ups.refs U,Ups.writes U⟩]) (app U G) q' with
       | some (obs',log',G')=>some (obs++obs',log',G')
       | none=>none
     | none=>none
theorem evIx_runs:∀ (is:List Nat) {log log':List Lg} {G G':Sta} {q:List Ora} {obs:List Prop},evIx c ops is log G q=some (obs,log',G')→AllP obs→
 ∃ es,es.map (·.i)=is∧Runs noCE (stepRM c ops) es G G'∧log'=log++es.map Ent.lg
 | [],log,log',G,G',q,obs,h,ho=>by
   unfold evIx at h
   split at h
   ·simp only [Option.some.injEq,Prod.mk.injEq] at h;obtain ⟨rfl,rfl,rfl⟩:=h;exact ⟨[],rfl,rfl,by simp⟩
   ·cases h
 | i :: r,log,log',G,G',q,obs,h,ho=>by
   unfold evIx at h
   split at h
   ·cases h
   ·rename_i o hop
    split at h
    ·rename_i obs1 q' U T h1
     split at h
     ·rename_i obs2 log2 G2 h2
      simp only [Option.some.injEq,Prod.mk.injEq] at h
      obtain ⟨rfl,rfl,rfl⟩:=h
      obtain ⟨ho1,ho2⟩:=zes ho
      obtain ⟨es,e1,e2,e3⟩:=evIx_runs r h2 ho2
      refine ⟨⟨i,U,T⟩ :: es,by simp [e1],⟨?_,e2⟩,?_⟩
      ·rw [zfe hop]
       exact le_guard _ _ _ _ (RM2.ev_wp _ h1 ho1 ⟨rfl,rfl⟩)
      ·rw [e3];simp [Ent.lg,Ent.reads]
     ·cases h
    ·cases h
def logOkX (tab:List (List Nat)) (X:Nat→Nat→Bool):List Lg→Bool
 | []=>true
 | x :: r=>r.all (fun y=>ancT tab x.i y.i || (X x.i y.i || lgOk x y)) && logOkX tab X r
theorem zjg {X:Nat→Nat→Bool} {tab:List (List Nat)} (htopo:topo ops=true) (h:ancOk ops tab=true):∀ {es:List Ent},(∀ x∈es,x.i < ops.size)→logOkX tab X (es.map Ent.lg)=true→entOkX ops X es
 | [],_,_=>trivial
 | x :: r,hlt,hes=>by
   simp only [List.map_cons,logOkX,Bool.and_eq_true] at hes
   refine ⟨fun y hy hn hx=>?_,zjg htopo h (fun z hz=>hlt z (List.mem_cons_of_mem _ hz)) hes.2⟩
   have:=List.all_eq_true.1 hes.1 y.lg (List.mem_map.2 ⟨y,hy,rfl⟩)
   simp only [Bool.or_eq_true] at this
   rcases this with h1 | h1 | h1
   ·have hy:=hlt y (List.mem_cons_of_mem _ hy)
    rw [zhu htopo h ops.size y.i x.i hy hy h1] at hn;cases hn
   ·have h1:X x.i y.i=true:=h1
    rw [h1] at hx;cases hx
   ·exact indB_spec h1
def tpB (ops:Array Oper):List Nat→Bool
 | []=>true
 | i :: r=>(match ops[i]? with
   | none=>false
   | some o=>o.after.toList.all fun e=>!Region.binds .any e || (Nat.blt e.on ops.size && (i :: r).all fun j=>!Nat.beq e.on j)) && tpB ops r
theorem tpB_spec:∀ {es:List Ent},tpB ops (es.map (·.i))=true→Tp ops es
 | [],_=>trivial
 | x :: r,h=>by
   simp only [List.map_cons,tpB,Bool.and_eq_true] at h
   refine ⟨fun o ho e he hb=>?_,tpB_spec h.2⟩
   have h1:=h.1
   rw [ho] at h1
   have h2:=List.all_eq_true.1 h1 e (Array.mem_toList_iff.2 he)
   simp only [hb,Bool.not_true,Bool.false_or,Bool.and_eq_true] at h2
   refine ⟨by have:=h2.1;simpa [Nat.blt_eq] using this,fun y hy e1=>?_⟩
   have h3:=List.all_eq_true.1 h2.2 y.i (by
    rcases List.mem_cons.1 hy with rfl | hy
    ·exact List.mem_cons_self ..
    ·exact List.mem_cons_of_mem _ (List.mem_map.2 ⟨y,hy,rfl⟩))
   rw [e1] at h3;simp at h3
def ndB:List Nat→Bool
 | []=>true
 | i :: r=>r.all (fun j=>!Nat.beq i j) && ndB r
theorem ndB_spec:∀ {l:List Nat},ndB l=true→l.Nodup
 | [],_=>List.nodup_nil
 | i :: r,h=>by
   simp only [ndB,Bool.and_eq_true] at h
   refine List.nodup_cons.2 ⟨fun hm=>?_,ndB_spec h.2⟩
   have:=List.all_eq_true.1 h.1 _ hm
   simp at this
def permB (is:List Nat) (n:Nat):Bool:=ndB is && (is.all (fun i=>Nat.blt i n) && (List.range n).all fun i=>is.any fun j=>Nat.beq i j)
def evOrd (c:Cfg) (x:Code) (A B:Nat) (is:List Nat) (q:List Ora) (G:Sta):Option (List Prop×Sta):=
 match x with
 | .region _ ops true=>match evIx c ops is [] G q with
   | some (obs,log,G')=>match permB is ops.size && (topo ops && (ancOk ops (tabOf ops) && (tpB ops is && logOkX (tabOf ops) (xp A B) log))) with
     | true=>some (obs,G')
     | false=>none
   | none=>none
 | _=>none
theorem evOrd_pl {x:Code} {A B:Nat} {is:List Nat} {q:List Ora} {G G':Sta} {obs:List Prop} {id:Nat} {ops:Array Oper} {d:Bool} (hx:x=.region id ops d) (h:evOrd c x A B is q G=some (obs,G')) (ho:AllP obs) :
 d=true∧∃ es,es.length=ops.size∧Runs noCE (stepRM c ops) es G G'∧Pl ops (xp A B) es (Array.replicate ops.size false):=by
 subst hx
 cases d with
 | false=>cases h
 | true=>
 refine ⟨rfl,?_⟩
 unfold evOrd at h
 dsimp only at h
 split at h
 ·rename_i obs' log G1 hev
  split at h
  ·rename_i hb
   simp only [Option.some.injEq,Prod.mk.injEq] at h
   obtain ⟨rfl,rfl⟩:=h
   simp only [Bool.and_eq_true] at hb
   obtain ⟨hperm,htopo,hanc,htp,hlog⟩:=hb
   simp only [permB,Bool.and_eq_true] at hperm
   obtain ⟨p1,p2,p3⟩:=hperm
   obtain ⟨es,e1,e2,e3⟩:=evIx_runs is hev ho
   have hlt:∀ x∈es,x.i < ops.size:=fun x hx=>by
    have h1:=List.all_eq_true.1 p2 x.i (by rw [← e1];exact List.mem_map.2 ⟨x,hx,rfl⟩)
    simpa [Nat.blt_eq] using h1
   have hnd:(es.map (·.i)).Nodup:=by rw [e1];exact ndB_spec p1
   have hall:∀ i,i < ops.size→i∈es.map (·.i):=fun i hi=>by
    have h1:=List.all_eq_true.1 p3 i (List.mem_range.2 hi)
    obtain ⟨j,hj,hij⟩:=List.any_eq_true.1 h1
    rw [e1,Nat.eq_of_beq_eq_true hij];exact hj
   have hsz:es.length=ops.size:=by
    have:(es.map (·.i)).Perm (List.range ops.size):=by
     refine (List.perm_ext_iff_of_nodup hnd List.nodup_range).2 fun j=>⟨fun hj=>?_,fun hj=>hall j (List.mem_range.1 hj)⟩
     obtain ⟨z,hz,rfl⟩:=List.mem_map.1 hj
     exact List.mem_range.2 (hlt z hz)
    simpa using this.length_eq
   refine ⟨es,hsz,e2,by simp,?_,?_,hlt,hnd,tpB_spec (by rw [e1];exact htp),zjg htopo hanc hlt (by rw [e3,List.nil_append] at hlog;exact hlog)⟩
   ·intro i o ho hl
    have hi:=(Array.getElem?_eq_some_iff.1 ho).1
    simp [Array.getD_eq_getD_getElem?,hi] at hl
   ·intro i hi
    simp [Array.getD_eq_getD_getElem?,hi]
    have:=hall i hi
    simpa using this
  ·cases h
 ·cases h
theorem Sem.region2 (hc:COk P c) {x:Code} {A B:Nat} (hAB:A≠B) {is1 is2:List Nat} {q1 q2:List Ora} {G G1 G2 G':Sta} {obs1 obs2:List Prop} {K:Ex→Sta→Prop} (h1:evOrd c x A B is1 q1 G=some (obs1,G1)) (h2:evOrd c x B A is2 q2 G=some (obs2,G2))
 (ho1:AllP obs1) (ho2:AllP obs2) (hw:Wk P c.nt G1 G') (hw2:Wk P c.nt G2 G') (hk:K .normal G'):Sem P c x G K:=by
 intro own a w F n Q hF s hQ
 have hx:∃ id ops d,x=.region id ops d:=by
  unfold evOrd at h1
  split at h1
  ·exact ⟨_,_,_,rfl⟩
  ·cases h1
 obtain ⟨id,ops,d,hx⟩:=hx
 obtain ⟨hd,es1,l1,r1,p1⟩:=evOrd_pl hx h1 ho1
 obtain ⟨_,es2,l2,r2,p2⟩:=evOrd_pl hx h2 ho2
 subst hd
 subst hx
 have fin:∀ {H:Sta},Wk P c.nt H G'→∀ own' a' w',St P c.nt H own' a' w'→Tr own w own' w'→a'.defers=a.defers→Q .normal a' w':=by
  intro H hw own' a' w' s' t' d'
  obtain ⟨own2,s2,t2⟩:=hw own' a' w' s'
  exact hQ .normal _ own2 a' w' hk s2 (t'.trans t2) (.same d')
 obtain ⟨s1,t1⟩:=s.drawn (w.drawn+1)
 refine wpIn_region_any hc.ro ?_
 exact runs_two hc.cfg hc.ip hF.1 hAB ops.size es1 es2 (by omega) p1 p2 s1 r1 r2 (fun own' a' w' s' t' d'=>fin hw own' a' w' s' (t1.trans t') d') (fun own' a' w' s' t' d'=>fin hw2 own' a' w' s' (t1.trans t') d')
end
def steal (b off:Nat) (G:Sta):Sta:=
 match look G b (some off) with
 | some (.rf sb j 0 n)=>match look G sb (some j) with
   | some (.own E l)=>match Nat.beq (b % 3) 1 || isM b with
     | true=>G
     | false=>app [.leaf sb j .bad,.leaf b off (.own E (l.take n))] G
   | _=>G
 | _=>G
theorem Wk.steal {c:Cfg} {G:Sta} (b off:Nat):Wk P c.nt G (Ev.steal b off G):=by
 intro own a w s
 unfold Ev.steal
 split
 ·rename_i sb j n h1
  split
  ·rename_i E l h2
   split
   ·exact ⟨own,s,Tr.refl _ _⟩
   ·rename_i hb
    simp only [Bool.or_eq_false_iff] at hb
    obtain ⟨hb,hmm⟩:=hb
    have hb:b % 3≠1:=fun e=>by rw [e] at hb;simp at hb
    simp only [look,Option.bind_eq_some_iff,Option.filter_eq_some_iff] at h1
    obtain ⟨v,hg,hv,_⟩:=h1
    obtain ⟨k,arr,TT,e1,e2,e3,e4⟩:=s.boxes b v hb hmm hg
    have hoff:off < v.leaves.length:=(List.getElem?_eq_some_iff.1 hv).1
    obtain ⟨u,hu⟩:∃ u,arr[off]?=some u:=⟨arr[off]'(by omega),by simp [show off < arr.size by omega]⟩
    have hr:SlV P G own w sb j 0 n u:=e4 off _ _ hv hu
    obtain ⟨_,hown⟩:=zeE h2 hr
    obtain ⟨r1,s1,K1,K2⟩:=zgm (c:=c) s hb hmm e1 (show lenOf G b=some v.leaves.length by simp [lenOf,hg]) hoff hown
    rw [zhD e2 hu] at s1 K2
    exact ⟨_,s1,K1.tr.trans K2.tr⟩
  ·exact ⟨own,s,Tr.refl _ _⟩
 ·exact ⟨own,s,Tr.refl _ _⟩
theorem Sem.cfg {c c':Cfg} {x:Code} {G:Sta} {K:Ex→Sta→Prop} (h1:c'.nt=c.nt) (h2:c'.rnd=c.rnd) (h:Sem P c' x G K):Sem P c x G K:=by
 unfold Sem WideC at h ⊢
 rw [h1,h2] at h
 exact h
theorem COk.vs {c:Cfg} (h:COk P c) (vs:Nat→Bool):COk P { c with vs:=vs }:=⟨h.cfg,zch h.ip rfl rfl rfl rfl,h.ro⟩
def rawOf:Option (List Prop×Sta)→Sta
 | some (_,G)=>G
 | none=>[]
theorem Wk.st {c:Cfg} {G G':Sta} {keep:List Nat} (b off:Nat) (h:Ev.tidy [] keep (Ev.steal b off G)=G'):Wk P c.nt G G':=(Wk.steal b off).trans (Wk.eq h)
end Go.Ev
namespace Go.Ev
open Go Go.Proofs
set_option maxRecDepth 8000
theorem Wk.of_eq {P:Program} {nt:Nat} {G G':Sta} (h:G=G'):Wk P nt G G':=by rw [h];exact Wk.refl
set_option maxHeartbeats 1000000
theorem ze3 (l:(List zf)) (res:(List zf))
 (h:((0:Int)≤(↑(List.length l):Int)∧(↑(List.length l):Int) < (2:Int) ^ (40:Nat)∧(↑(80:Nat):Int) * (↑(List.length l):Int)≤(2:Int) ^ (47:Nat))∧(zcB l∧(List.length l < 1099511627776∧∃ (Inv7:Nat→List zf→Prop),Inv7 0 ([])∧(∀ (i:Nat) (y:zf),i < List.length l→l[List.length l - 1 - i]?=some y→∀ (out:List zf),Inv7 i out→((List.length out+(1:Nat)) * (80:Nat)≤(2:Nat) ^ (47:Nat))∧((0:Int)≤(↑(List.length out):Int))∧(List.length out < List.length out+(1:Nat))∧List.length out < List.length (out++[{ Kind:=(0:Int),Set:={ e0:=(0:Int),e1:=(0:Int),e2:=(0:Int),e3:=(0:Int) },Lo:=(0:Int),Hi:=(0:Int),Kids:=[] }])∧Inv7 (i+1) (List.set (out++[{ Kind:=(0:Int),Set:={ e0:=(0:Int),e1:=(0:Int),e2:=(0:Int),e3:=(0:Int) },Lo:=(0:Int),Hi:=(0:Int),Kids:=[] }]) (List.length out) y))∧(∀ (out:List zf),Inv7 (List.length l) out→(res=out))))):zba l res:=by
 unfold zba;have kk:=cfOk [] 20;refine fD (x:=bodyOf Tryz.f125) kk Tryz.func125 ?_;refine wkS [1] [(1,vL zc l)] (by kernel_rfl) ?_;refine sD kk [] [] [] obN ?_;obtain ⟨h0,h⟩:=h;refine sDE kk [] [] [(10,.ptr 20 0),(20,.own 55 ([]))] [(10,.ptr 20 0),(20,oL 55 zc ([]))] (obC (show (0:Int)=(0:Int)∧(0:Int)≤(↑(List.length (List.map zc l)):Int)∧(↑(List.length (List.map zc l)):Int) < (2:Int) ^ (40:Nat)∧(↑(80:Nat):Int) * (↑(List.length (List.map zc l)):Int)≤(2:Int) ^ (47:Nat) from by simpa only [nm] using h0) obN) ?_;refine qD ?_;obtain ⟨hc1,h⟩:=h;refine sD kk [.c (.clo 160 [.fp (fL zc l) 0]) []] [1] [(31,.clo 160 [.fp (fL zc l) 0])] (obC hc1 obN) ?_;refine bD (id:=0) ?_;obtain ⟨hl8,Inv7,h0Inv7,hRInv7,hDInv7⟩:=h;refine Sem.range (α:=zf) (σ:=List zf) (c:=(cf [] 20)) (by rfl) (tg:=10) (p0:=11) (p1:=12) (by kernel_rfl) (xs:=l) (by kernel_rfl) back_ok_160 (ey:=(fun (y:zf)=>(zbF y:FV))) (sz:=8) (fun y=>zL y) (fun y=>by simp [FV.fits,FV.size,FV.cells,FV.one,zL]) (by omega) [(10,.ptr 20 0)] [20] (fun (q:List zf)=>(fun (out:List zf)=>([oL 55 zc out]:List AV)) q) (fun (i:Nat) (q:List zf)=>Inv7 i q) ([]) ((wkE (G':=[(10,.ptr 20 0),(20,oL 55 zc ([]))]) [] [10,20] (by kernel_rfl)).trans (Wk.pick [10,20] (by kernel_rfl))) h0Inv7 (by rfl) (fun q=>by rfl) (by rfl) (by decide) (fun q q'=>by rfl) (Nat.le_of_ble_eq_true rfl) (Nat.le_of_ble_eq_true rfl) (by decide) ?_ ?_
 ·rintro i out y hi hy hinv;have h:=hRInv7 i y hi hy out hinv;refine Sem.weak (Wk.pick [3,10,34,37] (G':=[(3,oL 55 zc out),(10,.ptr 3 0),(34,vi ((↑(List.length l):Int) - 1 - (↑i:Int))),(37,zD y)]) (by kernel_rfl)) ?_;show Sem _ (cfr [] 20) (sq1 (sq1 (sq2 (sq1 (sq2 (sq2 (bodyOf Tryz.f125))))))) _ _;have kr:=cfrOk [] 20;refine rD kr [] [34,37] [(16,.ptr 32 0),(32,zD y)] obN ?_;refine ⟨rfl,?_⟩;show Sem _ (cfr [] 20) (sq2 (sq1 (sq2 (sq1 (sq2 (sq2 (bodyOf Tryz.f125))))))) _ _;refine bD (id:=1) ?_;obtain ⟨h10,h⟩:=h;obtain ⟨h11,h⟩:=h;obtain ⟨h12,h⟩:=h;obtain ⟨h13,h⟩:=h;have kv:=kr.vs fun t=>t == 17;refine Sem.cfg (c':={ cfr [] 20 with vs:=fun t=>t == 17 }) rfl rfl (Sem.region2 (A:=6) (B:=7) kv (by decide) (is1:=[0,1,2,3,4,5,6,7]) (is2:=[0,1,2,3,4,5,7,6]) (q1:=[.e (zbF (List.getD (out++[{ Kind:=(0:Int),Set:={ e0:=(0:Int),e1:=(0:Int),e2:=(0:Int),e3:=(0:Int) },Lo:=(0:Int),Hi:=(0:Int),Kids:=[] }]) (List.length out) default))]) (q2:=[.e (zbF (List.getD (out++[{ Kind:=(0:Int),Set:={ e0:=(0:Int),e1:=(0:Int),e2:=(0:Int),e3:=(0:Int) },Lo:=(0:Int),Hi:=(0:Int),Kids:=[] }]) (List.length out) default))])
   (G1:=rawOf (evOrd { cfr [] 20 with vs:=fun t=>t == 17 } (sq1 (sq2 (sq1 (sq2 (sq1 (sq2 (sq2 (bodyOf Tryz.f125)))))))) 6 7 [0,1,2,3,4,5,6,7] [.e (zbF (List.getD (out++[{ Kind:=(0:Int),Set:={ e0:=(0:Int),e1:=(0:Int),e2:=(0:Int),e3:=(0:Int) },Lo:=(0:Int),Hi:=(0:Int),Kids:=[] }]) (List.length out) default))] [(3,oL 55 zc out),(10,.ptr 3 0),(16,.ptr 32 0),(32,zD y)])) (G2:=rawOf (evOrd { cfr [] 20 with vs:=fun t=>t == 17 } (sq1 (sq2 (sq1 (sq2 (sq1 (sq2 (sq2 (bodyOf Tryz.f125)))))))) 7 6 [0,1,2,3,4,5,7,6] [.e (zbF (List.getD (out++[{ Kind:=(0:Int),Set:={ e0:=(0:Int),e1:=(0:Int),e2:=(0:Int),e3:=(0:Int) },Lo:=(0:Int),Hi:=(0:Int),Kids:=[] }]) (List.length out) default))] [(3,oL 55 zc out),(10,.ptr 3 0),(16,.ptr 32 0),(32,zD y)])) (by kernel_rfl) (by kernel_rfl) (obC (show (0:Nat)=(0:Nat)∧List.length (List.map zc out)=List.length (List.map zc out) from ⟨rfl,rfl⟩) (obC (show (List.length (List.map zc out)+List.length (List.take (1:Nat) (List.drop (0:Nat) [FV.agg [FV.pv (Value.int IntKind.i64 (0)),FV.pv (Value.int IntKind.u64 (0)),FV.pv (Value.int IntKind.u64 (0)),FV.pv (Value.int IntKind.u64 (0)),FV.pv (Value.int IntKind.u64 (0)),FV.pv (Value.int IntKind.i64 (0)),FV.pv (Value.int IntKind.i64 (0)),FV.sl []]]))) * (80:Nat)≤(2:Nat) ^ (47:Nat) from by simpa only [nm] using h10) (obC (show List.all (List.take (1:Nat) (List.drop (0:Nat) [FV.agg [FV.pv (Value.int IntKind.i64 (0)),FV.pv (Value.int IntKind.u64 (0)),FV.pv (Value.int IntKind.u64 (0)),FV.pv (Value.int IntKind.u64 (0)),FV.pv (Value.int IntKind.u64 (0)),FV.pv (Value.int IntKind.i64 (0)),FV.pv (Value.int IntKind.i64 (0)),FV.sl []]])) (FV.fits (8:Nat))=true from by first | decide | rfl | trivial) (obC (show (0:Int)≤(↑(List.length (List.map zc out)):Int) from by simpa only [nm] using h11) (obC (show Int.toNat (↑(List.length (List.map zc out)):Int) < List.length (List.map zc out++List.take (1:Nat) (List.drop (0:Nat) [FV.agg [FV.pv (Value.int IntKind.i64 (0)),FV.pv (Value.int IntKind.u64 (0)),FV.pv (Value.int IntKind.u64 (0)),FV.pv (Value.int IntKind.u64 (0)),FV.pv (Value.int IntKind.u64 (0)),FV.pv (Value.int IntKind.i64 (0)),FV.pv (Value.int IntKind.i64 (0)),FV.sl []]])) from by simpa only [nm] using h12) (obC (show (List.map zc out++List.take (1:Nat) (List.drop (0:Nat) [FV.agg [FV.pv (Value.int IntKind.i64 (0)),FV.pv (Value.int IntKind.u64 (0)),FV.pv (Value.int IntKind.u64 (0)),FV.pv (Value.int IntKind.u64 (0)),FV.pv (Value.int IntKind.u64 (0)),FV.pv (Value.int IntKind.i64 (0)),FV.pv (Value.int IntKind.i64 (0)),FV.sl []]]))[((0:Nat)+Int.toNat (↑(List.length (List.map zc out)):Int):Nat)]?=some (zbF (List.getD (out++[{ Kind:=(0:Int),Set:={ e0:=(0:Int),e1:=(0:Int),e2:=(0:Int),e3:=(0:Int) },Lo:=(0:Int),Hi:=(0:Int),Kids:=[] }]) (List.length out) default)) from by have:=zbM zc (out++[{ Kind:=(0:Int),Set:={ e0:=(0:Int),e1:=(0:Int),e2:=(0:Int),e3:=(0:Int) },Lo:=(0:Int),Hi:=(0:Int),Kids:=[] }]) (List.length out) _ (zL _) h13;simpa only [nm,enq,zL] using this) obN)))))) (obC (show (0:Nat)=(0:Nat)∧List.length (List.map zc out)=List.length (List.map zc out) from ⟨rfl,rfl⟩) (obC (show (List.length (List.map zc out)+List.length (List.take (1:Nat) (List.drop (0:Nat) [FV.agg [FV.pv (Value.int IntKind.i64 (0)),FV.pv (Value.int IntKind.u64 (0)),FV.pv (Value.int IntKind.u64 (0)),FV.pv (Value.int IntKind.u64 (0)),FV.pv (Value.int IntKind.u64 (0)),FV.pv (Value.int IntKind.i64 (0)),FV.pv (Value.int IntKind.i64 (0)),FV.sl []]]))) * (80:Nat)≤(2:Nat) ^ (47:Nat) from by simpa only [nm] using h10) (obC (show List.all (List.take (1:Nat) (List.drop (0:Nat) [FV.agg [FV.pv (Value.int IntKind.i64 (0)),FV.pv (Value.int IntKind.u64 (0)),FV.pv (Value.int IntKind.u64 (0)),FV.pv (Value.int IntKind.u64 (0)),FV.pv (Value.int IntKind.u64 (0)),FV.pv (Value.int IntKind.i64 (0)),FV.pv (Value.int IntKind.i64 (0)),FV.sl []]])) (FV.fits (8:Nat))=true from by first | decide | rfl | trivial) (obC (show (0:Int)≤(↑(List.length (List.map zc out)):Int) from by simpa only [nm] using h11) (obC (show Int.toNat (↑(List.length (List.map zc out)):Int) < List.length (List.map zc out++List.take (1:Nat) (List.drop (0:Nat) [FV.agg [FV.pv (Value.int IntKind.i64 (0)),FV.pv (Value.int IntKind.u64 (0)),FV.pv (Value.int IntKind.u64 (0)),FV.pv (Value.int IntKind.u64 (0)),FV.pv (Value.int IntKind.u64 (0)),FV.pv (Value.int IntKind.i64 (0)),FV.pv (Value.int IntKind.i64 (0)),FV.sl []]])) from by simpa only [nm] using h12) (obC (show (List.map zc out++List.take (1:Nat) (List.drop (0:Nat) [FV.agg [FV.pv (Value.int IntKind.i64 (0)),FV.pv (Value.int IntKind.u64 (0)),FV.pv (Value.int IntKind.u64 (0)),FV.pv (Value.int IntKind.u64 (0)),FV.pv (Value.int IntKind.u64 (0)),FV.pv (Value.int IntKind.i64 (0)),FV.pv (Value.int IntKind.i64 (0)),FV.sl []]]))[((0:Nat)+Int.toNat (↑(List.length (List.map zc out)):Int):Nat)]?=some (zbF (List.getD (out++[{ Kind:=(0:Int),Set:={ e0:=(0:Int),e1:=(0:Int),e2:=(0:Int),e3:=(0:Int) },Lo:=(0:Int),Hi:=(0:Int),Kids:=[] }]) (List.length out) default)) from by have:=zbM zc (out++[{ Kind:=(0:Int),Set:={ e0:=(0:Int),e1:=(0:Int),e2:=(0:Int),e3:=(0:Int) },Lo:=(0:Int),Hi:=(0:Int),Kids:=[] }]) (List.length out) _ (zL _) h13;simpa only [nm,enq,zL] using this) obN)))))) ((Wk.st (keep:=[3]) 3 0 (G':=[(3,.own 55 (List.take (List.length (List.set (List.map zc out++List.take (List.length [FV.agg [FV.pv (Value.int IntKind.i64 (0)),FV.pv (Value.int IntKind.u64 (0)),FV.pv (Value.int IntKind.u64 (0)),FV.pv (Value.int IntKind.u64 (0)),FV.pv (Value.int IntKind.u64 (0)),FV.pv (Value.int IntKind.i64 (0)),FV.pv (Value.int IntKind.i64 (0)),FV.sl []]]) (List.drop (0:Nat) [FV.agg [FV.pv (Value.int IntKind.i64 (0)),FV.pv (Value.int IntKind.u64 (0)),FV.pv (Value.int IntKind.u64 (0)),FV.pv (Value.int IntKind.u64 (0)),FV.pv (Value.int IntKind.u64 (0)),FV.pv (Value.int IntKind.i64 (0)),FV.pv (Value.int IntKind.i64 (0)),FV.sl []]])) ((0:Nat)+Int.toNat (↑(List.length (List.map zc out)):Int)) (FV.agg [FV.pv (Value.int IntKind.i64 (zf.Kind y)),FV.pv (Value.int IntKind.u64 (zb.e0 (zf.Set y))),FV.pv (Value.int IntKind.u64 (zb.e1 (zf.Set y))),FV.pv (Value.int IntKind.u64 (zb.e2 (zf.Set y))),FV.pv (Value.int IntKind.u64 (zb.e3 (zf.Set y))),FV.pv (Value.int IntKind.i64 (zf.Lo y)),FV.pv (Value.int IntKind.i64 (zf.Hi y)),FV.sl (List.map zc (zf.Kids y))]))) (List.set (List.map zc out++List.take (List.length [FV.agg [FV.pv (Value.int IntKind.i64 (0)),FV.pv (Value.int IntKind.u64 (0)),FV.pv (Value.int IntKind.u64 (0)),FV.pv (Value.int IntKind.u64 (0)),FV.pv (Value.int IntKind.u64 (0)),FV.pv (Value.int IntKind.i64 (0)),FV.pv (Value.int IntKind.i64 (0)),FV.sl []]]) (List.drop (0:Nat) [FV.agg [FV.pv (Value.int IntKind.i64 (0)),FV.pv (Value.int IntKind.u64 (0)),FV.pv (Value.int IntKind.u64 (0)),FV.pv (Value.int IntKind.u64 (0)),FV.pv (Value.int IntKind.u64 (0)),FV.pv (Value.int IntKind.i64 (0)),FV.pv (Value.int IntKind.i64 (0)),FV.sl []]])) ((0:Nat)+Int.toNat (↑(List.length (List.map zc out)):Int)) (FV.agg [FV.pv (Value.int IntKind.i64 (zf.Kind y)),FV.pv (Value.int IntKind.u64 (zb.e0 (zf.Set y))),FV.pv (Value.int IntKind.u64 (zb.e1 (zf.Set y))),FV.pv (Value.int IntKind.u64 (zb.e2 (zf.Set y))),FV.pv (Value.int IntKind.u64 (zb.e3 (zf.Set y))),FV.pv (Value.int IntKind.i64 (zf.Lo y)),FV.pv (Value.int IntKind.i64 (zf.Hi y)),FV.sl (List.map zc (zf.Kids y))]))))]) (by kernel_rfl)).trans ?_) ((Wk.st (keep:=[3]) 3 0 (G':=[(3,.own 55 (List.take (List.length (List.map zc out++List.take (List.length [FV.agg [FV.pv (Value.int IntKind.i64 (0)),FV.pv (Value.int IntKind.u64 (0)),FV.pv (Value.int IntKind.u64 (0)),FV.pv (Value.int IntKind.u64 (0)),FV.pv (Value.int IntKind.u64 (0)),FV.pv (Value.int IntKind.i64 (0)),FV.pv (Value.int IntKind.i64 (0)),FV.sl []]]) (List.drop (0:Nat) [FV.agg [FV.pv (Value.int IntKind.i64 (0)),FV.pv (Value.int IntKind.u64 (0)),FV.pv (Value.int IntKind.u64 (0)),FV.pv (Value.int IntKind.u64 (0)),FV.pv (Value.int IntKind.u64 (0)),FV.pv (Value.int IntKind.i64 (0)),FV.pv (Value.int IntKind.i64 (0)),FV.sl []]]))) (List.set (List.map zc out++List.take (List.length [FV.agg [FV.pv (Value.int IntKind.i64 (0)),FV.pv (Value.int IntKind.u64 (0)),FV.pv (Value.int IntKind.u64 (0)),FV.pv (Value.int IntKind.u64 (0)),FV.pv (Value.int IntKind.u64 (0)),FV.pv (Value.int IntKind.i64 (0)),FV.pv (Value.int IntKind.i64 (0)),FV.sl []]]) (List.drop (0:Nat) [FV.agg [FV.pv (Value.int IntKind.i64 (0)),FV.pv (Value.int IntKind.u64 (0)),FV.pv (Value.int IntKind.u64 (0)),FV.pv (Value.int IntKind.u64 (0)),FV.pv (Value.int IntKind.u64 (0)),FV.pv (Value.int IntKind.i64 (0)),FV.pv (Value.int IntKind.i64 (0)),FV.sl []]])) ((0:Nat)+Int.toNat (↑(List.length (List.map zc out)):Int)) (FV.agg [FV.pv (Value.int IntKind.i64 (zf.Kind y)),FV.pv (Value.int IntKind.u64 (zb.e0 (zf.Set y))),FV.pv (Value.int IntKind.u64 (zb.e1 (zf.Set y))),FV.pv (Value.int IntKind.u64 (zb.e2 (zf.Set y))),FV.pv (Value.int IntKind.u64 (zb.e3 (zf.Set y))),FV.pv (Value.int IntKind.i64 (zf.Lo y)),FV.pv (Value.int IntKind.i64 (zf.Hi y)),FV.sl (List.map zc (zf.Kids y))]))))]) (by kernel_rfl)).trans ?_) (G':=[(3,oL 55 zc (List.set (out++[{ Kind:=(0:Int),Set:={ e0:=(0:Int),e1:=(0:Int),e2:=(0:Int),e3:=(0:Int) },Lo:=(0:Int),Hi:=(0:Int),Kids:=[] }]) (List.length out) y))]) ?_)
  ·refine Wk.of_eq ?_;rw [List.take_of_length_le (by simp)];simp only [nm,enq,zL,List.map_set]
  ·refine Wk.of_eq ?_;rw [List.take_of_length_le (by simp)];simp only [nm,enq,zL,List.map_set]
  exact rndE (wkE [] [3] (by rfl)) (by kernel_rfl) ⟨(List.set (out++[{ Kind:=(0:Int),Set:={ e0:=(0:Int),e1:=(0:Int),e2:=(0:Int),e3:=(0:Int) },Lo:=(0:Int),Hi:=(0:Int),Kids:=[] }]) (List.length out) y),rfl,h⟩
 ·rintro out hinv;have h:=hDInv7 out hinv;refine ⟨[(10,.ptr 20 0),(20,oL 55 zc out)],Wk.pick [10,20] (by kernel_rfl),?_⟩;show Sem _ _ _ _ _;refine sDE kk [] [10,20] [(7,.f (FV.sl (List.take (List.length (List.map zc out)) (List.drop (0:Nat) (List.map zc out)))))] [(7,vL zc out)] obN ?_;refine tD ?_;obtain he0:=h;subst res;exact (endD [] (vL zc out) []).1
end Go.Ev
namespace Go.Ev
open Go Go.Proofs
def orBit (w:Int) (i:Int):Int:=IntKind.u64.wrap (BitVec.ofInt IntKind.u64.bits w ||| BitVec.ofInt IntKind.u64.bits (IntKind.u64.wrap (1 * 2 ^ min i.toNat IntKind.u64.bits))).toNat
def setAdd (s:zb) (i:Int):zb:=
 if i < 64 then { s with e0:=orBit s.e0 i } else if i < 128 then { s with e1:=orBit s.e1 (i - 64) } else if i < 192 then { s with e2:=orBit s.e2 (i - 128) } else { s with e3:=orBit s.e3 (i - 192) }
theorem zN {n:Int} (h0:-2 ^ 63≤n) (h1:n < 2 ^ 63):w64 n=n:=wrap64 (by omega) (by omega)
theorem quot64 (i:Int) (h0:0≤i) (h1:i < 256):w64 (Int.tdiv i 64)=i / 64∧i.tmod 64=i - 64 * (i / 64)∧0≤i.tmod 64:=by
 rw [Int.tdiv_eq_ediv_of_nonneg h0,Int.tmod_eq_emod_of_nonneg h0]
 exact ⟨zN (by omega) (by omega),by omega,by omega⟩
theorem add_ok (s:zb) (i:Int) (h0:0≤i) (h1:i < 256):zbW s i (setAdd s i):=by
 obtain ⟨q,m,hm⟩:=quot64 i h0 h1
 refine zhw s i _ ?_
 rw [q,m]
 refine ⟨by omega,fun h=>⟨fun _=>by omega,?_⟩,fun h=>⟨fun _=>by omega,?_⟩,fun h=>⟨fun _=>by omega,?_⟩,fun h=>⟨fun _=>by omega,?_⟩⟩
 all_goals
  have h:=of_decide_eq_true h
  rw [h]
 ·simp [setAdd,show i < 64 by omega,orBit]
 ·simp [setAdd,show ¬ i < 64 by omega,show i < 128 by omega,orBit]
 ·simp [setAdd,show ¬ i < 64 by omega,show ¬ i < 128 by omega,show i < 192 by omega,orBit]
 ·simp [setAdd,show ¬ i < 64 by omega,show ¬ i < 128 by omega,show ¬ i < 192 by omega,orBit]
def bitOf (w:Int) (i:Int):Bool:=IntKind.u64.wrap (BitVec.ofInt IntKind.u64.bits (w.fdiv (2 ^ min i.toNat IntKind.u64.bits)) &&& BitVec.ofInt IntKind.u64.bits 1).toNat == 1
def setHas (s:zb) (i:Int):Bool:=
 if i < 0 then false else if i < 64 then bitOf s.e0 i else if i < 128 then bitOf s.e1 (i - 64) else if i < 192 then bitOf s.e2 (i - 128) else if i < 256 then bitOf s.e3 (i - 192) else false
theorem has_ok (s:zb) (i:Int):zbr s i (setHas s i):=by
 refine zhy s i _ ⟨fun g=>⟨fun g1=>?_,fun g1=>?_⟩,fun g=>?_⟩
 ·have g:=of_decide_eq_true g
  have g1:=of_decide_eq_true g1
  obtain ⟨q,m,hm⟩:=quot64 i g g1
  rw [q,m]
  refine ⟨by omega,fun h=>⟨fun _ _ _=>by omega,?_⟩,fun h=>⟨fun _ _ _=>by omega,?_⟩,fun h=>⟨fun _ _ _=>by omega,?_⟩,fun h=>⟨fun _ _ _=>by omega,?_⟩⟩
  all_goals
   have h:=of_decide_eq_true h
   rw [h]
  ·simp [setHas,show ¬ i < 0 by omega,show i < 64 by omega,bitOf]
  ·simp [setHas,show ¬ i < 0 by omega,show ¬ i < 64 by omega,show i < 128 by omega,bitOf]
  ·simp [setHas,show ¬ i < 0 by omega,show ¬ i < 64 by omega,show ¬ i < 128 by omega,show i < 192 by omega,bitOf]
  ·simp [setHas,show ¬ i < 0 by omega,show ¬ i < 64 by omega,show ¬ i < 128 by omega,show ¬ i < 192 by omega,show i < 256 by omega,bitOf]
 ·have g:=of_decide_eq_true g
  have g1:=of_decide_eq_false g1
  simp [setHas,show ¬ i < 0 by omega,show ¬ i < 64 by omega,show ¬ i < 128 by omega,show ¬ i < 192 by omega,show ¬ i < 256 by omega]
 ·have g:=of_decide_eq_false g
  simp [setHas,show i < 0 by omega]
end Go.Ev
namespace Go.Ev.Pl
open Go Go.Ev
structure TV (p:zk):Prop where
 map:p.Map.length=256
 mapr:∀ i:Int,0≤i→i < 256→0≤gd p.Map i∧gd p.Map i < p.Width
 dl:p.Default.length=p.Base.length
 al:p.Accept.length=p.Base.length
 cl:p.Check.length=p.Next.length
 base:∀ i:Int,0≤i→i < p.Base.length→0≤gd p.Base i∧gd p.Base i≤p.Next.length
 dflt:∀ i:Int,0≤i→i < p.Base.length→-1≤gd p.Default i∧gd p.Default i < i
 next:∀ i:Int,0≤i→i < p.Next.length→-1≤gd p.Next i∧gd p.Next i < p.Base.length
 acc:∀ i:Int,0≤i→i < p.Base.length→-1≤gd p.Accept i
 start:∀ i:Int,0≤i→i < p.Start.length→-1≤gd p.Start i∧gd p.Start i < p.Base.length
 wd:p.Width≤2 ^ 40
 bl:(p.Base.length:Int)≤2 ^ 40
 nl:(p.Next.length:Int)≤2 ^ 40
def nextF (p:zk) (c:Int):Nat→Int→Int
 | 0,_=>-1
 | k+1,s=>if s = -1 then -1 else if gd p.Base s+c < p.Check.length∧gd p.Check (gd p.Base s+c)=s then gd p.Next (gd p.Base s+c) else nextF p c k (gd p.Default s)
def nextM (p:zk) (s c:Int):Int:=nextF p c (p.Base.length+1) s
theorem next_ok {p:zk} (hv:TV p) {s c:Int} (h1:-1≤s) (h2:s < p.Base.length) (hc:0≤c) (hc2:c < p.Width):zge p s c (nextM p s c):=by
 have hwd:=hv.wd
 have hnl:=hv.nl
 refine W_pack_Next _ _ _ _ ⟨fun x=>-1≤x∧x < p.Base.length∧∃ k:Nat,x < k∧nextF p c k x=nextM p s c,fun x=>(x+1).toNat,⟨h1,h2,_,by omega,rfl⟩,?_⟩
 rintro x ⟨h1,h2,k,h3,h4⟩
 refine ⟨fun hb=>?_,fun hb=>?_⟩
 ·have hx:x≠-1:=by simpa using hb
  obtain ⟨j,rfl⟩:∃ j,k=j+1:=⟨k - 1,by omega⟩
  have hB:=hv.base x (by omega) h2
  have hD:=hv.dflt x (by omega) h2
  have hw:w64 (gd p.Base x+c)=gd p.Base x+c:=zN (by omega) (by omega)
  rw [nextF,if_neg hx] at h4
  simp only [hw,List.length_map]
  refine ⟨by omega,h2,fun _=>by omega,fun h=>by simpa using h,fun h=>?_,fun h=>?_⟩
  ·simp only [Bool.and_eq_true,decide_eq_true_eq,beq_iff_eq] at h
   rw [if_pos h] at h4
   exact ⟨by omega,by have:=h.1;rw [hv.cl] at this;exact this,h4.symm⟩
  ·have hn:¬(gd p.Base x+c < p.Check.length∧gd p.Check (gd p.Base x+c)=x):=by
    rintro ⟨a,b⟩
    rcases Bool.and_eq_false_iff.1 h with h | h
    ·exact absurd a (of_decide_eq_false h)
    ·exact absurd b (beq_eq_false_iff_ne.1 h)
   rw [if_neg hn] at h4
   exact ⟨by omega,by rw [hv.dl];exact h2,⟨hD.1,by omega,j,by omega,h4⟩,by omega⟩
 ·have hx:x = -1:=by simpa using hb
  subst hx
  rw [← h4]
  cases k<;>simp [nextF]
theorem ziL {p:zk} (hv:TV p) {c:Int} (hc:0≤c):∀ (k:Nat) (s:Int),-1≤s→s < p.Base.length→-1≤nextF p c k s∧nextF p c k s < p.Base.length
 | 0,s,h1,h2=>by simp only [nextF];omega
 | k+1,s,h1,h2=>by
   rw [nextF]
   split
   ·omega
   ·split
    ·rename_i h
     have hB:=hv.base s (by omega) h2
     refine hv.next _ (by omega) ?_
     have:=h.1;rw [hv.cl] at this;exact this
    ·have hD:=hv.dflt s (by omega) h2
     exact ziL hv hc k _ hD.1 (by omega)
theorem zfQ {p:zk} (hv:TV p) {s c:Int} (h1:-1≤s) (h2:s < p.Base.length) (hc:0≤c):-1≤nextM p s c∧nextM p s c < p.Base.length:=ziL hv hc _ _ h1 h2
def clsM (p:zk) (w:ByteArray) (i:Int):Int:=p.Map.getD (byteAt w i).toNat default
theorem zjp {p:zk} (hv:TV p) (w:ByteArray) (i:Int):0≤clsM p w i∧clsM p w i < p.Width:=by
 have:=(byteAt w i).toNat_lt
 exact hv.mapr ((byteAt w i).toNat:Int) (by omega) (by omega)
def acceptM (p:zk) (s:Int):Int:=if s = -1 then -1 else gd p.Accept s
def startM (p:zk) (w:ByteArray) (at0 cond:Int):Int:=gd p.Start (2 * cond+if at0=0∨((byteAt w (at0 - 1)).toNat:Int)=10 then 1 else 0)
theorem scan_left_ok (s:zh):zca s (decide (s.At < (s.W.size:Int))) s:=zf4 _ _ _ ⟨rfl,rfl⟩
theorem bol_ok {w:ByteArray} {at0:Int} (h0:0≤at0) (h1:at0≤w.size) (hw:(w.size:Int) < 2 ^ 60):zgg w at0 (at0 == 0 || ((byteAt w (at0 - 1)).toNat:Int) == 10):=by
 have e:w64 (at0 - 1)=at0 - 1:=zN (by omega) (by omega)
 refine W_model_Bol _ _ _ ?_
 rw [e]
 refine ⟨fun h=>?_,fun h=>?_,rfl⟩
 ·have:at0≠0:=by simpa using h
  omega
 ·have:at0≠0:=by simpa using h
  omega
structure SOk (p:zd) (w:ByteArray) (s:zh):Prop where
 prog:s.Program=p
 text:s.W=w
 at0:0≤s.At
 at1:s.At≤w.size
 c0:0≤s.Cond
 c1:2 * s.Cond+1 < p.Tables.Start.length
variable {p : zd} {w : ByteArray}
theorem scan_start_ok {s:zh} (hs:SOk p w s) (hw:(w.size:Int) < 2 ^ 60) (hl:(p.Tables.Start.length:Int) < 2 ^ 60):zbX s (startM p.Tables w s.At s.Cond) s:=by
 obtain ⟨rfl,rfl,h0,h1,c0,c1⟩:=hs
 have e1:w64 (2 * s.Cond)=2 * s.Cond:=zN (by omega) (by omega)
 have e2:w64 (2 * s.Cond+1)=2 * s.Cond+1:=zN (by omega) (by omega)
 refine zfu _ _ _ ⟨fun c=>c=2 * s.Cond+if s.At=0∨((byteAt s.W (s.At - 1)).toNat:Int)=10 then 1 else 0,?_,_,bol_ok h0 h1 hw,fun h=>?_,fun h=>?_⟩
 ·rintro c rfl
  refine ⟨by split<;>omega,by split<;>omega,rfl,rfl⟩
 ·have:s.At=0∨((byteAt s.W (s.At - 1)).toNat:Int)=10:=by simpa using h
  rw [if_pos this,e1,e2]
 ·have:¬(s.At=0∨((byteAt s.W (s.At - 1)).toNat:Int)=10):=by simpa using h
  rw [if_neg this,e1];omega
theorem scan_next_ok {s:zh} (hs:SOk p w s) (hv:TV p.Tables) {st i:Int} (h1:-1≤st) (h2:st < p.Tables.Base.length) (hi:0≤i) (hi2:i < w.size) :
 zb9 st i s (nextM p.Tables st (clsM p.Tables w i)) (acceptM p.Tables (nextM p.Tables st (clsM p.Tables w i))) s:=by
 obtain ⟨rfl,rfl,-,-,-,-⟩:=hs
 have hb:=(byteAt s.W i).toNat_lt
 have hc:=zjp hv s.W i
 have hn:=zfQ hv h1 h2 hc.1
 refine zf3 _ _ _ _ _ _ ⟨hi,hi2,by omega,by rw [hv.map];omega,_,next_ok hv h1 h2 hc.1 hc.2,fun h=>?_,fun h=>?_⟩
 ·have e:nextM s.Program.Tables st (clsM s.Program.Tables s.W i) = -1:=beq_iff_eq.1 h
  exact ⟨e,by rw [acceptM,if_pos e],rfl⟩
 ·have e:nextM s.Program.Tables st (clsM s.Program.Tables s.W i)≠-1:=beq_eq_false_iff_ne.1 h
  exact ⟨(show 0≤nextM s.Program.Tables st (clsM s.Program.Tables s.W i) by omega),by rw [hv.al];exact hn.2,rfl,(by show acceptM s.Program.Tables (nextM s.Program.Tables st (clsM s.Program.Tables s.W i))=gd s.Program.Tables.Accept (nextM s.Program.Tables st (clsM s.Program.Tables s.W i));rw [acceptM,if_neg e]),rfl⟩
def takeF (p:zk) (w:ByteArray) (at0:Int):Nat→Int→Int→Int→Int→Int×Int
 | 0,_,_,r,t=>(r,t)
 | k+1,i,s,r,t=>if i < w.size∧s≠-1 then
    (if acceptM p (nextM p s (clsM p w i))≠-1 then takeF p w at0 k (i+1) (nextM p s (clsM p w i)) (acceptM p (nextM p s (clsM p w i))) (i+1 - at0) else takeF p w at0 k (i+1) (nextM p s (clsM p w i)) r t)
   else (r,t)
def takeM (p:zk) (w:ByteArray) (at0 cond:Int):Int×Int:=takeF p w at0 (w.size+1) at0 (startM p w at0 cond) (-1) 0
theorem scan_take_ok {s:zh} (hs:SOk p w s) (hv:TV p.Tables) (hw:(w.size:Int) < 2 ^ 60) (hl:(p.Tables.Start.length:Int) < 2 ^ 60) :
 zb8 s (takeM p.Tables w s.At s.Cond).1 (takeM p.Tables w s.At s.Cond).2 s:=by
 have hst:=hv.start (2 * s.Cond+if s.At=0∨((byteAt w (s.At - 1)).toNat:Int)=10 then 1 else 0) (by have:=hs.c0;split<;>omega) (by have:=hs.c1;split<;>omega)
 refine zf2 _ _ _ _ ⟨_,_,scan_start_ok hs hw hl,?_⟩
 refine ⟨fun o r t st i=>o=s∧s.At≤i∧i≤w.size∧-1≤st∧st < p.Tables.Base.length∧∃ k:Nat,w.size < i+k∧takeF p.Tables w s.At k i st r t=takeM p.Tables w s.At s.Cond,fun _ _ _ _ i=>(w.size - i).toNat,
  ⟨rfl,Int.le_refl _,hs.at1,hst.1,hst.2,_,by have:=hs.at0;omega,rfl⟩,?_⟩
 rintro o r t st i ⟨rfl,i0,i1,s0,s1,k,hk,he⟩
 have ht:=hs.text
 have h0:=hs.at0
 refine ⟨fun h=>?_,fun h=>?_⟩
 ·simp only [ht,Bool.and_eq_true,decide_eq_true_eq,bne_iff_ne,ne_eq] at h
  obtain ⟨j,rfl⟩:∃ j,k=j+1:=⟨k - 1,by omega⟩
  rw [takeF,if_pos h] at he
  have hr:=zfQ hv s0 s1 (zjp hv w i).1
  have e1:w64 (i+1)=i+1:=zN (by omega) (by omega)
  have e2:w64 (i+1 - o.At)=i+1 - o.At:=zN (by omega) (by omega)
  refine ⟨fun o' r' t' st'=>o'=o∧st'=nextM p.Tables st (clsM p.Tables w i)∧takeF p.Tables w o.At j (i+1) st' r' t'=takeM p.Tables w o.At o.Cond,?_,_,_,_,scan_next_ok hs hv s0 s1 (by omega) h.1,fun hb=>?_,fun hb=>?_⟩
  ·rintro o' r' t' st' ⟨rfl,rfl,hj⟩
   rw [e1]
   have hlt:=h.1
   exact ⟨⟨rfl,by omega,by omega,hr.1,hr.2,j,by omega,hj⟩,by show (_:Int).toNat < (_:Int).toNat;omega⟩
  ·have hb':acceptM p.Tables (nextM p.Tables st (clsM p.Tables w i))≠-1:=by simpa using hb
   rw [if_pos hb'] at he
   rw [e1,e2]
   exact ⟨rfl,rfl,he⟩
  ·have hb':¬acceptM p.Tables (nextM p.Tables st (clsM p.Tables w i))≠-1:=by simpa using hb
   rw [if_neg hb'] at he
   exact ⟨rfl,rfl,he⟩
 ·have hn:¬(i < w.size∧st≠-1):=by
   rintro ⟨a,b⟩
   simp [ht,a,b] at h
  have:takeF p.Tables w o.At k i st r t=(r,t):=by
   cases k with
   | zero=>rfl
   | succ k=>rw [takeF,if_neg hn]
  rw [this] at he
  rw [← he]
  exact ⟨rfl,rfl,rfl⟩
end Go.Ev.Pl
namespace Go.Ev.Pl
open Go Go.Ev
structure PrOk (p:zd) (w:ByteArray) (spl:zw→ByteArray→Int) (act:Int→Int→Bool):Prop where
 tv:TV p.Tables
 sl:(p.Tables.Start.length:Int) < 2 ^ 60
 wl:(w.size:Int) < 2 ^ 30
 rl:(p.Spec.Rules.length:Int) < 2 ^ 30
 acc:∀ s:Int,0≤s→s < p.Tables.Base.length→gd p.Tables.Accept s < p.Spec.Rules.length
 to0:∀ r∈p.Spec.Rules,r.Act=3→0≤r.To∧2 * r.To+1 < p.Tables.Start.length
 spl:∀ r∈p.Spec.Rules,∀ t:ByteArray,t.size≤w.size→zct r t (spl r t)∧0≤spl r t∧spl r t≤t.size
 act:∀ i c:Int,0≤i→i < p.Spec.Rules.length→0≤c→2 * c+1 < p.Tables.Start.length→zdi p.Spec i c (act i c)
def eofF (s:zr) (act:Int→Int→Bool) (c:Int):Nat→Int→Int
 | 0,_=>-1
 | k+1,i=>if i < s.Rules.length then (if (gd s.Rules i).Eof=true∧act i c=true then i else eofF s act c k (i+1)) else -1
def eofM (s:zr) (act:Int→Int→Bool) (c:Int):Int:=eofF s act c (s.Rules.length+1) 0
variable {p : zd} {w : ByteArray} {spl : zw → ByteArray → Int} {act : Int → Int → Bool}
theorem eof_ok (hp:PrOk p w spl act) {c:Int} (c0:0≤c) (c1:2 * c+1 < p.Tables.Start.length):zgf p.Spec c (eofM p.Spec act c):=by
 have hrl:=hp.rl
 refine W_model_Eof _ _ _ ⟨fun i=>0≤i∧i≤p.Spec.Rules.length∧∃ k:Nat,p.Spec.Rules.length < i+k∧eofF p.Spec act c k i=eofM p.Spec act c,fun i=>(p.Spec.Rules.length - i).toNat,⟨by omega,by omega,_,by omega,rfl⟩,?_⟩
 rintro i ⟨h0,h1,k,h2,h3⟩
 refine ⟨fun h=>?_,fun h=>?_⟩
 ·have hi:i < p.Spec.Rules.length:=of_decide_eq_true h
  obtain ⟨j,rfl⟩:∃ j,k=j+1:=⟨k - 1,by omega⟩
  rw [eofF,if_pos hi] at h3
  have e1:w64 (i+1)=i+1:=zN (by omega) (by omega)
  have hgo:eofF p.Spec act c j (i+1)=eofM p.Spec act c→(0≤w64 (i+1)∧w64 (i+1)≤p.Spec.Rules.length∧∃ k:Nat,p.Spec.Rules.length < w64 (i+1)+k∧eofF p.Spec act c k (w64 (i+1))=eofM p.Spec act c)∧(p.Spec.Rules.length - w64 (i+1)).toNat < (p.Spec.Rules.length - i).toNat:=by
   intro h4
   rw [e1]
   exact ⟨⟨by omega,by omega,j,by omega,h4⟩,by omega⟩
  refine ⟨h0,hi,fun hE=>⟨_,hp.act i c h0 hi c0 c1,fun ha=>?_,fun ha=>hgo ?_⟩,fun hE=>hgo ?_⟩
  ·rw [if_pos ⟨hE,ha⟩] at h3;exact h3.symm
  ·rw [if_neg (by rw [ha];simp)] at h3;exact h3
  ·rw [if_neg (by rw [hE];simp)] at h3;exact h3
 ·have hi:¬i < p.Spec.Rules.length:=of_decide_eq_false h
  rw [← h3]
  cases k with
  | zero=>rfl
  | succ k=>rw [eofF,if_neg hi]
theorem zj9 {s:zr} {act:Int→Int→Bool} {c:Int}:∀ (k:Nat) (i:Int),0≤i→(eofF s act c k i = -1∨0≤eofF s act c k i∧eofF s act c k i < s.Rules.length∧(gd s.Rules (eofF s act c k i)).Eof=true)
 | 0,i,_=>.inl rfl
 | k+1,i,h=>by
   rw [eofF]
   split
   ·split
    ·rename_i h1 h2;exact .inr ⟨h,h1,h2.1⟩
    ·exact zj9 k (i+1) (by omega)
   ·exact .inl rfl
def TkOk (p:zk) (at0 i r t:Int):Prop:=(r = -1∧t=0)∨(r≠-1∧(∃ s:Int,0≤s∧s < p.Base.length∧gd p.Accept s=r)∧1≤t∧at0+t≤i)
theorem zfM {q:zk} (hv:TV q) {w:ByteArray} {at0:Int}:∀ (k:Nat) (i s r t:Int),at0≤i→i≤w.size→-1≤s→s < q.Base.length→TkOk q at0 i r t→TkOk q at0 w.size (takeF q w at0 k i s r t).1 (takeF q w at0 k i s r t).2
 | 0,i,s,r,t,h0,h1,h2,h3,h=>by
   rcases h with h | ⟨a,b,c,d⟩
   ·exact .inl h
   ·exact .inr ⟨a,b,c,by simp only [takeF];omega⟩
 | k+1,i,s,r,t,h0,h1,h2,h3,h=>by
   rw [takeF]
   split
   ·rename_i hc
    have hn:=zfQ hv h2 h3 (zjp hv w i).1
    split
    ·rename_i ha
     refine zfM hv k (i+1) _ _ _ (by omega) (by omega) hn.1 hn.2 (.inr ⟨ha,⟨nextM q s (clsM q w i),?_,hn.2,?_⟩,by omega,by omega⟩)
     ·by_cases e:nextM q s (clsM q w i) = -1
      ·rw [acceptM,if_pos e] at ha;exact absurd rfl ha
      ·omega
     ·by_cases e:nextM q s (clsM q w i) = -1
      ·rw [acceptM,if_pos e] at ha;exact absurd rfl ha
      ·rw [acceptM,if_neg e]
    ·refine zfM hv k (i+1) _ _ _ (by omega) (by omega) hn.1 hn.2 ?_
     rcases h with h | ⟨a,b,c,d⟩
     ·exact .inl h
     ·exact .inr ⟨a,b,c,by omega⟩
   ·rcases h with h | ⟨a,b,c,d⟩
    ·exact .inl h
    ·exact .inr ⟨a,b,c,by omega⟩
theorem zg9 (hp:PrOk p w spl act) {at0 c:Int} (h0:0≤at0) (h1:at0≤w.size) (c0:0≤c) (c1:2 * c+1 < p.Tables.Start.length) :
 ((takeM p.Tables w at0 c).1 = -1∧(takeM p.Tables w at0 c).2=0)∨(0≤(takeM p.Tables w at0 c).1∧(takeM p.Tables w at0 c).1 < p.Spec.Rules.length∧1≤(takeM p.Tables w at0 c).2∧at0+(takeM p.Tables w at0 c).2≤w.size∧
   ∃ s:Int,0≤s∧s < p.Tables.Base.length∧gd p.Tables.Accept s=(takeM p.Tables w at0 c).1):=by
 have hst:=hp.tv.start (2 * c+if at0=0∨((byteAt w (at0 - 1)).toNat:Int)=10 then 1 else 0) (by split<;>omega) (by split<;>omega)
 rcases zfM hp.tv (w:=w) (at0:=at0) (w.size+1) at0 (startM p.Tables w at0 c) (-1) 0 (Int.le_refl _) h1 hst.1 hst.2 (.inl ⟨rfl,rfl⟩) with h | ⟨a,⟨s,s0,s1,s2⟩,b,d⟩
 ·exact .inl h
 ·refine .inr ⟨?_,?_,b,d,s,s0,s1,s2⟩
  ·have:=hp.tv.acc s s0 s1
   have e:(takeM p.Tables w at0 c).1=gd p.Tables.Accept s:=s2.symm
   have ha:(takeM p.Tables w at0 c).1≠-1:=a
   omega
  ·have:=hp.acc s s0 s1
   rw [s2] at this;exact this
theorem zfO (t:zC) (s:zh) (h:(s.Out.Tokens.length:Int) < 2 ^ 31):zbb t s { Program:=s.Program,W:=s.W,At:=t.End,Cond:=s.Cond,Out:={ Tokens:=s.Out.Tokens++[t],Jam:=s.Out.Jam } }:=
 zgT _ _ _ ⟨by omega,rfl⟩
def ownM (spl:zw→ByteArray→Int) (r:zw) (text:ByteArray) (took:Int):Int:=if spl r text=0 then took else spl r text
def textM (w:ByteArray) (at0 took:Int):ByteArray:=w.extract at0.toNat (at0+took).toNat
def putM (p:zd) (w:ByteArray) (spl:zw→ByteArray→Int) (r t:Int) (s:zh):zh:=
 if r = -1 then (if p.Spec.Default=true then { Program:=s.Program,W:=s.W,At:=s.At+1,Cond:=s.Cond,Out:={ Tokens:=s.Out.Tokens++[{ Rule:=-1,Start:=s.At,End:=s.At+1,Cond:=s.Cond }],Jam:=s.Out.Jam } }
  else { Program:=s.Program,W:=s.W,At:=s.At,Cond:=s.Cond,Out:={ Tokens:=s.Out.Tokens,Jam:=s.At } })
 else { Program:=s.Program,W:=s.W,At:=s.At+ownM spl (gd p.Spec.Rules r) (textM w s.At t) t,Cond:=(if (gd p.Spec.Rules r).Act=3 then (gd p.Spec.Rules r).To else s.Cond),Out:={ Tokens:=s.Out.Tokens++[{ Rule:=r,Start:=s.At,End:=s.At+ownM spl (gd p.Spec.Rules r) (textM w s.At t) t,Cond:=s.Cond }],Jam:=s.Out.Jam } }
theorem ziH (hp:PrOk p w spl act) {at0 r t:Int} (h0:0≤at0) (r0:0≤r) (r1:r < p.Spec.Rules.length) (t0:1≤t) (t1:at0+t≤w.size) :
 zct (gd p.Spec.Rules r) (textM w at0 t) (spl (gd p.Spec.Rules r) (textM w at0 t))∧1≤ownM spl (gd p.Spec.Rules r) (textM w at0 t) t∧at0+ownM spl (gd p.Spec.Rules r) (textM w at0 t) t≤w.size:=by
 have hm:gd p.Spec.Rules r∈p.Spec.Rules:=by
  have hr:r.toNat < p.Spec.Rules.length:=by omega
  show p.Spec.Rules.getD r.toNat default∈_
  rw [List.getD_eq_getElem?_getD,List.getElem?_eq_getElem hr]
  exact List.getElem_mem hr
 have hsz:((textM w at0 t).size:Int)=t:=by
  rw [textM,ByteArray.size_extract];omega
 obtain ⟨h1,h2,h3⟩:=hp.spl _ hm (textM w at0 t) (by omega)
 refine ⟨h1,?_⟩
 unfold ownM
 split<;>omega
theorem scan_Put_ok (hp:PrOk p w spl act) {s:zh} (hs:SOk p w s) {r t:Int} (hr:(r = -1∧t=0)∨(0≤r∧r < p.Spec.Rules.length∧1≤t∧s.At+t≤w.size)) (hat:s.At < w.size)
 (hl:(s.Out.Tokens.length:Int) < 2 ^ 31):zcu r t s (r != -1 || p.Spec.Default) (putM p w spl r t s):=by
 obtain ⟨rfl,rfl,h0,h1,c0,c1⟩:=hs
 have hwl:=hp.wl
 refine zgU _ _ _ _ _ ⟨fun hb=>?_,fun hb=>?_⟩
 ·have e:r = -1:=beq_iff_eq.1 hb
  subst e
  refine ⟨fun hd=>?_,fun hd=>?_⟩
  ·have hd':s.Program.Spec.Default=false:=by simpa using hd
   exact ⟨by simp [hd'],by simp [putM,hd']⟩
  ·have hd':s.Program.Spec.Default=true:=by simpa using hd
   refine ⟨_,zfO _ _ hl,by simp [hd'],?_⟩
   rw [zN (by omega) (by omega)]
   simp [putM,hd']
 ·have e:r≠-1:=beq_eq_false_iff_ne.1 hb
  obtain ⟨r0,r1,t0,t1⟩:0≤r∧r < s.Program.Spec.Rules.length∧1≤t∧s.At+t≤s.W.size:=by
   rcases hr with h | h
   ·exact absurd h.1 e
   ·exact h
  have e1:w64 (s.At+t)=s.At+t:=zN (by omega) (by omega)
  obtain ⟨k1,k2,k3⟩:=ziH hp h0 r0 r1 t0 t1
  rw [e1]
  refine ⟨r0,r1,⟨h0,by omega,by omega,by omega⟩,_,k1,fun h=>h=ownM spl (gd s.Program.Spec.Rules r) (textM s.W s.At t) t,?_,fun hz=>?_,fun hz=>?_⟩
  ·rintro h rfl
   have e2:w64 (s.At+ownM spl (gd s.Program.Spec.Rules r) (textM s.W s.At t) t)=s.At+ownM spl (gd s.Program.Spec.Rules r) (textM s.W s.At t) t:=zN (by omega) (by omega)
   rw [e2]
   refine ⟨_,zfO _ _ hl,fun c=>c=if (gd s.Program.Spec.Rules r).Act=3 then (gd s.Program.Spec.Rules r).To else s.Cond,?_,fun ha=>?_,fun ha=>?_⟩
   ·rintro c rfl
    refine ⟨by simp [e],?_⟩
    rw [putM,if_neg e]
   ·rw [if_pos (beq_iff_eq.1 ha)]
   ·rw [if_neg (beq_eq_false_iff_ne.1 ha)]
  ·have hz':spl (gd s.Program.Spec.Rules r) (textM s.W s.At t)=0:=beq_iff_eq.1 hz
   rw [ownM,if_pos hz']
  ·have hz':spl (gd s.Program.Spec.Rules r) (textM s.W s.At t)≠0:=beq_eq_false_iff_ne.1 hz
   rw [ownM,if_neg hz']
def endM (p:zd) (act:Int→Int→Bool) (s:zh):zh:=
 if eofM p.Spec act s.Cond = -1 then s else { Program:=s.Program,W:=s.W,At:=s.At,Cond:=s.Cond,Out:={ Tokens:=s.Out.Tokens++[{ Rule:=eofM p.Spec act s.Cond,Start:=s.At,End:=s.At,Cond:=s.Cond }],Jam:=s.Out.Jam } }
theorem scan_End_ok (hp:PrOk p w spl act) {s:zh} (hs:SOk p w s) (hl:(s.Out.Tokens.length:Int) < 2 ^ 31):zcv s (endM p act s):=by
 obtain ⟨rfl,rfl,h0,h1,c0,c1⟩:=hs
 refine zgV _ _ ⟨_,eof_ok hp c0 c1,fun h=>⟨_,zfO _ _ hl,?_⟩,fun h=>?_⟩
 ·have e:eofM s.Program.Spec act s.Cond≠-1:=by simpa using h
  rw [endM,if_neg e]
 ·have e:eofM s.Program.Spec act s.Cond = -1:=by simpa using h
  rw [endM,if_pos e]
def stepM (p:zd) (w:ByteArray) (spl:zw→ByteArray→Int) (s:zh):zh:=putM p w spl (takeM p.Tables w s.At s.Cond).1 (takeM p.Tables w s.At s.Cond).2 s
def scanF (p:zd) (w:ByteArray) (spl:zw→ByteArray→Int) (act:Int→Int→Bool):Nat→zh→zi
 | 0,s=>s.Out
 | k+1,s=>if s.At < w.size then (if (takeM p.Tables w s.At s.Cond).1 = -1∧p.Spec.Default=false then (stepM p w spl s).Out else scanF p w spl act k (stepM p w spl s)) else (endM p act s).Out
def scan0 (p:zd) (w:ByteArray):zh:={ Program:=p,W:=w,At:=0,Cond:=0,Out:={ Tokens:=[],Jam:=-1 } }
def scanM (p:zd) (w:ByteArray) (spl:zw→ByteArray→Int) (act:Int→Int→Bool):zi:=scanF p w spl act (w.size+1) (scan0 p w)
theorem step_sok (hp:PrOk p w spl act) {s:zh} (hs:SOk p w s) (hat:s.At < w.size) (hg:¬((takeM p.Tables w s.At s.Cond).1 = -1∧p.Spec.Default=false)) :
 SOk p w (stepM p w spl s)∧s.At+1≤(stepM p w spl s).At∧(stepM p w spl s).Out.Tokens.length=s.Out.Tokens.length+1:=by
 have hr:=zg9 hp hs.at0 hs.at1 hs.c0 hs.c1
 obtain ⟨rfl,rfl,h0,h1,c0,c1⟩:=hs
 unfold stepM putM
 split
 ·rename_i e
  have hd:s.Program.Spec.Default=true:=by
   cases h:s.Program.Spec.Default with
   | true=>rfl
   | false=>exact absurd ⟨e,h⟩ hg
  rw [if_pos hd]
  exact ⟨⟨rfl,rfl,by show 0≤s.At+1;omega,by show s.At+1≤_;omega,c0,c1⟩,Int.le_refl _,by simp⟩
 ·rename_i e
  obtain ⟨r0,r1,t0,t1,-⟩:0≤(takeM s.Program.Tables s.W s.At s.Cond).1∧(takeM s.Program.Tables s.W s.At s.Cond).1 < s.Program.Spec.Rules.length∧1≤(takeM s.Program.Tables s.W s.At s.Cond).2∧s.At+(takeM s.Program.Tables s.W s.At s.Cond).2≤s.W.size∧_:=by
   rcases hr with h | h
   ·exact absurd h.1 e
   ·exact h
  obtain ⟨-,k2,k3⟩:=ziH hp h0 r0 r1 t0 t1
  have hm:gd s.Program.Spec.Rules (takeM s.Program.Tables s.W s.At s.Cond).1∈s.Program.Spec.Rules:=by
   have hr:(takeM s.Program.Tables s.W s.At s.Cond).1.toNat < s.Program.Spec.Rules.length:=by omega
   show s.Program.Spec.Rules.getD _ default∈_
   rw [List.getD_eq_getElem?_getD,List.getElem?_eq_getElem hr]
   exact List.getElem_mem hr
  refine ⟨⟨rfl,rfl,by show 0≤s.At+ownM _ _ _ _;omega,k3,?_,?_⟩,by show s.At+1≤s.At+ownM _ _ _ _;omega,by simp⟩
  ·show 0≤if _=3 then _ else _
   split
   ·rename_i h;exact (hp.to0 _ hm h).1
   ·exact c0
  ·show 2 * (if _=3 then _ else _)+1 < _
   split
   ·rename_i h;exact (hp.to0 _ hm h).2
   ·exact c1
theorem scan_ok (hp:PrOk p w spl act) (hR:zc1 p w true) (h1:1 < p.Tables.Start.length):zbA p w (scanM p w spl act) 0:=by
 have hwl:=hp.wl
 refine zjB _ _ _ _ ⟨_,hR,fun h=>by simp at h,fun _=>?_⟩
 refine ⟨fun s=>SOk p w s∧(s.Out.Tokens.length:Int)≤s.At∧∃ k:Nat,w.size < s.At+k∧scanF p w spl act k s=scanM p w spl act,fun s=>(w.size - s.At).toNat,⟨⟨rfl,rfl,Int.le_refl _,by show (0:Int)≤_;omega,Int.le_refl _,by show 2 * 0+1 < _;omega⟩,Int.le_refl _,_,by show (_:Int) < 0+_;omega,rfl⟩,?_⟩
 rintro s ⟨hs,ht,k,hk,he⟩
 refine ⟨_,_,scan_left_ok s,fun h=>?_,fun h=>?_⟩
 ·have hat:s.At < w.size:=by rw [← hs.text];exact of_decide_eq_true h
  have hr:=zg9 hp hs.at0 hs.at1 hs.c0 hs.c1
  obtain ⟨j,rfl⟩:∃ j,k=j+1:=⟨k - 1,by omega⟩
  rw [scanF,if_pos hat] at he
  refine ⟨_,_,_,scan_take_ok hs hp.tv (by omega) hp.sl,_,_,scan_Put_ok hp hs (by rcases hr with h | ⟨a,b,c,d,-⟩;exact .inl h;exact .inr ⟨a,b,c,d⟩) hat (by omega),fun hb=>?_,fun hb=>?_⟩
  ·have hg:(takeM p.Tables w s.At s.Cond).1 = -1∧p.Spec.Default=false:=by simpa using hb
   rw [if_pos hg] at he
   exact ⟨he.symm,rfl⟩
  ·have hg:¬((takeM p.Tables w s.At s.Cond).1 = -1∧p.Spec.Default=false):=by
    rintro ⟨a,b⟩
    simp [a,b] at hb
   rw [if_neg hg] at he
   obtain ⟨k1,k2,k3⟩:=step_sok hp hs hat hg
   have k1:SOk p w (putM p w spl (takeM p.Tables w s.At s.Cond).1 (takeM p.Tables w s.At s.Cond).2 s):=k1
   have k2:s.At+1≤(putM p w spl (takeM p.Tables w s.At s.Cond).1 (takeM p.Tables w s.At s.Cond).2 s).At:=k2
   have k3:(putM p w spl (takeM p.Tables w s.At s.Cond).1 (takeM p.Tables w s.At s.Cond).2 s).Out.Tokens.length=s.Out.Tokens.length+1:=k3
   exact ⟨⟨k1,by omega,j,by omega,he⟩,by show (_:Int).toNat < (_:Int).toNat;omega⟩
 ·have hat:¬s.At < w.size:=by rw [← hs.text];exact of_decide_eq_false h
  refine ⟨_,scan_End_ok hp hs (by have:=hs.at1;omega),?_,rfl⟩
  rw [← he]
  cases k with
  | zero=>have:=hs.at1;omega
  | succ k=>rw [scanF,if_neg hat]
end Go.Ev.Pl
namespace Go.Ev.Pl
open Go Go.Ev
theorem zaQ {α:Type} [Inhabited α] {l:List α} {i:Int} (h0:0≤i) (h1:i < l.length):gd l i∈l:=by
 have hr:i.toNat < l.length:=by omega
 show l.getD i.toNat default∈l
 rw [List.getD_eq_getElem?_getD,List.getElem?_eq_getElem hr]
 exact List.getElem_mem hr
theorem within1_ok (n v v1:Int):zc8 n v v1 (decide (n < v) || decide (n≥v1)) v v1:=zh7 _ _ _ _ _ _ ⟨rfl,rfl,rfl⟩
theorem zcD {l:List Int} {a b:Int} (hl:(l.length:Int) < 2 ^ 60) (h:∀ x∈l,a≤x∧x < b):zbc l a b true:=by
 have hidx:zad l a b (-1) a b:=by
  refine zbq _ _ _ _ _ _ ⟨fun o0 o1 t=>o0=a∧o1=b∧0≤t∧t≤l.length,fun _ _ t=>(l.length - t).toNat,⟨rfl,rfl,by omega,by omega⟩,?_⟩
  rintro o0 o1 t ⟨rfl,rfl,h0,h1⟩
  refine ⟨fun hb=>?_,fun _=>⟨rfl,rfl,rfl⟩⟩
  have hlt:t < l.length:=of_decide_eq_true hb
  have hm:=h (gd l t) (zaQ h0 hlt)
  have e1:w64 (t+1)=t+1:=zN (by omega) (by omega)
  refine ⟨h0,hlt,_,_,_,within1_ok _ _ _,fun hb=>?_,fun _=>?_⟩
  ·exfalso;simp only [Bool.or_eq_true,decide_eq_true_eq] at hb;omega
  ·rw [e1];exact ⟨⟨rfl,rfl,by omega,by omega⟩,by dsimp only;omega⟩
 exact W_pack_within _ _ _ _ ⟨_,_,_,za9 _ _ _ _ _ _ ⟨_,_,_,hidx,rfl,rfl,rfl⟩,rfl⟩
structure VB (p:zk):Prop where
 map:p.Map.length=256
 bl:p.Base.length≤500
 nl:p.Next.length≤50000
 dl:p.Default.length=p.Base.length
 al:p.Accept.length=p.Base.length
 cl:p.Check.length=p.Next.length
 sl:p.Start.length≤16
 w1:1≤p.Width
 w2:p.Width≤256
 dflt:∀ i:Int,0≤i→i < p.Default.length→-1≤gd p.Default i∧gd p.Default i < i
 mapr:∀ x∈p.Map,0≤x∧x < p.Width
 base:∀ x∈p.Base,0≤x∧x < (p.Next.length:Int)+1
 next:∀ x∈p.Next,-1≤x∧x < p.Base.length
 chk:∀ x∈p.Check,-1≤x∧x < p.Base.length
 acc:∀ x∈p.Accept,-1≤x∧x < 40
 start:∀ x∈p.Start,-1≤x∧x < p.Base.length
theorem VB.tv {p:zk} (h:VB p):TV p where
 map:=h.map
 mapr:=fun i h0 h1=>h.mapr _ (zaQ h0 (by rw [h.map];omega))
 dl:=h.dl
 al:=h.al
 cl:=h.cl
 base:=fun i h0 h1=>by have:=h.base _ (zaQ h0 h1);omega
 dflt:=fun i h0 h1=>h.dflt i h0 (by rw [h.dl];exact h1)
 next:=fun i h0 h1=>h.next _ (zaQ h0 h1)
 acc:=fun i h0 h1=>(h.acc _ (zaQ h0 (by rw [h.al];exact h1))).1
 start:=fun i h0 h1=>h.start _ (zaQ h0 h1)
 wd:=by have:=h.w2;omega
 bl:=by have:=h.bl;omega
 nl:=by have:=h.nl;omega
theorem sizes_ok {p:zk} (h:VB p):ze9 p true:=by
 refine W_pack_sizes _ _ ?_
 have e1:=h.bl;have e2:=h.nl;have e3:=h.sl
 have e4:(p.Base.length:Int)≤500:=by omega
 have e5:(p.Next.length:Int)≤50000:=by omega
 have e6:(p.Start.length:Int)≤16:=by omega
 simp [h.dl,h.al,h.cl,h.map,e4,e5,e6]
theorem valid_ok {p:zk} (h:VB p):zfa p true:=by
 have e1:=h.bl;have e2:=h.nl;have e3:=h.sl;have e4:=h.dl
 have hw1:=h.w1;have hw2:=h.w2
 have eN:w64 ((p.Next.length:Int)+1)=(p.Next.length:Int)+1:=zN (by omega) (by omega)
 have f1:∀ {b:Prop},(true=false→b):=fun h=>by cases h
 refine W_pack_Valid _ _ ⟨_,sizes_ok h,fun hb=>?_,fun _=>⟨fun t=>0≤t∧t≤p.Default.length,fun t=>(p.Default.length - t).toNat,⟨by omega,by omega⟩,?_⟩⟩
 ·exfalso;simp at hb;omega
 rintro t ⟨h0,h1⟩
 refine ⟨fun hb=>?_,fun _=>?_⟩
 ·have hlt:t < p.Default.length:=of_decide_eq_true hb
  have hd:=h.dflt t h0 hlt
  have e5:w64 (t+1)=t+1:=zN (by omega) (by omega)
  refine ⟨h0,hlt,fun hb=>?_,fun _=>?_⟩
  ·exfalso;simp only [Bool.or_eq_true,decide_eq_true_eq] at hb;omega
  ·rw [e5];exact ⟨⟨by omega,by omega⟩,by dsimp only;omega⟩
 ·rw [eN]
  refine ⟨_,zcD (by rw [h.map];omega) h.mapr,fun _=>?_,f1⟩
  refine ⟨_,zcD (by omega) h.base,fun _=>?_,f1⟩
  refine ⟨_,zcD (by omega) h.next,fun _=>?_,f1⟩
  refine ⟨_,zcD (by rw [h.cl];omega) h.chk,fun _=>?_,f1⟩
  refine ⟨_,zcD (by rw [h.al];omega) h.acc,fun _=>?_,f1⟩
  exact ⟨_,zcD (by omega) h.start,rfl⟩
def AccOk (s:zr) (k:Int):Prop:=k < s.Rules.length∧(0≤k→(gd s.Rules k).Eof=false)
theorem accepts_ok {p:zd} {l:List Int} (hl:(l.length:Int) < 2 ^ 60) (h:∀ k∈l,AccOk p.Spec k):z6 l p false p:=by
 have hidx:zaa l p (-1) p:=by
  refine zbh _ _ _ _ ⟨fun a b c d e f g h i j k t=>a=p.Spec.Conds∧b=p.Spec.Default∧c=p.Spec.Rules∧d=p.Tables.Map∧e=p.Tables.Width∧f=p.Tables.Base∧g=p.Tables.Default∧h=p.Tables.Next∧i=p.Tables.Check∧j=p.Tables.Accept∧k=p.Tables.Start∧0≤t∧t≤l.length,
   fun _ _ _ _ _ _ _ _ _ _ _ t=>(l.length - t).toNat,⟨rfl,rfl,rfl,rfl,rfl,rfl,rfl,rfl,rfl,rfl,rfl,by omega,by omega⟩,?_⟩
  rintro _ _ _ _ _ _ _ _ _ _ _ t ⟨rfl,rfl,rfl,rfl,rfl,rfl,rfl,rfl,rfl,rfl,rfl,h0,h1⟩
  refine ⟨fun hb=>?_,fun _=>⟨rfl,rfl⟩⟩
  have hlt:t < l.length:=of_decide_eq_true hb
  obtain ⟨hm,he⟩:=h (gd l t) (zaQ h0 hlt)
  have e1:w64 (t+1)=t+1:=zN (by omega) (by omega)
  refine ⟨h0,hlt,false,p,zg7 _ _ _ _ ⟨fun _ h=>by simpa using h,fun h _=>by simpa using h,?_,rfl⟩,fun hb=>(by cases hb),fun _=>?_⟩
  ·by_cases hk:0≤gd l t
   ·have hn:¬ gd l t≥(p.Spec.Rules.length:Int):=by omega
    show false=(decide (gd l t≥(p.Spec.Rules.length:Int)) || decide (gd l t≥0) && (gd p.Spec.Rules (gd l t)).Eof)
    rw [he hk,decide_eq_false hn];simp
   ·have hn:¬ gd l t≥(p.Spec.Rules.length:Int):=by omega
    show false=(decide (gd l t≥(p.Spec.Rules.length:Int)) || decide (gd l t≥0) && (gd p.Spec.Rules (gd l t)).Eof)
    rw [decide_eq_false hn,decide_eq_false (p:=gd l t≥0) (by omega)];rfl
  ·rw [e1];exact ⟨⟨rfl,rfl,rfl,rfl,rfl,rfl,rfl,rfl,rfl,rfl,rfl,by omega,by omega⟩,by dsimp only;omega⟩
 exact za2 _ _ _ _ ⟨_,_,hidx,rfl,rfl⟩
theorem zjo {p:zd} (hs:zcj p.Spec true) (hv:VB p.Tables) (hst:(p.Tables.Start.length:Int)=2 * p.Spec.Conds.length) (ha:∀ k∈p.Tables.Accept,AccOk p.Spec k):zdD p true:=by
 have e3:=hv.sl
 have e4:=hv.al
 have e5:=hv.bl
 have e6:w64 (2 * (p.Spec.Conds.length:Int))=2 * p.Spec.Conds.length:=zN (by omega) (by omega)
 refine ze7 _ _ ⟨_,hs,fun h=>(by cases h),fun _=>⟨_,valid_ok hv,fun h=>(by cases h),fun _=>⟨fun h=>?_,fun _=>⟨_,_,accepts_ok (by omega) ha,rfl⟩⟩⟩⟩
 rw [e6,hst] at h
 simp at h
theorem scanRight_ok {p:zd} {w:ByteArray} (hs:zcj p.Spec true) (hv:VB p.Tables) (hst:(p.Tables.Start.length:Int)=2 * p.Spec.Conds.length) (ha:∀ k∈p.Tables.Accept,AccOk p.Spec k) (hw:w.size≤10000):zc1 p w true:=by
 have e:(w.size:Int)≤10000:=by omega
 exact zhU _ _ _ ⟨fun _=>⟨_,zjo hs hv hst ha,rfl⟩,fun h=>absurd e (of_decide_eq_false h)⟩
end Go.Ev.Pl
namespace Go.Ev
open Go Go.Proofs
theorem zan {x:Int} (h0:-9223372036854775808≤x) (h1:x≤9223372036854775807):w64 x=x:=wrap64 h0 (by omega)
def setTo (p:Int→Bool):Nat→zb
 | 0=>⟨0,0,0,0⟩
 | n+1=>if p n then setAdd (setTo p n) n else setTo p n
def mkSet (p:Int→Bool):zb:=setTo p 256
theorem zgn (lo hi:Int):zau lo hi (mkSet fun i=>decide (i≥lo) && decide (i≤hi)):=by
 refine zh8 _ _ _ ⟨fun e0 e1 e2 e3 b=>∃ n:Nat,n≤256∧b=n∧zb.mk e0 e1 e2 e3=setTo (fun i=>decide (i≥lo) && decide (i≤hi)) n,fun _ _ _ _ b=>(256 - b).toNat,⟨0,by omega,rfl,rfl⟩,?_⟩
 rintro e0 e1 e2 e3 b ⟨n,hn,rfl,hs⟩
 refine ⟨fun hb=>?_,fun hb=>?_⟩
 ·have hb:n < 256:=by have:=of_decide_eq_true hb;omega
  have hw:w64 ((n:Int)+1)=((n+1:Nat):Int):=zan (by omega) (by omega)
  refine ⟨fun a b c d=>zb.mk a b c d=setTo (fun i=>decide (i≥lo) && decide (i≤hi)) (n+1),fun a b c d h=>⟨⟨n+1,by omega,hw,h⟩,by rw [hw];show (256 - _:Int).toNat < (256 - _:Int).toNat;omega⟩,fun ht=>⟨_,add_ok _ _ (by omega) (by omega),?_⟩,fun ht=>?_⟩
  ·simp only [setTo,ht,if_true,hs]
  ·simp only [setTo,ht,hs];rfl
 ·have hb:n=256:=by have:=of_decide_eq_false hb;omega
  subst hb
  exact hs.symm
theorem setNot_ok (s:zb):zcM s (mkSet fun i=>!setHas s i):=by
 refine zhx _ _ ⟨fun e0 e1 e2 e3 b=>∃ n:Nat,n≤256∧b=n∧zb.mk e0 e1 e2 e3=setTo (fun i=>!setHas s i) n,fun _ _ _ _ b=>(256 - b).toNat,⟨0,by omega,rfl,rfl⟩,?_⟩
 rintro e0 e1 e2 e3 b ⟨n,hn,rfl,hs⟩
 refine ⟨fun hb=>?_,fun hb=>?_⟩
 ·have hb:n < 256:=by have:=of_decide_eq_true hb;omega
  have hw:w64 ((n:Int)+1)=((n+1:Nat):Int):=zan (by omega) (by omega)
  refine ⟨fun a b c d=>zb.mk a b c d=setTo (fun i=>!setHas s i) (n+1),fun a b c d h=>⟨⟨n+1,by omega,hw,h⟩,by rw [hw];show (256 - _:Int).toNat < (256 - _:Int).toNat;omega⟩,_,has_ok _ _,fun ht=>⟨_,add_ok _ _ (by omega) (by omega),?_⟩,fun ht=>?_⟩
  ·simp only [setTo,ht,if_true,hs]
  ·simp only [setTo,ht,hs];rfl
 ·have hb:n=256:=by have:=of_decide_eq_false hb;omega
  subst hb
  exact hs.symm
theorem char3_ok (b:Int):zbf b ⟨2,mkSet fun i=>decide (i≥b) && decide (i≤b),0,0,[]⟩:=by
 exact zg6 _ _ ⟨_,zgn _ _,rfl⟩
end Go.Ev
namespace Go.Ev.Pl
open Go Go.Ev
abbrev SS (l:List Int):Prop:=l.Pairwise (· < ·)
theorem zjK:∀ {a b:List Int},SS a→SS b→(∀ x,x∈a↔x∈b)→a=b
 | [],[],_,_,_=>rfl
 | [],y :: b,_,_,h=>by have:=(h y).2 (List.mem_cons_self ..);simp at this
 | x :: a,[],_,_,h=>by have:=(h x).1 (List.mem_cons_self ..);simp at this
 | x :: a,y :: b,ha,hb,h=>by
   have ha:=List.pairwise_cons.1 ha
   have hb:=List.pairwise_cons.1 hb
   have hxy:x=y:=by
    rcases List.mem_cons.1 ((h x).1 (List.mem_cons_self ..)) with e | e
    ·exact e
    ·rcases List.mem_cons.1 ((h y).2 (List.mem_cons_self ..)) with e' | e'
     ·exact e'.symm
     ·have:=hb.1 x e;have:=ha.1 y e';omega
   subst hxy
   rw [zjK ha.2 hb.2]
   intro z
   constructor
   ·intro hz
    rcases List.mem_cons.1 ((h z).1 (List.mem_cons_of_mem _ hz)) with e | e
    ·subst e;have:=ha.1 z hz;omega
    ·exact e
   ·intro hz
    rcases List.mem_cons.1 ((h z).2 (List.mem_cons_of_mem _ hz)) with e | e
    ·subst e;have:=hb.1 z hz;omega
    ·exact e
def join (a b:List Int):List Int:=compactInts (sortInts (a++b))
theorem upTo_spec (zs:List Int) (hs:zs.Pairwise (·≤·)):∀ m,m≤zs.length→SS (Lib.compactUpTo zs.toArray m)∧∀ x,x∈Lib.compactUpTo zs.toArray m↔x∈zs.take m:=by
 intro m
 induction m with
 | zero=>intro _;simp [Lib.compactUpTo]
 | succ m ih=>
   intro hm
   obtain ⟨h1,h2⟩:=ih (by omega)
   have hg:zs.toArray[m]! = zs[m]'(by omega):=by simp [getElem!_pos,show m < zs.length by omega]
   have ht:∀ x,x∈zs.take (m+1)↔x∈zs.take m∨x=zs[m]'(by omega):=by
    intro x;rw [List.take_succ_eq_append_getElem (by omega),List.mem_append,List.mem_singleton]
   have hle:∀ x∈zs.take m,x≤zs[m]'(by omega):=by
    intro x hx
    obtain ⟨i,hi,rfl⟩:=List.mem_iff_getElem.1 hx
    simp only [List.length_take] at hi
    rw [List.getElem_take]
    exact List.pairwise_iff_getElem.1 hs i m (by omega) (by omega) (by omega)
   rw [Lib.compactUpTo_succ,hg]
   by_cases hk:Lib.keeps zs.toArray m=true
   ·rw [if_pos hk]
    refine ⟨List.pairwise_append.2 ⟨h1,by simp,fun x hx y hy=>?_⟩,fun x=>?_⟩
    ·simp at hy;subst hy
     have hx:=(h2 x).1 hx
     have h3:=hle x hx
     simp only [Lib.keeps,decide_eq_true_eq] at hk
     rcases hk with rfl | hk
     ·simp at hx
     ·have hm0:m≠0:=by rintro rfl;simp at hx
      have hg':zs.toArray[m - 1]! = zs[m - 1]'(by omega):=by simp [getElem!_pos,show m - 1 < zs.length by omega]
      rw [hg,hg'] at hk
      obtain ⟨i,hi,rfl⟩:=List.mem_iff_getElem.1 hx
      simp only [List.length_take] at hi
      rw [List.getElem_take] at h3 ⊢
      have h5:zs[i]'(by omega)≤zs[m - 1]'(by omega):=by
       by_cases e:i=m - 1
       ·subst e;exact Int.le_refl _
       ·exact List.pairwise_iff_getElem.1 hs i (m - 1) (by omega) (by omega) (by omega)
      have h6:zs[m - 1]'(by omega)≤zs[m]'(by omega):=List.pairwise_iff_getElem.1 hs (m - 1) m (by omega) (by omega) (by omega)
      have:zs[m - 1]'(by omega)≠zs[m]'(by omega):=fun e=>hk e.symm
      omega
    ·rw [ht];simp [h2]
   ·rw [if_neg hk]
    refine ⟨by simpa using h1,fun x=>?_⟩
    rw [List.append_nil,ht,h2]
    constructor
    ·exact .inl
    ·rintro (h | rfl)
     ·exact h
     ·simp only [Lib.keeps,decide_eq_true_eq,not_or,Decidable.not_not] at hk
      obtain ⟨hm0,hk⟩:=hk
      have hg':zs.toArray[m - 1]! = zs[m - 1]'(by omega):=by simp [getElem!_pos,show m - 1 < zs.length by omega]
      rw [hg,hg'] at hk
      rw [hk]
      refine List.mem_iff_getElem.2 ⟨m - 1,by simp;omega,by rw [List.getElem_take]⟩
theorem sort_spec (l:List Int):(sortInts l).Pairwise (·≤·)∧∀ x,x∈sortInts l↔x∈l:=by
 refine ⟨?_,fun x=>by simp [sortInts]⟩
 have:=List.pairwise_mergeSort (le:=fun x y:Int=>decide (x≤y)) (fun a b c h1 h2=>by simp at *;omega) (fun a b=>by simp;omega) l
 exact this.imp (by simp)
theorem zcV (a b:List Int):SS (join a b)∧∀ x,x∈join a b↔x∈a∨x∈b:=by
 obtain ⟨h1,h2⟩:=sort_spec (a++b)
 obtain ⟨h3,h4⟩:=upTo_spec _ h1 _ (Nat.le_refl _)
 refine ⟨h3,fun x=>?_⟩
 show x∈Lib.compactUpTo _ _↔_
 rw [h4,List.take_length,h2,List.mem_append]
theorem sort_len (l:List Int):(sortInts l).length=l.length:=by simp [sortInts]
end Go.Ev.Pl
namespace Go.Ev.Pl
open Go Go.Ev
theorem zan {x:Int} (h0:-9223372036854775808≤x) (h1:x≤9223372036854775807):w64 x=x:=wrap64 h0 (by omega)
theorem rx_sizeOf {x y:zf} (h:y∈x.Kids):SizeOf.sizeOf y < SizeOf.sizeOf x:=by
 cases x with
 | mk k s lo hi kids=>
   have:=List.sizeOf_lt_of_mem h
   simp only [zf.mk.sizeOf_spec]
   simp at this
   omega
theorem rxInd {P:zf→Prop} (h:∀ x,(∀ y∈x.Kids,P y)→P x) (x:zf):P x:=
 h x fun y hy=>rxInd h y
 termination_by SizeOf.sizeOf x
 decreasing_by exact rx_sizeOf hy
mutual
def cata {α:Type} (f:zf→List α→α):zf→α
 | ⟨k,s,lo,hi,kids⟩=>f ⟨k,s,lo,hi,kids⟩ (cataL f kids)
def cataL {α:Type} (f:zf→List α→α):List zf→List α
 | []=>[]
 | x :: r=>cata f x :: cataL f r
end
theorem cataL_map {α:Type} (f:zf→List α→α):∀ l,cataL f l=l.map (cata f)
 | []=>rfl
 | x :: r=>by rw [cataL,cataL_map f r];rfl
theorem ze2 {α:Type} (f:zf→List α→α) (x:zf):cata f x=f x (x.Kids.map (cata f)):=by
 cases x;rw [cata,cataL_map]
def Wf (x:zf):Prop:=cata (α:=Prop) (fun x l=>x.Kids.length < 1099511627776∧∀ p∈l,p) x
theorem zit (x:zf):Wf x↔x.Kids.length < 1099511627776∧∀ y∈x.Kids,Wf y:=by
 show cata (α:=Prop) _ x↔_
 rw [ze2]
 constructor
 ·rintro ⟨h1,h2⟩;exact ⟨h1,fun y hy=>h2 _ (List.mem_map.2 ⟨y,hy,rfl⟩)⟩
 ·rintro ⟨h1,h2⟩
  refine ⟨h1,fun p hp=>?_⟩
  obtain ⟨y,hy,rfl⟩:=List.mem_map.1 hp
  exact h2 y hy
theorem za7 {α:Type} [Inhabited α] {l:List α} {i:Nat} (h:i < l.length):gd l (i:Int)=l[i]:=by
 simp [gd,List.getD,h]
def timesN (x:zf):Nat:=(max 1 (min 1000 (max x.Lo x.Hi))).toNat
def sizeN:zf→Nat:=cata fun x l=>if x.Kind=2 then 1 else if 3≤x.Kind∧x.Kind≤5 then l.sum * (if x.Kind=5 then timesN x else 1) else 0
theorem zck (x:zf):sizeN x=if x.Kind=2 then 1 else if 3≤x.Kind∧x.Kind≤5 then (x.Kids.map sizeN).sum * (if x.Kind=5 then timesN x else 1) else 0:=ze2 _ x
def sizeZ (x:zf):Int:=min (sizeN x:Int) (1000000:Int)
theorem zgl {l:List Nat} {i:Nat} (h:i < l.length):(l.take (i+1)).sum=(l.take i).sum+l[i]:=by
 rw [List.take_succ_eq_append_getElem h,List.sum_append];simp
theorem rxSize_ok:∀ x,Wf x→ze8 x (sizeZ x):=by
 refine rxInd fun x ih hw=>?_
 obtain ⟨hl,hk⟩:=(zit x).1 hw
 refine W_rx_Size x _ ⟨fun h=>?_,fun h=>⟨fun h2=>?_,fun h2=>?_⟩⟩
 ·have h:x.Kind=2:=by simpa using h
  simp [sizeZ,zck,h];omega
 ·have:x.Kind < 3∨x.Kind > 5:=by simpa using h2
  have h:x.Kind≠2:=by simpa using h
  rw [sizeZ,zck,if_neg h,if_neg (by omega)];omega
 ·have h:x.Kind≠2:=by simpa using h
  have h2:3≤x.Kind∧x.Kind≤5:=by simp at h2;omega
  have hT:(timesN x:Int)=max 1 (min 1000 (max x.Lo x.Hi)):=by simp only [timesN];omega
  refine ⟨fun n t=>∃ i:Nat,t=i∧i≤x.Kids.length∧n=min (((x.Kids.map sizeN).take i).sum:Int) 1000000,fun n t=>(x.Kids.length - t).toNat,⟨0,rfl,by omega,by simp;omega⟩,?_⟩
  rintro n t ⟨i,rfl,hi,hn⟩
  refine ⟨fun ht=>?_,fun ht=>?_⟩
  ·have ht:i < x.Kids.length:=by simpa using ht
   refine ⟨by omega,by omega,sizeZ x.Kids[i],by rw [za7 ht];exact ih _ (List.getElem_mem ht) (hk _ (List.getElem_mem ht)),?_⟩
   have hs:=zgl (l:=x.Kids.map sizeN) (i:=i) (by simpa using ht)
   rw [List.getElem_map] at hs
   have hz:sizeZ x.Kids[i]=min (sizeN x.Kids[i]:Int) (1000000:Int):=rfl
   have hw1:w64 (n+sizeZ x.Kids[i])=n+sizeZ x.Kids[i]:=zan (by omega) (by omega)
   have hw2:w64 ((i:Int)+1)=((i+1:Nat):Int):=zan (by omega) (by omega)
   rw [hw1,hw2]
   refine ⟨⟨i+1,rfl,by omega,?_⟩,by dsimp only;omega⟩
   rw [hs];simp;omega
  ·have ht:i=x.Kids.length:=by have:¬ i < x.Kids.length:=by simpa using ht
                               omega
   subst ht
   rw [List.take_of_length_le (by simp)] at hn
   refine ⟨fun m=>m=n * (if x.Kind=5 then (timesN x:Int) else 1),fun m hm=>?_,fun h5=>?_,fun h5=>?_⟩
   ·subst hm
    rw [sizeZ,zck,if_neg h,if_pos h2]
    by_cases h5:x.Kind=5
    ·simp only [if_pos h5]
     have hp:(1:Int)≤timesN x:=by omega
     have hp2:(timesN x:Int)≤1000:=by omega
     generalize (x.Kids.map sizeN).sum=S at hn ⊢
     subst hn
     rw [Int.natCast_mul]
     generalize (timesN x:Int)=T at hp hp2 ⊢
     simp
     rcases Int.le_total (S:Int) 1000000 with hS | hS
     ·rw [Int.min_eq_left hS];omega
     ·rw [Int.min_eq_right hS]
      have h1:(1000000:Int) * 1≤1000000 * T:=Int.mul_le_mul_of_nonneg_left hp (by omega)
      have h2:(1000000:Int) * T≤S * T:=Int.mul_le_mul_of_nonneg_right hS (by omega)
      omega
    ·simp only [if_neg h5];simp;omega
   ·have h5:x.Kind=5:=by simpa using h5
    rw [if_pos h5,hT]
    have:∀ a:Int,0≤a→a≤1000000→w64 (a * max 1 (min 1000 (max x.Lo x.Hi)))=a * max 1 (min 1000 (max x.Lo x.Hi)):=fun a h1 h2=>by
     have e1:0≤a * max 1 (min 1000 (max x.Lo x.Hi)):=Int.mul_nonneg h1 (by omega)
     have e2:a * max 1 (min 1000 (max x.Lo x.Hi))≤1000000 * 1000:=Int.mul_le_mul h2 (by omega) (by omega) (by omega)
     exact zan (by omega) (by omega)
    rw [← this n (by omega) (by omega)]
    congr 1;congr 1
    simp;omega
   ·have h5:x.Kind≠5:=by simpa using h5
    rw [if_neg h5];omega
theorem zjT:∀ x,Wf x→zaO x (sizeZ x):=by
 refine rxInd fun x ih hw=>?_
 obtain ⟨hl,hk⟩:=(zit x).1 hw
 refine zg0 x _ ⟨fun h=>?_,fun h=>?_⟩
 ·have h:x.Kind=2:=by simpa using h
  simp [sizeZ,zck,h];omega
 have h:x.Kind≠2:=by simpa using h
 refine ⟨fun b=>b=decide (3≤x.Kind∧x.Kind≤5),fun b hb=>⟨fun hbt=>?_,fun hbf=>?_⟩,fun h3=>?_,fun h3=>⟨fun h4=>?_,fun h4=>?_⟩⟩
 ·have h2:3≤x.Kind∧x.Kind≤5:=by rw [hbt] at hb;simpa using hb.symm
  have hT:(timesN x:Int)=max 1 (min 1000 (max x.Lo x.Hi)):=by simp only [timesN];omega
  have hp:(1:Int)≤timesN x:=by omega
  have hp2:(timesN x:Int)≤1000:=by omega
  refine ⟨fun n t=>∃ i:Nat,t=i∧i≤x.Kids.length∧n=min (((x.Kids.map sizeN).take i).sum:Int) 1000000,fun n t=>(x.Kids.length - t).toNat,⟨0,rfl,by omega,by simp;omega⟩,?_⟩
  rintro n t ⟨i,rfl,hi,hn⟩
  refine ⟨fun ht=>?_,fun ht=>?_⟩
  ·have ht:i < x.Kids.length:=by simpa using ht
   refine ⟨by omega,by omega,sizeZ x.Kids[i],by rw [za7 ht];exact ih _ (List.getElem_mem ht) (hk _ (List.getElem_mem ht)),?_⟩
   have hs:=zgl (l:=x.Kids.map sizeN) (i:=i) (by simpa using ht)
   rw [List.getElem_map] at hs
   have hz:sizeZ x.Kids[i]=min (sizeN x.Kids[i]:Int) (1000000:Int):=rfl
   have hw1:w64 (n+sizeZ x.Kids[i])=n+sizeZ x.Kids[i]:=zan (by omega) (by omega)
   have hw2:w64 ((i:Int)+1)=((i+1:Nat):Int):=zan (by omega) (by omega)
   rw [hw1,hw2]
   refine ⟨fun hg=>?_,fun hg=>?_⟩
   ·have hg:n+sizeZ x.Kids[i] > 1000000:=by simpa using hg
    have hsum:(x.Kids.map sizeN).sum≥((x.Kids.map sizeN).take (i+1)).sum:=by
     conv=>lhs;rw [← List.take_append_drop (i+1) (x.Kids.map sizeN),List.sum_append]
     omega
    rw [sizeZ,zck,if_neg h,if_pos h2]
    have:(1000001:Int)≤(((x.Kids.map sizeN).sum * (if x.Kind=5 then timesN x else 1):Nat):Int):=by
     split
     ·have h3:(x.Kids.map sizeN).sum * 1≤(x.Kids.map sizeN).sum * timesN x:=Nat.mul_le_mul_left _ (by omega)
      omega
     ·omega
    omega
   ·have hg:¬ n+sizeZ x.Kids[i] > 1000000:=by simpa using hg
    exact ⟨⟨i+1,rfl,by omega,by rw [hs];simp;omega⟩,by dsimp only;omega⟩
  ·have ht:i=x.Kids.length:=by have:¬ i < x.Kids.length:=by simpa using ht
                               omega
   subst ht
   rw [List.take_of_length_le (by simp)] at hn
   refine ⟨fun m=>m=n * (if x.Kind=5 then (timesN x:Int) else 1),fun m hm=>?_,fun h5=>?_,fun h5=>?_⟩
   ·subst hm
    rw [sizeZ,zck,if_neg h,if_pos h2]
    by_cases h5:x.Kind=5
    ·simp only [if_pos h5]
     generalize (x.Kids.map sizeN).sum=S at hn ⊢
     subst hn
     rw [Int.natCast_mul]
     generalize (timesN x:Int)=T at hp hp2 ⊢
     simp
     rcases Int.le_total (S:Int) 1000000 with hS | hS
     ·rw [Int.min_eq_left hS];omega
     ·rw [Int.min_eq_right hS]
      have h1:(1000000:Int) * 1≤1000000 * T:=Int.mul_le_mul_of_nonneg_left hp (by omega)
      have h2:(1000000:Int) * T≤S * T:=Int.mul_le_mul_of_nonneg_right hS (by omega)
      omega
    ·simp only [if_neg h5];simp;omega
   ·have h5:x.Kind=5:=by simpa using h5
    rw [if_pos h5,hT]
    have:∀ a:Int,0≤a→a≤1000000→w64 (a * max 1 (min 1000 (max x.Lo x.Hi)))=a * max 1 (min 1000 (max x.Lo x.Hi)):=fun a h1 h2=>by
     have e1:0≤a * max 1 (min 1000 (max x.Lo x.Hi)):=Int.mul_nonneg h1 (by omega)
     have e2:a * max 1 (min 1000 (max x.Lo x.Hi))≤1000000 * 1000:=Int.mul_le_mul h2 (by omega) (by omega) (by omega)
     exact zan (by omega) (by omega)
    rw [← this n (by omega) (by omega)]
    congr 1;congr 1
    simp;omega
   ·have h5:x.Kind≠5:=by simpa using h5
    rw [if_neg h5];omega
 ·have h2:¬ (3≤x.Kind∧x.Kind≤5):=by rw [hbf] at hb;simpa using hb.symm
  rw [sizeZ,zck,if_neg h,if_neg h2];omega
 ·have h3':x.Kind=3:=by simpa using h3
  simp [h3']
 ·have h4':x.Kind=4:=by simpa using h4
  simp [h4']
 ·have h3':x.Kind≠3:=by simpa using h3
  have h4':x.Kind≠4:=by simpa using h4
  show decide (x.Kind=5)=decide (3≤x.Kind∧x.Kind≤5)
  rw [decide_eq_decide];omega
def nodesZ:zf→Int→Int:=cata fun x l most=>l.foldl (fun m g=>if m≥0 then g m else m) (most - 1)
theorem zgv (x:zf) (most:Int):nodesZ x most=x.Kids.foldl (fun m y=>if m≥0 then nodesZ y m else m) (most - 1):=by
 unfold nodesZ
 rw [ze2,List.foldl_map]
theorem nodesZ_le:∀ x most,0≤most→nodesZ x most≤most - 1∧-1≤nodesZ x most:=by
 refine rxInd fun x ih most hm=>?_
 rw [zgv]
 have key:∀ (l:List zf) (m:Int),(∀ y∈l,y∈x.Kids)→-1≤m→(l.foldl (fun m y=>if m≥0 then nodesZ y m else m) m)≤m∧-1≤l.foldl (fun m y=>if m≥0 then nodesZ y m else m) m:=by
  intro l
  induction l with
  | nil=>intro m _ h;exact ⟨Int.le_refl _,h⟩
  | cons y r ih2=>
    intro m hl h
    simp only [List.foldl_cons]
    split
    ·rename_i h0
     obtain ⟨h1,h2⟩:=ih y (hl y (List.mem_cons_self ..)) m h0
     obtain ⟨h3,h4⟩:=ih2 _ (fun z hz=>hl z (List.mem_cons_of_mem _ hz)) h2
     exact ⟨by omega,h4⟩
    ·exact ih2 m (fun z hz=>hl z (List.mem_cons_of_mem _ hz)) h
 exact key x.Kids (most - 1) (fun _ h=>h) (by omega)
theorem zbN {α β:Type} {f:β→α→β} {b:β} {l:List α} {i:Nat} (h:i < l.length):(l.take (i+1)).foldl f b=f ((l.take i).foldl f b) l[i]:=by
 rw [List.take_succ_eq_append_getElem h,List.foldl_append];rfl
theorem nodes_pre {x:zf} {most:Int} (hm:0≤most) (i:Nat):-1≤(x.Kids.take i).foldl (fun m y=>if m≥0 then nodesZ y m else m) (most - 1)∧(x.Kids.take i).foldl (fun m y=>if m≥0 then nodesZ y m else m) (most - 1) < most:=by
 induction i with
 | zero=>simp;omega
 | succ i ih=>
   by_cases h:i < x.Kids.length
   ·rw [zbN h]
    split
    ·rename_i h0
     have:=nodesZ_le x.Kids[i] _ h0
     omega
    ·exact ih
   ·rw [List.take_of_length_le (by omega)] at ih ⊢;exact ih
theorem rxNodes_ok:∀ x,Wf x→∀ most,0≤most→most≤1000000→zfn x most (nodesZ x most):=by
 refine rxInd fun x ih hw most hm0 hm1=>?_
 obtain ⟨hl,hk⟩:=(zit x).1 hw
 rw [zgv]
 have hw0:w64 (most - 1)=most - 1:=zan (by omega) (by omega)
 refine W_rx_nodes x most _ ⟨fun m t=>∃ i:Nat,t=i∧i≤x.Kids.length∧m=(x.Kids.take i).foldl (fun m y=>if m≥0 then nodesZ y m else m) (most - 1),fun m t=>(x.Kids.length - t).toNat,⟨0,rfl,by omega,by rw [hw0];rfl⟩,?_⟩
 rintro m t ⟨i,rfl,hi,hm⟩
 have hb:=nodes_pre (x:=x) hm0 i
 rw [← hm] at hb
 refine ⟨fun ht=>?_,fun ht=>?_⟩
 ·have ht:i < x.Kids.length:=by simpa using ht
  have hw2:w64 ((i:Int)+1)=((i+1:Nat):Int):=zan (by omega) (by omega)
  have hs:=zbN (f:=fun m y=>if m≥0 then nodesZ y m else m) (b:=most - 1) ht
  rw [← hm] at hs
  refine ⟨fun m'=>m'=if m≥0 then nodesZ x.Kids[i] m else m,fun m' hm'=>?_,by omega,by omega,fun hg=>?_,fun hg=>?_⟩
  ·rw [hw2]
   exact ⟨⟨i+1,rfl,by omega,by rw [hs,hm']⟩,by dsimp only;omega⟩
  ·have hg:m≥0:=by simpa using hg
   refine ⟨nodesZ x.Kids[i] m,?_,by rw [if_pos hg]⟩
   rw [za7 ht]
   exact ih _ (List.getElem_mem ht) (hk _ (List.getElem_mem ht)) _ hg (by omega)
  ·have hg:¬ m≥0:=by simpa using hg
   rw [if_neg hg]
 ·have ht:i=x.Kids.length:=by have:¬ i < x.Kids.length:=by simpa using ht
                              omega
  subst ht
  rw [hm,List.take_of_length_le (Nat.le_refl _)]
def noSet (s:zb):Bool:=s.e0 == 0 && (s.e1 == 0 && (s.e2 == 0 && (s.e3 == 0 && true)))
def timesB (lo hi:Int):Bool:=decide (0≤lo) && (decide (lo≤20) && (hi == -1 || decide (hi≥max 1 lo) && decide (hi≤20)))
def ownB (x:zf):Bool:=
 if x.Kind=5 then noSet x.Set && (decide (x.Kids.length=1) && timesB x.Lo x.Hi)
 else if x.Kind=1 then noSet x.Set && (x.Lo == 0 && x.Hi == 0 && decide (x.Kids.length=0))
 else if x.Kind=2 then !noSet x.Set && (x.Lo == 0 && x.Hi == 0 && decide (x.Kids.length=0))
 else if x.Kind=3∨x.Kind=4 then noSet x.Set && (x.Lo == 0 && x.Hi == 0 && decide (x.Kids.length≥2))
 else false
def oddK (x k:zf):Bool:=k.Kind == x.Kind && x.Kind != 5
def rgt:zf→Int→Bool:=cata fun x l deep=>decide (deep > 0) && ownB x && (x.Kids.zip l).all fun (k,g)=>!oddK x k && g (deep - 1)
theorem zgq (x:zf) (deep:Int):rgt x deep=(decide (deep > 0) && ownB x && x.Kids.all fun k=>!oddK x k && rgt k (deep - 1)):=by
 unfold rgt
 rw [ze2]
 congr 1
 rw [List.zip_map_right,List.all_map]
 generalize x.Kids=l
 induction l with
 | nil=>rfl
 | cons y r ih=>simp only [List.zip_cons_cons,List.all_cons,Function.comp] at ih ⊢;rw [ih];rfl
def pat (x:zf):zO:={ Kind:=x.Kind,Set:=x.Set,Lo:=x.Lo,Hi:=x.Hi,Kids:=x.Kids }
theorem times_ok (x:zO):zcw x (timesB x.Lo x.Hi):=by
 refine zgW x _ ⟨fun h=>?_,fun h=>?_⟩
 ·simp only [Bool.or_eq_true,decide_eq_true_eq] at h
  simp only [timesB,Bool.and_eq_false_iff,decide_eq_false_iff_not];omega
 ·simp only [Bool.or_eq_false_iff,decide_eq_false_iff_not] at h
  have h1:decide (0≤x.Lo)=true:=by simp;omega
  have h2:decide (x.Lo≤20)=true:=by simp;omega
  simp only [timesB,h1,h2,Bool.true_and]
  congr 2
  have:(if x.Lo > 1 then x.Lo else 1)=max 1 x.Lo:=by omega
  rw [this]
theorem len0 (l:List zf):decide (l=[])=(decide ((2:Int)≤(l.length:Int)+2) && (l.length:Int)+2 == 2):=by
 cases l with
 | nil=>rfl
 | cons a r=>
   have:((((a :: r).length:Nat):Int)+2 == 2)=false:=by
    show decide _=false
    simp only [decide_eq_false_iff_not,List.length_cons];omega
   rw [this];simp
theorem own_ok (x:zf) (hl:x.Kids.length < 1099511627776):zc7 (pat x) (ownB x):=by
 refine zh5 (pat x) _ ⟨fun many=>many=(if x.Kind=1∨x.Kind=2 then (x.Kids.length:Int)+2 else x.Kids.length)∧(x.Kind=1∨x.Kind=2∨x.Kind=3∨x.Kind=4),?_,fun h5=>?_,fun h5=>?_⟩
 ·rintro many ⟨rfl,hk⟩
  show ownB x=((!noSet x.Set) == (x.Kind == 2) && (x.Lo == 0 && (x.Hi == 0 && (decide (_≥2) && (!decide (x.Kind < 3) || _ == 2)))))
  rcases hk with h | h | h | h
  all_goals simp only [ownB,h]
  ·cases noSet x.Set<;>cases hlo:(x.Lo == 0)<;>cases hhi:(x.Hi == 0)<;>simp [len0]
  ·cases noSet x.Set<;>cases hlo:(x.Lo == 0)<;>cases hhi:(x.Hi == 0)<;>simp [len0]
  ·cases noSet x.Set<;>cases hlo:(x.Lo == 0)<;>cases hhi:(x.Hi == 0)<;>simp<;>omega
  ·cases noSet x.Set<;>cases hlo:(x.Lo == 0)<;>cases hhi:(x.Hi == 0)<;>simp<;>omega
 ·have h5:x.Kind=5:=by simpa [pat] using h5
  refine ⟨fun hs=>⟨fun h1=>⟨_,times_ok (pat x),?_⟩,fun h1=>?_⟩,fun hs=>?_⟩
  ·have h1:x.Kids.length=1:=by simp [pat] at h1;omega
   have hs:noSet x.Set=true:=by rw [Bool.not_not] at hs;exact hs
   simp only [ownB,if_pos h5,hs,h1];rfl
  ·have h1:x.Kids.length≠1:=by simp [pat] at h1;omega
   simp [ownB,if_pos h5,h1]
  ·have hs:noSet x.Set=false:=by rw [Bool.not_not] at hs;exact hs
   simp [ownB,if_pos h5,hs]
 ·have h5:x.Kind≠5:=by simpa [pat] using h5
  refine ⟨fun b=>b=decide (x.Kind=1∨x.Kind=2),fun b hb=>⟨fun h=>?_,fun h=>?_⟩,fun h=>?_,fun h=>?_⟩
  ·have h12:x.Kind=1∨x.Kind=2:=by rw [h] at hb;simpa using hb.symm
   refine ⟨?_,by omega⟩
   rw [if_pos h12];exact zan (by show _≤(x.Kids.length:Int)+2;omega) (by show (x.Kids.length:Int)+2≤_;omega)
  ·have h12:¬ (x.Kind=1∨x.Kind=2):=by rw [h] at hb;simpa using hb.symm
   refine ⟨fun b=>b=decide (x.Kind=3∨x.Kind=4),fun b' hb'=>⟨fun h'=>?_,fun h'=>?_⟩,fun h'=>?_,fun h'=>?_⟩
   ·have h34:x.Kind=3∨x.Kind=4:=by rw [h'] at hb';simpa using hb'.symm
    exact ⟨by rw [if_neg h12];rfl,by omega⟩
   ·have h34:¬ (x.Kind=3∨x.Kind=4):=by rw [h'] at hb';simpa using hb'.symm
    simp only [ownB];rw [if_neg h5,if_neg (by omega),if_neg (by omega),if_neg h34]
   ·have:x.Kind=3:=by simpa [pat] using h'
    simp [pat,this]
   ·have:x.Kind≠3:=by simpa [pat] using h'
    simp [pat,this];rfl
  ·have:x.Kind=1:=by simpa [pat] using h
   simp [pat,this]
  ·have:x.Kind≠1:=by simpa [pat] using h
   simp [pat,this];rfl
theorem rxRight_ok:∀ x,Wf x→∀ deep,-1000≤deep→deep≤1000→zaN (pat x) deep (rgt x deep):=by
 refine rxInd fun x ih hw deep hd0 hd1=>?_
 obtain ⟨hl,hk⟩:=(zit x).1 hw
 have hodd:∀ k∈x.Kids,0 < deep→zbQ k (pat x) deep (oddK x k || !rgt k (deep - 1)) (pat x) deep:=by
  intro k hkm hpos
  have hw1:w64 (deep - 1)=deep - 1:=zan (by omega) (by omega)
  have hrec:zaN ({ Kind:=zf.Kind k,Set:=zf.Set k,Lo:=zf.Lo k,Hi:=zf.Hi k,Kids:=zf.Kids k }) (w64 (deep - 1)) (rgt k (deep - 1)):=by
   rw [hw1];exact ih k hkm (hk k hkm) _ (by omega) (by omega)
  refine ze4 k (pat x) deep _ _ _ ⟨fun h1=>⟨fun h2=>?_,fun h2=>⟨_,hrec,?_,rfl,rfl⟩⟩,fun h1=>⟨_,hrec,?_,rfl,rfl⟩⟩
  ·have h1:(k.Kind == x.Kind)=true:=h1
   have h2:(x.Kind != 5)=true:=h2
   simp [oddK,h1,h2]
  ·have h2:(x.Kind != 5)=false:=h2
   simp [oddK,h2]
  ·have h1:(k.Kind == x.Kind)=false:=h1
   simp [oddK,h1]
 have hall:∀ l:List zf,l.length < 1099511627776→(∀ k∈l,k∈x.Kids)→0 < deep→zR l (pat x) deep (l.any fun k=>oddK x k || !rgt k (deep - 1)) (pat x) deep:=by
  intro l hll hlm hpos
  obtain ⟨z,hz,hz2⟩:∃ z:Int,(decide (z≥0)=l.any fun k=>oddK x k || !rgt k (deep - 1))∧zV l (pat x) deep z (pat x) deep:=by
   have hfind:∀ i:Nat,(∀ (j:Nat) (hj:j < l.length),j < i→(oddK x l[j] || !rgt l[j] (deep - 1))=false)→(i=l.length→(l.any fun k=>oddK x k || !rgt k (deep - 1))=false):=by
    intro i h e
    subst e
    rw [List.any_eq_false]
    intro k hkm
    obtain ⟨j,hj,rfl⟩:=List.mem_iff_getElem.1 hkm
    rw [h j hj hj];simp
   cases hany:l.any fun k=>oddK x k || !rgt k (deep - 1) with
   | false=>
     refine ⟨-1,by simp,?_⟩
     refine zah l (pat x) deep _ _ _ ⟨fun a b c d e f g h o t=>(⟨a,⟨b,c,d,e⟩,f,g,h⟩:zO)=pat x∧o=deep∧∃ i:Nat,t=i∧i≤l.length,fun _ _ _ _ _ _ _ _ _ t=>(l.length - t).toNat,⟨rfl,rfl,0,rfl,by omega⟩,?_⟩
     rintro a b c d e f g h o t ⟨hp,rfl,i,rfl,hi⟩
     refine ⟨fun ht=>?_,fun ht=>⟨rfl,hp.symm,rfl⟩⟩
     have ht:i < l.length:=by simpa using ht
     have hw2:w64 ((i:Int)+1)=((i+1:Nat):Int):=zan (by omega) (by omega)
     refine ⟨by omega,by omega,_,pat x,o,by rw [za7 ht,hp];exact hodd l[i] (hlm _ (List.getElem_mem ht)) hpos,fun hb=>?_,fun hb=>?_⟩
     ·rw [List.any_eq_false] at hany
      exact absurd hb (hany _ (List.getElem_mem ht))
     ·rw [hw2]
      exact ⟨⟨rfl,rfl,i+1,rfl,by omega⟩,by dsimp only;omega⟩
   | true=>
     obtain ⟨k0,hk0,hk1⟩:=List.any_eq_true.1 hany
     have hex:∃ i:Nat,∃ hi:i < l.length,(oddK x l[i] || !rgt l[i] (deep - 1))=true∧∀ (j:Nat) (hj:j < i),(oddK x (l[j]'(by omega)) || !rgt (l[j]'(by omega)) (deep - 1))=false:=by
      obtain ⟨j0,hj0,rfl⟩:=List.mem_iff_getElem.1 hk0
      induction j0 using Nat.strongRecOn with
      | _ j0 ihj=>
        by_cases hex:∃ j:Nat,∃ hj:j < j0,(oddK x (l[j]'(by omega)) || !rgt (l[j]'(by omega)) (deep - 1))=true
        ·obtain ⟨j,hj,hj1⟩:=hex
         exact ihj j hj (by omega) (List.getElem_mem _) hj1
        ·refine ⟨j0,hj0,hk1,fun j hj=>?_⟩
         cases hb:(oddK x (l[j]'(by omega)) || !rgt (l[j]'(by omega)) (deep - 1)) with
         | false=>rfl
         | true=>exact absurd ⟨j,hj,hb⟩ hex
     obtain ⟨n,hn,hn1,hn2⟩:=hex
     refine ⟨n,by simp,?_⟩
     refine zah l (pat x) deep _ _ _ ⟨fun a b c d e f g h o t=>(⟨a,⟨b,c,d,e⟩,f,g,h⟩:zO)=pat x∧o=deep∧∃ i:Nat,t=i∧i≤n,fun _ _ _ _ _ _ _ _ _ t=>(l.length - t).toNat,⟨rfl,rfl,0,rfl,by omega⟩,?_⟩
     rintro a b c d e f g h o t ⟨hp,rfl,i,rfl,hi⟩
     refine ⟨fun ht=>?_,fun ht=>?_⟩
     ·have ht:i < l.length:=by simpa using ht
      have hw2:w64 ((i:Int)+1)=((i+1:Nat):Int):=zan (by omega) (by omega)
      refine ⟨by omega,by omega,_,pat x,o,by rw [za7 ht,hp];exact hodd l[i] (hlm _ (List.getElem_mem ht)) hpos,fun hb=>⟨?_,rfl,rfl⟩,fun hb=>?_⟩
      ·rcases Nat.lt_or_ge i n with hlt | hge
       ·rw [hn2 i hlt] at hb;cases hb
       ·have:i=n:=by omega
        rw [this]
      ·rcases Nat.lt_or_ge i n with hlt | hge
       ·rw [hw2]
        exact ⟨⟨rfl,rfl,i+1,rfl,by omega⟩,by dsimp only;omega⟩
       ·have:i=n:=by omega
        subst this
        rw [hn1] at hb;cases hb
     ·have:¬ i < l.length:=by simpa using ht
      omega
  refine zaG l (pat x) deep _ _ _ ⟨z,_,_,hz2,hz.symm,rfl,rfl⟩
 rw [zgq]
 refine zgX (pat x) deep _ ⟨fun hd=>⟨_,own_ok x hl,fun ho=>⟨_,_,_,hall x.Kids hl (fun _ h=>h) (by simpa using hd),?_⟩,fun ho=>?_⟩,fun hd=>?_⟩
 ·rw [hd,ho]
  simp only [Bool.true_and]
  rw [List.any_eq_not_all_not,Bool.not_not]
  congr 1
  funext k
  cases oddK x k<;>cases rgt k (deep - 1)<;>rfl
 ·rw [ho];simp
 ·rw [hd];simp
def rightB (x:zf):Bool:=rgt x 20 && (decide (sizeZ x≤200) && decide (nodesZ x 1000≥0))
theorem zcl (x:zf) (hw:Wf x):zcL x (rightB x):=by
 refine W_rx_Right x _ ⟨_,rxRight_ok x hw 20 (by omega) (by omega),fun h=>⟨_,rxSize_ok x hw,fun h2=>⟨_,rxNodes_ok x hw 1000 (by omega) (by omega),?_⟩,fun h2=>?_⟩,fun h=>?_⟩
 ·rw [rightB,h,h2];rfl
 ·rw [rightB,h2];simp
 ·rw [rightB,h];simp
end Go.Ev.Pl
namespace Go.Ev.Pl
open Go Go.Ev
def nullB:zf→Bool:=cata fun x l=>if x.Kind=1 then true else if x.Kind=3 then l.all id else if x.Kind=4 then l.any id else if x.Kind=5 then decide (x.Lo≤0) || l.all id else false
theorem nullB_eq (x:zf):nullB x=if x.Kind=1 then true else if x.Kind=3 then x.Kids.all nullB else if x.Kind=4 then x.Kids.any nullB else if x.Kind=5 then decide (x.Lo≤0) || x.Kids.all nullB else false:=by
 unfold nullB;rw [ze2];simp only [List.all_map,List.any_map];rfl
end Go.Ev.Pl
namespace Go.Ev.Pl
open Go Go.Ev
structure GA where
 n:Nat
 sets:List zb
 null:Bool
 first:Nat→Bool
 last:Nat→Bool
 follow:Nat→Nat→Bool
def gEmpty:GA:=⟨0,[],true,fun _=>false,fun _=>false,fun _ _=>false⟩
def gNone:GA:=⟨0,[],false,fun _=>false,fun _=>false,fun _ _=>false⟩
def gByte (s:zb):GA:=⟨1,[s],false,fun i=>i == 0,fun i=>i == 0,fun _ _=>false⟩
def blk (n:Nat) (p q:Nat→Nat→Bool) (r:Nat→Nat→Bool) (i j:Nat):Bool:=
 if i < n then (if j < n then p i j else r i (j - n)) else (if j < n then false else q (i - n) (j - n))
def gCat (a b:GA):GA:=
 ⟨a.n+b.n,a.sets++b.sets,a.null && b.null,fun i=>if i < a.n then a.first i else a.null && b.first (i - a.n),
   fun i=>if i < a.n then b.null && a.last i else b.last (i - a.n),blk a.n a.follow b.follow fun i j=>a.last i && b.first j⟩
def gAlt (a b:GA):GA:=
 ⟨a.n+b.n,a.sets++b.sets,a.null || b.null,fun i=>if i < a.n then a.first i else b.first (i - a.n),
   fun i=>if i < a.n then a.last i else b.last (i - a.n),blk a.n a.follow b.follow fun _ _=>false⟩
def gAgain (a:GA):GA:={ a with follow:=fun i j=>a.follow i j || a.last i && a.first j }
def gMaybe (a:GA):GA:={ a with null:=true }
structure Canon (a:GA):Prop where
 sets:a.sets.length=a.n
 first:∀ i,a.n≤i→a.first i=false
 last:∀ i,a.n≤i→a.last i=false
 follow:∀ i j,a.n≤i∨a.n≤j→a.follow i j=false
theorem cat_empty_r {a:GA} (h:Canon a):gCat a gEmpty=a:=by
 obtain ⟨n,sets,null,f,l,fo⟩:=a
 simp only [gCat,gEmpty,GA.mk.injEq,Nat.add_zero,List.append_nil,Bool.and_true,Bool.and_false,true_and]
 refine ⟨?_,?_,?_⟩
 ·funext i;split
  ·rfl
  ·rename_i hi;exact (h.first i (by show n≤i;omega)).symm
 ·funext i;split
  ·rfl
  ·rename_i hi;exact (h.last i (by show n≤i;omega)).symm
 ·funext i j
  simp only [blk]
  split<;>split
  ·rfl
  ·rename_i h1 h2;exact (h.follow i j (by show n≤i∨n≤j;omega)).symm
  ·rename_i h1 h2;exact (h.follow i j (by show n≤i∨n≤j;omega)).symm
  ·rename_i h1 h2;exact (h.follow i j (by show n≤i∨n≤j;omega)).symm
theorem canon_zero {a:GA} (h:Canon a) (hn:a.n=0) (hnull:a.null=true):a=gEmpty:=by
 obtain ⟨n,sets,null,f,l,fo⟩:=a
 simp only at hn hnull;subst hn hnull
 have hs:sets=[]:=List.length_eq_zero_iff.1 h.sets
 subst hs
 simp only [gEmpty,GA.mk.injEq,true_and]
 exact ⟨funext fun i=>h.first i (Nat.zero_le _),funext fun i=>h.last i (Nat.zero_le _),funext fun i=>funext fun j=>h.follow i j (.inl (Nat.zero_le _))⟩
theorem zb5:Canon gEmpty:=⟨rfl,fun _ _=>rfl,fun _ _=>rfl,fun _ _ _=>rfl⟩
theorem zfk:Canon gNone:=⟨rfl,fun _ _=>rfl,fun _ _=>rfl,fun _ _ _=>rfl⟩
theorem canon_byte (s:zb):Canon (gByte s):=⟨rfl,fun i h=>by simp [gByte] at h ⊢;omega,fun i h=>by simp [gByte] at h ⊢;omega,fun _ _ _=>rfl⟩
theorem zd0 {a b:GA} (ha:Canon a) (hb:Canon b):Canon (gCat a b):=by
 refine ⟨by simp [gCat,ha.sets,hb.sets],fun i h=>?_,fun i h=>?_,fun i j h=>?_⟩
 ·simp only [gCat] at h ⊢;rw [if_neg (by omega),hb.first _ (by omega)];simp
 ·simp only [gCat] at h ⊢;rw [if_neg (by omega),hb.last _ (by omega)]
 ·simp only [gCat,blk] at h ⊢
  split<;>split
  ·omega
  ·rw [hb.first _ (by omega)];simp
  ·rfl
  ·exact hb.follow _ _ (by omega)
theorem zjs {a b:GA} (ha:Canon a) (hb:Canon b):Canon (gAlt a b):=by
 refine ⟨by simp [gAlt,ha.sets,hb.sets],fun i h=>?_,fun i h=>?_,fun i j h=>?_⟩
 ·simp only [gAlt] at h ⊢;rw [if_neg (by omega),hb.first _ (by omega)]
 ·simp only [gAlt] at h ⊢;rw [if_neg (by omega),hb.last _ (by omega)]
 ·simp only [gAlt,blk] at h ⊢
  split<;>split
  ·omega
  ·rfl
  ·rfl
  ·exact hb.follow _ _ (by omega)
theorem zer {a:GA} (h:Canon a):Canon (gAgain a):=
 ⟨h.sets,h.first,h.last,fun i j hij=>by
   simp only [gAgain] at hij ⊢
   rw [h.follow i j hij]
   rcases hij with hi | hj
   ·rw [h.last i hi];rfl
   ·rw [h.first j hj];simp⟩
theorem zfX {a:GA} (h:Canon a):Canon (gMaybe a):=⟨h.sets,h.first,h.last,h.follow⟩
def iter (f:GA→GA):Nat→GA→GA
 | 0,z=>z
 | k+1,z=>f (iter f k z)
theorem zfl {f:GA→GA} (hf:∀ a,Canon a→Canon (f a)):∀ k {z},Canon z→Canon (iter f k z)
 | 0,_,h=>h
 | k+1,_,h=>hf _ (zfl hf k h)
def gRep (a:GA) (lo hi:Int):GA:=
 if hi < 0 then iter (gCat a) (max lo 1 - 1).toNat (if lo=0 then gMaybe (gAgain a) else gAgain a)
 else iter (gCat a) lo.toNat (iter (fun o=>gMaybe (gCat a o)) (hi - lo).toNat gEmpty)
theorem canon_rep {a:GA} (h:Canon a) (lo hi:Int):Canon (gRep a lo hi):=by
 unfold gRep
 split
 ·refine zfl (fun b hb=>zd0 h hb) _ ?_
  split
  ·exact zfX (zer h)
  ·exact zer h
 ·exact zfl (fun b hb=>zd0 h hb) _ (zfl (fun b hb=>zfX (zd0 h hb)) _ zb5)
def gof:zf→GA:=cata fun x l=>
 if x.Kind=2 then gByte x.Set else if x.Kind=3 then l.foldl gCat gEmpty else if x.Kind=4 then l.foldl gAlt gNone
 else if x.Kind=5 then gRep (l.headD gEmpty) x.Lo x.Hi else gEmpty
theorem zdT (x:zf):gof x=if x.Kind=2 then gByte x.Set else if x.Kind=3 then x.Kids.foldl (fun o y=>gCat o (gof y)) gEmpty else if x.Kind=4 then x.Kids.foldl (fun o y=>gAlt o (gof y)) gNone
 else if x.Kind=5 then gRep ((x.Kids.map gof).headD gEmpty) x.Lo x.Hi else gEmpty:=by
 unfold gof;rw [ze2];simp only [List.foldl_map]
theorem zbP:∀ x,Canon (gof x):=by
 refine rxInd fun x ih=>?_
 have key:∀ (f:GA→GA→GA),(∀ a b,Canon a→Canon b→Canon (f a b))→∀ (l:List zf) (z:GA),(∀ y∈l,y∈x.Kids)→Canon z→Canon (l.foldl (fun o y=>f o (gof y)) z):=by
  intro f hf l
  induction l with
  | nil=>intro z _ h;exact h
  | cons y r ih2=>intro z hl h;exact ih2 _ (fun a ha=>hl a (List.mem_cons_of_mem _ ha)) (hf _ _ h (ih y (hl y (List.mem_cons_self ..))))
 rw [zdT]
 split
 ·exact canon_byte _
 ·split
  ·exact key gCat (fun a b=>zd0) _ _ (fun _ h=>h) zb5
  ·split
   ·exact key gAlt (fun a b=>zjs) _ _ (fun _ h=>h) zfk
   ·split
    ·refine canon_rep ?_ _ _
     cases hq:x.Kids with
     | nil=>exact zb5
     | cons y r=>exact ih y (by rw [hq];exact List.mem_cons_self ..)
    ·exact zb5
end Go.Ev.Pl
