import Derived.Test.YtkeiahjelpjegaaGreatA03
import Derived.Lib.RowBridge
set_option linter.unusedSimpArgs false
set_option linter.unusedVariables false
namespace Go.Ev
open Go Go.Proofs
set_option maxRecDepth 8000
set_option maxHeartbeats 1000000
theorem zgn (r0:zt) (B:Int) (a:zh) (res:(List Int)) (fin:zh)
 (h:(∃ A:zj,∃ Q:Int,zbK r0.Rx A Q∧(∃ o:zh,zbv A B a o∧(∃ d:List Int,zad A.Last ((↑(List.length a.Sets):Int)) d∧(∃ H:List zc→List Int→List (List Int)→List Bool→List (List Int)→List Int→Prop,(∀ (m:List zc) (j:List Int) (f:List (List Int)) (n:List Bool) (g:List (List Int)) (last:List Int),H m j f n g last→(∃ (y:List Bool→Int→Prop) (F:List Bool→Int→Nat),y n 0∧(∀ (c:List Bool) (l:Int),y c l→(ck (decide (l < (↑(List.length last):Int))) ((0≤l)∧l < ↑(List.length last)∧(0≤gd last l)∧(Int.toNat (gd last l) < List.length c)∧gd last l < ↑(List.length c)∧(y (List.set c (Int.toNat (gd last l)) true) (w64 (l+1))∧F (List.set c (Int.toNat (gd last l)) true) (w64 (l+1)) < F c l)) (∃ E:List Int,zad A.First ((↑(List.length a.Sets):Int)) E∧(res=E∧fin=({ Sets:=m,Owner:=j,Follow:=f,Ends:=c,Starts:=g })))))))∧(ck (zi.Kind r0.Trail != 0) (∃ r:zj,∃ M:Int,zbK r0.Trail r M∧(∃ k:zh,zbv r B o k∧(∃ (t:List (List Int)→Int→Prop) (D:List (List Int)→Int→Nat),t k.Follow 0∧(∀ (b:List (List Int)) (e:Int),t b e→(ck (decide (e < (↑(List.length d):Int))) ((0≤e)∧(Int.toNat e < List.length d)∧e < ↑(List.length d)∧(0≤e)∧(Int.toNat e < List.length d)∧e < ↑(List.length d)∧(0≤gd d e)∧(Int.toNat (gd d e) < List.length b)∧gd d e < ↑(List.length b)∧(∃ u:List Int,zad r.First ((↑(List.length o.Sets):Int)) u∧(∃ p:List Int,zA (gd b (gd d e)) u p∧(0≤gd d e)∧(Int.toNat (gd d e) < List.length b)∧gd d e < ↑(List.length b)∧(t (List.set b (Int.toNat (gd d e)) p) (w64 (e+1))∧D (List.set b (Int.toNat (gd d e)) p) (w64 (e+1)) < D b e)))) (ck r.Null (∃ v:List Int,zad r.Last ((↑(List.length o.Sets):Int)) v∧(∃ s:List Int,zA d v s∧H k.Sets k.Owner b k.Ends k.Starts s)) (∃ w:List Int,zad r.Last ((↑(List.length o.Sets):Int)) w∧H k.Sets k.Owner b k.Ends k.Starts w))))))) (H o.Sets o.Owner o.Follow o.Ends o.Starts d))))))):zb0 r0 B a res fin:=by
 unfold zb0;have kk:=cfOk [] 115;refine fD (x:=bodyOf Tryz.f45) kk Tryz.func45 ?_;refine wkS [1,3,4,7] [(1,.ptr 3 0),(3,zbp a),(4,zat r0),(7,vi B)] (by kernel_rfl) ?_;refine sO oN [4] [(13,.ptr 26 0),(26,zat r0)] ?_;obtain ⟨A,Q,c5,h⟩:=h;refine sO (ca c5 oN) [] [(22,.ptr 44 0),(44,zu A)] ?_;refine sV oN [] (List.length (List.map zb a.Sets)) (List.length a.Sets) (fun q=>[(28,vi ((↑(q):Int)))]) ?_;obtain ⟨o,c2,h⟩:=h;refine sO (ca c2 oN) [] [(3,zbp o)] ?_;obtain ⟨d,c1,h⟩:=h;refine sO (ca c1 oN) [] [(31,oL 3 za d)] ?_;obtain ⟨H,a7,h⟩:=h;refine sjE (u6 H) [7,13,26] (u6 fun m j f n g last=>[(3,.agg [oL 25 zb m,oL 3 za j,oL 40 ze f,oL 4 zn n,oL 40 ze g]),(31,vL za last)]) ?_ ?_
 ·rintro ⟨m,j,f,n,g,last⟩ hj;have h:=a7 m j f n g last hj;refine qD ?_;refine sO oN [] [(46,vi 0)] ?_;refine bD (id:=2) ?_;obtain ⟨y,F,N,O⟩:=h;refine loE [] (u2 fun c l=>[(3,.agg [oL 25 zb m,oL 3 za j,oL 40 ze f,oL 4 zn c,oL 40 ze g]),(46,vi l)]) (u2 y) (u2 F) (n,0) [] N ?_;rintro ⟨c,l⟩ hi;have h:=O c l hi;refine qD ?_;refine sV oN [] (List.length (List.map za last)) (List.length last) (fun q=>[(298,vB (decide (l < (↑(q):Int))))]) ?_;refine cH 99 h (fun a4 h=>?_) (fun a4 h=>?_)
  ·refine kD ?_;show Sem _ _ _ _ _;refine wkD [298] ?_;refine qD ?_;refine bD (id:=3) ?_;obtain ⟨b9,h⟩:=h;obtain ⟨c4,h⟩:=h;obtain ⟨b7,h⟩:=h;obtain ⟨c3,h⟩:=h;obtain ⟨c0,h⟩:=h;refine rV (xo za rfl b9 c4 (nd b7 (nd (show Int.toNat (gd last l) < List.length (List.map zn c) from by simpa only [nm] using c3) (el (show (List.map zn c)[((0:Nat)+Int.toNat (gd last l):Nat)]?=some (fB (gd c (gd last l))) from by have:=zcs zn c (gd last l) _ rfl b7 c0;simpa only [nm,enq,zn] using this) oN)))) [] (show AV from .own 4 (List.set (List.map zn c) ((0:Nat)+Int.toNat (gd last l)) (FV.pv (Value.bool true)))) (oL 4 zn (List.set c (Int.toNat (gd last l)) true)) (fun q=>[(3,.agg [oL 25 zb m,oL 3 za j,oL 40 ze f,q,oL 40 ze g])]) ?_;show Sem _ _ _ _ _;refine rO oN [] [(46,vi (w64 (l+1)))] ?_;exact lD ((List.set c (Int.toNat (gd last l)) true),(w64 (l+1))) [] h
  ·refine xD (i:=2) ?_;show Sem _ _ _ _ _;refine wkD [1,31,46,298] ?_;obtain ⟨E,b0,h⟩:=h;refine sO (ca b0 oN) [22,28,44] [(19,oL 3 za E)] ?_;refine tD ?_;obtain ⟨c6,c7⟩:=h;subst res fin;exact (endQ []).1
 ·refine sO oN [] [(115,vB (zi.Kind r0.Trail != 0))] ?_;refine cH 38 h (fun a8 h=>?_) (fun a8 h=>?_)
  ·obtain ⟨r,M,b6,h⟩:=h;refine sO (ca b6 oN) [13,26,115] [(34,.ptr 68 0),(68,zu r)] ?_;refine sV oN [] (List.length (List.map zb o.Sets)) (List.length o.Sets) (fun q=>[(40,vi ((↑(q):Int)))]) ?_;obtain ⟨k,b8,h⟩:=h;refine sO (ca b8 oN) [7] [(3,zbp k)] ?_;refine qD ?_;refine sO oN [] [(43,vi 0)] ?_;refine bD (id:=0) ?_;obtain ⟨t,D,I,J⟩:=h;refine loE [] (u2 fun b e=>[(3,.agg [oL 25 zb k.Sets,oL 3 za k.Owner,oL 40 ze b,oL 4 zn k.Ends,oL 40 ze k.Starts]),(43,vi e)]) (u2 t) (u2 D) (k.Follow,0) [] I ?_;rintro ⟨b,e⟩ hi;have h:=J b e hi;refine qD ?_;refine sV oN [] (List.length (List.map za d)) (List.length d) (fun q=>[(172,vB (decide (e < (↑(q):Int))))]) ?_;refine cH 57 h (fun a1 h=>?_) (fun a1 h=>?_)
   ·refine kD ?_;show Sem _ _ _ _ _;refine wkD [172] ?_;refine qD ?_;refine bD (id:=1) ?_;obtain ⟨V,h⟩:=h;obtain ⟨b5,h⟩:=h;obtain ⟨b3,h⟩:=h;obtain ⟨U,h⟩:=h;obtain ⟨b4,h⟩:=h;obtain ⟨a6,h⟩:=h;obtain ⟨S,h⟩:=h;obtain ⟨a5,h⟩:=h;obtain ⟨a9,h⟩:=h;obtain ⟨u,Y,h⟩:=h;obtain ⟨p,X,h⟩:=h;obtain ⟨R,h⟩:=h;obtain ⟨b2,h⟩:=h;obtain ⟨b1,h⟩:=h;refine rV (nd V (nd (show Int.toNat e < List.length (List.map za d) from by simpa only [nm] using b5) (el (show (List.map za d)[((0:Nat)+Int.toNat e:Nat)]?=some (fi (gd d e)) from by have:=zcs za d e _ rfl V b3;simpa only [nm,enq,za] using this) (nd U (nd (show Int.toNat e < List.length (List.map za d) from by simpa only [nm] using b4) (el (show (List.map za d)[((0:Nat)+Int.toNat e:Nat)]?=some (fi (gd d e)) from by have:=zcs za d e _ rfl U a6;simpa only [nm,enq,za] using this) (nd S (nd (show Int.toNat (gd d e) < List.length (List.map ze b) from by simpa only [nm] using a5) (el (show (List.map ze b)[((0:Nat)+Int.toNat (gd d e):Nat)]?=some (fL za (gd b (gd d e))) from by have:=zcs ze b (gd d e) _ rfl S a9;simpa only [nm,enq,ze] using this) (ca Y (ca (Eq.mp (by unfold zA;(try simp only [List.drop_zero,List.take_length]);first | done | simp only [nm,enq]:zA (gd b (gd d e)) u p=CallE Tryz.prog 47 [vL za (gd b (gd d e)),.f (FV.sl (List.take (List.length (List.map za u)) (List.drop 0 (List.map za u))))] [] (vL za p) []) X) (nd R (nd (show Int.toNat (gd d e) < List.length (List.map ze b) from by simpa only [nm] using b2) (el (show (List.map ze b)[((0:Nat)+Int.toNat (gd d e):Nat)]?=some (fL za (gd b (gd d e))) from by have:=zcs ze b (gd d e) _ rfl R b1;simpa only [nm,enq,ze] using this) oN)))))))))))))) [] (show AV from .own 40 (List.set (List.map ze b) ((0:Nat)+Int.toNat (gd d e)) (FV.sl (List.map za p)))) (oL 40 ze (List.set b (Int.toNat (gd d e)) p)) (fun q=>[(3,.agg [oL 25 zb k.Sets,oL 3 za k.Owner,q,oL 4 zn k.Ends,oL 40 ze k.Starts])]) ?_;show Sem _ _ _ _ _;refine rO oN [] [(43,vi (w64 (e+1)))] ?_;exact lD ((List.set b (Int.toNat (gd d e)) p),(w64 (e+1))) [] h
   ·refine xD (i:=0) ?_;show Sem _ _ _ _ _;refine wkD [43,172] ?_;refine sO oN [] [(256,vB r.Null)] ?_;refine cH 85 h (fun a0 h=>?_) (fun a0 h=>?_)
    ·obtain ⟨v,a2,h⟩:=h;obtain ⟨s,W,h⟩:=h;refine rO (ca a2 (ca (Eq.mp (by unfold zA;(try simp only [List.drop_zero,List.take_length]);first | done | simp only [nm,enq]:zA d v s=CallE Tryz.prog 47 [.f (FV.sl (List.take (List.length (List.map za d)) (List.drop 0 (List.map za d)))),.f (FV.sl (List.take (List.length (List.map za v)) (List.drop 0 (List.map za v))))] [] (vL za s) []) W) oN)) [34,40,68,256] [(31,vL za s)] ?_;exact jD (k.Sets,k.Owner,b,k.Ends,k.Starts,s) [] h
    ·obtain ⟨w,a3,h⟩:=h;refine rO (ca a3 oN) [34,40,68,256] [(31,oL 3 za w)] ?_;exact jD (k.Sets,k.Owner,b,k.Ends,k.Starts,w) [(31,0)] h
  ·refine kD ?_;exact jD (o.Sets,o.Owner,o.Follow,o.Ends,o.Starts,d) [(31,0)] h
theorem zfa (s0:zC) (res:zh) (res_1:Int)
 (h:(∃ r0:Bool,zbh s0 r0∧(ck (!r0) (res=({ Sets:=[],Owner:=[],Follow:=[],Ends:=[],Starts:=[] })∧res_1=1) (∃ (D:List zc→List Int→List (List Int)→List Bool→List (List Int)→List (List Int)→Int→Prop) (M:List zc→List Int→List (List Int)→List Bool→List (List Int)→List (List Int)→Int→Nat),D ([]) ([]) ([]) ([]) ([]) ([]) 0∧(∀ (c:List zc) (d:List Int) (b:List (List Int)) (e:List Bool) (f:List (List Int)) (g:List (List Int)) (i:Int),D c d b e f g i→(ck (decide (i < (↑(List.length s0.Rules):Int))) (∃ U:List zc→List Int→List (List Int)→List Bool→List (List Int)→List Int→Prop,(∀ (o:List zc) (n:List Int) (l:List (List Int)) (p:List Bool) (k:List (List Int)) (m:List Int),U o n l p k m→((List.length g+1) * 24≤2 ^ 47)∧(D o n l p k (g++[m]) (w64 (i+1))∧M o n l p k (g++[m]) (w64 (i+1)) < M c d b e f g i))∧(0≤i)∧i < ↑(List.length s0.Rules)∧(ck (!(gd s0.Rules i).Eof) ((0≤i)∧i < ↑(List.length s0.Rules)∧(∃ I:List Int,∃ A:zh,zb0 (gd s0.Rules i) i ({ Sets:=c,Owner:=d,Follow:=b,Ends:=e,Starts:=f }) I A∧U A.Sets A.Owner A.Follow A.Ends A.Starts I)) (U c d b e f ([])))) (ck (decide ((↑(List.length c):Int) > 600)) (res=({ Sets:=[],Owner:=[],Follow:=[],Ends:=[],Starts:=[] })∧res_1=2) (∃ (w:List (List Int)→Int→Prop) (F:List (List Int)→Int→Nat),w f 0∧(∀ (a:List (List Int)) (c0:Int),w a c0→(ck (decide (c0 < w64 (2 * (↑(List.length s0.Conds):Int)))) (∃ (y:List Int→Int→Prop) (E:List Int→Int→Nat),y ([]) 0∧(∀ (j:List Int) (s:Int),y j s→(ck (decide (s < (↑(List.length s0.Rules):Int))) (∃ H:List Int→Prop,(∀ (r:List Int),H r→(y r (w64 (s+1))∧E r (w64 (s+1)) < E j s))∧(∃ v:Bool,zba s0 s (w64 (Int.tdiv c0 2)) v∧((v)=true→((Int.tmod c0 2 == 1)=false→(0≤s)))∧((v)=true→((Int.tmod c0 2 == 1)=false→s < ↑(List.length s0.Rules)))∧(ck (v && (Int.tmod c0 2 == 1 || !(gd s0.Rules s).Bol)) ((0≤s)∧(Int.toNat s < List.length g)∧s < ↑(List.length g)∧(∃ B:List Int,zA j (gd g s) B∧H B)) (H j)))) (((List.length a+1) * 24≤2 ^ 47)∧(w (a++[j]) (w64 (c0+1))∧F (a++[j]) (w64 (c0+1)) < F a c0))))) (res=({ Sets:=c,Owner:=d,Follow:=b,Ends:=e,Starts:=a })∧res_1=0))))))))))):zbg s0 res res_1:=by
 unfold zbg;have kk:=cfOk [91] 92;refine fD (x:=bodyOf Tryz.f16) kk Tryz.func16 ?_;refine wkS [1] [(1,zaa s0)] (by kernel_rfl) ?_;refine sO oN [1] [(4,.ptr 8 0),(7,.ptr 14 0),(8,zaa s0),(14,.agg [oL 25 zb ([]),oL 3 za ([]),oL 40 ze ([]),oL 4 zn ([]),oL 40 ze ([])])] ?_;refine qD ?_;obtain ⟨r0,b8,h⟩:=h;refine sO (ca b8 oN) [] [(40,vB (!r0))] ?_;refine cH 13 h (fun c1 h=>?_) (fun c1 h=>?_)
 ·refine sO oN [4,8,40] [(10,vi 1),(14,.agg [oL 25 zb ([]),oL 3 za ([]),oL 40 ze ([]),oL 4 zn ([]),oL 40 ze ([])])] ?_;refine tD ?_;obtain ⟨a5,a7⟩:=h;subst res res_1;exact (endD [] (.tup [.agg [.f (FV.sl (List.take (List.length (List.map zb [])) (List.drop 0 (List.map zb [])))),.f (FV.sl (List.take (List.length (List.map za [])) (List.drop 0 (List.map za [])))),.f (FV.sl (List.take (List.length (List.map ze [])) (List.drop 0 (List.map ze [])))),.f (FV.sl (List.take (List.length (List.map zn [])) (List.drop 0 (List.map zn [])))),.f (FV.sl (List.take (List.length (List.map ze [])) (List.drop 0 (List.map ze []))))],vi 1]) []).1
 ·refine kD ?_;show Sem _ _ _ _ _;refine wkD [40] ?_;refine sO oN [] [(13,.ptr 26 0),(26,.agg [oL 25 zb ([]),oL 3 za ([]),oL 40 ze ([]),oL 4 zn ([]),oL 40 ze ([])])] ?_;refine sO oN [] [(16,oL 40 ze ([]))] ?_;refine qD ?_;refine sO oN [] [(19,vi 0)] ?_;refine bD (id:=0) ?_;obtain ⟨D,M,Q,V⟩:=h;refine loE [] (u7 fun c d b e f g i=>[(16,oL 40 ze g),(19,vi i),(26,.agg [oL 25 zb c,oL 3 za d,oL 40 ze b,oL 4 zn e,oL 40 ze f])]) (u7 D) (u7 M) (([]),([]),([]),([]),([]),([]),0) [] Q ?_;rintro ⟨c,d,b,e,f,g,i⟩ hi;have h:=V c d b e f g i hi;refine qD ?_;refine sV oN [] (List.length (List.map zr s0.Rules)) (List.length s0.Rules) (fun q=>[(58,vB (decide (i < (↑(q):Int))))]) ?_;refine cH 19 h (fun b5 h=>?_) (fun b5 h=>?_)
  ·refine kD ?_;show Sem _ _ _ _ _;refine wkD [58] ?_;refine qD ?_;refine bD (id:=1) ?_;refine sO oN [] [(22,oL 3 za ([]))] ?_;obtain ⟨U,b1,h⟩:=h;refine sjE (u6 U) [] (u6 fun o n l p k m=>[(22,oL 3 za m),(26,.agg [oL 25 zb o,oL 3 za n,oL 40 ze l,oL 4 zn p,oL 40 ze k])]) ?_ ?_
   ·rintro ⟨o,n,l,p,k,m⟩ hj;have h:=b1 o n l p k m hj;obtain ⟨c3,h⟩:=h;refine rOE (apo ze g c3 oN) [22] [(16,.own 40 (List.map ze g++[FV.sl (List.take (List.length (List.map za m)) (List.drop 0 (List.map za m)))]))] [(16,oL 40 ze (g++[m]))] ?_;show Sem _ _ _ _ _;refine rO oN [] [(19,vi (w64 (i+1)))] ?_;exact lD (o,n,l,p,k,(g++[m]),(w64 (i+1))) [] h
   ·obtain ⟨b7,h⟩:=h;obtain ⟨b6,h⟩:=h;refine sO (xo zr (zaz _) b7 b6 oN) [] [(85,vB (!(gd s0.Rules i).Eof))] ?_;refine cH 28 h (fun a9 h=>?_) (fun a9 h=>?_)
    ·obtain ⟨b9,h⟩:=h;obtain ⟨c2,h⟩:=h;obtain ⟨I,A,b4,h⟩:=h;refine rO (xo zr (zaz _) b9 c2 (ca b4 oN)) [85] [(22,oL 3 za I),(26,zbp A)] ?_;exact jD (A.Sets,A.Owner,A.Follow,A.Ends,A.Starts,I) [] h
    ·refine kD ?_;exact jD (c,d,b,e,f,([])) [] h
  ·refine xD (i:=0) ?_;show Sem _ _ _ _ _;refine wkD [19,58] ?_;refine qD ?_;refine sV oN [] (List.length (List.map zb c)) (List.length c) (fun q=>[(130,vB (decide ((↑(q):Int) > 600)))]) ?_;refine cH 43 h (fun b2 h=>?_) (fun b2 h=>?_)
   ·refine sO oN [4,8,13,16,26,130] [(10,vi 2),(14,.agg [oL 25 zb ([]),oL 3 za ([]),oL 40 ze ([]),oL 4 zn ([]),oL 40 ze ([])])] ?_;refine tD ?_;obtain ⟨a5,a7⟩:=h;subst res res_1;exact (endD [] (.tup [.agg [.f (FV.sl (List.take (List.length (List.map zb [])) (List.drop 0 (List.map zb [])))),.f (FV.sl (List.take (List.length (List.map za [])) (List.drop 0 (List.map za [])))),.f (FV.sl (List.take (List.length (List.map ze [])) (List.drop 0 (List.map ze [])))),.f (FV.sl (List.take (List.length (List.map zn [])) (List.drop 0 (List.map zn [])))),.f (FV.sl (List.take (List.length (List.map ze [])) (List.drop 0 (List.map ze []))))],vi 2]) []).1
   ·refine kD ?_;show Sem _ _ _ _ _;refine wkD [130] ?_;refine qD ?_;refine sO oN [] [(25,vi 0)] ?_;refine bD (id:=2) ?_;obtain ⟨w,F,N,S⟩:=h;refine loE [] (u2 fun a c0=>[(25,vi c0),(26,.agg [oL 25 zb c,oL 3 za d,oL 40 ze b,oL 4 zn e,oL 40 ze a])]) (u2 w) (u2 F) (f,0) [] N ?_;rintro ⟨a,c0⟩ hi;have h:=S a c0 hi;refine qD ?_;refine sV oN [] (List.length (List.map zm s0.Conds)) (List.length s0.Conds) (fun q=>[(151,vB (decide (c0 < w64 (2 * (↑(q):Int)))))]) ?_;refine cH 50 h (fun Y h=>?_) (fun Y h=>?_)
    ·refine kD ?_;show Sem _ _ _ _ _;refine wkD [151] ?_;refine qD ?_;refine bD (id:=3) ?_;refine sO oN [] [(28,oL 3 za ([]))] ?_;refine qD ?_;refine sO oN [] [(31,vi 0)] ?_;refine bD (id:=4) ?_;obtain ⟨y,E,O,R⟩:=h;refine loE [] (u2 fun j s=>[(28,vL za j),(31,vi s)]) (u2 y) (u2 E) (([]),0) [(28,0)] O ?_;rintro ⟨j,s⟩ hi;have h:=R j s hi;refine qD ?_;refine sV oN [] (List.length (List.map zr s0.Rules)) (List.length s0.Rules) (fun q=>[(172,vB (decide (s < (↑(q):Int))))]) ?_;refine cH 57 h (fun a3 h=>?_) (fun a3 h=>?_)
     ·refine kD ?_;show Sem _ _ _ _ _;refine wkD [172] ?_;obtain ⟨H,X,h⟩:=h;refine sjE H [] (fun r=>[(28,vL za r)]) ?_ ?_
      ·rintro r hj;have h:=X r hj;refine rO oN [] [(31,vi (w64 (s+1)))] ?_;exact lD (r,(w64 (s+1))) [] h
      ·refine bD (id:=5) ?_;obtain ⟨v,J,h⟩:=h;obtain ⟨a8,b0,h⟩:=h;refine sM [] [(235,vB (v && (Int.tmod c0 2 == 1 || !(gd s0.Rules s).Bol)))] ?_ (fun a0=>?_)
       ·refine cH 78 h (fun a1 h=>?_) (fun a1 h=>?_)
        ·obtain ⟨W,h⟩:=h;obtain ⟨a6,h⟩:=h;obtain ⟨b3,h⟩:=h;obtain ⟨B,a2,h⟩:=h;refine rO (nd W (nd (show Int.toNat s < List.length (List.map ze g) from by simpa only [nm] using a6) (el (show (List.map ze g)[((0:Nat)+Int.toNat s:Nat)]?=some (fL za (gd g s)) from by have:=zcs ze g s _ rfl W b3;simpa only [nm,enq,ze] using this) (ca a2 oN)))) [235] [(28,vL za B)] ?_;exact jD B [] h
        ·refine kD ?_;exact jD j [] h
       ·rcases eft (v) with t | t
        ·rcases eft (Int.tmod c0 2 == 1) with u | u
         ·refine sO (nd (show (2:Int)≠(0:Int) from by first | decide | rfl | trivial) (ca J (g1 t 11 (nd (show (2:Int)≠(0:Int) from by first | decide | rfl | trivial) (g2 t u 115555555163 oN))))) [] [(235,vB true)] ?_;exact Sem.cast (by try rw [t];try rw [u];kernel_rfl) a0
         ·refine sO (nd (show (2:Int)≠(0:Int) from by first | decide | rfl | trivial) (ca J (g1 t 11 (nd (show (2:Int)≠(0:Int) from by first | decide | rfl | trivial) (g2 u t 442222 (xo zr (zaz _) ((a8 t) u) ((b0 t) u) (g2 t u 555163 oN))))))) [] [(235,vB (!(gd s0.Rules s).Bol))] ?_;exact Sem.cast (by try rw [t];try rw [u];kernel_rfl) a0
        ·refine sO (nd (show (2:Int)≠(0:Int) from by first | decide | rfl | trivial) (ca J (g1 t 111113 oN))) [] [(235,vB false)] ?_;exact Sem.cast (by try rw [t];kernel_rfl) a0
     ·refine xD (i:=4) ?_;show Sem _ _ _ _ _;refine wkD [31,172] ?_;obtain ⟨a4,h⟩:=h;refine rV (apo ze a a4 oN) [28] (show AV from .own 40 (List.map ze a++[FV.sl (List.map za j)])) (oL 40 ze (a++[j])) (fun q=>[(26,.agg [oL 25 zb c,oL 3 za d,oL 40 ze b,oL 4 zn e,q])]) ?_;show Sem _ _ _ _ _;refine rO oN [] [(25,vi (w64 (c0+1)))] ?_;exact lD ((a++[j]),(w64 (c0+1))) [] h
    ·refine xD (i:=2) ?_;show Sem _ _ _ _ _;refine wkD [4,8,16,25,151] ?_;refine sO (nd (show (0:Nat)=(0:Nat)∧List.length (List.map zb c)=List.length (List.map zb c) from ⟨rfl,rfl⟩) (nd (show (0:Nat)=(0:Nat)∧List.length (List.map za d)=List.length (List.map za d) from ⟨rfl,rfl⟩) (nd (show (0:Nat)=(0:Nat)∧List.length (List.map ze b)=List.length (List.map ze b) from ⟨rfl,rfl⟩) (nd (show (0:Nat)=(0:Nat)∧List.length (List.map zn e)=List.length (List.map zn e) from ⟨rfl,rfl⟩) (nd (show (0:Nat)=(0:Nat)∧List.length (List.map ze a)=List.length (List.map ze a) from ⟨rfl,rfl⟩) oN))))) [13,26] [(10,vi 0),(14,.agg [oL 25 zb c,oL 3 za d,oL 40 ze b,oL 4 zn e,oL 40 ze a])] ?_;refine tD ?_;obtain ⟨a5,a7⟩:=h;subst res res_1;exact (endD [] (.tup [.agg [.f (FV.sl (List.take (List.length (List.map zb c)) (List.drop 0 (List.map zb c)))),.f (FV.sl (List.take (List.length (List.map za d)) (List.drop 0 (List.map za d)))),.f (FV.sl (List.take (List.length (List.map ze b)) (List.drop 0 (List.map ze b)))),.f (FV.sl (List.take (List.length (List.map zn e)) (List.drop 0 (List.map zn e)))),.f (FV.sl (List.take (List.length (List.map ze a)) (List.drop 0 (List.map ze a))))],vi 0]) []).1
theorem zfP (a:(List Int)) (b:(List Int)) (res:Bool)
 (h:(ck ((↑(List.length a):Int) != (↑(List.length b):Int)) (res=false) (∃ (c:Int→Prop) (d:Int→Nat),c 0∧(∀ (i:Int),c i→(ck (decide (i < (↑(List.length a):Int))) ((0≤i)∧i < ↑(List.length a)∧(0≤i)∧i < ↑(List.length b)∧(ck (gd a i != gd b i) (res=false) (c (w64 (i+1))∧d (w64 (i+1)) < d i))) (res=true)))))):za0 a b res:=by
 unfold za0;have kk:=cfOk [] 26;refine fD (x:=bodyOf Tryz.f88) kk Tryz.func88 ?_;refine wkS [1,4] [(1,vL za a),(4,vL za b)] (by kernel_rfl) ?_;refine sO oN [] [] ?_;refine qD ?_;refine sOE oN [] [(31,vB ((↑(List.length (List.map za a)):Int) != (↑(List.length (List.map za b)):Int)))] [(31,vB ((↑(List.length a):Int) != (↑(List.length b):Int)))] ?_;refine cH 10 h (fun k h=>?_) (fun k h=>?_)
 ·refine sO oN [1,4,31] [(13,vB false)] ?_;refine tD ?_;subst h;exact (endQ []).1
 ·refine kD ?_;show Sem _ _ _ _ _;refine wkD [31] ?_;refine qD ?_;refine sO oN [] [(16,vi 0)] ?_;refine bD (id:=0) ?_;obtain ⟨c,d,e,f⟩:=h;refine loE [] (fun i=>[(16,vi i)]) c d 0 [] e ?_;rintro i hi;have h:=f i hi;refine qD ?_;refine sV oN [] (List.length (List.map za a)) (List.length a) (fun q=>[(43,vB (decide (i < (↑(q):Int))))]) ?_;refine cH 14 h (fun j h=>?_) (fun j h=>?_)
  ·refine kD ?_;show Sem _ _ _ _ _;refine wkD [43] ?_;refine qD ?_;refine bD (id:=1) ?_;obtain ⟨l,h⟩:=h;obtain ⟨n,h⟩:=h;obtain ⟨o,h⟩:=h;obtain ⟨m,h⟩:=h;refine sO (xo za rfl l n (xo za rfl o m oN)) [] [(76,vB (gd a i != gd b i))] ?_;refine cH 25 h (fun g h=>?_) (fun g h=>?_)
   ·refine sO oN [1,4,16,76] [(13,vB false)] ?_;refine tD ?_;subst h;exact (endQ []).1
   ·refine kD ?_;show Sem _ _ _ _ _;refine wkD [76] ?_;refine rO oN [] [(16,vi (w64 (i+1)))] ?_;exact lD (w64 (i+1)) [] h
  ·refine xD (i:=0) ?_;show Sem _ _ _ _ _;refine wkD [1,4,16,43] ?_;refine sO oN [] [(13,vB true)] ?_;refine tD ?_;subst h;exact (endQ []).1
theorem zfR (a:zj) (b:zj) (res:Bool)
 (h:(ck ((↑(List.length (List.map zb a.Sets)):Int) != (↑(List.length (List.map zb b.Sets)):Int)) (res=false) (ck ((↑(List.length (List.map ze a.Follow)):Int) != (↑(List.length (List.map ze b.Follow)):Int)) (res=false) (ck (!a.Null == b.Null) (res=false) (∃ r0:Bool,za0 a.First b.First r0∧(ck (!r0) (res=false) (∃ k:Bool,za0 a.Last b.Last k∧(ck (!k) (res=false) (∃ (d:Int→Prop) (l:Int→Nat),d 0∧(∀ (i:Int),d i→(ck (decide (i < (↑(List.length a.Sets):Int))) ((0≤i)∧i < ↑(List.length a.Sets)∧(0≤i)∧i < ↑(List.length b.Sets)∧(ck (!((gd a.Sets i).e0 == (gd b.Sets i).e0 && ((gd a.Sets i).e1 == (gd b.Sets i).e1 && ((gd a.Sets i).e2 == (gd b.Sets i).e2 && ((gd a.Sets i).e3 == (gd b.Sets i).e3 && true))))) (res=false) (d (w64 (i+1))∧l (w64 (i+1)) < l i))) (∃ (e:Int→Prop) (m:Int→Nat),e 0∧(∀ (c:Int),e c→(ck (decide (c < (↑(List.length a.Follow):Int))) ((0≤c)∧c < ↑(List.length a.Follow)∧(0≤c)∧c < ↑(List.length b.Follow)∧(∃ n:Bool,za0 (gd a.Follow c) (gd b.Follow c) n∧(ck (!n) (res=false) (e (w64 (c+1))∧m (w64 (c+1)) < m c)))) (res=true))))))))))))))):zah a b res:=by
 unfold zah;have kk:=cfOk [] 83;refine fD (x:=bodyOf Tryz.f48) kk Tryz.func48 ?_;refine wkS [1,4] [(1,zu a),(4,zu b)] (by kernel_rfl) ?_;refine sO oN [1,4] [(7,.ptr 14 0),(10,.ptr 20 0),(14,zu a),(20,zu b)] ?_;refine qD ?_;rcases eft ((↑(List.length (List.map zb a.Sets)):Int) != (↑(List.length (List.map zb b.Sets)):Int)) with f | f
 ·have h:=h.1 f;refine sO (g1 f 2222222388888788888878888887 oN) [] [(136,vB true)] ?_;refine cD (t:=45) (b:=true) (fun y=>?_) (fun y=>?_)
  ·refine sO oN [7,10,14,20,136] [(13,vB false)] ?_;refine tD ?_;subst h;exact (endQ []).1
  ·cases y
 ·have h:=h.2 f;rcases eft ((↑(List.length (List.map ze a.Follow)):Int) != (↑(List.length (List.map ze b.Follow)):Int)) with j | j
  ·have h:=h.1 j;refine sO (g2 j f 5555555622222388888878888887 oN) [] [(136,vB true)] ?_;refine cD (t:=45) (b:=true) (fun A=>?_) (fun A=>?_)
   ·refine sO oN [7,10,14,20,136] [(13,vB false)] ?_;refine tD ?_;subst h;exact (endQ []).1
   ·cases A
  ·have h:=h.2 j;rcases eft (!a.Null == b.Null) with g | g
   ·have h:=h.1 g;refine sO (g1 f 22222223 (g2 g j 55555622222238888887 oN)) [] [(136,vB true)] ?_;refine cD (t:=45) (b:=true) (fun v=>?_) (fun v=>?_)
    ·refine sO oN [7,10,14,20,136] [(13,vB false)] ?_;refine tD ?_;subst h;exact (endQ []).1
    ·cases v
   ·have h:=h.2 g;obtain ⟨r0,I,h⟩:=h;rcases eft (!r0) with o | o
    ·have h:=h.1 o;refine sO (g1 f 22222223 (g2 g j 55555622222 (ca I (g2 o g 562222223 oN)))) [] [(136,vB true)] ?_;refine cD (t:=45) (b:=true) (fun w=>?_) (fun w=>?_)
     ·refine sO oN [7,10,14,20,136] [(13,vB false)] ?_;refine tD ?_;subst h;exact (endQ []).1
     ·cases w
    ·have h:=h.2 o;obtain ⟨k,N,h⟩:=h;refine sO (g1 f 22222223 (g2 g j 55555622222 (ca I (g2 o g 5622222 (ca N (g1 o 23 oN)))))) [] [(136,vB (!k))] ?_;refine cH 45 h (fun Q h=>?_) (fun Q h=>?_)
     ·refine sO oN [7,10,14,20,136] [(13,vB false)] ?_;refine tD ?_;subst h;exact (endQ []).1
     ·refine kD ?_;show Sem _ _ _ _ _;refine wkD [136] ?_;refine qD ?_;refine sO oN [] [(16,vi 0)] ?_;refine bD (id:=0) ?_;obtain ⟨d,l,r,u⟩:=h;refine loE [] (fun i=>[(16,vi i)]) d l 0 [] r ?_;rintro i hi;have h:=u i hi;refine qD ?_;refine sV oN [] (List.length (List.map zb a.Sets)) (List.length a.Sets) (fun q=>[(151,vB (decide (i < (↑(q):Int))))]) ?_;refine cH 50 h (fun E h=>?_) (fun E h=>?_)
      ·refine kD ?_;show Sem _ _ _ _ _;refine wkD [151] ?_;refine qD ?_;refine bD (id:=1) ?_;obtain ⟨U,h⟩:=h;obtain ⟨S,h⟩:=h;obtain ⟨J,h⟩:=h;obtain ⟨M,h⟩:=h;refine sO (xo zb (zac _) U S (xo zb (zac _) J M oN)) [] [(190,vB (!((gd a.Sets i).e0 == (gd b.Sets i).e0 && ((gd a.Sets i).e1 == (gd b.Sets i).e1 && ((gd a.Sets i).e2 == (gd b.Sets i).e2 && ((gd a.Sets i).e3 == (gd b.Sets i).e3 && true))))))] ?_;refine cH 63 h (fun B h=>?_) (fun B h=>?_)
       ·refine sO oN [7,10,14,16,20,190] [(13,vB false)] ?_;refine tD ?_;subst h;exact (endQ []).1
       ·refine kD ?_;show Sem _ _ _ _ _;refine wkD [190] ?_;refine rO oN [] [(16,vi (w64 (i+1)))] ?_;exact lD (w64 (i+1)) [] h
      ·refine xD (i:=0) ?_;show Sem _ _ _ _ _;refine wkD [16,151] ?_;refine qD ?_;refine sO oN [] [(19,vi 0)] ?_;refine bD (id:=2) ?_;obtain ⟨e,m,p,s⟩:=h;refine loE [] (fun c=>[(19,vi c)]) e m 0 [] p ?_;rintro c hi;have h:=s c hi;refine qD ?_;refine sV oN [] (List.length (List.map ze a.Follow)) (List.length a.Follow) (fun q=>[(205,vB (decide (c < (↑(q):Int))))]) ?_;refine cH 68 h (fun F h=>?_) (fun F h=>?_)
       ·refine kD ?_;show Sem _ _ _ _ _;refine wkD [205] ?_;refine qD ?_;refine bD (id:=3) ?_;obtain ⟨W,h⟩:=h;obtain ⟨O,h⟩:=h;obtain ⟨R,h⟩:=h;obtain ⟨V,h⟩:=h;obtain ⟨n,D,h⟩:=h;refine sO (xo ze rfl W O (xo ze rfl R V (ca D oN))) [] [(247,vB (!n))] ?_;refine cH 82 h (fun H h=>?_) (fun H h=>?_)
        ·refine sO oN [7,10,14,19,20,247] [(13,vB false)] ?_;refine tD ?_;subst h;exact (endQ []).1
        ·refine kD ?_;show Sem _ _ _ _ _;refine wkD [247] ?_;refine rO oN [] [(19,vi (w64 (c+1)))] ?_;exact lD (w64 (c+1)) [] h
       ·refine xD (i:=2) ?_;show Sem _ _ _ _ _;refine wkD [7,10,14,19,20,205] ?_;refine sO oN [] [(13,vB true)] ?_;refine tD ?_;subst h;exact (endQ []).1
theorem zfO (a:zh) (b:zh) (res:Bool)
 (h:(List.length a.Follow * 24≤2 ^ 47)∧((List.length a.Follow+List.length a.Starts) * 24≤2 ^ 47)∧(List.length b.Follow * 24≤2 ^ 47)∧((List.length b.Follow+List.length b.Starts) * 24≤2 ^ 47)∧(∃ r0:Bool,zah ({ Sets:=a.Sets,First:=a.Owner,Last:=[],Follow:=a.Follow++a.Starts,Null:=false }) ({ Sets:=b.Sets,First:=b.Owner,Last:=[],Follow:=b.Follow++b.Starts,Null:=false }) r0∧(ck (!r0 || ((↑(List.length (List.map ze a.Follow)):Int) != (↑(List.length (List.map ze b.Follow)):Int) || (↑(List.length a.Ends):Int) != (↑(List.length b.Ends):Int))) (res=false) (∃ (c:Int→Prop) (e:Int→Nat),c 0∧(∀ (i:Int),c i→(ck (decide (i < (↑(List.length a.Ends):Int))) ((0≤i)∧i < ↑(List.length a.Ends)∧(0≤i)∧i < ↑(List.length b.Ends)∧(ck (!gd a.Ends i == gd b.Ends i) (res=false) (c (w64 (i+1))∧e (w64 (i+1)) < e i))) (res=true))))))):zaZ a b res:=by
 unfold zaZ;have kk:=cfOk [] 70;refine fD (x:=bodyOf Tryz.f17) kk Tryz.func17 ?_;refine wkS [1,4] [(1,zF a),(4,zF b)] (by kernel_rfl) ?_;refine sO oN [1,4] [(7,.ptr 14 0),(10,.ptr 20 0),(14,zF a),(20,zF b)] ?_;obtain ⟨h0,h⟩:=h;obtain ⟨h1,h⟩:=h;refine sV (nd (show ((0:Nat)+List.length (List.map ze a.Follow)) * (24:Nat)≤(2:Nat) ^ (47:Nat) from by simpa only [nm] using h0) (nd (show List.all (List.map ze a.Follow) (FV.fits (1:Nat))=true from by first | exact zef _ | exact keysencs_i64 _ | rfl | simp [isByteF,FV.fits,FV.size,FV.cells,FV.one,ze]) (nd (show (List.length (List.map ze a.Follow)+List.length (List.map ze a.Starts)) * (24:Nat)≤(2:Nat) ^ (47:Nat) from by simpa only [nm] using h1) (nd (show List.all (List.map ze a.Starts) (FV.fits (1:Nat))=true from by first | exact zef _ | exact keysencs_i64 _ | rfl | simp [isByteF,FV.fits,FV.size,FV.cells,FV.one,ze]) oN)))) [] (show AV from .f (FV.sl (List.take (List.length (List.map ze a.Follow++List.map ze a.Starts)) (List.drop (0:Nat) (List.map ze a.Follow++List.map ze a.Starts))))) (vL ze (a.Follow++a.Starts)) (fun q=>[(16,.ptr 32 0),(32,.agg [vL zb a.Sets,vL za a.Owner,oL 3 za ([]),q,vB false])]) ?_;obtain ⟨h2,h⟩:=h;obtain ⟨h3,h⟩:=h;refine sV (nd (show ((0:Nat)+List.length (List.map ze b.Follow)) * (24:Nat)≤(2:Nat) ^ (47:Nat) from by simpa only [nm] using h2) (nd (show List.all (List.map ze b.Follow) (FV.fits (1:Nat))=true from by first | exact zef _ | exact keysencs_i64 _ | rfl | simp [isByteF,FV.fits,FV.size,FV.cells,FV.one,ze]) (nd (show (List.length (List.map ze b.Follow)+List.length (List.map ze b.Starts)) * (24:Nat)≤(2:Nat) ^ (47:Nat) from by simpa only [nm] using h3) (nd (show List.all (List.map ze b.Starts) (FV.fits (1:Nat))=true from by first | exact zef _ | exact keysencs_i64 _ | rfl | simp [isByteF,FV.fits,FV.size,FV.cells,FV.one,ze]) oN)))) [] (show AV from .f (FV.sl (List.take (List.length (List.map ze b.Follow++List.map ze b.Starts)) (List.drop (0:Nat) (List.map ze b.Follow++List.map ze b.Starts))))) (vL ze (b.Follow++b.Starts)) (fun q=>[(19,.ptr 38 0),(38,.agg [vL zb b.Sets,vL za b.Owner,oL 3 za ([]),q,vB false])]) ?_;refine qD ?_;obtain ⟨r0,l,h⟩:=h;refine sM [16,19,32,38] [(154,vB (!r0 || ((↑(List.length (List.map ze a.Follow)):Int) != (↑(List.length (List.map ze b.Follow)):Int) || (↑(List.length a.Ends):Int) != (↑(List.length b.Ends):Int))))] ?_ (fun k=>?_)
 ·refine cH 51 h (fun t h=>?_) (fun t h=>?_)
  ·refine sO oN [7,10,14,20,154] [(13,vB false)] ?_;refine tD ?_;subst h;exact (endQ []).1
  ·refine kD ?_;show Sem _ _ _ _ _;refine wkD [154] ?_;refine qD ?_;refine sO oN [] [(22,vi 0)] ?_;refine bD (id:=0) ?_;obtain ⟨c,e,f,j⟩:=h;refine loE [] (fun i=>[(22,vi i)]) c e 0 [] f ?_;rintro i hi;have h:=j i hi;refine qD ?_;refine sV oN [] (List.length (List.map zn a.Ends)) (List.length a.Ends) (fun q=>[(169,vB (decide (i < (↑(q):Int))))]) ?_;refine cH 56 h (fun n h=>?_) (fun n h=>?_)
   ·refine kD ?_;show Sem _ _ _ _ _;refine wkD [169] ?_;refine qD ?_;refine bD (id:=1) ?_;obtain ⟨s,h⟩:=h;obtain ⟨o,h⟩:=h;obtain ⟨p,h⟩:=h;obtain ⟨r,h⟩:=h;refine sO (xo zn rfl s o (xo zn rfl p r oN)) [] [(208,vB (!gd a.Ends i == gd b.Ends i))] ?_;refine cH 69 h (fun m h=>?_) (fun m h=>?_)
    ·refine sO oN [7,10,14,20,22,208] [(13,vB false)] ?_;refine tD ?_;subst h;exact (endQ []).1
    ·refine kD ?_;show Sem _ _ _ _ _;refine wkD [208] ?_;refine rO oN [] [(22,vi (w64 (i+1)))] ?_;exact lD (w64 (i+1)) [] h
   ·refine xD (i:=0) ?_;show Sem _ _ _ _ _;refine wkD [7,10,14,20,22,169] ?_;refine sO oN [] [(13,vB true)] ?_;refine tD ?_;subst h;exact (endQ []).1
 ·rcases eft (!r0) with d | d
  ·refine sO (ca (Eq.mp (by unfold zah;(try simp only [List.drop_zero,List.take_length]);first | done | simp only [nm,enq]:zah ({ Sets:=a.Sets,First:=a.Owner,Last:=[],Follow:=a.Follow++a.Starts,Null:=false }) ({ Sets:=b.Sets,First:=b.Owner,Last:=[],Follow:=b.Follow++b.Starts,Null:=false }) r0=CallE Tryz.prog 48 [.agg [vL zb a.Sets,vL za a.Owner,.f (FV.sl (List.take 0 (List.drop 0 (List.map za [])))),vL ze (a.Follow++a.Starts),vB false],.agg [vL zb b.Sets,vL za b.Owner,.f (FV.sl (List.take 0 (List.drop 0 (List.map za [])))),vL ze (b.Follow++b.Starts),vB false]] [] (vB r0) []) l) (g1 d 2222222388888887 oN)) [16,19,32,38] [(154,vB true)] ?_;exact Sem.cast (by try rw [d];kernel_rfl) k
  ·rcases eft ((↑(List.length (List.map ze a.Follow)):Int) != (↑(List.length (List.map ze b.Follow)):Int)) with g | g
   ·refine sO (ca (Eq.mp (by unfold zah;(try simp only [List.drop_zero,List.take_length]);first | done | simp only [nm,enq]:zah ({ Sets:=a.Sets,First:=a.Owner,Last:=[],Follow:=a.Follow++a.Starts,Null:=false }) ({ Sets:=b.Sets,First:=b.Owner,Last:=[],Follow:=b.Follow++b.Starts,Null:=false }) r0=CallE Tryz.prog 48 [.agg [vL zb a.Sets,vL za a.Owner,.f (FV.sl (List.take 0 (List.drop 0 (List.map za [])))),vL ze (a.Follow++a.Starts),vB false],.agg [vL zb b.Sets,vL za b.Owner,.f (FV.sl (List.take 0 (List.drop 0 (List.map za [])))),vL ze (b.Follow++b.Starts),vB false]] [] (vB r0) []) l) (g2 g d 5555555622222223 oN)) [16,19,32,38] [(154,vB true)] ?_;exact Sem.cast (by try rw [d];try rw [g];kernel_rfl) k
   ·refine sOE (ca (Eq.mp (by unfold zah;(try simp only [List.drop_zero,List.take_length]);first | done | simp only [nm,enq]:zah ({ Sets:=a.Sets,First:=a.Owner,Last:=[],Follow:=a.Follow++a.Starts,Null:=false }) ({ Sets:=b.Sets,First:=b.Owner,Last:=[],Follow:=b.Follow++b.Starts,Null:=false }) r0=CallE Tryz.prog 48 [.agg [vL zb a.Sets,vL za a.Owner,.f (FV.sl (List.take 0 (List.drop 0 (List.map za [])))),vL ze (a.Follow++a.Starts),vB false],.agg [vL zb b.Sets,vL za b.Owner,.f (FV.sl (List.take 0 (List.drop 0 (List.map za [])))),vL ze (b.Follow++b.Starts),vB false]] [] (vB r0) []) l) (g2 g d 5555555622222223 oN)) [16,19,32,38] [(154,vB ((↑(List.length (List.map zn a.Ends)):Int) != (↑(List.length (List.map zn b.Ends)):Int)))] [(154,vB ((↑(List.length a.Ends):Int) != (↑(List.length b.Ends):Int)))] ?_;exact Sem.cast (by try rw [d];try rw [g];kernel_rfl) k
end Go.Ev
namespace Go.Ev
open Go Go.Proofs
set_option maxRecDepth 8000
set_option maxHeartbeats 1000000
theorem zcf (n:Int) (m:zg) (res:Int) (fin:zg)
 (h:(ck (decide (w64 (m.At+1) > (↑(List.length m.L):Int))) (res=0∧fin=({ L:=m.L,At:=w64 (m.At+1) })) ((0≤w64 (w64 (m.At+1) - 1))∧w64 (w64 (m.At+1) - 1) < ↑(List.length m.L)∧(n≠0)∧(res=(Int.tmod (w64 (gd m.L (w64 (w64 (m.At+1) - 1)))) n)∧fin=({ L:=m.L,At:=w64 (m.At+1) }))))):zl n m res fin:=by
 unfold zl;have kk:=cfOk [] 36;refine fD (x:=bodyOf Tryz.f49) kk Tryz.func49 ?_;refine wkS [1,3,4] [(1,.ptr 3 0),(3,zk m),(4,vi n)] (by kernel_rfl) ?_;refine sO oN [] [] ?_;refine sO oN [] [(3,.agg [vL zal m.L,vi (w64 (m.At+1))])] ?_;refine qD ?_;refine sV oN [] (List.length (List.map zal m.L)) (List.length m.L) (fun q=>[(64,vB (decide (w64 (m.At+1) > (↑(q):Int))))]) ?_;refine cH 21 h (fun c h=>?_) (fun c h=>?_)
 ·refine sO oN [1,4,64] [(13,vi 0)] ?_;refine tD ?_;obtain ⟨a,b⟩:=h;subst res fin;exact (endQ []).1
 ·refine kD ?_;show Sem _ _ _ _ _;refine wkD [64] ?_;obtain ⟨h1,h⟩:=h;obtain ⟨h2,h⟩:=h;obtain ⟨h3,h⟩:=h;refine sO (xo zal rfl h1 h2 (nd h3 oN)) [1,4] [(13,vi (Int.tmod (w64 (gd m.L (w64 (w64 (m.At+1) - 1)))) n))] ?_;refine tD ?_;obtain ⟨a,b⟩:=h;subst res fin;exact (endQ []).1
theorem zgs (s0:zc) (b:Int) (res:zc)
 (h:((w64 (Int.tdiv b 64)=0∨w64 (Int.tdiv b 64)=1∨w64 (Int.tdiv b 64)=2∨w64 (Int.tdiv b 64)=3)∧((decide (w64 (Int.tdiv b 64)=0))=true→((decide (w64 (Int.tdiv b 64)=0))=true→(0≤Int.tmod b 64))∧(res=({ e0:=IntKind.wrap IntKind.u64 (↑(BitVec.toNat (BitVec.ofInt (IntKind.bits IntKind.u64) s0.e0 ||| BitVec.ofInt (IntKind.bits IntKind.u64) (IntKind.wrap IntKind.u64 (1 * 2 ^ Min.min (Int.toNat (Int.tmod b 64)) (IntKind.bits IntKind.u64))))):Int),e1:=s0.e1,e2:=s0.e2,e3:=s0.e3 })))∧((decide (w64 (Int.tdiv b 64)=1))=true→((decide (w64 (Int.tdiv b 64)=1))=true→(0≤Int.tmod b 64))∧(res=({ e0:=s0.e0,e1:=IntKind.wrap IntKind.u64 (↑(BitVec.toNat (BitVec.ofInt (IntKind.bits IntKind.u64) s0.e1 ||| BitVec.ofInt (IntKind.bits IntKind.u64) (IntKind.wrap IntKind.u64 (1 * 2 ^ Min.min (Int.toNat (Int.tmod b 64)) (IntKind.bits IntKind.u64))))):Int),e2:=s0.e2,e3:=s0.e3 })))∧((decide (w64 (Int.tdiv b 64)=2))=true→((decide (w64 (Int.tdiv b 64)=2))=true→(0≤Int.tmod b 64))∧(res=({ e0:=s0.e0,e1:=s0.e1,e2:=IntKind.wrap IntKind.u64 (↑(BitVec.toNat (BitVec.ofInt (IntKind.bits IntKind.u64) s0.e2 ||| BitVec.ofInt (IntKind.bits IntKind.u64) (IntKind.wrap IntKind.u64 (1 * 2 ^ Min.min (Int.toNat (Int.tmod b 64)) (IntKind.bits IntKind.u64))))):Int),e3:=s0.e3 })))∧((decide (w64 (Int.tdiv b 64)=3))=true→((decide (w64 (Int.tdiv b 64)=3))=true→(0≤Int.tmod b 64))∧(res=({ e0:=s0.e0,e1:=s0.e1,e2:=s0.e2,e3:=IntKind.wrap IntKind.u64 (↑(BitVec.toNat (BitVec.ofInt (IntKind.bits IntKind.u64) s0.e3 ||| BitVec.ofInt (IntKind.bits IntKind.u64) (IntKind.wrap IntKind.u64 (1 * 2 ^ Min.min (Int.toNat (Int.tmod b 64)) (IntKind.bits IntKind.u64))))):Int) }))))):zbw s0 b res:=by
 unfold zbw;have kk:=cfOk [16] 17;refine fD (x:=bodyOf Tryz.f95) kk Tryz.func95 ?_;refine wkS [1,4] [(1,zD s0),(4,vi b)] (by kernel_rfl) ?_;refine sO oN [1] [(7,.ptr 14 0),(13,.ptr 26 0),(14,zD s0),(26,.agg [vI .u64 0,vI .u64 0,vI .u64 0,vI .u64 0])] ?_;obtain ⟨c,h⟩:=h;rcases c with a | a | a | a
 ·have a:=decide_eq_true a;have h:=h.1 a;obtain ⟨h1,h⟩:=h;refine sO (nd (show (64:Int)≠(0:Int) from by first | decide | rfl | trivial) (nd (show (64:Int)≠(0:Int) from by first | decide | rfl | trivial) (op (.n 0) (of_decide_eq_true a) (nd (show (64:Int)≠(0:Int) from by first | decide | rfl | trivial) (nd (h1 a) (op (.n 0) (of_decide_eq_true a) oN)))))) [4] [(14,.agg [vI .u64 (IntKind.wrap IntKind.u64 (↑(BitVec.toNat (BitVec.ofInt (IntKind.bits IntKind.u64) s0.e0 ||| BitVec.ofInt (IntKind.bits IntKind.u64) (IntKind.wrap IntKind.u64 (1 * 2 ^ Min.min (Int.toNat (Int.tmod b 64)) (IntKind.bits IntKind.u64))))):Int)),vI .u64 s0.e1,vI .u64 s0.e2,vI .u64 s0.e3])] ?_;refine sO oN [7,14] [(26,.agg [vI .u64 (IntKind.wrap IntKind.u64 (↑(BitVec.toNat (BitVec.ofInt (IntKind.bits IntKind.u64) s0.e0 ||| BitVec.ofInt (IntKind.bits IntKind.u64) (IntKind.wrap IntKind.u64 (1 * 2 ^ Min.min (Int.toNat (Int.tmod b 64)) (IntKind.bits IntKind.u64))))):Int)),vI .u64 s0.e1,vI .u64 s0.e2,vI .u64 s0.e3])] ?_;refine tD ?_;subst h;exact (endQ []).1
 ·have a:=decide_eq_true a;have h:=h.2.1 a;obtain ⟨h2,h⟩:=h;refine sO (nd (show (64:Int)≠(0:Int) from by first | decide | rfl | trivial) (nd (show (64:Int)≠(0:Int) from by first | decide | rfl | trivial) (op (.n 1) (of_decide_eq_true a) (nd (show (64:Int)≠(0:Int) from by first | decide | rfl | trivial) (nd (h2 a) (op (.n 1) (of_decide_eq_true a) oN)))))) [4] [(14,.agg [vI .u64 s0.e0,vI .u64 (IntKind.wrap IntKind.u64 (↑(BitVec.toNat (BitVec.ofInt (IntKind.bits IntKind.u64) s0.e1 ||| BitVec.ofInt (IntKind.bits IntKind.u64) (IntKind.wrap IntKind.u64 (1 * 2 ^ Min.min (Int.toNat (Int.tmod b 64)) (IntKind.bits IntKind.u64))))):Int)),vI .u64 s0.e2,vI .u64 s0.e3])] ?_;refine sO oN [7,14] [(26,.agg [vI .u64 s0.e0,vI .u64 (IntKind.wrap IntKind.u64 (↑(BitVec.toNat (BitVec.ofInt (IntKind.bits IntKind.u64) s0.e1 ||| BitVec.ofInt (IntKind.bits IntKind.u64) (IntKind.wrap IntKind.u64 (1 * 2 ^ Min.min (Int.toNat (Int.tmod b 64)) (IntKind.bits IntKind.u64))))):Int)),vI .u64 s0.e2,vI .u64 s0.e3])] ?_;refine tD ?_;subst h;exact (endQ []).1
 ·have a:=decide_eq_true a;have h:=h.2.2.1 a;obtain ⟨h3,h⟩:=h;refine sO (nd (show (64:Int)≠(0:Int) from by first | decide | rfl | trivial) (nd (show (64:Int)≠(0:Int) from by first | decide | rfl | trivial) (op (.n 2) (of_decide_eq_true a) (nd (show (64:Int)≠(0:Int) from by first | decide | rfl | trivial) (nd (h3 a) (op (.n 2) (of_decide_eq_true a) oN)))))) [4] [(14,.agg [vI .u64 s0.e0,vI .u64 s0.e1,vI .u64 (IntKind.wrap IntKind.u64 (↑(BitVec.toNat (BitVec.ofInt (IntKind.bits IntKind.u64) s0.e2 ||| BitVec.ofInt (IntKind.bits IntKind.u64) (IntKind.wrap IntKind.u64 (1 * 2 ^ Min.min (Int.toNat (Int.tmod b 64)) (IntKind.bits IntKind.u64))))):Int)),vI .u64 s0.e3])] ?_;refine sO oN [7,14] [(26,.agg [vI .u64 s0.e0,vI .u64 s0.e1,vI .u64 (IntKind.wrap IntKind.u64 (↑(BitVec.toNat (BitVec.ofInt (IntKind.bits IntKind.u64) s0.e2 ||| BitVec.ofInt (IntKind.bits IntKind.u64) (IntKind.wrap IntKind.u64 (1 * 2 ^ Min.min (Int.toNat (Int.tmod b 64)) (IntKind.bits IntKind.u64))))):Int)),vI .u64 s0.e3])] ?_;refine tD ?_;subst h;exact (endQ []).1
 ·have a:=decide_eq_true a;have h:=h.2.2.2 a;obtain ⟨h4,h⟩:=h;refine sO (nd (show (64:Int)≠(0:Int) from by first | decide | rfl | trivial) (nd (show (64:Int)≠(0:Int) from by first | decide | rfl | trivial) (op (.n 3) (of_decide_eq_true a) (nd (show (64:Int)≠(0:Int) from by first | decide | rfl | trivial) (nd (h4 a) (op (.n 3) (of_decide_eq_true a) oN)))))) [4] [(14,.agg [vI .u64 s0.e0,vI .u64 s0.e1,vI .u64 s0.e2,vI .u64 (IntKind.wrap IntKind.u64 (↑(BitVec.toNat (BitVec.ofInt (IntKind.bits IntKind.u64) s0.e3 ||| BitVec.ofInt (IntKind.bits IntKind.u64) (IntKind.wrap IntKind.u64 (1 * 2 ^ Min.min (Int.toNat (Int.tmod b 64)) (IntKind.bits IntKind.u64))))):Int))])] ?_;refine sO oN [7,14] [(26,.agg [vI .u64 s0.e0,vI .u64 s0.e1,vI .u64 s0.e2,vI .u64 (IntKind.wrap IntKind.u64 (↑(BitVec.toNat (BitVec.ofInt (IntKind.bits IntKind.u64) s0.e3 ||| BitVec.ofInt (IntKind.bits IntKind.u64) (IntKind.wrap IntKind.u64 (1 * 2 ^ Min.min (Int.toNat (Int.tmod b 64)) (IntKind.bits IntKind.u64))))):Int))])] ?_;refine tD ?_;subst h;exact (endQ []).1
theorem zg1 (m:Int) (s:Int) (res:zc)
 (h:(∃ (n:Int→Int→Int→Int→Int→Prop) (p:Int→Int→Int→Int→Int→Nat),n 0 0 0 0 0∧(∀ (a:Int) (d:Int) (c:Int) (e:Int) (b:Int),n a d c e b→(ck (decide (b < 256)) (∃ r:Int→Int→Int→Int→Prop,(∀ (f:Int) (k:Int) (j:Int) (g:Int),r f k j g→(n f k j g (w64 (b+1))∧p f k j g (w64 (b+1)) < p a d c e b))∧(ck (decide (b≥m) && decide (b≤s)) (∃ l:zc,zbw ({ e0:=a,e1:=d,e2:=c,e3:=e }) b l∧r l.e0 l.e1 l.e2 l.e3) (r a d c e))) (res=({ e0:=a,e1:=d,e2:=c,e3:=e })))))):za5 m s res:=by
 unfold za5;have kk:=cfOk [22] 23;refine fD (x:=bodyOf Tryz.f59) kk Tryz.func59 ?_;refine wkS [1,4] [(1,vi m),(4,vi s)] (by kernel_rfl) ?_;refine sO oN [] [(13,.ptr 26 0),(26,.agg [vI .u64 0,vI .u64 0,vI .u64 0,vI .u64 0])] ?_;refine sO oN [] [(16,.ptr 32 0),(32,.agg [vI .u64 0,vI .u64 0,vI .u64 0,vI .u64 0])] ?_;refine qD ?_;refine sO oN [] [(19,vi 0)] ?_;refine bD (id:=0) ?_;obtain ⟨n,p,t,u⟩:=h;refine loE [] (u5 fun a d c e b=>[(19,vi b),(32,.agg [vI .u64 a,vI .u64 d,vI .u64 c,vI .u64 e])]) (u5 n) (u5 p) (0,0,0,0,0) [] t ?_;rintro ⟨a,d,c,e,b⟩ hi;have h:=u a d c e b hi;refine qD ?_;refine sO oN [] [(25,vB (decide (b < 256)))] ?_;refine cH 8 h (fun y h=>?_) (fun y h=>?_)
 ·refine kD ?_;show Sem _ _ _ _ _;refine wkD [25] ?_;obtain ⟨r,w,h⟩:=h;refine sjE (u4 r) [] (u4 fun f k j g=>[(32,.agg [vI .u64 f,vI .u64 k,vI .u64 j,vI .u64 g])]) ?_ ?_
  ·rintro ⟨f,k,j,g⟩ hj;have h:=w f k j g hj;refine rO oN [] [(19,vi (w64 (b+1)))] ?_;exact lD (f,k,j,g,(w64 (b+1))) [] h
  ·refine bD (id:=1) ?_;refine sM [] [(55,vB (decide (b≥m) && decide (b≤s)))] ?_ (fun A=>?_)
   ·refine cH 18 h (fun B h=>?_) (fun B h=>?_)
    ·obtain ⟨l,v,h⟩:=h;refine rO (ca v oN) [55] [(32,zD l)] ?_;exact jD (l.e0,l.e1,l.e2,l.e3) [] h
    ·refine kD ?_;exact jD (a,d,c,e) [] h
   ·rcases eft (decide (b≥m)) with o | o
    ·refine sO (g1 o 1113 oN) [] [(55,vB (decide (b≤s)))] ?_;exact Sem.cast (by try rw [o];kernel_rfl) A
    ·refine sO (g1 o 1113 oN) [] [(55,vB false)] ?_;exact Sem.cast (by try rw [o];kernel_rfl) A
 ·refine xD (i:=0) ?_;show Sem _ _ _ _ _;refine wkD [1,4,19,25] ?_;refine sO oN [16,32] [(26,.agg [vI .u64 a,vI .u64 d,vI .u64 c,vI .u64 e])] ?_;refine tD ?_;subst h;exact (endQ []).1
theorem zgt (a:zc) (res:zc)
 (h:(∃ (m:Int→Int→Int→Int→Int→Prop) (o:Int→Int→Int→Int→Int→Nat),m 0 0 0 0 0∧(∀ (b:Int) (d:Int) (c:Int) (e:Int) (i:Int),m b d c e i→(ck (decide (i < 256)) (∃ p:Int→Int→Int→Int→Prop,(∀ (g:Int) (l:Int) (k:Int) (j:Int),p g l k j→(m g l k j (w64 (i+1))∧o g l k j (w64 (i+1)) < o b d c e i))∧(∃ n:Bool,zbx a i n∧(ck (!n) (∃ f:zc,zbw ({ e0:=b,e1:=d,e2:=c,e3:=e }) i f∧p f.e0 f.e1 f.e2 f.e3) (p b d c e)))) (res=({ e0:=b,e1:=d,e2:=c,e3:=e })))))):zb3 a res:=by
 unfold zb3;have kk:=cfOk [16] 17;refine fD (x:=bodyOf Tryz.f97) kk Tryz.func97 ?_;refine wkS [1] [(1,zD a)] (by kernel_rfl) ?_;refine sO oN [1] [(4,.ptr 8 0),(7,.ptr 14 0),(8,zD a),(14,.agg [vI .u64 0,vI .u64 0,vI .u64 0,vI .u64 0])] ?_;refine sO oN [] [(10,.ptr 20 0),(20,.agg [vI .u64 0,vI .u64 0,vI .u64 0,vI .u64 0])] ?_;refine qD ?_;refine sO oN [] [(13,vi 0)] ?_;refine bD (id:=0) ?_;obtain ⟨m,o,r,s⟩:=h;refine loE [] (u5 fun b d c e i=>[(13,vi i),(20,.agg [vI .u64 b,vI .u64 d,vI .u64 c,vI .u64 e])]) (u5 m) (u5 o) (0,0,0,0,0) [] r ?_;rintro ⟨b,d,c,e,i⟩ hi;have h:=s b d c e i hi;refine qD ?_;refine sO oN [] [(19,vB (decide (i < 256)))] ?_;refine cH 6 h (fun v h=>?_) (fun v h=>?_)
 ·refine kD ?_;show Sem _ _ _ _ _;refine wkD [19] ?_;obtain ⟨p,u,h⟩:=h;refine sjE (u4 p) [] (u4 fun g l k j=>[(20,.agg [vI .u64 g,vI .u64 l,vI .u64 k,vI .u64 j])]) ?_ ?_
  ·rintro ⟨g,l,k,j⟩ hj;have h:=u g l k j hj;refine rO oN [] [(13,vi (w64 (i+1)))] ?_;exact lD (g,l,k,j,(w64 (i+1))) [] h
  ·refine bD (id:=1) ?_;obtain ⟨n,w,h⟩:=h;refine sO (ca w oN) [] [(37,vB (!n))] ?_;refine cH 12 h (fun y h=>?_) (fun y h=>?_)
   ·obtain ⟨f,t,h⟩:=h;refine rO (ca t oN) [37] [(20,zD f)] ?_;exact jD (f.e0,f.e1,f.e2,f.e3) [] h
   ·refine kD ?_;exact jD (b,d,c,e) [] h
 ·refine xD (i:=0) ?_;show Sem _ _ _ _ _;refine wkD [4,8,13,19] ?_;refine sO oN [10,20] [(14,.agg [vI .u64 b,vI .u64 d,vI .u64 c,vI .u64 e])] ?_;refine tD ?_;subst h;exact (endQ []).1
theorem zfY (b:Int) (res:zi)
 (h:(∃ r0:zc,za5 b b r0∧(res=({ Kind:=2,Set:=r0,Lo:=0,Hi:=0,Kids:=[] })))):za3 b res:=by
 unfold za3;have kk:=cfOk [] 7;refine fD (x:=bodyOf Tryz.f27) kk Tryz.func27 ?_;refine wkS [1] [(1,vi b)] (by kernel_rfl) ?_;refine sO oN [] [(7,.ptr 14 0),(14,.agg [vi 0,vI .u64 0,vI .u64 0,vI .u64 0,vI .u64 0,vi 0,vi 0,oL 28 zf ([])])] ?_;obtain ⟨r0,a,h⟩:=h;refine sO (ca a oN) [1] [(14,.agg [vi 2,vI .u64 r0.e0,vI .u64 r0.e1,vI .u64 r0.e2,vI .u64 r0.e3,vi 0,vi 0,oL 28 zf ([])])] ?_;refine tD ?_;subst h;exact (endQ []).1
theorem zaE (m:zg) (res:zi) (fin:zg)
 (h:(∃ r0:Int,∃ o:zg,zl 8 m r0 o∧(ck (r0 == 0) (res=({ Kind:=1,Set:={ e0:=0,e1:=0,e2:=0,e3:=0 },Lo:=0,Hi:=0,Kids:=[] })∧fin=o) (ck (r0 == 1) (∃ c:zc,za5 (97) (99) c∧(res=({ Kind:=2,Set:=c,Lo:=0,Hi:=0,Kids:=[] })∧fin=o)) (ck (r0 == 2) (∃ g:zc,za5 (97) (97) g∧(∃ b:zc,zb3 g b∧(res=({ Kind:=2,Set:=b,Lo:=0,Hi:=0,Kids:=[] })∧fin=o))) (ck (r0 == 3) (∃ a:Int,∃ k:zg,zl (6) o a k∧(0≤a)∧(Int.toNat a < 6)∧a < ↑(List.length ([10,45,90,0,255,48]))∧(∃ d:zi,za3 (gd [10,45,90,0,255,48] a) d∧(res=d∧fin=k))) (∃ f:Int,∃ i:zg,zl 3 o f i∧(∃ e:zi,za3 (w64 (97+f)) e∧(res=e∧fin=i))))))))):za4 m res fin:=by
 unfold za4;have kk:=cfOk [] 29;refine fD (x:=bodyOf Tryz.f62) kk Tryz.func62 ?_;refine wkS [1,3] [(1,.ptr 3 0),(3,zk m)] (by kernel_rfl) ?_;refine sO oN [] [(7,.ptr 14 0),(14,.agg [vi 0,vI .u64 0,vI .u64 0,vI .u64 0,vI .u64 0,vi 0,vi 0,oL 28 zf ([])])] ?_;refine qD ?_;obtain ⟨r0,o,D,h⟩:=h;refine sO (ca D oN) [] [(3,zk o),(13,vi r0)] ?_;refine bD (id:=0) ?_;refine sO oN [] [(16,vB (r0 == 0))] ?_;refine cH 5 h (fun u h=>?_) (fun u h=>?_)
 ·refine sO oN [1,13,16] [(14,.agg [vi 1,vI .u64 0,vI .u64 0,vI .u64 0,vI .u64 0,vi 0,vi 0,oL 28 zf ([])])] ?_;refine tD ?_;obtain ⟨l,j⟩:=h;subst res fin;exact (endQ []).1
 ·refine sO oN [16] [(25,vB (r0 == 1))] ?_;refine cH 8 h (fun w h=>?_) (fun w h=>?_)
  ·obtain ⟨c,F,h⟩:=h;refine sO (ca F oN) [1,13,25] [(14,.agg [vi 2,vI .u64 c.e0,vI .u64 c.e1,vI .u64 c.e2,vI .u64 c.e3,vi 0,vi 0,oL 28 zf ([])])] ?_;refine tD ?_;obtain ⟨l,j⟩:=h;subst res fin;exact (endQ []).1
  ·refine sO oN [25] [(37,vB (r0 == 2))] ?_;refine cH 12 h (fun s h=>?_) (fun s h=>?_)
   ·obtain ⟨g,v,h⟩:=h;obtain ⟨b,A,h⟩:=h;refine sO (ca v (ca A oN)) [1,13,37] [(14,.agg [vi 2,vI .u64 b.e0,vI .u64 b.e1,vI .u64 b.e2,vI .u64 b.e3,vi 0,vi 0,oL 28 zf ([])])] ?_;refine tD ?_;obtain ⟨l,j⟩:=h;subst res fin;exact (endQ []).1
   ·refine sO oN [13,37] [(52,vB (r0 == 3))] ?_;refine cH 17 h (fun E h=>?_) (fun E h=>?_)
    ·obtain ⟨a,k,t,h⟩:=h;obtain ⟨h9,h⟩:=h;obtain ⟨y,h⟩:=h;obtain ⟨B,h⟩:=h;obtain ⟨d,r,h⟩:=h;refine sO (ca t (nd h9 (nd y (el (show ([FV.pv (Value.int IntKind.i64 (10)),FV.pv (Value.int IntKind.i64 (45:Int)),FV.pv (Value.int IntKind.i64 (90:Int)),FV.pv (Value.int IntKind.i64 (0)),FV.pv (Value.int IntKind.i64 (255:Int)),FV.pv (Value.int IntKind.i64 (48:Int))])[((0:Nat)+Int.toNat a:Nat)]?=some (fi (gd [(10:Int),(45:Int),(90:Int),(0:Int),(255:Int),(48:Int)] a)) from by have:=zcs za ([(10:Int),(45:Int),(90:Int),(0:Int),(255:Int),(48:Int)]) a _ rfl h9 B;simpa only [nm,enq,za] using this) (ca r oN))))) [1,52] [(3,zk k),(14,zbt d)] ?_;refine tD ?_;obtain ⟨l,j⟩:=h;subst res fin;exact (endQ []).1
    ·refine kD ?_;show Sem _ _ _ _ _;refine wkD [52] ?_;obtain ⟨f,i,p,h⟩:=h;obtain ⟨e,n,h⟩:=h;refine sO (ca p (ca n oN)) [1] [(3,zk i),(14,zbt e)] ?_;refine tD ?_;obtain ⟨l,j⟩:=h;subst res fin;exact (endQ []).1
theorem zeH (kind:Int) (l:(List zi)) (res:zi)
 (h:(∃ (c:List zi→Int→Prop) (d:List zi→Int→Nat),c ([]) 0∧(∀ (a:List zi) (i:Int),c a i→(ck (decide (i < (↑(List.length l):Int))) (∃ e:List zi→Prop,(∀ (b:List zi),e b→(c b (w64 (i+1))∧d b (w64 (i+1)) < d a i))∧(0≤i)∧i < ↑(List.length l)∧(ck ((gd l i).Kind == kind) ((0≤i)∧i < ↑(List.length l)∧((List.length a+List.length (gd l i).Kids) * 80≤2 ^ 47)∧e (a++(gd l i).Kids)) ((0≤i)∧i < ↑(List.length l)∧((List.length a+1) * 80≤2 ^ 47)∧e (a++[gd l i])))) (res=({ Kind:=kind,Set:={ e0:=0,e1:=0,e2:=0,e3:=0 },Lo:=0,Hi:=0,Kids:=a })))))):zae kind l res:=by
 unfold zae;have kk:=cfOk [40] 41;refine fD (x:=bodyOf Tryz.f63) kk Tryz.func63 ?_;refine wkS [1,4] [(1,vi kind),(4,vL zf l)] (by kernel_rfl) ?_;refine sO oN [] [(13,.ptr 26 0),(26,.agg [vi 0,vI .u64 0,vI .u64 0,vI .u64 0,vI .u64 0,vi 0,vi 0,oL 28 zf ([])])] ?_;refine sO oN [] [(16,.ptr 32 0),(32,.agg [vi kind,vI .u64 0,vI .u64 0,vI .u64 0,vI .u64 0,vi 0,vi 0,oL 28 zf ([])])] ?_;refine qD ?_;refine sO oN [] [(19,vi 0)] ?_;refine bD (id:=0) ?_;obtain ⟨c,d,f,g⟩:=h;refine loE [] (u2 fun a i=>[(19,vi i),(32,.agg [vi kind,vI .u64 0,vI .u64 0,vI .u64 0,vI .u64 0,vi 0,vi 0,oL 28 zf a])]) (u2 c) (u2 d) (([]),0) [] f ?_;rintro ⟨a,i⟩ hi;have h:=g a i hi;refine qD ?_;refine sV oN [] (List.length (List.map zf l)) (List.length l) (fun q=>[(37,vB (decide (i < (↑(q):Int))))]) ?_;refine cH 12 h (fun m h=>?_) (fun m h=>?_)
 ·refine kD ?_;show Sem _ _ _ _ _;refine wkD [37] ?_;obtain ⟨e,k,h⟩:=h;refine sjE e [] (fun b=>[(32,.agg [vi kind,vI .u64 0,vI .u64 0,vI .u64 0,vI .u64 0,vi 0,vi 0,oL 28 zf b])]) ?_ ?_
  ·rintro b hj;have h:=k b hj;refine rO oN [] [(19,vi (w64 (i+1)))] ?_;exact lD (b,(w64 (i+1))) [] h
  ·refine bD (id:=1) ?_;obtain ⟨n,h⟩:=h;obtain ⟨r,h⟩:=h;refine sO (xo zf (zL _) n r oN) [] [(64,vB ((gd l i).Kind == kind))] ?_;refine cH 21 h (fun j h=>?_) (fun j h=>?_)
   ·obtain ⟨p,h⟩:=h;obtain ⟨u,h⟩:=h;obtain ⟨o,h⟩:=h;refine rV (xo zf (zL _) p u (nd (show (0:Nat)=(0:Nat)∧List.length (List.map zf a)=List.length (List.map zf a) from ⟨rfl,rfl⟩) (nd (show (List.length (List.map zf a)+List.length (List.map zf (gd l i).Kids)) * (80:Nat)≤(2:Nat) ^ (47:Nat) from by simpa only [nm] using o) (nd (show List.all (List.map zf (gd l i).Kids) (FV.fits (8:Nat))=true from by first | exact fits_api_Rx _ | exact keysenc_api_Rx _ | rfl | simp [isByteF,FV.fits,FV.size,FV.cells,FV.one,zL]) oN)))) [64] (show AV from .own 28 (List.map zf a++List.map zf (gd l i).Kids)) (oL 28 zf (a++(gd l i).Kids)) (fun q=>[(32,.agg [vi kind,vI .u64 0,vI .u64 0,vI .u64 0,vI .u64 0,vi 0,vi 0,q])]) ?_;exact jD (a++(gd l i).Kids) [] h
   ·obtain ⟨t,h⟩:=h;obtain ⟨s,h⟩:=h;obtain ⟨v,h⟩:=h;refine rV (xo zf (zL _) t s (apo zf a v oN)) [64] (show AV from .own 28 (List.map zf a++[FV.agg [FV.pv (Value.int IntKind.i64 (gd l i).Kind),FV.pv (Value.int IntKind.u64 (zc.e0 (gd l i).Set)),FV.pv (Value.int IntKind.u64 (zc.e1 (gd l i).Set)),FV.pv (Value.int IntKind.u64 (zc.e2 (gd l i).Set)),FV.pv (Value.int IntKind.u64 (zc.e3 (gd l i).Set)),FV.pv (Value.int IntKind.i64 (gd l i).Lo),FV.pv (Value.int IntKind.i64 (gd l i).Hi),FV.sl (List.map zf (gd l i).Kids)]])) (oL 28 zf (a++[gd l i])) (fun q=>[(32,.agg [vi kind,vI .u64 0,vI .u64 0,vI .u64 0,vI .u64 0,vi 0,vi 0,q])]) ?_;exact jD (a++[gd l i]) [] h
 ·refine xD (i:=0) ?_;show Sem _ _ _ _ _;refine wkD [1,4,19,37] ?_;refine sO (nd (show (0:Nat)=(0:Nat)∧List.length (List.map zf a)=List.length (List.map zf a) from ⟨rfl,rfl⟩) oN) [16,32] [(26,.agg [vi kind,vI .u64 0,vI .u64 0,vI .u64 0,vI .u64 0,vi 0,vi 0,oL 28 zf a])] ?_;refine tD ?_;subst h;exact (endQ []).1
theorem zbj (g:Int) (m:zg) (res:zi) (fin:zg)
 (h:(∃ r0:Int,∃ o:zg,zl 8 m r0 o∧(ck (decide (g < 1) || (decide (r0 < 2) || decide (o.At≥(↑(List.length o.L):Int)))) (∃ v:zi,∃ F:zg,za4 o v F∧(res=v∧fin=F)) (ck (decide (r0 < 5)) (∃ d:zi,∃ H:zg,zQ (w64 (g - 1)) o d H∧(∃ a:zi,∃ B:zg,zQ (w64 (g - 1)) H a B∧(∃ p:zi,zae 3 ([d,a]) p∧(res=p∧fin=B)))) (ck (r0 == 5) (∃ c:zi,∃ N:zg,zQ (w64 (g - 1)) o c N∧(∃ b:zi,∃ D:zg,zQ (w64 (g - 1)) N b D∧(∃ s:zi,zae 4 ([c,b]) s∧(res=s∧fin=D)))) (∃ f:Int,∃ E:zg,zl 3 o f E∧(∃ y:List Int→Int→Int→Prop,(∀ (r:List Int) (i:Int) (k:Int),y r i k→(∃ e:zi,∃ A:zg,zQ (w64 (g - 2)) ({ L:=r,At:=i }) e A∧(res=({ Kind:=5,Set:={ e0:=0,e1:=0,e2:=0,e3:=0 },Lo:=f,Hi:=k,Kids:=[e] })∧fin=A)))∧(∃ t:Int,∃ l:zg,zl 2 E t l∧(ck (t == 1) (∃ j:Int,∃ n:zg,zl 2 l j n∧y n.L n.At (w64 ((if f > 1 then f else 1)+j))) (y l.L l.At (-1))))))))))):zQ g m res fin:=by
 unfold zQ;have kk:=cfOk [74] 75;refine fD (x:=bodyOf Tryz.f25) kk Tryz.func25 ?_;refine wkS [1,3,4] [(1,.ptr 3 0),(3,zk m),(4,vi g)] (by kernel_rfl) ?_;refine sO oN [] [(13,.ptr 26 0),(26,.agg [vi 0,vI .u64 0,vI .u64 0,vI .u64 0,vI .u64 0,vi 0,vi 0,oL 28 zf ([])])] ?_;obtain ⟨r0,o,a6,h⟩:=h;refine sO (ca a6 oN) [] [(3,zk o),(16,vi r0)] ?_;refine qD ?_;refine sM [] [(79,vB (decide (g < 1) || (decide (r0 < 2) || decide (o.At≥(↑(List.length o.L):Int)))))] ?_ (fun J=>?_)
 ·refine cH 26 h (fun a7 h=>?_) (fun a7 h=>?_)
  ·obtain ⟨v,F,a1,h⟩:=h;refine sO (ca a1 oN) [1,4,16,79] [(3,zk F),(26,zbt v)] ?_;refine tD ?_;obtain ⟨M,I⟩:=h;subst res fin;exact (endQ []).1
  ·refine kD ?_;show Sem _ _ _ _ _;refine wkD [79] ?_;refine qD ?_;refine bD (id:=0) ?_;refine sO oN [] [(88,vB (decide (r0 < 5)))] ?_;refine cH 29 h (fun a0 h=>?_) (fun a0 h=>?_)
   ·obtain ⟨d,H,a3,h⟩:=h;obtain ⟨a,B,a4,h⟩:=h;obtain ⟨p,a2,h⟩:=h;refine sO (ca a3 (ca a4 (ca (Eq.mp (by unfold zae;(try simp only [List.drop_zero,List.take_length]);first | done | simp only [nm,enq]:zae 3 ([d,a]) p=CallE Tryz.prog 63 [vi 3,.f (FV.sl (List.take (List.length [FV.agg [FV.pv (Value.int IntKind.i64 d.Kind),FV.pv (Value.int IntKind.u64 (zc.e0 d.Set)),FV.pv (Value.int IntKind.u64 (zc.e1 d.Set)),FV.pv (Value.int IntKind.u64 (zc.e2 d.Set)),FV.pv (Value.int IntKind.u64 (zc.e3 d.Set)),FV.pv (Value.int IntKind.i64 d.Lo),FV.pv (Value.int IntKind.i64 d.Hi),FV.sl (List.take (List.length (List.map zf d.Kids)) (List.drop 0 (List.map zf d.Kids)))],FV.agg [FV.pv (Value.int IntKind.i64 a.Kind),FV.pv (Value.int IntKind.u64 (zc.e0 a.Set)),FV.pv (Value.int IntKind.u64 (zc.e1 a.Set)),FV.pv (Value.int IntKind.u64 (zc.e2 a.Set)),FV.pv (Value.int IntKind.u64 (zc.e3 a.Set)),FV.pv (Value.int IntKind.i64 a.Lo),FV.pv (Value.int IntKind.i64 a.Hi),FV.sl (List.take (List.length (List.map zf a.Kids)) (List.drop 0 (List.map zf a.Kids)))]]) (List.drop 0 [FV.agg [FV.pv (Value.int IntKind.i64 d.Kind),FV.pv (Value.int IntKind.u64 (zc.e0 d.Set)),FV.pv (Value.int IntKind.u64 (zc.e1 d.Set)),FV.pv (Value.int IntKind.u64 (zc.e2 d.Set)),FV.pv (Value.int IntKind.u64 (zc.e3 d.Set)),FV.pv (Value.int IntKind.i64 d.Lo),FV.pv (Value.int IntKind.i64 d.Hi),FV.sl (List.take (List.length (List.map zf d.Kids)) (List.drop 0 (List.map zf d.Kids)))],FV.agg [FV.pv (Value.int IntKind.i64 a.Kind),FV.pv (Value.int IntKind.u64 (zc.e0 a.Set)),FV.pv (Value.int IntKind.u64 (zc.e1 a.Set)),FV.pv (Value.int IntKind.u64 (zc.e2 a.Set)),FV.pv (Value.int IntKind.u64 (zc.e3 a.Set)),FV.pv (Value.int IntKind.i64 a.Lo),FV.pv (Value.int IntKind.i64 a.Hi),FV.sl (List.take (List.length (List.map zf a.Kids)) (List.drop 0 (List.map zf a.Kids)))]])))] [] (zbt p) []) a2) oN))) [1,4,16,88] [(3,zk B),(26,zbt p)] ?_;refine tD ?_;obtain ⟨M,I⟩:=h;subst res fin;exact (endQ []).1
   ·refine sO oN [16,88] [(127,vB (r0 == 5))] ?_;refine cH 42 h (fun a5 h=>?_) (fun a5 h=>?_)
    ·obtain ⟨c,N,W,h⟩:=h;obtain ⟨b,D,O,h⟩:=h;obtain ⟨s,Y,h⟩:=h;refine sO (ca W (ca O (ca (Eq.mp (by unfold zae;(try simp only [List.drop_zero,List.take_length]);first | done | simp only [nm,enq]:zae 4 ([c,b]) s=CallE Tryz.prog 63 [vi 4,.f (FV.sl (List.take (List.length [FV.agg [FV.pv (Value.int IntKind.i64 c.Kind),FV.pv (Value.int IntKind.u64 (zc.e0 c.Set)),FV.pv (Value.int IntKind.u64 (zc.e1 c.Set)),FV.pv (Value.int IntKind.u64 (zc.e2 c.Set)),FV.pv (Value.int IntKind.u64 (zc.e3 c.Set)),FV.pv (Value.int IntKind.i64 c.Lo),FV.pv (Value.int IntKind.i64 c.Hi),FV.sl (List.take (List.length (List.map zf c.Kids)) (List.drop 0 (List.map zf c.Kids)))],FV.agg [FV.pv (Value.int IntKind.i64 b.Kind),FV.pv (Value.int IntKind.u64 (zc.e0 b.Set)),FV.pv (Value.int IntKind.u64 (zc.e1 b.Set)),FV.pv (Value.int IntKind.u64 (zc.e2 b.Set)),FV.pv (Value.int IntKind.u64 (zc.e3 b.Set)),FV.pv (Value.int IntKind.i64 b.Lo),FV.pv (Value.int IntKind.i64 b.Hi),FV.sl (List.take (List.length (List.map zf b.Kids)) (List.drop 0 (List.map zf b.Kids)))]]) (List.drop 0 [FV.agg [FV.pv (Value.int IntKind.i64 c.Kind),FV.pv (Value.int IntKind.u64 (zc.e0 c.Set)),FV.pv (Value.int IntKind.u64 (zc.e1 c.Set)),FV.pv (Value.int IntKind.u64 (zc.e2 c.Set)),FV.pv (Value.int IntKind.u64 (zc.e3 c.Set)),FV.pv (Value.int IntKind.i64 c.Lo),FV.pv (Value.int IntKind.i64 c.Hi),FV.sl (List.take (List.length (List.map zf c.Kids)) (List.drop 0 (List.map zf c.Kids)))],FV.agg [FV.pv (Value.int IntKind.i64 b.Kind),FV.pv (Value.int IntKind.u64 (zc.e0 b.Set)),FV.pv (Value.int IntKind.u64 (zc.e1 b.Set)),FV.pv (Value.int IntKind.u64 (zc.e2 b.Set)),FV.pv (Value.int IntKind.u64 (zc.e3 b.Set)),FV.pv (Value.int IntKind.i64 b.Lo),FV.pv (Value.int IntKind.i64 b.Hi),FV.sl (List.take (List.length (List.map zf b.Kids)) (List.drop 0 (List.map zf b.Kids)))]])))] [] (zbt s) []) Y) oN))) [1,4,127] [(3,zk D),(26,zbt s)] ?_;refine tD ?_;obtain ⟨M,I⟩:=h;subst res fin;exact (endQ []).1
    ·refine kD ?_;show Sem _ _ _ _ _;refine wkD [127] ?_;obtain ⟨f,E,X,h⟩:=h;refine sO (ca X oN) [] [(3,zk E),(19,.ptr 38 0),(38,.agg [vi 5,vI .u64 0,vI .u64 0,vI .u64 0,vI .u64 0,vi f,vi (-1),oL 28 zf ([])])] ?_;obtain ⟨y,Q,h⟩:=h;refine sjE (u3 y) [] (u3 fun r i k=>[(3,.agg [vL zal r,vi i]),(38,.agg [vi 5,vI .u64 0,vI .u64 0,vI .u64 0,vI .u64 0,vi f,vi k,oL 28 zf ([])])]) ?_ ?_
     ·rintro ⟨r,i,k⟩ hj;have h:=Q r i k hj;obtain ⟨e,A,S,h⟩:=h;refine sV (ca S oN) [1,4] (show AV from .own 28 ([FV.agg [FV.pv (Value.int IntKind.i64 e.Kind),FV.pv (Value.int IntKind.u64 (zc.e0 e.Set)),FV.pv (Value.int IntKind.u64 (zc.e1 e.Set)),FV.pv (Value.int IntKind.u64 (zc.e2 e.Set)),FV.pv (Value.int IntKind.u64 (zc.e3 e.Set)),FV.pv (Value.int IntKind.i64 e.Lo),FV.pv (Value.int IntKind.i64 e.Hi),FV.sl (List.take (List.length (List.map zf e.Kids)) (List.drop (0:Nat) (List.map zf e.Kids)))]])) (oL 28 zf ([e])) (fun q=>[(3,zk A),(38,.agg [vi 5,vI .u64 0,vI .u64 0,vI .u64 0,vI .u64 0,vi f,vi k,q])]) ?_;refine sO (nd (show (0:Nat)=(0:Nat)∧(1:Nat)=List.length (List.map zf [e]) from by first | decide | rfl | trivial | (simp only [nm]<;>first | decide | rfl | omega)) oN) [19,38] [(26,.agg [vi 5,vI .u64 0,vI .u64 0,vI .u64 0,vI .u64 0,vi f,vi k,oL 28 zf ([e])])] ?_;refine tD ?_;obtain ⟨M,I⟩:=h;subst res fin;exact (endQ []).1
     ·obtain ⟨t,l,R,h⟩:=h;refine sO (ca R oN) [] [(3,zk l),(181,vB (t == 1))] ?_;refine cH 60 h (fun V h=>?_) (fun V h=>?_)
      ·obtain ⟨j,n,U,h⟩:=h;refine rV (ca U oN) [181] (vi (w64 ((if true=true then if f > 1 then f else 1 else if f < 1 then f else 1)+j))) (vi (w64 ((if f > 1 then f else 1)+j))) (fun q=>[(3,zk n),(38,.agg [vi 5,vI .u64 0,vI .u64 0,vI .u64 0,vI .u64 0,vi f,q,oL 28 zf ([])])]) ?_;exact jD (n.L,n.At,(w64 ((if f > 1 then f else 1)+j))) [] h
      ·refine kD ?_;exact jD (l.L,l.At,(-1)) [] h
 ·rcases eft (decide (g < 1)) with u | u
  ·refine sO (g1 u 22388888888887 oN) [] [(79,vB true)] ?_;exact Sem.cast (by try rw [u];kernel_rfl) J
  ·rcases eft (decide (r0 < 2)) with w | w
   ·refine sO (g2 w u 55622222222223 oN) [] [(79,vB true)] ?_;exact Sem.cast (by try rw [u];try rw [w];kernel_rfl) J
   ·refine sV (g2 w u 55622222222223 oN) [] (List.length (List.map zal o.L)) (List.length o.L) (fun q=>[(79,vB (decide (o.At≥(↑(q):Int))))]) ?_;exact Sem.cast (by try rw [u];try rw [w];kernel_rfl) J
theorem zc5 (m:zg) (res:zi) (fin:zg)
 (h:(∃ r0:zi,∃ o:zg,zQ 2 m r0 o∧(∃ b:Int,zav r0 b∧(ck (decide (b > 12)) (∃ a:zc,za5 (98) (98) a∧(res=({ Kind:=2,Set:=a,Lo:=0,Hi:=0,Kids:=[] })∧fin=o)) (res=r0∧fin=o))))):zaU m res fin:=by
 unfold zaU;have kk:=cfOk [11] 12;refine fD (x:=bodyOf Tryz.f89) kk Tryz.func89 ?_;refine wkS [1,3] [(1,.ptr 3 0),(3,zk m)] (by kernel_rfl) ?_;refine sO oN [] [(7,.ptr 14 0),(14,.agg [vi 0,vI .u64 0,vI .u64 0,vI .u64 0,vI .u64 0,vi 0,vi 0,oL 28 zf ([])])] ?_;obtain ⟨r0,o,d,h⟩:=h;refine sO (ca d oN) [1] [(3,zk o),(10,.ptr 20 0),(20,zbt r0)] ?_;refine qD ?_;obtain ⟨b,c,h⟩:=h;refine sO (ca (Eq.mp (by unfold zav;(try simp only [List.drop_zero,List.take_length]);first | done | simp only [nm,enq]:zav r0 b=CallE Tryz.prog 26 [.agg [vi r0.Kind,vI .u64 (zc.e0 r0.Set),vI .u64 (zc.e1 r0.Set),vI .u64 (zc.e2 r0.Set),vI .u64 (zc.e3 r0.Set),vi r0.Lo,vi r0.Hi,.f (FV.sl (List.take (List.length (List.map zf r0.Kids)) (List.drop 0 (List.map zf r0.Kids))))]] [] (vi b) []) c) oN) [] [(20,zy r0),(25,vB (decide (b > 12)))] ?_;refine cH 8 h (fun i h=>?_) (fun i h=>?_)
 ·obtain ⟨a,e,h⟩:=h;refine sO (ca e oN) [10,20,25] [(14,.agg [vi 2,vI .u64 a.e0,vI .u64 a.e1,vI .u64 a.e2,vI .u64 a.e3,vi 0,vi 0,oL 28 zf ([])])] ?_;refine tD ?_;obtain ⟨f,g⟩:=h;subst res fin;exact (endQ [(14,7)]).1
 ·refine kD ?_;show Sem _ _ _ _ _;refine wkD [25] ?_;refine sO oN [10,20] [(14,zy r0)] ?_;refine tD ?_;obtain ⟨f,g⟩:=h;subst res fin;exact (endQ []).1
end Go.Ev
namespace Go.Ev
open Go Go.Proofs
set_option maxRecDepth 8000
set_option maxHeartbeats 1000000
theorem zdg (S:Int) (a1:Bool) (m:zg) (res:zt) (fin:zg)
 (h:(∃ r0:Int,∃ o:zg,zl 3 m r0 o∧(∃ J3:List Int→Int→Int→Prop,(∀ (Y:List Int) (O:Int) (v:Int),J3 Y O v→(∃ a7:List Int→Int→List Int→Bool→Prop,(∀ (I:List Int) (B:Int) (b:List Int) (t:Bool),a7 I B b t→(∃ a4:Int,∃ b0:zg,zl (12) ({ L:=I,At:=B }) a4 b0∧(ck (a4 == 11) (res=({ Conds:=b,All:=t,Bol:=false,Rx:={ Kind:=0,Set:={ e0:=0,e1:=0,e2:=0,e3:=0 },Lo:=0,Hi:=0,Kids:=[] },Trail:={ Kind:=0,Set:={ e0:=0,e1:=0,e2:=0,e3:=0 },Lo:=0,Hi:=0,Kids:=[] },Eof:=true,Act:=w64 (1+r0),To:=v })∧fin=b0) (∃ a:zi,∃ Q:zg,zaU b0 a Q∧(∃ a6:List Int→Int→Bool→Int→Int→Int→Int→Int→Int→Int→List zi→Prop,(∀ (H:List Int) (D:Int) (M:Bool) (l:Int) (f:Int) (g:Int) (j:Int) (e:Int) (p:Int) (r:Int) (k:List zi),a6 H D M l f g j e p r k→(res=({ Conds:=b,All:=t,Bol:=M,Rx:=a,Trail:={ Kind:=l,Set:={ e0:=f,e1:=g,e2:=j,e3:=e },Lo:=p,Hi:=r,Kids:=k },Eof:=false,Act:=w64 (1+r0),To:=v })∧fin=({ L:=H,At:=D })))∧(ck (!a1) (∃ E:Int,∃ a5:zg,zl (6) Q E a5∧(∃ a2:Int,∃ R:zg,zl 5 a5 a2 R∧(ck (a2 == 4) (∃ d:zi,∃ U:zg,zaU R d U∧a6 U.L U.At (E == 5) d.Kind (zc.e0 d.Set) (zc.e1 d.Set) (zc.e2 d.Set) (zc.e3 d.Set) d.Lo d.Hi d.Kids) (a6 R.L R.At (E == 5) 0 0 0 0 0 0 0 ([]))))) (a6 Q.L Q.At false 0 0 0 0 0 0 0 ([]))))))))∧(∃ N:Int,∃ A:zg,zl 4 ({ L:=Y,At:=O }) N A∧(ck (N == 0) (a7 A.L A.At ([]) true) (ck (N == 1) (∃ (W:List Int→Int→List Int→Int→Prop) (a3:List Int→Int→List Int→Int→Nat),W A.L A.At ([]) 0∧(∀ (y:List Int) (u:Int) (c:List Int) (J:Int),W y u c J→(ck (decide (J < S)) (∃ a8:List Int→Int→List Int→Prop,(∀ (w:List Int) (s:Int) (n:List Int),a8 w s n→(W w s n (w64 (J+1))∧a3 w s n (w64 (J+1)) < a3 y u c J))∧(∃ a0:Int,∃ F:zg,zl 2 ({ L:=y,At:=u }) a0 F∧(ck (a0 == 1) (((List.length c+1) * 8≤2 ^ 47)∧a8 F.L F.At (c++[J])) (a8 F.L F.At c)))) (a7 y u c false)))) (a7 A.L A.At ([]) false))))))∧(ck (w64 (1+r0) == 3) (∃ X:Int,∃ V:zg,zl S o X V∧J3 V.L V.At X) (J3 o.L o.At 0))))):zbn S a1 m res fin:=by
 unfold zbn;have kk:=cfOk [45,61] 62;refine fD (x:=bodyOf Tryz.f50) kk Tryz.func50 ?_;refine wkS [1,3,4,7] [(1,.ptr 3 0),(3,zk m),(4,vi S),(7,vB a1)] (by kernel_rfl) ?_;refine sO oN [] [(19,.ptr 38 0),(38,.agg [oL 3 za ([]),vB false,vB false,vi 0,vI .u64 0,vI .u64 0,vI .u64 0,vI .u64 0,vi 0,vi 0,oL 28 zf ([]),vi 0,vI .u64 0,vI .u64 0,vI .u64 0,vI .u64 0,vi 0,vi 0,oL 28 zf ([]),vB false,vi 0,vi 0])] ?_;obtain ⟨r0,o,d3,h⟩:=h;refine sO (ca d3 oN) [] [(3,zk o),(22,.ptr 44 0),(44,.agg [oL 3 za ([]),vB false,vB false,vi 0,vI .u64 0,vI .u64 0,vI .u64 0,vI .u64 0,vi 0,vi 0,oL 28 zf ([]),vi 0,vI .u64 0,vI .u64 0,vI .u64 0,vI .u64 0,vi 0,vi 0,oL 28 zf ([]),vB false,vi (w64 (1+r0)),vi 0])] ?_;obtain ⟨J3,d4,h⟩:=h;refine sjE (u3 J3) [] (u3 fun Y O v=>[(3,.agg [vL zal Y,vi O]),(44,.agg [oL 3 za ([]),vB false,vB false,vi 0,vI .u64 0,vI .u64 0,vI .u64 0,vI .u64 0,vi 0,vi 0,oL 28 zf ([]),vi 0,vI .u64 0,vI .u64 0,vI .u64 0,vI .u64 0,vi 0,vi 0,oL 28 zf ([]),vB false,vi (w64 (1+r0)),vi v])]) ?_ ?_
 ·rintro ⟨Y,O,v⟩ hj;have h:=d4 Y O v hj;obtain ⟨a7,b7,h⟩:=h;refine sjE (u4 a7) [4] (u4 fun I B b t=>[(3,.agg [vL zal I,vi B]),(44,.agg [oL 3 za b,vB t,vB false,vi 0,vI .u64 0,vI .u64 0,vI .u64 0,vI .u64 0,vi 0,vi 0,oL 28 zf ([]),vi 0,vI .u64 0,vI .u64 0,vI .u64 0,vI .u64 0,vi 0,vi 0,oL 28 zf ([]),vB false,vi (w64 (1+r0)),vi v])]) ?_ ?_
  ·rintro ⟨I,B,b,t⟩ hj;have h:=b7 I B b t hj;refine qD ?_;obtain ⟨a4,b0,b8,h⟩:=h;refine sO (ca b8 oN) [] [(3,zk b0),(130,vB (a4 == 11))] ?_;refine cH 43 h (fun c4 h=>?_) (fun c4 h=>?_)
   ·refine sO oN [1,7,130] [(44,.agg [oL 3 za b,vB t,vB false,vi 0,vI .u64 0,vI .u64 0,vI .u64 0,vI .u64 0,vi 0,vi 0,oL 28 zf ([]),vi 0,vI .u64 0,vI .u64 0,vI .u64 0,vI .u64 0,vi 0,vi 0,oL 28 zf ([]),vB true,vi (w64 (1+r0)),vi v])] ?_;refine sO (nd (show (0:Nat)=(0:Nat)∧List.length (List.map za b)=List.length (List.map za b) from ⟨rfl,rfl⟩) (nd (show (0:Nat)=(0:Nat)∧(0:Nat)=List.length (List.map zf []) from by first | decide | rfl | trivial) (nd (show (0:Nat)=(0:Nat)∧(0:Nat)=List.length (List.map zf []) from by first | decide | rfl | trivial) oN))) [22,44] [(38,.agg [oL 3 za b,vB t,vB false,vi 0,vI .u64 0,vI .u64 0,vI .u64 0,vI .u64 0,vi 0,vi 0,oL 28 zf ([]),vi 0,vI .u64 0,vI .u64 0,vI .u64 0,vI .u64 0,vi 0,vi 0,oL 28 zf ([]),vB true,vi (w64 (1+r0)),vi v])] ?_;refine tD ?_;obtain ⟨d2,d1⟩:=h;subst res fin;exact (endQ [(38,10),(38,18)]).1
   ·refine kD ?_;show Sem _ _ _ _ _;refine wkD [130] ?_;obtain ⟨a,Q,c2,h⟩:=h;refine sO (ca c2 oN) [] [(3,zk Q),(44,.agg [oL 3 za b,vB t,vB false,vi a.Kind,vI .u64 (zc.e0 a.Set),vI .u64 (zc.e1 a.Set),vI .u64 (zc.e2 a.Set),vI .u64 (zc.e3 a.Set),vi a.Lo,vi a.Hi,vL zf a.Kids,vi 0,vI .u64 0,vI .u64 0,vI .u64 0,vI .u64 0,vi 0,vi 0,oL 28 zf ([]),vB false,vi (w64 (1+r0)),vi v])] ?_;obtain ⟨a6,c1,h⟩:=h;refine sjE (u11 a6) [1,7] (u11 fun H D M l f g j e p r k=>[(3,.agg [vL zal H,vi D]),(44,.agg [oL 3 za b,vB t,vB M,vi a.Kind,vI .u64 (zc.e0 a.Set),vI .u64 (zc.e1 a.Set),vI .u64 (zc.e2 a.Set),vI .u64 (zc.e3 a.Set),vi a.Lo,vi a.Hi,vL zf a.Kids,vi l,vI .u64 f,vI .u64 g,vI .u64 j,vI .u64 e,vi p,vi r,vL zf k,vB false,vi (w64 (1+r0)),vi v])]) ?_ ?_
    ·rintro ⟨H,D,M,l,f,g,j,e,p,r,k⟩ hj;have h:=c1 H D M l f g j e p r k hj;refine sO (nd (show (0:Nat)=(0:Nat)∧List.length (List.map za b)=List.length (List.map za b) from ⟨rfl,rfl⟩) oN) [22,44] [(38,.agg [oL 3 za b,vB t,vB M,vi a.Kind,vI .u64 (zc.e0 a.Set),vI .u64 (zc.e1 a.Set),vI .u64 (zc.e2 a.Set),vI .u64 (zc.e3 a.Set),vi a.Lo,vi a.Hi,vL zf a.Kids,vi l,vI .u64 f,vI .u64 g,vI .u64 j,vI .u64 e,vi p,vi r,vL zf k,vB false,vi (w64 (1+r0)),vi v])] ?_;refine tD ?_;obtain ⟨d2,d1⟩:=h;subst res fin;exact (endQ []).1
    ·refine sO oN [7] [(151,vB (!a1))] ?_;refine cH 50 h (fun b2 h=>?_) (fun b2 h=>?_)
     ·obtain ⟨E,a5,c5,h⟩:=h;refine sO (ca c5 oN) [151] [(3,zk a5),(44,.agg [oL 3 za b,vB t,vB (E == 5),vi a.Kind,vI .u64 (zc.e0 a.Set),vI .u64 (zc.e1 a.Set),vI .u64 (zc.e2 a.Set),vI .u64 (zc.e3 a.Set),vi a.Lo,vi a.Hi,vL zf a.Kids,vi 0,vI .u64 0,vI .u64 0,vI .u64 0,vI .u64 0,vi 0,vi 0,oL 28 zf ([]),vB false,vi (w64 (1+r0)),vi v])] ?_;obtain ⟨a2,R,b9,h⟩:=h;refine sO (ca b9 oN) [] [(3,zk R),(172,vB (a2 == 4))] ?_;refine cH 57 h (fun c3 h=>?_) (fun c3 h=>?_)
      ·obtain ⟨d,U,b6,h⟩:=h;refine rO (ca b6 oN) [1,172] [(3,zk U),(44,.agg [oL 3 za b,vB t,vB (E == 5),vi a.Kind,vI .u64 (zc.e0 a.Set),vI .u64 (zc.e1 a.Set),vI .u64 (zc.e2 a.Set),vI .u64 (zc.e3 a.Set),vi a.Lo,vi a.Hi,vL zf a.Kids,vi d.Kind,vI .u64 (zc.e0 d.Set),vI .u64 (zc.e1 d.Set),vI .u64 (zc.e2 d.Set),vI .u64 (zc.e3 d.Set),vi d.Lo,vi d.Hi,vL zf d.Kids,vB false,vi (w64 (1+r0)),vi v])] ?_;exact jD (U.L,U.At,(E == 5),d.Kind,(zc.e0 d.Set),(zc.e1 d.Set),(zc.e2 d.Set),(zc.e3 d.Set),d.Lo,d.Hi,d.Kids) [] h
      ·refine kD ?_;exact jD (R.L,R.At,(E == 5),0,0,0,0,0,0,0,([])) [(44,18)] h
     ·refine kD ?_;exact jD (Q.L,Q.At,false,0,0,0,0,0,0,0,([])) [(44,18)] h
  ·obtain ⟨N,A,c6,h⟩:=h;refine sO (ca c6 oN) [] [(3,zk A),(64,vi N)] ?_;refine bD (id:=0) ?_;refine sO oN [] [(67,vB (N == 0))] ?_;refine cH 22 h (fun c7 h=>?_) (fun c7 h=>?_)
   ·refine rO oN [4,64,67] [(44,.agg [oL 3 za ([]),vB true,vB false,vi 0,vI .u64 0,vI .u64 0,vI .u64 0,vI .u64 0,vi 0,vi 0,oL 28 zf ([]),vi 0,vI .u64 0,vI .u64 0,vI .u64 0,vI .u64 0,vi 0,vi 0,oL 28 zf ([]),vB false,vi (w64 (1+r0)),vi v])] ?_;exact jD (A.L,A.At,([]),true) [] h
   ·refine sO oN [64,67] [(76,vB (N == 1))] ?_;refine cH 25 h (fun c9 h=>?_) (fun c9 h=>?_)
    ·refine sO oN [76] [(25,vi 0)] ?_;refine bD (id:=1) ?_;obtain ⟨W,a3,a9,b1⟩:=h;refine loE [] (u4 fun y u c J=>[(3,.agg [vL zal y,vi u]),(25,vi J),(44,.agg [oL 3 za c,vB false,vB false,vi 0,vI .u64 0,vI .u64 0,vI .u64 0,vI .u64 0,vi 0,vi 0,oL 28 zf ([]),vi 0,vI .u64 0,vI .u64 0,vI .u64 0,vI .u64 0,vi 0,vi 0,oL 28 zf ([]),vB false,vi (w64 (1+r0)),vi v])]) (u4 W) (u4 a3) (A.L,A.At,([]),0) [] a9 ?_;rintro ⟨y,u,c,J⟩ hi;have h:=b1 y u c J hi;refine qD ?_;refine sO oN [] [(88,vB (decide (J < S)))] ?_;refine cH 29 h (fun c0 h=>?_) (fun c0 h=>?_)
     ·refine kD ?_;show Sem _ _ _ _ _;refine wkD [88] ?_;obtain ⟨a8,c8,h⟩:=h;refine sjE (u3 a8) [] (u3 fun w s n=>[(3,.agg [vL zal w,vi s]),(44,.agg [oL 3 za n,vB false,vB false,vi 0,vI .u64 0,vI .u64 0,vI .u64 0,vI .u64 0,vi 0,vi 0,oL 28 zf ([]),vi 0,vI .u64 0,vI .u64 0,vI .u64 0,vI .u64 0,vi 0,vi 0,oL 28 zf ([]),vB false,vi (w64 (1+r0)),vi v])]) ?_ ?_
      ·rintro ⟨w,s,n⟩ hj;have h:=c8 w s n hj;refine rO oN [] [(25,vi (w64 (J+1)))] ?_;exact lD (w,s,n,(w64 (J+1))) [] h
      ·refine bD (id:=2) ?_;obtain ⟨a0,F,b5,h⟩:=h;refine sO (ca b5 oN) [] [(3,zk F),(103,vB (a0 == 1))] ?_;refine cH 34 h (fun d0 h=>?_) (fun d0 h=>?_)
       ·obtain ⟨d5,h⟩:=h;refine rV (apo za c d5 oN) [103] (show AV from .own 3 (List.map za c++[FV.pv (Value.int IntKind.i64 J)])) (oL 3 za (c++[J])) (fun q=>[(44,.agg [q,vB false,vB false,vi 0,vI .u64 0,vI .u64 0,vI .u64 0,vI .u64 0,vi 0,vi 0,oL 28 zf ([]),vi 0,vI .u64 0,vI .u64 0,vI .u64 0,vI .u64 0,vi 0,vi 0,oL 28 zf ([]),vB false,vi (w64 (1+r0)),vi v])]) ?_;exact jD (F.L,F.At,(c++[J])) [] h
       ·refine kD ?_;exact jD (F.L,F.At,c) [] h
     ·refine xD (i:=1) ?_;exact jD (y,u,c,false) [] h
    ·refine kD ?_;exact jD (A.L,A.At,([]),false) [] h
 ·refine sO oN [] [(46,vB (w64 (1+r0) == 3))] ?_;refine cH 15 h (fun b3 h=>?_) (fun b3 h=>?_)
  ·obtain ⟨X,V,b4,h⟩:=h;refine rO (ca b4 oN) [46] [(3,zk V),(44,.agg [oL 3 za ([]),vB false,vB false,vi 0,vI .u64 0,vI .u64 0,vI .u64 0,vI .u64 0,vi 0,vi 0,oL 28 zf ([]),vi 0,vI .u64 0,vI .u64 0,vI .u64 0,vI .u64 0,vi 0,vi 0,oL 28 zf ([]),vB false,vi (w64 (1+r0)),vi X])] ?_;exact jD (V.L,V.At,X) [] h
  ·refine kD ?_;exact jD (o.L,o.At,0) [] h
theorem zfW (l:(List Int)) (p:Bool) (res:zC)
 (h:(∃ J2:List Int→Prop,(∀ (m:List Int),J2 m→(∃ r0:Int,∃ o:zg,zl 3 ({ L:=m,At:=0 }) r0 o∧(∃ e:Int,∃ v:zg,zl 2 o e v∧(0≤w64 (1+r0)∧Int.toNat (w64 (1+r0))≤3)∧(∃ f:Int,∃ u:zg,zl 3 v f u∧(∃ k:Int,∃ n:zg,zl 4 u k n∧(∃ (g:List zt→Int→List Int→Int→Prop) (r:List zt→Int→List Int→Int→Nat),g ([]) (w64 (1+k)) n.L n.At∧(∀ (a:List zt) (i:Int) (d:List Int) (c:Int),g a i d c→(ck (decide (i > 0)) (∃ b:zt,∃ j:zg,zbn (w64 (1+r0)) p ({ L:=d,At:=c }) b j∧((List.length a+1) * 216≤2 ^ 47)∧(g (a++[b]) (w64 (i - 1)) j.L j.At∧r (a++[b]) (w64 (i - 1)) j.L j.At < r a i d c)) (res=({ Conds:=List.take (Int.toNat (w64 (1+r0))) [{ Name:={ data:=#[(73:UInt8),(78:UInt8),(73:UInt8),(84:UInt8),(73:UInt8),(65:UInt8),(76:UInt8)] },Exclusive:=false },{ Name:={ data:=#[(66:UInt8)] },Exclusive:=e == 1 },{ Name:={ data:=#[(67:UInt8),(95:UInt8),(49:UInt8)] },Exclusive:=false }],Default:=decide (f > 0),Rules:=a }))))))))))∧(ck (decide ((↑(List.length l):Int) > 60)) (((0:Int)≤60∧Int.toNat 60≤List.length l∧List.all (List.map zal l) (FV.fits 1)=true)∧J2 (List.take (Int.toNat 60) l)) (J2 l)))):zbP l p res:=by
 unfold zbP;have kk:=cfOk [49] 50;refine fD (x:=bodyOf Tryz.f18) kk Tryz.func18 ?_;refine wkS [1,4] [(1,vL zal l),(4,vB p)] (by kernel_rfl) ?_;refine sO oN [] [(13,.ptr 26 0),(26,.agg [oL 57 zm ([]),vB false,oL 60 zr ([])])] ?_;obtain ⟨J2,B,h⟩:=h;refine sjE J2 [] (fun m=>[(1,vL zal m)]) ?_ ?_
 ·rintro m hj;have h:=B m hj;refine sO oN [1] [(16,.ptr 98 0),(98,.agg [vL zal m,vi 0])] ?_;obtain ⟨r0,o,H,h⟩:=h;refine sO (ca H oN) [] [(19,vi (w64 (1+r0))),(98,zk o)] ?_;obtain ⟨e,v,F,h⟩:=h;obtain ⟨h5,h⟩:=h;obtain ⟨f,u,D,h⟩:=h;refine sV (ca F (nd (show True∧(0:Int)≤w64 ((1:Int)+r0)∧(0:Nat)=(0:Nat)∧Int.toNat (w64 ((1:Int)+r0))≤(3:Nat) from by simpa only [nm] using h5) (ca D oN))) [] (show AV from .f (FV.sl (List.take (Int.toNat (w64 ((1:Int)+r0))) (List.drop (0:Nat) [FV.agg [FV.pv (Value.string { data:=#[(73:UInt8),(78:UInt8),(73:UInt8),(84:UInt8),(73:UInt8),(65:UInt8),(76:UInt8)] }),FV.pv (Value.bool false)],FV.agg [FV.pv (Value.string { data:=#[(66:UInt8)] }),FV.pv (Value.bool (e == 1))],FV.agg [FV.pv (Value.string { data:=#[(67:UInt8),(95:UInt8),(49:UInt8)] }),FV.pv (Value.bool false)]])))) (vL zm (List.take (Int.toNat (w64 (1+r0))) [{ Name:={ data:=#[(73:UInt8),(78:UInt8),(73:UInt8),(84:UInt8),(73:UInt8),(65:UInt8),(76:UInt8)] },Exclusive:=false },{ Name:={ data:=#[(66:UInt8)] },Exclusive:=e == 1 },{ Name:={ data:=#[(67:UInt8),(95:UInt8),(49:UInt8)] },Exclusive:=false }])) (fun q=>[(22,.ptr 44 0),(44,.agg [q,vB (decide (f > 0)),oL 60 zr ([])]),(98,zk u)]) ?_;refine qD ?_;obtain ⟨k,n,E,h⟩:=h;refine sO (ca E oN) [] [(25,vi (w64 (1+k))),(98,zk n)] ?_;refine bD (id:=0) ?_;obtain ⟨g,r,s,t⟩:=h;refine loE [] (u4 fun a i d c=>[(25,vi i),(44,.agg [vL zm (List.take (Int.toNat (w64 (1+r0))) [{ Name:={ data:=#[(73:UInt8),(78:UInt8),(73:UInt8),(84:UInt8),(73:UInt8),(65:UInt8),(76:UInt8)] },Exclusive:=false },{ Name:={ data:=#[(66:UInt8)] },Exclusive:=e == 1 },{ Name:={ data:=#[(67:UInt8),(95:UInt8),(49:UInt8)] },Exclusive:=false }]),vB (decide (f > 0)),oL 60 zr a]),(98,.agg [vL zal d,vi c])]) (u4 g) (u4 r) (([]),(w64 (1+k)),n.L,n.At) [] s ?_;rintro ⟨a,i,d,c⟩ hi;have h:=t a i d c hi;refine qD ?_;refine sO oN [] [(112,vB (decide (i > 0)))] ?_;refine cH 37 h (fun A h=>?_) (fun A h=>?_)
  ·refine kD ?_;show Sem _ _ _ _ _;refine wkD [112] ?_;refine qD ?_;refine bD (id:=1) ?_;obtain ⟨b,j,y,h⟩:=h;obtain ⟨I,h⟩:=h;refine rV (ca y (apo zr a I oN)) [] (show AV from .own 60 (List.map zr a++[FV.agg [FV.sl (List.take (List.length (List.map za b.Conds)) (List.drop (0:Nat) (List.map za b.Conds))),FV.pv (Value.bool b.All),FV.pv (Value.bool b.Bol),FV.pv (Value.int IntKind.i64 (zi.Kind b.Rx)),FV.pv (Value.int IntKind.u64 (zi.Set b.Rx).e0),FV.pv (Value.int IntKind.u64 (zi.Set b.Rx).e1),FV.pv (Value.int IntKind.u64 (zi.Set b.Rx).e2),FV.pv (Value.int IntKind.u64 (zi.Set b.Rx).e3),FV.pv (Value.int IntKind.i64 (zi.Lo b.Rx)),FV.pv (Value.int IntKind.i64 (zi.Hi b.Rx)),FV.sl (List.map zf (zi.Kids b.Rx)),FV.pv (Value.int IntKind.i64 (zi.Kind b.Trail)),FV.pv (Value.int IntKind.u64 (zi.Set b.Trail).e0),FV.pv (Value.int IntKind.u64 (zi.Set b.Trail).e1),FV.pv (Value.int IntKind.u64 (zi.Set b.Trail).e2),FV.pv (Value.int IntKind.u64 (zi.Set b.Trail).e3),FV.pv (Value.int IntKind.i64 (zi.Lo b.Trail)),FV.pv (Value.int IntKind.i64 (zi.Hi b.Trail)),FV.sl (List.map zf (zi.Kids b.Trail)),FV.pv (Value.bool b.Eof),FV.pv (Value.int IntKind.i64 b.Act),FV.pv (Value.int IntKind.i64 b.To)]])) (oL 60 zr (a++[b])) (fun q=>[(44,.agg [vL zm (List.take (Int.toNat (w64 (1+r0))) [{ Name:={ data:=#[(73:UInt8),(78:UInt8),(73:UInt8),(84:UInt8),(73:UInt8),(65:UInt8),(76:UInt8)] },Exclusive:=false },{ Name:={ data:=#[(66:UInt8)] },Exclusive:=e == 1 },{ Name:={ data:=#[(67:UInt8),(95:UInt8),(49:UInt8)] },Exclusive:=false }]),vB (decide (f > 0)),q]),(98,zk j)]) ?_;show Sem _ _ _ _ _;refine rO oN [] [(25,vi (w64 (i - 1)))] ?_;exact lD ((a++[b]),(w64 (i - 1)),j.L,j.At) [] h
  ·refine xD (i:=0) ?_;show Sem _ _ _ _ _;refine wkD [4,16,19,25,98,112] ?_;refine sO (nd (show (0:Nat)=(0:Nat)∧List.length (List.map zr a)=List.length (List.map zr a) from ⟨rfl,rfl⟩) oN) [22,44] [(26,.agg [vL zm (List.take (Int.toNat (w64 (1+r0))) [{ Name:={ data:=#[(73:UInt8),(78:UInt8),(73:UInt8),(84:UInt8),(73:UInt8),(65:UInt8),(76:UInt8)] },Exclusive:=false },{ Name:={ data:=#[(66:UInt8)] },Exclusive:=e == 1 },{ Name:={ data:=#[(67:UInt8),(95:UInt8),(49:UInt8)] },Exclusive:=false }]),vB (decide (f > 0)),oL 60 zr a])] ?_;refine tD ?_;obtain he0:=h;subst res;exact (endD [] (.agg [vL zm (List.take (Int.toNat (w64 (1+r0))) [{ Name:={ data:=#[(73:UInt8),(78:UInt8),(73:UInt8),(84:UInt8),(73:UInt8),(65:UInt8),(76:UInt8)] },Exclusive:=false },{ Name:={ data:=#[(66:UInt8)] },Exclusive:=e == 1 },{ Name:={ data:=#[(67:UInt8),(95:UInt8),(49:UInt8)] },Exclusive:=false }]),vB (decide (f > 0)),oL 60 zr a]) []).1
 ·refine sV oN [] (List.length (List.map zal l)) (List.length l) (fun q=>[(34,vB (decide ((↑(q):Int) > 60)))]) ?_;refine cH 11 h (fun w h=>?_) (fun w h=>?_)
  ·obtain ⟨J,h⟩:=h;refine rOE (nd (show True∧(0:Int)≤(60:Int)∧(0:Nat)≤Int.toNat (60:Int)∧Int.toNat (60:Int)≤List.length (List.map zal l)∧List.all (List.map zal l) (FV.fits (1:Nat))=true from by simpa only [nm] using J) oN) [34] [(1,.f (FV.sl (List.take (Int.toNat 60 - 0) (List.drop 0 (List.map zal l)))))] [(1,vL zal (List.take (Int.toNat 60) l))] ?_;exact jD (List.take (Int.toNat 60) l) [] h
  ·refine kD ?_;exact jD l [] h
theorem zii (i:Int) (res:Bool)
 (h:(res=(decide (i < 0) || decide (i≥40)))):zc7 i res:=by
 unfold zc7;have kk:=cfOk [] 9;refine fD (x:=bodyOf Tryz.f51) kk Tryz.func51 ?_;refine wkS [1] [(1,vi i)] (by kernel_rfl) ?_;refine sO oN [] [] ?_;refine sM [1] [(7,vB (decide (i < 0) || decide (i≥40)))] ?_ (fun b=>?_)
 ·refine tD ?_;subst h;exact (endQ []).1
 ·rcases eft (decide (i < 0)) with a | a
  ·refine sO (g1 a 223 oN) [1] [(7,vB true)] ?_;exact Sem.cast (by try rw [a];kernel_rfl) b
  ·refine sO (g1 a 223 oN) [1] [(7,vB (decide (i≥40)))] ?_;exact Sem.cast (by try rw [a];kernel_rfl) b
theorem zcA (s0:(List zc)) (v:zc) (res:Int)
 (h:(∃ (a:Int→Prop) (b:Int→Nat),a 0∧(∀ (t8:Int),a t8→(ck (decide (t8 < (↑(List.length s0):Int))) ((0≤t8)∧t8 < ↑(List.length s0)∧(ck (v.e0 == (gd s0 t8).e0 && (v.e1 == (gd s0 t8).e1 && (v.e2 == (gd s0 t8).e2 && (v.e3 == (gd s0 t8).e3 && true)))) (res=t8) (a (w64 (t8+1))∧b (w64 (t8+1)) < b t8))) (res=(-1)))))):zaO s0 v res:=by
 unfold zaO;have kk:=cfOk [17] 19;refine fD (x:=bodyOf Tryz.f91) kk Tryz.func91 ?_;refine wkS [1,4] [(1,vL zb s0),(4,zD v)] (by kernel_rfl) ?_;refine sO oN [4] [(10,.ptr 20 0),(20,zD v)] ?_;refine qD ?_;refine sV oN [] (List.length (List.map zb s0)) (List.length s0) (fun q=>[(22,vi ((↑(q):Int))),(25,vi 0)]) ?_;refine bD (id:=0) ?_;obtain ⟨a,b,c,d⟩:=h;refine loE [] (fun t8=>[(25,vi t8)]) a b 0 [] c ?_;rintro t8 hi;have h:=d t8 hi;refine sO oN [] [(28,vB (decide (t8 < (↑(List.length s0):Int))))] ?_;refine qD ?_;refine cH 9 h (fun g h=>?_) (fun g h=>?_)
 ·refine kD ?_;show Sem _ _ _ _ _;refine wkD [28] ?_;refine qD ?_;refine bD (id:=1) ?_;refine sO oN [] [(16,vi t8)] ?_;obtain ⟨f,h⟩:=h;obtain ⟨j,h⟩:=h;refine sO (xo zb (zac _) f j oN) [] [(49,vB (v.e0 == (gd s0 t8).e0 && (v.e1 == (gd s0 t8).e1 && (v.e2 == (gd s0 t8).e2 && (v.e3 == (gd s0 t8).e3 && true)))))] ?_;refine cH 16 h (fun e h=>?_) (fun e h=>?_)
  ·refine sO oN [1,10,16,20,22,25,49] [(13,vi t8)] ?_;refine tD ?_;subst h;exact (endQ []).1
  ·refine kD ?_;show Sem _ _ _ _ _;refine wkD [16,49] ?_;refine rO oN [] [(25,vi (w64 (t8+1)))] ?_;exact lD (w64 (t8+1)) [] h
 ·refine xD (i:=0) ?_;show Sem _ _ _ _ _;refine wkD [1,10,20,22,25,28] ?_;refine sO oN [] [(13,vi (-1))] ?_;refine tD ?_;subst h;exact (endQ []).1
theorem zci (s0:(List zc)) (v:zc) (res:Bool)
 (h:(∃ r0:Int,zaO s0 v r0∧(res=(decide (r0≥0))))):zap s0 v res:=by
 unfold zap;have kk:=cfOk [] 9;refine fD (x:=bodyOf Tryz.f53) kk Tryz.func53 ?_;refine wkS [1,4] [(1,vL zb s0),(4,zD v)] (by kernel_rfl) ?_;refine sO oN [4] [(10,.ptr 20 0),(20,zD v)] ?_;obtain ⟨r0,a,h⟩:=h;refine sO (ca a oN) [1,10,20] [(13,vB (decide (r0≥0)))] ?_;refine tD ?_;subst h;exact (endQ []).1
theorem W_auto_places (l:(List Int)) (b:Int) (res:Bool)
 (h:(∃ (c:Int→Int→Prop) (e:Int→Int→Nat),c (-1) 0∧(∀ (last:Int) (a:Int),c last a→(ck (decide (a < (↑(List.length l):Int))) ((0≤a)∧a < ↑(List.length l)∧(ck (decide (gd l a≤last) || decide (gd l a≥b)) (res=false) (c (gd l a) (w64 (a+1))∧e (gd l a) (w64 (a+1)) < e last a))) (res=true))))):zcS l b res:=by
 unfold zcS;have kk:=cfOk [] 24;refine fD (x:=bodyOf Tryz.f55) kk Tryz.func55 ?_;refine wkS [1,4] [(1,vL za l),(4,vi b)] (by kernel_rfl) ?_;refine sO oN [] [] ?_;refine sO oN [] [(16,vi (-1))] ?_;refine qD ?_;refine sV oN [1] (List.length (List.map za l)) (List.length l) (fun q=>[(25,vL za l),(28,vi ((↑(q):Int))),(31,vi 0)]) ?_;refine bD (id:=0) ?_;obtain ⟨c,e,f,g⟩:=h;refine loE [] (u2 fun last a=>[(16,vi last),(31,vi a)]) (u2 c) (u2 e) ((-1),0) [] f ?_;rintro ⟨last,a⟩ hi;have h:=g last a hi;refine sO oN [] [(34,vB (decide (a < (↑(List.length l):Int))))] ?_;refine qD ?_;refine cH 11 h (fun m h=>?_) (fun m h=>?_)
 ·refine kD ?_;show Sem _ _ _ _ _;refine wkD [34] ?_;refine qD ?_;refine bD (id:=1) ?_;obtain ⟨n,h⟩:=h;obtain ⟨o,h⟩:=h;refine sO (xo za rfl n o oN) [] [(22,vi (gd l a))] ?_;refine qD ?_;refine sM [16] [(64,vB (decide (gd l a≤last) || decide (gd l a≥b)))] ?_ (fun j=>?_)
  ·refine cH 21 h (fun k h=>?_) (fun k h=>?_)
   ·refine sO oN [4,22,25,28,31,64] [(13,vB false)] ?_;refine tD ?_;subst h;exact (endQ []).1
   ·refine kD ?_;show Sem _ _ _ _ _;refine wkD [64] ?_;refine rO oN [22] [(16,vi (gd l a))] ?_;show Sem _ _ _ _ _;refine rO oN [] [(31,vi (w64 (a+1)))] ?_;exact lD ((gd l a),(w64 (a+1))) [] h
  ·rcases eft (decide (gd l a≤last)) with d | d
   ·refine sO (g1 d 2223 oN) [16] [(64,vB true)] ?_;exact Sem.cast (by try rw [d];kernel_rfl) j
   ·refine sO (g1 d 2223 oN) [16] [(64,vB (decide (gd l a≥b)))] ?_;exact Sem.cast (by try rw [d];kernel_rfl) j
 ·refine xD (i:=0) ?_;show Sem _ _ _ _ _;refine wkD [4,16,25,28,31,34] ?_;refine sO oN [] [(13,vB true)] ?_;refine tD ?_;subst h;exact (endQ []).1
theorem zbz (s0:(List Int)) (res:Int)
 (h:(∃ (a:Int→Prop) (b:Int→Nat),a 0∧(∀ (t8:Int),a t8→(ck (decide (t8 < (↑(List.length s0):Int))) ((0≤t8)∧t8 < ↑(List.length s0)∧(∃ c:Bool,zc7 (gd s0 t8) c∧(ck (c) (res=t8) (a (w64 (t8+1))∧b (w64 (t8+1)) < b t8)))) (res=(-1)))))):zai s0 res:=by
 unfold zai;have kk:=cfOk [17] 19;refine fD (x:=bodyOf Tryz.f90) kk Tryz.func90 ?_;refine wkS [1,4] [(1,vL za s0),(4,.clo 51 [])] (by kernel_rfl) ?_;refine sO oN [] [] ?_;refine qD ?_;refine sV oN [] (List.length (List.map za s0)) (List.length s0) (fun q=>[(22,vi ((↑(q):Int))),(25,vi 0)]) ?_;refine bD (id:=0) ?_;obtain ⟨a,b,d,e⟩:=h;refine loE [] (fun t8=>[(25,vi t8)]) a b 0 [] d ?_;rintro t8 hi;have h:=e t8 hi;refine sO oN [] [(28,vB (decide (t8 < (↑(List.length s0):Int))))] ?_;refine qD ?_;refine cH 9 h (fun f h=>?_) (fun f h=>?_)
 ·refine kD ?_;show Sem _ _ _ _ _;refine wkD [28] ?_;refine qD ?_;refine bD (id:=1) ?_;refine sO oN [] [(16,vi t8)] ?_;obtain ⟨k,h⟩:=h;obtain ⟨l,h⟩:=h;obtain ⟨c,j,h⟩:=h;refine sO (xo za rfl k l (ca j oN)) [] [(49,vB c)] ?_;refine cH 16 h (fun g h=>?_) (fun g h=>?_)
  ·refine sO oN [1,4,16,22,25,49] [(13,vi t8)] ?_;refine tD ?_;subst h;exact (endQ []).1
  ·refine kD ?_;show Sem _ _ _ _ _;refine wkD [16,49] ?_;refine rO oN [] [(25,vi (w64 (t8+1)))] ?_;exact lD (w64 (t8+1)) [] h
 ·refine xD (i:=0) ?_;show Sem _ _ _ _ _;refine wkD [1,4,22,25,28] ?_;refine sO oN [] [(13,vi (-1))] ?_;refine tD ?_;subst h;exact (endQ []).1
theorem zbq (s0:(List Int)) (res:Bool)
 (h:(∃ r0:Int,zai s0 r0∧(res=(decide (r0≥0))))):zS s0 res:=by
 unfold zS;have kk:=cfOk [] 9;refine fD (x:=bodyOf Tryz.f52) kk Tryz.func52 ?_;refine wkS [1,4] [(1,vL za s0),(4,.clo 51 [])] (by kernel_rfl) ?_;refine sO oN [] [] ?_;obtain ⟨r0,a,h⟩:=h;refine sO (ca a oN) [1,4] [(13,vB (decide (r0≥0)))] ?_;refine tD ?_;subst h;exact (endQ []).1
theorem W_auto_Right (a:zh) (res:Bool)
 (h:(ck (decide ((↑(List.length a.Sets):Int) > 600) || ((↑(List.length (List.map za a.Owner)):Int) != (↑(List.length a.Sets):Int) || ((↑(List.length (List.map ze a.Follow)):Int) != (↑(List.length a.Sets):Int) || ((↑(List.length (List.map zn a.Ends)):Int) != (↑(List.length a.Sets):Int) || decide ((↑(List.length a.Starts):Int) > 16))))) (res=false) (∃ r0:Bool,zS a.Owner r0∧(ck (r0) (res=false) (∃ m:Bool,zap a.Sets ({ e0:=0,e1:=0,e2:=0,e3:=0 }) m∧(ck (m) (res=false) (C_auto_lists a∧((List.length a.Follow < 1099511627776∧List.length a.Starts < 1099511627776)∧∃ (d:Nat→Prop) (f:Prop),d 0∧(∀ (i:Nat) (y:(List Int)),i < (List.length a.Follow+List.length a.Starts)→y=List.getD (a.Follow++a.Starts) i []→d i→(∃ l:Bool,zcS y ((↑(List.length a.Sets):Int)) l∧(ck (!l) f (d (i+1)))))∧(d ((List.length a.Follow+List.length a.Starts))→(res=true))∧(f→(res=false)))))))))):zch a res:=by
 unfold zch;have kk:=cfOk [] 55;refine fD (x:=bodyOf Tryz.f19) kk Tryz.func19 ?_;refine wkS [1] [(1,zF a)] (by kernel_rfl) ?_;refine sO oN [1] [(4,.ptr 8 0),(7,.ptr 14 0),(8,zF a),(14,vB false)] ?_;refine sV oN [] (List.length (List.map zb a.Sets)) (List.length a.Sets) (fun q=>[(10,.ptr 20 0),(20,vi ((↑(q):Int)))]) ?_;refine sO oN [] [(13,.clo 51 [])] ?_;refine qD ?_;refine sM [] [(112,vB (decide ((↑(List.length a.Sets):Int) > 600) || ((↑(List.length (List.map za a.Owner)):Int) != (↑(List.length a.Sets):Int) || ((↑(List.length (List.map ze a.Follow)):Int) != (↑(List.length a.Sets):Int) || ((↑(List.length (List.map zn a.Ends)):Int) != (↑(List.length a.Sets):Int) || decide ((↑(List.length a.Starts):Int) > 16))))))] ?_ (fun r=>?_)
 ·refine cH 37 h (fun F h=>?_) (fun F h=>?_)
  ·refine sO oN [4,8,10,13,20,112] [] ?_;refine tD ?_;subst h;exact (endQ []).1
  ·refine kD ?_;show Sem _ _ _ _ _;refine wkD [112] ?_;refine qD ?_;obtain ⟨r0,E,h⟩:=h;rcases eft (r0) with n | n
   ·have h:=h.1 n;refine sO (ca E (g1 n 22223 oN)) [13] [(142,vB true)] ?_;refine cD (t:=47) (b:=true) (fun w=>?_) (fun w=>?_)
    ·refine sO oN [4,8,10,20,142] [] ?_;refine tD ?_;subst h;exact (endQ []).1
    ·cases w
   ·have h:=h.2 n;obtain ⟨m,J,h⟩:=h;refine sO (ca E (g1 n 2222 (ca J (g1 n 3 oN)))) [13] [(142,vB m)] ?_;refine cH 47 h (fun H h=>?_) (fun H h=>?_)
    ·refine sO oN [4,8,10,20,142] [] ?_;refine tD ?_;subst h;exact (endQ []).1
    ·refine kD ?_;show Sem _ _ _ _ _;refine wkD [142] ?_;refine qD ?_;obtain ⟨I,h⟩:=h;refine sO (ca I oN) [4,8] [(148,.clo 92 [.fp (zc1 a) 0])] ?_;refine bD (id:=0) ?_;obtain ⟨A,d,f,v,s,u,p⟩:=h;refine Sem.rangeG (σ:=Unit) (c:=(cf [] 55)) (by rfl) (tg:=49) (ps:=[50]) (by kernel_rfl) (by kernel_rfl) (lists_it2 a A) (fun i _=>⟨rfl,fun y hy=>⟨1,by rw [List.mem_singleton.1 hy];rfl⟩⟩) [(7,.ptr 14 0),(10,.ptr 20 0)] [14,20] (fun (_:Unit)=>([vB false,vi ((↑(List.length a.Sets):Int))]:List AV)) (fun (i:Nat) (q:Unit)=>d i ) (fun (q:Unit)=>f ) () ((wkE (G':=[(7,.ptr 14 0),(10,.ptr 20 0),(14,vB false),(20,vi ((↑(List.length a.Sets):Int)))]) [] [7,10,14,20] (by kernel_rfl)).trans (Wk.pick [7,10,14,20] (by kernel_rfl))) v (by rfl) (fun q=>by rfl) (by rfl) (by decide) (fun q q'=>by rfl) (by decide) (by decide) ?_ ?_ ?_
     ·rintro i _ hi j;obtain ⟨y,hy⟩:∃ y:(List Int),y=List.getD (a.Follow++a.Starts) i []:=⟨_,rfl⟩;have h:=s i y hi hy j;refine Sem.weak (Wk.pick [3,6,7,10,151] (G':=[(3,vB false),(6,vi ((↑(List.length a.Sets):Int))),(7,.ptr 3 0),(10,.ptr 6 0),(151,vL za y)]) (by rw [hy];kernel_rfl)) ?_;show Sem _ (cfr [] 55) (sq1 (sq1 (sq2 (sq1 (sq2 (sq2 (sq2 (sq2 (sq2 (bodyOf Tryz.f19)))))))))) _ _;have kr:=cfrOk [] 55;refine rO oN [151] [(16,vL za y)] ?_;refine ⟨rfl,?_⟩;show Sem _ (cfr [] 55) (sq2 (sq1 (sq2 (sq1 (sq2 (sq2 (sq2 (sq2 (sq2 (bodyOf Tryz.f19)))))))))) _ _;refine bD (id:=1) ?_;obtain ⟨l,D,h⟩:=h;refine sO (ca D oN) [10,16] [(163,vB (!l))] ?_;refine cH 54 h (fun B h=>?_) (fun B h=>?_)
      ·refine sO oN [163] [] ?_;refine tD ?_;exact rndSr (wkE [] [3,6] (by rfl)) (by kernel_rfl) ⟨(),rfl,h⟩
      ·refine kD ?_;exact rndSn (wkE [] [3,6] (by rfl)) (by kernel_rfl) ⟨(),rfl,h⟩
     ·rintro _ j;have h:=u j;refine ⟨[(7,.ptr 14 0),(14,vB false)],Wk.pick [7,14] (by kernel_rfl),?_⟩;show Sem _ _ _ _ _;refine sO oN [] [(14,vB true)] ?_;refine tD ?_;subst h;exact (endQ []).1
     ·rintro _ j;have h:=p j;refine ⟨[(7,.ptr 14 0),(14,vB false)],Wk.pick [7,14] (by kernel_rfl),?_⟩;subst h;exact (endQ []).1
 ·rcases eft (decide ((↑(List.length a.Sets):Int) > 600)) with e | e
  ·refine sO (g1 e 22222388888788888788887 oN) [] [(112,vB true)] ?_;exact Sem.cast (by try rw [e];kernel_rfl) r
  ·rcases eft ((↑(List.length (List.map za a.Owner)):Int) != (↑(List.length a.Sets):Int)) with g | g
   ·refine sO (g2 g e 55555622222388888788887 oN) [] [(112,vB true)] ?_;exact Sem.cast (by try rw [e];try rw [g];kernel_rfl) r
   ·rcases eft ((↑(List.length (List.map ze a.Follow)):Int) != (↑(List.length a.Sets):Int)) with k | k
    ·refine sO (g1 e 222223 (g2 k g 55555622222388887 oN)) [] [(112,vB true)] ?_;exact Sem.cast (by try rw [e];try rw [g];try rw [k];kernel_rfl) r
    ·rcases eft ((↑(List.length (List.map zn a.Ends)):Int) != (↑(List.length a.Sets):Int)) with o | o
     ·refine sO (g2 g e 555556222223 (g2 o k 55555622223 oN)) [] [(112,vB true)] ?_;exact Sem.cast (by try rw [e];try rw [g];try rw [k];try rw [o];kernel_rfl) r
     ·refine sV (g2 g e 555556222223 (g2 o k 55555622223 oN)) [] (List.length (List.map ze a.Starts)) (List.length a.Starts) (fun q=>[(112,vB (decide ((↑(q):Int) > 16)))]) ?_;exact Sem.cast (by try rw [e];try rw [g];try rw [k];try rw [o];kernel_rfl) r
end Go.Ev
namespace Go.Ev
open Go Go.Proofs
set_option maxRecDepth 8000
set_option maxHeartbeats 1000000
theorem W_auto_Read (a:zh) (b:(List Int)) (c0:Int) (res:(List Int)) (res_1:Int)
 (h:(∃ (m:Int→List (List Int)→Int→Prop) (p:Int→List (List Int)→Int→Nat),m (-1) ([]) 0∧(∀ (d:Int) (c:List (List Int)) (e:Int),m d c e→(ck (decide (e < (↑(List.length b):Int))) (∃ r:Int→List (List Int)→Prop,(∀ (g:Int) (f:List (List Int)),r g f→(m g f (w64 (e+1))∧p g f (w64 (e+1)) < p d c e))∧(0≤e)∧e < ↑(List.length b)∧(0≤gd b e)∧gd b e < ↑(List.length a.Sets)∧(∃ o:Bool,zeo (gd a.Sets (gd b e)) c0 o∧(ck (!o) (r d c) ((0≤gd b e)∧gd b e < ↑(List.length a.Follow)∧((List.length c+1) * 24≤2 ^ 47)∧(0≤gd b e)∧gd b e < ↑(List.length a.Ends)∧((gd a.Ends (gd b e))=true→((d == (-1:Int))=false→(0≤gd b e)))∧((gd a.Ends (gd b e))=true→((d == (-1:Int))=false→gd b e < ↑(List.length a.Owner)))∧(ck (gd a.Ends (gd b e) && (d == (-1:Int) || decide (gd a.Owner (gd b e) < d))) ((0≤gd b e)∧gd b e < ↑(List.length a.Owner)∧r (gd a.Owner (gd b e)) (c++[gd a.Follow (gd b e)])) (r d (c++[gd a.Follow (gd b e)]))))))) (∃ l:List Int,zX c l∧(∃ n:List Int,z8 l ([]) n∧(res=n∧res_1=d))))))):zdT a b c0 res res_1:=by
 unfold zdT;have kk:=cfOk [60] 61;refine fD (x:=bodyOf Tryz.f57) kk Tryz.func57 ?_;refine wkS [1,4,7] [(1,zF a),(4,vL za b),(7,vi c0)] (by kernel_rfl) ?_;refine sO oN [1] [(10,.ptr 20 0),(20,zF a)] ?_;refine sO oN [] [(22,vi (-1))] ?_;refine sO oN [] [(25,oL 40 ze ([]))] ?_;refine qD ?_;refine sV oN [4] (List.length (List.map za b)) (List.length b) (fun q=>[(34,vL za b),(37,vi ((↑(q):Int))),(40,vi 0)]) ?_;refine bD (id:=0) ?_;obtain ⟨m,p,s,t⟩:=h;refine loE [] (u3 fun d c e=>[(22,vi d),(25,oL 40 ze c),(40,vi e)]) (u3 m) (u3 p) ((-1),([]),0) [] s ?_;rintro ⟨d,c,e⟩ hi;have h:=t d c e hi;refine sO oN [] [(43,vB (decide (e < (↑(List.length b):Int))))] ?_;refine qD ?_;refine cH 14 h (fun J h=>?_) (fun J h=>?_)
 ·refine kD ?_;show Sem _ _ _ _ _;refine wkD [43] ?_;obtain ⟨r,N,h⟩:=h;refine sjE (u2 r) [] (u2 fun g f=>[(22,vi g),(25,oL 40 ze f)]) ?_ ?_
  ·rintro ⟨g,f⟩ hj;have h:=N g f hj;refine rO oN [] [(40,vi (w64 (e+1)))] ?_;exact lD (g,f,(w64 (e+1))) [] h
  ·refine bD (id:=1) ?_;obtain ⟨O,h⟩:=h;obtain ⟨R,h⟩:=h;refine sO (xo za rfl O R oN) [] [(31,vi (gd b e))] ?_;refine qD ?_;obtain ⟨V,h⟩:=h;obtain ⟨Q,h⟩:=h;obtain ⟨o,D,h⟩:=h;refine sO (xo zb (zac _) V Q (ca D oN)) [] [(73,vB (!o))] ?_;refine cH 24 h (fun H h=>?_) (fun H h=>?_)
   ·refine xD (i:=1) ?_;exact jD (d,c) [] h
   ·refine kD ?_;show Sem _ _ _ _ _;refine wkD [73] ?_;obtain ⟨W,h⟩:=h;obtain ⟨U,h⟩:=h;obtain ⟨S,h⟩:=h;refine sOE (xo ze rfl W U (apo ze c S oN)) [] [(25,.own 40 (List.map ze c++[FV.sl (List.map za (gd a.Follow (gd b e)))]))] [(25,oL 40 ze (c++[gd a.Follow (gd b e)]))] ?_;obtain ⟨u,h⟩:=h;obtain ⟨A,h⟩:=h;obtain ⟨E,F,h⟩:=h;refine sM [] [(151,vB (gd a.Ends (gd b e) && (d == (-1:Int) || decide (gd a.Owner (gd b e) < d))))] ?_ (fun v=>?_)
    ·refine cH 50 h (fun B h=>?_) (fun B h=>?_)
     ·obtain ⟨I,h⟩:=h;obtain ⟨M,h⟩:=h;refine rO (xo za rfl I M oN) [31,151] [(22,vi (gd a.Owner (gd b e)))] ?_;exact jD ((gd a.Owner (gd b e)),(c++[gd a.Follow (gd b e)])) [] h
     ·refine kD ?_;exact jD (d,(c++[gd a.Follow (gd b e)])) [] h
    ·rcases eft (gd a.Ends (gd b e)) with k | k
     ·rcases eft (d == (-1:Int)) with j | j
      ·refine sO (xo zn rfl u A (g2 k j 1115555555163 oN)) [] [(151,vB true)] ?_;exact Sem.cast (by try rw [k];try rw [j];kernel_rfl) v
      ·refine sO (xo zn rfl u A (g2 j k 4442222 (xo za rfl ((E k) j) ((F k) j) (g2 k j 555163 oN)))) [] [(151,vB (decide (gd a.Owner (gd b e) < d)))] ?_;exact Sem.cast (by try rw [k];try rw [j];kernel_rfl) v
     ·refine sO (xo zn rfl u A (g1 k 11113 oN)) [] [(151,vB false)] ?_;exact Sem.cast (by try rw [k];kernel_rfl) v
 ·refine xD (i:=0) ?_;show Sem _ _ _ _ _;refine wkD [7,10,20,34,37,40,43] ?_;obtain ⟨l,w,h⟩:=h;obtain ⟨n,y,h⟩:=h;refine sO (ca (Eq.mp (by unfold zX;(try simp only [List.drop_zero,List.take_length]);first | done | simp only [nm,enq]:zX c l=CallE Tryz.prog 94 [.f (FV.sl (List.take (List.length (List.map ze c)) (List.drop 0 (List.map ze c))))] [] (oL 3 za l) []) w) (ca (Eq.mp (by unfold z8;(try simp only [List.drop_zero,List.take_length]);first | done | simp only [nm,enq]:z8 l ([]) n=CallE Tryz.prog 82 [.f (FV.sl (List.take (List.length (List.map za l)) (List.drop 0 (List.map za l)))),.f (FV.sl [])] [] (vL za n) []) y) oN)) [25] [(19,vL za n)] ?_;refine tD ?_;obtain ⟨Y,X⟩:=h;subst res res_1;exact (endQ []).1
theorem W_auto_Run_L1 (p:Int) (v:zh) (res:Bool) (fin:zh)
 (h:(res=(decide (p < 0) || decide (p≥(↑(List.length v.Sets):Int)))∧fin=v)):zdS p v res fin:=by
 unfold zdS;have kk:=cfOk [] 13;refine fD (x:=bodyOf Tryz.f56) kk Tryz.func56 ?_;refine wkS [1,3,4] [(1,vi p),(3,zF v),(4,.ptr 3 0)] (by kernel_rfl) ?_;refine sO oN [] [] ?_;refine sM [1,4] [(10,vB (decide (p < 0) || decide (p≥(↑(List.length v.Sets):Int))))] ?_ (fun b=>?_)
 ·refine tD ?_;obtain ⟨c,d⟩:=h;subst res fin;exact (endQ []).1
 ·rcases eft (decide (p < 0)) with a | a
  ·refine sO (g1 a 222223 oN) [1,4] [(10,vB true)] ?_;exact Sem.cast (by try rw [a];kernel_rfl) b
  ·refine sV (g1 a 222223 oN) [1,4] (List.length (List.map zb v.Sets)) (List.length v.Sets) (fun q=>[(10,vB (decide (p≥(↑(q):Int))))]) ?_;exact Sem.cast (by try rw [a];kernel_rfl) b
theorem zbJ (s0:(List Int)) (cap:zh) (res:Int) (fin:zh)
 (h:(∃ (g:List zc→List Int→List (List Int)→List Bool→List (List Int)→Int→Prop) (k:List zc→List Int→List (List Int)→List Bool→List (List Int)→Int→Nat),g cap.Sets cap.Owner cap.Follow cap.Ends cap.Starts 0∧(∀ (d:List zc) (c:List Int) (a:List (List Int)) (e:List Bool) (b:List (List Int)) (t8:Int),g d c a e b t8→(ck (decide (t8 < (↑(List.length s0):Int))) ((0≤t8)∧t8 < ↑(List.length s0)∧(∃ j:Bool,∃ f:zh,zdS (gd s0 t8) ({ Sets:=d,Owner:=c,Follow:=a,Ends:=e,Starts:=b }) j f∧(ck (j) (res=t8∧fin=f) (g f.Sets f.Owner f.Follow f.Ends f.Starts (w64 (t8+1))∧k f.Sets f.Owner f.Follow f.Ends f.Starts (w64 (t8+1)) < k d c a e b t8)))) (res=(-1)∧fin=({ Sets:=d,Owner:=c,Follow:=a,Ends:=e,Starts:=b })))))):zan s0 cap res fin:=by
 unfold zan;have kk:=cfOk [17] 19;refine fD (x:=bodyOf Tryz.f90) kk Tryz.func90 ?_;refine wkS [1,3,4] [(1,vL za s0),(3,zF cap),(4,.clo 56 [.ptr 3 0])] (by kernel_rfl) ?_;refine sO oN [] [] ?_;refine qD ?_;refine sV oN [] (List.length (List.map za s0)) (List.length s0) (fun q=>[(22,vi ((↑(q):Int))),(25,vi 0)]) ?_;refine bD (id:=0) ?_;obtain ⟨g,k,l,m⟩:=h;refine loE [] (u6 fun d c a e b t8=>[(3,.agg [vL zb d,vL za c,vL ze a,vL zn e,vL ze b]),(25,vi t8)]) (u6 g) (u6 k) (cap.Sets,cap.Owner,cap.Follow,cap.Ends,cap.Starts,0) [] l ?_;rintro ⟨d,c,a,e,b,t8⟩ hi;have h:=m d c a e b t8 hi;refine sO oN [] [(28,vB (decide (t8 < (↑(List.length s0):Int))))] ?_;refine qD ?_;refine cH 9 h (fun o h=>?_) (fun o h=>?_)
 ·refine kD ?_;show Sem _ _ _ _ _;refine wkD [28] ?_;refine qD ?_;refine bD (id:=1) ?_;refine sO oN [] [(16,vi t8)] ?_;obtain ⟨s,h⟩:=h;obtain ⟨t,h⟩:=h;obtain ⟨j,f,p,h⟩:=h;refine sO (xo za rfl s t (ca p oN)) [] [(3,zF f),(49,vB j)] ?_;refine cH 16 h (fun n h=>?_) (fun n h=>?_)
  ·refine sO oN [1,4,16,22,25,49] [(13,vi t8)] ?_;refine tD ?_;obtain ⟨u,r⟩:=h;subst res fin;exact (endQ []).1
  ·refine kD ?_;show Sem _ _ _ _ _;refine wkD [16,49] ?_;refine rO oN [] [(25,vi (w64 (t8+1)))] ?_;exact lD (f.Sets,f.Owner,f.Follow,f.Ends,f.Starts,(w64 (t8+1))) [] h
 ·refine xD (i:=0) ?_;show Sem _ _ _ _ _;refine wkD [1,4,22,25,28] ?_;refine sO oN [] [(13,vi (-1))] ?_;refine tD ?_;obtain ⟨u,r⟩:=h;subst res fin;exact (endQ []).1
theorem zbu (s0:(List Int)) (cap:zh) (res:Bool) (fin:zh)
 (h:(∃ r0:Int,∃ o:zh,zan s0 cap r0 o∧(res=(decide (r0≥0))∧fin=o))):zW s0 cap res fin:=by
 unfold zW;have kk:=cfOk [] 9;refine fD (x:=bodyOf Tryz.f52) kk Tryz.func52 ?_;refine wkS [1,3,4] [(1,vL za s0),(3,zF cap),(4,.clo 56 [.ptr 3 0])] (by kernel_rfl) ?_;refine sO oN [] [] ?_;obtain ⟨r0,o,a,h⟩:=h;refine sO (ca a oN) [1,4] [(3,zF o),(13,vB (decide (r0≥0)))] ?_;refine tD ?_;obtain ⟨b,c⟩:=h;subst res fin;exact (endQ []).1
theorem W_auto_Run (a:zh) (p:(List Int)) (w0:ByteArray) (res:Int) (res_1:Int)
 (h:(∃ r0:Bool,zch a r0∧(ck (!r0) (res=(-1)∧res_1=0) (∃ s:Bool,∃ o:zh,zW p a s o∧(ck (s) (res=(-1)∧res_1=0) (∃ w:Int→Int→Prop,(∀ (l:Int) (n:Int),w l n→(res=l∧res_1=n))∧(∃ (r:List Int→Int→Int→Int→Prop) (u:List Int→Int→Int→Int→Nat),r p (-1) 0 0∧(∀ (j:List Int) (e:Int) (g:Int) (c:Int),r j e g c→(ck (decide (c < (↑(ByteArray.size w0):Int))) ((0≤c)∧c < ↑(ByteArray.size w0)∧(∃ k:List Int,∃ m:Int,zdT o j (w64 (↑(UInt8.toNat (byteAt w0 c)):Int)) k m∧(∃ y:Int→Int→Prop,(∀ (d:Int) (f:Int),y d f→(ck ((↑(List.length k):Int) == 0) (w d f) (r k d f (w64 (c+1))∧u k d f (w64 (c+1)) < u j e g c)))∧(ck (m != (-1:Int)) (y m (w64 (c+1))) (y e g))))) (w e g)))))))))):zeC a p w0 res res_1:=by
 unfold zeC;have kk:=cfOk [21,39,47,48] 49;refine fD (x:=bodyOf Tryz.f20) kk Tryz.func20 ?_;refine wkS [1,4,7] [(1,zF a),(4,vL za p),(7,vS w0)] (by kernel_rfl) ?_;refine sO oN [1] [(10,.ptr 20 0),(20,zF a),(22,vi 0)] ?_;refine sO oN [] [(19,vi (-1))] ?_;refine sO oN [] [(25,.clo 56 [.ptr 20 0])] ?_;refine qD ?_;obtain ⟨r0,J,h⟩:=h;rcases eft (!r0) with v | v
 ·have h:=h.1 v;refine sO (ca J (g1 v 2223 oN)) [25] [(61,vB true)] ?_;refine cD (t:=20) (b:=true) (fun D=>?_) (fun D=>?_)
  ·refine sO oN [4,7,10,20,61] [] ?_;refine tD ?_;obtain ⟨Q,M⟩:=h;subst res res_1;exact (endQ []).1
  ·cases D
 ·have h:=h.2 v;obtain ⟨s,o,V,h⟩:=h;refine sO (ca J (g1 v 222 (ca V (g1 v 3 oN)))) [25] [(20,zF o),(61,vB s)] ?_;refine cH 20 h (fun U h=>?_) (fun U h=>?_)
  ·refine sO oN [4,7,10,20,61] [] ?_;refine tD ?_;obtain ⟨Q,M⟩:=h;subst res res_1;exact (endQ []).1
  ·refine kD ?_;show Sem _ _ _ _ _;refine wkD [61] ?_;obtain ⟨w,O,h⟩:=h;refine sjD (u2 w) (u2 fun l n=>[(19,vi l),(22,vi n)]) ?_ ?_
   ·rintro ⟨l,n⟩ hj;have h:=O l n hj;refine sO oN [] [] ?_;refine tD ?_;obtain ⟨Q,M⟩:=h;subst res res_1;exact (endQ []).1
   ·refine sO oN [] [(70,vi ((↑(ByteArray.size w0):Int))),(73,vi 0)] ?_;refine bD (id:=0) ?_;obtain ⟨r,u,A,B⟩:=h;refine loE [] (u4 fun j e g c=>[(4,vL za j),(19,vi e),(22,vi g),(73,vi c)]) (u4 r) (u4 u) (p,(-1),0,0) [] A ?_;rintro ⟨j,e,g,c⟩ hi;have h:=B j e g c hi;refine sO oN [] [(76,vB (decide (c < (↑(ByteArray.size w0):Int))))] ?_;refine qD ?_;refine cH 25 h (fun R h=>?_) (fun R h=>?_)
    ·refine kD ?_;show Sem _ _ _ _ _;refine wkD [76] ?_;refine qD ?_;refine bD (id:=1) ?_;refine sO oN [] [(28,vi c)] ?_;obtain ⟨F,h⟩:=h;obtain ⟨S,h⟩:=h;obtain ⟨k,m,H,h⟩:=h;refine sO (nd F (op (.y (byteAt w0 c)) (zam w0 c F S) (ca H oN))) [4] [(31,vL za k),(34,vi m)] ?_;obtain ⟨y,E,h⟩:=h;refine sjE (u2 y) [28,34] (u2 fun d f=>[(19,vi d),(22,vi f)]) ?_ ?_
     ·rintro ⟨d,f⟩ hj;have h:=E d f hj;refine sO oN [31] [(4,vL za k)] ?_;refine sV oN [] (List.length (List.map za k)) (List.length k) (fun q=>[(136,vB ((↑(q):Int) == 0))]) ?_;refine cH 45 h (fun N h=>?_) (fun N h=>?_)
      ·refine xD (i:=0) ?_;exact jD (d,f) [] h
      ·refine kD ?_;show Sem _ _ _ _ _;refine wkD [136] ?_;refine rO oN [] [(73,vi (w64 (c+1)))] ?_;exact lD (k,d,f,(w64 (c+1))) [] h
     ·refine sO oN [] [(115,vB (m != (-1:Int)))] ?_;refine cH 38 h (fun I h=>?_) (fun I h=>?_)
      ·refine rO oN [28,34,115] [(19,vi m),(22,vi (w64 (c+1)))] ?_;exact jD (m,(w64 (c+1))) [] h
      ·refine kD ?_;exact jD (e,g) [] h
    ·refine xD (i:=0) ?_;exact jD (e,g) [] h
theorem zgo (a:zh) (t:(List Int)) (w0:ByteArray) (res:Int) (res_1:Int)
 (h:(∃ (r:Int→Int→List Int→Int→Prop) (y:Int→Int→List Int→Int→Nat),r (-1) 0 t 0∧(∀ (f:Int) (j:Int) (c:List Int) (i:Int),r f j c i→(ck (decide (i < (↑(ByteArray.size w0):Int)) && decide ((↑(List.length c):Int) > 0)) (∃ (s:List Int→Int→Int→Prop) (w:List Int→Int→Int→Nat),s ([]) (-1) 0∧(∀ (d:List Int) (b:Int) (e:Int),s d b e→(ck (decide (e < (↑(List.length c):Int))) (∃ v:List Int→Int→Prop,(∀ (g:List Int) (k:Int),v g k→(s g k (w64 (e+1))∧w g k (w64 (e+1)) < w d b e))∧(0≤e)∧e < ↑(List.length c)∧(0≤gd c e)∧gd c e < ↑(List.length a.Sets)∧(0≤i)∧i < ↑(ByteArray.size w0)∧(∃ A:Bool,zbx (gd a.Sets (gd c e)) (w64 (↑(UInt8.toNat (byteAt w0 i)):Int)) A∧(ck (!A) (v d b) ((0≤gd c e)∧gd c e < ↑(List.length a.Follow)∧(∃ p:List Int,zA d (gd a.Follow (gd c e)) p∧(0≤gd c e)∧gd c e < ↑(List.length a.Ends)∧((gd a.Ends (gd c e))=true→((decide (b < 0))=false→(0≤gd c e)))∧((gd a.Ends (gd c e))=true→((decide (b < 0))=false→gd c e < ↑(List.length a.Owner)))∧(ck (gd a.Ends (gd c e) && (decide (b < 0) || decide (gd a.Owner (gd c e) < b))) ((0≤gd c e)∧gd c e < ↑(List.length a.Owner)∧v p (gd a.Owner (gd c e))) (v p b))))))) (∃ B:Int→Int→Prop,(∀ (l:Int) (m:Int),B l m→(r l m d (w64 (i+1))∧y l m d (w64 (i+1)) < y f j c i))∧(ck (decide (b≥0)) (B b (w64 (i+1))) (B f j)))))) (res=f∧res_1=j))))):zb1 a t w0 res res_1:=by
 unfold zb1;have kk:=cfOk [85,86] 87;refine fD (x:=bodyOf Tryz.f21) kk Tryz.func21 ?_;refine wkS [1,4,7] [(1,zF a),(4,vL za t),(7,vS w0)] (by kernel_rfl) ?_;refine sO oN [1] [(10,.ptr 20 0),(20,zF a)] ?_;refine sO oN [] [(25,vi (-1)),(28,vi 0)] ?_;refine sO oN [4] [(31,vL za t)] ?_;refine qD ?_;refine sO oN [] [(34,vi 0)] ?_;refine bD (id:=0) ?_;obtain ⟨r,y,F,H⟩:=h;refine loE [] (u4 fun f j c i=>[(25,vi f),(28,vi j),(31,vL za c),(34,vi i)]) (u4 r) (u4 y) ((-1),0,t,0) [] F ?_;rintro ⟨f,j,c,i⟩ hi;have h:=H f j c i hi;refine qD ?_;refine sM [] [(76,vB (decide (i < (↑(ByteArray.size w0):Int)) && decide ((↑(List.length c):Int) > 0)))] ?_ (fun D=>?_)
 ·refine cH 25 h (fun Q h=>?_) (fun Q h=>?_)
  ·refine kD ?_;show Sem _ _ _ _ _;refine wkD [76] ?_;refine qD ?_;refine bD (id:=1) ?_;refine sO oN [] [(37,oL 3 za ([]))] ?_;refine sO oN [] [(40,vi (-1))] ?_;refine qD ?_;refine sO oN [] [(43,vi 0)] ?_;refine bD (id:=2) ?_;obtain ⟨s,w,E,M⟩:=h;refine loE [] (u3 fun d b e=>[(37,vL za d),(40,vi b),(43,vi e)]) (u3 s) (u3 w) (([]),(-1),0) [(37,0)] E ?_;rintro ⟨d,b,e⟩ hi;have h:=M d b e hi;refine qD ?_;refine sV oN [] (List.length (List.map za c)) (List.length c) (fun q=>[(94,vB (decide (e < (↑(q):Int))))]) ?_;refine cH 31 h (fun Y h=>?_) (fun Y h=>?_)
   ·refine kD ?_;show Sem _ _ _ _ _;refine wkD [94] ?_;obtain ⟨v,V,h⟩:=h;refine sjE (u2 v) [] (u2 fun g k=>[(37,vL za g),(40,vi k)]) ?_ ?_
    ·rintro ⟨g,k⟩ hj;have h:=V g k hj;refine rO oN [] [(43,vi (w64 (e+1)))] ?_;exact lD (g,k,(w64 (e+1))) [] h
    ·refine bD (id:=3) ?_;obtain ⟨a1,h⟩:=h;obtain ⟨a0,h⟩:=h;refine sO (xo za rfl a1 a0 oN) [] [(46,vi (gd c e))] ?_;refine qD ?_;obtain ⟨a7,h⟩:=h;obtain ⟨b0,h⟩:=h;obtain ⟨N,h⟩:=h;obtain ⟨a9,h⟩:=h;obtain ⟨A,W,h⟩:=h;refine sO (xo zb (zac _) a7 b0 (nd N (op (.y (byteAt w0 i)) (zam w0 i N a9) (ca W oN)))) [] [(145,vB (!A))] ?_;refine cH 48 h (fun U h=>?_) (fun U h=>?_)
     ·refine xD (i:=3) ?_;exact jD (d,b) [] h
     ·refine kD ?_;show Sem _ _ _ _ _;refine wkD [145] ?_;obtain ⟨a6,h⟩:=h;obtain ⟨a5,h⟩:=h;obtain ⟨p,R,h⟩:=h;refine sO (xo ze rfl a6 a5 (ca R oN)) [] [(37,vL za p)] ?_;obtain ⟨J,h⟩:=h;obtain ⟨I,h⟩:=h;obtain ⟨a8,a4,h⟩:=h;refine sM [] [(220,vB (gd a.Ends (gd c e) && (decide (b < 0) || decide (gd a.Owner (gd c e) < b))))] ?_ (fun D=>?_)
      ·refine cH 73 h (fun X h=>?_) (fun X h=>?_)
       ·obtain ⟨a3,h⟩:=h;obtain ⟨a2,h⟩:=h;refine rO (xo za rfl a3 a2 oN) [46,220] [(40,vi (gd a.Owner (gd c e)))] ?_;exact jD (p,(gd a.Owner (gd c e))) [] h
       ·refine kD ?_;exact jD (p,b) [] h
      ·rcases eft (gd a.Ends (gd c e)) with n | n
       ·rcases eft (decide (b < 0)) with o | o
        ·refine sO (xo zn rfl J I (g2 n o 1115555555163 oN)) [] [(220,vB true)] ?_;exact Sem.cast (by try rw [n];try rw [o];kernel_rfl) D
        ·refine sO (xo zn rfl J I (g2 o n 4442222 (xo za rfl ((a8 n) o) ((a4 n) o) (g2 n o 555163 oN)))) [] [(220,vB (decide (gd a.Owner (gd c e) < b)))] ?_;exact Sem.cast (by try rw [n];try rw [o];kernel_rfl) D
       ·refine sO (xo zn rfl J I (g1 n 11113 oN)) [] [(220,vB false)] ?_;exact Sem.cast (by try rw [n];kernel_rfl) D
   ·refine xD (i:=2) ?_;show Sem _ _ _ _ _;refine wkD [31,43,94] ?_;obtain ⟨B,S,h⟩:=h;refine sjE (u2 B) [40] (u2 fun l m=>[(25,vi l),(28,vi m)]) ?_ ?_
    ·rintro ⟨l,m⟩ hj;have h:=S l m hj;refine rO oN [37] [(31,vL za d)] ?_;show Sem _ _ _ _ _;refine rO oN [] [(34,vi (w64 (i+1)))] ?_;exact lD (l,m,d,(w64 (i+1))) [] h
    ·refine sO oN [] [(241,vB (decide (b≥0)))] ?_;refine cH 80 h (fun O h=>?_) (fun O h=>?_)
     ·refine rO oN [40,241] [(25,vi b),(28,vi (w64 (i+1)))] ?_;exact jD (b,(w64 (i+1))) [] h
     ·refine kD ?_;exact jD (f,j) [] h
  ·refine xD (i:=0) ?_;show Sem _ _ _ _ _;refine wkD [7,10,20,31,34,76] ?_;refine sO oN [25,28] [(19,vi f),(22,vi j)] ?_;refine tD ?_;obtain ⟨b2,b1⟩:=h;subst res res_1;exact (endQ []).1
 ·rcases eft (decide (i < (↑(ByteArray.size w0):Int))) with u | u
  ·refine sV (g1 u 1113 oN) [] (List.length (List.map za c)) (List.length c) (fun q=>[(76,vB (decide ((↑(q):Int) > 0)))]) ?_;exact Sem.cast (by try rw [u];kernel_rfl) D
  ·refine sO (g1 u 1113 oN) [] [(76,vB false)] ?_;exact Sem.cast (by try rw [u];kernel_rfl) D
end Go.Ev
namespace Go.Ev
open Go Go.Proofs
set_option maxRecDepth 8000
set_option maxHeartbeats 1000000
theorem zdX (l:(List Int)) (t:(List Int)) (r:Int) (res:Bool)
 (h:(∃ r0:zC,zbP l false r0∧(∃ y:ByteArray,zbQ t y∧(∃ p:zh,∃ f:Int,zbV r0 p f∧(∃ c:zh,∃ w:Int,zbg r0 c w∧(∃ D:Bool,zaZ p c D∧(ck (!D) (res=false) (ck (f != w) (res=false) (ck (f != 0) (res=false) (∃ B:Bool,zch c B∧(ck (!B) (res=false) (∃ (o:List Int→Int→Prop) (E:List Int→Int→Nat),o ([]) 0∧(∀ (a:List Int) (i:Int),o a i→(ck (decide (i < (↑(List.length (List.map zb c.Sets)):Int)) && decide (i < 64)) (∃ J:List Int→Prop,(∀ (d:List Int),J d→(o d (w64 (i+1))∧E d (w64 (i+1)) < E a i))∧(0≤i)∧(ck (Int.tmod (Int.fdiv r (2 ^ Min.min (Int.toNat i) (IntKind.bits IntKind.u64))) 2 == 1) (((List.length a+1) * 8≤2 ^ 47)∧J (a++[i])) (J a))) (((1+List.length c.Starts) * 24≤2 ^ 47)∧(∃ (n:Int→Prop) (F:Int→Nat),n 0∧(∀ (e:Int),n e→(ck (decide (e < (↑(List.length c.Starts+1):Int))) ((0≤e)∧(Int.toNat e < List.length c.Starts+1)∧e < ↑(List.length (a :: c.Starts))∧(∃ j:Int,∃ m:Int,zeC c (gd (a :: c.Starts) e) y j m∧(∃ k:Int,∃ g:Int,zb1 c (gd (a :: c.Starts) e) y k g∧(ck (j != k || m != g) (res=false) (n (w64 (e+1))∧F (w64 (e+1)) < F e))))) (∃ s:Bool,zc6 s∧(res=s)))))))))))))))))))):zbL l t r res:=by
 unfold zbL;have kk:=cfOk [] 107;refine fD (x:=bodyOf Tryz.f5) kk Tryz.func5 ?_;refine wkS [1,4,7] [(1,vL zal l),(4,vL zal t),(7,vI .u64 r)] (by kernel_rfl) ?_;refine sO oN [] [] ?_;obtain ⟨r0,a8,h⟩:=h;obtain ⟨y,b0,h⟩:=h;refine sO (ca a8 (ca b0 oN)) [1,4] [(22,.ptr 44 0),(25,vS y),(44,.agg [vL zm r0.Conds,vB r0.Default,oL 60 zr r0.Rules])] ?_;obtain ⟨p,f,b6,h⟩:=h;refine sO (ca (Eq.mp (by unfold zbV;(try simp only [List.drop_zero,List.take_length]);first | done | simp only [nm,enq]:zbV r0 p f=CallE Tryz.prog 15 [.agg [vL zm r0.Conds,vB r0.Default,.f (FV.sl (List.take (List.length (List.map zr r0.Rules)) (List.drop 0 (List.map zr r0.Rules))))]] [] (.tup [zF p,vi f]) []) b6) oN) [] [(28,.ptr 56 0),(31,vi f),(44,zaa r0),(56,zF p)] ?_;obtain ⟨c,w,a9,h⟩:=h;refine sO (ca a9 oN) [22,44] [(34,.ptr 68 0),(37,vi w),(68,zF c)] ?_;refine qD ?_;obtain ⟨D,S,h⟩:=h;rcases eft (!D) with A | A
 ·have h:=h.1 A;refine sO (ca S (g1 A 22238878887 oN)) [28,31,37,56] [(157,vB true)] ?_;refine cD (t:=52) (b:=true) (fun U=>?_) (fun U=>?_)
  ·refine sO oN [7,25,34,68,157] [(19,vB false)] ?_;refine tD ?_;subst h;exact (endQ []).1
  ·cases U
 ·have h:=h.2 A;rcases eft (f != w) with I | I
  ·have h:=h.1 I;refine sO (ca S (g2 I A 55562238887 oN)) [28,31,37,56] [(157,vB true)] ?_;refine cD (t:=52) (b:=true) (fun W=>?_) (fun W=>?_)
   ·refine sO oN [7,25,34,68,157] [(19,vB false)] ?_;refine tD ?_;subst h;exact (endQ []).1
   ·cases W
  ·have h:=h.2 I;rcases eft (f != 0) with H | H
   ·have h:=h.1 H;refine sO (ca S (g1 A 2223 (g2 H I 5562223 oN))) [28,31,37,56] [(157,vB true)] ?_;refine cD (t:=52) (b:=true) (fun V=>?_) (fun V=>?_)
    ·refine sO oN [7,25,34,68,157] [(19,vB false)] ?_;refine tD ?_;subst h;exact (endQ []).1
    ·cases V
   ·have h:=h.2 H;obtain ⟨B,a7,h⟩:=h;refine sO (ca S (g1 A 2223 (g2 H I 55622 (ca a7 (g1 H 23 oN))))) [28,31,37,56] [(157,vB (!B))] ?_;refine cH 52 h (fun b3 h=>?_) (fun b3 h=>?_)
    ·refine sO oN [7,25,34,68,157] [(19,vB false)] ?_;refine tD ?_;subst h;exact (endQ []).1
    ·refine kD ?_;show Sem _ _ _ _ _;refine wkD [157] ?_;refine sO oN [] [(40,oL 3 za ([]))] ?_;refine qD ?_;refine sO oN [] [(43,vi 0)] ?_;refine bD (id:=0) ?_;obtain ⟨o,E,M,Q⟩:=h;refine loE [] (u2 fun a i=>[(40,oL 3 za a),(43,vi i)]) (u2 o) (u2 E) (([]),0) [] M ?_;rintro ⟨a,i⟩ hi;have h:=Q a i hi;refine qD ?_;refine sM [] [(184,vB (decide (i < (↑(List.length (List.map zb c.Sets)):Int)) && decide (i < 64)))] ?_ (fun O=>?_)
     ·refine cH 61 h (fun X h=>?_) (fun X h=>?_)
      ·refine kD ?_;show Sem _ _ _ _ _;refine wkD [184] ?_;obtain ⟨J,a6,h⟩:=h;refine sjE J [] (fun d=>[(40,oL 3 za d)]) ?_ ?_
       ·rintro d hj;have h:=a6 d hj;refine rO oN [] [(43,vi (w64 (i+1)))] ?_;exact lD (d,(w64 (i+1))) [] h
       ·refine bD (id:=1) ?_;obtain ⟨b1,h⟩:=h;refine sO (nd b1 (nd (show (2:Int)≠(0:Int) from by first | decide | rfl | trivial) oN)) [] [(205,vB (Int.tmod (Int.fdiv r (2 ^ Min.min (Int.toNat i) (IntKind.bits IntKind.u64))) 2 == 1))] ?_;refine cH 68 h (fun a3 h=>?_) (fun a3 h=>?_)
        ·obtain ⟨b2,h⟩:=h;refine rOE (apo za a b2 oN) [205] [(40,.own 3 (List.map za a++[FV.pv (Value.int IntKind.i64 i)]))] [(40,oL 3 za (a++[i]))] ?_;exact jD (a++[i]) [] h
        ·refine kD ?_;exact jD a [] h
      ·refine xD (i:=0) ?_;show Sem _ _ _ _ _;refine wkD [7,43,184] ?_;refine qD ?_;obtain ⟨b5,h⟩:=h;refine sOE (nd (show ((1:Nat)+List.length (List.map ze c.Starts)) * (24:Nat)≤(2:Nat) ^ (47:Nat) from by simpa only [nm] using b5) (nd (show List.all (List.map ze c.Starts) (FV.fits (1:Nat))=true from by first | exact zef _ | exact keysencs_i64 _ | rfl | simp [isByteF,FV.fits,FV.size,FV.cells,FV.one,ze]) oN)) [40] [(232,.own 40 (FV.sl (List.take (List.length (List.map za a)) (List.drop 0 (List.map za a))) :: List.map ze c.Starts)),(235,vi ((↑(List.length (FV.sl (List.take (List.length (List.map za a)) (List.drop 0 (List.map za a))) :: List.map ze c.Starts)):Int))),(238,vi 0)] [(232,oL 40 ze (a :: c.Starts)),(235,vi ((↑(List.length c.Starts+1):Int))),(238,vi 0)] ?_;refine bD (id:=2) ?_;obtain ⟨n,F,N,R⟩:=h;refine loE [] (fun e=>[(238,vi e)]) n F 0 [] N ?_;rintro e hi;have h:=R e hi;refine sO oN [] [(241,vB (decide (e < (↑(List.length c.Starts+1):Int))))] ?_;refine qD ?_;refine cH 80 h (fun Y h=>?_) (fun Y h=>?_)
       ·refine kD ?_;show Sem _ _ _ _ _;refine wkD [241] ?_;refine qD ?_;refine bD (id:=3) ?_;obtain ⟨a5,h⟩:=h;obtain ⟨b4,h⟩:=h;obtain ⟨b7,h⟩:=h;refine sO (nd a5 (nd (show Int.toNat e < List.length (List.map ze (a :: c.Starts)) from by simpa only [nm] using b4) (el (show (List.map ze (a :: c.Starts))[((0:Nat)+Int.toNat e:Nat)]?=some (fL za (gd (a :: c.Starts) e)) from by have:=zcs ze (a :: c.Starts) e _ rfl a5 b7;simpa only [nm,enq,ze] using this) oN))) [] [(49,vL za (gd (a :: c.Starts) e))] ?_;obtain ⟨j,m,a2,h⟩:=h;refine sO (ca a2 oN) [] [(52,vi j),(55,vi m)] ?_;obtain ⟨k,g,a4,h⟩:=h;refine sO (ca a4 oN) [49] [(58,vi k),(61,vi g)] ?_;refine sM [52,55,58,61] [(313,vB (j != k || m != g))] ?_ (fun O=>?_)
        ·refine cH 104 h (fun a0 h=>?_) (fun a0 h=>?_)
         ·refine sO oN [25,34,68,232,235,238,313] [(19,vB false)] ?_;refine tD ?_;subst h;exact (endQ []).1
         ·refine kD ?_;show Sem _ _ _ _ _;refine wkD [313] ?_;refine rO oN [] [(238,vi (w64 (e+1)))] ?_;exact lD (w64 (e+1)) [] h
        ·rcases eft (j != k) with v | v
         ·refine sO (g1 v 2223 oN) [52,55,58,61] [(313,vB true)] ?_;exact Sem.cast (by try rw [v];kernel_rfl) O
         ·refine sO (g1 v 2223 oN) [52,55,58,61] [(313,vB (m != g))] ?_;exact Sem.cast (by try rw [v];kernel_rfl) O
       ·refine xD (i:=2) ?_;show Sem _ _ _ _ _;refine wkD [25,34,68,232,235,238,241] ?_;obtain ⟨s,a1,h⟩:=h;refine sO (ca a1 oN) [] [(19,vB s)] ?_;refine tD ?_;subst h;exact (endQ []).1
     ·rcases eft (decide (i < (↑(List.length (List.map zb c.Sets)):Int))) with u | u
      ·refine sO (g1 u 113 oN) [] [(184,vB (decide (i < 64)))] ?_;exact Sem.cast (by try rw [u];kernel_rfl) O
      ·refine sO (g1 u 113 oN) [] [(184,vB false)] ?_;exact Sem.cast (by try rw [u];kernel_rfl) O
end Go.Ev
namespace Go.Ev
open Go Go.Proofs
def orBit (w:Int) (i:Int):Int:=IntKind.u64.wrap (BitVec.ofInt IntKind.u64.bits w ||| BitVec.ofInt IntKind.u64.bits (IntKind.u64.wrap (1 * 2 ^ min i.toNat IntKind.u64.bits))).toNat
def setAdd (s:zc) (i:Int):zc:=
 if i < 64 then { s with e0:=orBit s.e0 i } else if i < 128 then { s with e1:=orBit s.e1 (i - 64) } else if i < 192 then { s with e2:=orBit s.e2 (i - 128) } else { s with e3:=orBit s.e3 (i - 192) }
theorem w64_id0 {n:Int} (h0:-2 ^ 63≤n) (h1:n < 2 ^ 63):w64 n=n:=wrap64 (by omega) (by omega)
theorem quot64 (i:Int) (h0:0≤i) (h1:i < 256):w64 (Int.tdiv i 64)=i / 64∧i.tmod 64=i - 64 * (i / 64)∧0≤i.tmod 64:=by
 rw [Int.tdiv_eq_ediv_of_nonneg h0,Int.tmod_eq_emod_of_nonneg h0]
 exact ⟨w64_id0 (by omega) (by omega),by omega,by omega⟩
theorem zdV (s:zc) (i:Int) (h0:0≤i) (h1:i < 256):zbw s i (setAdd s i):=by
 obtain ⟨q,m,hm⟩:=quot64 i h0 h1
 refine zgs s i _ ?_
 rw [q,m]
 refine ⟨by omega,fun h=>⟨fun _=>by omega,?_⟩,fun h=>⟨fun _=>by omega,?_⟩,fun h=>⟨fun _=>by omega,?_⟩,fun h=>⟨fun _=>by omega,?_⟩⟩
 all_goals
  have h:=of_decide_eq_true h
  rw [h]
 ·simp [setAdd,show i < 64 by omega,orBit]
 ·simp [setAdd,show ¬ i < 64 by omega,show i < 128 by omega,orBit]
 ·simp [setAdd,show ¬ i < 64 by omega,show ¬ i < 128 by omega,show i < 192 by omega,orBit]
 ·simp [setAdd,show ¬ i < 64 by omega,show ¬ i < 128 by omega,show ¬ i < 192 by omega,orBit]
def bitOf (w:Int) (i:Int):Bool:=IntKind.u64.wrap (BitVec.ofInt IntKind.u64.bits (w.fdiv (2 ^ min i.toNat IntKind.u64.bits)) &&& BitVec.ofInt IntKind.u64.bits 1).toNat == 1
def setHas (s:zc) (i:Int):Bool:=
 if i < 0 then false else if i < 64 then bitOf s.e0 i else if i < 128 then bitOf s.e1 (i - 64) else if i < 192 then bitOf s.e2 (i - 128) else if i < 256 then bitOf s.e3 (i - 192) else false
theorem has_ok (s:zc) (i:Int):zbx s i (setHas s i):=by
 refine zgu s i _ ⟨fun g=>⟨fun g1=>?_,fun g1=>?_⟩,fun g=>?_⟩
 ·have g:=of_decide_eq_true g
  have g1:=of_decide_eq_true g1
  obtain ⟨q,m,hm⟩:=quot64 i g g1
  rw [q,m]
  refine ⟨by omega,fun h=>⟨fun _ _ _=>by omega,?_⟩,fun h=>⟨fun _ _ _=>by omega,?_⟩,fun h=>⟨fun _ _ _=>by omega,?_⟩,fun h=>⟨fun _ _ _=>by omega,?_⟩⟩
  all_goals
   have h:=of_decide_eq_true h
   rw [h]
  ·simp [setHas,show ¬ i < 0 by omega,show i < 64 by omega,bitOf]
  ·simp [setHas,show ¬ i < 0 by omega,show ¬ i < 64 by omega,show i < 128 by omega,bitOf]
  ·simp [setHas,show ¬ i < 0 by omega,show ¬ i < 64 by omega,show ¬ i < 128 by omega,show i < 192 by omega,bitOf]
  ·simp [setHas,show ¬ i < 0 by omega,show ¬ i < 64 by omega,show ¬ i < 128 by omega,show ¬ i < 192 by omega,show i < 256 by omega,bitOf]
 ·have g:=of_decide_eq_true g
  have g1:=of_decide_eq_false g1
  simp [setHas,show ¬ i < 0 by omega,show ¬ i < 64 by omega,show ¬ i < 128 by omega,show ¬ i < 192 by omega,show ¬ i < 256 by omega]
 ·have g:=of_decide_eq_false g
  simp [setHas,show i < 0 by omega]
end Go.Ev
namespace Go.Ev
open Go Go.Proofs
theorem zK {x:Int} (h0:-9223372036854775808≤x) (h1:x≤9223372036854775807):w64 x=x:=wrap64 h0 (by omega)
def setTo (p:Int→Bool):Nat→zc
 | 0=>⟨0,0,0,0⟩
 | n+1=>if p n then setAdd (setTo p n) n else setTo p n
def mkSet (p:Int→Bool):zc:=setTo p 256
theorem zg4 (lo hi:Int):za5 lo hi (mkSet fun i=>decide (i≥lo) && decide (i≤hi)):=by
 refine zg1 _ _ _ ⟨fun e0 e1 e2 e3 b=>∃ n:Nat,n≤256∧b=n∧zc.mk e0 e1 e2 e3=setTo (fun i=>decide (i≥lo) && decide (i≤hi)) n,fun _ _ _ _ b=>(256 - b).toNat,⟨0,by omega,rfl,rfl⟩,?_⟩
 rintro e0 e1 e2 e3 b ⟨n,hn,rfl,hs⟩
 refine ⟨fun hb=>?_,fun hb=>?_⟩
 ·have hb:n < 256:=by have:=of_decide_eq_true hb;omega
  have hw:w64 ((n:Int)+1)=((n+1:Nat):Int):=zK (by omega) (by omega)
  refine ⟨fun a b c d=>zc.mk a b c d=setTo (fun i=>decide (i≥lo) && decide (i≤hi)) (n+1),fun a b c d h=>⟨⟨n+1,by omega,hw,h⟩,by rw [hw];show (256 - _:Int).toNat < (256 - _:Int).toNat;omega⟩,fun ht=>⟨_,zdV _ _ (by omega) (by omega),?_⟩,fun ht=>?_⟩
  ·simp only [setTo,ht,if_true,hs]
  ·simp only [setTo,ht,hs];rfl
 ·have hb:n=256:=by have:=of_decide_eq_false hb;omega
  subst hb
  exact hs.symm
theorem setNot_ok (s:zc):zb3 s (mkSet fun i=>!setHas s i):=by
 refine zgt _ _ ⟨fun e0 e1 e2 e3 b=>∃ n:Nat,n≤256∧b=n∧zc.mk e0 e1 e2 e3=setTo (fun i=>!setHas s i) n,fun _ _ _ _ b=>(256 - b).toNat,⟨0,by omega,rfl,rfl⟩,?_⟩
 rintro e0 e1 e2 e3 b ⟨n,hn,rfl,hs⟩
 refine ⟨fun hb=>?_,fun hb=>?_⟩
 ·have hb:n < 256:=by have:=of_decide_eq_true hb;omega
  have hw:w64 ((n:Int)+1)=((n+1:Nat):Int):=zK (by omega) (by omega)
  refine ⟨fun a b c d=>zc.mk a b c d=setTo (fun i=>!setHas s i) (n+1),fun a b c d h=>⟨⟨n+1,by omega,hw,h⟩,by rw [hw];show (256 - _:Int).toNat < (256 - _:Int).toNat;omega⟩,_,has_ok _ _,fun ht=>⟨_,zdV _ _ (by omega) (by omega),?_⟩,fun ht=>?_⟩
  ·simp only [setTo,ht,if_true,hs]
  ·simp only [setTo,ht,hs];rfl
 ·have hb:n=256:=by have:=of_decide_eq_false hb;omega
  subst hb
  exact hs.symm
theorem char3_ok (b:Int):za3 b ⟨2,mkSet fun i=>decide (i≥b) && decide (i≤b),0,0,[]⟩:=by
 exact zfY _ _ ⟨_,zg4 _ _,rfl⟩
end Go.Ev
namespace Go.Ev.Pl
open Go Go.Ev
abbrev SS (l:List Int):Prop:=l.Pairwise (· < ·)
theorem zhn:∀ {a b:List Int},SS a→SS b→(∀ x,x∈a↔x∈b)→a=b
 | [],[],_,_,_=>rfl
 | [],y :: b,_,_,h=>by have:=(h y).2 (List.mem_cons_self ..);simp at this
 | x :: a,[],_,_,h=>by have:=(h x).1 (List.mem_cons_self ..);simp at this
 | x :: a,y :: b,ha,hb,h=>by
   have ha:=List.pairwise_cons.1 ha
   have hb:=List.pairwise_cons.1 hb
   have hxy:x=y:=by
    rcases List.mem_cons.1 ((h x).1 (List.mem_cons_self ..)) with e | e
    ·exact e
    ·rcases List.mem_cons.1 ((h y).2 (List.mem_cons_self ..)) with e' | e'
     ·exact e'.symm
     ·have:=hb.1 x e;have:=ha.1 y e';omega
   subst hxy
   rw [zhn ha.2 hb.2]
   intro z
   constructor
   ·intro hz
    rcases List.mem_cons.1 ((h z).1 (List.mem_cons_of_mem _ hz)) with e | e
    ·subst e;have:=ha.1 z hz;omega
    ·exact e
   ·intro hz
    rcases List.mem_cons.1 ((h z).2 (List.mem_cons_of_mem _ hz)) with e | e
    ·subst e;have:=hb.1 z hz;omega
    ·exact e
def join (a b:List Int):List Int:=compactInts (sortInts (a++b))
theorem upTo_spec (zs:List Int) (hs:zs.Pairwise (·≤·)):∀ m,m≤zs.length→SS (Lib.compactUpTo zs.toArray m)∧∀ x,x∈Lib.compactUpTo zs.toArray m↔x∈zs.take m:=by
 intro m
 induction m with
 | zero=>intro _;simp [Lib.compactUpTo]
 | succ m ih=>
   intro hm
   obtain ⟨h1,h2⟩:=ih (by omega)
   have hg:zs.toArray[m]! = zs[m]'(by omega):=by simp [getElem!_pos,show m < zs.length by omega]
   have ht:∀ x,x∈zs.take (m+1)↔x∈zs.take m∨x=zs[m]'(by omega):=by
    intro x;rw [List.take_succ_eq_append_getElem (by omega),List.mem_append,List.mem_singleton]
   have hle:∀ x∈zs.take m,x≤zs[m]'(by omega):=by
    intro x hx
    obtain ⟨i,hi,rfl⟩:=List.mem_iff_getElem.1 hx
    simp only [List.length_take] at hi
    rw [List.getElem_take]
    exact List.pairwise_iff_getElem.1 hs i m (by omega) (by omega) (by omega)
   rw [Lib.compactUpTo_succ,hg]
   by_cases hk:Lib.keeps zs.toArray m=true
   ·rw [if_pos hk]
    refine ⟨List.pairwise_append.2 ⟨h1,by simp,fun x hx y hy=>?_⟩,fun x=>?_⟩
    ·simp at hy;subst hy
     have hx:=(h2 x).1 hx
     have h3:=hle x hx
     simp only [Lib.keeps,decide_eq_true_eq] at hk
     rcases hk with rfl | hk
     ·simp at hx
     ·have hm0:m≠0:=by rintro rfl;simp at hx
      have hg':zs.toArray[m - 1]! = zs[m - 1]'(by omega):=by simp [getElem!_pos,show m - 1 < zs.length by omega]
      rw [hg,hg'] at hk
      obtain ⟨i,hi,rfl⟩:=List.mem_iff_getElem.1 hx
      simp only [List.length_take] at hi
      rw [List.getElem_take] at h3 ⊢
      have h5:zs[i]'(by omega)≤zs[m - 1]'(by omega):=by
       by_cases e:i=m - 1
       ·subst e;exact Int.le_refl _
       ·exact List.pairwise_iff_getElem.1 hs i (m - 1) (by omega) (by omega) (by omega)
      have h6:zs[m - 1]'(by omega)≤zs[m]'(by omega):=List.pairwise_iff_getElem.1 hs (m - 1) m (by omega) (by omega) (by omega)
      have:zs[m - 1]'(by omega)≠zs[m]'(by omega):=fun e=>hk e.symm
      omega
    ·rw [ht];simp [h2]
   ·rw [if_neg hk]
    refine ⟨by simpa using h1,fun x=>?_⟩
    rw [List.append_nil,ht,h2]
    constructor
    ·exact .inl
    ·rintro (h | rfl)
     ·exact h
     ·simp only [Lib.keeps,decide_eq_true_eq,not_or,Decidable.not_not] at hk
      obtain ⟨hm0,hk⟩:=hk
      have hg':zs.toArray[m - 1]! = zs[m - 1]'(by omega):=by simp [getElem!_pos,show m - 1 < zs.length by omega]
      rw [hg,hg'] at hk
      rw [hk]
      refine List.mem_iff_getElem.2 ⟨m - 1,by simp;omega,by rw [List.getElem_take]⟩
theorem sort_spec (l:List Int):(sortInts l).Pairwise (·≤·)∧∀ x,x∈sortInts l↔x∈l:=by
 refine ⟨?_,fun x=>by simp [sortInts]⟩
 have:=List.pairwise_mergeSort (le:=fun x y:Int=>decide (x≤y)) (fun a b c h1 h2=>by simp at *;omega) (fun a b=>by simp;omega) l
 exact this.imp (by simp)
theorem zb4 (a b:List Int):SS (join a b)∧∀ x,x∈join a b↔x∈a∨x∈b:=by
 obtain ⟨h1,h2⟩:=sort_spec (a++b)
 obtain ⟨h3,h4⟩:=upTo_spec _ h1 _ (Nat.le_refl _)
 refine ⟨h3,fun x=>?_⟩
 show x∈Lib.compactUpTo _ _↔_
 rw [h4,List.take_length,h2,List.mem_append]
theorem sort_len (l:List Int):(sortInts l).length=l.length:=by simp [sortInts]
theorem join_len (a b:List Int):(join a b).length≤a.length+b.length:=by
 have:=Lib.compact_length_le (sortInts (a++b))
 rw [sort_len,List.length_append] at this
 exact this
def addL:List Int→List Int→List Int
 | [],b=>b
 | a,[]=>a
 | x :: a,y :: b=>if x < y then x :: addL a (y :: b) else if y < x then y :: addL (x :: a) b else x :: addL a b
 termination_by a b=>a.length+b.length
theorem zcP:∀ (a b:List Int) (x:Int),x∈addL a b↔x∈a∨x∈b
 | [],b,z=>by simp [addL]
 | x :: a,[],z=>by simp [addL]
 | x :: a,y :: b,z=>by
   rw [addL]
   split
   ·rw [List.mem_cons,zcP a (y :: b)];grind
   ·split
    ·rw [List.mem_cons,zcP (x :: a) b];grind
    ·rw [List.mem_cons,zcP a b];grind
 termination_by a b=>a.length+b.length
theorem zgk:∀ {a b:List Int},SS a→SS b→SS (addL a b)
 | [],b,_,hb=>by rw [addL];exact hb
 | x :: a,[],ha,_=>by rw [addL];exact ha;simp
 | x :: a,y :: b,ha,hb=>by
   have ha':=List.pairwise_cons.1 ha
   have hb':=List.pairwise_cons.1 hb
   rw [addL]
   split
   ·refine List.pairwise_cons.2 ⟨fun z hz=>?_,zgk ha'.2 hb⟩
    rw [zcP] at hz;grind
   ·split
    ·refine List.pairwise_cons.2 ⟨fun z hz=>?_,zgk ha hb'.2⟩
     rw [zcP] at hz;grind
    ·refine List.pairwise_cons.2 ⟨fun z hz=>?_,zgk ha'.2 hb'.2⟩
     rw [zcP] at hz;grind
 termination_by a b=>a.length+b.length
theorem zeb {a b:List Int} (ha:SS a) (hb:SS b):join a b=addL a b:=
 zhn (zb4 a b).1 (zgk ha hb) fun x=>by rw [(zb4 a b).2,zcP]
end Go.Ev.Pl
namespace Go.Ev.Pl
open Go Go.Ev
theorem zK {x:Int} (h0:-9223372036854775808≤x) (h1:x≤9223372036854775807):w64 x=x:=wrap64 h0 (by omega)
theorem rx_sizeOf {x y:zi} (h:y∈x.Kids):SizeOf.sizeOf y < SizeOf.sizeOf x:=by
 cases x with
 | mk k s lo hi kids=>
   have:=List.sizeOf_lt_of_mem h
   simp only [zi.mk.sizeOf_spec]
   simp at this
   omega
theorem rxInd {P:zi→Prop} (h:∀ x,(∀ y∈x.Kids,P y)→P x) (x:zi):P x:=
 h x fun y hy=>rxInd h y
 termination_by SizeOf.sizeOf x
 decreasing_by exact rx_sizeOf hy
mutual
def cata {α:Type} (f:zi→List α→α):zi→α
 | ⟨k,s,lo,hi,kids⟩=>f ⟨k,s,lo,hi,kids⟩ (cataL f kids)
def cataL {α:Type} (f:zi→List α→α):List zi→List α
 | []=>[]
 | x :: r=>cata f x :: cataL f r
end
theorem cataL_map {α:Type} (f:zi→List α→α):∀ l,cataL f l=l.map (cata f)
 | []=>rfl
 | x :: r=>by rw [cataL,cataL_map f r];rfl
theorem zej {α:Type} (f:zi→List α→α) (x:zi):cata f x=f x (x.Kids.map (cata f)):=by
 cases x;rw [cata,cataL_map]
def Wf (x:zi):Prop:=cata (α:=Prop) (fun x l=>x.Kids.length < 1099511627776∧∀ p∈l,p) x
theorem zhk (x:zi):Wf x↔x.Kids.length < 1099511627776∧∀ y∈x.Kids,Wf y:=by
 show cata (α:=Prop) _ x↔_
 rw [zej]
 constructor
 ·rintro ⟨h1,h2⟩;exact ⟨h1,fun y hy=>h2 _ (List.mem_map.2 ⟨y,hy,rfl⟩)⟩
 ·rintro ⟨h1,h2⟩
  refine ⟨h1,fun p hp=>?_⟩
  obtain ⟨y,hy,rfl⟩:=List.mem_map.1 hp
  exact h2 y hy
theorem zT {α:Type} [Inhabited α] {l:List α} {i:Nat} (h:i < l.length):gd l (i:Int)=l[i]:=by
 simp [gd,List.getD,h]
def timesN (x:zi):Nat:=(max 1 (min 1000 (max x.Lo x.Hi))).toNat
def sizeN:zi→Nat:=cata fun x l=>if x.Kind=2 then 1 else if 3≤x.Kind∧x.Kind≤5 then l.sum * (if x.Kind=5 then timesN x else 1) else 0
theorem zcK (x:zi):sizeN x=if x.Kind=2 then 1 else if 3≤x.Kind∧x.Kind≤5 then (x.Kids.map sizeN).sum * (if x.Kind=5 then timesN x else 1) else 0:=zej _ x
def sizeZ (x:zi):Int:=min (sizeN x:Int) (1000000:Int)
theorem zfl {l:List Nat} {i:Nat} (h:i < l.length):(l.take (i+1)).sum=(l.take i).sum+l[i]:=by
 rw [List.take_succ_eq_append_getElem h,List.sum_append];simp
theorem rxSize_ok:∀ x,Wf x→zdv x (sizeZ x):=by
 refine rxInd fun x ih hw=>?_
 obtain ⟨hl,hk⟩:=(zhk x).1 hw
 refine W_rx_Size x _ ⟨fun h=>?_,fun h=>⟨fun h2=>?_,fun h2=>?_⟩⟩
 ·have h:x.Kind=2:=by simpa using h
  simp [sizeZ,zcK,h];omega
 ·have:x.Kind < 3∨x.Kind > 5:=by simpa using h2
  have h:x.Kind≠2:=by simpa using h
  rw [sizeZ,zcK,if_neg h,if_neg (by omega)];omega
 ·have h:x.Kind≠2:=by simpa using h
  have h2:3≤x.Kind∧x.Kind≤5:=by simp at h2;omega
  have hT:(timesN x:Int)=max 1 (min 1000 (max x.Lo x.Hi)):=by simp only [timesN];omega
  refine ⟨fun n t=>∃ i:Nat,t=i∧i≤x.Kids.length∧n=min (((x.Kids.map sizeN).take i).sum:Int) 1000000,fun n t=>(x.Kids.length - t).toNat,⟨0,rfl,by omega,by simp;omega⟩,?_⟩
  rintro n t ⟨i,rfl,hi,hn⟩
  refine ⟨fun ht=>?_,fun ht=>?_⟩
  ·have ht:i < x.Kids.length:=by simpa using ht
   refine ⟨by omega,by omega,sizeZ x.Kids[i],by rw [zT ht];exact ih _ (List.getElem_mem ht) (hk _ (List.getElem_mem ht)),?_⟩
   have hs:=zfl (l:=x.Kids.map sizeN) (i:=i) (by simpa using ht)
   rw [List.getElem_map] at hs
   have hz:sizeZ x.Kids[i]=min (sizeN x.Kids[i]:Int) (1000000:Int):=rfl
   have hw1:w64 (n+sizeZ x.Kids[i])=n+sizeZ x.Kids[i]:=zK (by omega) (by omega)
   have hw2:w64 ((i:Int)+1)=((i+1:Nat):Int):=zK (by omega) (by omega)
   rw [hw1,hw2]
   refine ⟨⟨i+1,rfl,by omega,?_⟩,by dsimp only;omega⟩
   rw [hs];simp;omega
  ·have ht:i=x.Kids.length:=by have:¬ i < x.Kids.length:=by simpa using ht
                               omega
   subst ht
   rw [List.take_of_length_le (by simp)] at hn
   refine ⟨fun m=>m=n * (if x.Kind=5 then (timesN x:Int) else 1),fun m hm=>?_,fun h5=>?_,fun h5=>?_⟩
   ·subst hm
    rw [sizeZ,zcK,if_neg h,if_pos h2]
    by_cases h5:x.Kind=5
    ·simp only [if_pos h5]
     have hp:(1:Int)≤timesN x:=by omega
     have hp2:(timesN x:Int)≤1000:=by omega
     generalize (x.Kids.map sizeN).sum=S at hn ⊢
     subst hn
     rw [Int.natCast_mul]
     generalize (timesN x:Int)=T at hp hp2 ⊢
     simp
     rcases Int.le_total (S:Int) 1000000 with hS | hS
     ·rw [Int.min_eq_left hS];omega
     ·rw [Int.min_eq_right hS]
      have h1:(1000000:Int) * 1≤1000000 * T:=Int.mul_le_mul_of_nonneg_left hp (by omega)
      have h2:(1000000:Int) * T≤S * T:=Int.mul_le_mul_of_nonneg_right hS (by omega)
      omega
    ·simp only [if_neg h5];simp;omega
   ·have h5:x.Kind=5:=by simpa using h5
    rw [if_pos h5,hT]
    have:∀ a:Int,0≤a→a≤1000000→w64 (a * max 1 (min 1000 (max x.Lo x.Hi)))=a * max 1 (min 1000 (max x.Lo x.Hi)):=fun a h1 h2=>by
     have e1:0≤a * max 1 (min 1000 (max x.Lo x.Hi)):=Int.mul_nonneg h1 (by omega)
     have e2:a * max 1 (min 1000 (max x.Lo x.Hi))≤1000000 * 1000:=Int.mul_le_mul h2 (by omega) (by omega) (by omega)
     exact zK (by omega) (by omega)
    rw [← this n (by omega) (by omega)]
    congr 1;congr 1
    simp;omega
   ·have h5:x.Kind≠5:=by simpa using h5
    rw [if_neg h5];omega
theorem zf7:∀ x,Wf x→zav x (sizeZ x):=by
 refine rxInd fun x ih hw=>?_
 obtain ⟨hl,hk⟩:=(zhk x).1 hw
 refine zfV x _ ⟨fun h=>?_,fun h=>?_⟩
 ·have h:x.Kind=2:=by simpa using h
  simp [sizeZ,zcK,h];omega
 have h:x.Kind≠2:=by simpa using h
 refine ⟨fun b=>b=decide (3≤x.Kind∧x.Kind≤5),fun b hb=>⟨fun hbt=>?_,fun hbf=>?_⟩,fun h3=>?_,fun h3=>⟨fun h4=>?_,fun h4=>?_⟩⟩
 ·have h2:3≤x.Kind∧x.Kind≤5:=by rw [hbt] at hb;simpa using hb.symm
  have hT:(timesN x:Int)=max 1 (min 1000 (max x.Lo x.Hi)):=by simp only [timesN];omega
  have hp:(1:Int)≤timesN x:=by omega
  have hp2:(timesN x:Int)≤1000:=by omega
  refine ⟨fun n t=>∃ i:Nat,t=i∧i≤x.Kids.length∧n=min (((x.Kids.map sizeN).take i).sum:Int) 1000000,fun n t=>(x.Kids.length - t).toNat,⟨0,rfl,by omega,by simp;omega⟩,?_⟩
  rintro n t ⟨i,rfl,hi,hn⟩
  refine ⟨fun ht=>?_,fun ht=>?_⟩
  ·have ht:i < x.Kids.length:=by simpa using ht
   refine ⟨by omega,by omega,sizeZ x.Kids[i],by rw [zT ht];exact ih _ (List.getElem_mem ht) (hk _ (List.getElem_mem ht)),?_⟩
   have hs:=zfl (l:=x.Kids.map sizeN) (i:=i) (by simpa using ht)
   rw [List.getElem_map] at hs
   have hz:sizeZ x.Kids[i]=min (sizeN x.Kids[i]:Int) (1000000:Int):=rfl
   have hw1:w64 (n+sizeZ x.Kids[i])=n+sizeZ x.Kids[i]:=zK (by omega) (by omega)
   have hw2:w64 ((i:Int)+1)=((i+1:Nat):Int):=zK (by omega) (by omega)
   rw [hw1,hw2]
   refine ⟨fun hg=>?_,fun hg=>?_⟩
   ·have hg:n+sizeZ x.Kids[i] > 1000000:=by simpa using hg
    have hsum:(x.Kids.map sizeN).sum≥((x.Kids.map sizeN).take (i+1)).sum:=by
     conv=>lhs;rw [← List.take_append_drop (i+1) (x.Kids.map sizeN),List.sum_append]
     omega
    rw [sizeZ,zcK,if_neg h,if_pos h2]
    have:(1000001:Int)≤(((x.Kids.map sizeN).sum * (if x.Kind=5 then timesN x else 1):Nat):Int):=by
     split
     ·have h3:(x.Kids.map sizeN).sum * 1≤(x.Kids.map sizeN).sum * timesN x:=Nat.mul_le_mul_left _ (by omega)
      omega
     ·omega
    omega
   ·have hg:¬ n+sizeZ x.Kids[i] > 1000000:=by simpa using hg
    exact ⟨⟨i+1,rfl,by omega,by rw [hs];simp;omega⟩,by dsimp only;omega⟩
  ·have ht:i=x.Kids.length:=by have:¬ i < x.Kids.length:=by simpa using ht
                               omega
   subst ht
   rw [List.take_of_length_le (by simp)] at hn
   refine ⟨fun m=>m=n * (if x.Kind=5 then (timesN x:Int) else 1),fun m hm=>?_,fun h5=>?_,fun h5=>?_⟩
   ·subst hm
    rw [sizeZ,zcK,if_neg h,if_pos h2]
    by_cases h5:x.Kind=5
    ·simp only [if_pos h5]
     generalize (x.Kids.map sizeN).sum=S at hn ⊢
     subst hn
     rw [Int.natCast_mul]
     generalize (timesN x:Int)=T at hp hp2 ⊢
     simp
     rcases Int.le_total (S:Int) 1000000 with hS | hS
     ·rw [Int.min_eq_left hS];omega
     ·rw [Int.min_eq_right hS]
      have h1:(1000000:Int) * 1≤1000000 * T:=Int.mul_le_mul_of_nonneg_left hp (by omega)
      have h2:(1000000:Int) * T≤S * T:=Int.mul_le_mul_of_nonneg_right hS (by omega)
      omega
    ·simp only [if_neg h5];simp;omega
   ·have h5:x.Kind=5:=by simpa using h5
    rw [if_pos h5,hT]
    have:∀ a:Int,0≤a→a≤1000000→w64 (a * max 1 (min 1000 (max x.Lo x.Hi)))=a * max 1 (min 1000 (max x.Lo x.Hi)):=fun a h1 h2=>by
     have e1:0≤a * max 1 (min 1000 (max x.Lo x.Hi)):=Int.mul_nonneg h1 (by omega)
     have e2:a * max 1 (min 1000 (max x.Lo x.Hi))≤1000000 * 1000:=Int.mul_le_mul h2 (by omega) (by omega) (by omega)
     exact zK (by omega) (by omega)
    rw [← this n (by omega) (by omega)]
    congr 1;congr 1
    simp;omega
   ·have h5:x.Kind≠5:=by simpa using h5
    rw [if_neg h5];omega
 ·have h2:¬ (3≤x.Kind∧x.Kind≤5):=by rw [hbf] at hb;simpa using hb.symm
  rw [sizeZ,zcK,if_neg h,if_neg h2];omega
 ·have h3':x.Kind=3:=by simpa using h3
  simp [h3']
 ·have h4':x.Kind=4:=by simpa using h4
  simp [h4']
 ·have h3':x.Kind≠3:=by simpa using h3
  have h4':x.Kind≠4:=by simpa using h4
  show decide (x.Kind=5)=decide (3≤x.Kind∧x.Kind≤5)
  rw [decide_eq_decide];omega
def nodesZ:zi→Int→Int:=cata fun x l most=>l.foldl (fun m g=>if m≥0 then g m else m) (most - 1)
theorem zfs (x:zi) (most:Int):nodesZ x most=x.Kids.foldl (fun m y=>if m≥0 then nodesZ y m else m) (most - 1):=by
 unfold nodesZ
 rw [zej,List.foldl_map]
theorem nodesZ_le:∀ x most,0≤most→nodesZ x most≤most - 1∧-1≤nodesZ x most:=by
 refine rxInd fun x ih most hm=>?_
 rw [zfs]
 have key:∀ (l:List zi) (m:Int),(∀ y∈l,y∈x.Kids)→-1≤m→(l.foldl (fun m y=>if m≥0 then nodesZ y m else m) m)≤m∧-1≤l.foldl (fun m y=>if m≥0 then nodesZ y m else m) m:=by
  intro l
  induction l with
  | nil=>intro m _ h;exact ⟨Int.le_refl _,h⟩
  | cons y r ih2=>
    intro m hl h
    simp only [List.foldl_cons]
    split
    ·rename_i h0
     obtain ⟨h1,h2⟩:=ih y (hl y (List.mem_cons_self ..)) m h0
     obtain ⟨h3,h4⟩:=ih2 _ (fun z hz=>hl z (List.mem_cons_of_mem _ hz)) h2
     exact ⟨by omega,h4⟩
    ·exact ih2 m (fun z hz=>hl z (List.mem_cons_of_mem _ hz)) h
 exact key x.Kids (most - 1) (fun _ h=>h) (by omega)
theorem zaF {α β:Type} {f:β→α→β} {b:β} {l:List α} {i:Nat} (h:i < l.length):(l.take (i+1)).foldl f b=f ((l.take i).foldl f b) l[i]:=by
 rw [List.take_succ_eq_append_getElem h,List.foldl_append];rfl
theorem nodes_pre {x:zi} {most:Int} (hm:0≤most) (i:Nat):-1≤(x.Kids.take i).foldl (fun m y=>if m≥0 then nodesZ y m else m) (most - 1)∧(x.Kids.take i).foldl (fun m y=>if m≥0 then nodesZ y m else m) (most - 1) < most:=by
 induction i with
 | zero=>simp;omega
 | succ i ih=>
   by_cases h:i < x.Kids.length
   ·rw [zaF h]
    split
    ·rename_i h0
     have:=nodesZ_le x.Kids[i] _ h0
     omega
    ·exact ih
   ·rw [List.take_of_length_le (by omega)] at ih ⊢;exact ih
theorem rxNodes_ok:∀ x,Wf x→∀ most,0≤most→most≤1000000→zdu x most (nodesZ x most):=by
 refine rxInd fun x ih hw most hm0 hm1=>?_
 obtain ⟨hl,hk⟩:=(zhk x).1 hw
 rw [zfs]
 have hw0:w64 (most - 1)=most - 1:=zK (by omega) (by omega)
 refine W_rx_nodes x most _ ⟨fun m t=>∃ i:Nat,t=i∧i≤x.Kids.length∧m=(x.Kids.take i).foldl (fun m y=>if m≥0 then nodesZ y m else m) (most - 1),fun m t=>(x.Kids.length - t).toNat,⟨0,rfl,by omega,by rw [hw0];rfl⟩,?_⟩
 rintro m t ⟨i,rfl,hi,hm⟩
 have hb:=nodes_pre (x:=x) hm0 i
 rw [← hm] at hb
 refine ⟨fun ht=>?_,fun ht=>?_⟩
 ·have ht:i < x.Kids.length:=by simpa using ht
  have hw2:w64 ((i:Int)+1)=((i+1:Nat):Int):=zK (by omega) (by omega)
  have hs:=zaF (f:=fun m y=>if m≥0 then nodesZ y m else m) (b:=most - 1) ht
  rw [← hm] at hs
  refine ⟨fun m'=>m'=if m≥0 then nodesZ x.Kids[i] m else m,fun m' hm'=>?_,by omega,by omega,fun hg=>?_,fun hg=>?_⟩
  ·rw [hw2]
   exact ⟨⟨i+1,rfl,by omega,by rw [hs,hm']⟩,by dsimp only;omega⟩
  ·have hg:m≥0:=by simpa using hg
   refine ⟨nodesZ x.Kids[i] m,?_,by rw [if_pos hg]⟩
   rw [zT ht]
   exact ih _ (List.getElem_mem ht) (hk _ (List.getElem_mem ht)) _ hg (by omega)
  ·have hg:¬ m≥0:=by simpa using hg
   rw [if_neg hg]
 ·have ht:i=x.Kids.length:=by have:¬ i < x.Kids.length:=by simpa using ht
                              omega
  subst ht
  rw [hm,List.take_of_length_le (Nat.le_refl _)]
def WfB (x:zi):Prop:=cata (α:=Prop) (fun x l=>x.Kids.length < 9223372036854775808∧∀ p∈l,p) x
theorem wfB_eq (x:zi):WfB x↔x.Kids.length < 9223372036854775808∧∀ y∈x.Kids,WfB y:=by
 unfold WfB
 rw [zej]
 simp only [List.mem_map,forall_exists_index,and_imp,forall_apply_eq_imp_iff₂]
theorem zhl:∀ x,Wf x→WfB x:=by
 refine rxInd fun x ih hw=>?_
 obtain ⟨hl,hk⟩:=(zhk x).1 hw
 exact (wfB_eq x).2 ⟨by omega,fun y hy=>ih y hy (hk y hy)⟩
theorem refNodesB_ok:∀ x,WfB x→∀ most,0≤most→most≤1000000→zaT x most (nodesZ x most):=by
 refine rxInd fun x ih hw most hm0 hm1=>?_
 obtain ⟨hl,hk⟩:=(wfB_eq x).1 hw
 rw [zfs]
 have hw0:w64 (most - 1)=most - 1:=zK (by omega) (by omega)
 refine zfi x most _ ⟨fun m t=>∃ i:Nat,t=i∧i≤x.Kids.length∧m=(x.Kids.take i).foldl (fun m y=>if m≥0 then nodesZ y m else m) (most - 1),fun m t=>(x.Kids.length - t).toNat,⟨0,rfl,by omega,by rw [hw0];rfl⟩,?_⟩
 rintro m t ⟨i,rfl,hi,hm⟩
 have hb:=nodes_pre (x:=x) hm0 i
 rw [← hm] at hb
 have hstay:∀ (l:List zi) (m:Int),m < 0→l.foldl (fun m y=>if m≥0 then nodesZ y m else m) m=m:=by
  intro l
  induction l with
  | nil=>intro m _;rfl
  | cons y r ih2=>intro m h;rw [List.foldl_cons,if_neg (by omega)];exact ih2 m h
 refine ⟨fun ht=>?_,fun ht=>?_⟩
 ·simp only [List.length_map,Bool.and_eq_true,decide_eq_true_eq] at ht
  obtain ⟨ht,hg⟩:=ht
  have ht:i < x.Kids.length:=by omega
  have hw2:w64 ((i:Int)+1)=((i+1:Nat):Int):=zK (by omega) (by omega)
  have hs:=zaF (f:=fun m y=>if m≥0 then nodesZ y m else m) (b:=most - 1) ht
  rw [← hm,if_pos hg] at hs
  refine ⟨by omega,by omega,nodesZ x.Kids[i] m,?_,?_⟩
  ·rw [zT ht]
   exact ih _ (List.getElem_mem ht) (hk _ (List.getElem_mem ht)) _ hg (by omega)
  ·rw [hw2]
   exact ⟨⟨i+1,rfl,by omega,hs.symm⟩,by dsimp only;omega⟩
 ·simp only [List.length_map,Bool.and_eq_false_iff,decide_eq_false_iff_not] at ht
  rcases Nat.lt_or_ge i x.Kids.length with hlt | hge
  ·have hneg:m < 0:=by omega
   have e:=List.foldl_append (f:=fun m y=>if m≥0 then nodesZ y m else m) (b:=most - 1) (l:=x.Kids.take i) (l':=x.Kids.drop i)
   rw [List.take_append_drop,← hm,hstay _ _ hneg] at e
   exact e
  ·rw [hm,List.take_of_length_le hge]
theorem refNodes_ok (x:zi) (hw:Wf x) (most:Int) (h0:0≤most) (h1:most≤1000000):zaT x most (nodesZ x most):=refNodesB_ok x (zhl x hw) most h0 h1
def noSet (s:zc):Bool:=s.e0 == 0 && (s.e1 == 0 && (s.e2 == 0 && (s.e3 == 0 && true)))
def timesB (lo hi:Int):Bool:=decide (0≤lo) && (decide (lo≤20) && (hi == -1 || decide (hi≥max 1 lo) && decide (hi≤20)))
def ownB (x:zi):Bool:=
 if x.Kind=5 then noSet x.Set && (decide (x.Kids.length=1) && timesB x.Lo x.Hi)
 else if x.Kind=1 then noSet x.Set && (x.Lo == 0 && x.Hi == 0 && decide (x.Kids.length=0))
 else if x.Kind=2 then !noSet x.Set && (x.Lo == 0 && x.Hi == 0 && decide (x.Kids.length=0))
 else if x.Kind=3∨x.Kind=4 then noSet x.Set && (x.Lo == 0 && x.Hi == 0 && decide (x.Kids.length≥2))
 else false
def oddK (x k:zi):Bool:=k.Kind == x.Kind && x.Kind != 5
def rgt:zi→Int→Bool:=cata fun x l deep=>decide (deep > 0) && ownB x && (x.Kids.zip l).all fun (k,g)=>!oddK x k && g (deep - 1)
theorem zgz (x:zi) (deep:Int):rgt x deep=(decide (deep > 0) && ownB x && x.Kids.all fun k=>!oddK x k && rgt k (deep - 1)):=by
 unfold rgt
 rw [zej]
 congr 1
 rw [List.zip_map_right,List.all_map]
 generalize x.Kids=l
 induction l with
 | nil=>rfl
 | cons y r ih=>simp only [List.zip_cons_cons,List.all_cons,Function.comp] at ih ⊢;rw [ih];rfl
def pat (x:zi):zP:={ Kind:=x.Kind,Set:=x.Set,Lo:=x.Lo,Hi:=x.Hi,Kids:=x.Kids }
theorem times_ok (x:zP):zbN x (timesB x.Lo x.Hi):=by
 refine zfM x _ ⟨fun h=>?_,fun h=>?_⟩
 ·simp only [Bool.or_eq_true,decide_eq_true_eq] at h
  simp only [timesB,Bool.and_eq_false_iff,decide_eq_false_iff_not];omega
 ·simp only [Bool.or_eq_false_iff,decide_eq_false_iff_not] at h
  have h1:decide (0≤x.Lo)=true:=by simp;omega
  have h2:decide (x.Lo≤20)=true:=by simp;omega
  simp only [timesB,h1,h2,Bool.true_and]
  congr 2
  have:(if x.Lo > 1 then x.Lo else 1)=max 1 x.Lo:=by omega
  rw [this]
theorem len0 (l:List zi):decide (l=[])=(decide ((2:Int)≤(l.length:Int)+2) && (l.length:Int)+2 == 2):=by
 cases l with
 | nil=>rfl
 | cons a r=>
   have:((((a :: r).length:Nat):Int)+2 == 2)=false:=by
    show decide _=false
    simp only [decide_eq_false_iff_not,List.length_cons];omega
   rw [this];simp
theorem own_ok (x:zi) (hl:x.Kids.length < 1099511627776):zb9 (pat x) (ownB x):=by
 refine zgX (pat x) _ ⟨fun many=>many=(if x.Kind=1∨x.Kind=2 then (x.Kids.length:Int)+2 else x.Kids.length)∧(x.Kind=1∨x.Kind=2∨x.Kind=3∨x.Kind=4),?_,fun h5=>?_,fun h5=>?_⟩
 ·rintro many ⟨rfl,hk⟩
  show ownB x=((!noSet x.Set) == (x.Kind == 2) && (x.Lo == 0 && (x.Hi == 0 && (decide (_≥2) && (!decide (x.Kind < 3) || _ == 2)))))
  rcases hk with h | h | h | h
  all_goals simp only [ownB,h]
  ·cases noSet x.Set<;>cases hlo:(x.Lo == 0)<;>cases hhi:(x.Hi == 0)<;>simp [len0]
  ·cases noSet x.Set<;>cases hlo:(x.Lo == 0)<;>cases hhi:(x.Hi == 0)<;>simp [len0]
  ·cases noSet x.Set<;>cases hlo:(x.Lo == 0)<;>cases hhi:(x.Hi == 0)<;>simp<;>omega
  ·cases noSet x.Set<;>cases hlo:(x.Lo == 0)<;>cases hhi:(x.Hi == 0)<;>simp<;>omega
 ·have h5:x.Kind=5:=by simpa [pat] using h5
  refine ⟨fun hs=>⟨fun h1=>⟨_,times_ok (pat x),?_⟩,fun h1=>?_⟩,fun hs=>?_⟩
  ·have h1:x.Kids.length=1:=by simp [pat] at h1;omega
   have hs:noSet x.Set=true:=by rw [Bool.not_not] at hs;exact hs
   simp only [ownB,if_pos h5,hs,h1];rfl
  ·have h1:x.Kids.length≠1:=by simp [pat] at h1;omega
   simp [ownB,if_pos h5,h1]
  ·have hs:noSet x.Set=false:=by rw [Bool.not_not] at hs;exact hs
   simp [ownB,if_pos h5,hs]
 ·have h5:x.Kind≠5:=by simpa [pat] using h5
  refine ⟨fun b=>b=decide (x.Kind=1∨x.Kind=2),fun b hb=>⟨fun h=>?_,fun h=>?_⟩,fun h=>?_,fun h=>?_⟩
  ·have h12:x.Kind=1∨x.Kind=2:=by rw [h] at hb;simpa using hb.symm
   refine ⟨?_,by omega⟩
   rw [if_pos h12];exact zK (by show _≤(x.Kids.length:Int)+2;omega) (by show (x.Kids.length:Int)+2≤_;omega)
  ·have h12:¬ (x.Kind=1∨x.Kind=2):=by rw [h] at hb;simpa using hb.symm
   refine ⟨fun b=>b=decide (x.Kind=3∨x.Kind=4),fun b' hb'=>⟨fun h'=>?_,fun h'=>?_⟩,fun h'=>?_,fun h'=>?_⟩
   ·have h34:x.Kind=3∨x.Kind=4:=by rw [h'] at hb';simpa using hb'.symm
    exact ⟨by rw [if_neg h12];rfl,by omega⟩
   ·have h34:¬ (x.Kind=3∨x.Kind=4):=by rw [h'] at hb';simpa using hb'.symm
    simp only [ownB];rw [if_neg h5,if_neg (by omega),if_neg (by omega),if_neg h34]
   ·have:x.Kind=3:=by simpa [pat] using h'
    simp [pat,this]
   ·have:x.Kind≠3:=by simpa [pat] using h'
    simp [pat,this];rfl
  ·have:x.Kind=1:=by simpa [pat] using h
   simp [pat,this]
  ·have:x.Kind≠1:=by simpa [pat] using h
   simp [pat,this];rfl
theorem rxRight_ok:∀ x,Wf x→∀ deep,-1000≤deep→deep≤1000→zaH (pat x) deep (rgt x deep):=by
 refine rxInd fun x ih hw deep hd0 hd1=>?_
 obtain ⟨hl,hk⟩:=(zhk x).1 hw
 have hodd:∀ k∈x.Kids,0 < deep→zbm k (pat x) deep (oddK x k || !rgt k (deep - 1)) (pat x) deep:=by
  intro k hkm hpos
  have hw1:w64 (deep - 1)=deep - 1:=zK (by omega) (by omega)
  have hrec:zaH ({ Kind:=zi.Kind k,Set:=zi.Set k,Lo:=zi.Lo k,Hi:=zi.Hi k,Kids:=zi.Kids k }) (w64 (deep - 1)) (rgt k (deep - 1)):=by
   rw [hw1];exact ih k hkm (hk k hkm) _ (by omega) (by omega)
  refine zel k (pat x) deep _ _ _ ⟨fun h1=>⟨fun h2=>?_,fun h2=>⟨_,hrec,?_,rfl,rfl⟩⟩,fun h1=>⟨_,hrec,?_,rfl,rfl⟩⟩
  ·have h1:(k.Kind == x.Kind)=true:=h1
   have h2:(x.Kind != 5)=true:=h2
   simp [oddK,h1,h2]
  ·have h2:(x.Kind != 5)=false:=h2
   simp [oddK,h2]
  ·have h1:(k.Kind == x.Kind)=false:=h1
   simp [oddK,h1]
 have hall:∀ l:List zi,l.length < 1099511627776→(∀ k∈l,k∈x.Kids)→0 < deep→zI l (pat x) deep (l.any fun k=>oddK x k || !rgt k (deep - 1)) (pat x) deep:=by
  intro l hll hlm hpos
  obtain ⟨z,hz,hz2⟩:∃ z:Int,(decide (z≥0)=l.any fun k=>oddK x k || !rgt k (deep - 1))∧zN l (pat x) deep z (pat x) deep:=by
   have hfind:∀ i:Nat,(∀ (j:Nat) (hj:j < l.length),j < i→(oddK x l[j] || !rgt l[j] (deep - 1))=false)→(i=l.length→(l.any fun k=>oddK x k || !rgt k (deep - 1))=false):=by
    intro i h e
    subst e
    rw [List.any_eq_false]
    intro k hkm
    obtain ⟨j,hj,rfl⟩:=List.mem_iff_getElem.1 hkm
    rw [h j hj hj];simp
   cases hany:l.any fun k=>oddK x k || !rgt k (deep - 1) with
   | false=>
     refine ⟨-1,by simp,?_⟩
     refine zak l (pat x) deep _ _ _ ⟨fun a b c d e f g h o t=>(⟨a,⟨b,c,d,e⟩,f,g,h⟩:zP)=pat x∧o=deep∧∃ i:Nat,t=i∧i≤l.length,fun _ _ _ _ _ _ _ _ _ t=>(l.length - t).toNat,⟨rfl,rfl,0,rfl,by omega⟩,?_⟩
     rintro a b c d e f g h o t ⟨hp,rfl,i,rfl,hi⟩
     refine ⟨fun ht=>?_,fun ht=>⟨rfl,hp.symm,rfl⟩⟩
     have ht:i < l.length:=by simpa using ht
     have hw2:w64 ((i:Int)+1)=((i+1:Nat):Int):=zK (by omega) (by omega)
     refine ⟨by omega,by omega,_,pat x,o,by rw [zT ht,hp];exact hodd l[i] (hlm _ (List.getElem_mem ht)) hpos,fun hb=>?_,fun hb=>?_⟩
     ·rw [List.any_eq_false] at hany
      exact absurd hb (hany _ (List.getElem_mem ht))
     ·rw [hw2]
      exact ⟨⟨rfl,rfl,i+1,rfl,by omega⟩,by dsimp only;omega⟩
   | true=>
     obtain ⟨k0,hk0,hk1⟩:=List.any_eq_true.1 hany
     have hex:∃ i:Nat,∃ hi:i < l.length,(oddK x l[i] || !rgt l[i] (deep - 1))=true∧∀ (j:Nat) (hj:j < i),(oddK x (l[j]'(by omega)) || !rgt (l[j]'(by omega)) (deep - 1))=false:=by
      obtain ⟨j0,hj0,rfl⟩:=List.mem_iff_getElem.1 hk0
      induction j0 using Nat.strongRecOn with
      | _ j0 ihj=>
        by_cases hex:∃ j:Nat,∃ hj:j < j0,(oddK x (l[j]'(by omega)) || !rgt (l[j]'(by omega)) (deep - 1))=true
        ·obtain ⟨j,hj,hj1⟩:=hex
         exact ihj j hj (by omega) (List.getElem_mem _) hj1
        ·refine ⟨j0,hj0,hk1,fun j hj=>?_⟩
         cases hb:(oddK x (l[j]'(by omega)) || !rgt (l[j]'(by omega)) (deep - 1)) with
         | false=>rfl
         | true=>exact absurd ⟨j,hj,hb⟩ hex
     obtain ⟨n,hn,hn1,hn2⟩:=hex
     refine ⟨n,by simp,?_⟩
     refine zak l (pat x) deep _ _ _ ⟨fun a b c d e f g h o t=>(⟨a,⟨b,c,d,e⟩,f,g,h⟩:zP)=pat x∧o=deep∧∃ i:Nat,t=i∧i≤n,fun _ _ _ _ _ _ _ _ _ t=>(l.length - t).toNat,⟨rfl,rfl,0,rfl,by omega⟩,?_⟩
     rintro a b c d e f g h o t ⟨hp,rfl,i,rfl,hi⟩
     refine ⟨fun ht=>?_,fun ht=>?_⟩
     ·have ht:i < l.length:=by simpa using ht
      have hw2:w64 ((i:Int)+1)=((i+1:Nat):Int):=zK (by omega) (by omega)
      refine ⟨by omega,by omega,_,pat x,o,by rw [zT ht,hp];exact hodd l[i] (hlm _ (List.getElem_mem ht)) hpos,fun hb=>⟨?_,rfl,rfl⟩,fun hb=>?_⟩
      ·rcases Nat.lt_or_ge i n with hlt | hge
       ·rw [hn2 i hlt] at hb;cases hb
       ·have:i=n:=by omega
        rw [this]
      ·rcases Nat.lt_or_ge i n with hlt | hge
       ·rw [hw2]
        exact ⟨⟨rfl,rfl,i+1,rfl,by omega⟩,by dsimp only;omega⟩
       ·have:i=n:=by omega
        subst this
        rw [hn1] at hb;cases hb
     ·have:¬ i < l.length:=by simpa using ht
      omega
  refine zaN l (pat x) deep _ _ _ ⟨z,_,_,hz2,hz.symm,rfl,rfl⟩
 rw [zgz]
 refine zfN (pat x) deep _ ⟨fun hd=>⟨_,own_ok x hl,fun ho=>⟨_,_,_,hall x.Kids hl (fun _ h=>h) (by simpa using hd),?_⟩,fun ho=>?_⟩,fun hd=>?_⟩
 ·rw [hd,ho]
  simp only [Bool.true_and]
  rw [List.any_eq_not_all_not,Bool.not_not]
  congr 1
  funext k
  cases oddK x k<;>cases rgt k (deep - 1)<;>rfl
 ·rw [ho];simp
 ·rw [hd];simp
def rightB (x:zi):Bool:=rgt x 20 && (decide (sizeZ x≤200) && decide (nodesZ x 1000≥0))
theorem zdy (x:zi) (hw:Wf x):zcV x (rightB x):=by
 refine W_rx_Right x _ ⟨_,rxRight_ok x hw 20 (by omega) (by omega),fun h=>⟨_,rxSize_ok x hw,fun h2=>⟨_,rxNodes_ok x hw 1000 (by omega) (by omega),?_⟩,fun h2=>?_⟩,fun h=>?_⟩
 ·rw [rightB,h,h2];rfl
 ·rw [rightB,h2];simp
 ·rw [rightB,h];simp
end Go.Ev.Pl
namespace Go.Ev.Pl
open Go Go.Ev
theorem noSet_eq (s:zc):(s.e0 == 0 && (s.e1 == 0 && (s.e2 == 0 && (s.e3 == 0 && true))))=noSet s:=rfl
theorem zg9 (l:List zi):((l.length:Int) == 0)=decide (l.length=0):=by
 show decide _=decide _
 simp only [decide_eq_decide];omega
theorem refRight_ok:∀ x,Wf x→∀ deep,-1000≤deep→deep≤1000→zaR x deep (rgt x deep):=by
 refine rxInd fun x ih hw deep hd0 hd1=>?_
 obtain ⟨hl,hk⟩:=(zhk x).1 hw
 have hw1:w64 (deep - 1)=deep - 1:=zK (by omega) (by omega)
 rw [zgz]
 refine zfg x deep _ ⟨fun h=>?_,fun h=>?_⟩
 ·have:¬ deep > 0:=by have:deep < 1:=by simpa using h
                      omega
  simp [this]
 have hd:decide (deep > 0)=true:=by have:¬ deep < 1:=by simpa using h
                                    simp;omega
 have hpos:0 < deep:=by simpa using hd
 rw [hd,Bool.true_and]
 simp only [noSet_eq,Bool.not_not]
 refine ⟨fun h1=>?_,fun h1=>⟨fun h2=>?_,fun h2=>⟨fun h5=>?_,fun h5=>?_⟩⟩⟩
 ·have h1:x.Kind=1:=by simpa using h1
  have:x.Kids.all (fun k=>!oddK x k && rgt k (deep - 1))=true∨¬ x.Kids.length=0:=by
   cases x.Kids with
   | nil=>exact .inl rfl
   | cons a r=>right;simp
  simp only [ownB,h1]
  rcases this with h | h
  ·rw [h,zg9];simp
  ·rw [zg9];simp [h]
 ·have h2:x.Kind=2:=by simpa using h2
  have:x.Kids.all (fun k=>!oddK x k && rgt k (deep - 1))=true∨¬ x.Kids.length=0:=by
   cases x.Kids with
   | nil=>exact .inl rfl
   | cons a r=>right;simp
  simp only [ownB,h2]
  rcases this with h | h
  ·rw [h,zg9];simp
  ·rw [zg9];simp [h]
 ·have h5:x.Kind=5:=by simpa using h5
  have hmax:(if true=true then if x.Lo > 1 then x.Lo else 1 else if x.Lo < 1 then x.Lo else 1)=max 1 x.Lo:=by simp;omega
  have hmax2:(if x.Lo > 1 then x.Lo else 1)=max 1 x.Lo:=by omega
  simp only [eq_self,if_true,hmax2]
  have hown:ownB x=(noSet x.Set && (decide (x.Kids.length=1) && timesB x.Lo x.Hi)):=by simp only [ownB,if_pos h5]
  refine ⟨fun hs=>⟨fun hlo=>⟨fun hlo2=>⟨fun hhi=>⟨fun h1=>⟨fun _ _ _ _ _=>?_,_,ih _ ?_ (hk _ ?_) _ (by omega) (by omega),?_⟩,fun h1=>?_⟩,fun hhi=>?_⟩,fun hlo2=>?_⟩,fun hlo=>?_⟩,fun hs=>?_⟩
  ·have h1':x.Kids.length=1:=by (rw [List.length_map] at h1;have:(x.Kids.length:Int)=1:=by simpa using h1);omega
   omega
  ·have h1':x.Kids.length=1:=by (rw [List.length_map] at h1;have:(x.Kids.length:Int)=1:=by simpa using h1);omega
   match hq:x.Kids,h1' with
   | [a],_=>simp
  ·have h1':x.Kids.length=1:=by (rw [List.length_map] at h1;have:(x.Kids.length:Int)=1:=by simpa using h1);omega
   match hq:x.Kids,h1' with
   | [a],_=>simp
  ·-- the kid's word
   have h1':x.Kids.length=1:=by (rw [List.length_map] at h1;have:(x.Kids.length:Int)=1:=by simpa using h1);omega
   match hq:x.Kids,h1' with
   | [a],_=>
     have ht:timesB x.Lo x.Hi=true:=by
      have a1:decide (0≤x.Lo)=true:=by have:x.Lo≥0:=by simpa using hlo
                                       simp;omega
      simp only [timesB,a1,hlo2,hhi,Bool.true_and]
     rw [hown,hs,hq,ht,hw1]
     have ho:oddK x a=false:=by simp [oddK,h5]
     simp [ho]
  ·have h1':x.Kids.length≠1:=by intro e;rw [List.length_map,e] at h1;simp at h1
   rw [hown];simp [h1']
  ·rw [hown];simp only [timesB];rw [hhi];simp
  ·rw [hown];simp only [timesB];rw [hlo2];simp
  ·have:decide (0≤x.Lo)=false:=by have:¬ x.Lo≥0:=by simpa using hlo
                                  simp;omega
   rw [hown];simp only [timesB];rw [this];simp
  ·rw [hown,hs];simp
 ·have h1:x.Kind≠1:=by simpa using h1
  have h2:x.Kind≠2:=by simpa using h2
  have h5:x.Kind≠5:=by simpa using h5
  have hodd:∀ k,oddK x k=(k.Kind == x.Kind):=fun k=>by simp [oddK,h5]
  refine ⟨fun b=>b=decide (x.Kind=3∨x.Kind=4),fun b hb=>⟨fun hbt=>⟨fun hg=>?_,fun hg=>?_⟩,fun hbf=>?_⟩,fun h3=>?_,fun h3=>?_⟩
  ·have h34:x.Kind=3∨x.Kind=4:=by rw [hbt] at hb;simpa using hb.symm
   have:ownB x=false:=by
    simp only [ownB,if_neg h5,if_neg h1,if_neg h2,if_pos h34]
    simp only [Bool.or_eq_true,decide_eq_true_eq,Bool.not_eq_true',Bool.and_eq_false_iff] at hg ⊢
    rcases hg with hg | hg | hg
    ·exact .inl hg
    ·exact .inr (.inl (hg.imp id id))
    ·right;right;simp;omega
   rw [this];simp
  ·have h34:x.Kind=3∨x.Kind=4:=by rw [hbt] at hb;simpa using hb.symm
   have hown:ownB x=true:=by
    simp only [ownB,if_neg h5,if_neg h1,if_neg h2,if_pos h34]
    simp only [Bool.or_eq_false_iff,decide_eq_false_iff_not,Bool.not_eq_false',Bool.and_eq_true,decide_eq_true_eq] at hg ⊢
    obtain ⟨g1,g2,g3⟩:=hg
    exact ⟨g1,g2,by omega⟩
   rw [hown,Bool.true_and]
   refine ⟨fun t=>∃ i:Nat,t=i∧i≤x.Kids.length∧(x.Kids.take i).all (fun k=>!oddK x k && rgt k (deep - 1))=true,fun t=>(x.Kids.length - t).toNat,⟨0,rfl,by omega,rfl⟩,?_⟩
   rintro t ⟨i,rfl,hi,hall⟩
   refine ⟨fun ht=>?_,fun ht=>?_⟩
   ·have ht:i < x.Kids.length:=by simpa using ht
    have hw2:w64 ((i:Int)+1)=((i+1:Nat):Int):=zK (by omega) (by omega)
    have hm:=List.getElem_mem ht
    have hfail:∀ {b:Bool},(!oddK x x.Kids[i] && rgt x.Kids[i] (deep - 1))=false→(x.Kids.all fun k=>!oddK x k && rgt k (deep - 1))=false:=fun h=>by
     rw [List.all_eq_false];exact ⟨_,hm,by rw [h];simp⟩
    refine ⟨by omega,by omega,fun ho=>?_,fun ho=>⟨fun _=>by omega,fun _=>by omega,_,by rw [zT ht,hw1];exact ih _ hm (hk _ hm) _ (by omega) (by omega),fun hr=>?_,fun hr=>?_⟩⟩
    ·rw [zT ht] at ho
     exact (hfail (b:=true) (by rw [hodd,ho];rfl)).symm▸rfl
    ·have hr:rgt x.Kids[i] (deep - 1)=false:=by simpa using hr
     exact hfail (b:=true) (by rw [hr];simp)
    ·have hr:rgt x.Kids[i] (deep - 1)=true:=by simpa using hr
     rw [zT ht] at ho
     rw [hw2]
     refine ⟨⟨i+1,rfl,by omega,?_⟩,by dsimp only;omega⟩
     rw [List.take_succ_eq_append_getElem ht,List.all_append,hall]
     simp [hodd,ho,hr]
   ·have ht:i=x.Kids.length:=by have:¬ i < x.Kids.length:=by simpa using ht
                                omega
    subst ht
    rw [List.take_of_length_le (Nat.le_refl _)] at hall
    exact hall
  ·have h34:¬ (x.Kind=3∨x.Kind=4):=by rw [hbf] at hb;simpa using hb.symm
   have:ownB x=false:=by simp only [ownB,if_neg h5,if_neg h1,if_neg h2,if_neg h34]
   rw [this];simp
  ·have:x.Kind=3:=by simpa using h3
   simp [this]
  ·have:x.Kind≠3:=by simpa using h3
   simp [this];rfl
theorem zdi (x:zi) (hw:Wf x):zaS x (rightB x):=by
 refine zfh x _ ⟨_,refRight_ok x hw 20 (by omega) (by omega),fun h=>⟨_,zf7 x hw,fun h2=>⟨_,refNodes_ok x hw 1000 (by omega) (by omega),?_⟩,fun h2=>?_⟩,fun h=>?_⟩
 ·rw [rightB,h,h2];rfl
 ·rw [rightB,h2];simp
 ·rw [rightB,h];simp
def nullB:zi→Bool:=cata fun x l=>if x.Kind=1 then true else if x.Kind=3 then l.all id else if x.Kind=4 then l.any id else if x.Kind=5 then decide (x.Lo≤0) || l.all id else false
theorem nullB_eq (x:zi):nullB x=if x.Kind=1 then true else if x.Kind=3 then x.Kids.all nullB else if x.Kind=4 then x.Kids.any nullB else if x.Kind=5 then decide (x.Lo≤0) || x.Kids.all nullB else false:=by
 unfold nullB;rw [zej];simp only [List.all_map,List.any_map];rfl
end Go.Ev.Pl
namespace Go.Ev.Pl
open Go Go.Ev
structure GA where
 n:Nat
 sets:List zc
 null:Bool
 first:Nat→Bool
 last:Nat→Bool
 follow:Nat→Nat→Bool
def gEmpty:GA:=⟨0,[],true,fun _=>false,fun _=>false,fun _ _=>false⟩
def gNone:GA:=⟨0,[],false,fun _=>false,fun _=>false,fun _ _=>false⟩
def gByte (s:zc):GA:=⟨1,[s],false,fun i=>i == 0,fun i=>i == 0,fun _ _=>false⟩
def blk (n:Nat) (p q:Nat→Nat→Bool) (r:Nat→Nat→Bool) (i j:Nat):Bool:=
 if i < n then (if j < n then p i j else r i (j - n)) else (if j < n then false else q (i - n) (j - n))
def gCat (a b:GA):GA:=
 ⟨a.n+b.n,a.sets++b.sets,a.null && b.null,fun i=>if i < a.n then a.first i else a.null && b.first (i - a.n),
   fun i=>if i < a.n then b.null && a.last i else b.last (i - a.n),blk a.n a.follow b.follow fun i j=>a.last i && b.first j⟩
def gAlt (a b:GA):GA:=
 ⟨a.n+b.n,a.sets++b.sets,a.null || b.null,fun i=>if i < a.n then a.first i else b.first (i - a.n),
   fun i=>if i < a.n then a.last i else b.last (i - a.n),blk a.n a.follow b.follow fun _ _=>false⟩
def gAgain (a:GA):GA:={ a with follow:=fun i j=>a.follow i j || a.last i && a.first j }
def gMaybe (a:GA):GA:={ a with null:=true }
theorem cat_empty_l (a:GA):gCat gEmpty a=a:=by
 cases a;simp [gCat,gEmpty];funext i j;simp [blk]
theorem alt_none_l (a:GA):gAlt gNone a=a:=by
 cases a;simp [gAlt,gNone];funext i j;simp [blk]
theorem cat_assoc (a b c:GA):gCat (gCat a b) c=gCat a (gCat b c):=by
 obtain ⟨an,asx,au,af,al,ao⟩:=a
 obtain ⟨bn,bs,bu,bf,bl,bo⟩:=b
 obtain ⟨cn,cs,cu,cf,cl,co⟩:=c
 simp only [gCat,GA.mk.injEq,List.append_assoc,Nat.add_assoc,true_and,Bool.and_assoc]
 refine ⟨?_,?_,?_⟩
 ·funext i
  have e:i - (an+bn)=i - an - bn:=by omega
  rw [e]
  by_cases h1:i < an
  ·simp [h1,show i < an+bn by omega]
  ·by_cases h2:i < an+bn
   ·simp [h1,h2,show i - an < bn by omega]
   ·simp [h1,h2,show ¬ i - an < bn by omega]
 ·funext i
  have e:i - (an+bn)=i - an - bn:=by omega
  rw [e]
  by_cases h1:i < an
  ·simp only [h1,show i < an+bn by omega,if_true]
   cases bu<;>cases cu<;>simp
  ·by_cases h2:i < an+bn
   ·simp [h1,h2,show i - an < bn by omega]
   ·simp [h1,h2,show ¬ i - an < bn by omega]
 ·funext i j
  simp only [blk]
  have e:i - (an+bn)=i - an - bn:=by omega
  have e':j - (an+bn)=j - an - bn:=by omega
  rw [e,e']
  by_cases h1:i < an<;>by_cases h2:i < an+bn<;>by_cases h3:j < an<;>by_cases h4:j < an+bn
  all_goals first | omega | skip
  ·simp [h1,h2,h3,h4]
  ·simp [h1,h2,h3,h4,show j - an < bn by omega]
  ·simp [h1,h2,h3,h4,show ¬ j - an < bn by omega]
   cases bu<;>simp
  ·simp [h1,h2,h3,h4,show i - an < bn by omega]
  ·simp [h1,h2,h3,h4,show i - an < bn by omega,show j - an < bn by omega]
  ·simp [h1,h2,h3,h4,show i - an < bn by omega,show ¬ j - an < bn by omega]
  ·simp [h1,h2,h3,h4,show ¬ i - an < bn by omega]
  ·simp [h1,h2,h3,h4,show ¬ i - an < bn by omega,show j - an < bn by omega]
  ·simp [h1,h2,h3,h4,show ¬ i - an < bn by omega,show ¬ j - an < bn by omega]
structure Canon (a:GA):Prop where
 sets:a.sets.length=a.n
 first:∀ i,a.n≤i→a.first i=false
 last:∀ i,a.n≤i→a.last i=false
 follow:∀ i j,a.n≤i∨a.n≤j→a.follow i j=false
theorem cat_empty_r {a:GA} (h:Canon a):gCat a gEmpty=a:=by
 obtain ⟨n,sets,null,f,l,fo⟩:=a
 simp only [gCat,gEmpty,GA.mk.injEq,Nat.add_zero,List.append_nil,Bool.and_true,Bool.and_false,true_and]
 refine ⟨?_,?_,?_⟩
 ·funext i;split
  ·rfl
  ·rename_i hi;exact (h.first i (by show n≤i;omega)).symm
 ·funext i;split
  ·rfl
  ·rename_i hi;exact (h.last i (by show n≤i;omega)).symm
 ·funext i j
  simp only [blk]
  split<;>split
  ·rfl
  ·rename_i h1 h2;exact (h.follow i j (by show n≤i∨n≤j;omega)).symm
  ·rename_i h1 h2;exact (h.follow i j (by show n≤i∨n≤j;omega)).symm
  ·rename_i h1 h2;exact (h.follow i j (by show n≤i∨n≤j;omega)).symm
theorem canon_zero {a:GA} (h:Canon a) (hn:a.n=0) (hnull:a.null=true):a=gEmpty:=by
 obtain ⟨n,sets,null,f,l,fo⟩:=a
 simp only at hn hnull;subst hn hnull
 have hs:sets=[]:=List.length_eq_zero_iff.1 h.sets
 subst hs
 simp only [gEmpty,GA.mk.injEq,true_and]
 exact ⟨funext fun i=>h.first i (Nat.zero_le _),funext fun i=>h.last i (Nat.zero_le _),funext fun i=>funext fun j=>h.follow i j (.inl (Nat.zero_le _))⟩
theorem zbD:Canon gEmpty:=⟨rfl,fun _ _=>rfl,fun _ _=>rfl,fun _ _ _=>rfl⟩
theorem zey:Canon gNone:=⟨rfl,fun _ _=>rfl,fun _ _=>rfl,fun _ _ _=>rfl⟩
theorem canon_byte (s:zc):Canon (gByte s):=⟨rfl,fun i h=>by simp [gByte] at h ⊢;omega,fun i h=>by simp [gByte] at h ⊢;omega,fun _ _ _=>rfl⟩
theorem zb6 {a b:GA} (ha:Canon a) (hb:Canon b):Canon (gCat a b):=by
 refine ⟨by simp [gCat,ha.sets,hb.sets],fun i h=>?_,fun i h=>?_,fun i j h=>?_⟩
 ·simp only [gCat] at h ⊢;rw [if_neg (by omega),hb.first _ (by omega)];simp
 ·simp only [gCat] at h ⊢;rw [if_neg (by omega),hb.last _ (by omega)]
 ·simp only [gCat,blk] at h ⊢
  split<;>split
  ·omega
  ·rw [hb.first _ (by omega)];simp
  ·rfl
  ·exact hb.follow _ _ (by omega)
theorem zh9 {a b:GA} (ha:Canon a) (hb:Canon b):Canon (gAlt a b):=by
 refine ⟨by simp [gAlt,ha.sets,hb.sets],fun i h=>?_,fun i h=>?_,fun i j h=>?_⟩
 ·simp only [gAlt] at h ⊢;rw [if_neg (by omega),hb.first _ (by omega)]
 ·simp only [gAlt] at h ⊢;rw [if_neg (by omega),hb.last _ (by omega)]
 ·simp only [gAlt,blk] at h ⊢
  split<;>split
  ·omega
  ·rfl
  ·rfl
  ·exact hb.follow _ _ (by omega)
theorem zcz {a:GA} (h:Canon a):Canon (gAgain a):=
 ⟨h.sets,h.first,h.last,fun i j hij=>by
   simp only [gAgain] at hij ⊢
   rw [h.follow i j hij]
   rcases hij with hi | hj
   ·rw [h.last i hi];rfl
   ·rw [h.first j hj];simp⟩
theorem zc4 {a:GA} (h:Canon a):Canon (gMaybe a):=⟨h.sets,h.first,h.last,h.follow⟩
def iter (f:GA→GA):Nat→GA→GA
 | 0,z=>z
 | k+1,z=>f (iter f k z)
theorem iter_in (f:GA→GA):∀ k z,iter f (k+1) z=iter f k (f z)
 | 0,_=>rfl
 | k+1,z=>by rw [iter,iter_in f k];rfl
def leftp (a:GA) (k:Nat):GA:=iter (fun o=>gCat o a) k gEmpty
theorem leftp_cat (a:GA):∀ k z,gCat (leftp a k) z=iter (gCat a) k z
 | 0,z=>cat_empty_l z
 | k+1,z=>by
   show gCat (gCat (leftp a k) a) z=_
   rw [cat_assoc,leftp_cat a k,← iter_in]
theorem zcy {f:GA→GA} (hf:∀ a,Canon a→Canon (f a)):∀ k {z},Canon z→Canon (iter f k z)
 | 0,_,h=>h
 | k+1,_,h=>hf _ (zcy hf k h)
def gRep (a:GA) (lo hi:Int):GA:=
 if hi < 0 then iter (gCat a) (max lo 1 - 1).toNat (if lo=0 then gMaybe (gAgain a) else gAgain a)
 else iter (gCat a) lo.toNat (iter (fun o=>gMaybe (gCat a o)) (hi - lo).toNat gEmpty)
theorem canon_rep {a:GA} (h:Canon a) (lo hi:Int):Canon (gRep a lo hi):=by
 unfold gRep
 split
 ·refine zcy (fun b hb=>zb6 h hb) _ ?_
  split
  ·exact zc4 (zcz h)
  ·exact zcz h
 ·exact zcy (fun b hb=>zb6 h hb) _ (zcy (fun b hb=>zc4 (zb6 h hb)) _ zbD)
def gof:zi→GA:=cata fun x l=>
 if x.Kind=2 then gByte x.Set else if x.Kind=3 then l.foldl gCat gEmpty else if x.Kind=4 then l.foldl gAlt gNone
 else if x.Kind=5 then gRep (l.headD gEmpty) x.Lo x.Hi else gEmpty
theorem zda (x:zi):gof x=if x.Kind=2 then gByte x.Set else if x.Kind=3 then x.Kids.foldl (fun o y=>gCat o (gof y)) gEmpty else if x.Kind=4 then x.Kids.foldl (fun o y=>gAlt o (gof y)) gNone
 else if x.Kind=5 then gRep ((x.Kids.map gof).headD gEmpty) x.Lo x.Hi else gEmpty:=by
 unfold gof;rw [zej];simp only [List.foldl_map]
theorem zaG:∀ x,Canon (gof x):=by
 refine rxInd fun x ih=>?_
 have key:∀ (f:GA→GA→GA),(∀ a b,Canon a→Canon b→Canon (f a b))→∀ (l:List zi) (z:GA),(∀ y∈l,y∈x.Kids)→Canon z→Canon (l.foldl (fun o y=>f o (gof y)) z):=by
  intro f hf l
  induction l with
  | nil=>intro z _ h;exact h
  | cons y r ih2=>intro z hl h;exact ih2 _ (fun a ha=>hl a (List.mem_cons_of_mem _ ha)) (hf _ _ h (ih y (hl y (List.mem_cons_self ..))))
 rw [zda]
 split
 ·exact canon_byte _
 ·split
  ·exact key gCat (fun a b=>zb6) _ _ (fun _ h=>h) zbD
  ·split
   ·exact key gAlt (fun a b=>zh9) _ _ (fun _ h=>h) zey
   ·split
    ·refine canon_rep ?_ _ _
     cases hq:x.Kids with
     | nil=>exact zbD
     | cons y r=>exact ih y (by rw [hq];exact List.mem_cons_self ..)
    ·exact zbD
end Go.Ev.Pl
namespace Go.Ev.Pl
open Go Go.Ev
def lst (n:Nat) (p:Nat→Bool) (off:Nat):List Int:=((List.range n).filter p).map fun i=>((i+off:Nat):Int)
theorem zaX {n:Nat} {p:Nat→Bool} {off:Nat} {x:Int}:x∈lst n p off↔∃ i,i < n∧p i=true∧x=((i+off:Nat):Int):=by
 simp only [lst,List.mem_map,List.mem_filter,List.mem_range]
 constructor
 ·rintro ⟨i,⟨h1,h2⟩,rfl⟩;exact ⟨i,h1,h2,rfl⟩
 ·rintro ⟨i,h1,h2,rfl⟩;exact ⟨i,⟨h1,h2⟩,rfl⟩
theorem zbr (n:Nat) (p:Nat→Bool) (off:Nat):SS (lst n p off):=by
 unfold lst SS
 rw [List.pairwise_map]
 refine List.Pairwise.filter _ ?_
 exact List.pairwise_lt_range.imp fun h=>by omega
theorem zaq (n:Nat) (p:Nat→Bool) (off:Nat):(lst n p off).length≤n:=by
 unfold lst
 rw [List.length_map]
 exact Nat.le_trans (List.length_filter_le _ _) (by simp)
theorem lst_congr {n:Nat} {p q:Nat→Bool} {off:Nat} (h:∀ i,i < n→p i=q i):lst n p off=lst n q off:=by
 unfold lst
 rw [List.filter_congr fun i hi=>h i (List.mem_range.1 hi)]
theorem lst_left {n m:Nat} {p:Nat→Bool} {off:Nat} {q:Nat→Bool} (h1:∀ i,i < n→q i=p i) (h2:∀ i,n≤i→i < n+m→q i=false):lst n p off=lst (n+m) q off:=by
 refine zhn (zbr _ _ _) (zbr _ _ _) fun x=>?_
 rw [zaX,zaX]
 constructor
 ·rintro ⟨i,hi,hp,rfl⟩;exact ⟨i,by omega,by rw [h1 i hi];exact hp,rfl⟩
 ·rintro ⟨i,hi,hp,rfl⟩
  rcases Nat.lt_or_ge i n with h | h
  ·exact ⟨i,h,by rw [← h1 i h];exact hp,rfl⟩
  ·rw [h2 i h hi] at hp;cases hp
theorem zhB {n m:Nat} {p:Nat→Bool} {off:Nat} {q:Nat→Bool} (h1:∀ i,i < n→q i=false) (h2:∀ i,i < m→q (n+i)=p i):lst m p (off+n)=lst (n+m) q off:=by
 refine zhn (zbr _ _ _) (zbr _ _ _) fun x=>?_
 rw [zaX,zaX]
 constructor
 ·rintro ⟨i,hi,hp,rfl⟩;exact ⟨n+i,by omega,by rw [h2 i hi];exact hp,by omega⟩
 ·rintro ⟨i,hi,hp,rfl⟩
  rcases Nat.lt_or_ge i n with h | h
  ·rw [h1 i h] at hp;cases hp
  ·exact ⟨i - n,by omega,by rw [← h2 _ (by omega),show n+(i - n)=i by omega];exact hp,by omega⟩
theorem zfw {n m:Nat} {p p':Nat→Bool} {off:Nat} {q:Nat→Bool} {l:List Int} (hs:SS l) (hm:∀ x,x∈l↔x∈lst n p off∨x∈lst m p' (off+n)) (h1:∀ i,i < n→q i=p i) (h2:∀ i,i < m→q (n+i)=p' i):l=lst (n+m) q off:=by
 refine zhn hs (zbr _ _ _) fun x=>?_
 rw [hm,zaX,zaX,zaX]
 constructor
 ·rintro (⟨i,hi,hp,rfl⟩ | ⟨i,hi,hp,rfl⟩)
  ·exact ⟨i,by omega,by rw [h1 i hi];exact hp,rfl⟩
  ·exact ⟨n+i,by omega,by rw [h2 i hi];exact hp,by omega⟩
 ·rintro ⟨i,hi,hp,rfl⟩
  rcases Nat.lt_or_ge i n with h | h
  ·exact .inl ⟨i,h,by rw [← h1 i h];exact hp,rfl⟩
  ·exact .inr ⟨i - n,by omega,by rw [← h2 _ (by omega),show n+(i - n)=i by omega];exact hp,by omega⟩
def flw (g:GA) (off:Nat):List (List Int):=(List.range g.n).map fun i=>lst g.n (g.follow i) off
theorem z7 (g:GA) (off:Nat):(flw g off).length=g.n:=by simp [flw]
theorem zcd (g:GA) (off:Nat) {i:Nat} (h:i < g.n):(flw g off)[i]'(by rw [z7];exact h)=lst g.n (g.follow i) off:=by simp [flw]
theorem flw_ext {g:GA} {off:Nat} {l:List (List Int)} (hl:l.length=g.n) (h:∀ (i:Nat) (hi:i < l.length),l[i]=lst g.n (g.follow i) off):l=flw g off:=by
 apply List.ext_getElem
 ·rw [hl,z7]
 ·intro i h1 h2
  rw [h i h1,zcd g off (by rw [hl] at h1;exact h1)]
def leadF (F:List (List Int)) (fr to:List Int):List (List Int):=F.mapIdx fun i f=>if (i:Int)∈fr then join f to else f
theorem zaD (F:List (List Int)) (fr to:List Int):(leadF F fr to).length=F.length:=by simp [leadF]
theorem za7 (F:List (List Int)) (fr to:List Int) {i:Nat} (h:i < F.length):(leadF F fr to)[i]'(by rw [zaD];exact h)=if (i:Int)∈fr then join F[i] to else F[i]:=by simp [leadF]
theorem zha (F0:List (List Int)) (a b:GA):leadF (F0++flw a F0.length++flw b (F0.length+a.n)) (lst a.n a.last F0.length) (lst b.n b.first (F0.length+a.n))=F0++flw (gCat a b) F0.length:=by
 apply List.ext_getElem
 ·rw [zaD];simp only [List.length_append,z7];simp only [gCat];omega
 ·intro i h1 h2
  rw [zaD] at h1
  rw [za7 _ _ _ h1]
  simp only [List.length_append,z7] at h1
  have hin:(i:Int)∈lst a.n a.last F0.length↔F0.length≤i∧i < F0.length+a.n∧a.last (i - F0.length)=true:=by
   rw [zaX]
   constructor
   ·rintro ⟨j,hj,hp,e⟩
    have:i=j+F0.length:=by omega
    subst this
    exact ⟨by omega,by omega,by rw [Nat.add_sub_cancel];exact hp⟩
   ·rintro ⟨q1,q2,q3⟩
    exact ⟨i - F0.length,by omega,q3,by omega⟩
  rcases Nat.lt_or_ge i F0.length with hi | hi
  ·rw [if_neg (by rw [hin];omega),List.getElem_append_left (by simp only [List.length_append,z7];omega),List.getElem_append_left hi,List.getElem_append_left hi]
  ·have hr:(F0++flw (gCat a b) F0.length)[i]'h2=lst (a.n+b.n) ((gCat a b).follow (i - F0.length)) F0.length:=by
    rw [List.getElem_append_right hi,zcd _ _ (by show _ < a.n+b.n;omega)];rfl
   rw [hr]
   rcases Nat.lt_or_ge i (F0.length+a.n) with hi2 | hi2
   ·have hl:(F0++flw a F0.length++flw b (F0.length+a.n))[i]'(by simp only [List.length_append,z7];omega)=lst a.n (a.follow (i - F0.length)) F0.length:=by
     rw [List.getElem_append_left (by simp only [List.length_append,z7];omega),List.getElem_append_right hi,zcd _ _ (by omega)]
    rw [hl]
    by_cases hla:a.last (i - F0.length)=true
    ·rw [if_pos (hin.2 ⟨hi,hi2,hla⟩)]
     obtain ⟨j1,j2⟩:=zb4 (lst a.n (a.follow (i - F0.length)) F0.length) (lst b.n b.first (F0.length+a.n))
     refine zfw j1 j2 (fun j hj=>?_) (fun j hj=>?_)
     ·simp only [gCat,blk];rw [if_pos (by omega),if_pos hj]
     ·simp only [gCat,blk];rw [if_pos (by omega),if_neg (by omega),hla,Nat.add_sub_cancel_left];rfl
    ·rw [if_neg (fun h=>hla (hin.1 h).2.2)]
     have hla:a.last (i - F0.length)=false:=by simpa using hla
     refine lst_left (fun j hj=>?_) (fun j h1 h2=>?_)
     ·simp only [gCat,blk];rw [if_pos (by omega),if_pos hj]
     ·simp only [gCat,blk];rw [if_pos (by omega),if_neg (by omega),hla];rfl
   ·rw [if_neg (by rw [hin];omega)]
    have hl:(F0++flw a F0.length++flw b (F0.length+a.n))[i]'(by simp only [List.length_append,z7];omega)=lst b.n (b.follow (i - (F0.length+a.n))) (F0.length+a.n):=by
     rw [List.getElem_append_right (by simp only [List.length_append,z7];omega)]
     simp only [List.length_append,z7]
     rw [zcd _ _ (by omega)]
    rw [hl]
    refine zhB (fun j hj=>?_) (fun j hj=>?_)
    ·simp only [gCat,blk];rw [if_neg (by omega),if_pos hj]
    ·simp only [gCat,blk];rw [if_neg (by omega),if_neg (by omega),show i - F0.length - a.n=i - (F0.length+a.n) by omega,Nat.add_sub_cancel_left]
theorem ziE (F0:List (List Int)) (a:GA):leadF (F0++flw a F0.length) (lst a.n a.last F0.length) (lst a.n a.first F0.length)=F0++flw (gAgain a) F0.length:=by
 apply List.ext_getElem
 ·rw [zaD];simp only [List.length_append,z7];rfl
 ·intro i h1 h2
  rw [zaD] at h1
  rw [za7 _ _ _ h1]
  simp only [List.length_append,z7] at h1
  have hin:(i:Int)∈lst a.n a.last F0.length↔F0.length≤i∧i < F0.length+a.n∧a.last (i - F0.length)=true:=by
   rw [zaX]
   constructor
   ·rintro ⟨j,hj,hp,e⟩
    have:i=j+F0.length:=by omega
    subst this
    exact ⟨by omega,by omega,by rw [Nat.add_sub_cancel];exact hp⟩
   ·rintro ⟨q1,q2,q3⟩
    exact ⟨i - F0.length,by omega,q3,by omega⟩
  rcases Nat.lt_or_ge i F0.length with hi | hi
  ·rw [if_neg (by rw [hin];omega),List.getElem_append_left hi,List.getElem_append_left hi]
  ·have hr:(F0++flw (gAgain a) F0.length)[i]'h2=lst a.n ((gAgain a).follow (i - F0.length)) F0.length:=by
    rw [List.getElem_append_right hi,zcd _ _ (by show _ < a.n;omega)];rfl
   have hl:(F0++flw a F0.length)[i]'(by simp only [List.length_append,z7];omega)=lst a.n (a.follow (i - F0.length)) F0.length:=by
    rw [List.getElem_append_right hi,zcd _ _ (by omega)]
   rw [hr,hl]
   by_cases hla:a.last (i - F0.length)=true
   ·rw [if_pos (hin.2 ⟨hi,by omega,hla⟩)]
    obtain ⟨j1,j2⟩:=zb4 (lst a.n (a.follow (i - F0.length)) F0.length) (lst a.n a.first F0.length)
    refine zhn j1 (zbr _ _ _) fun x=>?_
    rw [j2,zaX,zaX,zaX]
    simp only [gAgain,hla,Bool.true_and,Bool.or_eq_true]
    constructor
    ·rintro (⟨j,q1,q2,rfl⟩ | ⟨j,q1,q2,rfl⟩)
     ·exact ⟨j,q1,.inl q2,rfl⟩
     ·exact ⟨j,q1,.inr q2,rfl⟩
    ·rintro ⟨j,q1,q2 | q2,rfl⟩
     ·exact .inl ⟨j,q1,q2,rfl⟩
     ·exact .inr ⟨j,q1,q2,rfl⟩
   ·rw [if_neg (fun h=>hla (hin.1 h).2.2)]
    have hla:a.last (i - F0.length)=false:=by simpa using hla
    exact lst_congr fun j hj=>by simp [gAgain,hla]
theorem flw_alt (a b:GA) (off:Nat):flw a off++flw b (off+a.n)=flw (gAlt a b) off:=by
 refine flw_ext (by simp [z7,gAlt]) fun i hi=>?_
 simp only [List.length_append,z7] at hi
 show _=lst (a.n+b.n) _ off
 rcases Nat.lt_or_ge i a.n with h | h
 ·rw [List.getElem_append_left (by rw [z7];exact h),zcd _ _ h]
  refine lst_left (fun j hj=>?_) (fun j h1 h2=>?_)
  ·simp only [gAlt,blk];rw [if_pos h,if_pos hj]
  ·simp only [gAlt,blk];rw [if_pos h,if_neg (by omega)]
 ·rw [List.getElem_append_right (by rw [z7];exact h)]
  simp only [z7]
  rw [zcd _ _ (by omega)]
  refine zhB (fun j hj=>?_) (fun j hj=>?_)
  ·simp only [gAlt,blk];rw [if_neg (by omega),if_pos hj]
  ·simp only [gAlt,blk];rw [if_neg (by omega),if_neg (by omega),Nat.add_sub_cancel_left]
def pc (g:GA) (off:Nat):zq:=⟨lst g.n g.first off,lst g.n g.last off,g.null⟩
theorem zh7 (a b:GA) (off:Nat):(if a.null=true then join (lst a.n a.first off) (lst b.n b.first (off+a.n)) else lst a.n a.first off)=lst (a.n+b.n) (gCat a b).first off:=by
 split
 ·rename_i h
  obtain ⟨j1,j2⟩:=zb4 (lst a.n a.first off) (lst b.n b.first (off+a.n))
  exact zfw j1 j2 (fun j hj=>by simp only [gCat];rw [if_pos hj]) (fun j hj=>by simp only [gCat];rw [if_neg (by omega),h,Nat.add_sub_cancel_left];rfl)
 ·rename_i h
  have h:a.null=false:=by simpa using h
  exact lst_left (fun j hj=>by simp only [gCat];rw [if_pos hj]) (fun j h1 h2=>by simp only [gCat];rw [if_neg (by omega),h];rfl)
theorem zfK (a b:GA) (off:Nat):(if b.null=true then join (lst a.n a.last off) (lst b.n b.last (off+a.n)) else lst b.n b.last (off+a.n))=lst (a.n+b.n) (gCat a b).last off:=by
 split
 ·rename_i h
  obtain ⟨j1,j2⟩:=zb4 (lst a.n a.last off) (lst b.n b.last (off+a.n))
  exact zfw j1 j2 (fun j hj=>by simp only [gCat];rw [if_pos hj,h];rfl) (fun j hj=>by simp only [gCat];rw [if_neg (by omega),Nat.add_sub_cancel_left])
 ·rename_i h
  have h:b.null=false:=by simpa using h
  exact zhB (fun j hj=>by simp only [gCat];rw [if_pos hj,h];rfl) (fun j hj=>by simp only [gCat];rw [if_neg (by omega),Nat.add_sub_cancel_left])
theorem alt_first (a b:GA) (off:Nat):join (lst a.n a.first off) (lst b.n b.first (off+a.n))=lst (a.n+b.n) (gAlt a b).first off:=by
 obtain ⟨j1,j2⟩:=zb4 (lst a.n a.first off) (lst b.n b.first (off+a.n))
 exact zfw j1 j2 (fun j hj=>by simp only [gAlt];rw [if_pos hj]) (fun j hj=>by simp only [gAlt];rw [if_neg (by omega),Nat.add_sub_cancel_left])
theorem alt_last (a b:GA) (off:Nat):join (lst a.n a.last off) (lst b.n b.last (off+a.n))=lst (a.n+b.n) (gAlt a b).last off:=by
 obtain ⟨j1,j2⟩:=zb4 (lst a.n a.last off) (lst b.n b.last (off+a.n))
 exact zfw j1 j2 (fun j hj=>by simp only [gAlt];rw [if_pos hj]) (fun j hj=>by simp only [gAlt];rw [if_neg (by omega),Nat.add_sub_cancel_left])
end Go.Ev.Pl
namespace Go.Ev.Pl
open Go Go.Ev
theorem set_eq {α:Type} {l:List α} {i:Nat} {x:α} {m:List α} (hl:m.length=l.length) (h1:∀ (j:Nat) (h:j < l.length),j≠i→m[j]'(by omega)=l[j]) (h2:∀ h:i < l.length,m[i]'(by omega)=x):l.set i x=m:=by
 apply List.ext_getElem
 ·simp [hl]
 ·intro j a b
  rw [List.getElem_set]
  split
  ·rename_i e;subst e;exact (h2 (by simpa using a)).symm
  ·rename_i e;exact (h1 j (by simpa using a) (fun h=>e h.symm)).symm
theorem zdp {α:Type} {L:List (List α)} {i:Nat} (h:i < L.length):(L.take (i+1)).flatten=(L.take i).flatten++L[i]:=by
 rw [List.take_succ_eq_append_getElem h,List.flatten_append];simp
theorem zcm {α:Type} (L:List (List α)) (i:Nat):(L.take i).flatten.length≤L.flatten.length:=by
 conv=>rhs;rw [← List.take_append_drop i L]
 rw [List.flatten_append,List.length_append];omega
theorem concat_ok (L:List (List Int)) (hL:L.length < 1099511627776) (hT:L.flatten.length < 1000000000):zX L L.flatten:=by
 refine zdt L _ ⟨fun s t=>∃ i:Nat,t=i∧i≤L.length∧s=(L.take i).flatten.length,fun s t=>(L.length - t).toNat,⟨0,rfl,by omega,by simp⟩,?_⟩
 rintro s t ⟨i,rfl,hi,rfl⟩
 have hb:=zcm L i
 refine ⟨fun ht=>?_,fun ht=>?_⟩
 ·have ht:i < L.length:=by simpa using ht
  have hs:=congrArg List.length (zdp ht)
  rw [List.length_append] at hs
  have hb2:=zcm L (i+1)
  have hg:gd L (i:Int)=L[i]:=zT ht
  have hw1:w64 (((L.take i).flatten.length:Int)+(gd L (i:Int)).length)=((L.take (i+1)).flatten.length:Int):=by
   rw [hg,hs];exact (zK (by omega) (by omega)).trans (by omega)
  have hw2:w64 ((i:Int)+1)=((i+1:Nat):Int):=zK (by omega) (by omega)
  rw [hw1,hw2]
  exact ⟨True,fun _=>⟨⟨i+1,rfl,by omega,rfl⟩,by dsimp only;omega⟩,by omega,by omega,fun h=>absurd (of_decide_eq_true h) (by omega),fun _=>trivial⟩
 ·refine ⟨⟨by omega,by omega⟩,fun l t=>∃ i:Nat,t=i∧i≤L.length∧l=(L.take i).flatten,fun l t=>(L.length - t).toNat,⟨0,rfl,by omega,rfl⟩,?_⟩
  rintro l t ⟨j,rfl,hj,rfl⟩
  have hb3:=zcm L j
  refine ⟨fun ht=>?_,fun ht=>?_⟩
  ·have ht:j < L.length:=by simpa using ht
   have hg:gd L (j:Int)=L[j]:=zT ht
   have hs:=zdp ht
   have hs2:=congrArg List.length hs
   rw [List.length_append] at hs2
   have hb2:=zcm L (j+1)
   have hw2:w64 ((j:Int)+1)=((j+1:Nat):Int):=zK (by omega) (by omega)
   rw [hw2,hg]
   exact ⟨by omega,by omega,by omega,⟨j+1,rfl,by omega,hs.symm⟩,by dsimp only;omega⟩
  ·have:j=L.length:=by have:¬ j < L.length:=by simpa using ht
                       omega
   subst this
   rw [List.take_of_length_le (Nat.le_refl _)]
theorem zdJ (a b:List Int) (ha:a.length < 100000000) (hb:b.length < 100000000):z8 a b (join a b):=by
 have h:=concat_ok [a,b] (by simp) (by simp;omega)
 have e:[a,b].flatten=a++b:=by simp
 rw [e] at h
 exact zgY a b _ ⟨_,h,by simp;omega,sort_len _,by rw [sort_len];simp;omega,rfl⟩
theorem lead_ok (fr to:List Int) (b:zw) (hfr:SS fr) (hin:∀ x∈fr,0≤x∧x < b.follow.length) (hto:to.length < 10000000) (hF:∀ f∈b.follow,f.length < 10000000) (hlen:fr.length < 10000000):za9 fr to b { sets:=b.sets,follow:=leadF b.follow fr to }:=by
 refine zeF fr to b _ ⟨fun F t=>∃ i:Nat,t=i∧i≤fr.length∧F=leadF b.follow (fr.take i) to,fun F t=>(fr.length - t).toNat,⟨0,rfl,by omega,by simp [leadF];exact (List.ext_getElem (by simp) (fun j h1 h2=>by simp))⟩,?_⟩
 rintro F t ⟨i,rfl,hi,rfl⟩
 refine ⟨fun ht=>?_,fun ht=>?_⟩
 ·have ht:i < fr.length:=by simpa using ht
  have hg:gd fr (i:Int)=fr[i]:=zT ht
  rw [hg]
  obtain ⟨q0,q1⟩:=hin _ (List.getElem_mem ht)
  obtain ⟨e,he⟩:∃ e:Nat,fr[i]=e:=⟨fr[i].toNat,by omega⟩
  rw [he] at q1 ⊢
  have he2:e < b.follow.length:=by omega
  have hl:(leadF b.follow (fr.take i) to).length=b.follow.length:=zaD _ _ _
  have hnot:∀ j:Nat,(hj:j < b.follow.length)→j=e→¬ ((j:Int)∈fr.take i):=by
   rintro j hj rfl hm
   obtain ⟨k,hk,hk2⟩:=List.mem_iff_getElem.1 hm
   simp only [List.length_take] at hk
   rw [List.getElem_take] at hk2
   have:=List.pairwise_iff_getElem.1 hfr k i (by omega) ht (by omega)
   omega
  have hge:gd (leadF b.follow (fr.take i) to) (e:Int)=b.follow[e]:=by
   rw [zT (by rw [hl];exact he2),za7 _ _ _ he2,if_neg (hnot e he2 rfl)]
  have hw2:w64 ((i:Int)+1)=((i+1:Nat):Int):=zK (by omega) (by omega)
  refine ⟨by omega,by omega,by omega,by rw [hl];omega,by rw [hl];omega,join b.follow[e] to,?_,by omega,by rw [hl];omega,by rw [hl];omega,?_⟩
  ·rw [hge];exact zdJ _ _ (by have:=hF _ (List.getElem_mem he2);omega) (by omega)
  ·rw [hw2]
   refine ⟨⟨i+1,rfl,by omega,?_⟩,by dsimp only;omega⟩
   show List.set _ e _=_
   refine set_eq (by rw [zaD,zaD]) (fun j hj hne=>?_) (fun hj=>?_)
   ·rw [hl] at hj
    rw [za7 _ _ _ hj,za7 _ _ _ hj,List.take_succ_eq_append_getElem ht,he]
    have:((j:Int)∈fr.take i++[(e:Int)])↔(j:Int)∈fr.take i:=by
     rw [List.mem_append,List.mem_singleton]
     constructor
     ·rintro (h | h)
      ·exact h
      ·exact absurd (by omega) hne
     ·exact .inl
    simp only [this]
   ·rw [za7 _ _ _ he2,List.take_succ_eq_append_getElem ht,he,if_pos (by simp)]
 ·have:i=fr.length:=by have:¬ i < fr.length:=by simpa using ht
                       omega
  subst this
  rw [List.take_of_length_le (Nat.le_refl _)]
theorem zee (g:GA) (off:Nat) (h:g.n < 10000000):∀ f∈flw g off,f.length < 10000000:=by
 intro f hf
 simp only [flw,List.mem_map,List.mem_range] at hf
 obtain ⟨i,_,rfl⟩:=hf
 have:=zaq g.n (g.follow i) off
 omega
theorem cat_ok (F0:List (List Int)) (S:List zc) (a b:GA) (hF:∀ f∈F0,f.length < 10000000) (hab:a.n+b.n < 1000000) (hF2:F0.length < 1000000) :
 zaP (pc a F0.length) (pc b (F0.length+a.n)) { sets:=S,follow:=F0++flw a F0.length++flw b (F0.length+a.n) } (pc (gCat a b) F0.length) { sets:=S,follow:=F0++flw (gCat a b) F0.length }:=by
 have hla:=zaq a.n a.last F0.length
 have hlb:=zaq b.n b.first (F0.length+a.n)
 have hlb2:=zaq b.n b.last (F0.length+a.n)
 have hla2:=zaq a.n a.first F0.length
 have hlead:=lead_ok (lst a.n a.last F0.length) (lst b.n b.first (F0.length+a.n)) { sets:=S,follow:=F0++flw a F0.length++flw b (F0.length+a.n) } (zbr _ _ _) (fun x hx=>by
  obtain ⟨i,hi,_,rfl⟩:=zaX.1 hx
  simp only [List.length_append,z7];omega) (by omega) (fun f hf=>by
  rcases List.mem_append.1 hf with hf | hf
  ·rcases List.mem_append.1 hf with hf | hf
   ·exact hF f hf
   ·exact zee a _ (by omega) f hf
  ·exact zee b _ (by omega) f hf) (by omega)
 simp only [zha] at hlead
 refine ze8 _ _ _ _ _ ⟨_,hlead,fun l=>l=lst (a.n+b.n) (gCat a b).first F0.length,?_,fun hn=>⟨_,zdJ _ _ (by show (lst _ _ _).length < _;omega) (by show (lst _ _ _).length < _;omega),?_⟩,fun hn=>?_⟩
 ·rintro l rfl
  refine ⟨fun l=>l=lst (a.n+b.n) (gCat a b).last F0.length,?_,fun hn=>⟨_,zdJ _ _ (by show (lst _ _ _).length < _;omega) (by show (lst _ _ _).length < _;omega),?_⟩,fun hn=>?_⟩
  ·rintro l rfl;exact ⟨rfl,rfl⟩
  ·have:=zfK a b F0.length
   rw [if_pos (show b.null=true from hn)] at this;exact this
  ·have:=zfK a b F0.length
   rw [if_neg (by show ¬ (b.null=true);have:b.null=false:=hn;simp [this])] at this;exact this
 ·have:=zh7 a b F0.length
  rw [if_pos (show a.null=true from hn)] at this;exact this
 ·have:=zh7 a b F0.length
  rw [if_neg (by show ¬ (a.null=true);have:a.null=false:=hn;simp [this])] at this;exact this
end Go.Ev.Pl
namespace Go.Ev.Pl
open Go Go.Ev
def Rgt (x:zi):Prop:=∃ d,rgt x d=true
theorem zd5 {x:zi} (h:Rgt x):ownB x=true∧∀ k∈x.Kids,Rgt k:=by
 obtain ⟨d,h⟩:=h
 rw [zgz] at h
 simp only [Bool.and_eq_true,List.all_eq_true] at h
 exact ⟨h.1.2,fun k hk=>⟨d - 1,(h.2 k hk).2⟩⟩
theorem zf8 {x:zi} (h:ownB x=true) (h5:x.Kind=5):(∃ k,x.Kids=[k])∧0≤x.Lo∧x.Lo≤20∧(x.Hi = -1∨1≤x.Hi∧x.Lo≤x.Hi∧x.Hi≤20):=by
 simp only [ownB,if_pos h5,timesB,Bool.and_eq_true,decide_eq_true_eq,Bool.or_eq_true,beq_iff_eq] at h
 obtain ⟨_,h1,h2,h3,h4⟩:=h
 refine ⟨?_,h2,h3,?_⟩
 ·match hq:x.Kids,h1 with
  | [k],_=>exact ⟨k,rfl⟩
 ·rcases h4 with h4 | ⟨h4,h5⟩
  ·exact .inl h4
  ·exact .inr (by omega)
theorem own_kids {x:zi} (h:ownB x=true) (h34:x.Kind=3∨x.Kind=4):2≤x.Kids.length:=by
 simp only [ownB] at h
 rw [if_neg (by omega),if_neg (by omega),if_neg (by omega),if_pos h34] at h
 simp only [Bool.and_eq_true,decide_eq_true_eq] at h
 exact h.2.2
theorem zev {x:zi} (h:ownB x=true):x.Kind=1∨x.Kind=2∨x.Kind=3∨x.Kind=4∨x.Kind=5:=by
 simp only [ownB] at h
 split at h
 ·omega
 ·split at h
  ·omega
  ·split at h
   ·omega
   ·split at h
    ·omega
    ·cases h
theorem zhJ {f:GA→GA} {a:GA} (hf:∀ o,(f o).n=a.n+o.n):∀ k z,(iter f k z).n=k * a.n+z.n
 | 0,z=>by simp [iter]
 | k+1,z=>by rw [iter,hf,zhJ hf k,Nat.succ_mul];omega
def cpS (a:GA) (k:Nat):List zc:=(List.replicate k a.sets).flatten
theorem zfy {f:GA→GA} {a:GA} (hf:∀ o,(f o).sets=a.sets++o.sets):∀ k z,(iter f k z).sets=cpS a k++z.sets
 | 0,z=>by simp [iter,cpS]
 | k+1,z=>by rw [iter,hf,zfy hf k];simp [cpS,List.replicate_succ]
theorem zhI (a:GA):∀ k z,(iter (gCat a) k z).null=(z.null && (decide (k=0) || a.null))
 | 0,z=>by simp [iter]
 | k+1,z=>by
   rw [iter]
   show (a.null && (iter (gCat a) k z).null)=_
   rw [zhI a k z]
   cases a.null<;>cases z.null<;>simp
theorem rep_n (a:GA) {lo hi:Int} (h1:0≤lo) (h2:hi = -1∨1≤hi∧lo≤hi):(gRep a lo hi).n=(max 1 (max lo hi)).toNat * a.n:=by
 unfold gRep
 split
 ·rw [zhJ (f:=gCat a) (a:=a) (fun _=>rfl)]
  have:(if lo=0 then gMaybe (gAgain a) else gAgain a).n=a.n:=by split<;>rfl
  rw [this,← Nat.succ_mul]
  congr 1
  omega
 ·rw [zhJ (f:=gCat a) (a:=a) (fun _=>rfl),zhJ (f:=fun o=>gMaybe (gCat a o)) (a:=a) (fun _=>rfl)]
  show _+(_+0)=_
  rw [Nat.add_zero,← Nat.add_mul]
  congr 1
  omega
theorem rep_sets (a:GA) {lo hi:Int} (h1:0≤lo) (h2:hi = -1∨1≤hi∧lo≤hi):(gRep a lo hi).sets=cpS a (max 1 (max lo hi)).toNat:=by
 have key:∀ j k,cpS a j++cpS a k=cpS a (j+k):=fun j k=>by
  simp only [cpS];rw [← List.flatten_append,List.replicate_append_replicate]
 unfold gRep
 split
 ·rw [zfy (f:=gCat a) (a:=a) (fun _=>rfl)]
  have:(if lo=0 then gMaybe (gAgain a) else gAgain a).sets=cpS a 1:=by split<;>simp [cpS,gMaybe,gAgain]
  rw [this,key]
  congr 1
  omega
 ·rw [zfy (f:=gCat a) (a:=a) (fun _=>rfl),zfy (f:=fun o=>gMaybe (gCat a o)) (a:=a) (fun _=>rfl)]
  show _++(_++[])=_
  rw [List.append_nil,key]
  congr 1
  omega
theorem rep_null (a:GA) {lo hi:Int} (h1:0≤lo) (h2:hi = -1∨1≤hi∧lo≤hi):(gRep a lo hi).null=(decide (lo≤0) || a.null):=by
 unfold gRep
 split
 ·rw [zhI]
  by_cases h:lo=0
  ·subst h;simp [gMaybe,gAgain];left;rfl
  ·have:¬ lo≤0:=by omega
   simp only [if_neg h,gAgain,this,decide_false,Bool.false_or]
   cases a.null<;>simp
 ·rw [zhI]
  have hin:∀ k,(iter (fun o=>gMaybe (gCat a o)) k gEmpty).null=true:=by
   intro k;cases k<;>rfl
  rw [hin,Bool.true_and]
  congr 1
  simp only [decide_eq_decide];omega
theorem zhV {f:GA→GA→GA} (hf:∀ a b,(f a b).n=a.n+b.n):∀ (l:List zi) (z:GA),(l.foldl (fun o y=>f o (gof y)) z).n=z.n+(l.map fun y=>(gof y).n).sum
 | [],z=>by simp
 | y :: r,z=>by rw [List.foldl_cons,zhV hf r,hf];simp;omega
theorem zin:∀ x,Rgt x→(gof x).n=sizeN x:=by
 refine rxInd fun x ih hr=>?_
 obtain ⟨ho,hk⟩:=zd5 hr
 have hkn:(x.Kids.map fun y=>(gof y).n)=x.Kids.map sizeN:=List.map_congr_left fun y hy=>ih y hy (hk y hy)
 rw [zda,zcK]
 rcases zev ho with h | h | h | h | h
 ·simp [h,gEmpty]
 ·simp [h,gByte]
 ·simp only [h]
  simp only [show ¬ ((3:Int)=2) by omega,if_false,if_true,show (3:Int)≤3∧(3:Int)≤5 from ⟨by omega,by omega⟩,show ¬ ((3:Int)=5) by omega]
  rw [zhV (f:=gCat) (fun _ _=>rfl),hkn]
  show 0+_=_;simp
 ·simp only [h]
  simp only [show ¬ ((4:Int)=2) by omega,show ¬ ((4:Int)=3) by omega,if_false,if_true,show (3:Int)≤4∧(4:Int)≤5 from ⟨by omega,by omega⟩,show ¬ ((4:Int)=5) by omega]
  rw [zhV (f:=gAlt) (fun _ _=>rfl),hkn]
  show 0+_=_;simp
 ·obtain ⟨⟨k,hq⟩,h1,h2,h3⟩:=zf8 ho h
  simp only [h]
  simp only [show ¬ ((5:Int)=2) by omega,show ¬ ((5:Int)=3) by omega,show ¬ ((5:Int)=4) by omega,if_false,if_true,show (3:Int)≤5∧(5:Int)≤5 from ⟨by omega,by omega⟩]
  rw [hq]
  simp only [List.map_cons,List.map_nil,List.headD_cons,List.sum_cons,List.sum_nil,Nat.add_zero]
  rw [rep_n _ h1 (by omega),ih k (by rw [hq];simp) (hk k (by rw [hq];simp)),Nat.mul_comm]
  congr 1
  simp only [timesN];omega
theorem zeM:∀ (l:List zi) (z:GA),(l.foldl (fun o y=>gCat o (gof y)) z).null=(z.null && l.all fun y=>(gof y).null)
 | [],z=>by simp
 | y :: r,z=>by rw [List.foldl_cons,zeM r];simp [gCat,Bool.and_assoc]
theorem zeN:∀ (l:List zi) (z:GA),(l.foldl (fun o y=>gAlt o (gof y)) z).null=(z.null || l.any fun y=>(gof y).null)
 | [],z=>by simp
 | y :: r,z=>by rw [List.foldl_cons,zeN r];simp [gAlt,Bool.or_assoc]
theorem all_congr' {l:List zi} {p q:zi→Bool} (h:∀ y∈l,p y=q y):l.all p=l.all q:=by
 induction l with
 | nil=>rfl
 | cons y r ih=>simp only [List.all_cons];rw [h y (List.mem_cons_self ..),ih fun z hz=>h z (List.mem_cons_of_mem _ hz)]
theorem any_congr' {l:List zi} {p q:zi→Bool} (h:∀ y∈l,p y=q y):l.any p=l.any q:=by
 induction l with
 | nil=>rfl
 | cons y r ih=>simp only [List.any_cons];rw [h y (List.mem_cons_self ..),ih fun z hz=>h z (List.mem_cons_of_mem _ hz)]
theorem gof_null:∀ x,Rgt x→(gof x).null=nullB x:=by
 refine rxInd fun x ih hr=>?_
 obtain ⟨ho,hk⟩:=zd5 hr
 rw [zda,nullB_eq]
 rcases zev ho with h | h | h | h | h
 ·simp [h,gEmpty]
 ·simp [h,gByte]
 ·simp only [h]
  simp only [show ¬ ((3:Int)=2) by omega,show ¬ ((3:Int)=1) by omega,if_false,if_true]
  rw [zeM,all_congr' fun y hy=>ih y hy (hk y hy)];rfl
 ·simp only [h]
  simp only [show ¬ ((4:Int)=2) by omega,show ¬ ((4:Int)=3) by omega,show ¬ ((4:Int)=1) by omega,if_false,if_true]
  rw [zeN,any_congr' fun y hy=>ih y hy (hk y hy)];rfl
 ·obtain ⟨⟨k,hq⟩,h1,h2,h3⟩:=zf8 ho h
  simp only [h]
  simp only [show ¬ ((5:Int)=2) by omega,show ¬ ((5:Int)=3) by omega,show ¬ ((5:Int)=4) by omega,show ¬ ((5:Int)=1) by omega,if_false,if_true]
  rw [hq]
  simp only [List.map_cons,List.map_nil,List.headD_cons,List.all_cons,List.all_nil,Bool.and_true]
  rw [rep_null _ h1 (by omega),ih k (by rw [hq];simp) (hk k (by rw [hq];simp))]
theorem zero_null:∀ x,Rgt x→sizeN x=0→nullB x=true:=by
 refine rxInd fun x ih hr h0=>?_
 obtain ⟨ho,hk⟩:=zd5 hr
 rw [zcK] at h0
 rw [nullB_eq]
 have hsum:(x.Kids.map sizeN).sum=0→∀ y∈x.Kids,nullB y=true:=fun h y hy=>ih y hy (hk y hy) (by
  have:=List.sum_eq_zero_iff_forall_eq_nat.1 h (sizeN y) (List.mem_map.2 ⟨y,hy,rfl⟩);exact this)
 rcases zev ho with h | h | h | h | h
 ·simp [h]
 ·simp [h] at h0
 ·simp only [h] at h0 ⊢
  simp at h0
  simp only [show ¬ ((3:Int)=1) by omega,if_false,if_true,List.all_eq_true]
  exact hsum h0
 ·simp only [h] at h0 ⊢
  simp at h0
  have h2:=own_kids ho (.inr h)
  simp only [show ¬ ((4:Int)=1) by omega,show ¬ ((4:Int)=3) by omega,if_false,if_true]
  have hm:x.Kids[0]'(by omega)∈x.Kids:=List.getElem_mem _
  exact List.any_eq_true.2 ⟨_,hm,hsum h0 _ hm⟩
 ·obtain ⟨⟨k,hq⟩,h1,h2,h3⟩:=zf8 ho h
  simp only [h] at h0 ⊢
  simp only [show ¬ ((5:Int)=2) by omega,if_false,if_true,show (3:Int)≤5∧(5:Int)≤5 from ⟨by omega,by omega⟩] at h0
  have ht:1≤timesN x:=by simp only [timesN];omega
  have hs:(x.Kids.map sizeN).sum=0:=by
   rcases Nat.mul_eq_zero.1 h0 with h | h
   ·exact h
   ·omega
  simp only [show ¬ ((5:Int)=3) by omega,show ¬ ((5:Int)=4) by omega,show ¬ ((5:Int)=1) by omega,if_false,if_true]
  have:x.Kids.all nullB=true:=List.all_eq_true.2 (hsum hs)
  rw [this];simp
theorem gof_zero {x:zi} (hr:Rgt x) (h0:sizeN x=0):gof x=gEmpty:=
 canon_zero (zaG x) ((zin x hr).trans h0) ((gof_null x hr).trans (zero_null x hr h0))
end Go.Ev.Pl
namespace Go.Ev.Pl
open Go Go.Ev
def hF (h:Nat→GA) (m n:Nat):Nat→List (List Int)
 | 0=>[]
 | N+1=>hF h m n N++flw (h N) (m+N * n)
theorem hF_len {h:Nat→GA} {m n:Nat} (hn:∀ j,(h j).n=n):∀ N,(hF h m n N).length=N * n
 | 0=>by simp [hF]
 | N+1=>by rw [hF,List.length_append,hF_len hn N,z7,hn,Nat.succ_mul]
theorem hF_congr {h h':Nat→GA} {m n:Nat}:∀ N,(∀ j,j < N→h j=h' j)→hF h m n N=hF h' m n N
 | 0,_=>rfl
 | N+1,e=>by rw [hF,hF,hF_congr N (fun j hj=>e j (by omega)),e N (by omega)]
theorem zhd {h:Nat→GA} {m n:Nat} (hs:∀ j,(h j).n < 10000000):∀ N,∀ f∈hF h m n N,f.length < 10000000
 | 0,f,hf=>by simp [hF] at hf
 | N+1,f,hf=>by
   rw [hF,List.mem_append] at hf
   rcases hf with hf | hf
   ·exact zhd hs N f hf
   ·exact zee _ _ (hs N) f hf
theorem cpS_succ (a:GA) (k:Nat):cpS a (k+1)=cpS a k++a.sets:=by
 simp only [cpS,List.replicate_succ',List.flatten_append];simp
structure Room (F0:List (List Int)) (S:List zc) (n:Nat):Prop where
 same:S.length=F0.length
 small:∀ f∈F0,f.length < 10000000
 room:F0.length+n < 1000000
def PieceOk (x:zi):Prop:=∀ F0 S,Room F0 S (gof x).n→zar x { sets:=S,follow:=F0 } (pc (gof x) F0.length) { sets:=S++(gof x).sets,follow:=F0++flw (gof x) F0.length }
theorem copies_ok {k:zi} (hp:PieceOk k) (N:Nat) (hN:N≤1000) (F0:List (List Int)) (S:List zc) (hr:Room F0 S (N * (gof k).n)) :
 zax k N { sets:=S,follow:=F0 } ((List.range N).map fun i=>pc (gof k) (F0.length+i * (gof k).n)) { sets:=S++cpS (gof k) N,follow:=F0++hF (fun _=>gof k) F0.length (gof k).n N }:=by
 have hc:=zaG k
 refine zdW k N _ _ _ ⟨fun s f o t=>∃ i:Nat,t=i∧i≤N∧s=S++cpS (gof k) i∧f=F0++hF (fun _=>gof k) F0.length (gof k).n i∧o=(List.range i).map fun i=>pc (gof k) (F0.length+i * (gof k).n),
  fun _ _ _ t=>(N - t).toNat,⟨0,rfl,by omega,by simp [cpS],by simp [hF],rfl⟩,?_⟩
 rintro s f o t ⟨i,rfl,hi,rfl,rfl,rfl⟩
 refine ⟨fun ht=>?_,fun ht=>?_⟩
 ·have ht:i < N:=by simpa using ht
  have hle:(i+1) * (gof k).n≤N * (gof k).n:=Nat.mul_le_mul_right _ ht
  rw [Nat.add_mul,Nat.one_mul] at hle
  have hlen:(F0++hF (fun _=>gof k) F0.length (gof k).n i).length=F0.length+i * (gof k).n:=by rw [List.length_append,hF_len fun _=>rfl]
  have hroom:=hr.room
  have hsl:∀ j,(cpS (gof k) j).length=j * (gof k).n:=fun j=>by simp [cpS,hc.sets]
  have:=hp (F0++hF (fun _=>gof k) F0.length (gof k).n i) (S++cpS (gof k) i) ⟨by rw [hlen,List.length_append,hr.same,hsl],fun f hf=>by
   rcases List.mem_append.1 hf with hf | hf
   ·exact hr.small f hf
   ·exact zhd (fun _=>by omega) i f hf,by rw [hlen];omega⟩
  rw [hlen,List.append_assoc,List.append_assoc,← cpS_succ] at this
  have hw2:w64 ((i:Int)+1)=((i+1:Nat):Int):=zK (by omega) (by omega)
  refine ⟨_,_,this,by simp;omega,?_⟩
  rw [hw2]
  exact ⟨⟨i+1,rfl,by omega,rfl,rfl,by rw [List.range_succ,List.map_append];rfl⟩,by dsimp only;omega⟩
 ·have:i=N:=by have:¬ i < N:=by simpa using ht
               omega
  subst this
  exact ⟨rfl,rfl⟩
def fromEnd (h:Nat→GA) (mb:Nat→Bool) (N:Nat):Nat→GA
 | 0=>gEmpty
 | i+1=>let o:=gCat (h (N - 1 - i)) (fromEnd h mb N i);if mb (N - 1 - i)=true then gMaybe o else o
theorem fromEnd_n {h:Nat→GA} {mb:Nat→Bool} {N n:Nat} (hn:∀ j,(h j).n=n):∀ i,(fromEnd h mb N i).n=i * n
 | 0=>by simp [fromEnd,gEmpty]
 | i+1=>by
   simp only [fromEnd]
   have:(gCat (h (N - 1 - i)) (fromEnd h mb N i)).n=(i+1) * n:=by
    show (h (N - 1 - i)).n+(fromEnd h mb N i).n=_
    rw [hn,fromEnd_n hn i,Nat.succ_mul];omega
   split
   ·exact this
   ·exact this
theorem rep_loop {x:zi} {h:Nat→GA} {N n:Nat} {F0:List (List Int)} {S S':List zc} (hn:∀ j,(h j).n=n) (hr:Room F0 S (N * n)) (hN:N≤1000) {l:List zq} (hl:l=(List.range N).map fun j=>pc (h j) (F0.length+j * n))
 {res:zq} {fin:zw} (hres:res=pc (fromEnd h (fun j=>decide (x.Hi≥0) && decide ((j:Int)≥x.Lo)) N N) F0.length)
 (hfin:fin={ sets:=S',follow:=F0++flw (fromEnd h (fun j=>decide (x.Hi≥0) && decide ((j:Int)≥x.Lo)) N N) F0.length }) :
 (List.length l < 1099511627776∧∃ (Inv24:Nat→List zc→List (List Int)→List Int→List Int→Bool→Prop),Inv24 0 S' (F0++hF h F0.length n N) [] [] Bool.true∧
   (∀ (i:Nat) (y:zq),i < List.length l→l[List.length l - 1 - i]?=some y→∀ (s:List zc) (f:List (List Int)) (o1 o2:List Int) (o3:Bool),Inv24 i s f o1 o2 o3→
     (∃ r0_6:zq,∃ o_4:zw,zaP y { first:=o1,last:=o2,null:=o3 } { sets:=s,follow:=f } r0_6 o_4∧
       (((decide (x.Hi≥0) && decide ((List.length l:Int) - 1 - i≥x.Lo))=true→(∃ r0_7:zq,zcR r0_6 r0_7∧Inv24 (i+1) o_4.sets o_4.follow r0_7.first r0_7.last r0_7.null))∧
         ((decide (x.Hi≥0) && decide ((List.length l:Int) - 1 - i≥x.Lo))=false→Inv24 (i+1) o_4.sets o_4.follow r0_6.first r0_6.last r0_6.null))))∧
   (∀ (s:List zc) (f:List (List Int)) (o1 o2:List Int) (o3:Bool),Inv24 (List.length l) s f o1 o2 o3→(res={ first:=o1,last:=o2,null:=o3 }∧fin={ sets:=s,follow:=f }))):=by
 have hll:l.length=N:=by rw [hl];simp
 obtain ⟨mb,hmb⟩:∃ mb:Nat→Bool,mb=fun j:Nat=>decide (x.Hi≥0) && decide ((j:Int)≥x.Lo):=⟨_,rfl⟩
 rw [← hmb] at hres hfin
 have hroom:=hr.room
 rw [hll]
 refine ⟨by omega,fun i s f o1 o2 o3=>i≤N∧s=S'∧f=F0++hF h F0.length n (N - i)++flw (fromEnd h mb N i) (F0.length+(N - i) * n)∧(⟨o1,o2,o3⟩:zq)=pc (fromEnd h mb N i) (F0.length+(N - i) * n),⟨by omega,rfl,by simp [fromEnd,flw,gEmpty],rfl⟩,?_,?_⟩
 ·rintro i y hi hy s f o1 o2 o3 ⟨_,rfl,rfl,hp⟩
  have hy:y=pc (h (N - 1 - i)) (F0.length+(N - 1 - i) * n):=by
   rw [hl,List.getElem?_map,List.getElem?_range (by omega)] at hy
   simpa using hy.symm
  have e1:N - i=(N - 1 - i)+1:=by omega
  have hlen:(F0++hF h F0.length n (N - 1 - i)).length=F0.length+(N - 1 - i) * n:=by rw [List.length_append,hF_len hn]
  have hmul:(N - 1 - i) * n+(n+i * n)=N * n:=by
   have:N=(N - 1 - i)+(1+i):=by omega
   conv=>rhs;rw [this,Nat.add_mul,Nat.add_mul,Nat.one_mul]
  have hcat:=cat_ok (F0++hF h F0.length n (N - 1 - i)) s (h (N - 1 - i)) (fromEnd h mb N i) (fun f hf=>by
   rcases List.mem_append.1 hf with hf | hf
   ·exact hr.small f hf
   ·exact zhd (fun j=>by have:=hn j;omega) _ f hf) (by rw [hn,fromEnd_n hn];omega) (by rw [hlen];omega)
  rw [hlen,hn] at hcat
  have hpos:F0.length+(N - 1 - i) * n+n=F0.length+(N - i) * n:=by rw [e1,Nat.succ_mul];omega
  rw [hpos] at hcat
  have hfl:F0++hF h F0.length n (N - i)=F0++hF h F0.length n (N - 1 - i)++flw (h (N - 1 - i)) (F0.length+(N - 1 - i) * n):=by
   rw [e1,hF,List.append_assoc]
  rw [hfl,hp,hy]
  refine ⟨_,_,hcat,fun hm=>⟨_,W_place_maybe _ _ rfl,?_⟩,fun hm=>?_⟩
  all_goals have hidx:((N:Int) - 1 - i)=((N - 1 - i:Nat):Int):=by omega
  all_goals rw [hidx] at hm
  all_goals have e2:N - (i+1)=N - 1 - i:=by omega
  ·have hf:fromEnd h mb N (i+1)=gMaybe (gCat (h (N - 1 - i)) (fromEnd h mb N i)):=by
    simp only [fromEnd];rw [if_pos];rw [hmb];exact hm
   dsimp only;rw [hf,e2]
   exact ⟨by omega,rfl,rfl,rfl⟩
  ·have hf:fromEnd h mb N (i+1)=gCat (h (N - 1 - i)) (fromEnd h mb N i):=by
    simp only [fromEnd];rw [if_neg];rw [hmb];simpa using hm
   dsimp only;rw [hf,e2]
   exact ⟨by omega,rfl,rfl,rfl⟩
 ·rintro s f o1 o2 o3 ⟨_,rfl,rfl,hp⟩
  rw [Nat.sub_self,Nat.zero_mul,Nat.add_zero] at hp
  refine ⟨by rw [hres,hp],?_⟩
  rw [hfin]
  simp [hF]
end Go.Ev.Pl
namespace Go.Ev.Pl
open Go Go.Ev
theorem zhU {g z:GA} {h:Nat→GA} {mb:Nat→Bool} {N:Nat} (hz:Canon z) (hN:1≤N) (hh:∀ j,j < N - 1→h j=g) (hl:h (N - 1)=z) (hm:∀ j,mb j=false):∀ i,i < N→fromEnd h mb N (i+1)=iter (gCat g) i z
 | 0,hi=>by
   simp only [fromEnd,hm]
   rw [if_neg (by simp),Nat.sub_zero,hl,cat_empty_r hz];rfl
 | i+1,hi=>by
   have ih:=zhU hz hN hh hl hm i (by omega)
   rw [fromEnd]
   simp only [hm]
   rw [if_neg (by simp),ih,hh _ (by omega)];rfl
theorem zhT {g:GA} {h:Nat→GA} {mb:Nat→Bool} {N L:Nat} (hL:L≤N) (hh:∀ j,h j=g) (hm:∀ j,j < N→mb j=decide (L≤j)):∀ i,i≤N→
 fromEnd h mb N i=iter (gCat g) (i - (N - L)) (iter (fun o=>gMaybe (gCat g o)) (min i (N - L)) gEmpty)
 | 0,_=>by simp [fromEnd,iter]
 | i+1,hi=>by
   have ih:=zhT hL hh hm i (by omega)
   rw [fromEnd]
   simp only [hh,ih]
   rw [hm _ (by omega)]
   by_cases hc:L≤N - 1 - i
   ·rw [if_pos (by simpa using hc),show i - (N - L)=0 by omega,show i+1 - (N - L)=0 by omega,show min i (N - L)=i by omega,show min (i+1) (N - L)=i+1 by omega];rfl
   ·rw [if_neg (by simpa using hc),show i+1 - (N - L)=(i - (N - L))+1 by omega,show min i (N - L)=N - L by omega,show min (i+1) (N - L)=N - L by omega];rfl
theorem flw_again (g:GA) (b:Prop) [Decidable b] (off:Nat):flw (if b then gMaybe (gAgain g) else gAgain g) off=flw (gAgain g) off:=by split<;>rfl
theorem map_range_set {α:Type} {f:Nat→α} {N i:Nat} {v:α} (h:i < N):((List.range N).map f).set i v=(List.range N).map fun j=>if j=i then v else f j:=by
 refine set_eq (by simp) (fun j hj hne=>?_) (fun hj=>?_)
 ·simp only [List.getElem_map,List.getElem_range];rw [if_neg hne]
 ·simp only [List.getElem_map,List.getElem_range,if_true]
theorem rep_ok {x:zi} (hr:Rgt x) (h5:x.Kind=5) (hw:Wf x) (hp:∀ k∈x.Kids,PieceOk k) (F0:List (List Int)) (S:List zc) (hroom:Room F0 S (gof x).n) :
 zbF x { sets:=S,follow:=F0 } (pc (gof x) F0.length) { sets:=S++(gof x).sets,follow:=F0++flw (gof x) F0.length }:=by
 obtain ⟨ho,hk⟩:=zd5 hr
 obtain ⟨⟨k,hq⟩,h1,h2,h3⟩:=zf8 ho h5
 have hkm:k∈x.Kids:=by rw [hq];simp
 have hgn:=zin x hr
 have hgof:gof x=gRep (gof k) x.Lo x.Hi:=by
  rw [zda,h5,hq];simp
 refine ze7 x _ _ _ ⟨_,rxSize_ok x hw,fun h0=>?_,fun h0=>?_⟩
 ·have h0:sizeN x=0:=by
   have:sizeZ x=0:=by simpa using h0
   simp only [sizeZ] at this;omega
  rw [gof_zero hr h0]
  exact ⟨rfl,by simp [gEmpty,flw]⟩
 obtain ⟨N,hN⟩:∃ N:Nat,N=(max 1 (max x.Lo x.Hi)).toNat:=⟨_,rfl⟩
 have hN1:1≤N:=by omega
 have hN2:N≤20:=by omega
 have hNi:(N:Int)=max 1 (max x.Lo x.Hi):=by omega
 have hn:(gof x).n=N * (gof k).n:=by rw [hgof,rep_n _ h1 (by omega),hN]
 have hs:(gof x).sets=cpS (gof k) N:=by rw [hgof,rep_sets _ h1 (by omega),hN]
 have hroom2:Room F0 S (N * (gof k).n):=by rw [← hn];exact hroom
 have hcp:=copies_ok (hp k hkm) N (by omega) F0 S hroom2
 have hlen2:F0.length+N * (gof k).n < 1000000:=hroom2.room
 have hcnt:(if (1:Int) > if x.Hi > x.Lo then x.Hi else x.Lo then (1:Int) else if x.Hi > x.Lo then x.Hi else x.Lo)=(N:Int):=by rw [hNi];split<;>omega
 rw [hcnt,hq]
 simp only [List.length_cons,List.length_nil,List.getD_cons_zero]
 refine ⟨by omega,_,_,hcp,?_⟩
 rw [← hs]
 by_cases hneg:x.Hi < 0
 ·-- from some times on
  obtain ⟨z,hz⟩:∃ z:GA,z=if x.Lo=0 then gMaybe (gAgain (gof k)) else gAgain (gof k):=⟨_,rfl⟩
  have hzc:Canon z:=by rw [hz];split;exact zc4 (zcz (zaG k));exact zcz (zaG k)
  have hzn:z.n=(gof k).n:=by rw [hz];split<;>rfl
  obtain ⟨h,hh⟩:∃ h:Nat→GA,h=fun j=>if j=N - 1 then z else gof k:=⟨_,rfl⟩
  have hhn:∀ j,(h j).n=(gof k).n:=fun j=>by rw [hh];dsimp only;split;exact hzn;rfl
  have hfe:fromEnd h (fun j:Nat=>decide (x.Hi≥0) && decide ((j:Int)≥x.Lo)) N N=gof x:=by
   have:=zhU (mb:=fun j:Nat=>decide (x.Hi≥0) && decide ((j:Int)≥x.Lo)) hzc hN1 (h:=h) (g:=gof k) (fun j hj=>by rw [hh];dsimp only;rw [if_neg (by omega)]) (by rw [hh];simp) (fun j=>by simp;omega) (N - 1) (by omega)
   rw [show N - 1+1=N by omega] at this
   rw [this,hgof]
   unfold gRep
   rw [if_pos hneg,← hz]
   congr 1;omega
  obtain ⟨N1,rfl⟩:∃ N1,N=N1+1:=⟨N - 1,by omega⟩
  have hF1:hF h F0.length (gof k).n (N1+1)=hF (fun _=>gof k) F0.length (gof k).n N1++flw (gAgain (gof k)) (F0.length+N1 * (gof k).n):=by
   rw [hF,hF_congr N1 (h':=fun _=>gof k) (fun j hj=>by rw [hh];dsimp only;rw [if_neg (by omega)])]
   congr 1
   rw [hh];dsimp only;rw [if_pos (by omega),hz,flw_again]
  refine ⟨fun s f l=>s=S++(gof x).sets∧f=F0++hF h F0.length (gof k).n (N1+1)∧l=(List.range (N1+1)).map fun j=>pc (h j) (F0.length+j * (gof k).n),?_,fun _=>?_,fun hc=>absurd (of_decide_eq_false hc) (by omega)⟩
  ·rintro s f l ⟨rfl,rfl,hl⟩
   exact ⟨zeR l,rep_loop (x:=x) (h:=h) (N:=N1+1) (S:=S) hhn hroom2 (by omega) hl (by rw [hfe]) (by rw [hfe])⟩
  ·have hwl:w64 ((((List.range (N1+1)).map fun i=>pc (gof k) (F0.length+i * (gof k).n)).length:Int) - 1)=(N1:Int):=by
    rw [List.length_map,List.length_range];exact (zK (by omega) (by omega)).trans (by omega)
   have hgl:gd ((List.range (N1+1)).map fun i=>pc (gof k) (F0.length+i * (gof k).n)) (N1:Int)=pc (gof k) (F0.length+N1 * (gof k).n):=by
    rw [zT (by simp)];simp
   rw [hwl,hgl]
   have hlen:(F0++hF (fun _=>gof k) F0.length (gof k).n N1).length=F0.length+N1 * (gof k).n:=by rw [List.length_append,hF_len fun _=>rfl]
   have hmul:(N1+1) * (gof k).n=N1 * (gof k).n+(gof k).n:=Nat.succ_mul _ _
   have hla:=zaq (gof k).n (gof k).last (F0.length+N1 * (gof k).n)
   have hlf:=zaq (gof k).n (gof k).first (F0.length+N1 * (gof k).n)
   have hlead:=lead_ok (lst (gof k).n (gof k).last (F0.length+N1 * (gof k).n)) (lst (gof k).n (gof k).first (F0.length+N1 * (gof k).n)) { sets:=S++(gof x).sets,follow:=F0++hF (fun _=>gof k) F0.length (gof k).n (N1+1) } (zbr _ _ _) (fun y hy=>by
    obtain ⟨i,hi,_,rfl⟩:=zaX.1 hy
    simp only [List.length_append,hF_len fun _=>rfl];omega) (by omega) (fun f hf=>by
    rcases List.mem_append.1 hf with hf | hf
    ·exact hroom.small f hf
    ·exact zhd (fun _=>by omega) _ f hf) (by omega)
   have hag:=ziE (F0++hF (fun _=>gof k) F0.length (gof k).n N1) (gof k)
   rw [hlen,List.append_assoc,List.append_assoc] at hag
   have hag2:leadF (F0++hF (fun _=>gof k) F0.length (gof k).n (N1+1)) (lst (gof k).n (gof k).last (F0.length+N1 * (gof k).n)) (lst (gof k).n (gof k).first (F0.length+N1 * (gof k).n))=F0++hF h F0.length (gof k).n (N1+1):=by
    rw [hF1];exact hag
   simp only [hag2] at hlead
   have hset:∀ b:Bool,b=z.null→List.set ((List.range (N1+1)).map fun i=>pc (gof k) (F0.length+i * (gof k).n)) (Int.toNat (N1:Int)) { first:=(pc (gof k) (F0.length+N1 * (gof k).n)).first,last:=(pc (gof k) (F0.length+N1 * (gof k).n)).last,null:=b }=(List.range (N1+1)).map fun j=>pc (h j) (F0.length+j * (gof k).n):=by
    intro b hb
    rw [Int.toNat_natCast,map_range_set (by omega)]
    refine List.map_congr_left fun j hj=>?_
    rw [hh];dsimp only
    by_cases e:j=N1
    ·subst e
     rw [if_pos rfl,if_pos (by omega)]
     have e1:z.first=(gof k).first:=by rw [hz];split<;>rfl
     have e2:z.last=(gof k).last:=by rw [hz];split<;>rfl
     rw [hb]
     simp only [pc,hzn,e1,e2]
    ·rw [if_neg e,if_neg (by omega)]
   have hll:((List.range (N1+1)).map fun i=>pc (gof k) (F0.length+i * (gof k).n)).length=N1+1:=by simp
   rw [hll]
   refine ⟨by omega,by omega,by omega,by omega,_,hlead,by omega,fun hn=>⟨fun _=>by omega,rfl,rfl,hset _ ?_⟩,fun hn=>⟨fun _=>by omega,rfl,rfl,hset _ ?_⟩⟩
   ·have hn:(gof k).null=true:=hn
    rw [hz];split<;>simp [gMaybe,gAgain,hn]
   ·have hn:(gof k).null=false:=hn
    rw [hz]
    by_cases e:x.Lo=0
    ·rw [if_pos e,e];rfl
    ·rw [if_neg e]
     show (x.Lo == 0)=(gof k).null
     rw [hn];simpa using e
 ·-- from some times to others
  have hhi:1≤x.Hi∧x.Lo≤x.Hi:=by omega
  have hfe:fromEnd (fun _=>gof k) (fun j:Nat=>decide (x.Hi≥0) && decide ((j:Int)≥x.Lo)) N N=gof x:=by
   have:=zhT (h:=fun _=>gof k) (g:=gof k) (mb:=fun j:Nat=>decide (x.Hi≥0) && decide ((j:Int)≥x.Lo)) (N:=N) (L:=x.Lo.toNat) (by omega) (fun _=>rfl) (fun j hj=>by
    have:decide (x.Hi≥0)=true:=by simp;omega
    simp only [this,Bool.true_and,decide_eq_decide];omega) N (Nat.le_refl _)
   rw [this,hgof]
   unfold gRep
   rw [if_neg hneg]
   congr 1
   ·omega
   ·congr 1;omega
  refine ⟨fun s f l=>s=S++(gof x).sets∧f=F0++hF (fun _=>gof k) F0.length (gof k).n N∧l=(List.range N).map fun j=>pc (gof k) (F0.length+j * (gof k).n),?_,fun hc=>absurd (of_decide_eq_true hc) hneg,fun _=>⟨rfl,rfl,rfl⟩⟩
  rintro s f l ⟨rfl,rfl,hl⟩
  exact ⟨zeR l,rep_loop (x:=x) (h:=fun _=>gof k) (N:=N) (S:=S) (fun _=>rfl) hroom2 (by omega) hl (by rw [hfe]) (by rw [hfe])⟩
end Go.Ev.Pl
namespace Go.Ev.Pl
open Go Go.Ev
theorem pc_first (g:GA) (off:Nat):(pc g off).first=lst g.n g.first off:=rfl
theorem pc_last (g:GA) (off:Nat):(pc g off).last=lst g.n g.last off:=rfl
theorem pc_null (g:GA) (off:Nat):(pc g off).null=g.null:=rfl
theorem pre_n {f:GA→GA→GA} (hf:∀ a b,(f a b).n=a.n+b.n) {z:GA} (hz:z.n=0) {l:List zi} {i:Nat} (h:i < l.length) :
 ((l.take i).foldl (fun o y=>f o (gof y)) z).n+(gof l[i]).n≤(l.foldl (fun o y=>f o (gof y)) z).n:=by
 have e:=zhV hf (l.take (i+1)) z
 rw [zaF h,hf] at e
 rw [e,zhV hf]
 have:(l.map fun y=>(gof y).n).sum=((l.take (i+1)).map fun y=>(gof y).n).sum+((l.drop (i+1)).map fun y=>(gof y).n).sum:=by
  rw [← List.sum_append,← List.map_append,List.take_append_drop]
 omega
theorem piece_ok:∀ x,Wf x→Rgt x→PieceOk x:=by
 refine rxInd fun x ih hw hr=>?_
 obtain ⟨hl,hkw⟩:=(zhk x).1 hw
 obtain ⟨ho,hk⟩:=zd5 hr
 intro F0 S hroom
 have hrm:=hroom.room
 refine zen x _ _ _ ⟨fun h=>?_,fun h2=>⟨fun h=>?_,fun h3=>⟨fun h=>?_,fun h4=>⟨fun h=>?_,fun h5=>?_⟩⟩⟩⟩
 ·have h:x.Kind=2:=by simpa using h
  have hg:gof x=gByte x.Set:=by rw [zda,if_pos h]
  rw [hg] at hrm ⊢
  have hrm:F0.length+1 < 1000000:=hrm
  refine ⟨_,_,zem _ _ _ _ ⟨?_,?_,rfl,rfl⟩,?_,?_⟩
  ·have:=hroom.same;simp only;omega
  ·simp only;omega
  ·have:lst 1 (fun i=>i == 0) F0.length=[(S.length:Int)]:=by
    rw [hroom.same];simp [lst,List.range_succ]
   simp only [pc,gByte,this]
  ·rfl
 ·have h:x.Kind=3:=by simpa using h
  have hg:gof x=x.Kids.foldl (fun o y=>gCat o (gof y)) gEmpty:=by rw [zda];simp [h]
  refine ⟨fun s f a b c t=>∃ i:Nat,t=i∧i≤x.Kids.length∧s=S++((x.Kids.take i).foldl (fun o y=>gCat o (gof y)) gEmpty).sets∧f=F0++flw ((x.Kids.take i).foldl (fun o y=>gCat o (gof y)) gEmpty) F0.length∧(⟨a,b,c⟩:zq)=pc ((x.Kids.take i).foldl (fun o y=>gCat o (gof y)) gEmpty) F0.length,
   fun _ _ _ _ _ t=>(x.Kids.length - t).toNat,⟨0,rfl,by omega,by simp [gEmpty],by simp [gEmpty,flw],rfl⟩,?_⟩
  rintro s f a b c t ⟨i,rfl,hi,rfl,rfl,hp⟩
  refine ⟨fun ht=>?_,fun ht=>?_⟩
  ·have ht:i < x.Kids.length:=by simpa using ht
   have hm:=List.getElem_mem ht
   obtain ⟨o,ho'⟩:∃ o,o=(x.Kids.take i).foldl (fun o y=>gCat o (gof y)) gEmpty:=⟨_,rfl⟩
   have hn:=pre_n (f:=gCat) (fun _ _=>rfl) (z:=gEmpty) rfl ht
   rw [← hg,← ho'] at hn
   have hsucc:=zaF (f:=fun o y=>gCat o (gof y)) (b:=gEmpty) ht
   rw [← ho'] at hsucc hp ⊢
   have hoc:Canon o:=by
    rw [ho']
    have:∀ (l:List zi) (z:GA),Canon z→Canon (l.foldl (fun o y=>gCat o (gof y)) z):=by
     intro l
     induction l with
     | nil=>intro z h;exact h
     | cons y r ih2=>intro z h;exact ih2 _ (zb6 h (zaG y))
    exact this _ _ zbD
   have hlen:(F0++flw o F0.length).length=F0.length+o.n:=by rw [List.length_append,z7]
   have hpk:=ih _ hm (hkw _ hm) (hk _ hm) (F0++flw o F0.length) (S++o.sets) ⟨by rw [hlen,List.length_append,hroom.same,hoc.sets],fun f hf=>by
    rcases List.mem_append.1 hf with hf | hf
    ·exact hroom.small f hf
    ·exact zee _ _ (by omega) f hf,by rw [hlen];omega⟩
   rw [hlen] at hpk
   have hcat:=cat_ok F0 ((S++o.sets)++(gof x.Kids[i]).sets) o (gof x.Kids[i]) hroom.small (by omega) (by omega)
   have hw2:w64 ((i:Int)+1)=((i+1:Nat):Int):=zK (by omega) (by omega)
   rw [zT ht,hp]
   refine ⟨by omega,by omega,_,_,hpk,_,_,hcat,?_⟩
   rw [hw2]
   exact ⟨⟨i+1,rfl,by omega,by rw [hsucc];simp [gCat],by rw [hsucc],by rw [hsucc]⟩,by dsimp only;omega⟩
  ·have:i=x.Kids.length:=by have:¬ i < x.Kids.length:=by simpa using ht
                            omega
   subst this
   rw [List.take_of_length_le (Nat.le_refl _),← hg] at hp ⊢
   exact ⟨hp.symm,rfl⟩
 ·have h:x.Kind=4:=by simpa using h
  have hg:gof x=x.Kids.foldl (fun o y=>gAlt o (gof y)) gNone:=by rw [zda];simp [h]
  refine ⟨fun s f a b c t=>∃ i:Nat,t=i∧i≤x.Kids.length∧s=S++((x.Kids.take i).foldl (fun o y=>gAlt o (gof y)) gNone).sets∧f=F0++flw ((x.Kids.take i).foldl (fun o y=>gAlt o (gof y)) gNone) F0.length∧(⟨a,b,c⟩:zq)=pc ((x.Kids.take i).foldl (fun o y=>gAlt o (gof y)) gNone) F0.length,
   fun _ _ _ _ _ t=>(x.Kids.length - t).toNat,⟨0,rfl,by omega,by simp [gNone],by simp [gNone,flw],rfl⟩,?_⟩
  rintro s f a b c t ⟨i,rfl,hi,rfl,rfl,hp⟩
  refine ⟨fun ht=>?_,fun ht=>?_⟩
  ·have ht:i < x.Kids.length:=by simpa using ht
   have hm:=List.getElem_mem ht
   obtain ⟨o,ho'⟩:∃ o,o=(x.Kids.take i).foldl (fun o y=>gAlt o (gof y)) gNone:=⟨_,rfl⟩
   have hn:=pre_n (f:=gAlt) (fun _ _=>rfl) (z:=gNone) rfl ht
   rw [← hg,← ho'] at hn
   have hsucc:=zaF (f:=fun o y=>gAlt o (gof y)) (b:=gNone) ht
   rw [← ho'] at hsucc hp ⊢
   have hoc:Canon o:=by
    rw [ho']
    have:∀ (l:List zi) (z:GA),Canon z→Canon (l.foldl (fun o y=>gAlt o (gof y)) z):=by
     intro l
     induction l with
     | nil=>intro z h;exact h
     | cons y r ih2=>intro z h;exact ih2 _ (zh9 h (zaG y))
    exact this _ _ zey
   have hlen:(F0++flw o F0.length).length=F0.length+o.n:=by rw [List.length_append,z7]
   have hpk:=ih _ hm (hkw _ hm) (hk _ hm) (F0++flw o F0.length) (S++o.sets) ⟨by rw [hlen,List.length_append,hroom.same,hoc.sets],fun f hf=>by
    rcases List.mem_append.1 hf with hf | hf
    ·exact hroom.small f hf
    ·exact zee _ _ (by omega) f hf,by rw [hlen];omega⟩
   rw [hlen] at hpk
   have hw2:w64 ((i:Int)+1)=((i+1:Nat):Int):=zK (by omega) (by omega)
   rw [zT ht]
   have hpa:a=lst o.n o.first F0.length:=congrArg zq.first hp
   have hpb:b=lst o.n o.last F0.length:=congrArg zq.last hp
   have hpc:c=o.null:=congrArg zq.null hp
   have l1:=zaq o.n o.first F0.length
   have l2:=zaq o.n o.last F0.length
   have l3:=zaq (gof x.Kids[i]).n (gof x.Kids[i]).first (F0.length+o.n)
   have l4:=zaq (gof x.Kids[i]).n (gof x.Kids[i]).last (F0.length+o.n)
   refine ⟨by omega,by omega,_,_,hpk,_,zdJ _ _ (by rw [hpa];omega) (by rw [pc_first];omega),_,zdJ _ _ (by rw [hpb];omega) (by rw [pc_last];omega),?_⟩
   rw [hw2]
   refine ⟨⟨i+1,rfl,by omega,by rw [hsucc];simp [gAlt],?_,?_⟩,by dsimp only;omega⟩
   ·rw [hsucc,← flw_alt,← List.append_assoc]
   ·rw [hsucc,hpa,hpb,hpc,pc_first,pc_last,pc_null,alt_first,alt_last];rfl
  ·have:i=x.Kids.length:=by have:¬ i < x.Kids.length:=by simpa using ht
                            omega
   subst this
   rw [List.take_of_length_le (Nat.le_refl _),← hg] at hp ⊢
   exact ⟨hp.symm,rfl⟩
 ·have h:x.Kind=5:=by simpa using h
  exact ⟨_,_,rep_ok hr h hw (fun k hkm=>ih k hkm (hkw k hkm) (hk k hkm)) F0 S hroom,rfl,rfl⟩
 ·have h1:x.Kind=1:=by
   simp only [beq_eq_false_iff_ne,ne_eq] at h2 h3 h4 h5
   have:=zev ho;omega
  have hg:gof x=gEmpty:=by rw [zda];simp [h1]
  rw [hg]
  exact ⟨rfl,by simp [gEmpty,flw]⟩
def plc (g:GA):zj:=⟨g.sets,lst g.n g.first 0,lst g.n g.last 0,flw g 0,g.null⟩
def noPl:zj:=⟨[],[],[],[],false⟩
theorem zbl {x:zi} (h:rightB x=true):Rgt x∧sizeN x≤200:=by
 simp only [rightB,Bool.and_eq_true,decide_eq_true_eq] at h
 refine ⟨⟨20,h.1⟩,?_⟩
 have:=h.2.1
 simp only [sizeZ] at this;omega
theorem placeOf_ok (x:zi) (hw:Wf x):zeB x (if rightB x=true then plc (gof x) else noPl) (if rightB x=true then 0 else 1):=by
 refine W_place_Of x _ _ ⟨_,zdy x hw,fun h=>?_,fun h=>?_⟩
 ·have h:rightB x=false:=by simpa using h
  rw [h];exact ⟨rfl,rfl⟩
 ·have h:rightB x=true:=by simpa using h
  obtain ⟨hr,hs⟩:=zbl h
  have hn:=zin x hr
  have:=piece_ok x hw hr [] [] ⟨rfl,fun f hf=>by simp at hf,by simp;omega⟩
  refine ⟨_,_,this,?_,?_⟩
  ·rw [if_pos h];simp [plc,pc]
  ·rw [if_pos h]
end Go.Ev.Pl
namespace Go.Ev.Pl
open Go Go.Ev
theorem zfu (n:Nat) (p:Nat→Bool) (off d:Nat) (h:n+off+d < 1000000):zas (lst n p off) d (lst n p (off+d)):=by
 have hl:=zaq n p off
 have he:lst n p (off+d)=(lst n p off).map (·+(d:Int)):=by
  simp only [lst,List.map_map]
  refine List.map_congr_left fun i _=>?_
  simp only [Function.comp];omega
 rw [he]
 refine zfb _ _ _ ⟨fun o t=>∃ i:Nat,t=i∧i≤(lst n p off).length∧o=((lst n p off).take i).map (·+(d:Int)),fun o t=>((lst n p off).length - t).toNat,⟨0,rfl,by omega,rfl⟩,?_⟩
 rintro o t ⟨i,rfl,hi,rfl⟩
 refine ⟨fun ht=>?_,fun ht=>?_⟩
 ·have ht:i < (lst n p off).length:=by simpa using ht
  have hm:=zaX.1 (List.getElem_mem ht)
  obtain ⟨j,hj,_,hv⟩:=hm
  have hw:w64 (gd (lst n p off) (i:Int)+d)=(lst n p off)[i]+d:=by rw [zT ht];exact zK (by omega) (by omega)
  have hw2:w64 ((i:Int)+1)=((i+1:Nat):Int):=zK (by omega) (by omega)
  rw [hw,hw2]
  refine ⟨by omega,by omega,by simp;omega,⟨i+1,rfl,by omega,?_⟩,by first | omega | (dsimp only;omega)⟩
  rw [List.take_succ_eq_append_getElem ht,List.map_append];rfl
 ·have:i=(lst n p off).length:=by have:¬ i < (lst n p off).length:=by simpa using ht
                                  omega
  subst this
  rw [List.take_of_length_le (Nat.le_refl _)]
theorem ziS:∀ a,addL a []=a
 | []=>by rw [addL]
 | x :: a=>by rw [addL];simp
theorem zie {a b:List Int} {i k:Nat} (hk:k=b.length) (hi:i < a.length):addL (a.drop i) (b.drop k)=a[i] :: addL (a.drop (i+1)) (b.drop k):=by
 subst hk
 rw [List.drop_length,ziS,ziS,List.drop_eq_getElem_cons hi]
theorem addL_drop_l {a b:List Int} {i k:Nat} (hi:i=a.length) (hk:k < b.length):addL (a.drop i) (b.drop k)=b[k] :: addL (a.drop i) (b.drop (k+1)):=by
 subst hi
 rw [List.drop_length,addL,addL,List.drop_eq_getElem_cons hk]
theorem zif {a b:List Int} {i k:Nat} (hi:i < a.length) (hk:k < b.length):addL (a.drop i) (b.drop k)=if a[i] < b[k] then a[i] :: addL (a.drop (i+1)) (b.drop k) else if b[k] < a[i] then b[k] :: addL (a.drop i) (b.drop (k+1)) else a[i] :: addL (a.drop (i+1)) (b.drop (k+1)):=by
 conv=>lhs;rw [List.drop_eq_getElem_cons hi,List.drop_eq_getElem_cons hk,addL]
 rw [← List.drop_eq_getElem_cons hi,← List.drop_eq_getElem_cons hk]
theorem zdV (a b:List Int) (ha:a.length < 10000000) (hb:b.length < 10000000):zA a b (addL a b):=by
 refine zgr a b _ ⟨fun o s t=>∃ i k:Nat,s=i∧t=k∧i≤a.length∧k≤b.length∧o.length≤i+k∧o++addL (a.drop i) (b.drop k)=addL a b,fun o s t=>(a.length - s).toNat+(b.length - t).toNat,⟨0,0,rfl,rfl,by omega,by omega,by simp,rfl⟩,?_⟩
 rintro o s t ⟨i,k,rfl,rfl,hi,hk,hol,ho⟩
 have hwi:w64 ((i:Int)+1)=((i+1:Nat):Int):=zK (by omega) (by omega)
 have hwk:w64 ((k:Int)+1)=((k+1:Nat):Int):=zK (by omega) (by omega)
 simp only [List.length_map]
 refine ⟨fun ht=>?_,fun ht=>?_⟩
 ·simp only [Bool.or_eq_true,decide_eq_true_eq] at ht
  have hkb:((k:Int) == (b.length:Int))=decide (k=b.length):=by show decide _=decide _;simp only [decide_eq_decide];omega
  have hib:((i:Int) == (a.length:Int))=decide (i=a.length):=by show decide _=decide _;simp only [decide_eq_decide];omega
  have hia:decide ((i:Int) < (a.length:Int))=decide (i < a.length):=by simp only [decide_eq_decide];omega
  rw [hkb,hib,hia]
  refine ⟨fun h1 h2=>by omega,fun h1 h2=>by have:=of_decide_eq_true h2;omega,fun h1 h2=>by omega,fun h1 h2=>by have:=of_decide_eq_false h1;omega,fun h=>?_,fun h=>⟨fun h1=>by omega,fun h1=>?_,fun h1=>by omega,fun h1=>?_,fun h2=>?_,fun h2=>?_⟩⟩
  ·simp only [Bool.or_eq_true,Bool.and_eq_true,decide_eq_true_eq] at h
   have hil:i < a.length:=by omega
   rw [zT hil,hwi]
   refine ⟨by omega,by omega,by omega,⟨i+1,k,rfl,rfl,by omega,hk,by simp;omega,?_⟩,by first | omega | (dsimp only;omega)⟩
   rw [← ho,List.append_assoc]
   congr 1
   rcases h with h | ⟨_,h⟩
   ·rw [zie h hil];rfl
   ·by_cases hkl:k < b.length
    ·rw [zT hil,zT hkl] at h
     rw [zif hil hkl,if_pos h];rfl
    ·rw [zie (by omega) hil];rfl
  ·simp only [Bool.or_eq_false_iff,decide_eq_false_iff_not] at h;omega
  ·have:=of_decide_eq_false h1;omega
  ·simp only [Bool.or_eq_false_iff,decide_eq_false_iff_not] at h
   have hkl:k < b.length:=by omega
   rw [zT hkl,hwk]
   refine ⟨by omega,by omega,by omega,⟨i,k+1,rfl,rfl,hi,by omega,by simp;omega,?_⟩,by first | omega | (dsimp only;omega)⟩
   rw [← ho,List.append_assoc]
   congr 1
   simp only [Bool.or_eq_true,decide_eq_true_eq] at h2
   by_cases hia2:i=a.length
   ·rw [addL_drop_l hia2 hkl];rfl
   ·have hil:i < a.length:=by omega
    have h2:b[k] < a[i]:=by
     rcases h2 with h2 | h2
     ·exact absurd h2 hia2
     ·rw [zT hkl,zT hil] at h2;exact h2
    rw [zif hil hkl,if_neg (by omega),if_pos h2];rfl
  ·simp only [Bool.or_eq_false_iff,decide_eq_false_iff_not,Bool.and_eq_false_iff] at h h2
   have hkl:k < b.length:=by omega
   have hil:i < a.length:=by omega
   rw [zT hkl,zT hil] at h h2
   rw [zT hil,hwi,hwk]
   refine ⟨by omega,by omega,by omega,⟨i+1,k+1,rfl,rfl,by omega,by omega,by simp;omega,?_⟩,by first | omega | (dsimp only;omega)⟩
   rw [← ho,List.append_assoc]
   congr 1
   rw [zif hil hkl,if_neg (by rcases h.2 with h | h<;>omega),if_neg h2.2];rfl
 ·simp only [Bool.or_eq_false_iff,decide_eq_false_iff_not] at ht
  have e1:i=a.length:=by omega
  have e2:k=b.length:=by omega
  rw [← ho,e1,e2,List.drop_length,List.drop_length,addL,List.append_nil]
theorem flw_mem {g:GA} {off i:Nat} (h:i < g.n):gd (flw g off) (i:Int)=lst g.n (g.follow i) off:=by rw [zT (by rw [z7];exact h),zcd _ _ h]
theorem both_ok (a b:GA) (ha:Canon a) (hb:Canon b) (hn:a.n+b.n < 1000) (nb:Bool) (f l:List Int):zau (plc a) { Sets:=b.sets,First:=f,Last:=l,Follow:=flw b 0,Null:=nb } ⟨a.sets++b.sets,[],[],flw a 0++flw b a.n,false⟩:=by
 have has:=ha.sets
 have hbs:=hb.sets
 refine zfQ _ _ _ ⟨by show a.sets.length * 32≤_;omega,by show (a.sets.length+b.sets.length) * 32≤_;omega,fun o t=>∃ i:Nat,t=i∧i≤a.n∧o=(flw a 0).take i,fun o t=>(a.n - t).toNat,⟨0,rfl,by omega,rfl⟩,?_⟩
 rintro o t ⟨i,rfl,hi,rfl⟩
 have hfa:(plc a).Follow=flw a 0:=rfl
 simp only [hfa]
 refine ⟨fun ht=>?_,fun ht=>?_⟩
 ·have ht:i < a.n:=by rw [z7] at ht;simpa using ht
  have hw2:w64 ((i:Int)+1)=((i+1:Nat):Int):=zK (by omega) (by omega)
  have hfl:=z7 a 0
  rw [hw2,zT (by rw [z7];exact ht)]
  refine ⟨by omega,by omega,by simp [z7];omega,⟨i+1,rfl,by omega,?_⟩,by first | omega | (dsimp only;omega)⟩
  rw [List.take_succ_eq_append_getElem (by rw [z7];exact ht)]
 ·have:i=a.n:=by rw [z7] at ht;have:¬ i < a.n:=by simpa using ht
                 omega
  subst this
  rw [List.take_of_length_le (by rw [z7];exact Nat.le_refl _)]
  refine ⟨fun o t=>∃ i:Nat,t=i∧i≤b.n∧o=flw a 0++(flw b a.n).take i,fun o t=>(b.n - t).toNat,⟨0,rfl,by omega,by simp⟩,?_⟩
  rintro o t ⟨i,rfl,hi,rfl⟩
  simp only [z7]
  refine ⟨fun ht=>?_,fun ht=>?_⟩
  ·have ht:i < b.n:=by simpa using ht
   have hw2:w64 ((i:Int)+1)=((i+1:Nat):Int):=zK (by omega) (by omega)
   have hmv:=zfu b.n (b.follow i) 0 a.n (by omega)
   rw [Nat.zero_add] at hmv
   rw [flw_mem ht,hw2]
   have:((plc a).Sets.length:Int)=a.n:=by show (a.sets.length:Int)=_;rw [has]
   rw [this]
   refine ⟨by omega,by omega,_,hmv,by simp [z7];omega,⟨i+1,rfl,by omega,?_⟩,by first | omega | (dsimp only;omega)⟩
   rw [List.take_succ_eq_append_getElem (by rw [z7];exact ht),zcd _ _ ht,List.append_assoc]
  ·have:i=b.n:=by have:¬ i < b.n:=by simpa using ht
                  omega
   subst this
   rw [List.take_of_length_le (by rw [z7];exact Nat.le_refl _)];rfl
theorem leadA_ok {fr to:List Int} {F:List (List Int)} (hfr:SS fr) (hto:SS to) (hF:∀ f∈F,SS f) (hin:∀ x∈fr,0≤x∧x < F.length) (hsm:∀ f∈F,f.length < 1000000) (hts:to.length < 1000000) (hfs:fr.length < 1000000)
 {Q:List (List Int)→Prop} (hQ:Q (leadF F fr to)) :
 ∃ (Inv:List (List Int)→Int→Prop) (mu:List (List Int)→Int→Nat),Inv F 0∧∀ (o:List (List Int)) (i:Int),Inv o i→
   (decide (i < (fr.length:Int))=true→0≤i∧i < (fr.length:Int)∧0≤i∧i < (fr.length:Int)∧0≤gd fr i∧(Int.toNat (gd fr i) < o.length)∧gd fr i < (o.length:Int)∧
     (∃ r,zA (gd o (gd fr i)) to r∧0≤gd fr i∧(Int.toNat (gd fr i) < o.length)∧gd fr i < (o.length:Int)∧(Inv (List.set o (Int.toNat (gd fr i)) r) (w64 (i+1))∧mu (List.set o (Int.toNat (gd fr i)) r) (w64 (i+1)) < mu o i)))∧
   (decide (i < (fr.length:Int))=false→Q o):=by
 refine ⟨fun o t=>∃ i:Nat,t=i∧i≤fr.length∧o=leadF F (fr.take i) to,fun o t=>(fr.length - t).toNat,⟨0,rfl,by omega,by simp [leadF];exact (List.ext_getElem (by simp) (fun j h1 h2=>by simp))⟩,?_⟩
 rintro o t ⟨i,rfl,hi,rfl⟩
 refine ⟨fun ht=>?_,fun ht=>?_⟩
 ·have ht:i < fr.length:=by simpa using ht
  have hg:gd fr (i:Int)=fr[i]:=zT ht
  rw [hg]
  obtain ⟨q0,q1⟩:=hin _ (List.getElem_mem ht)
  obtain ⟨e,he⟩:∃ e:Nat,fr[i]=e:=⟨fr[i].toNat,by omega⟩
  rw [he] at q1 ⊢
  have he2:e < F.length:=by omega
  have hl:(leadF F (fr.take i) to).length=F.length:=zaD _ _ _
  have hnot:¬ ((e:Int)∈fr.take i):=by
   intro hm
   obtain ⟨k,hk,hk2⟩:=List.mem_iff_getElem.1 hm
   simp only [List.length_take] at hk
   rw [List.getElem_take] at hk2
   have:=List.pairwise_iff_getElem.1 hfr k i (by omega) ht (by omega)
   omega
  have hge:gd (leadF F (fr.take i) to) (e:Int)=F[e]:=by
   rw [zT (by rw [hl];exact he2),za7 _ _ _ he2,if_neg hnot]
  have hw2:w64 ((i:Int)+1)=((i+1:Nat):Int):=zK (by omega) (by omega)
  have hFe:=hF _ (List.getElem_mem he2)
  refine ⟨by omega,by omega,by omega,by omega,by omega,by rw [hl];omega,by rw [hl];omega,addL F[e] to,?_,by omega,by rw [hl];omega,by rw [hl];omega,?_⟩
  ·rw [hge];exact zdV _ _ (by have:=hsm _ (List.getElem_mem he2);omega) (by omega)
  ·rw [hw2,← zeb hFe hto]
   refine ⟨⟨i+1,rfl,by omega,?_⟩,by first | omega | (dsimp only;omega)⟩
   show List.set _ e _=_
   refine set_eq (by rw [zaD,zaD]) (fun j hj hne=>?_) (fun hj=>?_)
   ·rw [hl] at hj
    rw [za7 _ _ _ hj,za7 _ _ _ hj,List.take_succ_eq_append_getElem ht,he]
    have:((j:Int)∈fr.take i++[(e:Int)])↔(j:Int)∈fr.take i:=by
     rw [List.mem_append,List.mem_singleton]
     constructor
     ·rintro (h | h)
      ·exact h
      ·exact absurd (by omega) hne
     ·exact .inl
    simp only [this]
   ·rw [za7 _ _ _ he2,List.take_succ_eq_append_getElem ht,he,if_pos (by simp)]
 ·have:i=fr.length:=by have:¬ i < fr.length:=by simpa using ht
                       omega
  subst this
  rw [List.take_of_length_le (Nat.le_refl _)];exact hQ
theorem flw_ss (g:GA) (off:Nat):∀ f∈flw g off,SS f:=by
 intro f hf
 simp only [flw,List.mem_map] at hf
 obtain ⟨i,_,rfl⟩:=hf
 exact zbr _ _ _
theorem zd6 (a b:GA) (ha:Canon a) (hb:Canon b) (hn:a.n+b.n < 1000):zY (plc a) (plc b) (plc (gCat a b)):=by
 have has:=ha.sets
 have l1:=zaq a.n a.first 0
 have l2:=zaq a.n a.last 0
 have l3:=zaq b.n b.first a.n
 have l4:=zaq b.n b.last a.n
 have m1:=zfu b.n b.first 0 a.n (by omega)
 have m2:=zfu b.n b.last 0 a.n (by omega)
 rw [Nat.zero_add] at m1 m2
 have hsz:((plc a).Sets.length:Int)=a.n:=by show (a.sets.length:Int)=_;rw [has]
 refine zgp _ _ _ ⟨_,both_ok a b ha hb hn b.null _ _,_,by rw [hsz];exact m1,_,by rw [hsz];exact m2,?_⟩
 have hlead:=zha [] a b
 simp only [List.nil_append,List.length_nil,Nat.zero_add] at hlead
 refine leadA_ok (fr:=lst a.n a.last 0) (to:=lst b.n b.first a.n) (F:=flw a 0++flw b a.n) (zbr _ _ _) (zbr _ _ _) (fun f hf=>?_) (fun x hx=>?_) (fun f hf=>?_) (by omega) (by omega) ?_
 ·rcases List.mem_append.1 hf with hf | hf
  ·exact flw_ss _ _ f hf
  ·exact flw_ss _ _ f hf
 ·obtain ⟨i,hi,_,rfl⟩:=zaX.1 hx
  simp only [List.length_append,z7];omega
 ·rcases List.mem_append.1 hf with hf | hf
  ·simp only [flw,List.mem_map] at hf
   obtain ⟨i,_,rfl⟩:=hf
   have:=zaq a.n (a.follow i) 0;omega
  ·simp only [flw,List.mem_map] at hf
   obtain ⟨i,_,rfl⟩:=hf
   have:=zaq b.n (b.follow i) a.n;omega
 ·rw [hlead]
  have c1:=zh7 a b 0
  have c2:=zfK a b 0
  rw [Nat.zero_add] at c1 c2
  refine ⟨fun l=>l=lst (a.n+b.n) (gCat a b).first 0,?_,fun hnn=>⟨_,zdV _ _ (by show (lst _ _ _).length < _;omega) (by omega),?_⟩,fun hnn=>?_⟩
  ·rintro l rfl
   refine ⟨fun l=>l=lst (a.n+b.n) (gCat a b).last 0,?_,fun hnn=>⟨_,zdV _ _ (by show (lst _ _ _).length < _;omega) (by omega),?_⟩,fun hnn=>?_⟩
   ·rintro l rfl;rfl
   ·rw [if_pos (show b.null=true from hnn),zeb (zbr _ _ _) (zbr _ _ _)] at c2;exact c2
   ·rw [if_neg (by show ¬ (b.null=true);have:b.null=false:=hnn;simp [this])] at c2;exact c2
  ·rw [if_pos (show a.null=true from hnn),zeb (zbr _ _ _) (zbr _ _ _)] at c1;exact c1
  ·rw [if_neg (by show ¬ (a.null=true);have:a.null=false:=hnn;simp [this])] at c1;exact c1
theorem refAlt_ok (a b:GA) (ha:Canon a) (hb:Canon b) (hn:a.n+b.n < 1000):zb2 (plc a) (plc b) (plc (gAlt a b)):=by
 have has:=ha.sets
 have l1:=zaq a.n a.first 0
 have l2:=zaq a.n a.last 0
 have l3:=zaq b.n b.first a.n
 have l4:=zaq b.n b.last a.n
 have m1:=zfu b.n b.first 0 a.n (by omega)
 have m2:=zfu b.n b.last 0 a.n (by omega)
 rw [Nat.zero_add] at m1 m2
 have hsz:((plc a).Sets.length:Int)=a.n:=by show (a.sets.length:Int)=_;rw [has]
 have c1:=alt_first a b 0
 have c2:=alt_last a b 0
 have c3:=flw_alt a b 0
 rw [Nat.zero_add] at c1 c2 c3
 rw [zeb (zbr _ _ _) (zbr _ _ _)] at c1 c2
 refine zgq _ _ _ ⟨_,both_ok a b ha hb hn b.null _ _,_,by rw [hsz];exact m1,_,zdV _ _ (by show (lst _ _ _).length < _;omega) (by omega),_,by rw [hsz];exact m2,_,zdV _ _ (by show (lst _ _ _).length < _;omega) (by omega),?_⟩
 show plc (gAlt a b)=⟨_,addL (lst a.n a.first 0) (lst b.n b.first a.n),addL (lst a.n a.last 0) (lst b.n b.last a.n),_,_⟩
 rw [c1,c2]
 show _=(⟨a.sets++b.sets,_,_,flw a 0++flw b a.n,a.null || b.null⟩:zj)
 rw [c3];rfl
theorem refAgain_ok (a:GA) (ha:Canon a) (hn:a.n < 1000):zbG (plc a) (plc (gAgain a)):=by
 have l1:=zaq a.n a.first 0
 have l2:=zaq a.n a.last 0
 have hb:=both_ok a gNone ha zey (by show a.n+0 < 1000;omega) false [] []
 have e1:a.sets++gNone.sets=a.sets:=List.append_nil _
 have e2:flw a 0++flw gNone a.n=flw a 0:=List.append_nil _
 rw [e1,e2] at hb
 have hlead:=ziE [] a
 simp only [List.nil_append,List.length_nil] at hlead
 refine zfe _ _ ⟨_,hb,?_⟩
 refine leadA_ok (fr:=lst a.n a.last 0) (to:=lst a.n a.first 0) (F:=flw a 0) (zbr _ _ _) (zbr _ _ _) (flw_ss _ _) (fun x hx=>?_) (fun f hf=>?_) (by omega) (by omega) ?_
 ·obtain ⟨i,hi,_,rfl⟩:=zaX.1 hx
  simp only [z7];omega
 ·simp only [flw,List.mem_map] at hf
  obtain ⟨i,_,rfl⟩:=hf
  have:=zaq a.n (a.follow i) 0;omega
 ·rw [hlead];rfl
theorem zhw (a:GA):zaj (plc a) (plc (gMaybe a)):=zfc _ _ rfl
end Go.Ev.Pl
namespace Go.Ev.Pl
open Go Go.Ev
theorem eta_pl (p:zj):(⟨p.Sets,p.First,p.Last,p.Follow,p.Null⟩:zj)=p:=rfl
theorem empty_ok:zaQ (plc gEmpty):=zfd _ rfl
theorem zil {a:GA} (h:Canon a) (k:Nat) {z:GA} (hz:Canon z):Canon (iter (gCat a) k z):=zcy (fun b hb=>zb6 h hb) k hz
theorem refOf_ok:∀ x,Wf x→Rgt x→sizeN x≤200→zaI x (plc (gof x)):=by
 refine rxInd fun x ih hw hr hs=>?_
 obtain ⟨hl,hkw⟩:=(zhk x).1 hw
 obtain ⟨ho,hk⟩:=zd5 hr
 have hgn:=zin x hr
 refine zgZ x _ ⟨fun h=>?_,fun h2=>⟨fun h=>?_,fun h3=>⟨fun h=>?_,fun h4=>⟨fun h=>?_,fun h5=>?_⟩⟩⟩⟩
 ·have h:x.Kind=2:=by simpa using h
  have hg:gof x=gByte x.Set:=by rw [zda,if_pos h]
  rw [hg];rfl
 ·have h:x.Kind=3:=by simpa using h
  have hg:gof x=x.Kids.foldl (fun o y=>gCat o (gof y)) gEmpty:=by rw [zda];simp [h]
  refine ⟨_,empty_ok,fun s f a b c t=>∃ i:Nat,t=i∧i≤x.Kids.length∧(⟨s,f,a,b,c⟩:zj)=plc ((x.Kids.take i).foldl (fun o y=>gCat o (gof y)) gEmpty),
   fun _ _ _ _ _ t=>(x.Kids.length - t).toNat,⟨0,rfl,by omega,rfl⟩,?_⟩
  rintro s f a b c t ⟨i,rfl,hi,hp⟩
  refine ⟨fun ht=>?_,fun ht=>?_⟩
  ·have ht:i < x.Kids.length:=by simpa using ht
   have hm:=List.getElem_mem ht
   obtain ⟨o,ho'⟩:∃ o,o=(x.Kids.take i).foldl (fun o y=>gCat o (gof y)) gEmpty:=⟨_,rfl⟩
   have hn:=pre_n (f:=gCat) (fun _ _=>rfl) (z:=gEmpty) rfl ht
   rw [← hg,← ho'] at hn
   have hsucc:=zaF (f:=fun o y=>gCat o (gof y)) (b:=gEmpty) ht
   rw [← ho'] at hsucc hp
   have hoc:Canon o:=by
    rw [ho']
    have:∀ (l:List zi) (z:GA),Canon z→Canon (l.foldl (fun o y=>gCat o (gof y)) z):=by
     intro l
     induction l with
     | nil=>intro z h;exact h
     | cons y r ih2=>intro z h;exact ih2 _ (zb6 h (zaG y))
    exact this _ _ zbD
   have hkn:=zin _ (hk _ hm)
   have hw2:w64 ((i:Int)+1)=((i+1:Nat):Int):=zK (by omega) (by omega)
   rw [zT ht,hp]
   refine ⟨by omega,by omega,_,ih _ hm (hkw _ hm) (hk _ hm) (by omega),_,zd6 o (gof x.Kids[i]) hoc (zaG _) (by omega),?_⟩
   rw [hw2]
   exact ⟨⟨i+1,rfl,by omega,by rw [hsucc]⟩,by first | omega | (dsimp only;omega)⟩
  ·have:i=x.Kids.length:=by have:¬ i < x.Kids.length:=by simpa using ht
                            omega
   subst this
   rw [List.take_of_length_le (Nat.le_refl _),← hg] at hp
   exact hp.symm
 ·have h:x.Kind=4:=by simpa using h
  have hg:gof x=x.Kids.foldl (fun o y=>gAlt o (gof y)) gNone:=by rw [zda];simp [h]
  have h2k:=own_kids ho (.inr h)
  have hm0:x.Kids[0]'(by omega)∈x.Kids:=List.getElem_mem _
  have hg0:List.getD x.Kids 0 default=x.Kids[0]'(by omega):=by simp [List.getD,show 0 < x.Kids.length by omega]
  have hn0:=pre_n (f:=gAlt) (fun _ _=>rfl) (z:=gNone) rfl (l:=x.Kids) (i:=0) (by omega)
  rw [← hg] at hn0
  have hkn0:=zin _ (hk _ hm0)
  refine ⟨by omega,_,by rw [hg0];exact ih _ hm0 (hkw _ hm0) (hk _ hm0) (by omega),fun s f a b c t=>∃ i:Nat,t=i∧1≤i∧i≤x.Kids.length∧(⟨s,f,a,b,c⟩:zj)=plc ((x.Kids.take i).foldl (fun o y=>gAlt o (gof y)) gNone),
   fun _ _ _ _ _ t=>(x.Kids.length - t).toNat,⟨1,rfl,by omega,by omega,?_⟩,?_⟩
  ·rw [eta_pl,zaF (by omega)]
   show _=plc (gAlt gNone _)
   rw [alt_none_l]
  rintro s f a b c t ⟨i,rfl,hi1,hi,hp⟩
  refine ⟨fun ht=>?_,fun ht=>?_⟩
  ·have ht:i < x.Kids.length:=by simpa using ht
   have hm:=List.getElem_mem ht
   obtain ⟨o,ho'⟩:∃ o,o=(x.Kids.take i).foldl (fun o y=>gAlt o (gof y)) gNone:=⟨_,rfl⟩
   have hn:=pre_n (f:=gAlt) (fun _ _=>rfl) (z:=gNone) rfl ht
   rw [← hg,← ho'] at hn
   have hsucc:=zaF (f:=fun o y=>gAlt o (gof y)) (b:=gNone) ht
   rw [← ho'] at hsucc hp
   have hoc:Canon o:=by
    rw [ho']
    have:∀ (l:List zi) (z:GA),Canon z→Canon (l.foldl (fun o y=>gAlt o (gof y)) z):=by
     intro l
     induction l with
     | nil=>intro z h;exact h
     | cons y r ih2=>intro z h;exact ih2 _ (zh9 h (zaG y))
    exact this _ _ zey
   have hkn:=zin _ (hk _ hm)
   have hw2:w64 ((i:Int)+1)=((i+1:Nat):Int):=zK (by omega) (by omega)
   rw [zT ht,hp]
   refine ⟨by omega,by omega,_,ih _ hm (hkw _ hm) (hk _ hm) (by omega),_,refAlt_ok o (gof x.Kids[i]) hoc (zaG _) (by omega),?_⟩
   rw [hw2]
   exact ⟨⟨i+1,rfl,by omega,by omega,by rw [hsucc]⟩,by first | omega | (dsimp only;omega)⟩
  ·have:i=x.Kids.length:=by have:¬ i < x.Kids.length:=by simpa using ht
                            omega
   subst this
   rw [List.take_of_length_le (Nat.le_refl _),← hg] at hp
   exact hp.symm
 ·have h:x.Kind=5:=by simpa using h
  obtain ⟨⟨k,hq⟩,h1,h2',h3'⟩:=zf8 ho h
  have hkm:k∈x.Kids:=by rw [hq];simp
  have hgof:gof x=gRep (gof k) x.Lo x.Hi:=by rw [zda,h,hq];simp
  have hn:(gof x).n=(max 1 (max x.Lo x.Hi)).toNat * (gof k).n:=by rw [hgof,rep_n _ h1 (by omega)]
  have hkn:=zin k (hk k hkm)
  have hkle:(gof k).n≤(gof x).n:=by
   rw [hn];exact Nat.le_mul_of_pos_left _ (by omega)
  have hkc:=zaG k
  have hkd:List.getD x.Kids 0 default=k:=by rw [hq];rfl
  rw [hkd]
  have hbound:∀ j:Nat,j≤(max 1 (max x.Lo x.Hi)).toNat→j * (gof k).n≤200:=fun j hj=>by
   have:=Nat.mul_le_mul_right (gof k).n hj
   omega
  refine ⟨by rw [hq];simp,_,ih k hkm (hkw k hkm) (hk k hkm) (by omega),_,empty_ok,fun hneg=>?_,fun hpos=>?_⟩
  ·have hneg:x.Hi < 0:=of_decide_eq_true hneg
   have hmx:max 1 (max x.Lo x.Hi)=max x.Lo 1:=by omega
   refine ⟨fun s f a b c t=>∃ i:Nat,t=i+1∧(i:Int)≤max x.Lo 1 - 1∧(⟨s,f,a,b,c⟩:zj)=plc (leftp (gof k) i),fun _ _ _ _ _ t=>(x.Lo - t).toNat,⟨0,rfl,by omega,rfl⟩,?_⟩
   rintro s f a b c t ⟨i,rfl,hi,hp⟩
   have hln:(leftp (gof k) i).n=i * (gof k).n:=by
    have:=zhJ (f:=fun o=>gCat o (gof k)) (a:=gof k) (fun o=>by show o.n+(gof k).n=_;omega) i gEmpty
    rw [show leftp (gof k) i=iter (fun o=>gCat o (gof k)) i gEmpty from rfl,this];rfl
   have hlc:Canon (leftp (gof k) i):=zcy (fun b hb=>zb6 hb hkc) i zbD
   have hb1:=hbound (i+1) (by omega)
   rw [Nat.succ_mul] at hb1
   refine ⟨fun ht=>?_,fun ht=>?_⟩
   ·have ht:(i:Int)+1 < x.Lo:=of_decide_eq_true ht
    have hw2:w64 ((i:Int)+1+1)=((i+1:Nat):Int)+1:=(zK (by omega) (by omega)).trans (by omega)
    rw [hp]
    refine ⟨_,zd6 _ _ hlc hkc (by omega),?_⟩
    rw [hw2]
    exact ⟨⟨i+1,rfl,by omega,rfl⟩,by first | omega | (dsimp only;omega)⟩
   ·have ht:¬ (i:Int)+1 < x.Lo:=of_decide_eq_false ht
    have hii:i=(max x.Lo 1 - 1).toNat:=by omega
    have hfin:∀ z:GA,z=(if x.Lo=0 then gMaybe (gAgain (gof k)) else gAgain (gof k))→gCat (leftp (gof k) i) z=gof x:=by
     rintro z rfl
     rw [leftp_cat,hgof]
     unfold gRep
     rw [if_pos hneg,hii]
    refine ⟨_,refAgain_ok (gof k) hkc (by omega),fun s f a b c=>∃ z:GA,Canon z∧z.n=(gof k).n∧z=(if x.Lo=0 then gMaybe (gAgain (gof k)) else gAgain (gof k))∧(⟨s,f,a,b,c⟩:zj)=plc z,?_,fun h0=>?_,fun h0=>?_⟩
    ·rintro s f a b c ⟨z,hzc,hzn,hz,hpz⟩
     rw [hp,hpz]
     exact ⟨_,zd6 _ _ hlc hzc (by omega),by rw [hfin z hz]⟩
    ·have h0:x.Lo=0:=by simpa using h0
     exact ⟨_,zhw _,gMaybe (gAgain (gof k)),zc4 (zcz hkc),rfl,by rw [if_pos h0],rfl⟩
    ·have h0:x.Lo≠0:=by simpa using h0
     exact ⟨gAgain (gof k),zcz hkc,rfl,by rw [if_neg h0],rfl⟩
  ·have hpos:¬ x.Hi < 0:=of_decide_eq_false hpos
   have hmx:max 1 (max x.Lo x.Hi)=x.Hi:=by omega
   refine ⟨fun s f a b c t=>∃ i:Nat,t=x.Lo+i∧x.Lo+i≤x.Hi∧(⟨s,f,a,b,c⟩:zj)=plc (iter (fun o=>gMaybe (gCat (gof k) o)) i gEmpty),fun _ _ _ _ _ t=>(x.Hi - t).toNat,⟨0,by simp,by omega,rfl⟩,?_⟩
   rintro s f a b c t ⟨i,rfl,hi,hp⟩
   have hin:=zhJ (f:=fun o=>gMaybe (gCat (gof k) o)) (a:=gof k) (fun _=>rfl) i gEmpty
   have hin:(iter (fun o=>gMaybe (gCat (gof k) o)) i gEmpty).n=i * (gof k).n:=hin
   have hic:Canon (iter (fun o=>gMaybe (gCat (gof k) o)) i gEmpty):=zcy (fun b hb=>zc4 (zb6 hkc hb)) i zbD
   refine ⟨fun ht=>?_,fun ht=>?_⟩
   ·have ht:x.Lo+i < x.Hi:=of_decide_eq_true ht
    have hb1:=hbound (i+1) (by omega)
    rw [Nat.succ_mul] at hb1
    have hw2:w64 (x.Lo+(i:Int)+1)=x.Lo+((i+1:Nat):Int):=(zK (by omega) (by omega)).trans (by omega)
    rw [hp]
    refine ⟨_,zd6 _ _ hkc hic (by omega),_,zhw _,?_⟩
    rw [hw2]
    exact ⟨⟨i+1,rfl,by omega,rfl⟩,by first | omega | (dsimp only;omega)⟩
   ·have ht:¬ x.Lo+i < x.Hi:=of_decide_eq_false ht
    have hii:i=(x.Hi - x.Lo).toNat:=by omega
    refine ⟨fun s f a b c t=>∃ j:Nat,t=j∧(j:Int)≤x.Lo∧(⟨s,f,a,b,c⟩:zj)=plc (iter (gCat (gof k)) j (iter (fun o=>gMaybe (gCat (gof k) o)) i gEmpty)),fun _ _ _ _ _ t=>(x.Lo - t).toNat,⟨0,rfl,by omega,hp⟩,?_⟩
    rintro s f a b c t ⟨j,rfl,hj,hp⟩
    have hjn:=zhJ (f:=gCat (gof k)) (a:=gof k) (fun _=>rfl) j (iter (fun o=>gMaybe (gCat (gof k) o)) i gEmpty)
    rw [hin,← Nat.add_mul] at hjn
    have hjc:=zil hkc j hic
    refine ⟨fun ht=>?_,fun ht=>?_⟩
    ·have ht:(j:Int) < x.Lo:=of_decide_eq_true ht
     have hb1:=hbound (j+i+1) (by omega)
     rw [Nat.succ_mul] at hb1
     have hw2:w64 ((j:Int)+1)=((j+1:Nat):Int):=zK (by omega) (by omega)
     rw [hp]
     refine ⟨_,zd6 _ _ hkc hjc (by omega),?_⟩
     rw [hw2]
     exact ⟨⟨j+1,rfl,by omega,rfl⟩,by first | omega | (dsimp only;omega)⟩
    ·have ht:¬ (j:Int) < x.Lo:=of_decide_eq_false ht
     rw [hp,hgof]
     unfold gRep
     rw [if_neg hpos,← hii,show j=x.Lo.toNat by omega]
 ·have h1:x.Kind=1:=by
   simp only [beq_eq_false_iff_ne,ne_eq] at h2 h3 h4 h5
   have:=zev ho;omega
  have hg:gof x=gEmpty:=by rw [zda];simp [h1]
  rw [hg]
  exact ⟨_,empty_ok,rfl⟩
theorem zhv (x:zi) (hw:Wf x):zbK x (if rightB x=true then plc (gof x) else noPl) (if rightB x=true then 0 else 1):=by
 refine zg0 x _ _ ⟨_,zdi x hw,fun h=>?_,fun h=>?_⟩
 ·have h:rightB x=false:=by simpa using h
  rw [h];exact ⟨rfl,rfl⟩
 ·have h:rightB x=true:=by simpa using h
  obtain ⟨hr,hs⟩:=zbl h
  exact ⟨_,refOf_ok x hw hr hs,by rw [if_pos h],by rw [if_pos h]⟩
theorem ze0 (a:List Int) (h:a.length < 1000000):za0 a a true:=by
 refine zfP a a _ ⟨fun h=>by simp at h,fun _=>⟨fun t=>∃ i:Nat,t=i∧i≤a.length,fun t=>(a.length - t).toNat,⟨0,rfl,by omega⟩,?_⟩⟩
 rintro t ⟨i,rfl,hi⟩
 refine ⟨fun ht=>?_,fun _=>rfl⟩
 have ht:i < a.length:=by simpa using ht
 have hw2:w64 ((i:Int)+1)=((i+1:Nat):Int):=zK (by omega) (by omega)
 rw [hw2]
 exact ⟨by omega,by omega,by omega,by omega,fun h=>by simp at h,fun _=>⟨⟨i+1,rfl,by omega⟩,by first | omega | (dsimp only;omega)⟩⟩
theorem sameRefl_ok (p:zj) (h1:p.Sets.length < 1000000) (h2:p.First.length < 1000000) (h3:p.Last.length < 1000000) (h4:p.Follow.length < 1000000) (h5:∀ f∈p.Follow,f.length < 1000000):zah p p true:=by
 refine zfR p p _ ?_
 refine ⟨fun h=>by simp at h,fun _=>?_⟩
 refine ⟨fun h=>by simp at h,fun _=>?_⟩
 refine ⟨fun h=>by simp at h,fun _=>⟨true,ze0 _ h2,?_⟩⟩
 refine ⟨fun h=>(by cases h),fun _=>⟨true,ze0 _ h3,?_⟩⟩
 refine ⟨fun h=>(by cases h),fun _=>?_⟩
 refine ⟨fun t=>∃ i:Nat,t=i∧i≤p.Sets.length,fun t=>(p.Sets.length - t).toNat,⟨0,rfl,by omega⟩,?_⟩
 rintro t ⟨i,rfl,hi⟩
 refine ⟨fun ht=>?_,fun ht=>?_⟩
 ·have ht:i < p.Sets.length:=by simpa using ht
  have hw2:w64 ((i:Int)+1)=((i+1:Nat):Int):=zK (by omega) (by omega)
  rw [hw2]
  exact ⟨by omega,by omega,by omega,by omega,fun h=>by simp at h,fun _=>⟨⟨i+1,rfl,by omega⟩,by first | omega | (dsimp only;omega)⟩⟩
 ·refine ⟨fun t=>∃ i:Nat,t=i∧i≤p.Follow.length,fun t=>(p.Follow.length - t).toNat,⟨0,rfl,by omega⟩,?_⟩
  rintro t ⟨j,rfl,hj⟩
  refine ⟨fun ht=>?_,fun _=>rfl⟩
  have ht:j < p.Follow.length:=by simpa using ht
  have hw2:w64 ((j:Int)+1)=((j+1:Nat):Int):=zK (by omega) (by omega)
  rw [hw2,zT ht]
  exact ⟨by omega,by omega,by omega,by omega,_,ze0 _ (h5 _ (List.getElem_mem ht)),fun h=>(by cases h),fun _=>⟨⟨j+1,rfl,by omega⟩,by first | omega | (dsimp only;omega)⟩⟩
end Go.Ev.Pl
namespace Go.Ev.Pl
open Go Go.Ev
def setOf (lo hi:Int):zc:=mkSet fun i=>decide (i≥lo) && decide (i≤hi)
theorem noset_97:noSet (setOf 97 97)=false:=by kernel_rfl
theorem noset_98:noSet (setOf 98 98)=false:=by kernel_rfl
theorem noset_99:noSet (setOf 99 99)=false:=by kernel_rfl
theorem noset_10:noSet (setOf 10 10)=false:=by kernel_rfl
theorem noset_45:noSet (setOf 45 45)=false:=by kernel_rfl
theorem noset_90:noSet (setOf 90 90)=false:=by kernel_rfl
theorem noset_0:noSet (setOf 0 0)=false:=by kernel_rfl
theorem noset_255:noSet (setOf 255 255)=false:=by kernel_rfl
theorem noset_48:noSet (setOf 48 48)=false:=by kernel_rfl
theorem noset_ac:noSet (setOf 97 99)=false:=by kernel_rfl
theorem noset_not:noSet (mkSet fun i=>!setHas (setOf 97 97) i)=false:=by kernel_rfl
def zset:zc:=⟨0,0,0,0⟩
def chr (b:Int):zi:=⟨2,setOf b b,0,0,[]⟩
theorem wf_leaf (k:Int) (s:zc) (lo hi:Int):Wf ⟨k,s,lo,hi,[]⟩:=(zhk _).2 ⟨by simp,fun y hy=>by simp at hy⟩
end Go.Ev.Pl
