import Derived.Test.YtkeiahjelpjegaaGreatA02
set_option linter.unusedVariables false
set_option linter.unusedSimpArgs false
namespace Go.Ev
open Go Go.Proofs Go.RowKit
set_option maxRecDepth 8000
set_option maxHeartbeats 8000000 in
theorem lists_it (A:zi) (hl1:(A.Follow.length:Int)≤9223372036854775807) (hl2:(A.Starts.length:Int)≤9223372036854775807) :
 ItOk Tryz.prog 92 (.fp (zbp A) 0) (A.Follow.length+A.Starts.length) (fun i=>[zg ((A.Follow++A.Starts).getD i [])]):=by
 intro own w0 lb hlb hone hlt0
 refine ⟨⟨_,Tryz.func92,by rfl,by rfl⟩,?_⟩
 intro F n lp J S W hF hro hku hst hss hyield hJ
 have kk:=cfOk [] 31
 obtain ⟨k,o,q1,q2,q3,q4⟩:=hlb
 obtain ⟨v0,e0,r0⟩:=q4 0 _ rfl
 obtain ⟨v1,e1,r1⟩:=q4 1 _ rfl
 obtain ⟨s1,e2,r2⟩:=q4 2 _ rfl
 obtain ⟨v3,e3,r3⟩:=q4 3 _ rfl
 obtain ⟨s2,e4,r4⟩:=q4 4 _ rfl
 obtain ⟨f1,hf1,hr1,hx1⟩:=zf7 (P:=Tryz.prog) (enc:=zg) (sz:=1) (agg:=false) (fun x=>by rfl) (fun x=>by rfl) (fun _=>rfl) r2
 obtain ⟨f2,hf2,hr2,hx2⟩:=zf7 (P:=Tryz.prog) (enc:=zg) (sz:=1) (agg:=false) (fun x=>by rfl) (fun x=>by rfl) (fun _=>rfl) r4
 obtain ⟨z1,hz1⟩:∃ z1,z1=f1.map fun f=>f 0:=⟨_,rfl⟩
 obtain ⟨z2,hz2⟩:∃ z2,z2=f2.map fun f=>f 0:=⟨_,rfl⟩
 have hm1:f1.map (encX false 1)=z1.map .pv:=by rw [hz1,List.map_map];rfl
 have hm2:f2.map (encX false 1)=z2.map .pv:=by rw [hz2,List.map_map];rfl
 rw [hm1] at hr1
 rw [hm2] at hr2
 have hn1:z1.length=A.Follow.length:=by rw [hz1,List.length_map,hf1]
 have hn2:z2.length=A.Starts.length:=by rw [hz2,List.length_map,hf2]
 have c0:v0.oneCell'=true:=zih r0 rfl
 have c1:v1.oneCell'=true:=zih r1 rfl
 have c2:s1.oneCell'=true:=zih r2 rfl
 have c3:v3.oneCell'=true:=zih r3 rfl
 have c4:s2.oneCell'=true:=zih r4 rfl
 have hX:RC own w0 (.fp (.agg [.pv v0,.pv v1,.pv s1,.pv v3,.pv s2]) 0) lb:=by
  refine ⟨k,o,q1,q2,q3,fun j y hy=>?_⟩
  match j,hy with
  | 0,hy=>cases hy;exact ⟨v0,e0,.pv _ c0⟩
  | 1,hy=>cases hy;exact ⟨v1,e1,.pv _ c1⟩
  | 2,hy=>cases hy;exact ⟨s1,e2,.pv _ c2⟩
  | 3,hy=>cases hy;exact ⟨v3,e3,.pv _ c3⟩
  | 4,hy=>cases hy;exact ⟨s2,e4,.pv _ c4⟩
  | j+5,hy=>cases hy
 obtain ⟨yv,hyv⟩:∃ yv,yv=Value.func (.yield lp) #[] #[]:=⟨_,rfl⟩
 rw [← hyv]
 have hyc:yv.oneCell'=true:=by rw [hyv];rfl
 have hU:∀ k,(k < w0.heap.size∧(own k=none∨∃ o,own k=some (.al o)))→k < w0.heap.size:=fun k h=>h.1
 have hval:∀ (x:List Int) (f:Nat→Value) (b:Bool),(f 0).oneCell'=true→(∀ u own' w' b,RL Tryz.prog [] own' w' b (asAV (encX false 1 f)) u→RF own w0 (zg x) u)→RF own w0 (zg x) (f 0):=fun x f _ h1 h2=>h2 (f 0) own w0 0 ⟨rfl,.pv _ h1⟩
 have hok:∀ (i:Nat) (v u:Value),(∃ (x:List Int) (f:Nat→Value),(A.Follow++A.Starts)[i]?=some x∧v=f 0∧RF own w0 (zg x) (f 0))→u=v→okAr own w0 (fun i=>[zg ((A.Follow++A.Starts).getD i [])]) i #[u]:=by
  rintro i v u ⟨x,f,h1,rfl,h2⟩ rfl
  refine ⟨[f 0],rfl,rfl,fun j y u e1 e2=>?_⟩
  dsimp only at e1
  rw [List.getD_eq_getElem?_getD,h1] at e1
  match j,e1,e2 with
  | 0,e1,e2=>cases e1;cases e2;exact h2
  | j+1,e1,e2=>cases e1
 have ok1:∀ (i:Nat) (v u:Value),z1[i]?=some v→u=v→okAr own w0 (fun i=>[zg ((A.Follow++A.Starts).getD i [])]) (0+i) #[u]:=by
  intro i v u hv hu
  have hone':=sl_one hr1 hv
  have hi:i < A.Follow.length:=by have:=(List.getElem?_eq_some_iff.1 hv).1;omega
  rw [hz1,List.getElem?_map] at hv
  obtain ⟨f,hf,rfl⟩:∃ f,f1[i]?=some f∧f 0=v:=by
   cases hf:f1[i]? with
   | none=>rw [hf] at hv;cases hv
   | some f=>rw [hf] at hv;exact ⟨f,rfl,by simpa using hv⟩
  refine hok (0+i) _ u ⟨A.Follow[i],f,by rw [Nat.zero_add,List.getElem?_append_left hi];simp,rfl,hval _ f true hone' (hx1 i _ f (by simp) hf)⟩ hu
 have ok2:∀ (i:Nat) (v u:Value),z2[i]?=some v→u=v→okAr own w0 (fun i=>[zg ((A.Follow++A.Starts).getD i [])]) (A.Follow.length+i) #[u]:=by
  intro i v u hv hu
  have hone':=sl_one hr2 hv
  have hi:i < A.Starts.length:=by have:=(List.getElem?_eq_some_iff.1 hv).1;omega
  rw [hz2,List.getElem?_map] at hv
  obtain ⟨f,hf,rfl⟩:∃ f,f2[i]?=some f∧f 0=v:=by
   cases hf:f2[i]? with
   | none=>rw [hf] at hv;cases hv
   | some f=>rw [hf] at hv;exact ⟨f,rfl,by simpa using hv⟩
  refine hok _ _ u ⟨A.Starts[i],f,by rw [List.getElem?_append_right (by omega),Nat.add_sub_cancel_left];simp,rfl,hval _ f true hone' (hx2 i _ f (by simp) hf)⟩ hu
 refine callsIn_of_wp_marks Tryz.func92 (by rfl) (hF.fn _) ?_ hro
 have hpost:∀ (a:Act) (w:World),a.defers=[]→(J (A.Follow.length+A.Starts.length) w∨S w)→LeavesInM F n Tryz.prog Tryz.f92 a.tmps (fun e W'=>(∃ v,e=.returned v)∧(J (A.Follow.length+A.Starts.length) W'∨S W')) a.defers .returning w:=by
  intro a w hd hJ
  rw [hd]
  exact ⟨.tuple #[],by simp [results,Tryz.f92,go_sem],⟨_,rfl⟩,hJ⟩
 obtain ⟨tm,htm⟩:∃ tm:Array Value,tm=(#[yv]++#[lb])++Array.replicate (Tryz.f92.ntmps - (#[yv]++#[lb]).size) undef:=⟨_,rfl⟩
 have hnt:Tryz.f92.ntmps=31:=by rfl
 have hs0:tm.size=(cf [] 31).nt:=by rw [htm,show (cf [] 31).nt=31 from rfl];simp [hnt]
 have ht0:tm[0]?=some yv:=by rw [htm];exact (Array.getElem?_append_left (by simp)).trans rfl
 have ht1:tm[1]?=some lb:=by rw [htm];exact (Array.getElem?_append_left (by simp)).trans rfl
 show (Code.seq (.seq (sq1 (sq1 (bodyOf Tryz.f92))) (sq2 (sq1 (bodyOf Tryz.f92)))) (.seq (sq1 (sq2 (bodyOf Tryz.f92))) (sq2 (sq2 (bodyOf Tryz.f92))))).wpIn _ _ _ _ _ _
 rw [← htm]
 refine wpIn_seq (wpIn_seq ?_)
 refine yhead (P:=Tryz.prog) (pre:=(opsOf (sq1 (sq1 (bodyOf Tryz.f92)))).take 2) (rest:=(opsOf (sq1 (sq1 (bodyOf Tryz.f92)))).drop 2) (tl:=8) (tn:=9) (ti:=10) (vs:=z1) (s:=s1) (X:=.agg [.pv v0,.pv v1,.pv s1,.pv v3,.pv s2]) (own:=own) (w0:=w0) kk hF (by rfl) hyc (by decide)
  ⟨[],[(1,.f (.pv yv)),(4,.fp (.agg [.pv v0,.pv v1,.pv s1,.pv v3,.pv s2]) 0),(22,.fp (.agg [.pv v0,.pv v1,.pv s1,.pv v3,.pv s2]) 2),(25,.f (.pv s1))],by kernel_rfl,by rfl⟩
  ⟨[],[(25,.f (.sl (z1.map .pv))),(28,vi ((z1.map FV.pv).length:Int)),(31,vi 0)],by kernel_rfl,by rw [List.length_map];rfl,by rfl⟩ (by rfl) (by rfl) hlt0 hX hr1 (a:={ tmps:=tm,defers:=[] }) hs0 ht0 ht1 rfl hku ?_
 intro a1 w1 y0 y1 y2 y3 y4 y5 yd yg yk
 show (sq2 (sq1 (bodyOf Tryz.f92))).wpIn _ _ _ _ _ _
 refine yloop (P:=Tryz.prog) (t1:=1) (tl:=8) (tn:=9) (ti:=10) (tc:=11) (te:=4) (ty:=14) (tx:=15) (to_:=16) (tq:=17) (yv:=yv) (s:=s1) (vs:=z1) (own:=own) (w0:=w0) (lp:=lp) (J:=J) (S:=S) (ok:=okAr own w0 (fun i=>[zg ((A.Follow++A.Starts).getD i [])])) (M:=A.Follow.length+A.Starts.length) (k0:=0)
  kk hF (by decide) (by rfl) hyc (by omega) (by rfl) (by rfl) (by rfl) (by rfl) (pre:=(opsOf (sq1 (sq2 (sq1 (sq1 (sq2 (sq2 (sq1 (sq1 (sq2 (sq1 (bodyOf Tryz.f92)))))))))))).take 2) (by rfl) (by rfl) (by rfl) (by rfl) (by decide)
  (fun i=>⟨[],[(1,.f (.pv yv)),(25,.f (.sl (z1.map .pv))),(28,vi z1.length),(31,vi i),(34,vB (decide ((i:Int) < (z1.length:Int))))],by kernel_rfl,by rfl⟩)
  (fun i v=>⟨[],[(1,.f (.pv yv)),(13,.f (.pv v)),(25,.f (.sl (z1.map .pv))),(28,vi z1.length),(31,vi i),(37,.fp (.pv v) 0),(40,.f (.pv v))],by kernel_rfl,by rfl⟩)
  (fun v=>⟨[],[(1,.f (.pv yv)),(13,.f (.pv v)),(43,.f (.pv yv)),(46,.f (.pv v))],by kernel_rfl,by rfl,by rfl⟩)
  (fun b=>⟨[],[(49,vB b),(52,vB (!b))],by kernel_rfl,by rfl⟩)
  (fun i=>⟨[],[(1,.f (.pv yv)),(25,.f (.sl (z1.map .pv))),(28,vi z1.length),(31,vi (w64 ((i:Int)+1))),(55,vi (w64 ((i:Int)+1)))],by kernel_rfl,by rfl⟩)
  (by decide) hlt0 hyv hst hss hyield (by omega) ok1 hr1 y0 y1 y3 y4 y5 yd (hst _ _ _ hJ yg) yk ?_ (fun a' W' h1 h2=>hpost a' W' h1 (.inr h2))
 intro a2 w2 x0 x1 x2 xd xJ xk
 show (Code.seq _ _).wpIn _ _ _ _ _ _
 refine wpIn_seq ?_
 refine yhead (P:=Tryz.prog) (pre:=(opsOf (sq1 (sq2 (bodyOf Tryz.f92)))).take 2) (rest:=(opsOf (sq1 (sq2 (bodyOf Tryz.f92)))).drop 2) (tl:=20) (tn:=21) (ti:=22) (vs:=z2) (s:=s2) (X:=.agg [.pv v0,.pv v1,.pv s1,.pv v3,.pv s2]) (own:=own) (w0:=w0) kk hF (by rfl) hyc (by decide)
  ⟨[],[(1,.f (.pv yv)),(4,.fp (.agg [.pv v0,.pv v1,.pv s1,.pv v3,.pv s2]) 0),(58,.fp (.agg [.pv v0,.pv v1,.pv s1,.pv v3,.pv s2]) 4),(61,.f (.pv s2))],by kernel_rfl,by rfl⟩
  ⟨[],[(61,.f (.sl (z2.map .pv))),(64,vi ((z2.map FV.pv).length:Int)),(67,vi 0)],by kernel_rfl,by rw [List.length_map];rfl,by rfl⟩ (by rfl) (by rfl) hlt0 hX hr2 x0 x1 (x2.trans y2) xd xk ?_
 intro a3 w3 u0 u1 u2 u3 u4 u5 ud ug uk
 show (sq2 (sq2 (bodyOf Tryz.f92))).wpIn _ _ _ _ _ _
 refine yloop (P:=Tryz.prog) (t1:=1) (tl:=20) (tn:=21) (ti:=22) (tc:=23) (te:=6) (ty:=26) (tx:=27) (to_:=28) (tq:=29) (yv:=yv) (s:=s2) (vs:=z2) (own:=own) (w0:=w0) (lp:=lp) (J:=J) (S:=S) (ok:=okAr own w0 (fun i=>[zg ((A.Follow++A.Starts).getD i [])])) (M:=A.Follow.length+A.Starts.length) (k0:=A.Follow.length)
  kk hF (by decide) (by rfl) hyc (by omega) (by rfl) (by rfl) (by rfl) (by rfl) (pre:=(opsOf (sq1 (sq2 (sq1 (sq1 (sq2 (sq2 (sq1 (sq1 (sq2 (sq2 (bodyOf Tryz.f92)))))))))))).take 2) (by rfl) (by rfl) (by rfl) (by rfl) (by decide)
  (fun i=>⟨[],[(1,.f (.pv yv)),(61,.f (.sl (z2.map .pv))),(64,vi z2.length),(67,vi i),(70,vB (decide ((i:Int) < (z2.length:Int))))],by kernel_rfl,by rfl⟩)
  (fun i v=>⟨[],[(1,.f (.pv yv)),(19,.f (.pv v)),(61,.f (.sl (z2.map .pv))),(64,vi z2.length),(67,vi i),(73,.fp (.pv v) 0),(76,.f (.pv v))],by kernel_rfl,by rfl⟩)
  (fun v=>⟨[],[(1,.f (.pv yv)),(19,.f (.pv v)),(79,.f (.pv yv)),(82,.f (.pv v))],by kernel_rfl,by rfl,by rfl⟩)
  (fun b=>⟨[],[(85,vB b),(88,vB (!b))],by kernel_rfl,by rfl⟩)
  (fun i=>⟨[],[(1,.f (.pv yv)),(61,.f (.sl (z2.map .pv))),(64,vi z2.length),(67,vi (w64 ((i:Int)+1))),(91,vi (w64 ((i:Int)+1)))],by kernel_rfl,by rfl⟩)
  (by decide) hlt0 hyv hst hss hyield (by omega) ok2 hr2 u0 u1 u3 u4 u5 ud (hst _ _ _ (by rw [Nat.zero_add,hn1] at xJ;exact xJ) ug) uk ?_ (fun a' W' h1 h2=>hpost a' W' h1 (.inr h2))
 intro a4 w4 _ _ _ xd4 xJ4 _
 exact hpost a4 w4 xd4 (.inl (by rw [hn2] at xJ4;exact xJ4))
theorem auto_lists_ok (A:zi):CallE Tryz.prog 54 [.agg [.f (fL ze A.Sets),.f (fL zb A.Owner),.f (fL zg A.Follow),.f (fL zh A.Ends),.f (fL zg A.Starts)]] [] (.clo 92 [.fp (zbp A) 0]) []:=by
 refine zeu (x:=bodyOf Tryz.f54) (cfOk [] 4) Tryz.func54 (by rfl) (by rfl) (by rfl) (Nat.le_of_ble_eq_true rfl) (by rfl) (by rfl) (Nat.le_of_ble_eq_true rfl) ?_
 refine wkS [1] [(1,.agg [.f (fL ze A.Sets),.f (fL zb A.Owner),.f (fL zg A.Follow),.f (fL zh A.Ends),.f (fL zg A.Starts)])] (by kernel_rfl) ?_
 refine sR (cfOk [] 4) [] [4,8] [(4,.ptr 8 0),(8,.agg [.f (fL ze A.Sets),.f (fL zb A.Owner),.f (fL zg A.Follow),.f (fL zh A.Ends),.f (fL zg A.Starts)])] (obs:=[]) (by kernel_rfl) (by kernel_rfl) obN ?_
 refine sR (cfOk [] 4) [] [7,8] [(7,.clo 92 [.ptr 8 0]),(8,.agg [.f (fL ze A.Sets),.f (fL zb A.Owner),.f (fL zg A.Follow),.f (fL zh A.Ends),.f (fL zg A.Starts)])] (obs:=[]) (by kernel_rfl) (by kernel_rfl) obN ?_
 refine Sem.ret' (by kernel_rfl) Wk.refl ?_
 refine ⟨_,Wk.fpz (b:=8) (x:=zbp A) (by rfl) (by rfl) (by rfl),?_⟩
 exact (zcE (x:=.clo 92 [.fp (zbp A) 0]) (l:=[]) (by kernel_rfl) ⟨rfl,rfl⟩).1
def C_auto_lists (A:zi):Prop:=CallE Tryz.prog 54 [.agg [.f (fL ze A.Sets),.f (fL zb A.Owner),.f (fL zg A.Follow),.f (fL zh A.Ends),.f (fL zg A.Starts)]] [] (.clo 92 [.fp (zbp A) 0]) []
theorem lists_it2 (A:zi) (h:A.Follow.length < 1099511627776∧A.Starts.length < 1099511627776):ItOk Tryz.prog 92 (.fp (zbp A) 0) (A.Follow.length+A.Starts.length) (fun i=>[zg ((A.Follow++A.Starts).getD i [])]):=
 lists_it A (by omega) (by omega)
end Go.Ev
namespace Go.Ev
open Go Go.Proofs
set_option maxRecDepth 8000
def zcR (r0:Bool):Prop:=CallE Tryz.prog 14 [] [] (vB r0) []
def zeg (a0:za) (a1:Int) (r0:Bool):Prop:=CallE Tryz.prog 93 [zy a0,vi a1] [] (vB r0) []
def zbP (a0:zaU) (a1:Int) (r0:Bool):Prop:=CallE Tryz.prog 77 [zaZ a0,vi a1] [] (vB r0) []
def zbV (a0:zaU) (a1:Int) (r0:Bool):Prop:=CallE Tryz.prog 78 [zaZ a0,vi a1] [] (vB r0) []
def zcj (a0:zj) (r0:Bool):Prop:=CallE Tryz.prog 113 [zu a0] [] (vB r0) []
def zbA (a0:zL) (r0:Bool):Prop:=CallE Tryz.prog 140 [zN a0] [] (vB r0) []
def zbW (a0:zL) (r0:Bool):Prop:=CallE Tryz.prog 123 [zN a0] [] (vB r0) []
def za9 (a0:zj) (o0:zL) (o1:Int) (r0:Bool) (o0':zL) (o1':Int):Prop:=CallE Tryz.prog 122 [zu a0,.ptr 3 0,.ptr 6 0] [zN o0,vi o1] (vB r0) [zN o0',vi o1']
def zJ (a0:(List zj)) (o0:zL) (o1:Int) (r0:Int) (o0':zL) (o1':Int):Prop:=CallE Tryz.prog 141 [vL zc a0,.clo 122 [.ptr 3 0,.ptr 6 0]] [zN o0,vi o1] (vi r0) [zN o0',vi o1']
def zF (a0:(List zj)) (o0:zL) (o1:Int) (r0:Bool) (o0':zL) (o1':Int):Prop:=CallE Tryz.prog 124 [vL zc a0,.clo 122 [.ptr 3 0,.ptr 6 0]] [zN o0,vi o1] (vB r0) [zN o0',vi o1']
def zav (a0:zL) (a1:Int) (r0:Bool):Prop:=CallE Tryz.prog 98 [zN a0,vi a1] [] (vB r0) []
def zdj (a0:zj) (r0:Int):Prop:=CallE Tryz.prog 99 [zu a0] [] (vi r0) []
def zdi (a0:zj) (a1:Int) (r0:Int):Prop:=CallE Tryz.prog 100 [zu a0,vi a1] [] (vi r0) []
def zcF (a0:zj) (r0:Bool):Prop:=CallE Tryz.prog 64 [zu a0] [] (vB r0) []
def zbs (a0:zaU) (r0:Bool):Prop:=CallE Tryz.prog 79 [zaZ a0] [] (vB r0) []
def zbE (a0:(List Int)) (r0:ByteArray):Prop:=CallE Tryz.prog 10 [vL zae a0] [] (vS r0) []
def zaG (a0:zj) (a1:Int) (r0:Int):Prop:=CallE Tryz.prog 38 [zu a0,vi a1] [] (vi r0) []
def zbC (a0:ByteArray) (r0:Bool):Prop:=CallE Tryz.prog 84 [vS a0] [] (vB r0) []
def zaP (a0:zj) (r0:Bool):Prop:=CallE Tryz.prog 118 [zu a0] [] (vB r0) []
def zaE (a0:zj) (a1:Int) (r0:Bool):Prop:=CallE Tryz.prog 108 [zu a0,vi a1] [] (vB r0) []
def zai (a0:zj) (r0:Int):Prop:=CallE Tryz.prog 26 [zu a0] [] (vi r0) []
def zaF (a0:zj) (r0:Bool):Prop:=CallE Tryz.prog 71 [zu a0] [] (vB r0) []
def zaO (a0:zp) (a1:Int) (r0:Bool):Prop:=CallE Tryz.prog 85 [zaj a0,vi a1] [] (vB r0) []
def za2 (a0:zx) (r0:Bool):Prop:=CallE Tryz.prog 44 [zQ a0] [] (vB r0) []
def zck (a0:zx) (a1:ByteArray) (r0:Bool):Prop:=CallE Tryz.prog 60 [zQ a0,vS a1] [] (vB r0) []
def zbh (a0:zx) (a1:Int) (a2:Int) (r0:Bool):Prop:=CallE Tryz.prog 46 [zQ a0,vi a1,vi a2] [] (vB r0) []
def zbQ (a0:zj) (a1:ByteArray) (r0:Bool):Prop:=CallE Tryz.prog 120 [zu a0,vS a1] [] (vB r0) []
def zbm (a0:za) (a1:Int) (r0:Bool):Prop:=CallE Tryz.prog 58 [zy a0,vi a1] [] (vB r0) []
def zaS (a0:(List Bool)) (a1:(List Bool)) (r0:(List Bool)):Prop:=CallE Tryz.prog 137 [vL zh a0,vL zh a1] [] (oL 4 zh r0) []
def zbi (a0:zj) (r0:Bool):Prop:=CallE Tryz.prog 138 [zu a0] [] (vB r0) []
def zaw (a0:(List Bool)) (a1:(List Bool)) (r0:Bool):Prop:=CallE Tryz.prog 139 [vL zh a0,vL zh a1] [] (vB r0) []
def zT (a0:zj) (a1:ByteArray) (a2:(List Bool)) (r0:(List Bool)):Prop:=CallE Tryz.prog 121 [zu a0,vS a1,vL zh a2] [] (vL zh r0) []
def zba (a0:zj) (a1:ByteArray) (a2:Int) (r0:(List Int)):Prop:=CallE Tryz.prog 96 [zu a0,vS a1,vi a2] [] (oL 3 zb r0) []
def zal (a0:zp) (a1:ByteArray) (a2:Int) (r0:Int):Prop:=CallE Tryz.prog 61 [zaj a0,vS a1,vi a2] [] (vi r0) []
def zbB (a0:zx) (a1:ByteArray) (a2:Int) (a3:Int) (r0:Int) (r1:Int):Prop:=CallE Tryz.prog 24 [zQ a0,vS a1,vi a2,vi a3] [] (.tup [vi r0,vi r1]) []
def zdJ (a0:Int) (r0:Bool):Prop:=CallE Tryz.prog 111 [vI .u8 a0] [] (vB r0) []
def zeh (a0:Int) (r0:Bool):Prop:=CallE Tryz.prog 112 [vI .u8 a0] [] (vB r0) []
def zdK (a0:ByteArray) (r0:Bool):Prop:=CallE Tryz.prog 75 [vS a0] [] (vB r0) []
def zcd (a0:zp) (o0:Int) (r0:Bool) (o0':Int):Prop:=CallE Tryz.prog 76 [zaj a0,.ptr 3 0] [vi o0] (vB r0) [vi o0']
def zV (a0:(List zp)) (o0:Int) (r0:Int) (o0':Int):Prop:=CallE Tryz.prog 114 [vL zt a0,.clo 76 [.ptr 3 0]] [vi o0] (vi r0) [vi o0']
def zI (a0:(List zp)) (o0:Int) (r0:Bool) (o0':Int):Prop:=CallE Tryz.prog 80 [vL zt a0,.clo 76 [.ptr 3 0]] [vi o0] (vB r0) [vi o0']
def zcr (a0:zx) (r0:Bool):Prop:=CallE Tryz.prog 41 [zQ a0] [] (vB r0) []
def zbK (a1:za) (o0:zr) (r0:zq) (o0':zr):Prop:=CallE Tryz.prog 143 [.ptr 3 0,zy a1] [zw o0] (zH r0) [zw o0']
def zS (a0:(List (List Int))) (r0:(List Int)):Prop:=CallE Tryz.prog 94 [vL zg a0] [] (oL 3 zb r0) []
def zY (a0:(List Int)) (a1:(List Int)) (r0:(List Int)):Prop:=CallE Tryz.prog 82 [vL zb a0,vL zb a1] [] (vL zb r0) []
def zaW (a1:(List Int)) (a2:(List Int)) (o0:zr) (o0':zr):Prop:=CallE Tryz.prog 159 [.ptr 3 0,vL zb a1,vL zb a2] [zw o0] (.tup []) [zw o0']
def zaD (a1:zq) (a2:zq) (o0:zr) (r0:zq) (o0':zr):Prop:=CallE Tryz.prog 144 [.ptr 3 0,zH a1,zH a2] [zw o0] (zH r0) [zw o0']
def zan (a1:zj) (a2:Int) (o0:zr) (r0:(List zq)) (o0':zr):Prop:=CallE Tryz.prog 160 [.ptr 3 0,zu a1,vi a2] [zw o0] (oL 158 zn r0) [zw o0']
def zcB (a0:zq) (r0:zq):Prop:=CallE Tryz.prog 162 [zH a0] [] (zH r0) []
def zbt (a1:zj) (o0:zr) (r0:zq) (o0':zr):Prop:=CallE Tryz.prog 145 [.ptr 3 0,zu a1] [zw o0] (zH r0) [zw o0']
def zak (a1:zj) (o0:zr) (r0:zq) (o0':zr):Prop:=CallE Tryz.prog 126 [.ptr 3 0,zu a1] [zw o0] (zH r0) [zw o0']
def zew (a0:zj) (r0:zaN) (r1:Int):Prop:=CallE Tryz.prog 102 [zu a0] [] (.tup [zdI r0,vi r1]) []
def zb2 (a0:(List Int)) (a1:Int) (r0:(List Int)):Prop:=CallE Tryz.prog 115 [vL zb a0,vi a1] [] (oL 3 zb r0) []
def zbc (a1:zj) (a2:Int) (o0:zX) (r0:(List Int)) (r1:(List Int)) (r2:Bool) (o0':zX):Prop:=CallE Tryz.prog 81 [.ptr 3 0,zu a1,vi a2] [zaq o0] (.tup [vL zb r0,vL zb r1,vB r2]) [zaq o0']
def zbu (a1:zp) (a2:Int) (o0:zX) (r0:(List Int)) (o0':zX):Prop:=CallE Tryz.prog 42 [.ptr 3 0,zaj a1,vi a2] [zaq o0] (vL zb r0) [zaq o0']
def zaX (a0:(List Int)) (a1:Int) (r0:Int):Prop:=CallE Tryz.prog 127 [vL zb a0,vi a1] [] (vi r0) []
def zay (a0:(List Int)) (a1:Int) (r0:Bool):Prop:=CallE Tryz.prog 104 [vL zb a0,vi a1] [] (vB r0) []
def zcA (a0:zx) (a1:Int) (a2:Int) (r0:Bool):Prop:=CallE Tryz.prog 83 [zQ a0,vi a1,vi a2] [] (vB r0) []
def zc4 (a0:zx) (a1:(List (List Int))) (a2:Int) (a3:Bool) (r0:(List Int)):Prop:=CallE Tryz.prog 43 [zQ a0,vL zg a1,vi a2,vB a3] [] (vL zb r0) []
def zbL (a0:zx) (r0:zi) (r1:Int):Prop:=CallE Tryz.prog 15 [zQ a0] [] (.tup [zU r0,vi r1]) []
def zl (a1:Int) (o0:zf) (r0:Int) (o0':zf):Prop:=CallE Tryz.prog 49 [.ptr 3 0,vi a1] [zk o0] (vi r0) [zk o0']
def zbl (a0:za) (a1:Int) (r0:za):Prop:=CallE Tryz.prog 95 [zy a0,vi a1] [] (zy r0) []
def zaT (a0:Int) (a1:Int) (r0:za):Prop:=CallE Tryz.prog 59 [vi a0,vi a1] [] (zy r0) []
def zbR (a0:za) (r0:za):Prop:=CallE Tryz.prog 97 [zy a0] [] (zy r0) []
def zaQ (a0:Int) (r0:zj):Prop:=CallE Tryz.prog 27 [vi a0] [] (zbj r0) []
def zaR (o0:zf) (r0:zj) (o0':zf):Prop:=CallE Tryz.prog 62 [.ptr 3 0] [zk o0] (zbj r0) [zk o0']
def z6 (a0:Int) (a1:(List zj)) (r0:zj):Prop:=CallE Tryz.prog 63 [vi a0,vL zc a1] [] (zbj r0) []
def zM (a1:Int) (o0:zf) (r0:zj) (o0':zf):Prop:=CallE Tryz.prog 25 [.ptr 3 0,vi a1] [zk o0] (zbj r0) [zk o0']
def zaH (o0:zf) (r0:zj) (o0':zf):Prop:=CallE Tryz.prog 89 [.ptr 3 0] [zk o0] (zu r0) [zk o0']
def zbb (a1:Int) (a2:Bool) (o0:zf) (r0:zp) (o0':zf):Prop:=CallE Tryz.prog 50 [.ptr 3 0,vi a1,vB a2] [zk o0] (.agg [oL 3 zb (zp.Conds r0),vB (zp.All r0),vB (zp.Bol r0),vi (zj.Kind (zp.Rx r0)),vI .u64 (za.e0 (zj.Set (zp.Rx r0))),vI .u64 (za.e1 (zj.Set (zp.Rx r0))),vI .u64 (za.e2 (zj.Set (zp.Rx r0))),vI .u64 (za.e3 (zj.Set (zp.Rx r0))),vi (zj.Lo (zp.Rx r0)),vi (zj.Hi (zp.Rx r0)),vL zc (zj.Kids (zp.Rx r0)),vi (zj.Kind (zp.Trail r0)),vI .u64 (za.e0 (zj.Set (zp.Trail r0))),vI .u64 (za.e1 (zj.Set (zp.Trail r0))),vI .u64 (za.e2 (zj.Set (zp.Trail r0))),vI .u64 (za.e3 (zj.Set (zp.Trail r0))),vi (zj.Lo (zp.Trail r0)),vi (zj.Hi (zp.Trail r0)),vL zc (zj.Kids (zp.Trail r0)),vB (zp.Eof r0),vi (zp.Act r0),vi (zp.To r0)]) [zk o0']
def zbD (a0:(List Int)) (a1:Bool) (r0:zx):Prop:=CallE Tryz.prog 18 [vL zae a0,vB a1] [] (.agg [vL zm (zx.Conds r0),vB (zx.Default r0),oL 60 zt (zx.Rules r0)]) []
def zcS (a0:Int) (r0:Bool):Prop:=CallE Tryz.prog 51 [vi a0] [] (vB r0) []
def zaC (a0:(List za)) (a1:za) (r0:Int):Prop:=CallE Tryz.prog 91 [vL ze a0,zy a1] [] (vi r0) []
def zah (a0:(List za)) (a1:za) (r0:Bool):Prop:=CallE Tryz.prog 53 [vL ze a0,zy a1] [] (vB r0) []
def zcC (a0:(List Int)) (a1:Int) (r0:Bool):Prop:=CallE Tryz.prog 55 [vL zb a0,vi a1] [] (vB r0) []
def zac (a0:(List Int)) (r0:Int):Prop:=CallE Tryz.prog 90 [vL zb a0,.clo 51 []] [] (vi r0) []
def zO (a0:(List Int)) (r0:Bool):Prop:=CallE Tryz.prog 52 [vL zb a0,.clo 51 []] [] (vB r0) []
def zcs (a0:zi) (r0:Bool):Prop:=CallE Tryz.prog 19 [zU a0] [] (vB r0) []
def zdM (a0:zi) (a1:(List Int)) (a2:Int) (r0:(List Int)) (r1:Int):Prop:=CallE Tryz.prog 57 [zU a0,vL zb a1,vi a2] [] (.tup [vL zb r0,vi r1]) []
def zdL (a0:Int) (o0:zi) (r0:Bool) (o0':zi):Prop:=CallE Tryz.prog 56 [vi a0,.ptr 3 0] [zU o0] (vB r0) [zU o0']
def zaf (a0:(List Int)) (o0:zi) (r0:Int) (o0':zi):Prop:=CallE Tryz.prog 90 [vL zb a0,.clo 56 [.ptr 3 0]] [zU o0] (vi r0) [zU o0']
def zR (a0:(List Int)) (o0:zi) (r0:Bool) (o0':zi):Prop:=CallE Tryz.prog 52 [vL zb a0,.clo 56 [.ptr 3 0]] [zU o0] (vB r0) [zU o0']
def zex (a0:zi) (a1:(List Int)) (a2:ByteArray) (r0:Int) (r1:Int):Prop:=CallE Tryz.prog 20 [zU a0,vL zb a1,vS a2] [] (.tup [vi r0,vi r1]) []
def zbx (a0:(List Int)) (a1:(List Int)) (a2:Int) (a3:Int) (r0:Bool):Prop:=CallE Tryz.prog 8 [vL zae a0,vL zae a1,vI .u8 a2,vI .u8 a3] [] (vB r0) []
end Go.Ev
namespace Go.Ev
open Go Go.RowKit
variable {P : Program}
section
variable {c : Cfg} {G : Sta} {K : Ex → Sta → Prop} {x : Code}
end
end Go.Ev
namespace Go.Ev
open Go
theorem eft (b:Bool):b=true∨b=false:=Bool.eq_false_or_eq_true b
end Go.Ev
namespace Go.Ev
open Go Go.RowKit
variable {P : Program}
abbrev u2 {α0 α1 γ:Type _} (f:α0→α1→γ) (q:α0×α1):γ:=f q.1 q.2
abbrev u3 {α0 α1 α2 γ:Type _} (f:α0→α1→α2→γ) (q:α0×α1×α2):γ:=f q.1 q.2.1 q.2.2
abbrev u4 {α0 α1 α2 α3 γ:Type _} (f:α0→α1→α2→α3→γ) (q:α0×α1×α2×α3):γ:=f q.1 q.2.1 q.2.2.1 q.2.2.2
abbrev u5 {α0 α1 α2 α3 α4 γ:Type _} (f:α0→α1→α2→α3→α4→γ) (q:α0×α1×α2×α3×α4):γ:=f q.1 q.2.1 q.2.2.1 q.2.2.2.1 q.2.2.2.2
abbrev u6 {α0 α1 α2 α3 α4 α5 γ:Type _} (f:α0→α1→α2→α3→α4→α5→γ) (q:α0×α1×α2×α3×α4×α5):γ:=f q.1 q.2.1 q.2.2.1 q.2.2.2.1 q.2.2.2.2.1 q.2.2.2.2.2
abbrev u7 {α0 α1 α2 α3 α4 α5 α6 γ:Type _} (f:α0→α1→α2→α3→α4→α5→α6→γ) (q:α0×α1×α2×α3×α4×α5×α6):γ:=f q.1 q.2.1 q.2.2.1 q.2.2.2.1 q.2.2.2.2.1 q.2.2.2.2.2.1 q.2.2.2.2.2.2
abbrev u10 {α0 α1 α2 α3 α4 α5 α6 α7 α8 α9 γ:Type _} (f:α0→α1→α2→α3→α4→α5→α6→α7→α8→α9→γ) (q:α0×α1×α2×α3×α4×α5×α6×α7×α8×α9):γ:=f q.1 q.2.1 q.2.2.1 q.2.2.2.1 q.2.2.2.2.1 q.2.2.2.2.2.1 q.2.2.2.2.2.2.1 q.2.2.2.2.2.2.2.1 q.2.2.2.2.2.2.2.2.1 q.2.2.2.2.2.2.2.2.2
abbrev u11 {α0 α1 α2 α3 α4 α5 α6 α7 α8 α9 α10 γ:Type _} (f:α0→α1→α2→α3→α4→α5→α6→α7→α8→α9→α10→γ) (q:α0×α1×α2×α3×α4×α5×α6×α7×α8×α9×α10):γ:=f q.1 q.2.1 q.2.2.1 q.2.2.2.1 q.2.2.2.2.1 q.2.2.2.2.2.1 q.2.2.2.2.2.2.1 q.2.2.2.2.2.2.2.1 q.2.2.2.2.2.2.2.2.1 q.2.2.2.2.2.2.2.2.2.1 q.2.2.2.2.2.2.2.2.2.2
abbrev ck (b:Bool) (A B:Prop):Prop:=(b=true→A)∧(b=false→B)
structure Ob where
 q:List Ora
 obs:List Prop
 pf:AllP obs
abbrev oN:Ob:=⟨[],[],trivial⟩
abbrev nd {p:Prop} (h:p) (o:Ob):Ob:=⟨o.q,p :: o.obs,obC h o.pf⟩
abbrev op (x:Ora) {p:Prop} (h:p) (o:Ob):Ob:=⟨x :: o.q,p :: o.obs,obC h o.pf⟩
abbrev el {l:List FV} {n:Nat} {x:FV} (h:l[n]?=some x) (o:Ob):Ob:=op (.e x) h o
abbrev ca {g:FuncId} {args outs outs':List AV} {r:AV} (h:CallE P g args outs r outs') (o:Ob):Ob:=op (.c r outs') h o
def gst {b v b' v':Bool} (h:b=v) (h':b'=v') (o:Ob):Nat→Ob
 | 1=>op (.b v) (show (b == true)=v by rw [h];cases v<;>rfl) o
 | 2=>op (.b (!v)) (show (b == false)=!v by rw [h];cases v<;>rfl) o
 | 3=>op (.b v) h o
 | 4=>op (.b v') (show (b' == true)=v' by rw [h'];cases v'<;>rfl) o
 | 5=>op (.b (!v')) (show (b' == false)=!v' by rw [h'];cases v'<;>rfl) o
 | 6=>op (.b v') h' o
 | 7=>op (.b true) (rfl:true=true) o
 | _=>op (.b false) (rfl:false=false) o
def gdg {b v b' v':Bool} (h:b=v) (h':b'=v'):Nat→Nat→Ob→Ob
 | 0,_,o=>o
 | f+1,n,o=>match Nat.beq n 0 with
   | true=>o
   | false=>gdg h h' f (n / 10) (gst h h' o (n % 10))
abbrev g2 {b v b' v':Bool} (h:b=v) (h':b'=v') (n:Nat) (o:Ob):Ob:=gdg h h' 64 n o
abbrev g1 {b v:Bool} (h:b=v) (n:Nat) (o:Ob):Ob:=gdg h h 64 n o
abbrev g0 (n:Nat) (o:Ob):Ob:=gdg (Eq.refl true) (Eq.refl true) 64 n o
abbrev xo {α:Type} [Inhabited α] (f:α→FV) {l:List α} {i:Int} {y:FV} (hy:f (l.getD i.toNat default)=y) (h0:0≤i) (h:i < l.length) (o:Ob):Ob:=nd h0 (el (zcV f l i y hy h0 h) o)
abbrev apo {α:Type} (f:α→FV) (l:List α) {k s:Nat} (h:(l.length+k) * s≤2 ^ 47) (o:Ob):Ob:=
 nd (show 0=0∧(List.map f l).length=(List.map f l).length from ⟨rfl,rfl⟩) (nd (show ((List.map f l).length+k) * s≤2 ^ 47 by rw [List.length_map];exact h) (nd (rfl:true=true) o))
section
variable {c : Cfg} {G G' : Sta} {K : Ex → Sta → Prop} {x : Code}
theorem sO (o:Ob) (dr:List Nat) (ch:Sta) (hk:Sem P c (sq2 x) (edt dr ch G) K) (hc:COk P c:=by assumption) (e:x=.seq (sq1 x) (sq2 x):=by kernel_rfl)
 (h:evReg P c (sq1 x) o.q [] (keysOf (edt dr ch G)) G=some (o.obs,edt dr ch G):=by kernel_rfl):Sem P c x G K:=Sem.seqR hc e h o.pf hk
theorem rO (o:Ob) (dr:List Nat) (ch:Sta) (hk:K .normal (edt dr ch G)) (hc:COk P c:=by assumption)
 (h:evReg P c x o.q [] (keysOf (edt dr ch G)) G=some (o.obs,edt dr ch G):=by kernel_rfl):Sem P c x G K:=Sem.region hc h o.pf hk
theorem cH (t:Nat) {b:Bool} {A B:Prop} (h:(b=true→A)∧(b=false→B)) (h1:b=true→A→Sem P c (sq1 x) G K) (h2:b=false→B→Sem P c (sq2 x) G K) (e:x=.cond (.tmp t) (sq1 x) (sq2 x):=by kernel_rfl)
 (hg:get G (tb t)=some (.f (.pv (.bool b))):=by kernel_rfl):Sem P c x G K:=Sem.cond' e hg (fun q=>h1 q (h.1 q)) fun q=>h2 q (h.2 q)
theorem endQ {nt:Nat} {rs:List ResultVar} {n:Nat} (fz:List (Nat×Nat)) {r:AV} {l:List AV} (h:evEnd P c rs n (Ev.frzs fz G)=some (r,l):=by kernel_rfl) :
 (∃ G',Wk P nt G G'∧endK (CallE P) c rs n (fun r' o'=>r'=r∧o'=l) .ret G')∧(∃ G',Wk P nt G G'∧endK (CallE P) c rs n (fun r' o'=>r'=r∧o'=l) .normal G'):=
 ⟨⟨_,Wk.frzs,(zcE h ⟨rfl,rfl⟩).1⟩,⟨_,Wk.frzs,(zcE h ⟨rfl,rfl⟩).2⟩⟩
theorem loE {σ:Type} (dr:List Nat) (ch:σ→Sta) (Inv:σ→Prop) (μ:σ→Nat) (s0:σ) (fz:List (Nat×Nat)) (hI:Inv s0)
 (step:∀ s,Inv s→Sem P c (sq1 x) (edt dr (ch s) G) (seqK K fun G'=>∃ s',Wk P c.nt G' (edt dr (ch s') G)∧Inv s'∧μ s' < μ s)) (e:x=.loop (sq1 x):=by kernel_rfl)
 (h0:Ev.tidy fz (keysOf (edt dr (ch s0) G)) G=edt dr (ch s0) G:=by kernel_rfl):Sem P c x G K:=Sem.loop' e (fun s=>edt dr (ch s) G) Inv μ s0 (Wk.eq h0) hI step
theorem sjE {σ:Type} (J:σ→Prop) (dr:List Nat) (ch:σ→Sta) (h2:∀ s,J s→Sem P c (sq2 x) (edt dr (ch s) G) K)
 (h1:Sem P c (sq1 x) G (seqK K fun G'=>∃ s,Wk P c.nt G' (edt dr (ch s) G)∧J s)) (e:x=.seq (sq1 x) (sq2 x):=by kernel_rfl):Sem P c x G K:=Sem.seqJ J (fun s=>edt dr (ch s) G) e h2 h1
end
end Go.Ev
namespace Go.Ev
open Go
section
variable {P : Program} {c : Cfg} {G : Sta} {K : Ex → Sta → Prop} {x : Code}
theorem sV {α:Type} (o:Ob) (dr:List Nat) (a b:α) (ch:α→Sta) (hk:Sem P c (sq2 x) (edt dr (ch b) G) K) (e':a=b:=by first | rfl | (simp only [nm,enq];done) | (simp only [n0];first | done | simp only [nm,enq])) (hc:COk P c:=by assumption) (e:x=.seq (sq1 x) (sq2 x):=by kernel_rfl)
 (h:evReg P c (sq1 x) o.q [] (keysOf (edt dr (ch a) G)) G=some (o.obs,edt dr (ch a) G):=by kernel_rfl):Sem P c x G K:=by subst e';exact Sem.seqR hc e h o.pf hk
theorem rV {α:Type} (o:Ob) (dr:List Nat) (a b:α) (ch:α→Sta) (hk:K .normal (edt dr (ch b) G)) (e':a=b:=by first | rfl | (simp only [nm,enq];done) | (simp only [n0];first | done | simp only [nm,enq])) (hc:COk P c:=by assumption)
 (h:evReg P c x o.q [] (keysOf (edt dr (ch a) G)) G=some (o.obs,edt dr (ch a) G):=by kernel_rfl):Sem P c x G K:=by subst e';exact Sem.region hc h o.pf hk
theorem sOE (o:Ob) (dr:List Nat) (ch ch':Sta) (hk:Sem P c (sq2 x) (edt dr ch' G) K) (e':ch=ch':=by first | rfl | (simp only [nm,enq];done) | (simp only [n0];first | done | simp only [nm,enq])) (hc:COk P c:=by assumption) (e:x=.seq (sq1 x) (sq2 x):=by kernel_rfl)
 (h:evReg P c (sq1 x) o.q [] (keysOf (edt dr ch G)) G=some (o.obs,edt dr ch G):=by kernel_rfl):Sem P c x G K:=sV o dr ch ch' (fun s=>s) hk e' hc e h
theorem rOE (o:Ob) (dr:List Nat) (ch ch':Sta) (hk:K .normal (edt dr ch' G)) (e':ch=ch':=by first | rfl | (simp only [nm,enq];done) | (simp only [n0];first | done | simp only [nm,enq])) (hc:COk P c:=by assumption)
 (h:evReg P c x o.q [] (keysOf (edt dr ch G)) G=some (o.obs,edt dr ch G):=by kernel_rfl):Sem P c x G K:=rV o dr ch ch' (fun s=>s) hk e' hc h
end
end Go.Ev
namespace Go.Ev
open Go Go.Proofs
set_option maxRecDepth 8000
set_option maxHeartbeats 1000000
theorem W_set_Has (s0:za) (b:Int) (res:Bool)
 (h:(ck (decide (b≥0)) (ck (decide (b < 256)) ((w64 (Int.tdiv b 64)=0∨w64 (Int.tdiv b 64)=1∨w64 (Int.tdiv b 64)=2∨w64 (Int.tdiv b 64)=3)∧((decide (w64 (Int.tdiv b 64)=0))=true→((decide (b≥0))=true→((decide (b < 256))=true→((decide (w64 (Int.tdiv b 64)=0))=true→(0≤Int.tmod b 64))))∧(res=(IntKind.wrap IntKind.u64 (↑(BitVec.toNat (BitVec.ofInt (IntKind.bits IntKind.u64) s0.e0 &&& BitVec.ofInt (IntKind.bits IntKind.u64) (IntKind.wrap IntKind.u64 (1 * 2 ^ Min.min (Int.toNat (Int.tmod b 64)) (IntKind.bits IntKind.u64))))):Int) != 0)))∧((decide (w64 (Int.tdiv b 64)=1))=true→((decide (b≥0))=true→((decide (b < 256))=true→((decide (w64 (Int.tdiv b 64)=1))=true→(0≤Int.tmod b 64))))∧(res=(IntKind.wrap IntKind.u64 (↑(BitVec.toNat (BitVec.ofInt (IntKind.bits IntKind.u64) s0.e1 &&& BitVec.ofInt (IntKind.bits IntKind.u64) (IntKind.wrap IntKind.u64 (1 * 2 ^ Min.min (Int.toNat (Int.tmod b 64)) (IntKind.bits IntKind.u64))))):Int) != 0)))∧((decide (w64 (Int.tdiv b 64)=2))=true→((decide (b≥0))=true→((decide (b < 256))=true→((decide (w64 (Int.tdiv b 64)=2))=true→(0≤Int.tmod b 64))))∧(res=(IntKind.wrap IntKind.u64 (↑(BitVec.toNat (BitVec.ofInt (IntKind.bits IntKind.u64) s0.e2 &&& BitVec.ofInt (IntKind.bits IntKind.u64) (IntKind.wrap IntKind.u64 (1 * 2 ^ Min.min (Int.toNat (Int.tmod b 64)) (IntKind.bits IntKind.u64))))):Int) != 0)))∧((decide (w64 (Int.tdiv b 64)=3))=true→((decide (b≥0))=true→((decide (b < 256))=true→((decide (w64 (Int.tdiv b 64)=3))=true→(0≤Int.tmod b 64))))∧(res=(IntKind.wrap IntKind.u64 (↑(BitVec.toNat (BitVec.ofInt (IntKind.bits IntKind.u64) s0.e3 &&& BitVec.ofInt (IntKind.bits IntKind.u64) (IntKind.wrap IntKind.u64 (1 * 2 ^ Min.min (Int.toNat (Int.tmod b 64)) (IntKind.bits IntKind.u64))))):Int) != 0)))) (res=false)) (res=false))):zeg s0 b res:=by
 unfold zeg;have kk:=cfOk [] 22;refine fD (x:=bodyOf Tryz.f93) kk Tryz.func93 ?_;refine wkS [1,4] [(1,zy s0),(4,vi b)] (by kernel_rfl) ?_;refine sO oN [1] [(7,.ptr 14 0),(14,zy s0)] ?_;rcases eft (decide (b≥0)) with d | d
 ·have h:=h.1 d;rcases eft (decide (b < 256)) with a | a
  ·have h:=h.1 a;obtain ⟨e,h⟩:=h;rcases e with c | c | c | c
   ·have c:=decide_eq_true c;have h:=h.1 c;obtain ⟨h3,h⟩:=h;refine sO (g2 a d 44611 (nd (show (64:Int)≠(0:Int) from by first | decide | rfl | trivial) (g1 a 1 (op (.n 0) (of_decide_eq_true c) (g1 a 111 (nd (show (64:Int)≠(0:Int) from by first | decide | rfl | trivial) (g1 a 1 (nd (((h3 d) a) c) (g1 a 113 oN))))))))) [4,7,14] [(13,vB (IntKind.wrap IntKind.u64 (↑(BitVec.toNat (BitVec.ofInt (IntKind.bits IntKind.u64) s0.e0 &&& BitVec.ofInt (IntKind.bits IntKind.u64) (IntKind.wrap IntKind.u64 (1 * 2 ^ Min.min (Int.toNat (Int.tmod b 64)) (IntKind.bits IntKind.u64))))):Int) != 0))] ?_;refine tD ?_;subst h;exact (endQ []).1
   ·have c:=decide_eq_true c;have h:=h.2.1 c;obtain ⟨h4,h⟩:=h;refine sO (g2 a d 44611 (nd (show (64:Int)≠(0:Int) from by first | decide | rfl | trivial) (g1 a 1 (op (.n 1) (of_decide_eq_true c) (g1 a 111 (nd (show (64:Int)≠(0:Int) from by first | decide | rfl | trivial) (g1 a 1 (nd (((h4 d) a) c) (g1 a 113 oN))))))))) [4,7,14] [(13,vB (IntKind.wrap IntKind.u64 (↑(BitVec.toNat (BitVec.ofInt (IntKind.bits IntKind.u64) s0.e1 &&& BitVec.ofInt (IntKind.bits IntKind.u64) (IntKind.wrap IntKind.u64 (1 * 2 ^ Min.min (Int.toNat (Int.tmod b 64)) (IntKind.bits IntKind.u64))))):Int) != 0))] ?_;refine tD ?_;subst h;exact (endQ []).1
   ·have c:=decide_eq_true c;have h:=h.2.2.1 c;obtain ⟨h5,h⟩:=h;refine sO (g2 a d 44611 (nd (show (64:Int)≠(0:Int) from by first | decide | rfl | trivial) (g1 a 1 (op (.n 2) (of_decide_eq_true c) (g1 a 111 (nd (show (64:Int)≠(0:Int) from by first | decide | rfl | trivial) (g1 a 1 (nd (((h5 d) a) c) (g1 a 113 oN))))))))) [4,7,14] [(13,vB (IntKind.wrap IntKind.u64 (↑(BitVec.toNat (BitVec.ofInt (IntKind.bits IntKind.u64) s0.e2 &&& BitVec.ofInt (IntKind.bits IntKind.u64) (IntKind.wrap IntKind.u64 (1 * 2 ^ Min.min (Int.toNat (Int.tmod b 64)) (IntKind.bits IntKind.u64))))):Int) != 0))] ?_;refine tD ?_;subst h;exact (endQ []).1
   ·have c:=decide_eq_true c;have h:=h.2.2.2 c;obtain ⟨h6,h⟩:=h;refine sO (g2 a d 44611 (nd (show (64:Int)≠(0:Int) from by first | decide | rfl | trivial) (g1 a 1 (op (.n 3) (of_decide_eq_true c) (g1 a 111 (nd (show (64:Int)≠(0:Int) from by first | decide | rfl | trivial) (g1 a 1 (nd (((h6 d) a) c) (g1 a 113 oN))))))))) [4,7,14] [(13,vB (IntKind.wrap IntKind.u64 (↑(BitVec.toNat (BitVec.ofInt (IntKind.bits IntKind.u64) s0.e3 &&& BitVec.ofInt (IntKind.bits IntKind.u64) (IntKind.wrap IntKind.u64 (1 * 2 ^ Min.min (Int.toNat (Int.tmod b 64)) (IntKind.bits IntKind.u64))))):Int) != 0))] ?_;refine tD ?_;subst h;exact (endQ []).1
  ·have h:=h.2 a;refine sO (g2 a d 4461111111113 oN) [4,7,14] [(13,vB false)] ?_;refine tD ?_;subst h;exact (endQ []).1
 ·have h:=h.2 d;refine sO (g1 d 1138888888888 oN) [4,7,14] [(13,vB false)] ?_;refine tD ?_;subst h;exact (endQ []).1
theorem zgd (r0:zaU) (d:Int) (res:Bool)
 (h:(∃ (f:Int→Prop) (k:Int→Nat),f 0∧(∀ (a:Int),f a→(ck (decide (a < (↑(List.length r0.Conds):Int))) ((0≤a)∧a < ↑(List.length r0.Conds)∧((decide (gd r0.Conds a < 0))=false→((decide (gd r0.Conds a≥d))=false→((decide (a > 0))=true→(0≤w64 (a - 1)))))∧((decide (gd r0.Conds a < 0))=false→((decide (gd r0.Conds a≥d))=false→((decide (a > 0))=true→w64 (a - 1) < ↑(List.length r0.Conds))))∧(ck (decide (gd r0.Conds a < 0) || (decide (gd r0.Conds a≥d) || decide (a > 0) && decide (gd r0.Conds a≤gd r0.Conds (w64 (a - 1))))) (res=false) (f (w64 (a+1))∧k (w64 (a+1)) < k a))) (res=(!r0.All || (↑(List.length r0.Conds):Int) == 0)))))):zbP r0 d res:=by
 unfold zbP;have kk:=cfOk [] 46;refine fD (x:=bodyOf Tryz.f77) kk Tryz.func77 ?_;refine wkS [1,4] [(1,zaZ r0),(4,vi d)] (by kernel_rfl) ?_;refine sO oN [1] [(7,.ptr 14 0),(14,zaZ r0)] ?_;refine qD ?_;refine sV oN [] (List.length (List.map zb r0.Conds)) (List.length r0.Conds) (fun q=>[(25,vL zb r0.Conds),(28,vi ((↑(q):Int))),(31,vi 0)]) ?_;refine bD (id:=0) ?_;obtain ⟨f,k,l,m⟩:=h;refine loE [] (fun a=>[(31,vi a)]) f k 0 [] l ?_;rintro a hi;have h:=m a hi;refine sO oN [] [(34,vB (decide (a < (↑(List.length r0.Conds):Int))))] ?_;refine qD ?_;refine cH 11 h (fun o h=>?_) (fun o h=>?_)
 ·refine kD ?_;show Sem _ _ _ _ _;refine wkD [34] ?_;refine qD ?_;refine bD (id:=1) ?_;obtain ⟨r,h⟩:=h;obtain ⟨p,h⟩:=h;refine sO (xo zb rfl r p oN) [] [(16,vi a),(19,vi (gd r0.Conds a))] ?_;obtain ⟨s,t,h⟩:=h;refine sM [16,19] [(106,vB (decide (gd r0.Conds a < 0) || (decide (gd r0.Conds a≥d) || decide (a > 0) && decide (gd r0.Conds a≤gd r0.Conds (w64 (a - 1))))))] ?_ (fun j=>?_)
  ·refine cH 35 h (fun n h=>?_) (fun n h=>?_)
   ·refine sO oN [4,7,14,25,28,31,106] [(13,vB false)] ?_;refine tD ?_;subst h;exact (endQ []).1
   ·refine kD ?_;show Sem _ _ _ _ _;refine wkD [106] ?_;refine rO oN [] [(31,vi (w64 (a+1)))] ?_;exact lD (w64 (a+1)) [] h
  ·rcases eft (decide (gd r0.Conds a < 0)) with b | b
   ·refine sO (g1 b 222388887 oN) [16,19] [(106,vB true)] ?_;exact Sem.cast (by try rw [b];kernel_rfl) j
   ·rcases eft (decide (gd r0.Conds a≥d)) with c | c
    ·refine sO (g2 c b 555622223 oN) [16,19] [(106,vB true)] ?_;exact Sem.cast (by try rw [b];try rw [c];kernel_rfl) j
    ·rcases eft (decide (a > 0)) with e | e
     ·refine sO (g1 b 2223 (g2 e c 555111111 (xo zb rfl (((s b) c) e) (((t b) c) e) (g2 c e 44263 oN)))) [16,19] [(106,vB (decide (gd r0.Conds a≤gd r0.Conds (w64 (a - 1)))))] ?_;exact Sem.cast (by try rw [b];try rw [c];try rw [e];kernel_rfl) j
     ·refine sO (g1 b 2223 (g2 c e 22244444444263 oN)) [16,19] [(106,vB false)] ?_;exact Sem.cast (by try rw [b];try rw [c];try rw [e];kernel_rfl) j
 ·refine xD (i:=0) ?_;show Sem _ _ _ _ _;refine wkD [4,25,28,31,34] ?_;refine sM [7,14] [(13,vB (!r0.All || (↑(List.length r0.Conds):Int) == 0))] ?_ (fun j=>?_)
  ·refine tD ?_;subst h;exact (endQ []).1
  ·rcases eft (!r0.All) with g | g
   ·refine sO (g1 g 22223 oN) [7,14] [(13,vB true)] ?_;exact Sem.cast (by try rw [g];kernel_rfl) j
   ·refine sV (g1 g 22223 oN) [7,14] (List.length (List.map zb r0.Conds)) (List.length r0.Conds) (fun q=>[(13,vB ((↑(q):Int) == 0))]) ?_;exact Sem.cast (by try rw [g];kernel_rfl) j
theorem zgL (r0:zaU) (a:Int) (res:Bool)
 (h:(ck (r0.Act == 3) (res=(decide (r0.To≥0) && decide (r0.To < a))) (res=(bif r0.Act == 1 then r0.To == 0 else r0.Act == 2 && r0.To == 0)))):zbV r0 a res:=by
 unfold zbV;have kk:=cfOk [] 30;refine fD (x:=bodyOf Tryz.f78) kk Tryz.func78 ?_;refine wkS [1,4] [(1,zaZ r0),(4,vi a)] (by kernel_rfl) ?_;refine sO oN [1] [(7,.ptr 14 0),(14,zaZ r0)] ?_;refine qD ?_;refine sO oN [] [(22,vB (r0.Act == 3))] ?_;refine cH 7 h (fun f h=>?_) (fun f h=>?_)
 ·refine sM [4,7,14,22] [(13,vB (decide (r0.To≥0) && decide (r0.To < a)))] ?_ (fun c=>?_)
  ·refine tD ?_;subst h;exact (endQ []).1
  ·rcases eft (decide (r0.To≥0)) with e | e
   ·refine sO (g1 e 11113 oN) [4,7,14,22] [(13,vB (decide (r0.To < a)))] ?_;exact Sem.cast (by try rw [e];kernel_rfl) c
   ·refine sO (g1 e 11113 oN) [4,7,14,22] [(13,vB false)] ?_;exact Sem.cast (by try rw [e];kernel_rfl) c
 ·refine kD ?_;show Sem _ _ _ _ _;refine wkD [4,22] ?_;refine sM [7,14] [(13,vB (bif r0.Act == 1 then r0.To == 0 else r0.Act == 2 && r0.To == 0))] ?_ (fun c=>?_)
  ·refine tD ?_;subst h;exact (endQ []).1
  ·rcases eft (r0.Act == 1) with b | b
   ·refine sO (g1 b 22237777 oN) [7,14] [(13,vB (r0.To == 0))] ?_;exact Sem.cast (by try rw [b];kernel_rfl) c
   ·rcases eft (r0.Act == 2) with d | d
    ·refine sO (g2 d b 55561113 oN) [7,14] [(13,vB (r0.To == 0))] ?_;exact Sem.cast (by try rw [b];try rw [d];kernel_rfl) c
    ·refine sO (g2 d b 55561113 oN) [7,14] [(13,vB false)] ?_;exact Sem.cast (by try rw [b];try rw [d];kernel_rfl) c
theorem W_spec_none (x:zj) (res:Bool)
 (h:(res=(x.Kind == 0 && (za.e0 x.Set == 0 && (za.e1 x.Set == 0 && (za.e2 x.Set == 0 && (za.e3 x.Set == 0 && true))) && (x.Lo == 0 && (x.Hi == 0 && (↑(List.length x.Kids):Int) == 0)))))):zcj x res:=by
 unfold zcj;have kk:=cfOk [] 28;refine fD (x:=bodyOf Tryz.f113) kk Tryz.func113 ?_;refine wkS [1] [(1,zu x)] (by kernel_rfl) ?_;refine sO oN [1] [(4,.ptr 8 0),(8,zu x)] ?_;refine sM [4,8] [(7,vB (x.Kind == 0 && (za.e0 x.Set == 0 && (za.e1 x.Set == 0 && (za.e2 x.Set == 0 && (za.e3 x.Set == 0 && true))) && (x.Lo == 0 && (x.Hi == 0 && (↑(List.length x.Kids):Int) == 0)))))] ?_ (fun d=>?_)
 ·refine tD ?_;subst h;exact (endQ []).1
 ·rcases eft (x.Kind == 0) with a | a
  ·rcases eft (za.e0 x.Set == 0 && (za.e1 x.Set == 0 && (za.e2 x.Set == 0 && (za.e3 x.Set == 0 && true)))) with b | b
   ·rcases eft (x.Lo == 0) with c | c
    ·rcases eft (x.Hi == 0) with e | e
     ·refine sV (g2 b a 444461113 (g2 e c 444611113 oN)) [4,8] (List.length (List.map zc x.Kids)) (List.length x.Kids) (fun q=>[(7,vB ((↑(q):Int) == 0))]) ?_;exact Sem.cast (by try rw [a];try rw [b];try rw [c];try rw [e];kernel_rfl) d
     ·refine sO (g2 b a 444461113 (g2 e c 444611113 oN)) [4,8] [(7,vB false)] ?_;exact Sem.cast (by try rw [a];try rw [b];try rw [c];try rw [e];kernel_rfl) d
    ·refine sO (g1 a 11113 (g2 c b 4446111388888 oN)) [4,8] [(7,vB false)] ?_;exact Sem.cast (by try rw [a];try rw [b];try rw [c];kernel_rfl) d
   ·refine sO (g2 b a 444461113888888888 oN) [4,8] [(7,vB false)] ?_;exact Sem.cast (by try rw [a];try rw [b];kernel_rfl) d
  ·refine sO (g1 a 111138888888888888 oN) [4,8] [(7,vB false)] ?_;exact Sem.cast (by try rw [a];kernel_rfl) d
theorem zfH (x:zL) (res:Bool)
 (h:(ck (decide (x.Lo < 0) || decide (x.Lo > 20)) (res=false) (res=(x.Hi == (-1:Int) || decide (x.Hi≥if x.Lo > 1 then x.Lo else 1) && decide (x.Hi≤20))))):zbA x res:=by
 unfold zbA;have kk:=cfOk [] 27;refine fD (x:=bodyOf Tryz.f140) kk Tryz.func140 ?_;refine wkS [1] [(1,zN x)] (by kernel_rfl) ?_;refine sO oN [1] [(4,.ptr 8 0),(8,zN x)] ?_;refine qD ?_;refine sM [] [(31,vB (decide (x.Lo < 0) || decide (x.Lo > 20)))] ?_ (fun b=>?_)
 ·refine cH 10 h (fun e h=>?_) (fun e h=>?_)
  ·refine sO oN [4,8,31] [(7,vB false)] ?_;refine tD ?_;subst h;exact (endQ []).1
  ·refine kD ?_;show Sem _ _ _ _ _;refine wkD [31] ?_;refine sM [4,8] [(7,vB (x.Hi == (-1:Int) || decide (x.Hi≥if true=true then if x.Lo > 1 then x.Lo else 1 else if x.Lo < 1 then x.Lo else 1) && decide (x.Hi≤20)))] ?_ (fun b=>?_)
   ·refine tD ?_;subst h;exact (endQ []).1
   ·rcases eft (x.Hi == (-1:Int)) with a | a
    ·refine sO (g1 a 222222223 oN) [4,8] [(7,vB true)] ?_;exact Sem.cast (by try rw [a];kernel_rfl) b
    ·rcases eft (decide (x.Hi≥if true=true then if x.Lo > 1 then x.Lo else 1 else if x.Lo < 1 then x.Lo else 1)) with d | d
     ·refine sO (g2 a d 2222222444263 oN) [4,8] [(7,vB (decide (x.Hi≤20)))] ?_;exact Sem.cast (by try rw [a];try rw [d];kernel_rfl) b
     ·refine sO (g2 a d 2222222444263 oN) [4,8] [(7,vB false)] ?_;exact Sem.cast (by try rw [a];try rw [d];kernel_rfl) b
 ·rcases eft (decide (x.Lo < 0)) with c | c
  ·refine sO (g1 c 2223 oN) [] [(31,vB true)] ?_;exact Sem.cast (by try rw [c];kernel_rfl) b
  ·refine sO (g1 c 2223 oN) [] [(31,vB (decide (x.Lo > 20)))] ?_;exact Sem.cast (by try rw [c];kernel_rfl) b
theorem zgM (x:zL) (res:Bool)
 (h:(∃ p:Int→Prop,(∀ (b:Int),p b→(res=((!(za.e0 x.Set == 0 && (za.e1 x.Set == 0 && (za.e2 x.Set == 0 && (za.e3 x.Set == 0 && true))))) == (x.Kind == 2) && (x.Lo == 0 && (x.Hi == 0 && (decide (b≥2) && (!decide (x.Kind < 3) || b == 2)))))))∧(ck (x.Kind == 5) (ck (!!(za.e0 x.Set == 0 && (za.e1 x.Set == 0 && (za.e2 x.Set == 0 && (za.e3 x.Set == 0 && true))))) (ck ((↑(List.length x.Kids):Int) == 1) (∃ m:Bool,zbA x m∧(res=m)) (res=false)) (res=false)) (∃ o:Bool→Prop,(∀ (f:Bool),o f→(ck (f) (p (w64 ((↑(List.length x.Kids):Int)+2))) (∃ r:Bool→Prop,(∀ (e:Bool),r e→(ck (e) (p ((↑(List.length x.Kids):Int))) (res=false)))∧(ck (x.Kind == 3) (r (x.Kind == 3)) (r (x.Kind == 4))))))∧(ck (x.Kind == 1) (o (x.Kind == 1)) (o (x.Kind == 2))))))):zbW x res:=by
 unfold zbW;have kk:=cfOk [] 65;refine fD (x:=bodyOf Tryz.f123) kk Tryz.func123 ?_;refine wkS [1] [(1,zN x)] (by kernel_rfl) ?_;refine sO oN [1] [(4,.ptr 8 0),(8,zN x)] ?_;refine sV oN [] (List.length (List.map zc x.Kids)) (List.length x.Kids) (fun q=>[(10,vB (!(za.e0 x.Set == 0 && (za.e1 x.Set == 0 && (za.e2 x.Set == 0 && (za.e3 x.Set == 0 && true)))))),(13,vi ((↑(q):Int)))]) ?_;refine qD ?_;refine sO oN [] [(43,vi x.Kind)] ?_;refine bD (id:=0) ?_;obtain ⟨p,t,h⟩:=h;refine sjE p [43] (fun b=>[(13,vi b)]) ?_ ?_
 ·rintro b hj;have h:=t b hj;refine qD ?_;refine sO oN [] [(16,vB (decide (x.Kind < 3)))] ?_;refine sM [4,8,10,13,16] [(7,vB ((!(za.e0 x.Set == 0 && (za.e1 x.Set == 0 && (za.e2 x.Set == 0 && (za.e3 x.Set == 0 && true))))) == (x.Kind == 2) && (x.Lo == 0 && (x.Hi == 0 && (decide (b≥2) && (!decide (x.Kind < 3) || b == 2))))))] ?_ (fun n=>?_)
  ·refine tD ?_;subst h;exact (endQ []).1
  ·rcases eft ((!(za.e0 x.Set == 0 && (za.e1 x.Set == 0 && (za.e2 x.Set == 0 && (za.e3 x.Set == 0 && true))))) == (x.Kind == 2)) with a | a
   ·rcases eft (x.Lo == 0) with c | c
    ·rcases eft (x.Hi == 0) with d | d
     ·rcases eft (decide (b≥2)) with g | g
      ·rcases eft (!decide (x.Kind < 3)) with l | l
       ·refine sO (g1 a 1113 (g2 d c 4446113 (g2 g l 11155163 oN))) [4,8,10,13,16] [(7,vB true)] ?_;exact Sem.cast (by try rw [a];try rw [c];try rw [d];try rw [g];try rw [l];kernel_rfl) n
       ·refine sO (g1 a 1113 (g2 d c 4446113 (g2 g l 11155163 oN))) [4,8,10,13,16] [(7,vB (b == 2))] ?_;exact Sem.cast (by try rw [a];try rw [c];try rw [d];try rw [g];try rw [l];kernel_rfl) n
      ·refine sO (g2 c a 44461113 (g2 g d 44611113 oN)) [4,8,10,13,16] [(7,vB false)] ?_;exact Sem.cast (by try rw [a];try rw [c];try rw [d];try rw [g];kernel_rfl) n
     ·refine sO (g1 a 1113 (g2 d c 444611388888 oN)) [4,8,10,13,16] [(7,vB false)] ?_;exact Sem.cast (by try rw [a];try rw [c];try rw [d];kernel_rfl) n
    ·refine sO (g2 c a 4446111388888888 oN) [4,8,10,13,16] [(7,vB false)] ?_;exact Sem.cast (by try rw [a];try rw [c];kernel_rfl) n
   ·refine sO (g1 a 1113888888888888 oN) [4,8,10,13,16] [(7,vB false)] ?_;exact Sem.cast (by try rw [a];kernel_rfl) n
 ·refine bD (id:=3) ?_;refine qD ?_;refine bD (id:=2) ?_;refine qD ?_;refine bD (id:=1) ?_;refine qD ?_;refine qD ?_;refine sO oN [] [(46,vB (x.Kind == 5))] ?_;refine cH 15 h (fun A h=>?_) (fun A h=>?_)
  ·refine xD (i:=1) ?_;show Sem _ _ _ _ _;refine wkD [43,46] ?_;refine qD ?_;rcases eft (!!(za.e0 x.Set == 0 && (za.e1 x.Set == 0 && (za.e2 x.Set == 0 && (za.e3 x.Set == 0 && true))))) with k | k
   ·have h:=h.1 k;rcases eft ((↑(List.length x.Kids):Int) == 1) with j | j
    ·have h:=h.1 j;obtain ⟨m,w,h⟩:=h;refine sO (g2 j k 44611 (ca w (g1 j 3 oN))) [4,8,10,13] [(7,vB m)] ?_;refine tD ?_;subst h;exact (endQ []).1
    ·have h:=h.2 j;refine sO (g2 j k 446113 oN) [4,8,10,13] [(7,vB false)] ?_;refine tD ?_;subst h;exact (endQ []).1
   ·have h:=h.2 k;refine sO (g1 k 113888 oN) [4,8,10,13] [(7,vB false)] ?_;refine tD ?_;subst h;exact (endQ []).1
  ·refine kD ?_;show Sem _ _ _ _ _;refine wkD [46] ?_;refine qD ?_;obtain ⟨o,v,h⟩:=h;refine sjE o [] (fun f=>[(52,vB f)]) ?_ ?_
   ·rintro f hj;have h:=v f hj;refine cH 17 h (fun s h=>?_) (fun s h=>?_)
    ·refine xD (i:=2) ?_;show Sem _ _ _ _ _;refine wkD [43,52] ?_;refine rO oN [] [(13,vi (w64 ((↑(List.length x.Kids):Int)+2)))] ?_;exact jD (w64 ((↑(List.length x.Kids):Int)+2)) [] h
    ·refine kD ?_;show Sem _ _ _ _ _;refine wkD [52] ?_;obtain ⟨r,B,h⟩:=h;refine sjE r [43] (fun e=>[(61,vB e)]) ?_ ?_
     ·rintro e hj;have h:=B e hj;refine cH 20 h (fun D h=>?_) (fun D h=>?_)
      ·refine xD (i:=3) ?_;exact jD ((↑(List.length x.Kids):Int)) [] h
      ·refine kD ?_;show Sem _ _ _ _ _;refine wkD [4,8,10,13,61] ?_;refine xD (i:=0) ?_;show Sem _ _ _ _ _;refine sO oN [] [(7,vB false)] ?_;refine tD ?_;subst h;exact (endQ []).1
     ·refine sO oN [] [(61,vB (x.Kind == 3))] ?_;refine cH 20 h (fun u h=>?_) (fun u h=>?_)
      ·refine kD ?_;exact jD (x.Kind == 3) [] h
      ·refine rO oN [43] [(61,vB (x.Kind == 4))] ?_;exact jD (x.Kind == 4) [] h
   ·refine sO oN [] [(52,vB (x.Kind == 1))] ?_;refine cH 17 h (fun y h=>?_) (fun y h=>?_)
    ·refine kD ?_;exact jD (x.Kind == 1) [] h
    ·refine rO oN [] [(52,vB (x.Kind == 2))] ?_;exact jD (x.Kind == 2) [] h
theorem zec (k:zj) (v:zL) (a:Int) (res:Bool) (fin:zL) (fin_1:Int)
 (h:(ck (k.Kind == v.Kind) (ck (v.Kind != 5) (res=true∧fin=v∧fin_1=a) (∃ r0:Bool,zav ({ Kind:=k.Kind,Set:=k.Set,Lo:=k.Lo,Hi:=k.Hi,Kids:=k.Kids }) (w64 (a - 1)) r0∧(res=(!r0)∧fin=v∧fin_1=a))) (∃ b:Bool,zav ({ Kind:=k.Kind,Set:=k.Set,Lo:=k.Lo,Hi:=k.Hi,Kids:=k.Kids }) (w64 (a - 1)) b∧(res=(!b)∧fin=v∧fin_1=a)))):za9 k v a res fin fin_1:=by
 unfold za9;have kk:=cfOk [] 22;refine fD (x:=bodyOf Tryz.f122) kk Tryz.func122 ?_;refine wkS [1,3,4,6,7] [(1,zu k),(3,zN v),(4,.ptr 3 0),(6,vi a),(7,.ptr 6 0)] (by kernel_rfl) ?_;refine sO oN [1] [(10,.ptr 20 0),(20,zu k)] ?_;rcases eft (k.Kind == v.Kind) with c | c
 ·have h:=h.1 c;rcases eft (v.Kind != 5) with d | d
  ·have h:=h.1 d;refine sO (g2 d c 4446222223 oN) [4,7,10,20] [(13,vB true)] ?_;refine tD ?_;obtain ⟨g,f,e⟩:=h;subst res fin fin_1;exact (endQ []).1
  ·have h:=h.2 d;obtain ⟨r0,i,h⟩:=h;refine sO (g2 d c 44462222 (ca i (g1 d 23 oN))) [4,7,10,20] [(13,vB (!r0))] ?_;refine tD ?_;obtain ⟨g,f,e⟩:=h;subst res fin fin_1;exact (endQ []).1
 ·have h:=h.2 c;obtain ⟨b,j,h⟩:=h;refine sO (g1 c 11137777 (ca j (g0 78 oN))) [4,7,10,20] [(13,vB (!b))] ?_;refine tD ?_;obtain ⟨g,f,e⟩:=h;subst res fin fin_1;exact (endQ []).1
theorem zad (s0:(List zj)) (cap:zL) (l:Int) (res:Int) (fin:zL) (fin_1:Int)
 (h:(∃ (m:Int→Int→Int→Int→Int→Int→Int→List zj→Int→Int→Prop) (p:Int→Int→Int→Int→Int→Int→Int→List zj→Int→Int→Nat),m cap.Kind (za.e0 cap.Set) (za.e1 cap.Set) (za.e2 cap.Set) (za.e3 cap.Set) cap.Lo cap.Hi cap.Kids l 0∧(∀ (f:Int) (a:Int) (c:Int) (b:Int) (d:Int) (j:Int) (k:Int) (g:List zj) (o1:Int) (t8:Int),m f a c b d j k g o1 t8→(ck (decide (t8 < (↑(List.length s0):Int))) ((0≤t8)∧t8 < ↑(List.length s0)∧(∃ o:Bool,∃ e:zL,∃ n:Int,za9 (gd s0 t8) ({ Kind:=f,Set:={ e0:=a,e1:=c,e2:=b,e3:=d },Lo:=j,Hi:=k,Kids:=g }) o1 o e n∧(ck (o) (res=t8∧fin=e∧fin_1=n) (m e.Kind (za.e0 e.Set) (za.e1 e.Set) (za.e2 e.Set) (za.e3 e.Set) e.Lo e.Hi e.Kids n (w64 (t8+1))∧p e.Kind (za.e0 e.Set) (za.e1 e.Set) (za.e2 e.Set) (za.e3 e.Set) e.Lo e.Hi e.Kids n (w64 (t8+1)) < p f a c b d j k g o1 t8)))) (res=(-1)∧fin=({ Kind:=f,Set:={ e0:=a,e1:=c,e2:=b,e3:=d },Lo:=j,Hi:=k,Kids:=g })∧fin_1=o1))))):zJ s0 cap l res fin fin_1:=by
 unfold zJ;have kk:=cfOk [17] 19;refine fD (x:=bodyOf Tryz.f141) kk Tryz.func141 ?_;refine wkS [1,3,4,6] [(1,vL zc s0),(3,zN cap),(4,.clo 122 [.ptr 3 0,.ptr 6 0]),(6,vi l)] (by kernel_rfl) ?_;refine sO oN [] [] ?_;refine qD ?_;refine sV oN [] (List.length (List.map zc s0)) (List.length s0) (fun q=>[(22,vi ((↑(q):Int))),(25,vi 0)]) ?_;refine bD (id:=0) ?_;obtain ⟨m,p,r,s⟩:=h;refine loE [] (u10 fun f a c b d j k g o1 t8=>[(3,.agg [vi f,vI .u64 a,vI .u64 c,vI .u64 b,vI .u64 d,vi j,vi k,vL zc g]),(6,vi o1),(25,vi t8)]) (u10 m) (u10 p) (cap.Kind,(za.e0 cap.Set),(za.e1 cap.Set),(za.e2 cap.Set),(za.e3 cap.Set),cap.Lo,cap.Hi,cap.Kids,l,0) [] r ?_;rintro ⟨f,a,c,b,d,j,k,g,o1,t8⟩ hi;have h:=s f a c b d j k g o1 t8 hi;refine sO oN [] [(28,vB (decide (t8 < (↑(List.length s0):Int))))] ?_;refine qD ?_;refine cH 9 h (fun t h=>?_) (fun t h=>?_)
 ·refine kD ?_;show Sem _ _ _ _ _;refine wkD [28] ?_;refine qD ?_;refine bD (id:=1) ?_;refine sO oN [] [(16,vi t8)] ?_;obtain ⟨y,h⟩:=h;obtain ⟨A,h⟩:=h;obtain ⟨o,e,n,v,h⟩:=h;refine sO (xo zc (zC _) y A (ca v oN)) [] [(3,zN e),(6,vi n),(49,vB o)] ?_;refine cH 16 h (fun u h=>?_) (fun u h=>?_)
  ·refine sO oN [1,4,16,22,25,49] [(13,vi t8)] ?_;refine tD ?_;obtain ⟨D,w,B⟩:=h;subst res fin fin_1;exact (endQ []).1
  ·refine kD ?_;show Sem _ _ _ _ _;refine wkD [16,49] ?_;refine rO oN [] [(25,vi (w64 (t8+1)))] ?_;exact lD (e.Kind,(za.e0 e.Set),(za.e1 e.Set),(za.e2 e.Set),(za.e3 e.Set),e.Lo,e.Hi,e.Kids,n,(w64 (t8+1))) [] h
 ·refine xD (i:=0) ?_;show Sem _ _ _ _ _;refine wkD [1,4,22,25,28] ?_;refine sO oN [] [(13,vi (-1))] ?_;refine tD ?_;obtain ⟨D,w,B⟩:=h;subst res fin fin_1;exact (endQ []).1
theorem zaB (s0:(List zj)) (cap:zL) (a:Int) (res:Bool) (fin:zL) (fin_1:Int)
 (h:(∃ r0:Int,∃ o:zL,∃ b:Int,zJ s0 cap a r0 o b∧(res=(decide (r0≥0))∧fin=o∧fin_1=b))):zF s0 cap a res fin fin_1:=by
 unfold zF;have kk:=cfOk [] 9;refine fD (x:=bodyOf Tryz.f124) kk Tryz.func124 ?_;refine wkS [1,3,4,6] [(1,vL zc s0),(3,zN cap),(4,.clo 122 [.ptr 3 0,.ptr 6 0]),(6,vi a)] (by kernel_rfl) ?_;refine sO oN [] [] ?_;obtain ⟨r0,o,b,c,h⟩:=h;refine sO (ca c oN) [1,4] [(3,zN o),(6,vi b),(13,vB (decide (r0≥0)))] ?_;refine tD ?_;obtain ⟨f,e,d⟩:=h;subst res fin fin_1;exact (endQ []).1
theorem zfI (x:zL) (a:Int) (res:Bool)
 (h:(ck (decide (a > 0)) (∃ r0:Bool,zbW x r0∧(ck (r0) (∃ c:Bool,∃ o:zL,∃ f:Int,zF x.Kids x a c o f∧(res=(!c))) (res=false))) (res=false))):zav x a res:=by
 unfold zav;have kk:=cfOk [] 20;refine fD (x:=bodyOf Tryz.f98) kk Tryz.func98 ?_;refine wkS [1,4] [(1,zN x),(4,vi a)] (by kernel_rfl) ?_;refine sO oN [1,4] [(7,.ptr 14 0),(10,.ptr 20 0),(14,zN x),(20,vi a)] ?_;refine sO oN [] [(16,.clo 122 [.ptr 14 0,.ptr 20 0])] ?_;rcases eft (decide (a > 0)) with b | b
 ·have h:=h.1 b;obtain ⟨r0,e,h⟩:=h;rcases eft (r0) with d | d
  ·have h:=h.1 d;obtain ⟨c,o,f,g,h⟩:=h;refine sO (g1 b 11 (ca e (g2 d b 61111 (ca g (g1 d 13 oN))))) [7,10,14,16,20] [(13,vB (!c))] ?_;refine tD ?_;subst h;exact (endQ []).1
  ·have h:=h.2 d;refine sO (g1 b 11 (ca e (g2 d b 6111113 oN))) [7,10,14,16,20] [(13,vB false)] ?_;refine tD ?_;subst h;exact (endQ []).1
 ·have h:=h.2 b;refine sO (g1 b 113888888 oN) [7,10,14,16,20] [(13,vB false)] ?_;refine tD ?_;subst h;exact (endQ []).1
theorem W_rx_Size (x:zj) (res:Int)
 (h:(ck (x.Kind == 2) (res=1) (ck (decide (x.Kind < 3) || decide (x.Kind > 5)) (res=0) (∃ (d:Int→Int→Prop) (e:Int→Int→Nat),d 0 0∧(∀ (n:Int) (b:Int),d n b→(ck (decide (b < (↑(List.length x.Kids):Int))) ((0≤b)∧b < ↑(List.length x.Kids)∧(∃ a:Int,zdj (gd x.Kids b) a∧(d (if false=true then if 1000000 > w64 (n+a) then 1000000 else w64 (n+a) else if 1000000 < w64 (n+a) then 1000000 else w64 (n+a)) (w64 (b+1))∧e (if false=true then if 1000000 > w64 (n+a) then 1000000 else w64 (n+a) else if 1000000 < w64 (n+a) then 1000000 else w64 (n+a)) (w64 (b+1)) < e n b))) (∃ g:Int→Prop,(∀ (c:Int),g c→(res=(if false=true then if 1000000 > c then 1000000 else c else if 1000000 < c then 1000000 else c)))∧(ck (x.Kind == 5) (g (w64 (n * if (if false=true then if (if x.Hi > x.Lo then x.Hi else x.Lo) > 1000 then if x.Hi > x.Lo then x.Hi else x.Lo else 1000 else if (if x.Hi > x.Lo then x.Hi else x.Lo) < 1000 then if x.Hi > x.Lo then x.Hi else x.Lo else 1000) > 1 then if false=true then if (if x.Hi > x.Lo then x.Hi else x.Lo) > 1000 then if x.Hi > x.Lo then x.Hi else x.Lo else 1000 else if (if x.Hi > x.Lo then x.Hi else x.Lo) < 1000 then if x.Hi > x.Lo then x.Hi else x.Lo else 1000 else 1))) (g n))))))))):zdj x res:=by
 unfold zdj;have kk:=cfOk [] 43;refine fD (x:=bodyOf Tryz.f99) kk Tryz.func99 ?_;refine wkS [1] [(1,zu x)] (by kernel_rfl) ?_;refine sO oN [1] [(4,.ptr 8 0),(7,vi 0),(8,zu x)] ?_;refine qD ?_;refine sO oN [] [(22,vB (x.Kind == 2))] ?_;refine cH 7 h (fun v h=>?_) (fun v h=>?_)
 ·refine sO oN [4,8,22] [(7,vi 1)] ?_;refine tD ?_;subst h;exact (endQ []).1
 ·refine kD ?_;show Sem _ _ _ _ _;refine wkD [22] ?_;refine qD ?_;refine sM [] [(46,vB (decide (x.Kind < 3) || decide (x.Kind > 5)))] ?_ (fun m=>?_)
  ·refine cH 15 h (fun u h=>?_) (fun u h=>?_)
   ·refine sO oN [4,8,46] [] ?_;refine tD ?_;subst h;exact (endQ []).1
   ·refine kD ?_;show Sem _ _ _ _ _;refine wkD [46] ?_;refine qD ?_;refine sV oN [] (List.length (List.map zc x.Kids)) (List.length x.Kids) (fun q=>[(52,vL zc x.Kids),(55,vi ((↑(q):Int))),(58,vi 0)]) ?_;refine bD (id:=0) ?_;obtain ⟨d,e,f,k⟩:=h;refine loE [] (u2 fun n b=>[(7,vi n),(58,vi b)]) (u2 d) (u2 e) (0,0) [] f ?_;rintro ⟨n,b⟩ hi;have h:=k n b hi;refine sO oN [] [(61,vB (decide (b < (↑(List.length x.Kids):Int))))] ?_;refine qD ?_;refine cH 20 h (fun o h=>?_) (fun o h=>?_)
    ·refine kD ?_;show Sem _ _ _ _ _;refine wkD [61] ?_;refine qD ?_;refine bD (id:=1) ?_;obtain ⟨s,h⟩:=h;obtain ⟨t,h⟩:=h;refine sO (xo zc (zC _) s t oN) [] [(13,.ptr 26 0),(26,zu (gd x.Kids b))] ?_;obtain ⟨a,l,h⟩:=h;refine rO (ca l oN) [13,26] [(7,vi (if false=true then if 1000000 > w64 (n+a) then 1000000 else w64 (n+a) else if 1000000 < w64 (n+a) then 1000000 else w64 (n+a)))] ?_;show Sem _ _ _ _ _;refine rO oN [] [(58,vi (w64 (b+1)))] ?_;exact lD ((if false=true then if 1000000 > w64 (n+a) then 1000000 else w64 (n+a) else if 1000000 < w64 (n+a) then 1000000 else w64 (n+a)),(w64 (b+1))) [] h
    ·refine xD (i:=0) ?_;show Sem _ _ _ _ _;refine wkD [52,55,58,61] ?_;obtain ⟨g,p,h⟩:=h;refine sjD g (fun c=>[(7,vi c)]) ?_ ?_
     ·rintro c hj;have h:=p c hj;refine sO oN [] [(7,vi (if false=true then if 1000000 > c then 1000000 else c else if 1000000 < c then 1000000 else c))] ?_;refine tD ?_;subst h;exact (endQ []).1
     ·refine sO oN [] [(94,vB (x.Kind == 5))] ?_;refine cH 31 h (fun r h=>?_) (fun r h=>?_)
      ·refine rOE oN [4,8,94] [(7,vi (w64 (n * if true=true then if (if false=true then if (if true=true then if x.Hi > x.Lo then x.Hi else x.Lo else if x.Hi < x.Lo then x.Hi else x.Lo) > 1000 then if true=true then if x.Hi > x.Lo then x.Hi else x.Lo else if x.Hi < x.Lo then x.Hi else x.Lo else 1000 else if (if true=true then if x.Hi > x.Lo then x.Hi else x.Lo else if x.Hi < x.Lo then x.Hi else x.Lo) < 1000 then if true=true then if x.Hi > x.Lo then x.Hi else x.Lo else if x.Hi < x.Lo then x.Hi else x.Lo else 1000) > 1 then if false=true then if (if true=true then if x.Hi > x.Lo then x.Hi else x.Lo else if x.Hi < x.Lo then x.Hi else x.Lo) > 1000 then if true=true then if x.Hi > x.Lo then x.Hi else x.Lo else if x.Hi < x.Lo then x.Hi else x.Lo else 1000 else if (if true=true then if x.Hi > x.Lo then x.Hi else x.Lo else if x.Hi < x.Lo then x.Hi else x.Lo) < 1000 then if true=true then if x.Hi > x.Lo then x.Hi else x.Lo else if x.Hi < x.Lo then x.Hi else x.Lo else 1000 else 1 else if (if false=true then if (if true=true then if x.Hi > x.Lo then x.Hi else x.Lo else if x.Hi < x.Lo then x.Hi else x.Lo) > 1000 then if true=true then if x.Hi > x.Lo then x.Hi else x.Lo else if x.Hi < x.Lo then x.Hi else x.Lo else 1000 else if (if true=true then if x.Hi > x.Lo then x.Hi else x.Lo else if x.Hi < x.Lo then x.Hi else x.Lo) < 1000 then if true=true then if x.Hi > x.Lo then x.Hi else x.Lo else if x.Hi < x.Lo then x.Hi else x.Lo else 1000) < 1 then if false=true then if (if true=true then if x.Hi > x.Lo then x.Hi else x.Lo else if x.Hi < x.Lo then x.Hi else x.Lo) > 1000 then if true=true then if x.Hi > x.Lo then x.Hi else x.Lo else if x.Hi < x.Lo then x.Hi else x.Lo else 1000 else if (if true=true then if x.Hi > x.Lo then x.Hi else x.Lo else if x.Hi < x.Lo then x.Hi else x.Lo) < 1000 then if true=true then if x.Hi > x.Lo then x.Hi else x.Lo else if x.Hi < x.Lo then x.Hi else x.Lo else 1000 else 1)))] [(7,vi (w64 (n * if (if false=true then if (if x.Hi > x.Lo then x.Hi else x.Lo) > 1000 then if x.Hi > x.Lo then x.Hi else x.Lo else 1000 else if (if x.Hi > x.Lo then x.Hi else x.Lo) < 1000 then if x.Hi > x.Lo then x.Hi else x.Lo else 1000) > 1 then if false=true then if (if x.Hi > x.Lo then x.Hi else x.Lo) > 1000 then if x.Hi > x.Lo then x.Hi else x.Lo else 1000 else if (if x.Hi > x.Lo then x.Hi else x.Lo) < 1000 then if x.Hi > x.Lo then x.Hi else x.Lo else 1000 else 1)))] ?_;exact jD (w64 (n * if (if false=true then if (if x.Hi > x.Lo then x.Hi else x.Lo) > 1000 then if x.Hi > x.Lo then x.Hi else x.Lo else 1000 else if (if x.Hi > x.Lo then x.Hi else x.Lo) < 1000 then if x.Hi > x.Lo then x.Hi else x.Lo else 1000) > 1 then if false=true then if (if x.Hi > x.Lo then x.Hi else x.Lo) > 1000 then if x.Hi > x.Lo then x.Hi else x.Lo else 1000 else if (if x.Hi > x.Lo then x.Hi else x.Lo) < 1000 then if x.Hi > x.Lo then x.Hi else x.Lo else 1000 else 1)) [] h
      ·refine kD ?_;exact jD n [] h
  ·rcases eft (decide (x.Kind < 3)) with j | j
   ·refine sO (g1 j 2223 oN) [] [(46,vB true)] ?_;exact Sem.cast (by try rw [j];kernel_rfl) m
   ·refine sO (g1 j 2223 oN) [] [(46,vB (decide (x.Kind > 5)))] ?_;exact Sem.cast (by try rw [j];kernel_rfl) m
theorem W_rx_nodes (x:zj) (f:Int) (res:Int)
 (h:(∃ (d:Int→Int→Prop) (g:Int→Int→Nat),d (w64 (f - 1)) 0∧(∀ (a:Int) (c:Int),d a c→(ck (decide (c < (↑(List.length x.Kids):Int))) (∃ j:Int→Prop,(∀ (b:Int),j b→(d b (w64 (c+1))∧g b (w64 (c+1)) < g a c))∧(0≤c)∧c < ↑(List.length x.Kids)∧(ck (decide (a≥0)) (∃ e:Int,zdi (gd x.Kids c) a e∧j e) (j a))) (res=a))))):zdi x f res:=by
 unfold zdi;have kk:=cfOk [22] 23;refine fD (x:=bodyOf Tryz.f100) kk Tryz.func100 ?_;refine wkS [1,4] [(1,zu x),(4,vi f)] (by kernel_rfl) ?_;refine sO oN [1] [(7,.ptr 14 0),(14,zu x)] ?_;refine sO oN [] [(4,vi (w64 (f - 1)))] ?_;refine qD ?_;refine sV oN [7,14] (List.length (List.map zc x.Kids)) (List.length x.Kids) (fun q=>[(31,vL zc x.Kids),(34,vi ((↑(q):Int))),(37,vi 0)]) ?_;refine bD (id:=0) ?_;obtain ⟨d,g,k,l⟩:=h;refine loE [] (u2 fun a c=>[(4,vi a),(37,vi c)]) (u2 d) (u2 g) ((w64 (f - 1)),0) [] k ?_;rintro ⟨a,c⟩ hi;have h:=l a c hi;refine sO oN [] [(40,vB (decide (c < (↑(List.length x.Kids):Int))))] ?_;refine qD ?_;refine cH 13 h (fun m h=>?_) (fun m h=>?_)
 ·refine kD ?_;show Sem _ _ _ _ _;refine wkD [40] ?_;obtain ⟨j,p,h⟩:=h;refine sjE j [] (fun b=>[(4,vi b)]) ?_ ?_
  ·rintro b hj;have h:=p b hj;refine rO oN [] [(37,vi (w64 (c+1)))] ?_;exact lD (b,(w64 (c+1))) [] h
  ·refine bD (id:=1) ?_;obtain ⟨r,h⟩:=h;obtain ⟨s,h⟩:=h;refine sO (xo zc (zC _) r s oN) [] [(19,.ptr 38 0),(38,zu (gd x.Kids c))] ?_;refine sO oN [] [(52,vB (decide (a≥0)))] ?_;refine cH 17 h (fun n h=>?_) (fun n h=>?_)
   ·obtain ⟨e,o,h⟩:=h;refine rO (ca o oN) [19,38,52] [(4,vi e)] ?_;exact jD e [] h
   ·refine kD ?_;exact jD a [] h
 ·refine xD (i:=0) ?_;show Sem _ _ _ _ _;refine wkD [31,34,37,40] ?_;refine sO oN [4] [(13,vi a)] ?_;refine tD ?_;subst h;exact (endQ []).1
theorem W_rx_Right (x:zj) (res:Bool)
 (h:(∃ r0:Bool,zav ({ Kind:=x.Kind,Set:=x.Set,Lo:=x.Lo,Hi:=x.Hi,Kids:=x.Kids }) 20 r0∧(ck (r0) (∃ c:Int,zdj x c∧(ck (decide (c≤200)) (∃ b:Int,zdi x (1000) b∧(res=(decide (b≥0)))) (res=false))) (res=false)))):zcF x res:=by
 unfold zcF;have kk:=cfOk [] 15;refine fD (x:=bodyOf Tryz.f64) kk Tryz.func64 ?_;refine wkS [1] [(1,zu x)] (by kernel_rfl) ?_;refine sO oN [1] [(4,.ptr 8 0),(8,zu x)] ?_;obtain ⟨r0,e,h⟩:=h;rcases eft (r0) with a | a
 ·have h:=h.1 a;obtain ⟨c,f,h⟩:=h;rcases eft (decide (c≤200)) with d | d
  ·have h:=h.1 d;obtain ⟨b,g,h⟩:=h;refine sO (ca e (g1 a 11 (ca f (g2 d a 4611 (ca g (g1 d 13 oN)))))) [4,8] [(7,vB (decide (b≥0)))] ?_;refine tD ?_;subst h;exact (endQ []).1
  ·have h:=h.2 d;refine sO (ca e (g1 a 11 (ca f (g2 d a 461113 oN)))) [4,8] [(7,vB false)] ?_;refine tD ?_;subst h;exact (endQ []).1
 ·have h:=h.2 a;refine sO (ca e (g1 a 11138888 oN)) [4,8] [(7,vB false)] ?_;refine tD ?_;subst h;exact (endQ []).1
end Go.Ev
namespace Go.Ev
open Go Go.Proofs
set_option maxRecDepth 8000
set_option maxHeartbeats 1000000
theorem ze5 (r0:zaU) (res:Bool)
 (h:(ck r0.Eof (ck (!r0.Bol) (∃ f:Bool,zcj r0.Rx f∧(ck (f) (∃ c:Bool,zcj r0.Trail c∧(res=c)) (res=false))) (res=false)) (∃ d:Bool,zcF r0.Rx d∧(ck (d) (∃ e:Bool,zcj r0.Trail e∧(ck (e) (res=true) (∃ g:Bool,zcF r0.Trail g∧(res=g)))) (res=false))))):zbs r0 res:=by
 unfold zbs;have kk:=cfOk [] 31;refine fD (x:=bodyOf Tryz.f79) kk Tryz.func79 ?_;refine wkS [1] [(1,zaZ r0)] (by kernel_rfl) ?_;refine sO oN [1] [(4,.ptr 8 0),(8,zaZ r0)] ?_;refine qD ?_;refine sO oN [] [(13,vB r0.Eof)] ?_;refine cH 4 h (fun n h=>?_) (fun n h=>?_)
 ·rcases eft (!r0.Bol) with b | b
  ·have h:=h.1 b;obtain ⟨f,m,h⟩:=h;rcases eft (f) with i | i
   ·have h:=h.1 i;obtain ⟨c,o,h⟩:=h;refine sO (g1 b 111 (ca m (g2 i b 6111 (ca o (g1 i 3 oN))))) [4,8,13] [(7,vB c)] ?_;refine tD ?_;subst h;exact (endQ []).1
   ·have h:=h.2 i;refine sO (g1 b 111 (ca m (g2 i b 61113 oN))) [4,8,13] [(7,vB false)] ?_;refine tD ?_;subst h;exact (endQ []).1
  ·have h:=h.2 b;refine sO (g1 b 11138888 oN) [4,8,13] [(7,vB false)] ?_;refine tD ?_;subst h;exact (endQ []).1
 ·refine kD ?_;show Sem _ _ _ _ _;refine wkD [13] ?_;obtain ⟨d,k,h⟩:=h;rcases eft (d) with a | a
  ·have h:=h.1 a;obtain ⟨e,l,h⟩:=h;rcases eft (e) with j | j
   ·have h:=h.1 j;refine sO (ca k (g1 a 111 (ca l (g2 a j 1555163 oN)))) [4,8] [(7,vB true)] ?_;refine tD ?_;subst h;exact (endQ []).1
   ·have h:=h.2 j;obtain ⟨g,p,h⟩:=h;refine sO (ca k (g1 a 111 (ca l (g2 j a 4222 (ca p (g2 a j 163 oN)))))) [4,8] [(7,vB g)] ?_;refine tD ?_;subst h;exact (endQ []).1
  ·have h:=h.2 a;refine sO (ca k (g1 a 111113 oN)) [4,8] [(7,vB false)] ?_;refine tD ?_;subst h;exact (endQ []).1
theorem zfR (l:(List Int)) (res:ByteArray)
 (h:(∃ (a:ByteArray→Int→Prop) (c:ByteArray→Int→Nat),a ({ data:=#[] }) 0∧(∀ (s0:ByteArray) (i:Int),a s0 i→(ck (decide (i < (↑(List.length (List.map zae l)):Int)) && decide (i < 12)) ((0≤i)∧i < ↑(List.length l)∧(0≤i)∧i < ↑(List.length l)∧(0≤Int.tmod (w64 (gd l i)) 12∧0≤w64 (Int.tmod (w64 (gd l i)) 12+1)∧Int.toNat (Int.tmod (w64 (gd l i)) 12)≤Int.toNat (w64 (Int.tmod (w64 (gd l i)) 12+1))∧Int.toNat (w64 (Int.tmod (w64 (gd l i)) 12+1))≤ByteArray.size { data:=#[(97:UInt8),(97:UInt8),(98:UInt8),(98:UInt8),(99:UInt8),(99:UInt8),(45:UInt8),(90:UInt8),(10:UInt8),(48:UInt8),(0:UInt8),(255:UInt8)] })∧((↑(ByteArray.size s0+ByteArray.size (ByteArray.extract { data:=#[(97:UInt8),(97:UInt8),(98:UInt8),(98:UInt8),(99:UInt8),(99:UInt8),(45:UInt8),(90:UInt8),(10:UInt8),(48:UInt8),(0:UInt8),(255:UInt8)] } (Int.toNat (Int.tmod (w64 (gd l i)) 12)) (Int.toNat (w64 (Int.tmod (w64 (gd l i)) 12+1))))):Int)≤IntKind.max IntKind.i64)∧(a (s0++ByteArray.extract { data:=#[(97:UInt8),(97:UInt8),(98:UInt8),(98:UInt8),(99:UInt8),(99:UInt8),(45:UInt8),(90:UInt8),(10:UInt8),(48:UInt8),(0:UInt8),(255:UInt8)] } (Int.toNat (Int.tmod (w64 (gd l i)) 12)) (Int.toNat (w64 (Int.tmod (w64 (gd l i)) 12+1)))) (w64 (i+1))∧c (s0++ByteArray.extract { data:=#[(97:UInt8),(97:UInt8),(98:UInt8),(98:UInt8),(99:UInt8),(99:UInt8),(45:UInt8),(90:UInt8),(10:UInt8),(48:UInt8),(0:UInt8),(255:UInt8)] } (Int.toNat (Int.tmod (w64 (gd l i)) 12)) (Int.toNat (w64 (Int.tmod (w64 (gd l i)) 12+1)))) (w64 (i+1)) < c s0 i)) (res=s0))))):zbE l res:=by
 unfold zbE;have kk:=cfOk [31] 32;refine fD (x:=bodyOf Tryz.f10) kk Tryz.func10 ?_;refine wkS [1] [(1,vL zae l)] (by kernel_rfl) ?_;refine sO oN [] [] ?_;refine sO oN [] [(10,vS ({ data:=#[] }))] ?_;refine qD ?_;refine sO oN [] [(13,vi 0)] ?_;refine bD (id:=0) ?_;obtain ⟨a,c,d,e⟩:=h;refine loE [] (u2 fun s0 i=>[(10,vS s0),(13,vi i)]) (u2 a) (u2 c) (({ data:=#[] }),0) [] d ?_;rintro ⟨s0,i⟩ hi;have h:=e s0 i hi;refine qD ?_;refine sM [] [(37,vB (decide (i < (↑(List.length (List.map zae l)):Int)) && decide (i < 12)))] ?_ (fun f=>?_)
 ·refine cH 12 h (fun g h=>?_) (fun g h=>?_)
  ·refine kD ?_;show Sem _ _ _ _ _;refine wkD [37] ?_;refine qD ?_;refine bD (id:=1) ?_;obtain ⟨o,h⟩:=h;obtain ⟨k,h⟩:=h;obtain ⟨n,h⟩:=h;obtain ⟨p,h⟩:=h;obtain ⟨j,h⟩:=h;obtain ⟨m,h⟩:=h;refine rO (xo zae rfl o k (nd (show (12:Int)≠(0:Int) from by first | decide | rfl | trivial) (xo zae rfl n p (nd (show (12:Int)≠(0:Int) from by first | decide | rfl | trivial) (nd j (nd m oN)))))) [] [(10,vS (s0++ByteArray.extract { data:=#[(97:UInt8),(97:UInt8),(98:UInt8),(98:UInt8),(99:UInt8),(99:UInt8),(45:UInt8),(90:UInt8),(10:UInt8),(48:UInt8),(0:UInt8),(255:UInt8)] } (Int.toNat (Int.tmod (w64 (gd l i)) 12)) (Int.toNat (w64 (Int.tmod (w64 (gd l i)) 12+1)))))] ?_;show Sem _ _ _ _ _;refine rO oN [] [(13,vi (w64 (i+1)))] ?_;exact lD ((s0++ByteArray.extract { data:=#[(97:UInt8),(97:UInt8),(98:UInt8),(98:UInt8),(99:UInt8),(99:UInt8),(45:UInt8),(90:UInt8),(10:UInt8),(48:UInt8),(0:UInt8),(255:UInt8)] } (Int.toNat (Int.tmod (w64 (gd l i)) 12)) (Int.toNat (w64 (Int.tmod (w64 (gd l i)) 12+1)))),(w64 (i+1))) [] h
  ·refine xD (i:=0) ?_;show Sem _ _ _ _ _;refine wkD [1,13,37] ?_;refine sO oN [10] [(7,vS s0)] ?_;refine tD ?_;subst h;exact (endQ []).1
 ·rcases eft (decide (i < (↑(List.length (List.map zae l)):Int))) with b | b
  ·refine sO (g1 b 113 oN) [] [(37,vB (decide (i < 12)))] ?_;exact Sem.cast (by try rw [b];kernel_rfl) f
  ·refine sO (g1 b 113 oN) [] [(37,vB false)] ?_;exact Sem.cast (by try rw [b];kernel_rfl) f
theorem zfb (x:zj) (d:Int) (res:Int)
 (h:(∃ (c:Int→Int→Prop) (f:Int→Int→Nat),c (w64 (d - 1)) 0∧(∀ (a:Int) (i:Int),c a i→(ck (decide (i < (↑(List.length (List.map zc x.Kids)):Int)) && decide (a≥0)) ((0≤i)∧i < ↑(List.length x.Kids)∧(∃ b:Int,zaG (gd x.Kids i) a b∧(c b (w64 (i+1))∧f b (w64 (i+1)) < f a i))) (res=a))))):zaG x d res:=by
 unfold zaG;have kk:=cfOk [26] 27;refine fD (x:=bodyOf Tryz.f38) kk Tryz.func38 ?_;refine wkS [1,4] [(1,zu x),(4,vi d)] (by kernel_rfl) ?_;refine sO oN [1] [(7,.ptr 14 0),(14,zu x)] ?_;refine sO oN [] [(4,vi (w64 (d - 1)))] ?_;refine qD ?_;refine sO oN [] [(16,vi 0)] ?_;refine bD (id:=0) ?_;obtain ⟨c,f,g,j⟩:=h;refine loE [] (u2 fun a i=>[(4,vi a),(16,vi i)]) (u2 c) (u2 f) ((w64 (d - 1)),0) [] g ?_;rintro ⟨a,i⟩ hi;have h:=j a i hi;refine qD ?_;refine sM [] [(49,vB (decide (i < (↑(List.length (List.map zc x.Kids)):Int)) && decide (a≥0)))] ?_ (fun l=>?_)
 ·refine cH 16 h (fun m h=>?_) (fun m h=>?_)
  ·refine kD ?_;show Sem _ _ _ _ _;refine wkD [49] ?_;refine qD ?_;refine bD (id:=1) ?_;obtain ⟨n,h⟩:=h;obtain ⟨o,h⟩:=h;obtain ⟨b,k,h⟩:=h;refine rO (xo zc (zC _) n o (ca k oN)) [] [(4,vi b)] ?_;show Sem _ _ _ _ _;refine rO oN [] [(16,vi (w64 (i+1)))] ?_;exact lD (b,(w64 (i+1))) [] h
  ·refine xD (i:=0) ?_;show Sem _ _ _ _ _;refine wkD [7,14,16,49] ?_;refine sO oN [4] [(13,vi a)] ?_;refine tD ?_;subst h;exact (endQ []).1
 ·rcases eft (decide (i < (↑(List.length (List.map zc x.Kids)):Int))) with e | e
  ·refine sO (g1 e 113 oN) [] [(49,vB (decide (a≥0)))] ?_;exact Sem.cast (by try rw [e];kernel_rfl) l
  ·refine sO (g1 e 113 oN) [] [(49,vB false)] ?_;exact Sem.cast (by try rw [e];kernel_rfl) l
theorem zfO (s0:ByteArray) (res:Bool)
 (h:(ck (ByteArray.toList s0 == ByteArray.toList { data:=#[] } || decide ((↑(ByteArray.size s0):Int) > 12)) (res=false) (∃ (n:Int→Prop) (r:Int→Nat),n 0∧(∀ (i:Int),n i→(ck (decide (i < (↑(ByteArray.size s0):Int))) ((0≤i)∧i < ↑(ByteArray.size s0)∧((decide ((↑(UInt8.toNat (byteAt s0 i)):Int)≥97))=true→(0≤i))∧((decide ((↑(UInt8.toNat (byteAt s0 i)):Int)≥97))=true→i < ↑(ByteArray.size s0))∧((decide ((↑(UInt8.toNat (byteAt s0 i)):Int)≥97))=true→((decide ((↑(UInt8.toNat (byteAt s0 i)):Int)≤122))=false→(0≤i)))∧((decide ((↑(UInt8.toNat (byteAt s0 i)):Int)≥97))=true→((decide ((↑(UInt8.toNat (byteAt s0 i)):Int)≤122))=false→i < ↑(ByteArray.size s0)))∧((decide ((↑(UInt8.toNat (byteAt s0 i)):Int)≥97))=true→((decide ((↑(UInt8.toNat (byteAt s0 i)):Int)≤122))=false→((decide ((↑(UInt8.toNat (byteAt s0 i)):Int)≥65))=true→(0≤i))))∧((decide ((↑(UInt8.toNat (byteAt s0 i)):Int)≥97))=true→((decide ((↑(UInt8.toNat (byteAt s0 i)):Int)≤122))=false→((decide ((↑(UInt8.toNat (byteAt s0 i)):Int)≥65))=true→i < ↑(ByteArray.size s0))))∧((decide ((↑(UInt8.toNat (byteAt s0 i)):Int)≥97))=true→((decide ((↑(UInt8.toNat (byteAt s0 i)):Int)≤122))=false→((decide ((↑(UInt8.toNat (byteAt s0 i)):Int)≥65))=true→((decide ((↑(UInt8.toNat (byteAt s0 i)):Int)≤90))=false→(0≤i)))))∧((decide ((↑(UInt8.toNat (byteAt s0 i)):Int)≥97))=true→((decide ((↑(UInt8.toNat (byteAt s0 i)):Int)≤122))=false→((decide ((↑(UInt8.toNat (byteAt s0 i)):Int)≥65))=true→((decide ((↑(UInt8.toNat (byteAt s0 i)):Int)≤90))=false→i < ↑(ByteArray.size s0)))))∧((decide ((↑(UInt8.toNat (byteAt s0 i)):Int)≥97))=true→((decide ((↑(UInt8.toNat (byteAt s0 i)):Int)≤122))=false→((decide ((↑(UInt8.toNat (byteAt s0 i)):Int)≥65))=false→(0≤i))))∧((decide ((↑(UInt8.toNat (byteAt s0 i)):Int)≥97))=true→((decide ((↑(UInt8.toNat (byteAt s0 i)):Int)≤122))=false→((decide ((↑(UInt8.toNat (byteAt s0 i)):Int)≥65))=false→i < ↑(ByteArray.size s0))))∧((decide ((↑(UInt8.toNat (byteAt s0 i)):Int)≥97))=false→(0≤i))∧((decide ((↑(UInt8.toNat (byteAt s0 i)):Int)≥97))=false→i < ↑(ByteArray.size s0))∧((decide ((↑(UInt8.toNat (byteAt s0 i)):Int)≥97))=false→((decide ((↑(UInt8.toNat (byteAt s0 i)):Int)≥65))=true→(0≤i)))∧((decide ((↑(UInt8.toNat (byteAt s0 i)):Int)≥97))=false→((decide ((↑(UInt8.toNat (byteAt s0 i)):Int)≥65))=true→i < ↑(ByteArray.size s0)))∧((decide ((↑(UInt8.toNat (byteAt s0 i)):Int)≥97))=false→((decide ((↑(UInt8.toNat (byteAt s0 i)):Int)≥65))=true→((decide ((↑(UInt8.toNat (byteAt s0 i)):Int)≤90))=false→(0≤i))))∧((decide ((↑(UInt8.toNat (byteAt s0 i)):Int)≥97))=false→((decide ((↑(UInt8.toNat (byteAt s0 i)):Int)≥65))=true→((decide ((↑(UInt8.toNat (byteAt s0 i)):Int)≤90))=false→i < ↑(ByteArray.size s0))))∧((decide ((↑(UInt8.toNat (byteAt s0 i)):Int)≥97))=false→((decide ((↑(UInt8.toNat (byteAt s0 i)):Int)≥65))=false→(0≤i)))∧((decide ((↑(UInt8.toNat (byteAt s0 i)):Int)≥97))=false→((decide ((↑(UInt8.toNat (byteAt s0 i)):Int)≥65))=false→i < ↑(ByteArray.size s0)))∧((!bif decide ((↑(UInt8.toNat (byteAt s0 i)):Int)≥97) then decide ((↑(UInt8.toNat (byteAt s0 i)):Int)≤122) || bif decide ((↑(UInt8.toNat (byteAt s0 i)):Int)≥65) then decide ((↑(UInt8.toNat (byteAt s0 i)):Int)≤90) || (↑(UInt8.toNat (byteAt s0 i)):Int) == 95 else (↑(UInt8.toNat (byteAt s0 i)):Int) == 95 else bif decide ((↑(UInt8.toNat (byteAt s0 i)):Int)≥65) then decide ((↑(UInt8.toNat (byteAt s0 i)):Int)≤90) || (↑(UInt8.toNat (byteAt s0 i)):Int) == 95 else (↑(UInt8.toNat (byteAt s0 i)):Int) == 95)=true→((i == 0)=false→(0≤i)))∧((!bif decide ((↑(UInt8.toNat (byteAt s0 i)):Int)≥97) then decide ((↑(UInt8.toNat (byteAt s0 i)):Int)≤122) || bif decide ((↑(UInt8.toNat (byteAt s0 i)):Int)≥65) then decide ((↑(UInt8.toNat (byteAt s0 i)):Int)≤90) || (↑(UInt8.toNat (byteAt s0 i)):Int) == 95 else (↑(UInt8.toNat (byteAt s0 i)):Int) == 95 else bif decide ((↑(UInt8.toNat (byteAt s0 i)):Int)≥65) then decide ((↑(UInt8.toNat (byteAt s0 i)):Int)≤90) || (↑(UInt8.toNat (byteAt s0 i)):Int) == 95 else (↑(UInt8.toNat (byteAt s0 i)):Int) == 95)=true→((i == 0)=false→i < ↑(ByteArray.size s0)))∧((!bif decide ((↑(UInt8.toNat (byteAt s0 i)):Int)≥97) then decide ((↑(UInt8.toNat (byteAt s0 i)):Int)≤122) || bif decide ((↑(UInt8.toNat (byteAt s0 i)):Int)≥65) then decide ((↑(UInt8.toNat (byteAt s0 i)):Int)≤90) || (↑(UInt8.toNat (byteAt s0 i)):Int) == 95 else (↑(UInt8.toNat (byteAt s0 i)):Int) == 95 else bif decide ((↑(UInt8.toNat (byteAt s0 i)):Int)≥65) then decide ((↑(UInt8.toNat (byteAt s0 i)):Int)≤90) || (↑(UInt8.toNat (byteAt s0 i)):Int) == 95 else (↑(UInt8.toNat (byteAt s0 i)):Int) == 95)=true→((i == 0)=false→((decide ((↑(UInt8.toNat (byteAt s0 i)):Int) < 48))=false→(0≤i))))∧((!bif decide ((↑(UInt8.toNat (byteAt s0 i)):Int)≥97) then decide ((↑(UInt8.toNat (byteAt s0 i)):Int)≤122) || bif decide ((↑(UInt8.toNat (byteAt s0 i)):Int)≥65) then decide ((↑(UInt8.toNat (byteAt s0 i)):Int)≤90) || (↑(UInt8.toNat (byteAt s0 i)):Int) == 95 else (↑(UInt8.toNat (byteAt s0 i)):Int) == 95 else bif decide ((↑(UInt8.toNat (byteAt s0 i)):Int)≥65) then decide ((↑(UInt8.toNat (byteAt s0 i)):Int)≤90) || (↑(UInt8.toNat (byteAt s0 i)):Int) == 95 else (↑(UInt8.toNat (byteAt s0 i)):Int) == 95)=true→((i == 0)=false→((decide ((↑(UInt8.toNat (byteAt s0 i)):Int) < 48))=false→i < ↑(ByteArray.size s0))))∧(ck ((!bif decide ((↑(UInt8.toNat (byteAt s0 i)):Int)≥97) then decide ((↑(UInt8.toNat (byteAt s0 i)):Int)≤122) || bif decide ((↑(UInt8.toNat (byteAt s0 i)):Int)≥65) then decide ((↑(UInt8.toNat (byteAt s0 i)):Int)≤90) || (↑(UInt8.toNat (byteAt s0 i)):Int) == 95 else (↑(UInt8.toNat (byteAt s0 i)):Int) == 95 else bif decide ((↑(UInt8.toNat (byteAt s0 i)):Int)≥65) then decide ((↑(UInt8.toNat (byteAt s0 i)):Int)≤90) || (↑(UInt8.toNat (byteAt s0 i)):Int) == 95 else (↑(UInt8.toNat (byteAt s0 i)):Int) == 95) && (i == 0 || (decide ((↑(UInt8.toNat (byteAt s0 i)):Int) < 48) || decide ((↑(UInt8.toNat (byteAt s0 i)):Int) > 57)))) (res=false) (n (w64 (i+1))∧r (w64 (i+1)) < r i))) (res=true)))))):zbC s0 res:=by
 unfold zbC;have kk:=cfOk [] 64;refine fD (x:=bodyOf Tryz.f84) kk Tryz.func84 ?_;refine wkS [1] [(1,vS s0)] (by kernel_rfl) ?_;refine sO oN [] [] ?_;refine qD ?_;refine sM [] [(34,vB (ByteArray.toList s0 == ByteArray.toList { data:=#[] } || decide ((↑(ByteArray.size s0):Int) > 12)))] ?_ (fun g=>?_)
 ·refine cH 11 h (fun Y h=>?_) (fun Y h=>?_)
  ·refine sO oN [1,34] [(7,vB false)] ?_;refine tD ?_;subst h;exact (endQ []).1
  ·refine kD ?_;show Sem _ _ _ _ _;refine wkD [34] ?_;refine qD ?_;refine sO oN [] [(10,vi 0)] ?_;refine bD (id:=0) ?_;obtain ⟨n,r,v,y⟩:=h;refine loE [] (fun i=>[(10,vi i)]) n r 0 [] v ?_;rintro i hi;have h:=y i hi;refine qD ?_;refine sO oN [] [(46,vB (decide (i < (↑(ByteArray.size s0):Int))))] ?_;refine cH 15 h (fun N h=>?_) (fun N h=>?_)
   ·refine kD ?_;show Sem _ _ _ _ _;refine wkD [46] ?_;refine qD ?_;refine bD (id:=1) ?_;obtain ⟨m,h⟩:=h;obtain ⟨p,h⟩:=h;obtain ⟨o,w,t,E,B,I,M,W,R,V,s,F,A,J,H,X,Q,a1,h⟩:=h;refine sM [] [(13,vB (bif decide ((↑(UInt8.toNat (byteAt s0 i)):Int)≥97) then decide ((↑(UInt8.toNat (byteAt s0 i)):Int)≤122) || bif decide ((↑(UInt8.toNat (byteAt s0 i)):Int)≥65) then decide ((↑(UInt8.toNat (byteAt s0 i)):Int)≤90) || (↑(UInt8.toNat (byteAt s0 i)):Int) == 95 else (↑(UInt8.toNat (byteAt s0 i)):Int) == 95 else bif decide ((↑(UInt8.toNat (byteAt s0 i)):Int)≥65) then decide ((↑(UInt8.toNat (byteAt s0 i)):Int)≤90) || (↑(UInt8.toNat (byteAt s0 i)):Int) == 95 else (↑(UInt8.toNat (byteAt s0 i)):Int) == 95))] ?_ (fun g=>?_)
    ·obtain ⟨D,S,U,a0,h⟩:=h;refine sM [13] [(190,vB ((!bif decide ((↑(UInt8.toNat (byteAt s0 i)):Int)≥97) then decide ((↑(UInt8.toNat (byteAt s0 i)):Int)≤122) || bif decide ((↑(UInt8.toNat (byteAt s0 i)):Int)≥65) then decide ((↑(UInt8.toNat (byteAt s0 i)):Int)≤90) || (↑(UInt8.toNat (byteAt s0 i)):Int) == 95 else (↑(UInt8.toNat (byteAt s0 i)):Int) == 95 else bif decide ((↑(UInt8.toNat (byteAt s0 i)):Int)≥65) then decide ((↑(UInt8.toNat (byteAt s0 i)):Int)≤90) || (↑(UInt8.toNat (byteAt s0 i)):Int) == 95 else (↑(UInt8.toNat (byteAt s0 i)):Int) == 95) && (i == 0 || (decide ((↑(UInt8.toNat (byteAt s0 i)):Int) < 48) || decide ((↑(UInt8.toNat (byteAt s0 i)):Int) > 57)))))] ?_ (fun g=>?_)
     ·refine cH 63 h (fun O h=>?_) (fun O h=>?_)
      ·refine sO oN [1,10,190] [(7,vB false)] ?_;refine tD ?_;subst h;exact (endQ []).1
      ·refine kD ?_;show Sem _ _ _ _ _;refine wkD [190] ?_;refine rO oN [] [(10,vi (w64 (i+1)))] ?_;exact lD (w64 (i+1)) [] h
     ·rcases eft (!bif decide ((↑(UInt8.toNat (byteAt s0 i)):Int)≥97) then decide ((↑(UInt8.toNat (byteAt s0 i)):Int)≤122) || bif decide ((↑(UInt8.toNat (byteAt s0 i)):Int)≥65) then decide ((↑(UInt8.toNat (byteAt s0 i)):Int)≤90) || (↑(UInt8.toNat (byteAt s0 i)):Int) == 95 else (↑(UInt8.toNat (byteAt s0 i)):Int) == 95 else bif decide ((↑(UInt8.toNat (byteAt s0 i)):Int)≥65) then decide ((↑(UInt8.toNat (byteAt s0 i)):Int)≤90) || (↑(UInt8.toNat (byteAt s0 i)):Int) == 95 else (↑(UInt8.toNat (byteAt s0 i)):Int) == 95) with c | c
      ·rcases eft (i == 0) with f | f
       ·refine sO (g2 c f 11155551618888173 oN) [13] [(190,vB true)] ?_;exact Sem.cast (by try rw [c];try rw [f];kernel_rfl) g
       ·rcases eft (decide ((↑(UInt8.toNat (byteAt s0 i)):Int) < 48)) with l | l
        ·refine sO (g2 f c 444222 (nd ((D c) f) (op (.y (byteAt s0 i)) (zab s0 i ((D c) f) ((S c) f)) (g2 f c 243 (g2 c l 15555163 oN))))) [13] [(190,vB true)] ?_;exact Sem.cast (by try rw [c];try rw [f];try rw [l];kernel_rfl) g
        ·refine sO (g2 f c 444222 (nd ((D c) f) (op (.y (byteAt s0 i)) (zab s0 i ((D c) f) ((S c) f)) (g2 f c 243 (g2 l c 4222 (nd (((U c) f) l) (op (.y (byteAt s0 i)) (zab s0 i (((U c) f) l) (((a0 c) f) l)) (g2 c l 5163 oN)))))))) [13] [(190,vB (decide ((↑(UInt8.toNat (byteAt s0 i)):Int) > 57)))] ?_;exact Sem.cast (by try rw [c];try rw [f];try rw [l];kernel_rfl) g
      ·refine sO (g1 c 1111113 oN) [13] [(190,vB false)] ?_;exact Sem.cast (by try rw [c];kernel_rfl) g
    ·rcases eft (decide ((↑(UInt8.toNat (byteAt s0 i)):Int)≥97)) with a | a
     ·rcases eft (decide ((↑(UInt8.toNat (byteAt s0 i)):Int)≤122)) with b | b
      ·refine sO (nd m (op (.y (byteAt s0 i)) (zab s0 i m p) (g1 a 111 (nd (o a) (op (.y (byteAt s0 i)) (zab s0 i (o a) (w a)) (g2 b a 46222222388887 oN)))))) [] [(13,vB true)] ?_;exact Sem.cast (by try rw [a];try rw [b];kernel_rfl) g
      ·rcases eft (decide ((↑(UInt8.toNat (byteAt s0 i)):Int)≥65)) with e | e
       ·rcases eft (decide ((↑(UInt8.toNat (byteAt s0 i)):Int)≤90)) with k | k
        ·refine sO (nd m (op (.y (byteAt s0 i)) (zab s0 i m p) (g1 a 111 (nd (o a) (op (.y (byteAt s0 i)) (zab s0 i (o a) (w a)) (g2 b a 46222 (nd ((t a) b) (op (.y (byteAt s0 i)) (zab s0 i ((t a) b) ((E a) b)) (g2 e b 55111 (nd (((B a) b) e) (op (.y (byteAt s0 i)) (zab s0 i (((B a) b) e) (((I a) b) e)) (g2 e b 153 (g2 k b 622223 oN))))))))))))) [] [(13,vB true)] ?_;exact Sem.cast (by try rw [a];try rw [b];try rw [e];try rw [k];kernel_rfl) g
        ·refine sO (nd m (op (.y (byteAt s0 i)) (zab s0 i m p) (g1 a 111 (nd (o a) (op (.y (byteAt s0 i)) (zab s0 i (o a) (w a)) (g2 b a 46222 (nd ((t a) b) (op (.y (byteAt s0 i)) (zab s0 i ((t a) b) ((E a) b)) (g2 e b 55111 (nd (((B a) b) e) (op (.y (byteAt s0 i)) (zab s0 i (((B a) b) e) (((I a) b) e)) (g2 e b 153 (g2 k b 6222 (nd ((((M a) b) e) k) (op (.y (byteAt s0 i)) (zab s0 i ((((M a) b) e) k) ((((W a) b) e) k)) (g1 k 23 oN)))))))))))))))) [] [(13,vB ((↑(UInt8.toNat (byteAt s0 i)):Int) == 95))] ?_;exact Sem.cast (by try rw [a];try rw [b];try rw [e];try rw [k];kernel_rfl) g
       ·refine sO (nd m (op (.y (byteAt s0 i)) (zab s0 i m p) (g1 a 111 (nd (o a) (op (.y (byteAt s0 i)) (zab s0 i (o a) (w a)) (g2 b a 46222 (nd ((t a) b) (op (.y (byteAt s0 i)) (zab s0 i ((t a) b) ((E a) b)) (g2 b e 224444263777 (nd (((R a) b) e) (op (.y (byteAt s0 i)) (zab s0 i (((R a) b) e) (((V a) b) e)) (g0 78 oN)))))))))))) [] [(13,vB ((↑(UInt8.toNat (byteAt s0 i)):Int) == 95))] ?_;exact Sem.cast (by try rw [a];try rw [b];try rw [e];kernel_rfl) g
     ·rcases eft (decide ((↑(UInt8.toNat (byteAt s0 i)):Int)≥65)) with d | d
      ·rcases eft (decide ((↑(UInt8.toNat (byteAt s0 i)):Int)≤90)) with j | j
       ·refine sO (nd m (op (.y (byteAt s0 i)) (zab s0 i m p) (g1 a 11113777 (nd (s a) (op (.y (byteAt s0 i)) (zab s0 i (s a) (F a)) (g1 d 77111 (nd ((A a) d) (op (.y (byteAt s0 i)) (zab s0 i ((A a) d) ((J a) d)) (g2 j d 476822223 oN))))))))) [] [(13,vB true)] ?_;exact Sem.cast (by try rw [a];try rw [d];try rw [j];kernel_rfl) g
       ·refine sO (nd m (op (.y (byteAt s0 i)) (zab s0 i m p) (g1 a 11113777 (nd (s a) (op (.y (byteAt s0 i)) (zab s0 i (s a) (F a)) (g1 d 77111 (nd ((A a) d) (op (.y (byteAt s0 i)) (zab s0 i ((A a) d) ((J a) d)) (g2 j d 4768222 (nd (((H a) d) j) (op (.y (byteAt s0 i)) (zab s0 i (((H a) d) j) (((X a) d) j)) (g1 j 23 oN)))))))))))) [] [(13,vB ((↑(UInt8.toNat (byteAt s0 i)):Int) == 95))] ?_;exact Sem.cast (by try rw [a];try rw [d];try rw [j];kernel_rfl) g
      ·refine sO (nd m (op (.y (byteAt s0 i)) (zab s0 i m p) (g1 a 11113777 (nd (s a) (op (.y (byteAt s0 i)) (zab s0 i (s a) (F a)) (g1 d 771111738777 (nd ((Q a) d) (op (.y (byteAt s0 i)) (zab s0 i ((Q a) d) ((a1 a) d)) (g0 78 oN))))))))) [] [(13,vB ((↑(UInt8.toNat (byteAt s0 i)):Int) == 95))] ?_;exact Sem.cast (by try rw [a];try rw [d];kernel_rfl) g
   ·refine xD (i:=0) ?_;show Sem _ _ _ _ _;refine wkD [1,10,46] ?_;refine sO oN [] [(7,vB true)] ?_;refine tD ?_;subst h;exact (endQ []).1
 ·rcases eft (ByteArray.toList s0 == ByteArray.toList { data:=#[] }) with u | u
  ·refine sO (g1 u 2223 oN) [] [(34,vB true)] ?_;exact Sem.cast (by try rw [u];kernel_rfl) g
  ·refine sO (g1 u 2223 oN) [] [(34,vB (decide ((↑(ByteArray.size s0):Int) > 12)))] ?_;exact Sem.cast (by try rw [u];kernel_rfl) g
theorem zfL (x:zj) (res:Bool)
 (h:(res=(x.Kind == 0 && (za.e0 x.Set == 0 && (za.e1 x.Set == 0 && (za.e2 x.Set == 0 && (za.e3 x.Set == 0 && true))) && (x.Lo == 0 && (x.Hi == 0 && (↑(List.length x.Kids):Int) == 0)))))):zaP x res:=by
 unfold zaP;have kk:=cfOk [] 28;refine fD (x:=bodyOf Tryz.f118) kk Tryz.func118 ?_;refine wkS [1] [(1,zu x)] (by kernel_rfl) ?_;refine sO oN [1] [(4,.ptr 8 0),(8,zu x)] ?_;refine sM [4,8] [(7,vB (x.Kind == 0 && (za.e0 x.Set == 0 && (za.e1 x.Set == 0 && (za.e2 x.Set == 0 && (za.e3 x.Set == 0 && true))) && (x.Lo == 0 && (x.Hi == 0 && (↑(List.length x.Kids):Int) == 0)))))] ?_ (fun d=>?_)
 ·refine tD ?_;subst h;exact (endQ []).1
 ·rcases eft (x.Kind == 0) with a | a
  ·rcases eft (za.e0 x.Set == 0 && (za.e1 x.Set == 0 && (za.e2 x.Set == 0 && (za.e3 x.Set == 0 && true)))) with b | b
   ·rcases eft (x.Lo == 0) with c | c
    ·rcases eft (x.Hi == 0) with e | e
     ·refine sV (g2 b a 444461113 (g2 e c 444611113 oN)) [4,8] (List.length (List.map zc x.Kids)) (List.length x.Kids) (fun q=>[(7,vB ((↑(q):Int) == 0))]) ?_;exact Sem.cast (by try rw [a];try rw [b];try rw [c];try rw [e];kernel_rfl) d
     ·refine sO (g2 b a 444461113 (g2 e c 444611113 oN)) [4,8] [(7,vB false)] ?_;exact Sem.cast (by try rw [a];try rw [b];try rw [c];try rw [e];kernel_rfl) d
    ·refine sO (g1 a 11113 (g2 c b 4446111388888 oN)) [4,8] [(7,vB false)] ?_;exact Sem.cast (by try rw [a];try rw [b];try rw [c];kernel_rfl) d
   ·refine sO (g2 b a 444461113888888888 oN) [4,8] [(7,vB false)] ?_;exact Sem.cast (by try rw [a];try rw [b];kernel_rfl) d
  ·refine sO (g1 a 111138888888888888 oN) [4,8] [(7,vB false)] ?_;exact Sem.cast (by try rw [a];kernel_rfl) d
end Go.Ev
namespace Go.Ev
open Go Go.Proofs
set_option maxRecDepth 8000
set_option maxHeartbeats 1000000
theorem ze9 (x:zj) (m:Int) (res:Bool)
 (h:(ck (decide (m < 1)) (res=false) (ck (x.Kind == 1) (res=(!!(za.e0 x.Set == 0 && (za.e1 x.Set == 0 && (za.e2 x.Set == 0 && (za.e3 x.Set == 0 && true)))) && (x.Lo == 0 && x.Hi == 0 && (↑(List.length x.Kids):Int) == 0))) (ck (x.Kind == 2) (res=(!(za.e0 x.Set == 0 && (za.e1 x.Set == 0 && (za.e2 x.Set == 0 && (za.e3 x.Set == 0 && true)))) && (x.Lo == 0 && x.Hi == 0 && (↑(List.length x.Kids):Int) == 0))) (ck (x.Kind == 5) (ck (!!(za.e0 x.Set == 0 && (za.e1 x.Set == 0 && (za.e2 x.Set == 0 && (za.e3 x.Set == 0 && true))))) (ck (decide (x.Lo≥0)) (ck (decide (x.Lo≤20)) (ck (x.Hi == (-1:Int) || decide (x.Hi≥if true=true then if x.Lo > 1 then x.Lo else 1 else if x.Lo < 1 then x.Lo else 1) && decide (x.Hi≤20)) (ck ((↑(List.length (List.map zc x.Kids)):Int) == 1) (((!!(za.e0 x.Set == 0 && (za.e1 x.Set == 0 && (za.e2 x.Set == 0 && (za.e3 x.Set == 0 && true)))))=true→((decide (x.Lo≥0))=true→((decide (x.Lo≤20))=true→((x.Hi == (-1:Int) || decide (x.Hi≥if true=true then if x.Lo > 1 then x.Lo else 1 else if x.Lo < 1 then x.Lo else 1) && decide (x.Hi≤20))=true→(((↑(List.length (List.map zc x.Kids)):Int) == 1)=true→0 < List.length x.Kids)))))∧(∃ r0:Bool,zaE (List.getD x.Kids 0 default) (w64 (m - 1)) r0∧(res=r0))) (res=false)) (res=false)) (res=false)) (res=false)) (res=false)) (∃ A:Bool→Prop,(∀ (w:Bool),A w→(ck (w) (ck (!(za.e0 x.Set == 0 && (za.e1 x.Set == 0 && (za.e2 x.Set == 0 && (za.e3 x.Set == 0 && true)))) || (!(x.Lo == 0 && x.Hi == 0) || decide ((↑(List.length x.Kids):Int) < 2))) (res=false) (∃ (l:Int→Prop) (u:Int→Nat),l 0∧(∀ (i:Int),l i→(ck (decide (i < (↑(List.length x.Kids):Int))) ((0≤i)∧i < ↑(List.length x.Kids)∧(ck ((gd x.Kids i).Kind == x.Kind) (res=false) ((((gd x.Kids i).Kind == x.Kind)=false→(0≤i))∧(((gd x.Kids i).Kind == x.Kind)=false→i < ↑(List.length x.Kids))∧(∃ v:Bool,zaE (gd x.Kids i) (w64 (m - 1)) v∧(ck (!v) (res=false) (l (w64 (i+1))∧u (w64 (i+1)) < u i)))))) (res=true))))) (res=false)))∧(ck (x.Kind == 3) (A (x.Kind == 3)) (A (x.Kind == 4))))))))):zaE x m res:=by
 unfold zaE;have kk:=cfOk [] 139;refine fD (x:=bodyOf Tryz.f108) kk Tryz.func108 ?_;refine wkS [1,4] [(1,zu x),(4,vi m)] (by kernel_rfl) ?_;refine sO oN [1] [(7,.ptr 14 0),(14,zu x)] ?_;refine qD ?_;refine sO oN [] [(31,vB (decide (m < 1)))] ?_;refine cH 10 h (fun X h=>?_) (fun X h=>?_)
 ·refine sO oN [4,7,14,31] [(13,vB false)] ?_;refine tD ?_;subst h;exact (endQ []).1
 ·refine kD ?_;show Sem _ _ _ _ _;refine wkD [31] ?_;refine sO oN [] [(16,vB (!(za.e0 x.Set == 0 && (za.e1 x.Set == 0 && (za.e2 x.Set == 0 && (za.e3 x.Set == 0 && true))))))] ?_;refine sM [] [(19,vB (x.Lo == 0 && x.Hi == 0))] ?_ (fun a=>?_)
  ·refine qD ?_;refine sO oN [] [(73,vi x.Kind)] ?_;refine bD (id:=0) ?_;refine sO oN [] [(76,vB (x.Kind == 1))] ?_;refine cH 25 h (fun a2 h=>?_) (fun a2 h=>?_)
   ·refine sM [4,7,14,16,19,73,76] [(13,vB (!!(za.e0 x.Set == 0 && (za.e1 x.Set == 0 && (za.e2 x.Set == 0 && (za.e3 x.Set == 0 && true)))) && (x.Lo == 0 && x.Hi == 0 && (↑(List.length x.Kids):Int) == 0)))] ?_ (fun a=>?_)
    ·refine tD ?_;subst h;exact (endQ []).1
    ·rcases eft (!!(za.e0 x.Set == 0 && (za.e1 x.Set == 0 && (za.e2 x.Set == 0 && (za.e3 x.Set == 0 && true))))) with r | r
     ·rcases eft (x.Lo == 0 && x.Hi == 0) with B | B
      ·refine sV (g2 B r 4611113 oN) [4,7,14,16,19,73,76] (List.length (List.map zc x.Kids)) (List.length x.Kids) (fun q=>[(13,vB ((↑(q):Int) == 0))]) ?_;exact Sem.cast (by try rw [r];try rw [B];kernel_rfl) a
      ·refine sO (g2 B r 4611113 oN) [4,7,14,16,19,73,76] [(13,vB false)] ?_;exact Sem.cast (by try rw [r];try rw [B];kernel_rfl) a
     ·refine sO (g1 r 1388888 oN) [4,7,14,16,19,73,76] [(13,vB false)] ?_;exact Sem.cast (by try rw [r];kernel_rfl) a
   ·refine sO oN [76] [(115,vB (x.Kind == 2))] ?_;refine cH 38 h (fun a3 h=>?_) (fun a3 h=>?_)
    ·refine sM [4,7,14,16,19,73,115] [(13,vB (!(za.e0 x.Set == 0 && (za.e1 x.Set == 0 && (za.e2 x.Set == 0 && (za.e3 x.Set == 0 && true)))) && (x.Lo == 0 && x.Hi == 0 && (↑(List.length x.Kids):Int) == 0)))] ?_ (fun a=>?_)
     ·refine tD ?_;subst h;exact (endQ []).1
     ·rcases eft (!(za.e0 x.Set == 0 && (za.e1 x.Set == 0 && (za.e2 x.Set == 0 && (za.e3 x.Set == 0 && true))))) with s | s
      ·rcases eft (x.Lo == 0 && x.Hi == 0) with y | y
       ·refine sV (g2 y s 4611113 oN) [4,7,14,16,19,73,115] (List.length (List.map zc x.Kids)) (List.length x.Kids) (fun q=>[(13,vB ((↑(q):Int) == 0))]) ?_;exact Sem.cast (by try rw [s];try rw [y];kernel_rfl) a
       ·refine sO (g2 y s 4611113 oN) [4,7,14,16,19,73,115] [(13,vB false)] ?_;exact Sem.cast (by try rw [s];try rw [y];kernel_rfl) a
      ·refine sO (g1 s 1388888 oN) [4,7,14,16,19,73,115] [(13,vB false)] ?_;exact Sem.cast (by try rw [s];kernel_rfl) a
    ·refine sO oN [115] [(151,vB (x.Kind == 5))] ?_;refine cH 50 h (fun a0 h=>?_) (fun a0 h=>?_)
     ·refine sM [19,73,151] [(22,vB (x.Hi == (-1:Int) || decide (x.Hi≥if true=true then if x.Lo > 1 then x.Lo else 1 else if x.Lo < 1 then x.Lo else 1) && decide (x.Hi≤20)))] ?_ (fun a=>?_)
      ·rcases eft (!!(za.e0 x.Set == 0 && (za.e1 x.Set == 0 && (za.e2 x.Set == 0 && (za.e3 x.Set == 0 && true))))) with c | c
       ·have h:=h.1 c;rcases eft (decide (x.Lo≥0)) with e | e
        ·have h:=h.1 e;rcases eft (decide (x.Lo≤20)) with g | g
         ·have h:=h.1 g;rcases eft (x.Hi == (-1:Int) || decide (x.Hi≥if true=true then if x.Lo > 1 then x.Lo else 1 else if x.Lo < 1 then x.Lo else 1) && decide (x.Hi≤20)) with j | j
          ·have h:=h.1 j;rcases eft ((↑(List.length (List.map zc x.Kids)):Int) == 1) with f | f
           ·have h:=h.1 f;obtain ⟨W,h⟩:=h;obtain ⟨r0,M,h⟩:=h;refine sO (g1 c 1113 (g2 g e 444613 (g2 f j 44446111 (nd (show (0:Int)≤(0:Int) from by first | decide | rfl | trivial) (el (show (List.map zc x.Kids)[(Int.toNat (0:Int):Nat)]?=some (zco (List.getD x.Kids (0:Nat) default)) from by have:=zb7 zc x.Kids ((0:Nat)) _ (zC _) (((((W c) e) g) j) f);simpa only [nm,enq,zC] using this) (g1 f 1111 (ca M (g1 f 3 oN)))))))) [4,7,14,16,22] [(13,vB r0)] ?_;refine tD ?_;subst h;exact (endQ []).1
           ·have h:=h.2 f;refine sO (g1 c 1113 (g2 g e 444613 (g2 f j 4444611111113 oN))) [4,7,14,16,22] [(13,vB false)] ?_;refine tD ?_;subst h;exact (endQ []).1
          ·have h:=h.2 j;refine sO (g2 e c 44461113 (g2 j g 461111388888888 oN)) [4,7,14,16,22] [(13,vB false)] ?_;refine tD ?_;subst h;exact (endQ []).1
         ·have h:=h.2 g;refine sO (g1 c 1113 (g2 g e 4446138888888888888 oN)) [4,7,14,16,22] [(13,vB false)] ?_;refine tD ?_;subst h;exact (endQ []).1
        ·have h:=h.2 e;refine sO (g2 e c 44461113888888888888888 oN) [4,7,14,16,22] [(13,vB false)] ?_;refine tD ?_;subst h;exact (endQ []).1
       ·have h:=h.2 c;refine sO (g1 c 11138888888888888888888 oN) [4,7,14,16,22] [(13,vB false)] ?_;refine tD ?_;subst h;exact (endQ []).1
      ·rcases eft (x.Hi == (-1:Int)) with p | p
       ·refine sO (g1 p 222222223 oN) [19,73,151] [(22,vB true)] ?_;exact Sem.cast (by try rw [p];kernel_rfl) a
       ·rcases eft (decide (x.Hi≥if true=true then if x.Lo > 1 then x.Lo else 1 else if x.Lo < 1 then x.Lo else 1)) with o | o
        ·refine sO (g2 p o 2222222444263 oN) [19,73,151] [(22,vB (decide (x.Hi≤20)))] ?_;exact Sem.cast (by try rw [p];try rw [o];kernel_rfl) a
        ·refine sO (g2 p o 2222222444263 oN) [19,73,151] [(22,vB false)] ?_;exact Sem.cast (by try rw [p];try rw [o];kernel_rfl) a
     ·obtain ⟨A,S,h⟩:=h;refine sjE A [73,151] (fun w=>[(295,vB w)]) ?_ ?_
      ·rintro w hj;have h:=S w hj;refine cH 98 h (fun R h=>?_) (fun R h=>?_)
       ·refine qD ?_;refine sM [16,19,295] [(334,vB (!(za.e0 x.Set == 0 && (za.e1 x.Set == 0 && (za.e2 x.Set == 0 && (za.e3 x.Set == 0 && true)))) || (!(x.Lo == 0 && x.Hi == 0) || decide ((↑(List.length x.Kids):Int) < 2))))] ?_ (fun a=>?_)
        ·refine cH 111 h (fun O h=>?_) (fun O h=>?_)
         ·refine sO oN [4,7,14,334] [(13,vB false)] ?_;refine tD ?_;subst h;exact (endQ []).1
         ·refine kD ?_;show Sem _ _ _ _ _;refine wkD [334] ?_;refine qD ?_;refine sO oN [] [(25,vi 0)] ?_;refine bD (id:=1) ?_;obtain ⟨l,u,D,F⟩:=h;refine loE [] (fun i=>[(25,vi i)]) l u 0 [] D ?_;rintro i hi;have h:=F i hi;refine qD ?_;refine sV oN [] (List.length (List.map zc x.Kids)) (List.length x.Kids) (fun q=>[(349,vB (decide (i < (↑(q):Int))))]) ?_;refine cH 116 h (fun I h=>?_) (fun I h=>?_)
          ·refine kD ?_;show Sem _ _ _ _ _;refine wkD [349] ?_;refine qD ?_;refine bD (id:=2) ?_;obtain ⟨Q,h⟩:=h;obtain ⟨J,h⟩:=h;rcases eft ((gd x.Kids i).Kind == x.Kind) with d | d
           ·have h:=h.1 d;refine sO (xo zc (zC _) Q J (g1 d 2222222223 oN)) [] [(415,vB true)] ?_;refine cD (t:=138) (b:=true) (fun H=>?_) (fun H=>?_)
            ·refine sO oN [4,7,14,25,415] [(13,vB false)] ?_;refine tD ?_;subst h;exact (endQ []).1
            ·cases H
           ·have h:=h.2 d;obtain ⟨a1,h⟩:=h;obtain ⟨Y,h⟩:=h;obtain ⟨v,V,h⟩:=h;refine sO (xo zc (zC _) Q J (g1 d 2222 (xo zc (zC _) (a1 d) (Y d) (g1 d 2222 (ca V (g1 d 23 oN)))))) [] [(415,vB (!v))] ?_;refine cH 138 h (fun U h=>?_) (fun U h=>?_)
            ·refine sO oN [4,7,14,25,415] [(13,vB false)] ?_;refine tD ?_;subst h;exact (endQ []).1
            ·refine kD ?_;show Sem _ _ _ _ _;refine wkD [415] ?_;refine rO oN [] [(25,vi (w64 (i+1)))] ?_;exact lD (w64 (i+1)) [] h
          ·refine xD (i:=1) ?_;show Sem _ _ _ _ _;refine wkD [4,7,14,25,349] ?_;refine sO oN [] [(13,vB true)] ?_;refine tD ?_;subst h;exact (endQ []).1
        ·rcases eft (!(za.e0 x.Set == 0 && (za.e1 x.Set == 0 && (za.e2 x.Set == 0 && (za.e3 x.Set == 0 && true))))) with k | k
         ·refine sO (g1 k 22388887 oN) [16,19,295] [(334,vB true)] ?_;exact Sem.cast (by try rw [k];kernel_rfl) a
         ·rcases eft (!(x.Lo == 0 && x.Hi == 0)) with n | n
          ·refine sO (g2 n k 55622223 oN) [16,19,295] [(334,vB true)] ?_;exact Sem.cast (by try rw [k];try rw [n];kernel_rfl) a
          ·refine sV (g2 n k 55622223 oN) [16,19,295] (List.length (List.map zc x.Kids)) (List.length x.Kids) (fun q=>[(334,vB (decide ((↑(q):Int) < 2)))]) ?_;exact Sem.cast (by try rw [k];try rw [n];kernel_rfl) a
       ·refine kD ?_;show Sem _ _ _ _ _;refine wkD [4,7,14,16,19,295] ?_;refine sO oN [] [(13,vB false)] ?_;refine tD ?_;subst h;exact (endQ []).1
      ·refine sO oN [151] [(295,vB (x.Kind == 3))] ?_;refine cH 98 h (fun N h=>?_) (fun N h=>?_)
       ·refine kD ?_;exact jD (x.Kind == 3) [] h
       ·refine rO oN [73] [(295,vB (x.Kind == 4))] ?_;exact jD (x.Kind == 4) [] h
  ·rcases eft (x.Lo == 0) with E | E
   ·refine sO (g1 E 1113 oN) [] [(19,vB (x.Hi == 0))] ?_;exact Sem.cast (by try rw [E];kernel_rfl) a
   ·refine sO (g1 E 1113 oN) [] [(19,vB false)] ?_;exact Sem.cast (by try rw [E];kernel_rfl) a
theorem zfP (x:zj) (res:Int)
 (h:(ck (x.Kind == 2) (res=1) (∃ J3:Bool→Prop,(∀ (t9:Bool),J3 t9→(ck (t9) (∃ (c:Int→Int→Prop) (d:Int→Int→Nat),c 0 0∧(∀ (n:Int) (i:Int),c n i→(ck (decide (i < (↑(List.length x.Kids):Int))) ((0≤i)∧i < ↑(List.length x.Kids)∧(∃ b:Int,zai (gd x.Kids i) b∧(ck (decide (w64 (n+b) > 1000000)) (res=(1000000)) (c (w64 (n+b)) (w64 (i+1))∧d (w64 (n+b)) (w64 (i+1)) < d n i)))) (∃ e:Int→Prop,(∀ (a:Int),e a→(res=(if false=true then if 1000000 > a then 1000000 else a else if 1000000 < a then 1000000 else a)))∧(ck (x.Kind == 5) (e (w64 (n * if (if false=true then if (if x.Hi > x.Lo then x.Hi else x.Lo) > 1000 then if x.Hi > x.Lo then x.Hi else x.Lo else 1000 else if (if x.Hi > x.Lo then x.Hi else x.Lo) < 1000 then if x.Hi > x.Lo then x.Hi else x.Lo else 1000) > 1 then if false=true then if (if x.Hi > x.Lo then x.Hi else x.Lo) > 1000 then if x.Hi > x.Lo then x.Hi else x.Lo else 1000 else if (if x.Hi > x.Lo then x.Hi else x.Lo) < 1000 then if x.Hi > x.Lo then x.Hi else x.Lo else 1000 else 1))) (e n)))))) (res=0)))∧(ck (x.Kind == 3) (J3 (x.Kind == 3)) (ck (x.Kind == 4) (J3 (x.Kind == 4)) (J3 (x.Kind == 5))))))):zai x res:=by
 unfold zai;have kk:=cfOk [] 44;refine fD (x:=bodyOf Tryz.f26) kk Tryz.func26 ?_;refine wkS [1] [(1,zu x)] (by kernel_rfl) ?_;refine sO oN [1] [(4,.ptr 8 0),(8,zu x)] ?_;refine qD ?_;refine sO oN [] [(19,vi x.Kind)] ?_;refine bD (id:=0) ?_;refine sO oN [] [(22,vB (x.Kind == 2))] ?_;refine cH 7 h (fun s h=>?_) (fun s h=>?_)
 ·refine sO oN [4,8,19,22] [(7,vi 1)] ?_;refine tD ?_;subst h;exact (endQ []).1
 ·obtain ⟨J3,t,h⟩:=h;refine sjE J3 [19,22] (fun t9=>[(28,vB t9)]) ?_ ?_
  ·rintro t9 hj;have h:=t t9 hj;refine cH 9 h (fun u h=>?_) (fun u h=>?_)
   ·refine sO oN [28] [(10,vi 0)] ?_;refine qD ?_;refine sO oN [] [(13,vi 0)] ?_;refine bD (id:=1) ?_;obtain ⟨c,d,f,g⟩:=h;refine loE [] (u2 fun n i=>[(10,vi n),(13,vi i)]) (u2 c) (u2 d) (0,0) [] f ?_;rintro ⟨n,i⟩ hi;have h:=g n i hi;refine qD ?_;refine sV oN [] (List.length (List.map zc x.Kids)) (List.length x.Kids) (fun q=>[(52,vB (decide (i < (↑(q):Int))))]) ?_;refine cH 17 h (fun p h=>?_) (fun p h=>?_)
    ·refine kD ?_;show Sem _ _ _ _ _;refine wkD [52] ?_;refine qD ?_;refine bD (id:=2) ?_;obtain ⟨w,h⟩:=h;obtain ⟨v,h⟩:=h;obtain ⟨b,r,h⟩:=h;refine sO (xo zc (zC _) w v (ca r oN)) [] [(10,vi (w64 (n+b)))] ?_;refine sO oN [] [(88,vB (decide (w64 (n+b) > 1000000)))] ?_;refine cH 29 h (fun o h=>?_) (fun o h=>?_)
     ·refine sO oN [4,8,10,13,88] [(7,vi (1000000))] ?_;refine tD ?_;subst h;exact (endQ []).1
     ·refine kD ?_;show Sem _ _ _ _ _;refine wkD [88] ?_;refine rO oN [] [(13,vi (w64 (i+1)))] ?_;exact lD ((w64 (n+b)),(w64 (i+1))) [] h
    ·refine xD (i:=1) ?_;show Sem _ _ _ _ _;refine wkD [13,52] ?_;obtain ⟨e,k,h⟩:=h;refine sjD e (fun a=>[(10,vi a)]) ?_ ?_
     ·rintro a hj;have h:=k a hj;refine sO oN [10] [(7,vi (if false=true then if 1000000 > a then 1000000 else a else if 1000000 < a then 1000000 else a))] ?_;refine tD ?_;subst h;exact (endQ []).1
     ·refine sO oN [] [(97,vB (x.Kind == 5))] ?_;refine cH 32 h (fun l h=>?_) (fun l h=>?_)
      ·refine rOE oN [4,8,97] [(10,vi (w64 (n * if true=true then if (if false=true then if (if true=true then if x.Hi > x.Lo then x.Hi else x.Lo else if x.Hi < x.Lo then x.Hi else x.Lo) > 1000 then if true=true then if x.Hi > x.Lo then x.Hi else x.Lo else if x.Hi < x.Lo then x.Hi else x.Lo else 1000 else if (if true=true then if x.Hi > x.Lo then x.Hi else x.Lo else if x.Hi < x.Lo then x.Hi else x.Lo) < 1000 then if true=true then if x.Hi > x.Lo then x.Hi else x.Lo else if x.Hi < x.Lo then x.Hi else x.Lo else 1000) > 1 then if false=true then if (if true=true then if x.Hi > x.Lo then x.Hi else x.Lo else if x.Hi < x.Lo then x.Hi else x.Lo) > 1000 then if true=true then if x.Hi > x.Lo then x.Hi else x.Lo else if x.Hi < x.Lo then x.Hi else x.Lo else 1000 else if (if true=true then if x.Hi > x.Lo then x.Hi else x.Lo else if x.Hi < x.Lo then x.Hi else x.Lo) < 1000 then if true=true then if x.Hi > x.Lo then x.Hi else x.Lo else if x.Hi < x.Lo then x.Hi else x.Lo else 1000 else 1 else if (if false=true then if (if true=true then if x.Hi > x.Lo then x.Hi else x.Lo else if x.Hi < x.Lo then x.Hi else x.Lo) > 1000 then if true=true then if x.Hi > x.Lo then x.Hi else x.Lo else if x.Hi < x.Lo then x.Hi else x.Lo else 1000 else if (if true=true then if x.Hi > x.Lo then x.Hi else x.Lo else if x.Hi < x.Lo then x.Hi else x.Lo) < 1000 then if true=true then if x.Hi > x.Lo then x.Hi else x.Lo else if x.Hi < x.Lo then x.Hi else x.Lo else 1000) < 1 then if false=true then if (if true=true then if x.Hi > x.Lo then x.Hi else x.Lo else if x.Hi < x.Lo then x.Hi else x.Lo) > 1000 then if true=true then if x.Hi > x.Lo then x.Hi else x.Lo else if x.Hi < x.Lo then x.Hi else x.Lo else 1000 else if (if true=true then if x.Hi > x.Lo then x.Hi else x.Lo else if x.Hi < x.Lo then x.Hi else x.Lo) < 1000 then if true=true then if x.Hi > x.Lo then x.Hi else x.Lo else if x.Hi < x.Lo then x.Hi else x.Lo else 1000 else 1)))] [(10,vi (w64 (n * if (if false=true then if (if x.Hi > x.Lo then x.Hi else x.Lo) > 1000 then if x.Hi > x.Lo then x.Hi else x.Lo else 1000 else if (if x.Hi > x.Lo then x.Hi else x.Lo) < 1000 then if x.Hi > x.Lo then x.Hi else x.Lo else 1000) > 1 then if false=true then if (if x.Hi > x.Lo then x.Hi else x.Lo) > 1000 then if x.Hi > x.Lo then x.Hi else x.Lo else 1000 else if (if x.Hi > x.Lo then x.Hi else x.Lo) < 1000 then if x.Hi > x.Lo then x.Hi else x.Lo else 1000 else 1)))] ?_;exact jD (w64 (n * if (if false=true then if (if x.Hi > x.Lo then x.Hi else x.Lo) > 1000 then if x.Hi > x.Lo then x.Hi else x.Lo else 1000 else if (if x.Hi > x.Lo then x.Hi else x.Lo) < 1000 then if x.Hi > x.Lo then x.Hi else x.Lo else 1000) > 1 then if false=true then if (if x.Hi > x.Lo then x.Hi else x.Lo) > 1000 then if x.Hi > x.Lo then x.Hi else x.Lo else 1000 else if (if x.Hi > x.Lo then x.Hi else x.Lo) < 1000 then if x.Hi > x.Lo then x.Hi else x.Lo else 1000 else 1)) [] h
      ·refine kD ?_;exact jD n [] h
   ·refine kD ?_;show Sem _ _ _ _ _;refine wkD [4,8,28] ?_;refine sO oN [] [(7,vi 0)] ?_;refine tD ?_;subst h;exact (endQ []).1
  ·refine sO oN [22] [(28,vB (x.Kind == 3))] ?_;refine cH 9 h (fun m h=>?_) (fun m h=>?_)
   ·refine kD ?_;exact jD (x.Kind == 3) [] h
   ·refine sO oN [] [(28,vB (x.Kind == 4))] ?_;refine cH 9 h (fun j h=>?_) (fun j h=>?_)
    ·refine kD ?_;exact jD (x.Kind == 4) [] h
    ·refine rO oN [19] [(28,vB (x.Kind == 5))] ?_;exact jD (x.Kind == 5) [] h
theorem zfa (x:zj) (res:Bool)
 (h:(∃ r0:Bool,zaE x 20 r0∧(ck (r0) (∃ b:Int,zai x b∧(ck (decide (b≤200)) (∃ c:Int,zaG x (1000) c∧(res=(decide (c≥0)))) (res=false))) (res=false)))):zaF x res:=by
 unfold zaF;have kk:=cfOk [] 15;refine fD (x:=bodyOf Tryz.f71) kk Tryz.func71 ?_;refine wkS [1] [(1,zu x)] (by kernel_rfl) ?_;refine sO oN [1] [(4,.ptr 8 0),(8,zu x)] ?_;obtain ⟨r0,e,h⟩:=h;rcases eft (r0) with a | a
 ·have h:=h.1 a;obtain ⟨b,f,h⟩:=h;rcases eft (decide (b≤200)) with d | d
  ·have h:=h.1 d;obtain ⟨c,g,h⟩:=h;refine sO (ca e (g1 a 11 (ca f (g2 d a 4611 (ca g (g1 d 13 oN)))))) [4,8] [(7,vB (decide (c≥0)))] ?_;refine tD ?_;subst h;exact (endQ []).1
  ·have h:=h.2 d;refine sO (ca e (g1 a 11 (ca f (g2 d a 461113 oN)))) [4,8] [(7,vB false)] ?_;refine tD ?_;subst h;exact (endQ []).1
 ·have h:=h.2 a;refine sO (ca e (g1 a 11138888 oN)) [4,8] [(7,vB false)] ?_;refine tD ?_;subst h;exact (endQ []).1
theorem zfK (r0:zp) (c:Int) (res:Bool)
 (h:(∃ (s:Int→Prop) (F:Int→Nat),s 0∧(∀ (i:Int),s i→(ck (decide (i < (↑(List.length r0.Conds):Int))) ((0≤i)∧i < ↑(List.length r0.Conds)∧((decide (gd r0.Conds i < 0))=false→(0≤i))∧((decide (gd r0.Conds i < 0))=false→i < ↑(List.length r0.Conds))∧((decide (gd r0.Conds i < 0))=false→((decide (gd r0.Conds i≥c))=false→((decide (i > 0))=true→(0≤i))))∧((decide (gd r0.Conds i < 0))=false→((decide (gd r0.Conds i≥c))=false→((decide (i > 0))=true→i < ↑(List.length r0.Conds))))∧((decide (gd r0.Conds i < 0))=false→((decide (gd r0.Conds i≥c))=false→((decide (i > 0))=true→(0≤w64 (i - 1)))))∧((decide (gd r0.Conds i < 0))=false→((decide (gd r0.Conds i≥c))=false→((decide (i > 0))=true→w64 (i - 1) < ↑(List.length r0.Conds))))∧(ck (decide (gd r0.Conds i < 0) || (decide (gd r0.Conds i≥c) || decide (i > 0) && decide (gd r0.Conds i≤gd r0.Conds (w64 (i - 1))))) (res=false) (s (w64 (i+1))∧F (w64 (i+1)) < F i))) (ck (bif r0.All then decide ((↑(List.length (List.map zb r0.Conds)):Int) > 0) || (decide (r0.Act < 1) || (decide (r0.Act > 3) || (decide (r0.To < 0) || (decide (r0.To≥c) || r0.Act != 3 && r0.To != 0)))) else decide (r0.Act < 1) || (decide (r0.Act > 3) || (decide (r0.To < 0) || (decide (r0.To≥c) || r0.Act != 3 && r0.To != 0)))) (res=false) (ck r0.Eof (ck (!r0.Bol) (∃ E:Bool,zaP r0.Rx E∧(ck (E) (∃ D:Bool,zaP r0.Trail D∧(res=D)) (res=false))) (res=false)) (∃ I:Bool,zaF r0.Rx I∧(ck (I) (∃ H:Bool,zaP r0.Trail H∧(ck (H) (res=true) (∃ B:Bool,zaF r0.Trail B∧(res=B)))) (res=false))))))))):zaO r0 c res:=by
 unfold zaO;have kk:=cfOk [] 113;refine fD (x:=bodyOf Tryz.f85) kk Tryz.func85 ?_;refine wkS [1,4] [(1,zaj r0),(4,vi c)] (by kernel_rfl) ?_;refine sO oN [1] [(7,.ptr 14 0),(14,zaj r0)] ?_;refine qD ?_;refine sO oN [] [(16,vi 0)] ?_;refine bD (id:=0) ?_;obtain ⟨s,F,J,N⟩:=h;refine loE [] (fun i=>[(16,vi i)]) s F 0 [] J ?_;rintro i hi;have h:=N i hi;refine qD ?_;refine sV oN [] (List.length (List.map zb r0.Conds)) (List.length r0.Conds) (fun q=>[(31,vB (decide (i < (↑(q):Int))))]) ?_;refine cH 10 h (fun a0 h=>?_) (fun a0 h=>?_)
 ·refine kD ?_;show Sem _ _ _ _ _;refine wkD [31] ?_;refine qD ?_;refine bD (id:=1) ?_;obtain ⟨O,h⟩:=h;obtain ⟨Q,h⟩:=h;obtain ⟨V,U,a3,a4,a6,a5,h⟩:=h;refine sM [] [(136,vB (decide (gd r0.Conds i < 0) || (decide (gd r0.Conds i≥c) || decide (i > 0) && decide (gd r0.Conds i≤gd r0.Conds (w64 (i - 1))))))] ?_ (fun j=>?_)
  ·refine cH 45 h (fun W h=>?_) (fun W h=>?_)
   ·refine sO oN [4,7,14,16,136] [(13,vB false)] ?_;refine tD ?_;subst h;exact (endQ []).1
   ·refine kD ?_;show Sem _ _ _ _ _;refine wkD [136] ?_;refine rO oN [] [(16,vi (w64 (i+1)))] ?_;exact lD (w64 (i+1)) [] h
  ·rcases eft (decide (gd r0.Conds i < 0)) with b | b
   ·refine sO (xo zb rfl O Q (g1 b 2222222388887 oN)) [] [(136,vB true)] ?_;exact Sem.cast (by try rw [b];kernel_rfl) j
   ·rcases eft (decide (gd r0.Conds i≥c)) with g | g
    ·refine sO (xo zb rfl O Q (g1 b 2222 (xo zb rfl (V b) (U b) (g2 g b 555622223 oN)))) [] [(136,vB true)] ?_;exact Sem.cast (by try rw [b];try rw [g];kernel_rfl) j
    ·rcases eft (decide (i > 0)) with l | l
     ·refine sO (xo zb rfl O Q (g1 b 2222 (xo zb rfl (V b) (U b) (g1 b 2223 (g2 l g 5551111 (xo zb rfl (((a3 b) g) l) (((a4 b) g) l) (g1 l 111111 (xo zb rfl (((a6 b) g) l) (((a5 b) g) l) (g2 g l 44263 oN))))))))) [] [(136,vB (decide (gd r0.Conds i≤gd r0.Conds (w64 (i - 1)))))] ?_;exact Sem.cast (by try rw [b];try rw [g];try rw [l];kernel_rfl) j
     ·refine sO (xo zb rfl O Q (g1 b 2222 (xo zb rfl (V b) (U b) (g1 b 2223 (g2 g l 222444444444444263 oN))))) [] [(136,vB false)] ?_;exact Sem.cast (by try rw [b];try rw [g];try rw [l];kernel_rfl) j
 ·refine xD (i:=0) ?_;show Sem _ _ _ _ _;refine wkD [16,31] ?_;refine qD ?_;refine sM [4] [(253,vB (bif r0.All then decide ((↑(List.length (List.map zb r0.Conds)):Int) > 0) || (decide (r0.Act < 1) || (decide (r0.Act > 3) || (decide (r0.To < 0) || (decide (r0.To≥c) || r0.Act != 3 && r0.To != 0)))) else decide (r0.Act < 1) || (decide (r0.Act > 3) || (decide (r0.To < 0) || (decide (r0.To≥c) || r0.Act != 3 && r0.To != 0)))))] ?_ (fun j=>?_)
  ·refine cH 84 h (fun a1 h=>?_) (fun a1 h=>?_)
   ·refine sO oN [7,14,253] [(13,vB false)] ?_;refine tD ?_;subst h;exact (endQ []).1
   ·refine kD ?_;show Sem _ _ _ _ _;refine wkD [253] ?_;refine qD ?_;refine sO oN [] [(259,vB r0.Eof)] ?_;refine cH 86 h (fun X h=>?_) (fun X h=>?_)
    ·rcases eft (!r0.Bol) with r | r
     ·have h:=h.1 r;obtain ⟨E,S,h⟩:=h;rcases eft (E) with w | w
      ·have h:=h.1 w;obtain ⟨D,a2,h⟩:=h;refine sO (g1 r 111 (ca S (g2 w r 6111 (ca a2 (g1 w 3 oN))))) [7,14,259] [(13,vB D)] ?_;refine tD ?_;subst h;exact (endQ []).1
      ·have h:=h.2 w;refine sO (g1 r 111 (ca S (g2 w r 61113 oN))) [7,14,259] [(13,vB false)] ?_;refine tD ?_;subst h;exact (endQ []).1
     ·have h:=h.2 r;refine sO (g1 r 11138888 oN) [7,14,259] [(13,vB false)] ?_;refine tD ?_;subst h;exact (endQ []).1
    ·refine kD ?_;show Sem _ _ _ _ _;refine wkD [259] ?_;obtain ⟨I,M,h⟩:=h;rcases eft (I) with n | n
     ·have h:=h.1 n;obtain ⟨H,R,h⟩:=h;rcases eft (H) with v | v
      ·have h:=h.1 v;refine sO (ca M (g1 n 111 (ca R (g2 n v 1555163 oN)))) [7,14] [(13,vB true)] ?_;refine tD ?_;subst h;exact (endQ []).1
      ·have h:=h.2 v;obtain ⟨B,Y,h⟩:=h;refine sO (ca M (g1 n 111 (ca R (g2 v n 4222 (ca Y (g2 n v 163 oN)))))) [7,14] [(13,vB B)] ?_;refine tD ?_;subst h;exact (endQ []).1
     ·have h:=h.2 n;refine sO (ca M (g1 n 111113 oN)) [7,14] [(13,vB false)] ?_;refine tD ?_;subst h;exact (endQ []).1
  ·rcases eft r0.All with a | a
   ·rcases eft (decide ((↑(List.length (List.map zb r0.Conds)):Int) > 0)) with d | d
    ·refine sO (g2 d a 4444622238887888788887888887 oN) [4] [(253,vB true)] ?_;exact Sem.cast (by try rw [a];try rw [d];kernel_rfl) j
    ·rcases eft (decide (r0.Act < 1)) with e | e
     ·refine sO (g1 a 11113 (g2 e d 55562223888788887888887 oN)) [4] [(253,vB true)] ?_;exact Sem.cast (by try rw [a];try rw [d];try rw [e];kernel_rfl) j
     ·rcases eft (decide (r0.Act > 3)) with m | m
      ·refine sO (g2 d a 444462223 (g2 m e 5556222388887888887 oN)) [4] [(253,vB true)] ?_;exact Sem.cast (by try rw [a];try rw [d];try rw [e];try rw [m];kernel_rfl) j
      ·rcases eft (decide (r0.To < 0)) with p | p
       ·refine sO (g1 a 11113 (g2 e d 55562223 (g2 p m 555622223888887 oN))) [4] [(253,vB true)] ?_;exact Sem.cast (by try rw [a];try rw [d];try rw [e];try rw [m];try rw [p];kernel_rfl) j
       ·rcases eft (decide (r0.To≥c)) with t | t
        ·refine sO (g2 d a 444462223 (g2 m e 55562223 (g2 t p 55556222223 oN))) [4] [(253,vB true)] ?_;exact Sem.cast (by try rw [a];try rw [d];try rw [e];try rw [m];try rw [p];try rw [t];kernel_rfl) j
        ·rcases eft (r0.Act != 3) with A | A
         ·refine sO (g1 a 11113 (g2 e d 55562223 (g2 p m 555622223 (g2 t A 2222444263 oN)))) [4] [(253,vB (r0.To != 0))] ?_;exact Sem.cast (by try rw [a];try rw [d];try rw [e];try rw [m];try rw [p];try rw [t];try rw [A];kernel_rfl) j
         ·refine sO (g1 a 11113 (g2 e d 55562223 (g2 p m 555622223 (g2 t A 2222444263 oN)))) [4] [(253,vB false)] ?_;exact Sem.cast (by try rw [a];try rw [d];try rw [e];try rw [m];try rw [p];try rw [t];try rw [A];kernel_rfl) j
   ·rcases eft (decide (r0.Act < 1)) with f | f
    ·refine sO (g2 f a 4444677782223888788887888887 oN) [4] [(253,vB true)] ?_;exact Sem.cast (by try rw [a];try rw [f];kernel_rfl) j
    ·rcases eft (decide (r0.Act > 3)) with k | k
     ·refine sO (g1 a 11113 (g2 k f 77785556222388887888887 oN)) [4] [(253,vB true)] ?_;exact Sem.cast (by try rw [a];try rw [f];try rw [k];kernel_rfl) j
     ·rcases eft (decide (r0.To < 0)) with o | o
      ·refine sO (g2 f a 4444677782223 (g2 o k 555622223888887 oN)) [4] [(253,vB true)] ?_;exact Sem.cast (by try rw [a];try rw [f];try rw [k];try rw [o];kernel_rfl) j
      ·rcases eft (decide (r0.To≥c)) with u | u
       ·refine sO (g1 a 11113 (g2 k f 777855562223 (g2 u o 55556222223 oN))) [4] [(253,vB true)] ?_;exact Sem.cast (by try rw [a];try rw [f];try rw [k];try rw [o];try rw [u];kernel_rfl) j
       ·rcases eft (r0.Act != 3) with y | y
        ·refine sO (g2 f a 4444677782223 (g2 o k 555622223 (g2 u y 2222444263 oN))) [4] [(253,vB (r0.To != 0))] ?_;exact Sem.cast (by try rw [a];try rw [f];try rw [k];try rw [o];try rw [u];try rw [y];kernel_rfl) j
        ·refine sO (g2 f a 4444677782223 (g2 o k 555622223 (g2 u y 2222444263 oN))) [4] [(253,vB false)] ?_;exact Sem.cast (by try rw [a];try rw [f];try rw [k];try rw [o];try rw [u];try rw [y];kernel_rfl) j
end Go.Ev
namespace Go.Ev
open Go Go.Proofs
set_option maxRecDepth 8000
set_option maxHeartbeats 1000000
theorem ze8 (s0:zx) (res:Bool)
 (h:((decide ((↑(List.length (List.map zm s0.Conds)):Int) < 1))=false→((decide ((↑(List.length (List.map zm s0.Conds)):Int) > 8))=false→0 < List.length s0.Conds))∧(ck (decide ((↑(List.length (List.map zm s0.Conds)):Int) < 1) || (decide ((↑(List.length (List.map zm s0.Conds)):Int) > 8) || (!(ByteArray.toList (List.getD s0.Conds 0 default).Name == ByteArray.toList { data:=#[(73:UInt8),(78:UInt8),(73:UInt8),(84:UInt8),(73:UInt8),(65:UInt8),(76:UInt8)] } && ((List.getD s0.Conds 0 default).Exclusive == false && true)) || decide ((↑(List.length s0.Rules):Int) > 40)))) (res=false) (∃ (g:Int→Prop) (l:Int→Nat),g 0∧(∀ (i:Int),g i→(ck (decide (i < (↑(List.length s0.Conds):Int))) ((0≤i)∧i < ↑(List.length s0.Conds)∧(∃ n:Bool,zbC (gd s0.Conds i).Name n∧(ck (!n) (res=false) (∃ (c:Int→Prop) (m:Int→Nat),c 0∧(∀ (b:Int),c b→(ck (decide (b < i)) ((0≤b)∧b < ↑(List.length s0.Conds)∧(0≤i)∧i < ↑(List.length s0.Conds)∧(ck (ByteArray.toList (gd s0.Conds b).Name == ByteArray.toList (gd s0.Conds i).Name) (res=false) (c (w64 (b+1))∧m (w64 (b+1)) < m b))) (g (w64 (i+1))∧l (w64 (i+1)) < l i))))))) (∃ (e:Int→Prop) (k:Int→Nat),e 0∧(∀ (a:Int),e a→(ck (decide (a < (↑(List.length s0.Rules):Int))) ((0≤a)∧a < ↑(List.length s0.Rules)∧(∃ j:Bool,zaO (gd s0.Rules a) ((↑(List.length s0.Conds):Int)) j∧(ck (!j) (res=false) (e (w64 (a+1))∧k (w64 (a+1)) < k a)))) (res=true))))))))):za2 s0 res:=by
 unfold za2;have kk:=cfOk [] 80;refine fD (x:=bodyOf Tryz.f44) kk Tryz.func44 ?_;refine wkS [1] [(1,zQ s0)] (by kernel_rfl) ?_;refine sO oN [1] [(4,.ptr 8 0),(8,zQ s0)] ?_;refine qD ?_;obtain ⟨h2,h⟩:=h;refine sM [] [(88,vB (decide ((↑(List.length (List.map zm s0.Conds)):Int) < 1) || (decide ((↑(List.length (List.map zm s0.Conds)):Int) > 8) || (!(ByteArray.toList (List.getD s0.Conds 0 default).Name == ByteArray.toList { data:=#[(73:UInt8),(78:UInt8),(73:UInt8),(84:UInt8),(73:UInt8),(65:UInt8),(76:UInt8)] } && ((List.getD s0.Conds 0 default).Exclusive == false && true)) || decide ((↑(List.length s0.Rules):Int) > 40)))))] ?_ (fun v=>?_)
 ·refine cH 29 h (fun V h=>?_) (fun V h=>?_)
  ·refine sO oN [4,8,88] [(7,vB false)] ?_;refine tD ?_;subst h;exact (endQ []).1
  ·refine kD ?_;show Sem _ _ _ _ _;refine wkD [88] ?_;refine qD ?_;refine sO oN [] [(10,vi 0)] ?_;refine bD (id:=0) ?_;obtain ⟨g,l,r,u⟩:=h;refine loE [] (fun i=>[(10,vi i)]) g l 0 [] r ?_;rintro i hi;have h:=u i hi;refine qD ?_;refine sV oN [] (List.length (List.map zm s0.Conds)) (List.length s0.Conds) (fun q=>[(103,vB (decide (i < (↑(q):Int))))]) ?_;refine cH 34 h (fun E h=>?_) (fun E h=>?_)
   ·refine kD ?_;show Sem _ _ _ _ _;refine wkD [103] ?_;refine qD ?_;refine bD (id:=1) ?_;refine qD ?_;obtain ⟨S,h⟩:=h;obtain ⟨O,h⟩:=h;obtain ⟨n,A,h⟩:=h;refine sO (xo zm (z7 _) S O (ca A oN)) [] [(133,vB (!n))] ?_;refine cH 44 h (fun H h=>?_) (fun H h=>?_)
    ·refine sO oN [4,8,10,133] [(7,vB false)] ?_;refine tD ?_;subst h;exact (endQ []).1
    ·refine kD ?_;show Sem _ _ _ _ _;refine wkD [133] ?_;refine sO oN [] [(13,vi 0)] ?_;refine bD (id:=2) ?_;obtain ⟨c,m,s,w⟩:=h;refine loE [] (fun b=>[(13,vi b)]) c m 0 [] s ?_;rintro b hi;have h:=w b hi;refine qD ?_;refine sO oN [] [(142,vB (decide (b < i)))] ?_;refine cH 47 h (fun D h=>?_) (fun D h=>?_)
     ·refine kD ?_;show Sem _ _ _ _ _;refine wkD [142] ?_;refine qD ?_;refine bD (id:=3) ?_;obtain ⟨Q,h⟩:=h;obtain ⟨J,h⟩:=h;obtain ⟨N,h⟩:=h;obtain ⟨R,h⟩:=h;refine sO (xo zm (z7 _) Q J (xo zm (z7 _) N R oN)) [] [(187,vB (ByteArray.toList (gd s0.Conds b).Name == ByteArray.toList (gd s0.Conds i).Name))] ?_;refine cH 62 h (fun F h=>?_) (fun F h=>?_)
      ·refine sO oN [4,8,10,13,187] [(7,vB false)] ?_;refine tD ?_;subst h;exact (endQ []).1
      ·refine kD ?_;show Sem _ _ _ _ _;refine wkD [187] ?_;refine rO oN [] [(13,vi (w64 (b+1)))] ?_;exact lD (w64 (b+1)) [] h
     ·refine xD (i:=2) ?_;show Sem _ _ _ _ _;refine wkD [13,142] ?_;refine rO oN [] [(10,vi (w64 (i+1)))] ?_;exact lD (w64 (i+1)) [] h
   ·refine xD (i:=0) ?_;show Sem _ _ _ _ _;refine wkD [10,103] ?_;refine qD ?_;refine sO oN [] [(16,vi 0)] ?_;refine bD (id:=4) ?_;obtain ⟨e,k,p,t⟩:=h;refine loE [] (fun a=>[(16,vi a)]) e k 0 [] p ?_;rintro a hi;have h:=t a hi;refine qD ?_;refine sV oN [] (List.length (List.map zt s0.Rules)) (List.length s0.Rules) (fun q=>[(202,vB (decide (a < (↑(q):Int))))]) ?_;refine cH 67 h (fun I h=>?_) (fun I h=>?_)
    ·refine kD ?_;show Sem _ _ _ _ _;refine wkD [202] ?_;refine qD ?_;refine bD (id:=5) ?_;obtain ⟨U,h⟩:=h;obtain ⟨M,h⟩:=h;obtain ⟨j,B,h⟩:=h;refine sO (xo zt (zaL _) U M (ca (Eq.mp (by unfold zaO;(try simp only [List.drop_zero,List.take_length]);first | done | simp only [nm,enq]:zaO (gd s0.Rules a) ((↑(List.length s0.Conds):Int)) j=CallE Tryz.prog 85 [.agg [vL zb (gd s0.Rules a).Conds,vB (gd s0.Rules a).All,vB (gd s0.Rules a).Bol,vi (zj.Kind (gd s0.Rules a).Rx),vI .u64 (zj.Set (gd s0.Rules a).Rx).e0,vI .u64 (zj.Set (gd s0.Rules a).Rx).e1,vI .u64 (zj.Set (gd s0.Rules a).Rx).e2,vI .u64 (zj.Set (gd s0.Rules a).Rx).e3,vi (zj.Lo (gd s0.Rules a).Rx),vi (zj.Hi (gd s0.Rules a).Rx),vL zc (zj.Kids (gd s0.Rules a).Rx),vi (zj.Kind (gd s0.Rules a).Trail),vI .u64 (zj.Set (gd s0.Rules a).Trail).e0,vI .u64 (zj.Set (gd s0.Rules a).Trail).e1,vI .u64 (zj.Set (gd s0.Rules a).Trail).e2,vI .u64 (zj.Set (gd s0.Rules a).Trail).e3,vi (zj.Lo (gd s0.Rules a).Trail),vi (zj.Hi (gd s0.Rules a).Trail),vL zc (zj.Kids (gd s0.Rules a).Trail),vB (gd s0.Rules a).Eof,vi (gd s0.Rules a).Act,vi (gd s0.Rules a).To],vi ((↑(List.length (List.map zm s0.Conds)):Int))] [] (vB j) []) B) oN)) [] [(238,vB (!j))] ?_;refine cH 79 h (fun y h=>?_) (fun y h=>?_)
     ·refine sO oN [4,8,16,238] [(7,vB false)] ?_;refine tD ?_;subst h;exact (endQ []).1
     ·refine kD ?_;show Sem _ _ _ _ _;refine wkD [238] ?_;refine rO oN [] [(16,vi (w64 (a+1)))] ?_;exact lD (w64 (a+1)) [] h
    ·refine xD (i:=4) ?_;show Sem _ _ _ _ _;refine wkD [4,8,16,202] ?_;refine sO oN [] [(7,vB true)] ?_;refine tD ?_;subst h;exact (endQ []).1
 ·rcases eft (decide ((↑(List.length (List.map zm s0.Conds)):Int) < 1)) with f | f
  ·refine sO (g1 f 22223888888788887 oN) [] [(88,vB true)] ?_;exact Sem.cast (by try rw [f];kernel_rfl) v
  ·rcases eft (decide ((↑(List.length (List.map zm s0.Conds)):Int) > 8)) with d | d
   ·refine sO (g2 d f 55556222222388887 oN) [] [(88,vB true)] ?_;exact Sem.cast (by try rw [f];try rw [d];kernel_rfl) v
   ·rcases eft (!(ByteArray.toList (List.getD s0.Conds 0 default).Name == ByteArray.toList { data:=#[(73:UInt8),(78:UInt8),(73:UInt8),(84:UInt8),(73:UInt8),(65:UInt8),(76:UInt8)] } && ((List.getD s0.Conds 0 default).Exclusive == false && true))) with o | o
    ·refine sO (g2 d f 55556222 (nd (show (0:Int)≤(0:Int) from by first | decide | rfl | trivial) (el (show (List.map zm s0.Conds)[(Int.toNat (0:Int):Nat)]?=some (zbZ (List.getD s0.Conds (0:Nat) default)) from by have:=zb7 zm s0.Conds ((0:Nat)) _ (z7 _) ((h2 f) d);simpa only [nm,enq,z7] using this) (g2 o d 555622223 oN)))) [] [(88,vB true)] ?_;exact Sem.cast (by try rw [f];try rw [d];try rw [o];kernel_rfl) v
    ·refine sV (g2 d f 55556222 (nd (show (0:Int)≤(0:Int) from by first | decide | rfl | trivial) (el (show (List.map zm s0.Conds)[(Int.toNat (0:Int):Nat)]?=some (zbZ (List.getD s0.Conds (0:Nat) default)) from by have:=zb7 zm s0.Conds ((0:Nat)) _ (z7 _) ((h2 f) d);simpa only [nm,enq,z7] using this) (g2 o d 555622223 oN)))) [] (List.length (List.map zt s0.Rules)) (List.length s0.Rules) (fun q=>[(88,vB (decide ((↑(q):Int) > 40)))]) ?_;exact Sem.cast (by try rw [f];try rw [d];try rw [o];kernel_rfl) v
theorem zge (s0:zx) (w0:ByteArray) (res:Bool)
 (h:(∃ r0:Bool,za2 s0 r0∧(res=(r0 && decide ((↑(ByteArray.size w0):Int)≤10000))))):zck s0 w0 res:=by
 unfold zck;have kk:=cfOk [] 12;refine fD (x:=bodyOf Tryz.f60) kk Tryz.func60 ?_;refine wkS [1,4] [(1,zQ s0),(4,vS w0)] (by kernel_rfl) ?_;refine sO oN [1] [(7,.ptr 14 0),(14,zQ s0)] ?_;obtain ⟨r0,c,h⟩:=h;refine sM [4,7,14] [(13,vB (r0 && decide ((↑(ByteArray.size w0):Int)≤10000)))] ?_ (fun b=>?_)
 ·refine tD ?_;subst h;exact (endQ []).1
 ·rcases eft (r0) with a | a
  ·refine sO (ca c (g1 a 1113 oN)) [4,7,14] [(13,vB (decide ((↑(ByteArray.size w0):Int)≤10000)))] ?_;exact Sem.cast (by try rw [a];kernel_rfl) b
  ·refine sO (ca c (g1 a 1113 oN)) [4,7,14] [(13,vB false)] ?_;exact Sem.cast (by try rw [a];kernel_rfl) b
theorem zeB (s0:zx) (a:Int) (cond:Int) (res:Bool)
 (h:(ck (decide (a < 0) || (decide (a≥(↑(List.length (List.map zt s0.Rules)):Int)) || (decide (cond < 0) || decide (cond≥(↑(List.length s0.Conds):Int))))) (res=false) ((0≤a)∧a < ↑(List.length s0.Rules)∧(ck (gd s0.Rules a).All (res=true) (∃ (c:Int→Prop) (g:Int→Nat),c 0∧(∀ (i:Int),c i→(ck (decide (i < (↑(List.length (gd s0.Rules a).Conds):Int))) ((0≤i)∧i < ↑(List.length (gd s0.Rules a).Conds)∧(ck (gd (gd s0.Rules a).Conds i == cond) (res=true) (c (w64 (i+1))∧g (w64 (i+1)) < g i))) ((((↑(List.length (List.map zb (gd s0.Rules a).Conds)):Int) == 0)=true→(0≤cond))∧(((↑(List.length (List.map zb (gd s0.Rules a).Conds)):Int) == 0)=true→cond < ↑(List.length s0.Conds))∧(res=((↑(List.length (gd s0.Rules a).Conds):Int) == 0 && !(gd s0.Conds cond).Exclusive)))))))))):zbh s0 a cond res:=by
 unfold zbh;have kk:=cfOk [] 63;refine fD (x:=bodyOf Tryz.f46) kk Tryz.func46 ?_;refine wkS [1,4,7] [(1,zQ s0),(4,vi a),(7,vi cond)] (by kernel_rfl) ?_;refine sO oN [1] [(10,.ptr 20 0),(20,zQ s0)] ?_;refine qD ?_;refine sM [] [(85,vB (decide (a < 0) || (decide (a≥(↑(List.length (List.map zt s0.Rules)):Int)) || (decide (cond < 0) || decide (cond≥(↑(List.length s0.Conds):Int))))))] ?_ (fun e=>?_)
 ·refine cH 28 h (fun o h=>?_) (fun o h=>?_)
  ·refine sO oN [4,7,10,20,85] [(19,vB false)] ?_;refine tD ?_;obtain he0:=h;subst res;exact (endD [] (vB false) []).1
  ·refine kD ?_;show Sem _ _ _ _ _;refine wkD [85] ?_;obtain ⟨h4,h⟩:=h;obtain ⟨h5,h⟩:=h;refine sO (xo zt (zaL _) h4 h5 oN) [4] [(22,.ptr 44 0),(44,zaj (gd s0.Rules a))] ?_;refine qD ?_;refine sO oN [] [(106,vB (gd s0.Rules a).All)] ?_;refine cH 35 h (fun u h=>?_) (fun u h=>?_)
   ·refine sO oN [7,10,20,22,44,106] [(19,vB true)] ?_;refine tD ?_;obtain he0:=h;subst res;exact (endD [] (vB true) []).1
   ·refine kD ?_;show Sem _ _ _ _ _;refine wkD [106] ?_;refine qD ?_;refine sO oN [] [(25,vi 0)] ?_;refine bD (id:=0) ?_;obtain ⟨c,g,k,l⟩:=h;refine loE [] (fun i=>[(25,vi i)]) c g 0 [] k ?_;rintro i hi;have h:=l i hi;refine qD ?_;refine sV oN [] (List.length (List.map zb (gd s0.Rules a).Conds)) (List.length (gd s0.Rules a).Conds) (fun q=>[(121,vB (decide (i < (↑(q):Int))))]) ?_;refine cH 40 h (fun m h=>?_) (fun m h=>?_)
    ·refine kD ?_;show Sem _ _ _ _ _;refine wkD [121] ?_;refine qD ?_;refine bD (id:=1) ?_;obtain ⟨s,h⟩:=h;obtain ⟨r,h⟩:=h;refine sO (xo zb rfl s r oN) [] [(148,vB (gd (gd s0.Rules a).Conds i == cond))] ?_;refine cH 49 h (fun n h=>?_) (fun n h=>?_)
     ·refine sO oN [7,10,20,22,25,44,148] [(19,vB true)] ?_;refine tD ?_;obtain he0:=h;subst res;exact (endD [] (vB true) []).1
     ·refine kD ?_;show Sem _ _ _ _ _;refine wkD [148] ?_;refine rO oN [] [(25,vi (w64 (i+1)))] ?_;exact lD (w64 (i+1)) [] h
    ·refine xD (i:=0) ?_;show Sem _ _ _ _ _;refine wkD [25,121] ?_;obtain ⟨t,p,h⟩:=h;refine sM [7,10,20,22,44] [(19,vB ((↑(List.length (List.map zb (gd s0.Rules a).Conds)):Int) == 0 && !(gd s0.Conds cond).Exclusive))] ?_ (fun e=>?_)
     ·refine tD ?_;obtain he0:=h;subst res;exact (endD [] (vB ((↑(List.length (List.map zb (gd s0.Rules a).Conds)):Int) == 0 && !(gd s0.Conds cond).Exclusive)) []).1
     ·rcases eft ((↑(List.length (List.map zb (gd s0.Rules a).Conds)):Int) == 0) with b | b
      ·refine sO (g1 b 1111 (xo zm (z7 _) (t b) (p b) (g1 b 1113 oN))) [7,10,20,22,44] [(19,vB (!(gd s0.Conds cond).Exclusive))] ?_;exact Sem.cast (by try rw [b];kernel_rfl) e
      ·refine sO (g1 b 11111113 oN) [7,10,20,22,44] [(19,vB false)] ?_;exact Sem.cast (by try rw [b];kernel_rfl) e
 ·rcases eft (decide (a < 0)) with d | d
  ·refine sO (g1 d 222223887888887 oN) [] [(85,vB true)] ?_;exact Sem.cast (by try rw [d];kernel_rfl) e
  ·rcases eft (decide (a≥(↑(List.length (List.map zt s0.Rules)):Int))) with f | f
   ·refine sO (g2 f d 555556223888887 oN) [] [(85,vB true)] ?_;exact Sem.cast (by try rw [d];try rw [f];kernel_rfl) e
   ·rcases eft (decide (cond < 0)) with j | j
    ·refine sO (g1 d 222223 (g2 j f 556222223 oN)) [] [(85,vB true)] ?_;exact Sem.cast (by try rw [d];try rw [f];try rw [j];kernel_rfl) e
    ·refine sV (g1 d 222223 (g2 j f 556222223 oN)) [] (List.length (List.map zm s0.Conds)) (List.length s0.Conds) (fun q=>[(85,vB (decide (cond≥(↑(q):Int))))]) ?_;exact Sem.cast (by try rw [d];try rw [f];try rw [j];kernel_rfl) e
theorem zgf (x:zj) (s0:ByteArray) (res:Bool)
 (h:(∃ r0:Bool,zaF x r0∧(res=(r0 && decide ((↑(ByteArray.size s0):Int)≤10000))))):zbQ x s0 res:=by
 unfold zbQ;have kk:=cfOk [] 12;refine fD (x:=bodyOf Tryz.f120) kk Tryz.func120 ?_;refine wkS [1,4] [(1,zu x),(4,vS s0)] (by kernel_rfl) ?_;refine sO oN [1] [(7,.ptr 14 0),(14,zu x)] ?_;obtain ⟨r0,c,h⟩:=h;refine sM [4,7,14] [(13,vB (r0 && decide ((↑(ByteArray.size s0):Int)≤10000)))] ?_ (fun b=>?_)
 ·refine tD ?_;subst h;exact (endQ []).1
 ·rcases eft (r0) with a | a
  ·refine sO (ca c (g1 a 1113 oN)) [4,7,14] [(13,vB (decide ((↑(ByteArray.size s0):Int)≤10000)))] ?_;exact Sem.cast (by try rw [a];kernel_rfl) b
  ·refine sO (ca c (g1 a 1113 oN)) [4,7,14] [(13,vB false)] ?_;exact Sem.cast (by try rw [a];kernel_rfl) b
theorem zgi (s0:za) (b:Int) (res:Bool)
 (h:(ck (decide (b≥0)) (ck (decide (b < 256)) ((w64 (Int.tdiv b 64)=0∨w64 (Int.tdiv b 64)=1∨w64 (Int.tdiv b 64)=2∨w64 (Int.tdiv b 64)=3)∧((decide (w64 (Int.tdiv b 64)=0))=true→((decide (b≥0))=true→((decide (b < 256))=true→((decide (w64 (Int.tdiv b 64)=0))=true→(0≤Int.tmod b 64))))∧(res=(IntKind.wrap IntKind.u64 (↑(BitVec.toNat (BitVec.ofInt (IntKind.bits IntKind.u64) (Int.fdiv s0.e0 (2 ^ Min.min (Int.toNat (Int.tmod b 64)) (IntKind.bits IntKind.u64))) &&& BitVec.ofInt (IntKind.bits IntKind.u64) 1)):Int) == 1)))∧((decide (w64 (Int.tdiv b 64)=1))=true→((decide (b≥0))=true→((decide (b < 256))=true→((decide (w64 (Int.tdiv b 64)=1))=true→(0≤Int.tmod b 64))))∧(res=(IntKind.wrap IntKind.u64 (↑(BitVec.toNat (BitVec.ofInt (IntKind.bits IntKind.u64) (Int.fdiv s0.e1 (2 ^ Min.min (Int.toNat (Int.tmod b 64)) (IntKind.bits IntKind.u64))) &&& BitVec.ofInt (IntKind.bits IntKind.u64) 1)):Int) == 1)))∧((decide (w64 (Int.tdiv b 64)=2))=true→((decide (b≥0))=true→((decide (b < 256))=true→((decide (w64 (Int.tdiv b 64)=2))=true→(0≤Int.tmod b 64))))∧(res=(IntKind.wrap IntKind.u64 (↑(BitVec.toNat (BitVec.ofInt (IntKind.bits IntKind.u64) (Int.fdiv s0.e2 (2 ^ Min.min (Int.toNat (Int.tmod b 64)) (IntKind.bits IntKind.u64))) &&& BitVec.ofInt (IntKind.bits IntKind.u64) 1)):Int) == 1)))∧((decide (w64 (Int.tdiv b 64)=3))=true→((decide (b≥0))=true→((decide (b < 256))=true→((decide (w64 (Int.tdiv b 64)=3))=true→(0≤Int.tmod b 64))))∧(res=(IntKind.wrap IntKind.u64 (↑(BitVec.toNat (BitVec.ofInt (IntKind.bits IntKind.u64) (Int.fdiv s0.e3 (2 ^ Min.min (Int.toNat (Int.tmod b 64)) (IntKind.bits IntKind.u64))) &&& BitVec.ofInt (IntKind.bits IntKind.u64) 1)):Int) == 1)))) (res=false)) (res=false))):zbm s0 b res:=by
 unfold zbm;have kk:=cfOk [] 22;refine fD (x:=bodyOf Tryz.f58) kk Tryz.func58 ?_;refine wkS [1,4] [(1,zy s0),(4,vi b)] (by kernel_rfl) ?_;refine sO oN [1] [(7,.ptr 14 0),(14,zy s0)] ?_;rcases eft (decide (b≥0)) with d | d
 ·have h:=h.1 d;rcases eft (decide (b < 256)) with a | a
  ·have h:=h.1 a;obtain ⟨e,h⟩:=h;rcases e with c | c | c | c
   ·have c:=decide_eq_true c;have h:=h.1 c;obtain ⟨h3,h⟩:=h;refine sO (g2 a d 44611 (nd (show (64:Int)≠(0:Int) from by first | decide | rfl | trivial) (g1 a 1 (op (.n 0) (of_decide_eq_true c) (g1 a 111 (nd (show (64:Int)≠(0:Int) from by first | decide | rfl | trivial) (g1 a 1 (nd (((h3 d) a) c) (g1 a 113 oN))))))))) [4,7,14] [(13,vB (IntKind.wrap IntKind.u64 (↑(BitVec.toNat (BitVec.ofInt (IntKind.bits IntKind.u64) (Int.fdiv s0.e0 (2 ^ Min.min (Int.toNat (Int.tmod b 64)) (IntKind.bits IntKind.u64))) &&& BitVec.ofInt (IntKind.bits IntKind.u64) 1)):Int) == 1))] ?_;refine tD ?_;subst h;exact (endQ []).1
   ·have c:=decide_eq_true c;have h:=h.2.1 c;obtain ⟨h4,h⟩:=h;refine sO (g2 a d 44611 (nd (show (64:Int)≠(0:Int) from by first | decide | rfl | trivial) (g1 a 1 (op (.n 1) (of_decide_eq_true c) (g1 a 111 (nd (show (64:Int)≠(0:Int) from by first | decide | rfl | trivial) (g1 a 1 (nd (((h4 d) a) c) (g1 a 113 oN))))))))) [4,7,14] [(13,vB (IntKind.wrap IntKind.u64 (↑(BitVec.toNat (BitVec.ofInt (IntKind.bits IntKind.u64) (Int.fdiv s0.e1 (2 ^ Min.min (Int.toNat (Int.tmod b 64)) (IntKind.bits IntKind.u64))) &&& BitVec.ofInt (IntKind.bits IntKind.u64) 1)):Int) == 1))] ?_;refine tD ?_;subst h;exact (endQ []).1
   ·have c:=decide_eq_true c;have h:=h.2.2.1 c;obtain ⟨h5,h⟩:=h;refine sO (g2 a d 44611 (nd (show (64:Int)≠(0:Int) from by first | decide | rfl | trivial) (g1 a 1 (op (.n 2) (of_decide_eq_true c) (g1 a 111 (nd (show (64:Int)≠(0:Int) from by first | decide | rfl | trivial) (g1 a 1 (nd (((h5 d) a) c) (g1 a 113 oN))))))))) [4,7,14] [(13,vB (IntKind.wrap IntKind.u64 (↑(BitVec.toNat (BitVec.ofInt (IntKind.bits IntKind.u64) (Int.fdiv s0.e2 (2 ^ Min.min (Int.toNat (Int.tmod b 64)) (IntKind.bits IntKind.u64))) &&& BitVec.ofInt (IntKind.bits IntKind.u64) 1)):Int) == 1))] ?_;refine tD ?_;subst h;exact (endQ []).1
   ·have c:=decide_eq_true c;have h:=h.2.2.2 c;obtain ⟨h6,h⟩:=h;refine sO (g2 a d 44611 (nd (show (64:Int)≠(0:Int) from by first | decide | rfl | trivial) (g1 a 1 (op (.n 3) (of_decide_eq_true c) (g1 a 111 (nd (show (64:Int)≠(0:Int) from by first | decide | rfl | trivial) (g1 a 1 (nd (((h6 d) a) c) (g1 a 113 oN))))))))) [4,7,14] [(13,vB (IntKind.wrap IntKind.u64 (↑(BitVec.toNat (BitVec.ofInt (IntKind.bits IntKind.u64) (Int.fdiv s0.e3 (2 ^ Min.min (Int.toNat (Int.tmod b 64)) (IntKind.bits IntKind.u64))) &&& BitVec.ofInt (IntKind.bits IntKind.u64) 1)):Int) == 1))] ?_;refine tD ?_;subst h;exact (endQ []).1
  ·have h:=h.2 a;refine sO (g2 a d 4461111111113 oN) [4,7,14] [(13,vB false)] ?_;refine tD ?_;subst h;exact (endQ []).1
 ·have h:=h.2 d;refine sO (g1 d 1138888888888 oN) [4,7,14] [(13,vB false)] ?_;refine tD ?_;subst h;exact (endQ []).1
theorem zgO (a:(List Bool)) (b:(List Bool)) (res:(List Bool))
 (h:(∃ (e:List Bool→Int→Prop) (f:List Bool→Int→Nat),e ([]) 0∧(∀ (c:List Bool) (i:Int),e c i→(ck (decide (i < (↑(List.length a):Int))) ((0≤i)∧i < ↑(List.length a)∧(ck (gd a i) (((gd a i)=true→((List.length c+1) * 1≤2 ^ 47))∧(e (c++[true]) (w64 (i+1))∧f (c++[true]) (w64 (i+1)) < f c i)) (((gd a i)=false→(0≤i))∧((gd a i)=false→i < ↑(List.length b))∧((gd a i)=false→((List.length c+1) * 1≤2 ^ 47))∧(e (c++[gd b i]) (w64 (i+1))∧f (c++[gd b i]) (w64 (i+1)) < f c i)))) (res=c))))):zaS a b res:=by
 unfold zaS;have kk:=cfOk [26] 27;refine fD (x:=bodyOf Tryz.f137) kk Tryz.func137 ?_;refine wkS [1,4] [(1,vL zh a),(4,vL zh b)] (by kernel_rfl) ?_;refine sO oN [] [] ?_;refine sO oN [] [(16,oL 4 zh ([]))] ?_;refine qD ?_;refine sO oN [] [(19,vi 0)] ?_;refine bD (id:=0) ?_;obtain ⟨e,f,g,j⟩:=h;refine loE [] (u2 fun c i=>[(16,oL 4 zh c),(19,vi i)]) (u2 e) (u2 f) (([]),0) [] g ?_;rintro ⟨c,i⟩ hi;have h:=j c i hi;refine qD ?_;refine sV oN [] (List.length (List.map zh a)) (List.length a) (fun q=>[(31,vB (decide (i < (↑(q):Int))))]) ?_;refine cH 10 h (fun m h=>?_) (fun m h=>?_)
 ·refine kD ?_;show Sem _ _ _ _ _;refine wkD [31] ?_;refine qD ?_;refine bD (id:=1) ?_;obtain ⟨l,h⟩:=h;obtain ⟨k,h⟩:=h;rcases eft (gd a i) with d | d
  ·have h:=h.1 d;obtain ⟨o,h⟩:=h;refine rOE (xo zh rfl l k (g1 d 22223 (apo zh c (o d) oN))) [] [(16,.own 4 (List.map zh c++[FV.pv (Value.bool true)]))] [(16,oL 4 zh (c++[true]))] ?_;show Sem _ _ _ _ _;refine rO oN [] [(19,vi (w64 (i+1)))] ?_;exact lD ((c++[true]),(w64 (i+1))) [] h
  ·have h:=h.2 d;obtain ⟨n,h⟩:=h;obtain ⟨p,h⟩:=h;obtain ⟨r,h⟩:=h;refine rOE (xo zh rfl l k (g1 d 222 (xo zh rfl (n d) (p d) (g1 d 23 (apo zh c (r d) oN))))) [] [(16,.own 4 (List.map zh c++[FV.pv (Value.bool (gd b i))]))] [(16,oL 4 zh (c++[gd b i]))] ?_;show Sem _ _ _ _ _;refine rO oN [] [(19,vi (w64 (i+1)))] ?_;exact lD ((c++[gd b i]),(w64 (i+1))) [] h
 ·refine xD (i:=0) ?_;show Sem _ _ _ _ _;refine wkD [1,4,19,31] ?_;refine sO oN [16] [(13,oL 4 zh c)] ?_;refine tD ?_;subst h;exact (endQ []).1
theorem zeD (x:zj) (res:Bool)
 (h:(res=(x.Kind == 5 && (decide (x.Hi < 0) && decide (x.Lo≤1))))):zbi x res:=by
 unfold zbi;have kk:=cfOk [] 16;refine fD (x:=bodyOf Tryz.f138) kk Tryz.func138 ?_;refine wkS [1] [(1,zu x)] (by kernel_rfl) ?_;refine sO oN [1] [(4,.ptr 8 0),(8,zu x)] ?_;refine sM [4,8] [(7,vB (x.Kind == 5 && (decide (x.Hi < 0) && decide (x.Lo≤1))))] ?_ (fun c=>?_)
 ·refine tD ?_;subst h;exact (endQ []).1
 ·rcases eft (x.Kind == 5) with a | a
  ·rcases eft (decide (x.Hi < 0)) with b | b
   ·refine sO (g2 b a 44461113 oN) [4,8] [(7,vB (decide (x.Lo≤1)))] ?_;exact Sem.cast (by try rw [a];try rw [b];kernel_rfl) c
   ·refine sO (g2 b a 44461113 oN) [4,8] [(7,vB false)] ?_;exact Sem.cast (by try rw [a];try rw [b];kernel_rfl) c
  ·refine sO (g1 a 11138888 oN) [4,8] [(7,vB false)] ?_;exact Sem.cast (by try rw [a];kernel_rfl) c
theorem zeC (a:(List Bool)) (b:(List Bool)) (res:Bool)
 (h:(∃ (d:Int→Prop) (e:Int→Nat),d 0∧(∀ (i:Int),d i→(ck (decide (i < (↑(List.length a):Int))) ((0≤i)∧i < ↑(List.length a)∧((gd a i)=true→(0≤i))∧((gd a i)=true→i < ↑(List.length b))∧(ck (gd a i && !gd b i) (res=false) (d (w64 (i+1))∧e (w64 (i+1)) < e i))) (res=true))))):zaw a b res:=by
 unfold zaw;have kk:=cfOk [] 23;refine fD (x:=bodyOf Tryz.f139) kk Tryz.func139 ?_;refine wkS [1,4] [(1,vL zh a),(4,vL zh b)] (by kernel_rfl) ?_;refine sO oN [] [] ?_;refine qD ?_;refine sO oN [] [(16,vi 0)] ?_;refine bD (id:=0) ?_;obtain ⟨d,e,f,g⟩:=h;refine loE [] (fun i=>[(16,vi i)]) d e 0 [] f ?_;rintro i hi;have h:=g i hi;refine qD ?_;refine sV oN [] (List.length (List.map zh a)) (List.length a) (fun q=>[(28,vB (decide (i < (↑(q):Int))))]) ?_;refine cH 9 h (fun m h=>?_) (fun m h=>?_)
 ·refine kD ?_;show Sem _ _ _ _ _;refine wkD [28] ?_;refine qD ?_;refine bD (id:=1) ?_;obtain ⟨l,h⟩:=h;obtain ⟨n,h⟩:=h;obtain ⟨o,p,h⟩:=h;refine sM [] [(67,vB (gd a i && !gd b i))] ?_ (fun j=>?_)
  ·refine cH 22 h (fun k h=>?_) (fun k h=>?_)
   ·refine sO oN [1,4,16,67] [(13,vB false)] ?_;refine tD ?_;subst h;exact (endQ []).1
   ·refine kD ?_;show Sem _ _ _ _ _;refine wkD [67] ?_;refine rO oN [] [(16,vi (w64 (i+1)))] ?_;exact lD (w64 (i+1)) [] h
  ·rcases eft (gd a i) with c | c
   ·refine sO (xo zh rfl l n (g1 c 111 (xo zh rfl (o c) (p c) (g1 c 113 oN)))) [] [(67,vB (!gd b i))] ?_;exact Sem.cast (by try rw [c];kernel_rfl) j
   ·refine sO (xo zh rfl l n (g1 c 111113 oN)) [] [(67,vB false)] ?_;exact Sem.cast (by try rw [c];kernel_rfl) j
 ·refine xD (i:=0) ?_;show Sem _ _ _ _ _;refine wkD [1,4,16,28] ?_;refine sO oN [] [(13,vB true)] ?_;refine tD ?_;subst h;exact (endQ []).1
end Go.Ev
namespace Go.Ev
open Go Go.Proofs
set_option maxRecDepth 8000
set_option maxHeartbeats 1000000
theorem zfM (x:zj) (s0:ByteArray) (a:(List Bool)) (res:(List Bool))
 (h:(0≤(↑(List.length a):Int)∧(↑(List.length a):Int)≤(↑(List.length a):Int)∧(↑(List.length a):Int) < 2 ^ 40∧(↑(1:Nat):Int) * (↑(List.length a):Int)≤2 ^ 47)∧(∃ s:List Bool→Prop,(∀ (A:List Bool),s A→(res=A))∧(ck (x.Kind == 1) (s (a++List.drop (List.length a) (List.replicate (List.length a) false))) (ck (x.Kind == 2) (∃ (r:List Bool→Int→Prop) (H:List Bool→Int→Nat),r (List.replicate (List.length a) false) 0∧(∀ (c:List Bool) (d:Int),r c d→(ck (decide (d < (↑(ByteArray.size s0):Int))) ((0≤d)∧d < ↑(List.length a)∧(ck (gd a d) (((gd a d)=true→(0≤d))∧((gd a d)=true→d < ↑(ByteArray.size s0))∧(∃ w:Bool,zbm x.Set (w64 (↑(UInt8.toNat (byteAt s0 d)):Int)) w∧((gd a d)=true→(0≤w64 (d+1)))∧((gd a d)=true→(Int.toNat (w64 (d+1)) < List.length c))∧((gd a d)=true→w64 (d+1) < ↑(List.length c))∧(r (List.set c (Int.toNat (w64 (d+1))) w) (w64 (d+1))∧H (List.set c (Int.toNat (w64 (d+1))) w) (w64 (d+1)) < H c d))) (((gd a d)=false→(0≤w64 (d+1)))∧((gd a d)=false→(Int.toNat (w64 (d+1)) < List.length c))∧((gd a d)=false→w64 (d+1) < ↑(List.length c))∧(r (List.set c (Int.toNat (w64 (d+1))) false) (w64 (d+1))∧H (List.set c (Int.toNat (w64 (d+1))) false) (w64 (d+1)) < H c d)))) (s c)))) (ck (x.Kind == 3) (∃ (F:List Bool→Int→Prop) (a0:List Bool→Int→Nat),F a 0∧(∀ (g:List Bool) (y:Int),F g y→(ck (decide (y < (↑(List.length x.Kids):Int))) ((0≤y)∧y < ↑(List.length x.Kids)∧(∃ I:List Bool,zT (gd x.Kids y) s0 g I∧(F I (w64 (y+1))∧a0 I (w64 (y+1)) < a0 g y))) (s (List.take (List.length a) g++List.drop (List.length g) (List.replicate (List.length a) false)))))) (ck (x.Kind == 4) (∃ (E:List Bool→Int→Prop) (Y:List Bool→Int→Nat),E (List.replicate (List.length a) false) 0∧(∀ (k:List Bool) (v:Int),E k v→(ck (decide (v < (↑(List.length x.Kids):Int))) ((0≤v)∧v < ↑(List.length x.Kids)∧(∃ R:List Bool,zT (gd x.Kids v) s0 a R∧(∃ p:List Bool,zaS k R p∧(E p (w64 (v+1))∧Y p (w64 (v+1)) < Y k v)))) (s k)))) (ck (x.Kind == 5) (∃ U:Int,zai x U∧(ck (U == 0) (res=(a++List.drop (List.length a) (List.replicate (List.length a) false))) (∃ (B:List Bool→Int→Prop) (X:List Bool→Int→Nat),B a 0∧(∀ (e:List Bool) (O:Int),B e O→(ck (decide (O < x.Lo)) (0 < List.length x.Kids∧(∃ N:List Bool,zT (List.getD x.Kids 0 default) s0 e N∧(B N (w64 (O+1))∧X N (w64 (O+1)) < X e O))) (∃ a1:Int→Prop,(∀ (l:Int),a1 l→(∃ S:Int→Prop,(∀ (n:Int),S n→(∃ (D:List Bool→List Bool→Int→Prop) (W:List Bool→List Bool→Int→Nat),D (List.take (List.length a) e++List.drop (List.length e) (List.replicate (List.length a) false)) e 0∧(∀ (j:List Bool) (u:List Bool) (Q:Int),D j u Q→(ck (decide (Q < n)) (0 < List.length x.Kids∧(∃ m:List Bool,zT (List.getD x.Kids 0 default) s0 u m∧(∃ M:Bool,zaw m j M∧(ck (M) (s j) (∃ J:List Bool,zaS j m J∧(D J m (w64 (Q+1))∧W J m (w64 (Q+1)) < W j u Q)))))) (s j)))))∧(ck (decide (x.Hi < 0)) (((decide (x.Hi < 0))=true→0 < List.length x.Kids)∧(∃ V:Bool,zbi (List.getD x.Kids 0 default) V∧(ck (V) (S (if w64 (1 - x.Lo) > 0 then w64 (1 - x.Lo) else 0)) (S l)))) (S l))))∧(ck (decide (x.Hi < 0)) (a1 ((↑(List.length a):Int))) (a1 (w64 (x.Hi - x.Lo)))))))))) (s (List.replicate (List.length a) false))))))))):zT x s0 a res:=by
 unfold zT;have kk:=cfOk [99,159] 160;refine fD (x:=bodyOf Tryz.f121) kk Tryz.func121 ?_;refine wkS [1,4,7] [(1,zu x),(4,vS s0),(7,vL zh a)] (by kernel_rfl) ?_;refine sO oN [1] [(10,.ptr 20 0),(20,zu x)] ?_;obtain ⟨h0,h⟩:=h;refine sOE (nd (show (0:Int)≤(↑(List.length (List.map zh a)):Int)∧(↑(List.length (List.map zh a)):Int)≤(↑(List.length (List.map zh a)):Int)∧(↑(List.length (List.map zh a)):Int) < (2:Int) ^ (40:Nat)∧(↑(1:Nat):Int) * (↑(List.length (List.map zh a)):Int)≤(2:Int) ^ (47:Nat) from by simpa only [nm] using h0) oN) [] [(22,.own 4 (List.replicate (Int.toNat (↑(List.length (List.map zh a)):Int)) (FV.pv (Value.bool false))))] [(22,oL 4 zh (List.replicate (List.length a) false))] ?_;obtain ⟨s,d6,h⟩:=h;refine sjD s (fun A=>[(22,vL zh A)]) ?_ ?_
 ·rintro A hj;have h:=d6 A hj;refine sO oN [22] [(19,vL zh A)] ?_;refine tD ?_;subst h;exact (endQ []).1
 ·refine sO oN [] [(61,vi x.Kind)] ?_;refine bD (id:=0) ?_;refine sO oN [] [(64,vB (x.Kind == 1))] ?_;refine cH 21 h (fun b9 h=>?_) (fun b9 h=>?_)
  ·refine rOE (nd (show (0:Nat)=(0:Nat)∧List.length (List.map zh (List.replicate (List.length a) false))=List.length (List.map zh (List.replicate (List.length a) false)) from ⟨rfl,rfl⟩) (nd (show List.all (List.map zh a) (FV.fits (1:Nat))=true from by first | exact zfv _ | exact keysenc_bool _ | rfl | simp [isByteF,FV.fits,FV.size,FV.cells,FV.one,zh]) oN)) [4,7,10,20,61,64] [(22,.own 4 (List.take (List.length (List.map zh (List.replicate (List.length a) false))) (List.map zh a)++List.drop (List.length (List.map zh a)) (List.map zh (List.replicate (List.length a) false))))] [(22,oL 4 zh (a++List.drop (List.length a) (List.replicate (List.length a) false)))] ?_;exact jD (a++List.drop (List.length a) (List.replicate (List.length a) false)) [(22,0)] h
  ·refine sO oN [64] [(79,vB (x.Kind == 2))] ?_;refine cH 26 h (fun b8 h=>?_) (fun b8 h=>?_)
   ·refine sO oN [61,79] [(25,vi 0)] ?_;refine bD (id:=1) ?_;obtain ⟨r,H,a5,b2⟩:=h;refine loE [] (u2 fun c d=>[(22,oL 4 zh c),(25,vi d)]) (u2 r) (u2 H) ((List.replicate (List.length a) false),0) [] a5 ?_;rintro ⟨c,d⟩ hi;have h:=b2 c d hi;refine qD ?_;refine sO oN [] [(94,vB (decide (d < (↑(ByteArray.size s0):Int))))] ?_;refine cH 31 h (fun d2 h=>?_) (fun d2 h=>?_)
    ·refine kD ?_;show Sem _ _ _ _ _;refine wkD [94] ?_;refine qD ?_;refine bD (id:=2) ?_;obtain ⟨b5,h⟩:=h;obtain ⟨b4,h⟩:=h;rcases eft (gd a d) with f | f
     ·have h:=h.1 f;obtain ⟨b3,h⟩:=h;obtain ⟨f2,h⟩:=h;obtain ⟨w,c0,h⟩:=h;obtain ⟨b6,h⟩:=h;obtain ⟨e7,h⟩:=h;obtain ⟨f6,h⟩:=h;refine rOE (xo zh rfl b5 b4 (g1 f 11111 (nd (b3 f) (op (.y (byteAt s0 d)) (zab s0 d (b3 f) (f2 f)) (g1 f 11 (ca c0 (g1 f 3 (nd (b6 f) (nd (show Int.toNat (w64 (d+1)) < List.length (List.map zh c) from by simpa only [nm] using (e7 f)) (el (show (List.map zh c)[((0:Nat)+Int.toNat (w64 (d+1)):Nat)]?=some (fB (gd c (w64 (d+1)))) from by have:=zcV zh c (w64 (d+1)) _ rfl (b6 f) (f6 f);simpa only [nm,enq,zh] using this) oN)))))))))) [] [(22,.own 4 (List.set (List.map zh c) (0+Int.toNat (w64 (d+1))) (FV.pv (Value.bool w))))] [(22,oL 4 zh (List.set c (Int.toNat (w64 (d+1))) w))] ?_;show Sem _ _ _ _ _;refine rO oN [] [(25,vi (w64 (d+1)))] ?_;exact lD ((List.set c (Int.toNat (w64 (d+1))) w),(w64 (d+1))) [] h
     ·have h:=h.2 f;obtain ⟨b7,h⟩:=h;obtain ⟨e9,h⟩:=h;obtain ⟨f1,h⟩:=h;refine rOE (xo zh rfl b5 b4 (g1 f 11111113 (nd (b7 f) (nd (show Int.toNat (w64 (d+1)) < List.length (List.map zh c) from by simpa only [nm] using (e9 f)) (el (show (List.map zh c)[((0:Nat)+Int.toNat (w64 (d+1)):Nat)]?=some (fB (gd c (w64 (d+1)))) from by have:=zcV zh c (w64 (d+1)) _ rfl (b7 f) (f1 f);simpa only [nm,enq,zh] using this) oN))))) [] [(22,.own 4 (List.set (List.map zh c) (0+Int.toNat (w64 (d+1))) (FV.pv (Value.bool false))))] [(22,oL 4 zh (List.set c (Int.toNat (w64 (d+1))) false))] ?_;show Sem _ _ _ _ _;refine rO oN [] [(25,vi (w64 (d+1)))] ?_;exact lD ((List.set c (Int.toNat (w64 (d+1))) false),(w64 (d+1))) [] h
    ·refine xD (i:=1) ?_;exact jD c [(22,0)] h
   ·refine sO oN [79] [(154,vB (x.Kind == 3))] ?_;refine cH 51 h (fun c7 h=>?_) (fun c7 h=>?_)
    ·refine sO oN [7,61,154] [(28,vL zh a)] ?_;refine qD ?_;refine sO oN [] [(31,vi 0)] ?_;refine bD (id:=3) ?_;obtain ⟨F,a0,a4,a7⟩:=h;refine loE [] (u2 fun g y=>[(28,vL zh g),(31,vi y)]) (u2 F) (u2 a0) (a,0) [] a4 ?_;rintro ⟨g,y⟩ hi;have h:=a7 g y hi;refine qD ?_;refine sV oN [] (List.length (List.map zc x.Kids)) (List.length x.Kids) (fun q=>[(175,vB (decide (y < (↑(q):Int))))]) ?_;refine cH 58 h (fun c1 h=>?_) (fun c1 h=>?_)
     ·refine kD ?_;show Sem _ _ _ _ _;refine wkD [175] ?_;refine qD ?_;refine bD (id:=4) ?_;obtain ⟨e6,h⟩:=h;obtain ⟨f5,h⟩:=h;obtain ⟨I,c9,h⟩:=h;refine rO (xo zc (zC _) e6 f5 (ca c9 oN)) [] [(28,vL zh I)] ?_;show Sem _ _ _ _ _;refine rO oN [] [(31,vi (w64 (y+1)))] ?_;exact lD (I,(w64 (y+1))) [] h
     ·refine xD (i:=3) ?_;show Sem _ _ _ _ _;refine wkD [4,10,20,31,175] ?_;refine rOE (nd (show (0:Nat)=(0:Nat)∧List.length (List.map zh (List.replicate (List.length a) false))=List.length (List.map zh (List.replicate (List.length a) false)) from ⟨rfl,rfl⟩) (nd (show List.all (List.map zh g) (FV.fits (1:Nat))=true from by first | exact zfv _ | exact keysenc_bool _ | rfl | simp [isByteF,FV.fits,FV.size,FV.cells,FV.one,zh]) oN)) [28] [(22,.own 4 (List.take (List.length (List.map zh (List.replicate (List.length a) false))) (List.map zh g)++List.drop (List.length (List.map zh g)) (List.map zh (List.replicate (List.length a) false))))] [(22,oL 4 zh (List.take (List.length a) g++List.drop (List.length g) (List.replicate (List.length a) false)))] ?_;exact jD (List.take (List.length a) g++List.drop (List.length g) (List.replicate (List.length a) false)) [(22,0)] h
    ·refine sO oN [154] [(217,vB (x.Kind == 4))] ?_;refine cH 72 h (fun c3 h=>?_) (fun c3 h=>?_)
     ·refine sO oN [61,217] [(34,vi 0)] ?_;refine bD (id:=5) ?_;obtain ⟨E,Y,a2,a8⟩:=h;refine loE [] (u2 fun k v=>[(22,oL 4 zh k),(34,vi v)]) (u2 E) (u2 Y) ((List.replicate (List.length a) false),0) [] a2 ?_;rintro ⟨k,v⟩ hi;have h:=a8 k v hi;refine qD ?_;refine sV oN [] (List.length (List.map zc x.Kids)) (List.length x.Kids) (fun q=>[(235,vB (decide (v < (↑(q):Int))))]) ?_;refine cH 78 h (fun c5 h=>?_) (fun c5 h=>?_)
      ·refine kD ?_;show Sem _ _ _ _ _;refine wkD [235] ?_;refine qD ?_;refine bD (id:=6) ?_;obtain ⟨e5,h⟩:=h;obtain ⟨f3,h⟩:=h;obtain ⟨R,e4,h⟩:=h;obtain ⟨p,e2,h⟩:=h;refine rO (xo zc (zC _) e5 f3 (ca e4 (ca (Eq.mp (by unfold zaS;(try simp only [List.drop_zero,List.take_length]);first | done | simp only [nm,enq]:zaS k R p=CallE Tryz.prog 137 [.f (FV.sl (List.take (List.length (List.map zh k)) (List.drop 0 (List.map zh k)))),vL zh R] [] (oL 4 zh p) []) e2) oN))) [] [(22,oL 4 zh p)] ?_;show Sem _ _ _ _ _;refine rO oN [] [(34,vi (w64 (v+1)))] ?_;exact lD (p,(w64 (v+1))) [] h
      ·refine xD (i:=5) ?_;exact jD k [(22,0)] h
     ·refine sO oN [61,217] [(274,vB (x.Kind == 5))] ?_;refine cH 91 h (fun d8 h=>?_) (fun d8 h=>?_)
      ·refine qD ?_;obtain ⟨U,d3,h⟩:=h;refine sO (ca d3 oN) [274] [(286,vB (U == 0))] ?_;refine cH 95 h (fun d7 h=>?_) (fun d7 h=>?_)
       ·refine sOE (nd (show (0:Nat)=(0:Nat)∧List.length (List.map zh (List.replicate (List.length a) false))=List.length (List.map zh (List.replicate (List.length a) false)) from ⟨rfl,rfl⟩) (nd (show List.all (List.map zh a) (FV.fits (1:Nat))=true from by first | exact zfv _ | exact keysenc_bool _ | rfl | simp [isByteF,FV.fits,FV.size,FV.cells,FV.one,zh]) oN)) [4,7,10,20,286] [(22,.own 4 (List.take (List.length (List.map zh (List.replicate (List.length a) false))) (List.map zh a)++List.drop (List.length (List.map zh a)) (List.map zh (List.replicate (List.length a) false))))] [(22,oL 4 zh (a++List.drop (List.length a) (List.replicate (List.length a) false)))] ?_;refine sO oN [22] [(19,oL 4 zh (a++List.drop (List.length a) (List.replicate (List.length a) false)))] ?_;refine tD ?_;subst h;exact (endQ [(19,0)]).1
       ·refine kD ?_;show Sem _ _ _ _ _;refine wkD [286] ?_;refine sO oN [] [(37,vL zh a)] ?_;refine qD ?_;refine sO oN [] [(40,vi 0)] ?_;refine bD (id:=7) ?_;obtain ⟨B,X,a6,b1⟩:=h;refine loE [] (u2 fun e O=>[(37,vL zh e),(40,vi O)]) (u2 B) (u2 X) (a,0) [] a6 ?_;rintro ⟨e,O⟩ hi;have h:=b1 e O hi;refine qD ?_;refine sO oN [] [(313,vB (decide (O < x.Lo)))] ?_;refine cH 104 h (fun e1 h=>?_) (fun e1 h=>?_)
        ·refine kD ?_;show Sem _ _ _ _ _;refine wkD [313] ?_;refine qD ?_;refine bD (id:=8) ?_;obtain ⟨f4,h⟩:=h;obtain ⟨N,d0,h⟩:=h;refine rO (nd (show (0:Int)≤(0:Int) from by first | decide | rfl | trivial) (el (show (List.map zc x.Kids)[(Int.toNat (0:Int):Nat)]?=some (zco (List.getD x.Kids (0:Nat) default)) from by have:=zb7 zc x.Kids ((0:Nat)) _ (zC _) f4;simpa only [nm,enq,zC] using this) (ca d0 oN))) [] [(37,vL zh N)] ?_;show Sem _ _ _ _ _;refine rO oN [] [(40,vi (w64 (O+1)))] ?_;exact lD (N,(w64 (O+1))) [] h
        ·refine xD (i:=7) ?_;show Sem _ _ _ _ _;refine wkD [40,313] ?_;refine sOE (nd (show (0:Nat)=(0:Nat)∧List.length (List.map zh (List.replicate (List.length a) false))=List.length (List.map zh (List.replicate (List.length a) false)) from ⟨rfl,rfl⟩) (nd (show List.all (List.map zh e) (FV.fits (1:Nat))=true from by first | exact zfv _ | exact keysenc_bool _ | rfl | simp [isByteF,FV.fits,FV.size,FV.cells,FV.one,zh]) oN)) [] [(22,.own 4 (List.take (List.length (List.map zh (List.replicate (List.length a) false))) (List.map zh e)++List.drop (List.length (List.map zh e)) (List.map zh (List.replicate (List.length a) false))))] [(22,oL 4 zh (List.take (List.length a) e++List.drop (List.length e) (List.replicate (List.length a) false)))] ?_;refine sO oN [] [(43,vi (w64 (x.Hi - x.Lo)))] ?_;obtain ⟨a1,d4,h⟩:=h;refine sjE a1 [7] (fun l=>[(43,vi l)]) ?_ ?_
         ·rintro l hj;have h:=d4 l hj;obtain ⟨S,c4,h⟩:=h;refine sjE S [] (fun n=>[(43,vi n)]) ?_ ?_
          ·rintro n hj;have h:=c4 n hj;refine sO oN [] [(46,vi 0)] ?_;refine bD (id:=9) ?_;obtain ⟨D,W,a3,a9⟩:=h;refine loE [] (u3 fun j u Q=>[(22,oL 4 zh j),(37,vL zh u),(46,vi Q)]) (u3 D) (u3 W) ((List.take (List.length a) e++List.drop (List.length e) (List.replicate (List.length a) false)),e,0) [] a3 ?_;rintro ⟨j,u,Q⟩ hi;have h:=a9 j u Q hi;refine qD ?_;refine sO oN [] [(430,vB (decide (Q < n)))] ?_;refine cH 143 h (fun e3 h=>?_) (fun e3 h=>?_)
           ·refine kD ?_;show Sem _ _ _ _ _;refine wkD [430] ?_;refine qD ?_;refine bD (id:=10) ?_;obtain ⟨e8,h⟩:=h;obtain ⟨m,c2,h⟩:=h;refine sO (nd (show (0:Int)≤(0:Int) from by first | decide | rfl | trivial) (el (show (List.map zc x.Kids)[(Int.toNat (0:Int):Nat)]?=some (zco (List.getD x.Kids (0:Nat) default)) from by have:=zb7 zc x.Kids ((0:Nat)) _ (zC _) e8;simpa only [nm,enq,zC] using this) (ca c2 oN))) [] [(37,vL zh m)] ?_;refine qD ?_;obtain ⟨M,d1,h⟩:=h;refine sO (ca (Eq.mp (by unfold zaw;(try simp only [List.drop_zero,List.take_length]);first | done | simp only [nm,enq]:zaw m j M=CallE Tryz.prog 139 [vL zh m,.f (FV.sl (List.take (List.length (List.map zh j)) (List.drop 0 (List.map zh j))))] [] (vB M) []) d1) oN) [] [(22,vL zh j),(466,vB M)] ?_;refine cH 155 h (fun c8 h=>?_) (fun c8 h=>?_)
            ·refine xD (i:=9) ?_;exact jD j [] h
            ·refine kD ?_;show Sem _ _ _ _ _;refine wkD [466] ?_;obtain ⟨J,e0,h⟩:=h;refine rO (ca e0 oN) [] [(22,oL 4 zh J)] ?_;show Sem _ _ _ _ _;refine rO oN [] [(46,vi (w64 (Q+1)))] ?_;exact lD (J,m,(w64 (Q+1))) [] h
           ·refine xD (i:=9) ?_;exact jD j [(22,0)] h
          ·rcases eft (decide (x.Hi < 0)) with o | o
           ·have h:=h.1 o;obtain ⟨f0,h⟩:=h;obtain ⟨V,d5,h⟩:=h;refine sO (g1 o 111 (nd (show (0:Int)≤(0:Int) from by first | decide | rfl | trivial) (el (show (List.map zc x.Kids)[(Int.toNat (0:Int):Nat)]?=some (zco (List.getD x.Kids (0:Nat) default)) from by have:=zb7 zc x.Kids ((0:Nat)) _ (zC _) (f0 o);simpa only [nm,enq,zC] using this) (g1 o 11 (ca d5 (g1 o 3 oN)))))) [] [(409,vB V)] ?_;refine cH 136 h (fun c6 h=>?_) (fun c6 h=>?_)
            ·refine rOE oN [409] [(43,vi (if true=true then if w64 (1 - x.Lo) > 0 then w64 (1 - x.Lo) else 0 else if w64 (1 - x.Lo) < 0 then w64 (1 - x.Lo) else 0))] [(43,vi (if w64 (1 - x.Lo) > 0 then w64 (1 - x.Lo) else 0))] ?_;exact jD (if w64 (1 - x.Lo) > 0 then w64 (1 - x.Lo) else 0) [] h
            ·refine kD ?_;exact jD l [] h
           ·have h:=h.2 o;refine sO (g1 o 111113 oN) [] [(409,vB false)] ?_;refine cD (t:=136) (b:=false) (fun b0=>?_) (fun b0=>?_)
            ·cases b0
            ·refine kD ?_;exact jD l [] h
         ·refine sO oN [] [(373,vB (decide (x.Hi < 0)))] ?_;refine cH 124 h (fun d9 h=>?_) (fun d9 h=>?_)
          ·refine rV oN [7,373] (List.length (List.map zh a)) (List.length a) (fun q=>[(43,vi ((↑(q):Int)))]) ?_;exact jD ((↑(List.length a):Int)) [] h
          ·refine kD ?_;exact jD (w64 (x.Hi - x.Lo)) [] h
      ·refine kD ?_;exact jD (List.replicate (List.length a) false) [(22,0)] h
theorem zfN (x:zj) (s0:ByteArray) (b:Int) (res:(List Int))
 (h:(∃ r0:Bool,zbQ x s0 r0∧(ck (!r0 || (decide (b < 0) || decide (b > (↑(ByteArray.size s0):Int)))) (res=([])) ((0≤w64 ((↑(ByteArray.size s0):Int)+1)∧w64 ((↑(ByteArray.size s0):Int)+1)≤w64 ((↑(ByteArray.size s0):Int)+1)∧w64 ((↑(ByteArray.size s0):Int)+1) < 2 ^ 40∧(↑(1:Nat):Int) * w64 ((↑(ByteArray.size s0):Int)+1)≤2 ^ 47)∧(0≤b)∧(Int.toNat b < Int.toNat (w64 ((↑(ByteArray.size s0):Int)+1)))∧b < ↑(List.length (List.replicate (Int.toNat (w64 ((↑(ByteArray.size s0):Int)+1))) false))∧(∃ c:List Bool,zT x s0 (List.set (List.replicate (Int.toNat (w64 ((↑(ByteArray.size s0):Int)+1))) false) (Int.toNat b) true) c∧(∃ (e:List Int→Int→Prop) (g:List Int→Int→Nat),e ([]) 0∧(∀ (a:List Int) (i:Int),e a i→(ck (decide (i < (↑(List.length c):Int))) (∃ l:List Int→Prop,(∀ (d:List Int),l d→(e d (w64 (i+1))∧g d (w64 (i+1)) < g a i))∧(0≤i)∧i < ↑(List.length c)∧(ck (gd c i) (((List.length a+1) * 8≤2 ^ 47)∧l (a++[i])) (l a))) (res=a))))))))):zba x s0 b res:=by
 unfold zba;have kk:=cfOk [50] 51;refine fD (x:=bodyOf Tryz.f96) kk Tryz.func96 ?_;refine wkS [1,4,7] [(1,zu x),(4,vS s0),(7,vi b)] (by kernel_rfl) ?_;refine sO oN [1] [(10,.ptr 20 0),(20,zu x)] ?_;refine qD ?_;obtain ⟨r0,n,h⟩:=h;refine sM [] [(73,vB (!r0 || (decide (b < 0) || decide (b > (↑(ByteArray.size s0):Int)))))] ?_ (fun o=>?_)
 ·refine cH 24 h (fun w h=>?_) (fun w h=>?_)
  ·refine sO oN [4,7,10,20,73] [(19,oL 3 zb ([]))] ?_;refine tD ?_;subst h;exact (endQ []).1
  ·refine kD ?_;show Sem _ _ _ _ _;refine wkD [73] ?_;obtain ⟨h4,h⟩:=h;refine sOE (nd h4 oN) [] [(22,.own 4 (List.replicate (Int.toNat (w64 ((↑(ByteArray.size s0):Int)+1))) (FV.pv (Value.bool false))))] [(22,oL 4 zh (List.replicate (Int.toNat (w64 ((↑(ByteArray.size s0):Int)+1))) false))] ?_;obtain ⟨h5,h⟩:=h;obtain ⟨h6,h⟩:=h;obtain ⟨h7,h⟩:=h;refine sOE (nd h5 (nd (show Int.toNat b < List.length (List.map zh (List.replicate (Int.toNat (w64 ((↑(ByteArray.size s0):Int)+1))) false)) from by simpa only [nm] using h6) (el (show (List.map zh (List.replicate (Int.toNat (w64 ((↑(ByteArray.size s0):Int)+1))) false))[((0:Nat)+Int.toNat b:Nat)]?=some (fB (gd (List.replicate (Int.toNat (w64 ((↑(ByteArray.size s0):Int)+1))) false) b)) from by have:=zcV zh (List.replicate (Int.toNat (w64 ((↑(ByteArray.size s0):Int)+1))) false) b _ rfl h5 h7;simpa only [nm,enq,zh] using this) oN))) [7] [(22,.own 4 (List.set (List.map zh (List.replicate (Int.toNat (w64 ((↑(ByteArray.size s0):Int)+1))) false)) (0+Int.toNat b) (FV.pv (Value.bool true))))] [(22,oL 4 zh (List.set (List.replicate (Int.toNat (w64 ((↑(ByteArray.size s0):Int)+1))) false) (Int.toNat b) true))] ?_;obtain ⟨c,v,h⟩:=h;refine sO (ca (Eq.mp (by unfold zT;(try simp only [List.drop_zero,List.take_length]);first | done | simp only [nm,enq]:zT x s0 (List.set (List.replicate (Int.toNat (w64 ((↑(ByteArray.size s0):Int)+1))) false) (Int.toNat b) true) c=CallE Tryz.prog 121 [.agg [vi x.Kind,vI .u64 (za.e0 x.Set),vI .u64 (za.e1 x.Set),vI .u64 (za.e2 x.Set),vI .u64 (za.e3 x.Set),vi x.Lo,vi x.Hi,vL zc x.Kids],vS s0,.f (FV.sl (List.take (List.length (List.map zh (List.set (List.replicate (Int.toNat (w64 ((↑(ByteArray.size s0):Int)+1))) false) (Int.toNat b) true))) (List.drop 0 (List.map zh (List.set (List.replicate (Int.toNat (w64 ((↑(ByteArray.size s0):Int)+1))) false) (Int.toNat b) true)))))] [] (vL zh c) []) v) oN) [4,10,20,22] [(25,vL zh c)] ?_;refine sO oN [] [(28,oL 3 zb ([]))] ?_;refine qD ?_;refine sO oN [] [(31,vi 0)] ?_;refine bD (id:=0) ?_;obtain ⟨e,g,j,m⟩:=h;refine loE [] (u2 fun a i=>[(28,oL 3 zb a),(31,vi i)]) (u2 e) (u2 g) (([]),0) [] j ?_;rintro ⟨a,i⟩ hi;have h:=m a i hi;refine qD ?_;refine sV oN [] (List.length (List.map zh c)) (List.length c) (fun q=>[(118,vB (decide (i < (↑(q):Int))))]) ?_;refine cH 39 h (fun r h=>?_) (fun r h=>?_)
   ·refine kD ?_;show Sem _ _ _ _ _;refine wkD [118] ?_;obtain ⟨l,s,h⟩:=h;refine sjE l [] (fun d=>[(28,oL 3 zb d)]) ?_ ?_
    ·rintro d hj;have h:=s d hj;refine rO oN [] [(31,vi (w64 (i+1)))] ?_;exact lD (d,(w64 (i+1))) [] h
    ·refine bD (id:=1) ?_;obtain ⟨u,h⟩:=h;obtain ⟨y,h⟩:=h;refine sO (xo zh rfl u y oN) [] [(136,vB (gd c i))] ?_;refine cH 45 h (fun p h=>?_) (fun p h=>?_)
     ·obtain ⟨t,h⟩:=h;refine rOE (apo zb a t oN) [136] [(28,.own 3 (List.map zb a++[FV.pv (Value.int IntKind.i64 i)]))] [(28,oL 3 zb (a++[i]))] ?_;exact jD (a++[i]) [] h
     ·refine kD ?_;exact jD a [] h
   ·refine xD (i:=0) ?_;show Sem _ _ _ _ _;refine wkD [25,31,118] ?_;refine sO oN [28] [(19,oL 3 zb a)] ?_;refine tD ?_;subst h;exact (endQ []).1
 ·rcases eft (!r0) with f | f
  ·refine sO (ca n (g1 f 22388887 oN)) [] [(73,vB true)] ?_;exact Sem.cast (by try rw [f];kernel_rfl) o
  ·rcases eft (decide (b < 0)) with k | k
   ·refine sO (ca n (g2 k f 55622223 oN)) [] [(73,vB true)] ?_;exact Sem.cast (by try rw [f];try rw [k];kernel_rfl) o
   ·refine sO (ca n (g2 k f 55622223 oN)) [] [(73,vB (decide (b > (↑(ByteArray.size s0):Int))))] ?_;exact Sem.cast (by try rw [f];try rw [k];kernel_rfl) o
theorem zef (r0:zp) (w0:ByteArray) (e:Int) (res:Int)
 (h:(∃ a:List Int,zba r0.Rx w0 e a∧(ck (zj.Kind r0.Trail == 0) (ck ((↑(List.length a):Int) == 0) (res=0) ((0≤w64 ((↑(List.length a):Int) - 1))∧(Int.toNat (w64 ((↑(List.length a):Int) - 1)) < List.length a)∧w64 ((↑(List.length a):Int) - 1) < ↑(List.length a)∧(res=(w64 (gd a (w64 ((↑(List.length a):Int) - 1)) - e))))) (∃ (f:Int→Int→Prop) (g:Int→Int→Nat),f 0 0∧(∀ (c:Int) (i:Int),f c i→(ck (decide (i < (↑(List.length a):Int))) (∃ j:Int→Prop,(∀ (d:Int),j d→(f d (w64 (i+1))∧g d (w64 (i+1)) < g c i))∧(0≤i)∧(Int.toNat i < List.length a)∧i < ↑(List.length a)∧(ck (gd a i == e) (j c) ((0≤i)∧(Int.toNat i < List.length a)∧i < ↑(List.length a)∧(∃ b:List Int,zba r0.Trail w0 (gd a i) b∧(ck (decide ((↑(List.length b):Int) > 0)) ((0≤w64 ((↑(List.length b):Int) - 1))∧(Int.toNat (w64 ((↑(List.length b):Int) - 1)) < List.length b)∧w64 ((↑(List.length b):Int) - 1) < ↑(List.length b)∧j (if w64 (gd b (w64 ((↑(List.length b):Int) - 1)) - e) > c then w64 (gd b (w64 ((↑(List.length b):Int) - 1)) - e) else c)) (j c)))))) (res=c))))))):zal r0 w0 e res:=by
 unfold zal;have kk:=cfOk [64] 65;refine fD (x:=bodyOf Tryz.f61) kk Tryz.func61 ?_;refine wkS [1,4,7] [(1,zaj r0),(4,vS w0),(7,vi e)] (by kernel_rfl) ?_;refine sO oN [1] [(10,.ptr 20 0),(20,zaj r0)] ?_;obtain ⟨a,y,h⟩:=h;refine sO (ca y oN) [] [(22,oL 3 zb a)] ?_;refine qD ?_;refine sO oN [] [(58,vB (zj.Kind r0.Trail == 0))] ?_;refine cH 19 h (fun A h=>?_) (fun A h=>?_)
 ·refine qD ?_;refine sV oN [4,10,20,58] (List.length (List.map zb a)) (List.length a) (fun q=>[(67,vB ((↑(q):Int) == 0))]) ?_;refine cH 22 h (fun w h=>?_) (fun w h=>?_)
  ·refine sO oN [7,22,67] [(19,vi 0)] ?_;refine tD ?_;subst h;exact (endQ []).1
  ·refine kD ?_;show Sem _ _ _ _ _;refine wkD [67] ?_;obtain ⟨h3,h⟩:=h;obtain ⟨h4,h⟩:=h;obtain ⟨h5,h⟩:=h;refine sO (nd (show (0:Int)≤w64 ((↑(List.length (List.map zb a)):Int) - 1) from by simpa only [nm] using h3) (nd (show Int.toNat (w64 ((↑(List.length (List.map zb a)):Int) - 1)) < List.length (List.map zb a) from by simpa only [nm] using h4) (el (show (List.map zb a)[((0:Nat)+Int.toNat (w64 ((↑(List.length (List.map zb a)):Int) - 1)):Nat)]?=some (fi (gd a (w64 ((↑(List.length a):Int) - 1)))) from by have:=zcV zb a (w64 ((↑(List.length a):Int) - 1)) _ rfl h3 h5;simpa only [nm,enq,zb] using this) oN))) [7,22] [(19,vi (w64 (gd a (w64 ((↑(List.length a):Int) - 1)) - e)))] ?_;refine tD ?_;subst h;exact (endQ []).1
 ·refine kD ?_;show Sem _ _ _ _ _;refine wkD [58] ?_;refine sO oN [] [(25,vi 0)] ?_;refine qD ?_;refine sO oN [] [(28,vi 0)] ?_;refine bD (id:=0) ?_;obtain ⟨f,g,k,l⟩:=h;refine loE [] (u2 fun c i=>[(25,vi c),(28,vi i)]) (u2 f) (u2 g) (0,0) [] k ?_;rintro ⟨c,i⟩ hi;have h:=l c i hi;refine qD ?_;refine sV oN [] (List.length (List.map zb a)) (List.length a) (fun q=>[(103,vB (decide (i < (↑(q):Int))))]) ?_;refine cH 34 h (fun t h=>?_) (fun t h=>?_)
  ·refine kD ?_;show Sem _ _ _ _ _;refine wkD [103] ?_;obtain ⟨j,n,h⟩:=h;refine sjE j [] (fun d=>[(25,vi d)]) ?_ ?_
   ·rintro d hj;have h:=n d hj;refine rO oN [] [(28,vi (w64 (i+1)))] ?_;exact lD (d,(w64 (i+1))) [] h
   ·refine bD (id:=1) ?_;refine qD ?_;obtain ⟨s,h⟩:=h;obtain ⟨F,h⟩:=h;obtain ⟨B,h⟩:=h;refine sO (nd s (nd (show Int.toNat i < List.length (List.map zb a) from by simpa only [nm] using F) (el (show (List.map zb a)[((0:Nat)+Int.toNat i:Nat)]?=some (fi (gd a i)) from by have:=zcV zb a i _ rfl s B;simpa only [nm,enq,zb] using this) oN))) [] [(127,vB (gd a i == e))] ?_;refine cH 42 h (fun m h=>?_) (fun m h=>?_)
    ·refine xD (i:=1) ?_;exact jD c [] h
    ·refine kD ?_;show Sem _ _ _ _ _;refine wkD [127] ?_;obtain ⟨r,h⟩:=h;obtain ⟨E,h⟩:=h;obtain ⟨v,h⟩:=h;obtain ⟨b,u,h⟩:=h;refine sO (nd r (nd (show Int.toNat i < List.length (List.map zb a) from by simpa only [nm] using E) (el (show (List.map zb a)[((0:Nat)+Int.toNat i:Nat)]?=some (fi (gd a i)) from by have:=zcV zb a i _ rfl r v;simpa only [nm,enq,zb] using this) (ca u oN)))) [] [(31,oL 3 zb b)] ?_;refine sV oN [] (List.length (List.map zb b)) (List.length b) (fun q=>[(160,vB (decide ((↑(q):Int) > 0)))]) ?_;refine cH 53 h (fun p h=>?_) (fun p h=>?_)
     ·obtain ⟨o,h⟩:=h;obtain ⟨H,h⟩:=h;obtain ⟨D,h⟩:=h;refine rOE (nd (show (0:Int)≤w64 ((↑(List.length (List.map zb b)):Int) - 1) from by simpa only [nm] using o) (nd (show Int.toNat (w64 ((↑(List.length (List.map zb b)):Int) - 1)) < List.length (List.map zb b) from by simpa only [nm] using H) (el (show (List.map zb b)[((0:Nat)+Int.toNat (w64 ((↑(List.length (List.map zb b)):Int) - 1)):Nat)]?=some (fi (gd b (w64 ((↑(List.length b):Int) - 1)))) from by have:=zcV zb b (w64 ((↑(List.length b):Int) - 1)) _ rfl o D;simpa only [nm,enq,zb] using this) oN))) [31,160] [(25,vi (if true=true then if w64 (gd b (w64 ((↑(List.length b):Int) - 1)) - e) > c then w64 (gd b (w64 ((↑(List.length b):Int) - 1)) - e) else c else if w64 (gd b (w64 ((↑(List.length b):Int) - 1)) - e) < c then w64 (gd b (w64 ((↑(List.length b):Int) - 1)) - e) else c))] [(25,vi (if w64 (gd b (w64 ((↑(List.length b):Int) - 1)) - e) > c then w64 (gd b (w64 ((↑(List.length b):Int) - 1)) - e) else c))] ?_;exact jD (if w64 (gd b (w64 ((↑(List.length b):Int) - 1)) - e) > c then w64 (gd b (w64 ((↑(List.length b):Int) - 1)) - e) else c) [] h
     ·refine kD ?_;exact jD c [] h
  ·refine xD (i:=0) ?_;show Sem _ _ _ _ _;refine wkD [4,7,10,20,22,28,103] ?_;refine sO oN [25] [(19,vi c)] ?_;refine tD ?_;subst h;exact (endQ []).1
theorem zfJ (s0:zx) (w0:ByteArray) (j:Int) (cond:Int) (res:Int) (res_1:Int)
 (h:(∃ r0:Bool,zck s0 w0 r0∧(ck (!r0 || (decide (j < 0) || (decide (j > (↑(ByteArray.size w0):Int)) || (decide (cond < 0) || decide (cond≥(↑(List.length s0.Conds):Int)))))) (res=(-1)∧res_1=0) (∃ (r:Int→Int→Int→Prop) (y:Int→Int→Int→Nat),r (-1) 0 0∧(∀ (c:Int) (a:Int) (i:Int),r c a i→(ck (decide (i < (↑(List.length s0.Rules):Int))) (∃ m:Int→Int→Prop,(∀ (f:Int) (g:Int),m f g→(r f g (w64 (i+1))∧y f g (w64 (i+1)) < y c a i))∧(0≤i)∧i < ↑(List.length s0.Rules)∧(ck (gd s0.Rules i).Eof (m c a) (∃ s:Bool,zbh s0 i cond s∧(ck (!s) (m c a) (ck (gd s0.Rules i).Bol (ck (decide (j > 0)) (((gd s0.Rules i).Eof=false→((!s)=false→((gd s0.Rules i).Bol=true→((decide (j > 0))=true→(0≤w64 (j - 1))))))∧((gd s0.Rules i).Eof=false→((!s)=false→((gd s0.Rules i).Bol=true→((decide (j > 0))=true→w64 (j - 1) < ↑(ByteArray.size w0)))))∧(ck ((↑(UInt8.toNat (byteAt w0 (w64 (j - 1)))):Int) != 10) (m c a) (∃ p:Int,zal (gd s0.Rules i) w0 j p∧(ck (decide (p > a)) (m i p) (m c a))))) (∃ o:Int,zal (gd s0.Rules i) w0 j o∧(ck (decide (o > a)) (m i o) (m c a)))) (∃ n:Int,zal (gd s0.Rules i) w0 j n∧(ck (decide (n > a)) (m i n) (m c a)))))))) (res=c∧res_1=a))))))):zbB s0 w0 j cond res res_1:=by
 unfold zbB;have kk:=cfOk [40,41,87,88] 89;refine fD (x:=bodyOf Tryz.f24) kk Tryz.func24 ?_;refine wkS [1,4,7,10] [(1,zQ s0),(4,vS w0),(7,vi j),(10,vi cond)] (by kernel_rfl) ?_;refine sO oN [1] [(13,.ptr 26 0),(26,zQ s0)] ?_;refine sO oN [] [(31,vi (-1)),(34,vi 0)] ?_;refine qD ?_;obtain ⟨r0,E,h⟩:=h;refine sM [] [(118,vB (!r0 || (decide (j < 0) || (decide (j > (↑(ByteArray.size w0):Int)) || (decide (cond < 0) || decide (cond≥(↑(List.length s0.Conds):Int)))))))] ?_ (fun N=>?_)
 ·refine cH 39 h (fun a6 h=>?_) (fun a6 h=>?_)
  ·refine sO oN [4,7,10,13,26,31,34,118] [(25,vi (-1)),(28,vi 0)] ?_;refine tD ?_;obtain ⟨a5,a4⟩:=h;subst res res_1;exact (endQ []).1
  ·refine kD ?_;show Sem _ _ _ _ _;refine wkD [118] ?_;refine qD ?_;refine sO oN [] [(37,vi 0)] ?_;refine bD (id:=0) ?_;obtain ⟨r,y,B,D⟩:=h;refine loE [] (u3 fun c a i=>[(31,vi c),(34,vi a),(37,vi i)]) (u3 r) (u3 y) ((-1),0,0) [] B ?_;rintro ⟨c,a,i⟩ hi;have h:=D c a i hi;refine qD ?_;refine sV oN [] (List.length (List.map zt s0.Rules)) (List.length s0.Rules) (fun q=>[(139,vB (decide (i < (↑(q):Int))))]) ?_;refine cH 46 h (fun R h=>?_) (fun R h=>?_)
   ·refine kD ?_;show Sem _ _ _ _ _;refine wkD [139] ?_;obtain ⟨m,X,h⟩:=h;refine sjE (u2 m) [] (u2 fun f g=>[(31,vi f),(34,vi g)]) ?_ ?_
    ·rintro ⟨f,g⟩ hj;have h:=X f g hj;refine rO oN [] [(37,vi (w64 (i+1)))] ?_;exact lD (f,g,(w64 (i+1))) [] h
    ·refine bD (id:=1) ?_;obtain ⟨a3,h⟩:=h;obtain ⟨a2,h⟩:=h;refine sO (xo zt (zaL _) a3 a2 oN) [] [(40,.ptr 80 0),(80,zaj (gd s0.Rules i))] ?_;refine qD ?_;rcases eft (gd s0.Rules i).Eof with d | d
     ·have h:=h.1 d;refine sO (g1 d 2222238888887 oN) [] [(232,vB true)] ?_;refine cD (t:=77) (b:=true) (fun I=>?_) (fun I=>?_)
      ·refine xD (i:=1) ?_;exact jD (c,a) [] h
      ·cases I
     ·have h:=h.2 d;obtain ⟨s,w,h⟩:=h;rcases eft (!s) with e | e
      ·have h:=h.1 e;refine sO (g1 d 2222 (ca w (g2 e d 562222223 oN))) [] [(232,vB true)] ?_;refine cD (t:=77) (b:=true) (fun J=>?_) (fun J=>?_)
       ·refine xD (i:=1) ?_;exact jD (c,a) [] h
       ·cases J
      ·have h:=h.2 e;rcases eft (gd s0.Rules i).Bol with k | k
       ·have h:=h.1 k;rcases eft (decide (j > 0)) with l | l
        ·have h:=h.1 l;obtain ⟨O,h⟩:=h;obtain ⟨a1,h⟩:=h;refine sO (g1 d 2222 (ca w (g1 d 23 (g2 k e 5551153 (g2 l e 51111 (nd ((((O d) e) k) l) (op (.y (byteAt w0 (w64 (j - 1)))) (zab w0 (w64 (j - 1)) ((((O d) e) k) l) ((((a1 d) e) k) l)) (g2 e l 4263 oN)))))))) [] [(232,vB ((↑(UInt8.toNat (byteAt w0 (w64 (j - 1)))):Int) != 10))] ?_;refine cH 77 h (fun Y h=>?_) (fun Y h=>?_)
         ·refine xD (i:=1) ?_;exact jD (c,a) [] h
         ·refine kD ?_;show Sem _ _ _ _ _;refine wkD [232] ?_;obtain ⟨p,S,h⟩:=h;refine sO (ca S oN) [40,80] [(43,vi p)] ?_;refine sO oN [] [(253,vB (decide (p > a)))] ?_;refine cH 84 h (fun V h=>?_) (fun V h=>?_)
          ·refine rO oN [43,253] [(31,vi i),(34,vi p)] ?_;exact jD (i,p) [] h
          ·refine kD ?_;exact jD (c,a) [] h
        ·have h:=h.2 l;refine sO (g1 d 2222 (ca w (g1 d 23 (g2 k e 5551153 (g2 e l 244444263 oN))))) [] [(232,vB false)] ?_;refine cD (t:=77) (b:=false) (fun H=>?_) (fun H=>?_)
         ·cases H
         ·refine kD ?_;show Sem _ _ _ _ _;refine wkD [232] ?_;obtain ⟨o,Q,h⟩:=h;refine sO (ca Q oN) [40,80] [(43,vi o)] ?_;refine sO oN [] [(253,vB (decide (o > a)))] ?_;refine cH 84 h (fun W h=>?_) (fun W h=>?_)
          ·refine rO oN [43,253] [(31,vi i),(34,vi o)] ?_;exact jD (i,o) [] h
          ·refine kD ?_;exact jD (c,a) [] h
       ·have h:=h.2 k;refine sO (g1 d 2222 (ca w (g1 d 23 (g2 e k 2224426288888283 oN)))) [] [(232,vB false)] ?_;refine cD (t:=77) (b:=false) (fun M=>?_) (fun M=>?_)
        ·cases M
        ·refine kD ?_;show Sem _ _ _ _ _;refine wkD [232] ?_;obtain ⟨n,a0,h⟩:=h;refine sO (ca a0 oN) [40,80] [(43,vi n)] ?_;refine sO oN [] [(253,vB (decide (n > a)))] ?_;refine cH 84 h (fun U h=>?_) (fun U h=>?_)
         ·refine rO oN [43,253] [(31,vi i),(34,vi n)] ?_;exact jD (i,n) [] h
         ·refine kD ?_;exact jD (c,a) [] h
   ·refine xD (i:=0) ?_;show Sem _ _ _ _ _;refine wkD [4,7,10,13,26,37,139] ?_;refine sO oN [31,34] [(25,vi c),(28,vi a)] ?_;refine tD ?_;obtain ⟨a5,a4⟩:=h;subst res res_1;exact (endQ []).1
 ·rcases eft (!r0) with u | u
  ·refine sO (ca E (g1 u 22388887887888887 oN)) [] [(118,vB true)] ?_;exact Sem.cast (by try rw [u];kernel_rfl) N
  ·rcases eft (decide (j < 0)) with v | v
   ·refine sO (ca E (g2 v u 55622223887888887 oN)) [] [(118,vB true)] ?_;exact Sem.cast (by try rw [u];try rw [v];kernel_rfl) N
   ·rcases eft (decide (j > (↑(ByteArray.size w0):Int))) with A | A
    ·refine sO (ca E (g1 u 223 (g2 A v 55556223888887 oN))) [] [(118,vB true)] ?_;exact Sem.cast (by try rw [u];try rw [v];try rw [A];kernel_rfl) N
    ·rcases eft (decide (cond < 0)) with F | F
     ·refine sO (ca E (g2 v u 55622223 (g2 F A 556222223 oN))) [] [(118,vB true)] ?_;exact Sem.cast (by try rw [u];try rw [v];try rw [A];try rw [F];kernel_rfl) N
     ·refine sV (ca E (g2 v u 55622223 (g2 F A 556222223 oN))) [] (List.length (List.map zm s0.Conds)) (List.length s0.Conds) (fun q=>[(118,vB (decide (cond≥(↑(q):Int))))]) ?_;exact Sem.cast (by try rw [u];try rw [v];try rw [A];try rw [F];kernel_rfl) N
theorem W_read_letter (c0:Int) (res:Bool)
 (h:(res=(bif decide (c0≥97) then decide (c0≤122) || decide (c0≥65) && decide (c0≤90) else decide (c0≥65) && decide (c0≤90)))):zdJ c0 res:=by
 unfold zdJ;have kk:=cfOk [] 17;refine fD (x:=bodyOf Tryz.f111) kk Tryz.func111 ?_;refine wkS [1] [(1,vI .u8 c0)] (by kernel_rfl) ?_;refine sO oN [] [] ?_;refine sM [1] [(7,vB (bif decide (c0≥97) then decide (c0≤122) || decide (c0≥65) && decide (c0≤90) else decide (c0≥65) && decide (c0≤90)))] ?_ (fun d=>?_)
 ·refine tD ?_;subst h;exact (endQ []).1
 ·rcases eft (decide (c0≥97)) with a | a
  ·rcases eft (decide (c0≤122)) with b | b
   ·refine sO (g2 b a 44622223 oN) [1] [(7,vB true)] ?_;exact Sem.cast (by try rw [a];try rw [b];kernel_rfl) d
   ·rcases eft (decide (c0≥65)) with c | c
    ·refine sO (g1 a 113 (g2 b c 22244263 oN)) [1] [(7,vB (decide (c0≤90)))] ?_;exact Sem.cast (by try rw [a];try rw [b];try rw [c];kernel_rfl) d
    ·refine sO (g1 a 113 (g2 b c 22244263 oN)) [1] [(7,vB false)] ?_;exact Sem.cast (by try rw [a];try rw [b];try rw [c];kernel_rfl) d
  ·rcases eft (decide (c0≥65)) with e | e
   ·refine sO (g2 e a 44677711738 oN) [1] [(7,vB (decide (c0≤90)))] ?_;exact Sem.cast (by try rw [a];try rw [e];kernel_rfl) d
   ·refine sO (g2 e a 44677711738 oN) [1] [(7,vB false)] ?_;exact Sem.cast (by try rw [a];try rw [e];kernel_rfl) d
theorem W_read_digit (c0:Int) (res:Bool)
 (h:(res=(decide (c0≥48) && decide (c0≤57)))):zeh c0 res:=by
 unfold zeh;have kk:=cfOk [] 9;refine fD (x:=bodyOf Tryz.f112) kk Tryz.func112 ?_;refine wkS [1] [(1,vI .u8 c0)] (by kernel_rfl) ?_;refine sO oN [] [] ?_;refine sM [1] [(7,vB (decide (c0≥48) && decide (c0≤57)))] ?_ (fun b=>?_)
 ·refine tD ?_;subst h;exact (endQ []).1
 ·rcases eft (decide (c0≥48)) with a | a
  ·refine sO (g1 a 113 oN) [1] [(7,vB (decide (c0≤57)))] ?_;exact Sem.cast (by try rw [a];kernel_rfl) b
  ·refine sO (g1 a 113 oN) [1] [(7,vB false)] ?_;exact Sem.cast (by try rw [a];kernel_rfl) b
end Go.Ev
namespace Go.Ev
open Go Go.Proofs
set_option maxRecDepth 8000
set_option maxHeartbeats 1000000
theorem W_read_Name (s0:ByteArray) (res:Bool)
 (h:(∃ (e:Int→Prop) (f:Int→Nat),e 0∧(∀ (t6:Int),e t6→(ck (decide (t6 < (↑(ByteArray.size s0):Int))) ((0≤t6)∧t6 < ↑(ByteArray.size s0)∧(∃ g:Bool,zdJ ((↑(UInt8.toNat (byteAt s0 t6)):Int)) g∧(ck (!g) (((!g)=true→(0≤t6))∧((!g)=true→t6 < ↑(ByteArray.size s0))∧(ck ((↑(UInt8.toNat (byteAt s0 t6)):Int) != 95) (ck (t6 == 0) (res=false) (((!g)=true→(((↑(UInt8.toNat (byteAt s0 t6)):Int) != 95)=true→((t6 == 0)=false→(0≤t6))))∧((!g)=true→(((↑(UInt8.toNat (byteAt s0 t6)):Int) != 95)=true→((t6 == 0)=false→t6 < ↑(ByteArray.size s0))))∧(∃ l:Bool,zeh ((↑(UInt8.toNat (byteAt s0 t6)):Int)) l∧(ck (!l) (res=false) (e (w64 (t6+1))∧f (w64 (t6+1)) < f t6))))) (e (w64 (t6+1))∧f (w64 (t6+1)) < f t6))) (e (w64 (t6+1))∧f (w64 (t6+1)) < f t6)))) (res=(!ByteArray.toList s0 == ByteArray.toList { data:=#[] } && decide ((↑(ByteArray.size s0):Int)≤12))))))):zdK s0 res:=by
 unfold zdK;have kk:=cfOk [] 39;refine fD (x:=bodyOf Tryz.f75) kk Tryz.func75 ?_;refine wkS [1] [(1,vS s0)] (by kernel_rfl) ?_;refine sO oN [] [] ?_;refine qD ?_;refine sO oN [] [(16,vi ((↑(ByteArray.size s0):Int))),(19,vi 0)] ?_;refine bD (id:=0) ?_;obtain ⟨e,f,o,r⟩:=h;refine loE [] (fun t6=>[(19,vi t6)]) e f 0 [] o ?_;rintro t6 hi;have h:=r t6 hi;refine sO oN [] [(22,vB (decide (t6 < (↑(ByteArray.size s0):Int))))] ?_;refine qD ?_;refine cH 7 h (fun y h=>?_) (fun y h=>?_)
 ·refine kD ?_;show Sem _ _ _ _ _;refine wkD [22] ?_;refine qD ?_;refine bD (id:=1) ?_;refine sO oN [] [(10,vi t6)] ?_;obtain ⟨k,h⟩:=h;obtain ⟨p,h⟩:=h;obtain ⟨g,m,h⟩:=h;rcases eft (!g) with a | a
  ·have h:=h.1 a;obtain ⟨n,h⟩:=h;obtain ⟨w,h⟩:=h;rcases eft ((↑(UInt8.toNat (byteAt s0 t6)):Int) != 95) with c | c
   ·have h:=h.1 c;rcases eft (t6 == 0) with d | d
    ·have h:=h.1 d;refine sO (nd k (op (.y (byteAt s0 t6)) (zab s0 t6 k p) (ca m (g1 a 111 (nd (n a) (op (.y (byteAt s0 t6)) (zab s0 t6 (n a) (w a)) (g1 a 13 (g2 c d 11155555163 oN)))))))) [10] [(91,vB true)] ?_;refine cD (t:=30) (b:=true) (fun v=>?_) (fun v=>?_)
     ·refine sO oN [1,16,19,91] [(7,vB false)] ?_;refine tD ?_;subst h;exact (endQ []).1
     ·cases v
    ·have h:=h.2 d;obtain ⟨E,h⟩:=h;obtain ⟨F,h⟩:=h;obtain ⟨l,D,h⟩:=h;refine sO (nd k (op (.y (byteAt s0 t6)) (zab s0 t6 k p) (ca m (g1 a 111 (nd (n a) (op (.y (byteAt s0 t6)) (zab s0 t6 (n a) (w a)) (g1 a 13 (g2 d c 444222 (nd (((E a) c) d) (op (.y (byteAt s0 t6)) (zab s0 t6 (((E a) c) d) (((F a) c) d)) (g1 d 2 (ca D (g2 c d 5163 oN))))))))))))) [10] [(91,vB (!l))] ?_;refine cH 30 h (fun B h=>?_) (fun B h=>?_)
     ·refine sO oN [1,16,19,91] [(7,vB false)] ?_;refine tD ?_;subst h;exact (endQ []).1
     ·refine kD ?_;show Sem _ _ _ _ _;refine wkD [91] ?_;refine rO oN [] [(19,vi (w64 (t6+1)))] ?_;exact lD (w64 (t6+1)) [] h
   ·have h:=h.2 c;refine sO (nd k (op (.y (byteAt s0 t6)) (zab s0 t6 k p) (ca m (g1 a 111 (nd (n a) (op (.y (byteAt s0 t6)) (zab s0 t6 (n a) (w a)) (g2 c a 4611113 oN))))))) [10] [(91,vB false)] ?_;refine cD (t:=30) (b:=false) (fun s=>?_) (fun s=>?_)
    ·cases s
    ·refine kD ?_;show Sem _ _ _ _ _;refine wkD [91] ?_;refine rO oN [] [(19,vi (w64 (t6+1)))] ?_;exact lD (w64 (t6+1)) [] h
  ·have h:=h.2 a;refine sO (nd k (op (.y (byteAt s0 t6)) (zab s0 t6 k p) (ca m (g1 a 1111388888 oN)))) [10] [(91,vB false)] ?_;refine cD (t:=30) (b:=false) (fun u=>?_) (fun u=>?_)
   ·cases u
   ·refine kD ?_;show Sem _ _ _ _ _;refine wkD [91] ?_;refine rO oN [] [(19,vi (w64 (t6+1)))] ?_;exact lD (w64 (t6+1)) [] h
 ·refine xD (i:=0) ?_;show Sem _ _ _ _ _;refine wkD [16,19,22] ?_;refine sM [1] [(7,vB (!ByteArray.toList s0 == ByteArray.toList { data:=#[] } && decide ((↑(ByteArray.size s0):Int)≤12)))] ?_ (fun A=>?_)
  ·refine tD ?_;subst h;exact (endQ []).1
  ·rcases eft (!ByteArray.toList s0 == ByteArray.toList { data:=#[] }) with j | j
   ·refine sO (g1 j 1113 oN) [1] [(7,vB (decide ((↑(ByteArray.size s0):Int)≤12)))] ?_;exact Sem.cast (by try rw [j];kernel_rfl) A
   ·refine sO (g1 j 1113 oN) [1] [(7,vB false)] ?_;exact Sem.cast (by try rw [j];kernel_rfl) A
theorem zh5 (r0:zp) (v:Int) (res:Bool) (fin:Int)
 (h:(∃ b:Bool,zbP ({ Conds:=r0.Conds,All:=r0.All,Bol:=r0.Bol,Rx:=r0.Rx,Trail:=r0.Trail,Eof:=r0.Eof,Act:=r0.Act,To:=r0.To }) v b∧(ck (!b) (res=true∧fin=v) (∃ c:Bool,zbV ({ Conds:=r0.Conds,All:=r0.All,Bol:=r0.Bol,Rx:=r0.Rx,Trail:=r0.Trail,Eof:=r0.Eof,Act:=r0.Act,To:=r0.To }) v c∧(ck (!c) (res=true∧fin=v) (∃ d:Bool,zbs ({ Conds:=r0.Conds,All:=r0.All,Bol:=r0.Bol,Rx:=r0.Rx,Trail:=r0.Trail,Eof:=r0.Eof,Act:=r0.Act,To:=r0.To }) d∧(res=(!d)∧fin=v))))))):zcd r0 v res fin:=by
 unfold zcd;have kk:=cfOk [] 19;refine fD (x:=bodyOf Tryz.f76) kk Tryz.func76 ?_;refine wkS [1,3,4] [(1,zaj r0),(3,vi v),(4,.ptr 3 0)] (by kernel_rfl) ?_;refine sO oN [1] [(7,.ptr 14 0),(14,zaj r0)] ?_;obtain ⟨b,f,h⟩:=h;rcases eft (!b) with a | a
 ·have h:=h.1 a;refine sO (ca f (g1 a 222238887 oN)) [4,7,14] [(10,vB true)] ?_;refine tD ?_;obtain ⟨j,i⟩:=h;subst res fin;exact (endQ []).1
 ·have h:=h.2 a;obtain ⟨c,g,h⟩:=h;rcases eft (!c) with e | e
  ·have h:=h.1 e;refine sO (ca f (g1 a 222 (ca g (g2 e a 562223 oN)))) [4,7,14] [(10,vB true)] ?_;refine tD ?_;obtain ⟨j,i⟩:=h;subst res fin;exact (endQ []).1
  ·have h:=h.2 e;obtain ⟨d,k,h⟩:=h;refine sO (ca f (g1 a 222 (ca g (g2 e a 5622 (ca k (g1 e 23 oN)))))) [4,7,14] [(10,vB (!d))] ?_;refine tD ?_;obtain ⟨j,i⟩:=h;subst res fin;exact (endQ []).1
theorem zaV (s0:(List zp)) (cap:Int) (res:Int) (fin:Int)
 (h:(∃ (a:Int→Int→Prop) (c:Int→Int→Nat),a cap 0∧(∀ (o0:Int) (t8:Int),a o0 t8→(ck (decide (t8 < (↑(List.length s0):Int))) ((0≤t8)∧t8 < ↑(List.length s0)∧(∃ d:Bool,∃ b:Int,zcd (gd s0 t8) o0 d b∧(ck (d) (res=t8∧fin=b) (a b (w64 (t8+1))∧c b (w64 (t8+1)) < c o0 t8)))) (res=(-1)∧fin=o0))))):zV s0 cap res fin:=by
 unfold zV;have kk:=cfOk [17] 19;refine fD (x:=bodyOf Tryz.f114) kk Tryz.func114 ?_;refine wkS [1,3,4] [(1,vL zt s0),(3,vi cap),(4,.clo 76 [.ptr 3 0])] (by kernel_rfl) ?_;refine sO oN [] [] ?_;refine qD ?_;refine sV oN [] (List.length (List.map zt s0)) (List.length s0) (fun q=>[(22,vi ((↑(q):Int))),(25,vi 0)]) ?_;refine bD (id:=0) ?_;obtain ⟨a,c,e,f⟩:=h;refine loE [] (u2 fun o0 t8=>[(3,vi o0),(25,vi t8)]) (u2 a) (u2 c) (cap,0) [] e ?_;rintro ⟨o0,t8⟩ hi;have h:=f o0 t8 hi;refine sO oN [] [(28,vB (decide (t8 < (↑(List.length s0):Int))))] ?_;refine qD ?_;refine cH 9 h (fun k h=>?_) (fun k h=>?_)
 ·refine kD ?_;show Sem _ _ _ _ _;refine wkD [28] ?_;refine qD ?_;refine bD (id:=1) ?_;refine sO oN [] [(16,vi t8)] ?_;obtain ⟨m,h⟩:=h;obtain ⟨l,h⟩:=h;obtain ⟨d,b,j,h⟩:=h;refine sO (xo zt (zaL _) m l (ca j oN)) [] [(3,vi b),(49,vB d)] ?_;refine cH 16 h (fun g h=>?_) (fun g h=>?_)
  ·refine sO oN [1,4,16,22,25,49] [(13,vi t8)] ?_;refine tD ?_;obtain ⟨o,n⟩:=h;subst res fin;exact (endQ []).1
  ·refine kD ?_;show Sem _ _ _ _ _;refine wkD [16,49] ?_;refine rO oN [] [(25,vi (w64 (t8+1)))] ?_;exact lD (b,(w64 (t8+1))) [] h
 ·refine xD (i:=0) ?_;show Sem _ _ _ _ _;refine wkD [1,4,22,25,28] ?_;refine sO oN [] [(13,vi (-1))] ?_;refine tD ?_;obtain ⟨o,n⟩:=h;subst res fin;exact (endQ []).1
theorem zaM (s0:(List zp)) (cap:Int) (res:Bool) (fin:Int)
 (h:(∃ r0:Int,∃ o:Int,zV s0 cap r0 o∧(res=(decide (r0≥0))∧fin=o))):zI s0 cap res fin:=by
 unfold zI;have kk:=cfOk [] 9;refine fD (x:=bodyOf Tryz.f80) kk Tryz.func80 ?_;refine wkS [1,3,4] [(1,vL zt s0),(3,vi cap),(4,.clo 76 [.ptr 3 0])] (by kernel_rfl) ?_;refine sO oN [] [] ?_;obtain ⟨r0,o,a,h⟩:=h;refine sO (ca a oN) [1,4] [(3,vi o),(13,vB (decide (r0≥0)))] ?_;refine tD ?_;obtain ⟨c,b⟩:=h;subst res fin;exact (endQ []).1
theorem W_spec_Right (s0:zx) (res:Bool)
 (h:((decide ((↑(List.length (List.map zm s0.Conds)):Int) < 1))=false→((decide ((↑(List.length (List.map zm s0.Conds)):Int) > 8))=false→((decide ((↑(List.length (List.map zt s0.Rules)):Int) > 40))=false→0 < List.length s0.Conds)))∧(ck (decide ((↑(List.length (List.map zm s0.Conds)):Int) < 1) || (decide ((↑(List.length (List.map zm s0.Conds)):Int) > 8) || (decide ((↑(List.length (List.map zt s0.Rules)):Int) > 40) || !(ByteArray.toList (List.getD s0.Conds 0 default).Name == ByteArray.toList { data:=#[(73:UInt8),(78:UInt8),(73:UInt8),(84:UInt8),(73:UInt8),(65:UInt8),(76:UInt8)] } && ((List.getD s0.Conds 0 default).Exclusive == false && true))))) (res=false) (∃ (c:List ByteArray→Int→Prop) (l:List ByteArray→Int→Nat),c ([]) 0∧(∀ (b:List ByteArray) (a:Int),c b a→(ck (decide (a < (↑(List.length s0.Conds):Int))) ((0≤a)∧a < ↑(List.length s0.Conds)∧(∃ j:Bool,zdK (gd s0.Conds a).Name j∧(ck (!j) (res=false) (c (sput (gd s0.Conds a).Name b) (w64 (a+1))∧l (sput (gd s0.Conds a).Name b) (w64 (a+1)) < l b a)))) (ck ((↑(List.length (List.map zP b)):Int) == (↑(List.length s0.Conds):Int)) (∃ k:Bool,∃ o:Int,zI s0.Rules ((↑(List.length s0.Conds):Int)) k o∧(res=(!k))) (res=false))))))):zcr s0 res:=by
 unfold zcr;have kk:=cfOk [] 64;refine fD (x:=bodyOf Tryz.f41) kk Tryz.func41 ?_;refine wkS [1] [(1,zQ s0)] (by kernel_rfl) ?_;refine sO oN [1] [(4,.ptr 8 0),(8,zQ s0)] ?_;refine qD ?_;obtain ⟨h3,h⟩:=h;refine sM [] [(94,vB (decide ((↑(List.length (List.map zm s0.Conds)):Int) < 1) || (decide ((↑(List.length (List.map zm s0.Conds)):Int) > 8) || (decide ((↑(List.length (List.map zt s0.Rules)):Int) > 40) || !(ByteArray.toList (List.getD s0.Conds 0 default).Name == ByteArray.toList { data:=#[(73:UInt8),(78:UInt8),(73:UInt8),(84:UInt8),(73:UInt8),(65:UInt8),(76:UInt8)] } && ((List.getD s0.Conds 0 default).Exclusive == false && true))))))] ?_ (fun n=>?_)
 ·refine cH 31 h (fun v h=>?_) (fun v h=>?_)
  ·refine sO oN [4,8,94] [(7,vB false)] ?_;refine tD ?_;subst h;exact (endQ []).1
  ·refine kD ?_;show Sem _ _ _ _ _;refine wkD [94] ?_;refine sOE oN [] [(10,.ptr 197 0),(197,.f (FV.sl []))] [(10,.ptr 197 0),(197,vL zP ([]))] ?_;refine qD ?_;refine sV oN [] (List.length (List.map zm s0.Conds)) (List.length s0.Conds) (fun q=>[(103,vL zm s0.Conds),(106,vi ((↑(q):Int))),(109,vi 0)]) ?_;refine bD (id:=0) ?_;obtain ⟨c,l,m,p⟩:=h;refine loE [] (u2 fun b a=>[(109,vi a),(197,vL zP b)]) (u2 c) (u2 l) (([]),0) [] m ?_;rintro ⟨b,a⟩ hi;have h:=p b a hi;refine sO oN [] [(112,vB (decide (a < (↑(List.length s0.Conds):Int))))] ?_;refine qD ?_;refine cH 37 h (fun r h=>?_) (fun r h=>?_)
   ·refine kD ?_;show Sem _ _ _ _ _;refine wkD [112] ?_;refine qD ?_;refine bD (id:=1) ?_;obtain ⟨w,h⟩:=h;obtain ⟨y,h⟩:=h;refine sO (xo zm (z7 _) w y oN) [] [(16,.ptr 32 0),(32,zhZ (gd s0.Conds a))] ?_;refine qD ?_;obtain ⟨j,u,h⟩:=h;refine sO (ca u oN) [] [(130,vB (!j))] ?_;refine cH 43 h (fun t h=>?_) (fun t h=>?_)
    ·refine sO oN [4,8,10,16,32,103,106,109,130,197] [(7,vB false)] ?_;refine tD ?_;subst h;exact (endQ []).1
    ·refine kD ?_;show Sem _ _ _ _ _;refine wkD [130] ?_;refine rOE (nd (show List.all (List.map zP b) (keyIs (TI.desc { desc:=TypeInfo.desc Proofs.Tryz.t9,size:=(1:Nat),bytes:=(16:Nat),zero:=Option.some (AV.f (FV.pv (Value.string { data:=#[] }))) }))=true from by first | exact fitsm_string_set _ | exact zeX _ | rfl | simp [isByteF,FV.fits,FV.size,FV.cells,FV.one,]) oN) [16,32] [(197,.f (FV.sl (putE (Value.string (gd s0.Conds a).Name) (FV.agg []) (List.map zP b))))] [(197,vL zP (sput (gd s0.Conds a).Name b))] ?_;show Sem _ _ _ _ _;refine rO oN [] [(109,vi (w64 (a+1)))] ?_;exact lD ((sput (gd s0.Conds a).Name b),(w64 (a+1))) [] h
   ·refine xD (i:=0) ?_;show Sem _ _ _ _ _;refine wkD [103,106,109,112] ?_;refine sV oN [] (List.length (List.map zm s0.Conds)) (List.length s0.Conds) (fun q=>[(19,.ptr 38 0),(38,vi ((↑(q):Int)))]) ?_;refine sO oN [] [(22,.clo 76 [.ptr 38 0])] ?_;rcases eft ((↑(List.length (List.map zP b)):Int) == (↑(List.length s0.Conds):Int)) with e | e
    ·have h:=h.1 e;obtain ⟨k,o,s,h⟩:=h;refine sO (g1 e 1111 (ca s (g1 e 13 oN))) [4,8,10,19,22,38,197] [(7,vB (!k))] ?_;refine tD ?_;subst h;exact (endQ []).1
    ·have h:=h.2 e;refine sO (g1 e 111113 oN) [4,8,10,19,22,38,197] [(7,vB false)] ?_;refine tD ?_;subst h;exact (endQ []).1
 ·rcases eft (decide ((↑(List.length (List.map zm s0.Conds)):Int) < 1)) with d | d
  ·refine sO (g1 d 22223888878888887 oN) [] [(94,vB true)] ?_;exact Sem.cast (by try rw [d];kernel_rfl) n
  ·rcases eft (decide ((↑(List.length (List.map zm s0.Conds)):Int) > 8)) with f | f
   ·refine sO (g2 f d 55556222238888887 oN) [] [(94,vB true)] ?_;exact Sem.cast (by try rw [d];try rw [f];kernel_rfl) n
   ·rcases eft (decide ((↑(List.length (List.map zt s0.Rules)):Int) > 40)) with g | g
    ·refine sO (g1 d 22223 (g2 g f 555562222223 oN)) [] [(94,vB true)] ?_;exact Sem.cast (by try rw [d];try rw [f];try rw [g];kernel_rfl) n
    ·refine sO (g1 d 22223 (g2 g f 55556222 (nd (show (0:Int)≤(0:Int) from by first | decide | rfl | trivial) (el (show (List.map zm s0.Conds)[(Int.toNat (0:Int):Nat)]?=some (zbZ (List.getD s0.Conds (0:Nat) default)) from by have:=zb7 zm s0.Conds ((0:Nat)) _ (z7 _) (((h3 d) f) g);simpa only [nm,enq,z7] using this) (g1 g 2223 oN))))) [] [(94,vB (!(ByteArray.toList (List.getD s0.Conds 0 default).Name == ByteArray.toList { data:=#[(73:UInt8),(78:UInt8),(73:UInt8),(84:UInt8),(73:UInt8),(65:UInt8),(76:UInt8)] } && ((List.getD s0.Conds 0 default).Exclusive == false && true))))] ?_;exact Sem.cast (by try rw [d];try rw [f];try rw [g];kernel_rfl) n
theorem zed (s0:za) (b:zr) (res:zq) (fin:zr)
 (h:((List.length b.sets+1) * 32≤2 ^ 47)∧((List.length b.follow+1) * 24≤2 ^ 47)∧(res=({ first:=[(↑(List.length b.sets):Int)],last:=[(↑(List.length b.sets):Int)],null:=false })∧fin=({ sets:=b.sets++[s0],follow:=b.follow++[[]] }))):zbK s0 b res fin:=by
 unfold zbK;have kk:=cfOk [] 34;refine fD (x:=bodyOf Tryz.f143) kk Tryz.func143 ?_;refine wkS [1,3,4] [(1,.ptr 3 0),(3,zw b),(4,zy s0)] (by kernel_rfl) ?_;refine sO oN [4] [(10,.ptr 20 0),(13,.ptr 26 0),(20,zy s0),(26,.agg [oL 3 zb ([]),oL 3 zb ([]),vB false])] ?_;refine sOE oN [] [(16,.own 3 ([FV.pv (Value.int IntKind.i64 (↑(List.length (List.map ze b.sets)):Int))]))] [(16,oL 3 zb ([(↑(List.length b.sets):Int)]))] ?_;obtain ⟨h0,h⟩:=h;obtain ⟨h1,h⟩:=h;refine sOE (apo ze b.sets h0 (apo zg b.follow h1 oN)) [1,10,20] [(3,.agg [.own 25 (List.map ze b.sets++[FV.agg [FV.pv (Value.int IntKind.u64 s0.e0),FV.pv (Value.int IntKind.u64 s0.e1),FV.pv (Value.int IntKind.u64 s0.e2),FV.pv (Value.int IntKind.u64 s0.e3)]]),.own 40 (List.map zg b.follow++[FV.sl []])])] [(3,.agg [oL 25 ze (b.sets++[s0]),oL 40 zg (b.follow++[[]])])] ?_;refine sOE oN [16] [(26,.agg [.f (FV.sl (List.take 1 (List.drop 0 (List.map zb [(↑(List.length b.sets):Int)])))),.f (FV.sl (List.take 1 (List.drop 0 (List.map zb [(↑(List.length b.sets):Int)])))),vB false])] [(26,.agg [vL zb ([(↑(List.length b.sets):Int)]),vL zb ([(↑(List.length b.sets):Int)]),vB false])] ?_;refine tD ?_;obtain ⟨c,a⟩:=h;subst res fin;exact (endQ []).1
theorem zdh (a:(List (List Int))) (res:(List Int))
 (h:(∃ (f:Int→Int→Prop) (g:Int→Int→Nat),f 0 0∧(∀ (size:Int) (c:Int),f size c→(ck (decide (c < (↑(List.length a):Int))) (∃ o:Prop,(o→(f (w64 (size+(↑(List.length (gd a c)):Int))) (w64 (c+1))∧g (w64 (size+(↑(List.length (gd a c)):Int))) (w64 (c+1)) < g size c))∧(0≤c)∧c < ↑(List.length a)∧(ck (decide (w64 (size+(↑(List.length (gd a c)):Int)) < 0)) False o)) ((0≤size∧size≤2 ^ 40)∧(∃ (e:List Int→Int→Prop) (j:List Int→Int→Nat),e ([]) 0∧(∀ (b:List Int) (d:Int),e b d→(ck (decide (d < (↑(List.length a):Int))) ((0≤d)∧d < ↑(List.length a)∧((List.length b+List.length (gd a d)) * 8≤2 ^ 47)∧(e (b++gd a d) (w64 (d+1))∧j (b++gd a d) (w64 (d+1)) < j b d)) (res=b))))))))):zS a res:=by
 unfold zS;have kk:=cfOk [35] 36;refine fD (x:=bodyOf Tryz.f94) kk Tryz.func94 ?_;refine wkS [1] [(1,vL zg a)] (by kernel_rfl) ?_;refine sO oN [] [] ?_;refine sO oN [] [(10,vi 0)] ?_;refine qD ?_;refine sV oN [] (List.length (List.map zg a)) (List.length a) (fun q=>[(28,vL zg a),(31,vi ((↑(q):Int))),(34,vi 0)]) ?_;refine bD (id:=0) ?_;obtain ⟨f,g,l,m⟩:=h;refine loE [] (u2 fun size c=>[(10,vi size),(34,vi c)]) (u2 f) (u2 g) (0,0) [] l ?_;rintro ⟨size,c⟩ hi;have h:=m size c hi;refine sO oN [] [(37,vB (decide (c < (↑(List.length a):Int))))] ?_;refine qD ?_;refine cH 12 h (fun p h=>?_) (fun p h=>?_)
 ·refine kD ?_;show Sem _ _ _ _ _;refine wkD [37] ?_;obtain ⟨o,r,h⟩:=h;refine sjD (fun (_:Unit)=>o) (fun (_:Unit)=>[(1,vL zg a),(10,vi (w64 (size+(↑(List.length (gd a c)):Int)))),(28,vL zg a),(31,vi ((↑(List.length a):Int))),(34,vi c)]) ?_ ?_
  ·rintro _ hj;have h:=r hj;refine rO oN [] [(34,vi (w64 (c+1)))] ?_;exact lD ((w64 (size+(↑(List.length (gd a c)):Int))),(w64 (c+1))) [] h
  ·refine bD (id:=1) ?_;obtain ⟨B,h⟩:=h;obtain ⟨y,h⟩:=h;refine sO (xo zg rfl B y oN) [] [(16,vL zb (gd a c))] ?_;refine sV oN [16] (List.length (List.map zb (gd a c))) (List.length (gd a c)) (fun q=>[(10,vi (w64 (size+(↑(q):Int))))]) ?_;refine sO oN [] [(61,vB (decide (w64 (size+(↑(List.length (gd a c)):Int)) < 0)))] ?_;refine cH 20 h (fun t h=>?_) (fun t h=>?_)
   ·exact h.elim
   ·refine kD ?_;exact jD () [] h
 ·refine xD (i:=0) ?_;show Sem _ _ _ _ _;refine wkD [28,31,34,37] ?_;obtain ⟨w,h⟩:=h;refine sO (nd w oN) [10] [(19,oL 3 zb ([]))] ?_;refine qD ?_;refine sV oN [1] (List.length (List.map zg a)) (List.length a) (fun q=>[(76,vL zg a),(79,vi ((↑(q):Int))),(82,vi 0)]) ?_;refine bD (id:=2) ?_;obtain ⟨e,j,k,n⟩:=h;refine loE [] (u2 fun b d=>[(19,oL 3 zb b),(82,vi d)]) (u2 e) (u2 j) (([]),0) [] k ?_;rintro ⟨b,d⟩ hi;have h:=n b d hi;refine sO oN [] [(85,vB (decide (d < (↑(List.length a):Int))))] ?_;refine qD ?_;refine cH 28 h (fun s h=>?_) (fun s h=>?_)
  ·refine kD ?_;show Sem _ _ _ _ _;refine wkD [85] ?_;refine qD ?_;refine bD (id:=3) ?_;obtain ⟨v,h⟩:=h;obtain ⟨A,h⟩:=h;refine sO (xo zg rfl v A oN) [] [(25,vL zb (gd a d))] ?_;obtain ⟨u,h⟩:=h;refine rOE (nd (show (0:Nat)=(0:Nat)∧List.length (List.map zb b)=List.length (List.map zb b) from ⟨rfl,rfl⟩) (nd (show (List.length (List.map zb b)+List.length (List.map zb (gd a d))) * (8:Nat)≤(2:Nat) ^ (47:Nat) from by simpa only [nm] using u) (nd (show List.all (List.map zb (gd a d)) (FV.fits (1:Nat))=true from by first | exact fits_i64 _ | exact keysenc_i64 _ | rfl | simp [isByteF,FV.fits,FV.size,FV.cells,FV.one,zb]) oN))) [25] [(19,.own 3 (List.map zb b++List.map zb (gd a d)))] [(19,oL 3 zb (b++gd a d))] ?_;show Sem _ _ _ _ _;refine rO oN [] [(82,vi (w64 (d+1)))] ?_;exact lD ((b++gd a d),(w64 (d+1))) [] h
  ·refine xD (i:=2) ?_;show Sem _ _ _ _ _;refine wkD [76,79,82,85] ?_;refine sO oN [19] [(7,oL 3 zb b)] ?_;refine tD ?_;subst h;exact (endQ []).1
theorem zgN (a:(List Int)) (b:(List Int)) (res:(List Int))
 (h:(∃ r0:List Int,zS ([a,b]) r0∧List.length r0 < 1099511627776∧(List.length (sortInts r0)=List.length r0)∧List.length (sortInts r0) < 1099511627776∧(res=(compactInts (sortInts r0))))):zY a b res:=by
 unfold zY;have kk:=cfOk [] 14;refine fD (x:=bodyOf Tryz.f82) kk Tryz.func82 ?_;refine wkS [1,4] [(1,vL zb a),(4,vL zb b)] (by kernel_rfl) ?_;refine sO oN [] [] ?_;obtain ⟨r0,c,h⟩:=h;refine sO (ca (Eq.mp (by unfold zS;(try simp only [List.drop_zero,List.take_length]);first | done | simp only [nm,enq]:zS ([a,b]) r0=CallE Tryz.prog 94 [.f (FV.sl (List.take (List.length [FV.sl (List.map zb a),FV.sl (List.map zb b)]) (List.drop 0 [FV.sl (List.map zb a),FV.sl (List.map zb b)])))] [] (oL 3 zb r0) []) c) oN) [1,4] [(16,oL 3 zb r0)] ?_;obtain ⟨h1,h⟩:=h;obtain ⟨h2,h⟩:=h;refine sO (nd (show (0:Nat)=(0:Nat)∧List.length (List.map zb r0)=List.length (List.map zb r0) from ⟨rfl,rfl⟩) (op (.l (List.map zb (sortInts r0))) (show Prod.fst (sortF,false) (List.map zb r0)=some (List.map zb (sortInts r0)) from by first | exact sortF_map zb (fun _=>rfl) _ h1 | (have:=sortF_map zb (fun _=>rfl) _ h1;simpa only [nm,enq] using this)) (nd (show List.length (List.map zb (sortInts r0))=List.length (List.map zb r0) from by simpa only [nm] using h2) oN))) [] [(16,oL 3 zb (sortInts r0))] ?_;obtain ⟨h3,h⟩:=h;refine sO (nd (show (0:Nat)=(0:Nat)∧List.length (List.map zb (sortInts r0))=List.length (List.map zb (sortInts r0)) from ⟨rfl,rfl⟩) (op (.l (List.map zb (compactInts (sortInts r0)))) (show Prod.fst (compactF,true) (List.map zb (sortInts r0))=some (List.map zb (compactInts (sortInts r0))) from by first | exact zgC zb (fun _=>rfl) _ h3 | (have:=zgC zb (fun _=>rfl) _ h3;simpa only [nm,enq] using this)) oN)) [16] [(13,oL 3 zb (compactInts (sortInts r0)))] ?_;refine tD ?_;subst h;exact (endQ [(13,0)]).1
theorem zeA (c:(List Int)) (l:(List Int)) (b:zr) (fin:zr)
 (h:(∃ (e:List (List Int)→Int→Prop) (g:List (List Int)→Int→Nat),e b.follow 0∧(∀ (a:List (List Int)) (d:Int),e a d→(ck (decide (d < (↑(List.length c):Int))) ((0≤d)∧d < ↑(List.length c)∧(0≤gd c d)∧(Int.toNat (gd c d) < List.length a)∧gd c d < ↑(List.length a)∧(∃ f:List Int,zY (gd a (gd c d)) l f∧(0≤gd c d)∧(Int.toNat (gd c d) < List.length a)∧gd c d < ↑(List.length a)∧(e (List.set a (Int.toNat (gd c d)) f) (w64 (d+1))∧g (List.set a (Int.toNat (gd c d)) f) (w64 (d+1)) < g a d))) (fin=({ sets:=b.sets,follow:=a })))))):zaW c l b fin:=by
 unfold zaW;have kk:=cfOk [] 30;refine fD (x:=bodyOf Tryz.f159) kk Tryz.func159 ?_;refine wkS [1,3,4,7] [(1,.ptr 3 0),(3,zw b),(4,vL zb c),(7,vL zb l)] (by kernel_rfl) ?_;refine sV oN [4] (List.length (List.map zb c)) (List.length c) (fun q=>[(25,vL zb c),(28,vi ((↑(q):Int))),(31,vi 0)]) ?_;refine bD (id:=0) ?_;obtain ⟨e,g,j,k⟩:=h;refine loE [] (u2 fun a d=>[(3,.agg [oL 25 ze b.sets,oL 40 zg a]),(31,vi d)]) (u2 e) (u2 g) (b.follow,0) [] j ?_;rintro ⟨a,d⟩ hi;have h:=k a d hi;refine sO oN [] [(34,vB (decide (d < (↑(List.length c):Int))))] ?_;refine qD ?_;refine cH 11 h (fun o h=>?_) (fun o h=>?_)
 ·refine kD ?_;show Sem _ _ _ _ _;refine wkD [34] ?_;refine qD ?_;refine bD (id:=1) ?_;obtain ⟨t,h⟩:=h;obtain ⟨u,h⟩:=h;refine sO (xo zb rfl t u oN) [] [(22,vi (gd c d))] ?_;obtain ⟨m,h⟩:=h;obtain ⟨s,h⟩:=h;obtain ⟨w,h⟩:=h;obtain ⟨f,n,h⟩:=h;obtain ⟨p,h⟩:=h;obtain ⟨v,h⟩:=h;obtain ⟨r,h⟩:=h;refine rV (nd m (nd (show Int.toNat (gd c d) < List.length (List.map zg a) from by simpa only [nm] using s) (el (show (List.map zg a)[((0:Nat)+Int.toNat (gd c d):Nat)]?=some (fL zb (gd a (gd c d))) from by have:=zcV zg a (gd c d) _ rfl m w;simpa only [nm,enq,zg] using this) (ca n (nd p (nd (show Int.toNat (gd c d) < List.length (List.map zg a) from by simpa only [nm] using v) (el (show (List.map zg a)[((0:Nat)+Int.toNat (gd c d):Nat)]?=some (fL zb (gd a (gd c d))) from by have:=zcV zg a (gd c d) _ rfl p r;simpa only [nm,enq,zg] using this) oN))))))) [22] (show AV from .own 40 (List.set (List.map zg a) ((0:Nat)+Int.toNat (gd c d)) (FV.sl (List.map zb f)))) (oL 40 zg (List.set a (Int.toNat (gd c d)) f)) (fun q=>[(3,.agg [oL 25 ze b.sets,q])]) ?_;show Sem _ _ _ _ _;refine rO oN [] [(31,vi (w64 (d+1)))] ?_;exact lD ((List.set a (Int.toNat (gd c d)) f),(w64 (d+1))) [] h
 ·refine xD (i:=0) ?_;obtain he0:=h;subst fin;exact (endQ []).2
theorem ze7 (x:zq) (y:zq) (b:zr) (res:zq) (fin:zr)
 (h:(∃ o:zr,zaW x.last y.first b o∧(∃ J4:List Int→Prop,(∀ (a:List Int),J4 a→(∃ J7:List Int→Prop,(∀ (c:List Int),J7 c→(res=({ first:=a,last:=c,null:=x.null && y.null })∧fin=o))∧(ck y.null (∃ d:List Int,zY x.last y.last d∧J7 d) (J7 y.last))))∧(ck x.null (∃ e:List Int,zY x.first y.first e∧J4 e) (J4 x.first))))):zaD x y b res fin:=by
 unfold zaD;have kk:=cfOk [41] 42;refine fD (x:=bodyOf Tryz.f144) kk Tryz.func144 ?_;refine wkS [1,3,4,7] [(1,.ptr 3 0),(3,zw b),(4,zH x),(7,zH y)] (by kernel_rfl) ?_;refine sO oN [4,7] [(13,.ptr 26 0),(16,.ptr 32 0),(19,.ptr 38 0),(26,zH x),(32,zH y),(38,.agg [oL 3 zb ([]),oL 3 zb ([]),vB false])] ?_;obtain ⟨o,n,h⟩:=h;refine sO (ca n oN) [1] [(3,zw o)] ?_;refine sM [] [(22,.ptr 44 0),(44,.agg [vL zb x.first,vL zb y.last,vB (x.null && y.null)])] ?_ (fun g=>?_)
 ·obtain ⟨J4,p,h⟩:=h;refine sjE J4 [] (fun a=>[(44,.agg [vL zb a,vL zb y.last,vB (x.null && y.null)])]) ?_ ?_
  ·rintro a hj;have h:=p a hj;obtain ⟨J7,m,h⟩:=h;refine sjE J7 [13,16,26,32] (fun c=>[(44,.agg [vL zb a,vL zb c,vB (x.null && y.null)])]) ?_ ?_
   ·rintro c hj;have h:=m c hj;refine sO oN [22,44] [(38,.agg [vL zb a,vL zb c,vB (x.null && y.null)])] ?_;refine tD ?_;obtain ⟨s,r⟩:=h;subst res fin;exact (endQ []).1
   ·refine sO oN [] [(103,vB y.null)] ?_;refine cH 34 h (fun k h=>?_) (fun k h=>?_)
    ·obtain ⟨d,l,h⟩:=h;refine rO (ca l oN) [13,16,26,32,103] [(44,.agg [vL zb a,vL zb d,vB (x.null && y.null)])] ?_;exact jD d [] h
    ·refine kD ?_;exact jD y.last [] h
  ·refine sO oN [] [(79,vB x.null)] ?_;refine cH 26 h (fun j h=>?_) (fun j h=>?_)
   ·obtain ⟨e,i,h⟩:=h;refine rO (ca i oN) [79] [(44,.agg [vL zb e,vL zb y.last,vB (x.null && y.null)])] ?_;exact jD e [] h
   ·refine kD ?_;exact jD x.first [] h
 ·rcases eft x.null with f | f
  ·refine sO (g1 f 113 oN) [] [(22,.ptr 44 0),(44,.agg [vL zb x.first,vL zb y.last,vB y.null])] ?_;exact Sem.cast (by try rw [f];kernel_rfl) g
  ·refine sO (g1 f 113 oN) [] [(22,.ptr 44 0),(44,.agg [vL zb x.first,vL zb y.last,vB false])] ?_;exact Sem.cast (by try rw [f];kernel_rfl) g
theorem zdO (x:zj) (n:Int) (b:zr) (res:(List zq)) (fin:zr)
 (h:(∃ (g:List za→List (List Int)→List zq→Int→Prop) (j:List za→List (List Int)→List zq→Int→Nat),g b.sets b.follow ([]) 0∧(∀ (c:List za) (a:List (List Int)) (e:List zq) (t8:Int),g c a e t8→(ck (decide (t8 < n)) (∃ d:zq,∃ f:zr,zak x ({ sets:=c,follow:=a }) d f∧((List.length e+1) * 56≤2 ^ 47)∧(g f.sets f.follow (e++[d]) (w64 (t8+1))∧j f.sets f.follow (e++[d]) (w64 (t8+1)) < j c a e t8)) (res=e∧fin=({ sets:=c,follow:=a })))))):zan x n b res fin:=by
 unfold zan;have kk:=cfOk [17] 18;refine fD (x:=bodyOf Tryz.f160) kk Tryz.func160 ?_;refine wkS [1,3,4,7] [(1,.ptr 3 0),(3,zw b),(4,zu x),(7,vi n)] (by kernel_rfl) ?_;refine sO oN [4] [(13,.ptr 26 0),(19,oL 158 zn ([])),(26,zu x)] ?_;refine qD ?_;refine sO oN [7] [(22,vi n),(25,vi 0)] ?_;refine bD (id:=0) ?_;obtain ⟨g,j,k,l⟩:=h;refine loE [] (u4 fun c a e t8=>[(3,.agg [oL 25 ze c,oL 40 zg a]),(19,oL 158 zn e),(25,vi t8)]) (u4 g) (u4 j) (b.sets,b.follow,([]),0) [] k ?_;rintro ⟨c,a,e,t8⟩ hi;have h:=l c a e t8 hi;refine sO oN [] [(28,vB (decide (t8 < n)))] ?_;refine qD ?_;refine cH 9 h (fun o h=>?_) (fun o h=>?_)
 ·refine kD ?_;show Sem _ _ _ _ _;refine wkD [28] ?_;refine qD ?_;refine bD (id:=1) ?_;obtain ⟨d,f,m,h⟩:=h;obtain ⟨h9,h⟩:=h;refine rV (ca m (apo zn e h9 oN)) [] (show AV from .own 158 (List.map zn e++[FV.agg [FV.sl (List.map zb d.first),FV.sl (List.map zb d.last),FV.pv (Value.bool d.null)]])) (oL 158 zn (e++[d])) (fun q=>[(3,zw f),(19,q)]) ?_;show Sem _ _ _ _ _;refine rO oN [] [(25,vi (w64 (t8+1)))] ?_;exact lD (f.sets,f.follow,(e++[d]),(w64 (t8+1))) [] h
 ·refine xD (i:=0) ?_;show Sem _ _ _ _ _;refine wkD [1,13,22,25,26,28] ?_;refine sO oN [] [] ?_;refine tD ?_;obtain ⟨r,p⟩:=h;subst res fin;exact (endQ []).1
theorem W_place_maybe (x:zq) (res:zq)
 (h:(res=({ first:=x.first,last:=x.last,null:=true }))):zcB x res:=by
 unfold zcB;have kk:=cfOk [4] 5;refine fD (x:=bodyOf Tryz.f162) kk Tryz.func162 ?_;refine wkS [1] [(1,zH x)] (by kernel_rfl) ?_;refine sO oN [1] [(4,.ptr 8 0),(7,.ptr 14 0),(8,zH x),(14,.agg [oL 3 zb ([]),oL 3 zb ([]),vB false])] ?_;refine sO oN [] [(8,.agg [vL zb x.first,vL zb x.last,vB true])] ?_;refine sO oN [4,8] [(14,.agg [vL zb x.first,vL zb x.last,vB true])] ?_;refine tD ?_;subst h;exact (endQ []).1
end Go.Ev
namespace Go.Ev
open Go Go.Proofs
set_option maxRecDepth 8000
set_option maxHeartbeats 1000000
theorem ze6 (x:zj) (b:zr) (res:zq) (fin:zr)
 (h:(∃ r0:Int,zdj x r0∧(ck (r0 == 0) (res=({ first:=[],last:=[],null:=true })∧fin=b) (0 < List.length x.Kids∧(∃ a:List zq,∃ o:zr,zan (List.getD x.Kids 0 default) (if 1 > if x.Hi > x.Lo then x.Hi else x.Lo then 1 else if x.Hi > x.Lo then x.Hi else x.Lo) b a o∧(∃ w:List za→List (List Int)→List zq→Prop,(∀ (m:List za) (k:List (List Int)) (l:List zq),w m k l→(zag l∧(List.length l < 1099511627776∧∃ (p:Nat→List za→List (List Int)→List Int→List Int→Bool→Prop),p 0 m k ([]) ([]) true∧(∀ (i:Nat) (y:zq),i < List.length l→l[List.length l - 1 - i]?=some y→∀ (f:List za) (d:List (List Int)) (e:List Int) (j:List Int) (g:Bool),p i f d e j g→(∃ n:zq,∃ u:zr,zaD y ({ first:=e,last:=j,null:=g }) ({ sets:=f,follow:=d }) n u∧(ck (decide (x.Hi≥0) && decide ((↑(List.length l):Int) - 1 - (↑i:Int)≥x.Lo)) (∃ r:zq,zcB n r∧p (i+1) u.sets u.follow r.first r.last r.null) (p (i+1) u.sets u.follow n.first n.last n.null))))∧(∀ (f:List za) (d:List (List Int)) (e:List Int) (j:List Int) (g:Bool),p (List.length l) f d e j g→(res=({ first:=e,last:=j,null:=g })∧fin=({ sets:=f,follow:=d }))))))∧(ck (decide (x.Hi < 0)) ((0≤w64 ((↑(List.length a):Int) - 1))∧(Int.toNat (w64 ((↑(List.length a):Int) - 1)) < List.length a)∧Int.toNat (w64 ((↑(List.length a):Int) - 1)) < List.length a∧Int.toNat (w64 ((↑(List.length a):Int) - 1)) < List.length a∧(∃ t:zr,zaW (gd a (w64 ((↑(List.length a):Int) - 1))).last (gd a (w64 ((↑(List.length a):Int) - 1))).first o t∧Int.toNat (w64 ((↑(List.length a):Int) - 1)) < List.length a∧(ck (gd a (w64 ((↑(List.length a):Int) - 1))).null (((gd a (w64 ((↑(List.length a):Int) - 1))).null=true→Int.toNat (w64 ((↑(List.length a):Int) - 1)) < List.length a)∧w t.sets t.follow (List.set a (Int.toNat (w64 ((↑(List.length a):Int) - 1))) { first:=(gd a (w64 ((↑(List.length a):Int) - 1))).first,last:=(gd a (w64 ((↑(List.length a):Int) - 1))).last,null:=true })) (((gd a (w64 ((↑(List.length a):Int) - 1))).null=false→Int.toNat (w64 ((↑(List.length a):Int) - 1)) < List.length a)∧w t.sets t.follow (List.set a (Int.toNat (w64 ((↑(List.length a):Int) - 1))) { first:=(gd a (w64 ((↑(List.length a):Int) - 1))).first,last:=(gd a (w64 ((↑(List.length a):Int) - 1))).last,null:=x.Lo == 0 }))))) (w o.sets o.follow a)))))))):zbt x b res fin:=by
 unfold zbt;have kk:=cfOk [75] 76;refine fD (x:=bodyOf Tryz.f145) kk Tryz.func145 ?_;refine wkS [1,3,4] [(1,.ptr 3 0),(3,zw b),(4,zu x)] (by kernel_rfl) ?_;refine sO oN [1,4] [(7,.ptr 14 0),(10,.ptr 20 0),(13,.ptr 26 0),(14,.ptr 3 0),(20,zu x),(26,.agg [oL 3 zb ([]),oL 3 zb ([]),vB false])] ?_;refine qD ?_;obtain ⟨r0,U,h⟩:=h;refine sO (ca U oN) [] [(37,vB (r0 == 0))] ?_;refine cH 12 h (fun a1 h=>?_) (fun a1 h=>?_)
 ·refine sO oN [7,10,14,20,37] [(26,.agg [oL 3 zb ([]),oL 3 zb ([]),vB true])] ?_;refine tD ?_;obtain ⟨X,a2⟩:=h;subst res fin;exact (endQ [(26,0),(26,1)]).1
 ·refine kD ?_;show Sem _ _ _ _ _;refine wkD [37] ?_;obtain ⟨h2,h⟩:=h;obtain ⟨a,o,S,h⟩:=h;refine sO (nd (show (0:Int)≤(0:Int) from by first | decide | rfl | trivial) (el (show (List.map zc x.Kids)[(Int.toNat (0:Int):Nat)]?=some (zco (List.getD x.Kids (0:Nat) default)) from by have:=zb7 zc x.Kids ((0:Nat)) _ (zC _) h2;simpa only [nm,enq,zC] using this) (ca (Eq.mp (by unfold zan;(try simp only [List.drop_zero,List.take_length]);first | done | simp only [nm,enq]:zan (List.getD x.Kids 0 default) (if 1 > if x.Hi > x.Lo then x.Hi else x.Lo then 1 else if x.Hi > x.Lo then x.Hi else x.Lo) b a o=CallE Tryz.prog 160 [.ptr 3 0,.agg [vi (List.getD x.Kids 0 default).Kind,vI .u64 (za.e0 (List.getD x.Kids 0 default).Set),vI .u64 (za.e1 (List.getD x.Kids 0 default).Set),vI .u64 (za.e2 (List.getD x.Kids 0 default).Set),vI .u64 (za.e3 (List.getD x.Kids 0 default).Set),vi (List.getD x.Kids 0 default).Lo,vi (List.getD x.Kids 0 default).Hi,vL zc (List.getD x.Kids 0 default).Kids],vi (if true=true then if 1 > if true=true then if x.Hi > x.Lo then x.Hi else x.Lo else if x.Hi < x.Lo then x.Hi else x.Lo then 1 else if true=true then if x.Hi > x.Lo then x.Hi else x.Lo else if x.Hi < x.Lo then x.Hi else x.Lo else if 1 < if true=true then if x.Hi > x.Lo then x.Hi else x.Lo else if x.Hi < x.Lo then x.Hi else x.Lo then 1 else if true=true then if x.Hi > x.Lo then x.Hi else x.Lo else if x.Hi < x.Lo then x.Hi else x.Lo)] [.agg [oL 25 ze b.sets,oL 40 zg b.follow]] (oL 158 zn a) [zw o]) S) oN))) [] [(3,zw o),(16,oL 158 zn a)] ?_;refine sO oN [] [(19,.ptr 38 0),(38,.agg [oL 3 zb ([]),oL 3 zb ([]),vB true])] ?_;obtain ⟨w,Q,h⟩:=h;refine sjE (u3 w) [] (u3 fun m k l=>[(3,.agg [oL 25 ze m,oL 40 zg k]),(16,oL 158 zn l)]) ?_ ?_
  ·rintro ⟨m,k,l⟩ hj;have h:=Q m k l hj;refine qD ?_;obtain ⟨H,h⟩:=h;refine sO (ca (Eq.mp (by unfold zag;(try simp only [List.drop_zero,List.take_length]);first | done | simp only [nm,enq]:zag l=CallE Tryz.prog 161 [.f (FV.sl (List.take (List.length (List.map zn l)) (List.drop 0 (List.map zn l))))] [] (.clo 169 [.fp (fL zn l) 0]) []) H) oN) [16] [(172,.clo 169 [.fp (fL zn l) 0])] ?_;refine bD (id:=0) ?_;obtain ⟨a4,p,D,A,B⟩:=h;refine Sem.range (α:=zq) (σ:=List za×List (List Int)×List Int×List Int×Bool) (c:=(cf [75] 76)) (by rfl) (tg:=57) (p0:=58) (p1:=59) (by kernel_rfl) (xs:=l) (by kernel_rfl) back_ok_169 (ey:=(fun (y:zq)=>(zbS y:FV))) (sz:=3) (fun y=>zaa y) (fun y=>by simp [FV.fits,FV.size,FV.cells,FV.one,zaa]) (by omega) [(7,.ptr 14 0),(10,.ptr 20 0),(13,.ptr 26 0),(19,.ptr 38 0)] [3,14,20,26,38] (fun (q:List za×List (List Int)×List Int×List Int×Bool)=>(fun (f:List za) (d:List (List Int)) (e:List Int) (j:List Int) (g:Bool)=>([.agg [oL 25 ze f,oL 40 zg d],.ptr 3 0,zu x,.agg [oL 3 zb ([]),oL 3 zb ([]),vB false],.agg [vL zb e,vL zb j,vB g]]:List AV)) q.1 q.2.1 q.2.2.1 q.2.2.2.1 q.2.2.2.2) (fun (i:Nat) (q:List za×List (List Int)×List Int×List Int×Bool)=>p i q.1 q.2.1 q.2.2.1 q.2.2.2.1 q.2.2.2.2) (m,k,([]),([]),true) ((wkE (G':=[(3,.agg [oL 25 ze m,oL 40 zg k]),(7,.ptr 14 0),(10,.ptr 20 0),(13,.ptr 26 0),(14,.ptr 3 0),(19,.ptr 38 0),(20,zu x),(26,.agg [oL 3 zb ([]),oL 3 zb ([]),vB false]),(38,.agg [vL zb ([]),vL zb ([]),vB true])]) [(38,0),(38,1)] [3,7,10,13,14,19,20,26,38] (by kernel_rfl)).trans (Wk.pick [7,10,13,19,3,14,20,26,38] (by kernel_rfl))) D (by rfl) (fun q=>by rfl) (by rfl) (by decide) (fun q q'=>by rfl) (Nat.le_of_ble_eq_true rfl) (Nat.le_of_ble_eq_true rfl) (by decide) ?_ ?_
   ·rintro i ⟨f,d,e,j,g⟩ y hi hy hinv;have h:=A i y hi hy f d e j g hinv;refine Sem.weak (Wk.pick [3,6,7,9,10,12,13,15,19,175,178] (G':=[(3,.agg [oL 25 ze f,oL 40 zg d]),(6,.ptr 3 0),(7,.ptr 6 0),(9,zu x),(10,.ptr 9 0),(12,.agg [oL 3 zb ([]),oL 3 zb ([]),vB false]),(13,.ptr 12 0),(15,.agg [vL zb e,vL zb j,vB g]),(19,.ptr 15 0),(175,vi ((↑(List.length l):Int) - 1 - (↑i:Int))),(178,zH y)]) (by kernel_rfl)) ?_;show Sem _ (cfr [75] 76) (sq1 (sq1 (sq2 (sq1 (sq2 (sq2 (sq2 (sq2 (sq2 (bodyOf Tryz.f145)))))))))) _ _;have kr:=cfrOk [75] 76;refine sO oN [13,175] [(25,vi ((↑(List.length l):Int) - 1 - (↑i:Int)))] ?_;refine rO oN [178] [(28,.ptr 56 0),(56,zH y)] ?_;refine ⟨rfl,?_⟩;show Sem _ (cfr [75] 76) (sq2 (sq1 (sq2 (sq1 (sq2 (sq2 (sq2 (sq2 (sq2 (bodyOf Tryz.f145)))))))))) _ _;refine bD (id:=1) ?_;obtain ⟨n,u,I,h⟩:=h;refine sO (ca I oN) [7,28,56] [(3,zw u),(15,zH n)] ?_;refine sM [10,25] [(217,vB (decide (x.Hi≥0) && decide ((↑(List.length l):Int) - 1 - (↑i:Int)≥x.Lo)))] ?_ (fun M=>?_)
    ·refine cH 72 h (fun J h=>?_) (fun J h=>?_)
     ·obtain ⟨r,E,h⟩:=h;refine rO (ca E oN) [19,217] [(15,zH r)] ?_;exact rndE (wkE [] [3,6,9,12,15] (by rfl)) (by kernel_rfl) ⟨(u.sets,u.follow,r.first,r.last,r.null),rfl,h⟩
     ·refine kD ?_;exact rndE (wkE [] [3,6,9,12,15] (by rfl)) (by kernel_rfl) ⟨(u.sets,u.follow,n.first,n.last,n.null),rfl,h⟩
    ·rcases eft (decide (x.Hi≥0)) with v | v
     ·refine sO (g1 v 11113 oN) [10,25] [(217,vB (decide ((↑(List.length l):Int) - 1 - (↑i:Int)≥x.Lo)))] ?_;exact Sem.cast (by try rw [v];kernel_rfl) M
     ·refine sO (g1 v 11113 oN) [10,25] [(217,vB false)] ?_;exact Sem.cast (by try rw [v];kernel_rfl) M
   ·rintro ⟨f,d,e,j,g⟩ hinv;have h:=B f d e j g hinv;refine ⟨[(3,.agg [oL 25 ze f,oL 40 zg d]),(13,.ptr 26 0),(19,.ptr 38 0),(26,.agg [oL 3 zb ([]),oL 3 zb ([]),vB false]),(38,.agg [vL zb e,vL zb j,vB g])],Wk.pick [3,13,19,26,38] (by kernel_rfl),?_⟩;show Sem _ _ _ _ _;refine sO oN [19,38] [(26,.agg [vL zb e,vL zb j,vB g])] ?_;refine tD ?_;obtain ⟨X,a2⟩:=h;subst res fin;exact (endQ []).1
  ·refine sO oN [] [(85,vB (decide (x.Hi < 0)))] ?_;refine cH 28 h (fun F h=>?_) (fun F h=>?_)
   ·obtain ⟨Y,h⟩:=h;obtain ⟨a0,h⟩:=h;refine sOE (nd (show (0:Int)≤w64 ((↑(List.length (List.map zn a)):Int) - 1) from by simpa only [nm] using Y) (nd (show Int.toNat (w64 ((↑(List.length (List.map zn a)):Int) - 1)) < List.length (List.map zn a) from by simpa only [nm] using a0) oN)) [85] [(22,AV.ep 16 0 (0+Int.toNat (w64 ((↑(List.length (List.map zn a)):Int) - 1))) 0)] [(22,AV.ep 16 0 (Int.toNat (w64 ((↑(List.length a):Int) - 1))) 0)] ?_;obtain ⟨W,h⟩:=h;obtain ⟨a3,h⟩:=h;obtain ⟨t,N,h⟩:=h;refine sO (el (zb7 zn a (Int.toNat (w64 ((↑(List.length a):Int) - 1))) _ (zaa _) W) (el (zb7 zn a (Int.toNat (w64 ((↑(List.length a):Int) - 1))) _ (zaa _) a3) (ca N oN))) [] [(3,zw t)] ?_;obtain ⟨O,h⟩:=h;rcases eft (gd a (w64 ((↑(List.length a):Int) - 1))).null with s | s
    ·have h:=h.1 s;obtain ⟨R,h⟩:=h;refine rOE (el (zb7 zn a (Int.toNat (w64 ((↑(List.length a):Int) - 1))) _ (zaa _) O) (g1 s 2223 (el (zb7 zn a (Int.toNat (w64 ((↑(List.length a):Int) - 1))) _ (zaa _) (R s)) oN))) [22] [(16,.own 158 (List.set (List.map zn a) (Int.toNat (w64 ((↑(List.length a):Int) - 1))) (FV.agg [FV.sl (List.map zb (gd a (w64 ((↑(List.length a):Int) - 1))).first),FV.sl (List.map zb (gd a (w64 ((↑(List.length a):Int) - 1))).last),FV.pv (Value.bool true)])))] [(16,oL 158 zn (List.set a (Int.toNat (w64 ((↑(List.length a):Int) - 1))) { first:=(gd a (w64 ((↑(List.length a):Int) - 1))).first,last:=(gd a (w64 ((↑(List.length a):Int) - 1))).last,null:=true }))] ?_;exact jD (t.sets,t.follow,(List.set a (Int.toNat (w64 ((↑(List.length a):Int) - 1))) { first:=(gd a (w64 ((↑(List.length a):Int) - 1))).first,last:=(gd a (w64 ((↑(List.length a):Int) - 1))).last,null:=true })) [] h
    ·have h:=h.2 s;obtain ⟨V,h⟩:=h;refine rOE (el (zb7 zn a (Int.toNat (w64 ((↑(List.length a):Int) - 1))) _ (zaa _) O) (g1 s 2223 (el (zb7 zn a (Int.toNat (w64 ((↑(List.length a):Int) - 1))) _ (zaa _) (V s)) oN))) [22] [(16,.own 158 (List.set (List.map zn a) (Int.toNat (w64 ((↑(List.length a):Int) - 1))) (FV.agg [FV.sl (List.map zb (gd a (w64 ((↑(List.length a):Int) - 1))).first),FV.sl (List.map zb (gd a (w64 ((↑(List.length a):Int) - 1))).last),FV.pv (Value.bool (x.Lo == 0))])))] [(16,oL 158 zn (List.set a (Int.toNat (w64 ((↑(List.length a):Int) - 1))) { first:=(gd a (w64 ((↑(List.length a):Int) - 1))).first,last:=(gd a (w64 ((↑(List.length a):Int) - 1))).last,null:=x.Lo == 0 }))] ?_;exact jD (t.sets,t.follow,(List.set a (Int.toNat (w64 ((↑(List.length a):Int) - 1))) { first:=(gd a (w64 ((↑(List.length a):Int) - 1))).first,last:=(gd a (w64 ((↑(List.length a):Int) - 1))).last,null:=x.Lo == 0 })) [] h
   ·refine kD ?_;exact jD (o.sets,o.follow,a) [] h
theorem zee (x:zj) (b:zr) (res:zq) (fin:zr)
 (h:(ck (x.Kind == 2) (∃ r0:zq,∃ o:zr,zbK x.Set b r0 o∧(res=r0∧fin=o)) (ck (x.Kind == 3) (∃ (w:List za→List (List Int)→List Int→List Int→Bool→Int→Prop) (E:List za→List (List Int)→List Int→List Int→Bool→Int→Nat),w b.sets b.follow ([]) ([]) true 0∧(∀ (m:List za) (g:List (List Int)) (f:List Int) (l:List Int) (k:Bool) (u:Int),w m g f l k u→(ck (decide (u < (↑(List.length x.Kids):Int))) ((0≤u)∧u < ↑(List.length x.Kids)∧(∃ M:zq,∃ V:zr,zak (gd x.Kids u) ({ sets:=m,follow:=g }) M V∧(∃ p:zq,∃ A:zr,zaD ({ first:=f,last:=l,null:=k }) M V p A∧(w A.sets A.follow p.first p.last p.null (w64 (u+1))∧E A.sets A.follow p.first p.last p.null (w64 (u+1)) < E m g f l k u)))) (res=({ first:=f,last:=l,null:=k })∧fin=({ sets:=m,follow:=g }))))) (ck (x.Kind == 4) (∃ (v:List za→List (List Int)→List Int→List Int→Bool→Int→Prop) (F:List za→List (List Int)→List Int→List Int→Bool→Int→Nat),v b.sets b.follow ([]) ([]) false 0∧(∀ (j:List za) (d:List (List Int)) (c:List Int) (e:List Int) (a:Bool) (t:Int),v j d c e a t→(ck (decide (t < (↑(List.length x.Kids):Int))) ((0≤t)∧t < ↑(List.length x.Kids)∧(∃ n:zq,∃ y:zr,zak (gd x.Kids t) ({ sets:=j,follow:=d }) n y∧(∃ s:List Int,zY c n.first s∧(∃ r:List Int,zY e n.last r∧(v y.sets y.follow s r (a || n.null) (w64 (t+1))∧F y.sets y.follow s r (a || n.null) (w64 (t+1)) < F j d c e a t))))) (res=({ first:=c,last:=e,null:=a })∧fin=({ sets:=j,follow:=d }))))) (ck (x.Kind == 5) (∃ B:zq,∃ H:zr,zbt x b B H∧(res=B∧fin=H)) (res=({ first:=[],last:=[],null:=true })∧fin=b)))))):zak x b res fin:=by
 unfold zak;have kk:=cfOk [37,68] 75;refine fD (x:=bodyOf Tryz.f126) kk Tryz.func126 ?_;refine wkS [1,3,4] [(1,.ptr 3 0),(3,zw b),(4,zu x)] (by kernel_rfl) ?_;refine sO oN [4] [(10,.ptr 20 0),(13,.ptr 26 0),(20,zu x),(26,.agg [oL 3 zb ([]),oL 3 zb ([]),vB false])] ?_;refine qD ?_;refine sO oN [] [(40,vi x.Kind)] ?_;refine bD (id:=0) ?_;refine sO oN [] [(43,vB (x.Kind == 2))] ?_;refine cH 14 h (fun b0 h=>?_) (fun b0 h=>?_)
 ·obtain ⟨r0,o,a7,h⟩:=h;refine sO (ca a7 oN) [1,10,20,40,43] [(3,zw o),(26,zH r0)] ?_;refine tD ?_;obtain ⟨Q,R⟩:=h;subst res fin;exact (endQ []).1
 ·refine sO oN [43] [(61,vB (x.Kind == 3))] ?_;refine cH 20 h (fun b1 h=>?_) (fun b1 h=>?_)
  ·refine sO oN [40,61] [(16,.ptr 32 0),(32,.agg [oL 3 zb ([]),oL 3 zb ([]),vB true])] ?_;refine qD ?_;refine sV oN [10,20] (List.length (List.map zc x.Kids)) (List.length x.Kids) (fun q=>[(73,vL zc x.Kids),(76,vi ((↑(q):Int))),(79,vi 0)]) ?_;refine bD (id:=1) ?_;obtain ⟨w,E,J,O⟩:=h;refine loE [] (u6 fun m g f l k u=>[(3,.agg [oL 25 ze m,oL 40 zg g]),(32,.agg [vL zb f,vL zb l,vB k]),(79,vi u)]) (u6 w) (u6 E) (b.sets,b.follow,([]),([]),true,0) [(32,0),(32,1)] J ?_;rintro ⟨m,g,f,l,k,u⟩ hi;have h:=O m g f l k u hi;refine sO oN [] [(82,vB (decide (u < (↑(List.length x.Kids):Int))))] ?_;refine qD ?_;refine cH 27 h (fun W h=>?_) (fun W h=>?_)
   ·refine kD ?_;show Sem _ _ _ _ _;refine wkD [82] ?_;refine qD ?_;refine bD (id:=2) ?_;obtain ⟨a8,h⟩:=h;obtain ⟨a9,h⟩:=h;refine sO (xo zc (zC _) a8 a9 oN) [] [(22,.ptr 44 0),(44,zu (gd x.Kids u))] ?_;obtain ⟨M,V,X,h⟩:=h;obtain ⟨p,A,a5,h⟩:=h;refine rO (ca X (ca a5 oN)) [22,44] [(3,zw A),(32,zH p)] ?_;show Sem _ _ _ _ _;refine rO oN [] [(79,vi (w64 (u+1)))] ?_;exact lD (A.sets,A.follow,p.first,p.last,p.null,(w64 (u+1))) [] h
   ·refine xD (i:=1) ?_;show Sem _ _ _ _ _;refine wkD [1,73,76,79,82] ?_;refine sO oN [16,32] [(26,.agg [vL zb f,vL zb l,vB k])] ?_;refine tD ?_;obtain ⟨Q,R⟩:=h;subst res fin;exact (endQ []).1
  ·refine sO oN [61] [(115,vB (x.Kind == 4))] ?_;refine cH 38 h (fun a2 h=>?_) (fun a2 h=>?_)
   ·refine sO oN [40,115] [(25,.ptr 50 0),(50,.agg [oL 3 zb ([]),oL 3 zb ([]),vB false])] ?_;refine qD ?_;refine sV oN [10,20] (List.length (List.map zc x.Kids)) (List.length x.Kids) (fun q=>[(124,vL zc x.Kids),(127,vi ((↑(q):Int))),(130,vi 0)]) ?_;refine bD (id:=3) ?_;obtain ⟨v,F,I,N⟩:=h;refine loE [] (u6 fun j d c e a t=>[(3,.agg [oL 25 ze j,oL 40 zg d]),(50,.agg [vL zb c,vL zb e,vB a]),(130,vi t)]) (u6 v) (u6 F) (b.sets,b.follow,([]),([]),false,0) [(50,0),(50,1)] I ?_;rintro ⟨j,d,c,e,a,t⟩ hi;have h:=N j d c e a t hi;refine sO oN [] [(133,vB (decide (t < (↑(List.length x.Kids):Int))))] ?_;refine qD ?_;refine cH 44 h (fun a0 h=>?_) (fun a0 h=>?_)
    ·refine kD ?_;show Sem _ _ _ _ _;refine wkD [133] ?_;refine qD ?_;refine bD (id:=4) ?_;obtain ⟨b2,h⟩:=h;obtain ⟨a6,h⟩:=h;refine sO (xo zc (zC _) b2 a6 oN) [] [(31,.ptr 62 0),(62,zu (gd x.Kids t))] ?_;obtain ⟨n,y,a3,h⟩:=h;refine sO (ca a3 oN) [31,62] [(3,zw y),(34,.ptr 68 0),(68,zH n)] ?_;obtain ⟨s,U,h⟩:=h;obtain ⟨r,S,h⟩:=h;refine rM [34,68] [(50,.agg [vL zb s,vL zb r,vB (a || n.null)])] ?_ (fun a4=>?_)
     ·show Sem _ _ _ _ _;refine rO oN [] [(130,vi (w64 (t+1)))] ?_;exact lD (y.sets,y.follow,s,r,(a || n.null),(w64 (t+1))) [] h
     ·rcases eft (a) with D | D
      ·refine rO (ca U (ca S (g1 D 223 oN))) [34,68] [(50,.agg [vL zb s,vL zb r,vB true])] ?_;exact kcast (by try rw [D];kernel_rfl) a4
      ·refine rO (ca U (ca S (g1 D 223 oN))) [34,68] [(50,.agg [vL zb s,vL zb r,vB n.null])] ?_;exact kcast (by try rw [D];kernel_rfl) a4
    ·refine xD (i:=3) ?_;show Sem _ _ _ _ _;refine wkD [1,124,127,130,133] ?_;refine sO oN [25,50] [(26,.agg [vL zb c,vL zb e,vB a])] ?_;refine tD ?_;obtain ⟨Q,R⟩:=h;subst res fin;exact (endQ []).1
   ·refine sO oN [40,115] [(208,vB (x.Kind == 5))] ?_;refine cH 69 h (fun Y h=>?_) (fun Y h=>?_)
    ·obtain ⟨B,H,a1,h⟩:=h;refine sO (ca a1 oN) [1,10,20,208] [(3,zw H),(26,zH B)] ?_;refine tD ?_;obtain ⟨Q,R⟩:=h;subst res fin;exact (endQ []).1
    ·refine kD ?_;show Sem _ _ _ _ _;refine wkD [1,10,20,208] ?_;refine sO oN [] [(26,.agg [oL 3 zb ([]),oL 3 zb ([]),vB true])] ?_;refine tD ?_;obtain ⟨Q,R⟩:=h;subst res fin;exact (endQ [(26,0),(26,1)]).1
theorem W_place_Of (x:zj) (res:zaN) (res_1:Int)
 (h:(∃ r0:Bool,zcF x r0∧(ck (!r0) (res=({ Sets:=[],First:=[],Last:=[],Follow:=[],Null:=false })∧res_1=1) (∃ a:zq,∃ o:zr,zak x ({ sets:=[],follow:=[] }) a o∧(res=({ Sets:=o.sets,First:=a.first,Last:=a.last,Follow:=o.follow,Null:=a.null })∧res_1=0))))):zew x res res_1:=by
 unfold zew;have kk:=cfOk [] 30;refine fD (x:=bodyOf Tryz.f102) kk Tryz.func102 ?_;refine wkS [1] [(1,zu x)] (by kernel_rfl) ?_;refine sO oN [1] [(4,.ptr 8 0),(7,.ptr 14 0),(8,zu x),(14,.agg [oL 25 ze ([]),oL 3 zb ([]),oL 3 zb ([]),oL 40 zg ([]),vB false])] ?_;refine qD ?_;obtain ⟨r0,f,h⟩:=h;refine sO (ca f oN) [] [(25,vB (!r0))] ?_;refine cH 8 h (fun d h=>?_) (fun d h=>?_)
 ·refine sO oN [4,8,25] [(10,vi 1),(14,.agg [oL 25 ze ([]),oL 3 zb ([]),oL 3 zb ([]),oL 40 zg ([]),vB false])] ?_;refine tD ?_;obtain ⟨b,e⟩:=h;subst res res_1;exact (endD [] (.tup [.agg [.f (FV.sl (List.take (List.length (List.map ze [])) (List.drop 0 (List.map ze [])))),.f (FV.sl (List.take (List.length (List.map zb [])) (List.drop 0 (List.map zb [])))),.f (FV.sl (List.take (List.length (List.map zb [])) (List.drop 0 (List.map zb [])))),.f (FV.sl (List.take (List.length (List.map zg [])) (List.drop 0 (List.map zg [])))),vB false],vi 1]) []).1
 ·refine kD ?_;show Sem _ _ _ _ _;refine wkD [25] ?_;refine sO oN [] [(13,.ptr 68 0),(68,.agg [oL 25 ze ([]),oL 40 zg ([])])] ?_;obtain ⟨a,o,c,h⟩:=h;refine sO (ca c oN) [4,8] [(16,.ptr 32 0),(32,zH a),(68,zw o)] ?_;refine sOE oN [13,16,32,68] [(10,vi 0),(14,.agg [.f (FV.sl (List.take (List.length (List.map ze o.sets)) (List.drop 0 (List.map ze o.sets)))),vL zb a.first,vL zb a.last,.f (FV.sl (List.take (List.length (List.map zg o.follow)) (List.drop 0 (List.map zg o.follow)))),vB a.null])] [(10,vi 0),(14,.agg [vL ze o.sets,vL zb a.first,vL zb a.last,vL zg o.follow,vB a.null])] ?_;refine tD ?_;obtain ⟨b,e⟩:=h;subst res res_1;exact (endQ []).1
theorem W_auto_moved (l:(List Int)) (c:Int) (res:(List Int))
 (h:(∃ (b:List Int→Int→Prop) (d:List Int→Int→Nat),b ([]) 0∧(∀ (a:List Int) (t9:Int),b a t9→(ck (decide (t9 < (↑(List.length l):Int))) ((0≤t9)∧t9 < ↑(List.length l)∧((List.length a+1) * 8≤2 ^ 47)∧(b (a++[w64 (gd l t9+c)]) (w64 (t9+1))∧d (a++[w64 (gd l t9+c)]) (w64 (t9+1)) < d a t9)) (res=a))))):zb2 l c res:=by
 unfold zb2;have kk:=cfOk [20] 21;refine fD (x:=bodyOf Tryz.f115) kk Tryz.func115 ?_;refine wkS [1,4] [(1,vL zb l),(4,vi c)] (by kernel_rfl) ?_;refine sO oN [] [(13,oL 3 zb ([]))] ?_;refine qD ?_;refine sV oN [1] (List.length (List.map zb l)) (List.length l) (fun q=>[(22,vL zb l),(25,vi ((↑(q):Int))),(28,vi 0)]) ?_;refine bD (id:=0) ?_;obtain ⟨b,d,e,f⟩:=h;refine loE [] (u2 fun a t9=>[(13,oL 3 zb a),(28,vi t9)]) (u2 b) (u2 d) (([]),0) [] e ?_;rintro ⟨a,t9⟩ hi;have h:=f a t9 hi;refine sO oN [] [(31,vB (decide (t9 < (↑(List.length l):Int))))] ?_;refine qD ?_;refine cH 10 h (fun k h=>?_) (fun k h=>?_)
 ·refine kD ?_;show Sem _ _ _ _ _;refine wkD [31] ?_;refine qD ?_;refine bD (id:=1) ?_;obtain ⟨h9,h⟩:=h;obtain ⟨j,h⟩:=h;refine sO (xo zb rfl h9 j oN) [] [(19,vi (gd l t9))] ?_;obtain ⟨g,h⟩:=h;refine rOE (apo zb a g oN) [19] [(13,.own 3 (List.map zb a++[FV.pv (Value.int IntKind.i64 (w64 (gd l t9+c)))]))] [(13,oL 3 zb (a++[w64 (gd l t9+c)]))] ?_;show Sem _ _ _ _ _;refine rO oN [] [(28,vi (w64 (t9+1)))] ?_;exact lD ((a++[w64 (gd l t9+c)]),(w64 (t9+1))) [] h
 ·refine xD (i:=0) ?_;show Sem _ _ _ _ _;refine wkD [4,22,25,28,31] ?_;refine sO oN [] [] ?_;refine tD ?_;subst h;exact (endQ []).1
theorem zfT (x:zj) (f:Int) (b:zX) (res:(List Int)) (n:(List Int)) (m:Bool) (fin:zX)
 (h:(∃ r0:zaN,∃ s:Int,zew x r0 s∧((List.length (zi.Sets b.Auto)+List.length r0.Sets) * 32≤2 ^ 47)∧(∃ (j:List Int→List (List Int)→List Bool→Int→Prop) (o:List Int→List (List Int)→List Bool→Int→Nat),j (zi.Owner b.Auto) (zi.Follow b.Auto) (zi.Ends b.Auto) 0∧(∀ (c:List Int) (a:List (List Int)) (d:List Bool) (e:Int),j c a d e→(ck (decide (e < (↑(List.length r0.Follow):Int))) ((0≤e)∧e < ↑(List.length r0.Follow)∧((List.length c+1) * 8≤2 ^ 47)∧((List.length d+1) * 1≤2 ^ 47)∧(∃ g:List Int,zb2 (gd r0.Follow e) ((↑(List.length (zi.Sets b.Auto)):Int)) g∧((List.length a+1) * 24≤2 ^ 47)∧(j (c++[f]) (a++[g]) (d++[false]) (w64 (e+1))∧o (c++[f]) (a++[g]) (d++[false]) (w64 (e+1)) < o c a d e))) (∃ l:List Int,zb2 r0.First ((↑(List.length (zi.Sets b.Auto)):Int)) l∧(∃ k:List Int,zb2 r0.Last ((↑(List.length (zi.Sets b.Auto)):Int)) k∧(res=l∧n=k∧m=r0.Null∧fin=({ Auto:={ Sets:=zi.Sets b.Auto++r0.Sets,Owner:=c,Follow:=a,Ends:=d,Starts:=zi.Starts b.Auto } }))))))))):zbc x f b res n m fin:=by
 unfold zbc;have kk:=cfOk [] 92;refine fD (x:=bodyOf Tryz.f81) kk Tryz.func81 ?_;refine wkS [1,3,4,7] [(1,.ptr 3 0),(3,zaq b),(4,zu x),(7,vi f)] (by kernel_rfl) ?_;refine sO oN [4] [(13,.ptr 26 0),(26,zu x)] ?_;obtain ⟨r0,s,A,h⟩:=h;refine sO (ca A oN) [13,26] [(28,.ptr 56 0),(56,zdI r0)] ?_;refine sV oN [] (List.length (List.map ze (zi.Sets b.Auto))) (List.length (zi.Sets b.Auto)) (fun q=>[(34,vi ((↑(q):Int)))]) ?_;obtain ⟨h1,h⟩:=h;refine sV (nd (show (0:Nat)=(0:Nat)∧List.length (List.map ze (zi.Sets b.Auto))=List.length (List.map ze (zi.Sets b.Auto)) from ⟨rfl,rfl⟩) (nd (show (List.length (List.map ze (zi.Sets b.Auto))+List.length (List.map ze r0.Sets)) * (32:Nat)≤(2:Nat) ^ (47:Nat) from by simpa only [nm] using h1) (nd (show List.all (List.map ze r0.Sets) (FV.fits (4:Nat))=true from by first | exact zgE _ | exact keysenc_arr4_uint64 _ | rfl | simp [isByteF,FV.fits,FV.size,FV.cells,FV.one,za8]) oN))) [] (show AV from .own 25 (List.map ze (zi.Sets b.Auto)++List.map ze r0.Sets)) (oL 25 ze (zi.Sets b.Auto++r0.Sets)) (fun q=>[(3,.agg [q,oL 3 zb (zi.Owner b.Auto),oL 40 zg (zi.Follow b.Auto),oL 4 zh (zi.Ends b.Auto),oL 40 zg (zi.Starts b.Auto)])]) ?_;refine qD ?_;refine sV oN [] (List.length (List.map zg r0.Follow)) (List.length r0.Follow) (fun q=>[(115,vL zg r0.Follow),(118,vi ((↑(q):Int))),(121,vi 0)]) ?_;refine bD (id:=0) ?_;obtain ⟨j,o,p,r⟩:=h;refine loE [] (u4 fun c a d e=>[(3,.agg [oL 25 ze (zi.Sets b.Auto++r0.Sets),oL 3 zb c,oL 40 zg a,oL 4 zh d,oL 40 zg (zi.Starts b.Auto)]),(121,vi e)]) (u4 j) (u4 o) ((zi.Owner b.Auto),(zi.Follow b.Auto),(zi.Ends b.Auto),0) [] p ?_;rintro ⟨c,a,d,e⟩ hi;have h:=r c a d e hi;refine sO oN [] [(124,vB (decide (e < (↑(List.length r0.Follow):Int))))] ?_;refine qD ?_;refine cH 41 h (fun w h=>?_) (fun w h=>?_)
 ·refine kD ?_;show Sem _ _ _ _ _;refine wkD [124] ?_;refine qD ?_;refine bD (id:=1) ?_;obtain ⟨E,h⟩:=h;obtain ⟨D,h⟩:=h;refine sO (xo zg rfl E D oN) [] [(40,vL zb (gd r0.Follow e))] ?_;obtain ⟨y,h⟩:=h;obtain ⟨B,h⟩:=h;obtain ⟨g,u,h⟩:=h;obtain ⟨F,h⟩:=h;refine rOE (apo zb c y (apo zh d B (ca u (apo zg a F oN)))) [40] [(3,.agg [oL 25 ze (zi.Sets b.Auto++r0.Sets),.own 3 (List.map zb c++[FV.pv (Value.int IntKind.i64 f)]),.own 40 (List.map zg a++[FV.sl (List.take (List.length (List.map zb g)) (List.drop 0 (List.map zb g)))]),.own 4 (List.map zh d++[FV.pv (Value.bool false)]),oL 40 zg (zi.Starts b.Auto)])] [(3,.agg [oL 25 ze (zi.Sets b.Auto++r0.Sets),oL 3 zb (c++[f]),oL 40 zg (a++[g]),oL 4 zh (d++[false]),oL 40 zg (zi.Starts b.Auto)])] ?_;show Sem _ _ _ _ _;refine rO oN [] [(121,vi (w64 (e+1)))] ?_;exact lD ((c++[f]),(a++[g]),(d++[false]),(w64 (e+1))) [] h
 ·refine xD (i:=0) ?_;show Sem _ _ _ _ _;refine wkD [1,7,115,118,121,124] ?_;obtain ⟨l,t,h⟩:=h;obtain ⟨k,v,h⟩:=h;refine sO (ca t (ca v oN)) [28,34,56] [(19,oL 3 zb l),(22,oL 3 zb k),(25,vB r0.Null)] ?_;refine tD ?_;obtain ⟨H,J,M,I⟩:=h;subst res n m fin;exact (endD [] (.tup [.f (FV.sl (List.take (List.length (List.map zb l)) (List.drop 0 (List.map zb l)))),.f (FV.sl (List.take (List.length (List.map zb k)) (List.drop 0 (List.map zb k)))),vB r0.Null]) [.agg [oL 25 ze (zi.Sets b.Auto++r0.Sets),oL 3 zb c,oL 40 zg a,oL 4 zh d,oL 40 zg (zi.Starts b.Auto)]]).1
theorem zfc (r0:zp) (i:Int) (b:zX) (res:(List Int)) (fin:zX)
 (h:(ck r0.Eof (res=([])∧fin=b) (∃ B:List Int,∃ j:List Int,∃ O:Bool,∃ o:zX,zbc r0.Rx i b B j O o∧(∃ H:List za→List Int→List (List Int)→List Bool→List (List Int)→List Int→Prop,(∀ (k:List za) (g:List Int) (e:List (List Int)) (l:List Bool) (f:List (List Int)) (m:List Int),H k g e l f m→(∃ (y:List Bool→Int→Prop) (E:List Bool→Int→Nat),y l 0∧(∀ (c:List Bool) (n:Int),y c n→(ck (decide (n < (↑(List.length m):Int))) ((0≤n)∧n < ↑(List.length m)∧(0≤gd m n)∧(Int.toNat (gd m n) < List.length c)∧gd m n < ↑(List.length c)∧(y (List.set c (Int.toNat (gd m n)) true) (w64 (n+1))∧E (List.set c (Int.toNat (gd m n)) true) (w64 (n+1)) < E c n)) (res=B∧fin=({ Auto:={ Sets:=k,Owner:=g,Follow:=e,Ends:=c,Starts:=f } }))))))∧(ck (zj.Kind r0.Trail != 0) (∃ A:List Int,∃ t:List Int,∃ w:Bool,∃ r:zX,zbc r0.Trail i o A t w r∧(∃ (v:List (List Int)→Int→Prop) (D:List (List Int)→Int→Nat),v (zi.Follow r.Auto) 0∧(∀ (a:List (List Int)) (d:Int),v a d→(ck (decide (d < (↑(List.length j):Int))) ((0≤d)∧d < ↑(List.length j)∧(0≤gd j d)∧(Int.toNat (gd j d) < List.length a)∧gd j d < ↑(List.length a)∧(∃ s:List Int,zY (gd a (gd j d)) A s∧(0≤gd j d)∧(Int.toNat (gd j d) < List.length a)∧gd j d < ↑(List.length a)∧(v (List.set a (Int.toNat (gd j d)) s) (w64 (d+1))∧D (List.set a (Int.toNat (gd j d)) s) (w64 (d+1)) < D a d))) (∃ J:List Int→Prop,(∀ (p:List Int),J p→H (zi.Sets r.Auto) (zi.Owner r.Auto) a (zi.Ends r.Auto) (zi.Starts r.Auto) p)∧(ck (w) (∃ u:List Int,zY j t u∧J u) (J t))))))) (H (zi.Sets o.Auto) (zi.Owner o.Auto) (zi.Follow o.Auto) (zi.Ends o.Auto) (zi.Starts o.Auto) j)))))):zbu r0 i b res fin:=by
 unfold zbu;have kk:=cfOk [84] 85;refine fD (x:=bodyOf Tryz.f42) kk Tryz.func42 ?_;refine wkS [1,3,4,7] [(1,.ptr 3 0),(3,zaq b),(4,zaj r0),(7,vi i)] (by kernel_rfl) ?_;refine sO oN [4] [(13,.ptr 26 0),(26,zaj r0)] ?_;refine qD ?_;refine sO oN [] [(55,vB r0.Eof)] ?_;refine cH 18 h (fun b3 h=>?_) (fun b3 h=>?_)
 ·refine sO oN [1,7,13,26,55] [(19,oL 3 zb ([]))] ?_;refine tD ?_;obtain ⟨a9,b6⟩:=h;subst res fin;exact (endQ [(19,0)]).1
 ·refine kD ?_;show Sem _ _ _ _ _;refine wkD [55] ?_;obtain ⟨B,j,O,o,a8,h⟩:=h;refine sO (ca a8 oN) [] [(3,zaq o),(22,vL zb B),(25,vL zb j)] ?_;obtain ⟨H,X,h⟩:=h;refine sjE (u6 H) [7,13,26] (u6 fun k g e l f m=>[(3,.agg [oL 25 ze k,oL 3 zb g,oL 40 zg e,oL 4 zh l,oL 40 zg f]),(25,vL zb m)]) ?_ ?_
  ·rintro ⟨k,g,e,l,f,m⟩ hj;have h:=X k g e l f m hj;refine qD ?_;refine sV oN [25] (List.length (List.map zb m)) (List.length m) (fun q=>[(211,vL zb m),(214,vi ((↑(q):Int))),(217,vi 0)]) ?_;refine bD (id:=2) ?_;obtain ⟨y,E,F,N⟩:=h;refine loE [] (u2 fun c n=>[(3,.agg [oL 25 ze k,oL 3 zb g,oL 40 zg e,oL 4 zh c,oL 40 zg f]),(217,vi n)]) (u2 y) (u2 E) (l,0) [] F ?_;rintro ⟨c,n⟩ hi;have h:=N c n hi;refine sO oN [] [(220,vB (decide (n < (↑(List.length m):Int))))] ?_;refine qD ?_;refine cH 73 h (fun S h=>?_) (fun S h=>?_)
   ·refine kD ?_;show Sem _ _ _ _ _;refine wkD [220] ?_;refine qD ?_;refine bD (id:=3) ?_;obtain ⟨b2,h⟩:=h;obtain ⟨b1,h⟩:=h;refine sO (xo zb rfl b2 b1 oN) [] [(49,vi (gd m n))] ?_;obtain ⟨Q,h⟩:=h;obtain ⟨b5,h⟩:=h;obtain ⟨a7,h⟩:=h;refine rV (nd Q (nd (show Int.toNat (gd m n) < List.length (List.map zh c) from by simpa only [nm] using b5) (el (show (List.map zh c)[((0:Nat)+Int.toNat (gd m n):Nat)]?=some (fB (gd c (gd m n))) from by have:=zcV zh c (gd m n) _ rfl Q a7;simpa only [nm,enq,zh] using this) oN))) [49] (show AV from .own 4 (List.set (List.map zh c) ((0:Nat)+Int.toNat (gd m n)) (FV.pv (Value.bool true)))) (oL 4 zh (List.set c (Int.toNat (gd m n)) true)) (fun q=>[(3,.agg [oL 25 ze k,oL 3 zb g,oL 40 zg e,q,oL 40 zg f])]) ?_;show Sem _ _ _ _ _;refine rO oN [] [(217,vi (w64 (n+1)))] ?_;exact lD ((List.set c (Int.toNat (gd m n)) true),(w64 (n+1))) [] h
   ·refine xD (i:=2) ?_;show Sem _ _ _ _ _;refine wkD [1,211,214,217,220] ?_;refine sO oN [22] [(19,vL zb B)] ?_;refine tD ?_;obtain ⟨a9,b6⟩:=h;subst res fin;exact (endQ []).1
  ·refine sO oN [] [(94,vB (zj.Kind r0.Trail != 0))] ?_;refine cH 31 h (fun a1 h=>?_) (fun a1 h=>?_)
   ·obtain ⟨A,t,w,r,R,h⟩:=h;refine sO (ca R oN) [7,13,26,94] [(3,zaq r),(31,vL zb A),(34,vL zb t),(37,vB w)] ?_;refine qD ?_;refine sV oN [] (List.length (List.map zb j)) (List.length j) (fun q=>[(124,vL zb j),(127,vi ((↑(q):Int))),(130,vi 0)]) ?_;refine bD (id:=0) ?_;obtain ⟨v,D,I,M⟩:=h;refine loE [] (u2 fun a d=>[(3,.agg [oL 25 ze (zi.Sets r.Auto),oL 3 zb (zi.Owner r.Auto),oL 40 zg a,oL 4 zh (zi.Ends r.Auto),oL 40 zg (zi.Starts r.Auto)]),(130,vi d)]) (u2 v) (u2 D) ((zi.Follow r.Auto),0) [] I ?_;rintro ⟨a,d⟩ hi;have h:=M a d hi;refine sO oN [] [(133,vB (decide (d < (↑(List.length j):Int))))] ?_;refine qD ?_;refine cH 44 h (fun a3 h=>?_) (fun a3 h=>?_)
    ·refine kD ?_;show Sem _ _ _ _ _;refine wkD [133] ?_;refine qD ?_;refine bD (id:=1) ?_;obtain ⟨a6,h⟩:=h;obtain ⟨b4,h⟩:=h;refine sO (xo zb rfl a6 b4 oN) [] [(43,vi (gd j d))] ?_;obtain ⟨W,h⟩:=h;obtain ⟨b0,h⟩:=h;obtain ⟨a4,h⟩:=h;obtain ⟨s,Y,h⟩:=h;obtain ⟨a0,h⟩:=h;obtain ⟨b7,h⟩:=h;obtain ⟨a5,h⟩:=h;refine rV (nd W (nd (show Int.toNat (gd j d) < List.length (List.map zg a) from by simpa only [nm] using b0) (el (show (List.map zg a)[((0:Nat)+Int.toNat (gd j d):Nat)]?=some (fL zb (gd a (gd j d))) from by have:=zcV zg a (gd j d) _ rfl W a4;simpa only [nm,enq,zg] using this) (ca Y (nd a0 (nd (show Int.toNat (gd j d) < List.length (List.map zg a) from by simpa only [nm] using b7) (el (show (List.map zg a)[((0:Nat)+Int.toNat (gd j d):Nat)]?=some (fL zb (gd a (gd j d))) from by have:=zcV zg a (gd j d) _ rfl a0 a5;simpa only [nm,enq,zg] using this) oN))))))) [43] (show AV from .own 40 (List.set (List.map zg a) ((0:Nat)+Int.toNat (gd j d)) (FV.sl (List.map zb s)))) (oL 40 zg (List.set a (Int.toNat (gd j d)) s)) (fun q=>[(3,.agg [oL 25 ze (zi.Sets r.Auto),oL 3 zb (zi.Owner r.Auto),q,oL 4 zh (zi.Ends r.Auto),oL 40 zg (zi.Starts r.Auto)])]) ?_;show Sem _ _ _ _ _;refine rO oN [] [(130,vi (w64 (d+1)))] ?_;exact lD ((List.set a (Int.toNat (gd j d)) s),(w64 (d+1))) [] h
    ·refine xD (i:=0) ?_;show Sem _ _ _ _ _;refine wkD [31,124,127,130,133] ?_;obtain ⟨J,V,h⟩:=h;refine sjE J [25,37] (fun p=>[(34,vL zb p)]) ?_ ?_
     ·rintro p hj;have h:=V p hj;refine rO oN [34] [(25,vL zb p)] ?_;exact jD ((zi.Sets r.Auto),(zi.Owner r.Auto),a,(zi.Ends r.Auto),(zi.Starts r.Auto),p) [] h
     ·refine sO oN [37] [(196,vB w)] ?_;refine cH 65 h (fun a2 h=>?_) (fun a2 h=>?_)
      ·obtain ⟨u,U,h⟩:=h;refine rO (ca U oN) [25,196] [(34,vL zb u)] ?_;exact jD u [] h
      ·refine kD ?_;exact jD t [] h
   ·refine kD ?_;exact jD ((zi.Sets o.Auto),(zi.Owner o.Auto),(zi.Follow o.Auto),(zi.Ends o.Auto),(zi.Starts o.Auto),j) [] h
theorem zcc (s0:(List Int)) (v:Int) (res:Int)
 (h:(∃ (a:Int→Prop) (c:Int→Nat),a 0∧(∀ (t8:Int),a t8→(ck (decide (t8 < (↑(List.length s0):Int))) ((0≤t8)∧t8 < ↑(List.length s0)∧(ck (v == gd s0 t8) (res=t8) (a (w64 (t8+1))∧c (w64 (t8+1)) < c t8))) (res=(-1)))))):zaX s0 v res:=by
 unfold zaX;have kk:=cfOk [17] 19;refine fD (x:=bodyOf Tryz.f127) kk Tryz.func127 ?_;refine wkS [1,4] [(1,vL zb s0),(4,vi v)] (by kernel_rfl) ?_;refine sO oN [] [] ?_;refine qD ?_;refine sV oN [] (List.length (List.map zb s0)) (List.length s0) (fun q=>[(22,vi ((↑(q):Int))),(25,vi 0)]) ?_;refine bD (id:=0) ?_;obtain ⟨a,c,b,d⟩:=h;refine loE [] (fun t8=>[(25,vi t8)]) a c 0 [] b ?_;rintro t8 hi;have h:=d t8 hi;refine sO oN [] [(28,vB (decide (t8 < (↑(List.length s0):Int))))] ?_;refine qD ?_;refine cH 9 h (fun j h=>?_) (fun j h=>?_)
 ·refine kD ?_;show Sem _ _ _ _ _;refine wkD [28] ?_;refine qD ?_;refine bD (id:=1) ?_;refine sO oN [] [(16,vi t8)] ?_;obtain ⟨g,h⟩:=h;obtain ⟨f,h⟩:=h;refine sO (xo zb rfl g f oN) [] [(49,vB (v == gd s0 t8))] ?_;refine cH 16 h (fun e h=>?_) (fun e h=>?_)
  ·refine sO oN [1,4,16,22,25,49] [(13,vi t8)] ?_;refine tD ?_;subst h;exact (endQ []).1
  ·refine kD ?_;show Sem _ _ _ _ _;refine wkD [16,49] ?_;refine rO oN [] [(25,vi (w64 (t8+1)))] ?_;exact lD (w64 (t8+1)) [] h
 ·refine xD (i:=0) ?_;show Sem _ _ _ _ _;refine wkD [1,4,22,25,28] ?_;refine sO oN [] [(13,vi (-1))] ?_;refine tD ?_;subst h;exact (endQ []).1
theorem zcT (s0:(List Int)) (v:Int) (res:Bool)
 (h:(∃ r0:Int,zaX s0 v r0∧(res=(decide (r0≥0))))):zay s0 v res:=by
 unfold zay;have kk:=cfOk [] 9;refine fD (x:=bodyOf Tryz.f104) kk Tryz.func104 ?_;refine wkS [1,4] [(1,vL zb s0),(4,vi v)] (by kernel_rfl) ?_;refine sO oN [] [] ?_;obtain ⟨r0,a,h⟩:=h;refine sO (ca a oN) [1,4] [(13,vB (decide (r0≥0)))] ?_;refine tD ?_;subst h;exact (endQ []).1
end Go.Ev
namespace Go.Ev
open Go Go.Proofs
set_option maxRecDepth 8000
set_option maxHeartbeats 1000000
theorem W_spec_Active (s0:zx) (a:Int) (cond:Int) (res:Bool)
 (h:(ck (decide (a < 0) || (decide (a≥(↑(List.length (List.map zt s0.Rules)):Int)) || (decide (cond < 0) || decide (cond≥(↑(List.length s0.Conds):Int))))) (res=false) ((0≤a)∧a < ↑(List.length s0.Rules)∧(ck (gd s0.Rules a).All (res=true) (∃ r0:Bool,zay (gd s0.Rules a).Conds cond r0∧(ck (r0) (res=true) (ck ((↑(List.length (List.map zb (gd s0.Rules a).Conds)):Int) == 0) (((gd s0.Rules a).All=false→((r0)=false→(((↑(List.length (List.map zb (gd s0.Rules a).Conds)):Int) == 0)=true→(0≤cond))))∧((gd s0.Rules a).All=false→((r0)=false→(((↑(List.length (List.map zb (gd s0.Rules a).Conds)):Int) == 0)=true→cond < ↑(List.length s0.Conds))))∧(res=(!(gd s0.Conds cond).Exclusive))) (res=false)))))))):zcA s0 a cond res:=by
 unfold zcA;have kk:=cfOk [] 56;refine fD (x:=bodyOf Tryz.f83) kk Tryz.func83 ?_;refine wkS [1,4,7] [(1,zQ s0),(4,vi a),(7,vi cond)] (by kernel_rfl) ?_;refine sO oN [1] [(10,.ptr 20 0),(20,zQ s0)] ?_;refine qD ?_;refine sM [] [(82,vB (decide (a < 0) || (decide (a≥(↑(List.length (List.map zt s0.Rules)):Int)) || (decide (cond < 0) || decide (cond≥(↑(List.length s0.Conds):Int))))))] ?_ (fun i=>?_)
 ·refine cH 27 h (fun l h=>?_) (fun l h=>?_)
  ·refine sO oN [4,7,10,20,82] [(19,vB false)] ?_;refine tD ?_;subst h;exact (endQ []).1
  ·refine kD ?_;show Sem _ _ _ _ _;refine wkD [82] ?_;obtain ⟨h4,h⟩:=h;obtain ⟨h5,h⟩:=h;refine sO (xo zt (zaL _) h4 h5 oN) [4] [(22,.ptr 44 0),(44,zaj (gd s0.Rules a))] ?_;rcases eft (gd s0.Rules a).All with d | d
   ·have h:=h.1 d;refine sO (g1 d 222238888887 oN) [7,10,20,22,44] [(19,vB true)] ?_;refine tD ?_;subst h;exact (endQ []).1
   ·have h:=h.2 d;obtain ⟨r0,j,h⟩:=h;rcases eft (r0) with b | b
    ·have h:=h.1 b;refine sO (g1 d 2222 (ca j (g2 b d 62222223 oN))) [7,10,20,22,44] [(19,vB true)] ?_;refine tD ?_;subst h;exact (endQ []).1
    ·have h:=h.2 b;rcases eft ((↑(List.length (List.map zb (gd s0.Rules a).Conds)):Int) == 0) with c | c
     ·have h:=h.1 c;obtain ⟨m,h⟩:=h;obtain ⟨k,h⟩:=h;refine sO (g1 d 2222 (ca j (g1 d 3 (g2 c b 555551111 (xo zm (z7 _) (((m d) b) c) (((k d) b) c) (g2 b c 444263 oN)))))) [7,10,20,22,44] [(19,vB (!(gd s0.Conds cond).Exclusive))] ?_;refine tD ?_;subst h;exact (endQ []).1
     ·have h:=h.2 c;refine sO (g1 d 2222 (ca j (g1 d 3 (g2 b c 222224444444263 oN)))) [7,10,20,22,44] [(19,vB false)] ?_;refine tD ?_;subst h;exact (endQ []).1
 ·rcases eft (decide (a < 0)) with e | e
  ·refine sO (g1 e 222223887888887 oN) [] [(82,vB true)] ?_;exact Sem.cast (by try rw [e];kernel_rfl) i
  ·rcases eft (decide (a≥(↑(List.length (List.map zt s0.Rules)):Int))) with f | f
   ·refine sO (g2 f e 555556223888887 oN) [] [(82,vB true)] ?_;exact Sem.cast (by try rw [e];try rw [f];kernel_rfl) i
   ·rcases eft (decide (cond < 0)) with g | g
    ·refine sO (g1 e 222223 (g2 g f 556222223 oN)) [] [(82,vB true)] ?_;exact Sem.cast (by try rw [e];try rw [f];try rw [g];kernel_rfl) i
    ·refine sV (g1 e 222223 (g2 g f 556222223 oN)) [] (List.length (List.map zm s0.Conds)) (List.length s0.Conds) (fun q=>[(82,vB (decide (cond≥(↑(q):Int))))]) ?_;exact Sem.cast (by try rw [e];try rw [f];try rw [g];kernel_rfl) i
theorem W_auto_start (s0:zx) (a:(List (List Int))) (cond:Int) (l:Bool) (res:(List Int))
 (h:(∃ (k:List Int→Int→Prop) (m:List Int→Int→Nat),k ([]) 0∧(∀ (c:List Int) (b:Int),k c b→(ck (decide (b < (↑(List.length a):Int))) (∃ n:List Int→Prop,(∀ (d:List Int),n d→(k d (w64 (b+1))∧m d (w64 (b+1)) < m c b))∧(0≤b)∧b < ↑(List.length a)∧(∃ f:Bool,zcA s0 b cond f∧((f)=true→((l)=false→(0≤b)))∧((f)=true→((l)=false→b < ↑(List.length s0.Rules)))∧(ck (f && (l || !(gd s0.Rules b).Bol)) (∃ j:List Int,zY c (gd a b) j∧n j) (n c)))) (res=c))))):zc4 s0 a cond l res:=by
 unfold zc4;have kk:=cfOk [38] 39;refine fD (x:=bodyOf Tryz.f43) kk Tryz.func43 ?_;refine wkS [1,4,7,10] [(1,zQ s0),(4,vL zg a),(7,vi cond),(10,vB l)] (by kernel_rfl) ?_;refine sO oN [1] [(13,.ptr 26 0),(25,oL 3 zb ([])),(26,zQ s0)] ?_;refine qD ?_;refine sV oN [4] (List.length (List.map zg a)) (List.length a) (fun q=>[(34,vL zg a),(37,vi ((↑(q):Int))),(40,vi 0)]) ?_;refine bD (id:=0) ?_;obtain ⟨k,m,p,r⟩:=h;refine loE [] (u2 fun c b=>[(25,vL zb c),(40,vi b)]) (u2 k) (u2 m) (([]),0) [(25,0)] p ?_;rintro ⟨c,b⟩ hi;have h:=r c b hi;refine sO oN [] [(43,vB (decide (b < (↑(List.length a):Int))))] ?_;refine qD ?_;refine cH 14 h (fun u h=>?_) (fun u h=>?_)
 ·refine kD ?_;show Sem _ _ _ _ _;refine wkD [43] ?_;obtain ⟨n,t,h⟩:=h;refine sjE n [] (fun d=>[(25,vL zb d)]) ?_ ?_
  ·rintro d hj;have h:=t d hj;refine rO oN [] [(40,vi (w64 (b+1)))] ?_;exact lD (d,(w64 (b+1))) [] h
  ·refine bD (id:=1) ?_;obtain ⟨A,h⟩:=h;obtain ⟨y,h⟩:=h;refine sO (xo zg rfl A y oN) [] [(28,vi b),(31,vL zb (gd a b))] ?_;obtain ⟨f,o,h⟩:=h;obtain ⟨D,B,h⟩:=h;refine sM [28] [(100,vB (f && (l || !(gd s0.Rules b).Bol)))] ?_ (fun s=>?_)
   ·refine cH 33 h (fun w h=>?_) (fun w h=>?_)
    ·obtain ⟨j,v,h⟩:=h;refine rO (ca v oN) [31,100] [(25,vL zb j)] ?_;exact jD j [] h
    ·refine kD ?_;exact jD c [] h
   ·rcases eft (f) with e | e
    ·rcases eft (l) with g | g
     ·refine sO (ca o (g2 e g 115555555163 oN)) [28] [(100,vB true)] ?_;exact Sem.cast (by try rw [e];try rw [g];kernel_rfl) s
     ·refine sO (ca o (g2 g e 442222 (xo zt (zaL _) ((D e) g) ((B e) g) (g2 e g 555163 oN)))) [28] [(100,vB (!(gd s0.Rules b).Bol))] ?_;exact Sem.cast (by try rw [e];try rw [g];kernel_rfl) s
    ·refine sO (ca o (g1 e 1113 oN)) [28] [(100,vB false)] ?_;exact Sem.cast (by try rw [e];kernel_rfl) s
 ·refine xD (i:=0) ?_;show Sem _ _ _ _ _;refine wkD [7,10,13,26,34,37,40,43] ?_;refine sO oN [] [] ?_;refine tD ?_;subst h;exact (endQ []).1
theorem W_auto_Build (s0:zx) (res:zi) (res_1:Int)
 (h:(∃ r0:Bool,zcr s0 r0∧(ck (!r0) (res=({ Sets:=[],Owner:=[],Follow:=[],Ends:=[],Starts:=[] })∧res_1=1) (∃ (o:List (List Int)→List za→List Int→List (List Int)→List Bool→List (List Int)→Int→Prop) (r:List (List Int)→List za→List Int→List (List Int)→List Bool→List (List Int)→Int→Nat),o ([]) ([]) ([]) ([]) ([]) ([]) 0∧(∀ (g:List (List Int)) (b:List za) (d:List Int) (c:List (List Int)) (e:List Bool) (f:List (List Int)) (k:Int),o g b d c e f k→(ck (decide (k < (↑(List.length s0.Rules):Int))) ((0≤k)∧k < ↑(List.length s0.Rules)∧(∃ p:List Int,∃ j:zX,zbu (gd s0.Rules k) k ({ Auto:={ Sets:=b,Owner:=d,Follow:=c,Ends:=e,Starts:=f } }) p j∧((List.length g+1) * 24≤2 ^ 47)∧(o (g++[p]) (zi.Sets j.Auto) (zi.Owner j.Auto) (zi.Follow j.Auto) (zi.Ends j.Auto) (zi.Starts j.Auto) (w64 (k+1))∧r (g++[p]) (zi.Sets j.Auto) (zi.Owner j.Auto) (zi.Follow j.Auto) (zi.Ends j.Auto) (zi.Starts j.Auto) (w64 (k+1)) < r g b d c e f k))) (ck (decide ((↑(List.length b):Int) > 600)) (res=({ Sets:=[],Owner:=[],Follow:=[],Ends:=[],Starts:=[] })∧res_1=2) (∃ (n:List (List Int)→Int→Prop) (s:List (List Int)→Int→Nat),n f 0∧(∀ (a:List (List Int)) (l:Int),n a l→(ck (decide (l < w64 (2 * (↑(List.length s0.Conds):Int)))) (∃ m:List Int,zc4 s0 g (w64 (Int.tdiv l 2)) (Int.tmod l 2 == 1) m∧((List.length a+1) * 24≤2 ^ 47)∧(n (a++[m]) (w64 (l+1))∧s (a++[m]) (w64 (l+1)) < s a l)) (res=({ Sets:=b,Owner:=d,Follow:=c,Ends:=e,Starts:=a })∧res_1=0))))))))))):zbL s0 res res_1:=by
 unfold zbL;have kk:=cfOk [] 70;refine fD (x:=bodyOf Tryz.f15) kk Tryz.func15 ?_;refine wkS [1] [(1,zQ s0)] (by kernel_rfl) ?_;refine sO oN [1] [(4,.ptr 8 0),(7,.ptr 14 0),(8,zQ s0),(14,.agg [oL 25 ze ([]),oL 3 zb ([]),oL 40 zg ([]),oL 4 zh ([]),oL 40 zg ([])])] ?_;refine qD ?_;obtain ⟨r0,Q,h⟩:=h;refine sO (ca Q oN) [] [(34,vB (!r0))] ?_;refine cH 11 h (fun O h=>?_) (fun O h=>?_)
 ·refine sO oN [4,8,34] [(10,vi 1),(14,.agg [oL 25 ze ([]),oL 3 zb ([]),oL 40 zg ([]),oL 4 zh ([]),oL 40 zg ([])])] ?_;refine tD ?_;obtain ⟨y,A⟩:=h;subst res res_1;exact (endD [] (.tup [.agg [.f (FV.sl (List.take (List.length (List.map ze [])) (List.drop 0 (List.map ze [])))),.f (FV.sl (List.take (List.length (List.map zb [])) (List.drop 0 (List.map zb [])))),.f (FV.sl (List.take (List.length (List.map zg [])) (List.drop 0 (List.map zg [])))),.f (FV.sl (List.take (List.length (List.map zh [])) (List.drop 0 (List.map zh [])))),.f (FV.sl (List.take (List.length (List.map zg [])) (List.drop 0 (List.map zg []))))],vi 1]) []).1
 ·refine kD ?_;show Sem _ _ _ _ _;refine wkD [34] ?_;refine sO oN [] [(13,.ptr 86 0),(86,.agg [oL 25 ze ([]),oL 3 zb ([]),oL 40 zg ([]),oL 4 zh ([]),oL 40 zg ([])])] ?_;refine sO oN [] [(16,oL 40 zg ([]))] ?_;refine qD ?_;refine sV oN [] (List.length (List.map zt s0.Rules)) (List.length s0.Rules) (fun q=>[(49,vL zt s0.Rules),(52,vi ((↑(q):Int))),(55,vi 0)]) ?_;refine bD (id:=0) ?_;obtain ⟨o,r,t,w⟩:=h;refine loE [] (u7 fun g b d c e f k=>[(16,oL 40 zg g),(55,vi k),(86,.agg [oL 25 ze b,oL 3 zb d,oL 40 zg c,oL 4 zh e,oL 40 zg f])]) (u7 o) (u7 r) (([]),([]),([]),([]),([]),([]),0) [] t ?_;rintro ⟨g,b,d,c,e,f,k⟩ hi;have h:=w g b d c e f k hi;refine sO oN [] [(58,vB (decide (k < (↑(List.length s0.Rules):Int))))] ?_;refine qD ?_;refine cH 19 h (fun E h=>?_) (fun E h=>?_)
  ·refine kD ?_;show Sem _ _ _ _ _;refine wkD [58] ?_;refine qD ?_;refine bD (id:=1) ?_;obtain ⟨N,h⟩:=h;obtain ⟨J,h⟩:=h;refine sO (xo zt (zaL _) N J oN) [] [(19,vi k),(22,.ptr 44 0),(44,zaj (gd s0.Rules k))] ?_;obtain ⟨p,j,B,h⟩:=h;obtain ⟨M,h⟩:=h;refine rV (ca B (apo zg g M oN)) [19,22,44] (show AV from .own 40 (List.map zg g++[FV.sl (List.map zb p)])) (oL 40 zg (g++[p])) (fun q=>[(16,q),(86,zaq j)]) ?_;show Sem _ _ _ _ _;refine rO oN [] [(55,vi (w64 (k+1)))] ?_;exact lD ((g++[p]),(zi.Sets j.Auto),(zi.Owner j.Auto),(zi.Follow j.Auto),(zi.Ends j.Auto),(zi.Starts j.Auto),(w64 (k+1))) [] h
  ·refine xD (i:=0) ?_;show Sem _ _ _ _ _;refine wkD [49,52,55,58] ?_;refine qD ?_;refine sV oN [] (List.length (List.map ze b)) (List.length b) (fun q=>[(112,vB (decide ((↑(q):Int) > 600)))]) ?_;refine cH 37 h (fun F h=>?_) (fun F h=>?_)
   ·refine sO oN [4,8,13,16,86,112] [(10,vi 2),(14,.agg [oL 25 ze ([]),oL 3 zb ([]),oL 40 zg ([]),oL 4 zh ([]),oL 40 zg ([])])] ?_;refine tD ?_;obtain ⟨y,A⟩:=h;subst res res_1;exact (endD [] (.tup [.agg [.f (FV.sl (List.take (List.length (List.map ze [])) (List.drop 0 (List.map ze [])))),.f (FV.sl (List.take (List.length (List.map zb [])) (List.drop 0 (List.map zb [])))),.f (FV.sl (List.take (List.length (List.map zg [])) (List.drop 0 (List.map zg [])))),.f (FV.sl (List.take (List.length (List.map zh [])) (List.drop 0 (List.map zh [])))),.f (FV.sl (List.take (List.length (List.map zg [])) (List.drop 0 (List.map zg []))))],vi 2]) []).1
   ·refine kD ?_;show Sem _ _ _ _ _;refine wkD [112] ?_;refine qD ?_;refine sV oN [] (List.length (List.map zm s0.Conds)) (List.length s0.Conds) (fun q=>[(127,vi (w64 (2 * (↑(q):Int)))),(130,vi 0)]) ?_;refine bD (id:=2) ?_;obtain ⟨n,s,u,v⟩:=h;refine loE [] (u2 fun a l=>[(16,vL zg g),(86,.agg [oL 25 ze b,oL 3 zb d,oL 40 zg c,oL 4 zh e,oL 40 zg a]),(130,vi l)]) (u2 n) (u2 s) (f,0) [(16,0)] u ?_;rintro ⟨a,l⟩ hi;have h:=v a l hi;refine sO oN [] [(133,vB (decide (l < w64 (2 * (↑(List.length s0.Conds):Int)))))] ?_;refine qD ?_;refine cH 44 h (fun D h=>?_) (fun D h=>?_)
    ·refine kD ?_;show Sem _ _ _ _ _;refine wkD [133] ?_;refine qD ?_;refine bD (id:=3) ?_;refine sO oN [] [(25,vi l)] ?_;obtain ⟨m,H,h⟩:=h;obtain ⟨I,h⟩:=h;refine rV (nd (show (2:Int)≠(0:Int) from by first | decide | rfl | trivial) (nd (show (2:Int)≠(0:Int) from by first | decide | rfl | trivial) (ca H (apo zg a I oN)))) [25] (show AV from .own 40 (List.map zg a++[FV.sl (List.map zb m)])) (oL 40 zg (a++[m])) (fun q=>[(86,.agg [oL 25 ze b,oL 3 zb d,oL 40 zg c,oL 4 zh e,q])]) ?_;show Sem _ _ _ _ _;refine rO oN [] [(130,vi (w64 (l+1)))] ?_;exact lD ((a++[m]),(w64 (l+1))) [] h
    ·refine xD (i:=2) ?_;show Sem _ _ _ _ _;refine wkD [4,8,16,127,130,133] ?_;refine sOE oN [13,86] [(10,vi 0),(14,.agg [.f (FV.sl (List.take (List.length (List.map ze b)) (List.drop 0 (List.map ze b)))),.f (FV.sl (List.take (List.length (List.map zb d)) (List.drop 0 (List.map zb d)))),.f (FV.sl (List.take (List.length (List.map zg c)) (List.drop 0 (List.map zg c)))),.f (FV.sl (List.take (List.length (List.map zh e)) (List.drop 0 (List.map zh e)))),.f (FV.sl (List.take (List.length (List.map zg a)) (List.drop 0 (List.map zg a))))])] [(10,vi 0),(14,.agg [vL ze b,vL zb d,vL zg c,vL zh e,vL zg a])] ?_;refine tD ?_;obtain ⟨y,A⟩:=h;subst res res_1;exact (endQ []).1
end Go.Ev
namespace Go.Ev
open Go Go.Proofs
set_option maxRecDepth 8000
end Go.Ev
namespace Go.Ev
open Go Go.Proofs
set_option maxRecDepth 8000
end Go.Ev
