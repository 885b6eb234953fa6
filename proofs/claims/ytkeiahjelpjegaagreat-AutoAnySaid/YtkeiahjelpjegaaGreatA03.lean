import Derived.Test.YtkeiahjelpjegaaGreatA02
set_option linter.unusedVariables false
set_option linter.unusedSimpArgs false
namespace Go.Ev
open Go Go.Proofs
set_option maxRecDepth 8000
noncomputable def cfr (mv:List Nat) (nt:Nat):Cfg:={ cf mv nt with rnd:=true }
theorem cfrOk (mv:List Nat) (nt:Nat):COk Tryz.prog (cfr mv nt):=⟨(cfOk mv nt).cfg,zfA (cfOk mv nt).ip rfl rfl rfl,(cfOk mv nt).ro⟩
theorem back_ok_169:BackOk Tryz.prog 169 zx:=
 back_of (c:=cf [] 19) (cfOk [] 19) Tryz.func169 (by rfl) (by rfl) (by rfl) (by rfl) (agg:=true) (sz:=3) (fun x=>by simp [FV.fits,FV.size,FV.cells,FV.one,zaa]) (fun x=>rfl) (fun h=>by cases h) (by rfl)
  (by rfl) (by rfl) (by rfl) (by rfl) (pre:=(opsOf (sq1 (sq1 (sq1 (sq2 (sq1 (sq1 (sq2 (bodyOf Tryz.f169))))))))).take 6) (by rfl) (by rfl) (by rfl) (by rfl)
  (fun yv xs=>⟨[],[(1,.f (.pv yv)),(4,.fp (.sl (xs.map (encX true 3))) 0),(10,vi (w64 (((xs.map (encX true 3)).length:Int) - 1))),(13,.f (.sl (xs.map (encX true 3)))),(16,vi (((xs.map (encX true 3)).length:Int))),(19,vi (w64 (((xs.map (encX true 3)).length:Int) - 1)))],by kernel_rfl,by rfl⟩)
  (fun yv xs i=>⟨[],[(1,.f (.pv yv)),(4,.fp (.sl (xs.map (encX true 3))) 0),(10,vi i),(22,vi i),(25,vB (decide (i≥0)))],by kernel_rfl,by rfl,by rfl⟩)
  (fun yv xs i=>⟨[],[(1,.f (.pv yv)),(4,.fp (.sl (xs.map (encX true 3))) 0),(10,vi (w64 (i - 1))),(28,vi i),(31,vi (w64 (i - 1)))],by kernel_rfl,by rfl⟩)
  (fun yv xs i x=>⟨[],[(1,.f (.pv yv)),(4,.fp (.sl (xs.map (encX true 3))) 0),(10,vi i),(34,.f (.pv yv)),(37,vi i),(40,.f (.sl (xs.map (encX true 3)))),(43,vi i),(46,.fp (encX true 3 x) 0),(49,asAV (encX true 3 x))],by kernel_rfl,by rfl,by rfl,by rfl,by rfl⟩) (fun b=>⟨[],[(52,vB b),(55,vB (!b))],by kernel_rfl,by rfl⟩) (by simp)
theorem zel (l:List zi):CallE Tryz.prog 161 [vL zx l] [] (.clo 169 [.fp (.sl (List.map zx l)) 0]) []:=by
 refine zd2 (x:=bodyOf Tryz.f161) (cfOk [] 4) Tryz.func161 (by rfl) (by rfl) (by rfl) (Nat.le_of_ble_eq_true rfl) (by rfl) (by rfl) (Nat.le_of_ble_eq_true rfl) ?_
 refine wkS [1] [(1,vL zx l)] (by kernel_rfl) ?_
 refine sR (cfOk [] 4) [] [4,8] [(4,.ptr 8 0),(8,vL zx l)] (obs:=[]) (by kernel_rfl) (by kernel_rfl) obN ?_
 refine sR (cfOk [] 4) [] [7,8] [(7,.clo 169 [.ptr 8 0]),(8,vL zx l)] (obs:=[]) (by kernel_rfl) (by kernel_rfl) obN ?_
 refine Sem.ret' (by kernel_rfl) Wk.refl ?_
 refine ⟨_,Wk.fpz (b:=8) (x:=.sl (List.map zx l)) (by rfl) (by rfl) (by rfl),?_⟩
 exact (zcw (x:=.clo 169 [.fp (.sl (List.map zx l)) 0]) (l:=[]) (by kernel_rfl) ⟨rfl,rfl⟩).1
def zag (a0:List zi):Prop:=CallE Tryz.prog 161 [vL zx a0] [] (.clo 169 [.fp (.sl (List.map zx a0)) 0]) []
end Go.Ev
namespace Go.Ev
open Go Go.RowKit
variable {P : Program}
section
variable {CE : CEx} {c : Cfg} {G G' : Sta} {own : Own} {a : Act} {w : World} {ops : Array Oper} {X : Nat → Nat → Bool}
variable {F : Fence} {n : Nat} {Q : Exit → Act → World → Prop}
def Tp (ops:Array Oper):List Ent→Prop
 | []=>True
 | x :: r=>(∀ o,ops[x.i]?=some o→∀ e∈o.after,Region.binds .any e=true→e.on < ops.size∧∀ y∈x :: r,e.on≠y.i)∧Tp ops r
def entOkX (ops:Array Oper) (X:Nat→Nat→Bool):List Ent→Prop
 | []=>True
 | x :: r=>(∀ y∈r,anc ops ops.size x.i y.i=false→X x.i y.i=false→x.ind y)∧entOkX ops X r
theorem Tp.mid:∀ {p:List Ent} {y:Ent} {r:List Ent},Tp ops (p++y :: r)→Tp ops (p++r)
 | [],y,r,h=>h.2
 | x :: p,y,r,h=>by
   refine ⟨fun o ho e he hb=>?_,Tp.mid h.2⟩
   obtain ⟨h1,h2⟩:=h.1 o ho e he hb
   refine ⟨h1,fun z hz=>h2 z ?_⟩
   show z∈(x :: p)++y :: r
   have hz:z∈(x :: p)++r:=hz
   rcases List.mem_append.1 hz with hz | hz
   ·exact List.mem_append_left _ hz
   ·exact List.mem_append_right _ (List.mem_cons_of_mem _ hz)
theorem entOkX.mid:∀ {p:List Ent} {y:Ent} {r:List Ent},entOkX ops X (p++y :: r)→(∀ x∈p,anc ops ops.size x.i y.i=false→X x.i y.i=false→x.ind y)∧entOkX ops X (p++r)
 | [],y,r,h=>⟨fun x hx=>by simp at hx,h.2⟩
 | x :: p,y,r,h=>by
   obtain ⟨h1,h2⟩:=h
   obtain ⟨h3,h4⟩:=entOkX.mid h2
   refine ⟨fun z hz=>?_,fun z hz=>h1 z ?_,h4⟩
   ·rcases List.mem_cons.1 hz with rfl | hz
    ·exact h1 y (by simp)
    ·exact h3 z hz
   ·have hz:z∈p++r:=hz
    show z∈p++y :: r
    rcases List.mem_append.1 hz with hz | hz
    ·exact List.mem_append_left _ hz
    ·exact List.mem_append_right _ (List.mem_cons_of_mem _ hz)
structure Pl (ops:Array Oper) (X:Nat→Nat→Bool) (es:List Ent) (listed:Array Bool):Prop where
 sz:listed.size=ops.size
 cl:Closed ops listed
 ls:∀ i,i < ops.size→(listed.getD i true=false↔i∈es.map (·.i))
 lt:∀ x∈es,x.i < ops.size
 nd:(es.map (·.i)).Nodup
 tp:Tp ops es
 ok:entOkX ops X es
theorem Pl.pick {es:List Ent} {listed:Array Bool} (h:Pl ops X es listed) {i:Nat} (hi:i∈Region.ready .any ops listed) (hX:∀ x∈es,x.i≠i→X x.i i=false) (hrun:Runs CE (stepRM c ops) es G G') :
 ∃ (y:Ent) (es':List Ent),y.i=i∧(stepRM c ops y.i).wp CE G [] (fun U' T'=>U'=y.U∧T'=y.T)∧Runs CE (stepRM c ops) es' (app y.U G) G'∧Pl ops X es' (listed.setIfInBounds i true)∧es'.length+1=es.length∧(∀ z∈es',z∈es)∧(∀ z∈es',z.i≠i)∧∀ z∈es,z.i≠i→z∈es':=by
 obtain ⟨h1,o,ho,hready⟩:=mem_ready.1 hi
 have hilt:i < ops.size:=(Array.getElem?_eq_some_iff.1 ho).1
 have hmem:=(h.ls i hilt).1 h1
 obtain ⟨y,hy,rfl⟩:=List.mem_map.1 hmem
 obtain ⟨p,r,rfl⟩:=List.append_of_mem hy
 obtain ⟨hm1,hm2⟩:=entOkX.mid h.ok
 have hnd:=h.nd
 have hnotin:∀ z∈p++r,z.i≠y.i:=by
  intro z hz e
  rw [List.map_append,List.map_cons,List.nodup_append,List.nodup_cons] at hnd
  rcases List.mem_append.1 hz with hz | hz
  ·exact hnd.2.2 z.i (List.mem_map.2 ⟨z,hz,rfl⟩) y.i (by simp) e
  ·exact hnd.2.1.1 (e▸List.mem_map.2 ⟨z,hz,rfl⟩)
 have hind:∀ x∈p,x.ind y:=by
  intro x hx
  refine hm1 x hx ?_ (hX x (List.mem_append_left _ hx) (hnotin x (List.mem_append_left _ hx)))
  cases ha:anc ops ops.size x.i y.i with
  | false=>rfl
  | true=>
    have hxl:=zfJ h.sz h.cl ops.size x.i y.i ha (fun o' ho' e he hb=>by rw [ho] at ho';cases ho';exact hready e he hb)
    have hxlt:=h.lt x (List.mem_append_left _ hx)
    have:listed.getD x.i true=false:=(h.ls x.i hxlt).2 (by simp [List.mem_map];exact .inl ⟨x,hx,rfl⟩)
    have hsz:=h.sz
    simp only [Array.getD_eq_getD_getElem?,Array.getElem?_eq_getElem (show x.i < listed.size by omega),Option.getD_some] at hxl this
    rw [hxl] at this;cases this
 obtain ⟨r1,r2⟩:=Runs.front hind hrun
 have hsub:(p++r).Sublist (p++y :: r):=List.Sublist.append (List.Sublist.refl _) (List.sublist_cons_self _ _)
 refine ⟨y,p++r,rfl,r1,r2,⟨by simpa using h.sz,?_,?_,fun x hx=>h.lt x (hsub.mem hx),hnd.sublist (hsub.map _),h.tp.mid,hm2⟩,by simp;omega,fun z hz=>hsub.mem hz,hnotin,?_⟩
 ·intro j o' ho' hj e he hb
  have hlst:listed.getD e.on false=true→(listed.setIfInBounds y.i true).getD e.on false=true:=fun h=>getD_set_true h
  by_cases hjy:y.i=j
  ·subst hjy
   rw [ho] at ho';cases ho'
   exact hlst (hready e he hb)
  ·rw [getD_set_ne true hjy] at hj
   exact hlst (h.cl j o' ho' hj e he hb)
 ·intro j hj
  by_cases hjy:y.i=j
  ·subst hjy
   have hsz:=h.sz
   have:(listed.setIfInBounds y.i true).getD y.i true=true:=by
    simp [Array.getD_eq_getD_getElem?,Array.getElem?_setIfInBounds,show y.i < listed.size by omega]
   rw [this]
   simp only [Bool.true_eq_false,false_iff]
   intro hmem
   obtain ⟨z,hz,e⟩:=List.mem_map.1 hmem
   exact hnotin z hz e
  ·rw [getD_set_ne true hjy,h.ls j hj]
   simp only [List.map_append,List.map_cons,List.mem_append,List.mem_cons]
   constructor
   ·rintro (h | h | h)
    ·exact .inl h
    ·exact absurd h.symm hjy
    ·exact .inr h
   ·rintro (h | h)
    ·exact .inl h
    ·exact .inr (.inr h)
 ·intro z hz hzi
  rcases List.mem_append.1 hz with hz | hz
  ·exact List.mem_append_left _ hz
  ·rcases List.mem_cons.1 hz with rfl | hz
   ·exact absurd rfl hzi
   ·exact List.mem_append_right _ hz
theorem Pl.done {es:List Ent} {listed:Array Bool} (he:es=[]) (s:St P c.nt G own a w) (h:Runs CE (stepRM c ops) es G G')
 (hq:∀ own' a' w',St P c.nt G' own' a' w'→Tr own w own' w'→a'.defers=a.defers→Q .normal a' w'):Q .normal a w:=by
 subst he
 have:G=G':=h
 subst this
 exact hq own a w s (Tr.refl _ _) rfl
theorem Pl.end {es:List Ent} {listed:Array Bool} (h:Pl ops X es listed) (he:es=[]):Region.ready .any ops listed=[]:=by
 subst he
 cases hr:Region.ready .any ops listed with
 | nil=>rfl
 | cons i r=>
   have:i∈Region.ready .any ops listed:=by rw [hr];exact List.mem_cons_self ..
   obtain ⟨h1,o,ho,_⟩:=mem_ready.1 this
   have hi:i < ops.size:=(Array.getElem?_eq_some_iff.1 ho).1
   have:=(h.ls i hi).1 h1
   simp at this
end
end Go.Ev
namespace Go.Ev
open Go Go.RowKit
variable {P : Program}
section
variable {c : Cfg} {ops : Array Oper}
end
theorem Sem.cfg {c c':Cfg} {x:Code} {G:Sta} {K:Ex→Sta→Prop} (h1:c'.nt=c.nt) (h2:c'.rnd=c.rnd) (h:Sem P c' x G K):Sem P c x G K:=by
 unfold Sem WideC at h ⊢
 rw [h1,h2] at h
 exact h
theorem COk.vs {c:Cfg} (h:COk P c) (vs:Nat→Bool):COk P { c with vs:=vs }:=⟨h.cfg,zfA h.ip rfl rfl rfl,h.ro⟩
end Go.Ev
namespace Go.Ev
open Go Go.RowKit
variable {P : Program}
theorem RF.to_no {own:Own} {w:World} {x:FV} {u:Value} (h:RF own w x u):RF no w x u:=h.mono0 fun _ _=>rfl
theorem zgn {G:Sta} {nt:Nat} {a:Act} {w:World} (hs:a.tmps.size=nt) (h:∀ b v,get G b=some v→∃ t u,b=tb t∧a.tmps[t]?=some u∧RL P G no w b v u):St P nt G no a w:=
 ⟨hs,fun t v e=>by
   obtain ⟨t',u,e1,e2,e3⟩:=h _ _ e
   have:=tb_inj e1;subst this;exact ⟨u,e2,e3⟩,
  fun b v hb _ e=>by obtain ⟨t,u,rfl,_⟩:=h _ _ e;simp [tb] at hb,
  fun b v hm e=>by obtain ⟨t,u,rfl,_⟩:=h _ _ e;exact absurd (by simp only [tb];omega) (zdH hm),
  fun k k' o h=>(nomatch h),fun k o h=>(nomatch h)⟩
section
variable {c : Cfg} {F : Fence} {n : Nat} {Q : Exit → Act → World → Prop} {ops : Array Oper}
def nod (ts:List Tmp) (ops:List Oper):Bool:=ops.all fun o=>ts.all fun t=>o.dst != some t
theorem zgV {ts:List Tmp} {ops:Array Oper} (h:nod ts ops.toList=true) {i:Nat} {o:Oper} (ho:ops[i]?=some o) {t:Tmp} (ht:t∈ts):o.dst≠some t:=by
 have:=List.all_eq_true.1 (List.all_eq_true.1 h o (by rw [← Array.getElem?_toList] at ho;exact List.mem_of_getElem? ho)) t ht
 simpa using this
theorem zen {t0 t1 t2 t3 t4:Tmp} (l:List Nat) {a:Act} {w:World} (hd:nod [t0,t1,t2,t3,t4] ops.toList=true)
 (h:wpOpsIn F n P ops (fun e a' w'=>(e=.normal→a'.tmps[t4]?=a.tmps[t4]?)→(e=.normal→a'.tmps[t3]?=a.tmps[t3]?)→(e=.normal→a'.tmps[t2]?=a.tmps[t2]?)→(e=.normal→a'.tmps[t1]?=a.tmps[t1]?)→(e=.normal→a'.tmps[t0]?=a.tmps[t0]?)→Q e a' w') l a w):wpOpsIn F n P ops Q l a w:=
 za2 (t:=t0) _ (fun i _ o h=>zgV hd h (by simp)) (za2 (t:=t1) _ (fun i _ o h=>zgV hd h (by simp)) (za2 (t:=t2) _ (fun i _ o h=>zgV hd h (by simp)) (za2 (t:=t3) _ (fun i _ o h=>zgV hd h (by simp)) (za2 (t:=t4) _ (fun i _ o h=>zgV hd h (by simp)) h))))
structure Kp5 (t0 t1 t2 t3 t4:Tmp) (a a':Act):Prop where
 k0:a'.tmps[t0]?=a.tmps[t0]?
 k1:a'.tmps[t1]?=a.tmps[t1]?
 k2:a'.tmps[t2]?=a.tmps[t2]?
 k3:a'.tmps[t3]?=a.tmps[t3]?
 k4:a'.tmps[t4]?=a.tmps[t4]?
theorem regK (hc:COk P c) (hF:WideF P F) {t0 t1 t2 t3 t4:Tmp} {id:Nat} {q:List Ora} {G G':Sta} {obs:List Prop} {log:List Lg} {own:Own} {a:Act} {w:World} (h:evOps (CallE P) c ops false ops.toList 0 [] G q=some (obs,log,G')) (ho:AllP obs)
 (hd:nod [t0,t1,t2,t3,t4] ops.toList=true) (s:St P c.nt G own a w)
 (hq:∀ own' a' w',St P c.nt G' own' a' w'→Tr own w own' w'→a'.defers=a.defers→Kp5 t0 t1 t2 t3 t4 a a'→Q .normal a' w'):(Code.region id ops false).wpIn F n P Q a w:=by
 refine wpIn_region (zen _ hd ?_)
 refine zdt hc hF (pre:=ops.toList) (rest:=[]) (by simp) h ho s ?_
 intro own' a' w' s' t' d' h4 h3 h2 h1 h0
 exact hq own' a' w' s' t' d' ⟨h0 rfl,h1 rfl,h2 rfl,h3 rfl,h4 rfl⟩
theorem nmt {a:Act} {t:Tmp} {i:Int} (h:a.tmps[t]?=some (.int .i64 i)) {N:Nat} {k:Nat} (e:i=k):(match a.tmps[t]? with
 | some (Value.int _ v)=>N - v.toNat
 | _=>0)=N - k:=by rw [h];subst e;rfl
theorem yloop (hc:COk P c) (hF:WideF P F) {bx b1 iB i2 i3 iD:Nat} {oB o2 o3 oD:Array Oper} {tl tn ti tc te ty tx to_ tq t1:Tmp} {x:Code} (hnt:0 < c.nt∧to_ < c.nt∧tl < c.nt∧tn < c.nt∧ti < c.nt∧te < c.nt)
 (hx:x=.block bx (.loop (.seq (.region iB oB false) (.seq (.cond (.tmp tc) .skip (.exit bx)) (.seq (.block b1 (.seq (.region i2 o2 false) (.seq (.region i3 o3 false) (.cond (.tmp tq) .ret .skip)))) (.region iD oD false))))))
 {yv s:Value} {vs:List Value} (hyc:yv.oneCell'=true) (hvl:(vs.length:Int)≤9223372036854775807)
 (dB:nod [0,t1,tl,tn,ti] oB.toList=true) (d2:nod [0,t1,tl,tn,ti] o2.toList=true) (d3:nod [0,t1,tl,tn,ti] o3.toList=true) (dD:nod [0,t1,tl,tn,t1] oD.toList=true)
 {pre:List Oper} {oc on:Oper} {ats:Array TypeId} (h3:o3.toList=pre++[oc,on]) (hoc:oc.op=.call { callee:=.value (.tmp ty),args:=#[.tmp tx],argTypes:=ats }) (hocd:oc.dst=some to_) (hocg:oc.guard=none)
 (hlt:0 < tl∧tl < tn∧tn < ti∧0 < te)
 (kB:∀ i:Nat,∃ log G',evOps (CallE P) c oB false oB.toList 0 [] [(1,.f (.pv yv)),(tb tl,.f (.sl (vs.map .pv))),(tb tn,.f (.pv (.int .i64 (vs.length:Int)))),(tb ti,.f (.pv (.int .i64 (i:Int))))] []=some ([],log,G')∧get G' (tb tc)=some (.f (.pv (.bool (decide ((i:Int) < (vs.length:Int)))))))
 (k2:∀ (i:Nat) v,∃ log G',evOps (CallE P) c o2 false o2.toList 0 [] [(1,.f (.pv yv)),(tb tl,.f (.sl (vs.map .pv))),(tb tn,.f (.pv (.int .i64 (vs.length:Int)))),(tb ti,.f (.pv (.int .i64 (i:Int))))] [.e (.pv v)]=some ([(0:Int)≤i,(vs.map FV.pv)[(i:Int).toNat]?=some (.pv v)],log,G')∧get G' (tb te)=some (.f (.pv v)))
 (k3:∀ v,∃ log G',evOps (CallE P) c o3 false pre 0 [] [(1,.f (.pv yv)),(tb te,.f (.pv v))] []=some ([],log,G')∧get G' (tb ty)=some (.f (.pv yv))∧get G' (tb tx)=some (.f (.pv v)))
 (kN:∀ b,∃ log G',evOps (CallE P) c o3 false [on] (pre.length+1) [] [(tb to_,.f (.pv (.bool b)))] []=some ([],log,G')∧get G' (tb tq)=some (.f (.pv (.bool (!b)))))
 (kD:∀ i:Nat,∃ log G',evOps (CallE P) c oD false oD.toList 0 [] [(1,.f (.pv yv)),(tb tl,.f (.sl (vs.map .pv))),(tb tn,.f (.pv (.int .i64 (vs.length:Int)))),(tb ti,.f (.pv (.int .i64 (i:Int))))] []=some ([],log,G')∧get G' (tb ti)=some (.f (.pv (.int .i64 (IntKind.wrap .i64 ((i:Int)+1))))))
 (hond:to_≠0∧to_≠t1∧to_≠tl∧to_≠tn∧to_≠ti)
 {own:Own} {w0:World} (hlt0:∀ k o,own k=some o→k < w0.heap.size) {lp:Nat} (hyv:yv=Value.func (.yield lp) #[] #[]) {J:Nat→World→Prop} {S:World→Prop} {ok:Nat→Array Value→Prop} {M k0:Nat}
 (hst:∀ i W1 W2,J i W1→Grow W1 W2→J i W2) (hss:∀ W1 W2,S W1→Grow W1 W2→S W2)
 (hyield:∀ m i x W1,J i W1→i < M→ok i x→KU (fun k=>k < w0.heap.size∧(own k=none∨∃ o,own k=some (.al o))) w0 W1→YieldAt F m P lp x W1 fun e W'=>((e=.returned (.bool true)∧J (i+1) W')∨(e=.returned (.bool false)∧S W'))∧KU (fun k=>k < w0.heap.size∧(own k=none∨∃ o,own k=some (.al o))) w0 W')
 (hM:k0+vs.length≤M) (hok:∀ i v u,vs[i]?=some v→u=v→ok (k0+i) #[u]) (hsl:RF own w0 (.sl (vs.map .pv)) s)
 {a:Act} {W:World} (z0:a.tmps.size=c.nt) (z1:a.tmps[0]?=some yv) (z2:a.tmps[tl]?=some s) (z3:a.tmps[tn]?=some (.int .i64 (vs.length:Int))) (z4:a.tmps[ti]?=some (.int .i64 0)) (zd:a.defers=[]) (hJ:J k0 W) (hK:KU (fun k=>k < w0.heap.size∧(own k=none∨∃ o,own k=some (.al o))) w0 W)
 (hcont:∀ a' W',a'.tmps.size=c.nt→a'.tmps[0]?=some yv→a'.tmps[t1]?=a.tmps[t1]?→a'.defers=[]→J (k0+vs.length) W'→KU (fun k=>k < w0.heap.size∧(own k=none∨∃ o,own k=some (.al o))) w0 W'→Q .normal a' W')
 (hret:∀ a' W',a'.defers=[]→S W'→Q .ret a' W'):x.wpIn F n P Q a W:=by
 subst hx
 have hU:∀ k,(k < w0.heap.size∧(own k=none∨∃ o,own k=some (.al o)))→k < w0.heap.size:=fun k h=>h.1
 have base:∀ (a:Act) (w:World) (i:Nat),a.tmps.size=c.nt→a.tmps[0]?=some yv→a.tmps[tl]?=some s→a.tmps[tn]?=some (.int .i64 (vs.length:Int))→a.tmps[ti]?=some (.int .i64 (i:Int))→KU (fun k=>k < w0.heap.size∧(own k=none∨∃ o,own k=some (.al o))) w0 w→
  St P c.nt [(1,.f (.pv yv)),(tb tl,.f (.sl (vs.map .pv))),(tb tn,.f (.pv (.int .i64 (vs.length:Int)))),(tb ti,.f (.pv (.int .i64 (i:Int))))] no a w:=by
  intro a w i hs h0 h1 h2 h3 hk
  refine zgn hs fun b v e=>?_
  simp only [get] at e
  split at e
  ·rename_i hb;cases e;exact ⟨0,yv,hb,h0,⟨rfl,.pv _ hyc⟩⟩
  ·split at e
   ·rename_i hb;cases e;exact ⟨tl,s,hb,h1,⟨rfl,(hsl.mono (hk.tr hlt0)).to_no⟩⟩
   ·split at e
    ·rename_i hb;cases e;exact ⟨tn,_,hb,h2,⟨rfl,.pv _ rfl⟩⟩
    ·split at e
     ·rename_i hb;cases e;exact ⟨ti,_,hb,h3,⟨rfl,.pv _ rfl⟩⟩
     ·cases e
 refine wpIn_block ?_
 refine wpIn_loop (fun a' w'=>∃ i:Nat,i≤vs.length∧J (k0+i) w'∧KU (fun k=>k < w0.heap.size∧(own k=none∨∃ o,own k=some (.al o))) w0 w'∧a'.tmps.size=c.nt∧a'.tmps[0]?=some yv∧a'.tmps[tl]?=some s∧a'.tmps[tn]?=some (.int .i64 (vs.length:Int))∧a'.tmps[ti]?=some (.int .i64 (i:Int))∧a'.tmps[t1]?=a.tmps[t1]?∧a'.defers=[])
  (fun a' _=>match a'.tmps[ti]? with
    | some (Value.int _ v)=>vs.length - v.toNat
    | _=>0) ⟨0,Nat.zero_le _,hJ,hK,z0,z1,z2,z3,z4,rfl,zd⟩ ?_
 rintro a1 w1 ⟨i,hi,hJ1,hk1,y0,y1,y2,y3,y4,y5,yd⟩
 rw [nmt y4 rfl]
 refine wpIn_seq ?_
 obtain ⟨logB,GB,eB,gB⟩:=kB i
 refine regK hc hF eB trivial dB (base a1 w1 i y0 y1 y2 y3 y4 hk1) ?_
 intro ownB aB wB sB tB dfB KB
 have hJB:=hst _ _ _ hJ1 (zbw tB)
 have hkB:=(zbw tB).ku hk1 hU
 have zB:=sB.size
 have pc:=zbx (t:=tc) sB gB
 refine wpIn_seq ?_
 refine wpIn_cond (show aB.eval (.tmp tc)=.bool (decide ((i:Int) < (vs.length:Int))) from zdh pc) ?_
 rcases Nat.lt_or_ge i vs.length with hl | hl'
 case' inr=>
  rw [show decide ((i:Int) < (vs.length:Int))=false from by simp;omega]
  refine wpIn_exit ?_
  have hie:i=vs.length:=by omega
  subst hie
  show Exit.inBlock bx Q (.exit bx) aB wB
  simp only [Exit.inBlock,if_true]
  exact hcont aB wB zB (KB.k0.trans y1) (KB.k1.trans y5) (dfB.trans yd) hJB hkB
 rw [show decide ((i:Int) < (vs.length:Int))=true from by simp;omega]
 refine wpIn_skip ?_
 refine wpIn_seq (wpIn_block (wpIn_seq ?_))
 obtain ⟨v,hv⟩:∃ v,vs[i]?=some v:=⟨vs[i],by simp⟩
 obtain ⟨log2,G2,e2,g2⟩:=k2 i v
 refine regK hc hF e2 ⟨by omega,by rw [Int.toNat_natCast,List.getElem?_map,hv];rfl,trivial⟩ d2 (base aB wB i zB (KB.k0.trans y1) (KB.k2.trans y2) (KB.k3.trans y3) (KB.k4.trans y4) hkB) ?_
 intro own2 a2 w2 s2 t2 df2 K2
 have hJ2:=hst _ _ _ hJB (zbw t2)
 have hk2:=(zbw t2).ku hkB hU
 have pe:=zbx (t:=te) s2 g2
 have hve:v.oneCell'=true:=by
  obtain ⟨u,hu,hr⟩:=s2.temps te _ g2
  have hr:RC own2 w2 (.f (.pv v)) u:=hr
  cases hr.2;assumption
 obtain ⟨log3,G3,e3,g3,g3x⟩:=k3 v
 refine wpIn_seq (wpIn_region (zen _ d3 ?_))
 have s2':St P c.nt [(1,.f (.pv yv)),(tb te,.f (.pv v))] no a2 w2:=by
  refine zgn s2.size fun b v' e=>?_
  simp only [get] at e
  split at e
  ·rename_i hb;cases e;exact ⟨0,yv,hb,K2.k0.trans (KB.k0.trans y1),⟨rfl,.pv _ hyc⟩⟩
  ·split at e
   ·rename_i hb;cases e;exact ⟨te,_,hb,pe,⟨rfl,.pv _ hve⟩⟩
   ·cases e
 refine zdt hc hF (pre:=pre) (rest:=[oc,on]) h3 e3 trivial s2' ?_
 intro own3 a3 w3 s3 t3 df3
 have ry:=zbx (t:=ty) s3 g3
 have rx:=zbx (t:=tx) s3 g3x
 have hJ3:=hst _ _ _ hJ2 (zbw t3)
 have hk3:=(zbw t3).ku hk2 hU
 show wpOpsIn F n P o3 _ (pre.length :: (pre.length+1) :: []) a3 w3
 have hocI:o3[pre.length]?=some oc:=by
  rw [← Array.getElem?_toList,h3,List.getElem?_append_right (Nat.le_refl _)];simp
 unfold wpOpsIn
 rw [hocI]
 dsimp only
 rw [if_pos (by simp [Region.wanted,hocg])]
 have hv11:a3.eval (.tmp ty)=.func (.yield lp) #[] #[]:=by rw [← hyv];show a3.tmps.getD ty _=_;exact zdh ry
 refine zeo hF.fn (by simp [hoc]) ?_
 have hargs:(#[Operand.tmp tx]:Array Operand).map a3.eval=#[v]:=by
  have e1:a3.eval (.tmp tx)=v:=by show a3.tmps.getD tx _=_;exact zdh rx
  simp [e1]
 rw [run_callY hoc hv11,hargs]
 obtain ⟨fn',tmps',as',bd',hrun,hround⟩:=hyield (n - 1) (k0+i) _ w3 hJ3 (by omega) (hok i v v hv rfl) hk3
 rw [hrun,Oper.uponIn_round]
 refine ⟨fun e=>(by rw [hF.deep] at e;cases e),hround.mono ?_⟩
 rintro e w4 ⟨hJS,hk4⟩
 obtain ⟨b,rfl,hB⟩:∃ b,e=.returned (.bool b)∧((b=true∧J (k0+i+1) w4)∨(b=false∧S w4)):=by
  rcases hJS with ⟨rfl,h⟩ | ⟨rfl,h⟩
  ·exact ⟨true,rfl,.inl ⟨rfl,h⟩⟩
  ·exact ⟨false,rfl,.inr ⟨rfl,h⟩⟩
 dsimp only
 rw [hocd]
 have s4:St P c.nt [(tb to_,.f (.pv (.bool b)))] no (a3.put (some to_) (.bool b)) w4:=by
  have s00:St P c.nt [] no a3 w4:=⟨s3.size,fun t v e=>(by cases e),fun b v hb _ e=>(by cases e),fun b v hm e=>(by cases e),fun k k' o h=>(nomatch h),fun k o h=>(nomatch h)⟩
  exact s00.set_pure (t:=to_) hnt.2.1 ⟨rfl,.pv _ rfl⟩
 obtain ⟨logN,GN,eN,gN⟩:=kN b
 have honI:o3[pre.length+1]?=some on:=by
  rw [← Array.getElem?_toList,h3,List.getElem?_append_right (by omega)];simp
 obtain ⟨es,x1,x2,_⟩:=zdM (P:=P) (c:=c) (obs:=[]) [on] (p:=pre++[oc]) (rest:=[]) (by rw [h3];simp) (by rw [List.length_append];exact eN) trivial
 have hes:[pre.length+1]=es.map (·.i)++[]:=by rw [x1,List.length_append];rfl
 rw [hes]
 refine zeP hc.cfg hc.ip (fun _ _ _ _ _ h=>h) hF _ es s4 x2 ?_
 intro own5 a5 w5 s5 t5 df5 c4 c3 c2 c1 c0
 have v0:a5.tmps[0]?=some yv:=(c0 rfl).trans (K2.k0.trans (KB.k0.trans y1))
 have v1:a5.tmps[t1]?=a.tmps[t1]?:=(c1 rfl).trans (K2.k1.trans (KB.k1.trans y5))
 have v2:a5.tmps[tl]?=some s:=(c2 rfl).trans (K2.k2.trans (KB.k2.trans y2))
 have v3:a5.tmps[tn]?=some (.int .i64 (vs.length:Int)):=(c3 rfl).trans (K2.k3.trans (KB.k3.trans y3))
 have v4:a5.tmps[ti]?=some (.int .i64 (i:Int)):=(c4 rfl).trans (K2.k4.trans (KB.k4.trans y4))
 have vd:a5.defers=[]:=df5.trans (df3.trans (df2.trans (dfB.trans yd)))
 have hk5:=(zbw t5).ku hk4 hU
 refine wpIn_cond (show a5.eval (.tmp tq)=.bool (!b) from zdh (zbx (t:=tq) s5 gN)) ?_
 rcases hB with ⟨rfl,hJ4⟩ | ⟨rfl,hS4⟩
 case' inr=>
  refine wpIn_ret ?_
  exact hret a5 w5 vd (hss _ _ hS4 (zbw t5))
 have hJ5:=hst _ _ _ hJ4 (zbw t5)
 refine wpIn_skip ?_
 obtain ⟨logD,GD,eD,gD⟩:=kD i
 refine regK hc hF eD trivial dD (base a5 w5 i s5.size v0 v2 v3 v4 hk5) ?_
 intro own6 a6 w6 s6 t6 df6 K6
 have u4:=zbx (t:=ti) s6 gD
 rw [wrap64 (by omega) (by omega)] at u4
 have u4':a6.tmps[ti]?=some (.int .i64 ((i+1:Nat):Int)):=by rw [u4];congr 2
 refine ⟨⟨i+1,hl,by have:=hst _ _ _ hJ5 (zbw t6);rwa [Nat.add_assoc] at this,(zbw t6).ku hk5 hU,s6.size,K6.k0.trans v0,K6.k2.trans v2,K6.k3.trans v3,u4',K6.k1.trans v1,df6.trans vd⟩,?_⟩
 rw [nmt u4' rfl]
 omega
end
end Go.Ev
namespace Go.Ev
open Go Go.RowKit
variable {P : Program}
theorem sl_one {own:Own} {w:World} {vs:List Value} {s:Value} (h:RF own w (.sl (vs.map .pv)) s) {i:Nat} {v:Value} (hv:vs[i]?=some v):v.oneCell'=true:=by
 cases h with
 | sl _ a n c ad sz hn hc ha hsz hcell hr=>
   have hx:(vs.map FV.pv)[i]?=some (.pv v):=by rw [List.getElem?_map,hv];rfl
   obtain ⟨u,hu⟩:=hcell i _ 0 (.pv v) hx rfl
   have:=hr i _ 0 (.pv v) u hx rfl hu
   cases this;assumption
section
variable {c : Cfg} {F : Fence} {n : Nat} {Q : Exit → Act → World → Prop} {ops : Array Oper}
theorem yhead (hc:COk P c) (hF:WideF P F) {id:Nat} {tl tn ti:Tmp} {pre rest:List Oper} (hp:ops.toList=pre++rest) {yv lb s:Value} {X:FV} {vs:List Value} (hyc:yv.oneCell'=true) (ht:tl < c.nt)
 (kA:∃ log G',evOps (CallE P) c ops false pre 0 [] [(1,.f (.pv yv)),(4,.fp X 0)] []=some ([],log,G')∧get G' (tb tl)=some (.f (.pv s)))
 (kR:∃ log G',evOps (CallE P) c ops false rest pre.length [] [(tb tl,.f (.sl (vs.map .pv)))] []=some ([],log,G')∧get G' (tb tn)=some (.f (.pv (.int .i64 (vs.length:Int))))∧get G' (tb ti)=some (.f (.pv (.int .i64 0))))
 (d1:nod [0,1,1,1,1] ops.toList=true) (d2:nod [tl] rest=true)
 {own:Own} {w0:World} (hlt0:∀ k o,own k=some o→k < w0.heap.size) (hX:RC own w0 (.fp X 0) lb) (hsl:RF own w0 (.sl (vs.map .pv)) s)
 {a:Act} {W:World} (z0:a.tmps.size=c.nt) (z1:a.tmps[0]?=some yv) (z2:a.tmps[1]?=some lb) (zd:a.defers=[]) (hK:KU (fun k=>k < w0.heap.size∧(own k=none∨∃ o,own k=some (.al o))) w0 W)
 (hq:∀ a' W',a'.tmps.size=c.nt→a'.tmps[0]?=some yv→a'.tmps[1]?=some lb→a'.tmps[tl]?=some s→a'.tmps[tn]?=some (.int .i64 (vs.length:Int))→a'.tmps[ti]?=some (.int .i64 0)→a'.defers=[]→Grow W W'→KU (fun k=>k < w0.heap.size∧(own k=none∨∃ o,own k=some (.al o))) w0 W'→Q .normal a' W'):(Code.region id ops false).wpIn F n P Q a W:=by
 have hU:∀ k,(k < w0.heap.size∧(own k=none∨∃ o,own k=some (.al o)))→k < w0.heap.size:=fun k h=>h.1
 refine wpIn_region (zen _ d1 ?_)
 obtain ⟨log,G',e,g⟩:=kA
 have s0:St P c.nt [(1,.f (.pv yv)),(4,.fp X 0)] no a W:=by
  refine zgn z0 fun b v e=>?_
  simp only [get] at e
  split at e
  ·rename_i hb;cases e;exact ⟨0,yv,hb,z1,⟨rfl,.pv _ hyc⟩⟩
  ·split at e
   ·rename_i hb;cases e;exact ⟨1,lb,hb,z2,fp_no (RC.fp_mono (hK.tr hlt0) hX)⟩
   ·cases e
 refine zdt hc hF (pre:=pre) (rest:=rest) hp e trivial s0 ?_
 intro own1 a1 w1 s1 t1 df1
 have p:=zbx (t:=tl) s1 g
 have hk1:=(zbw t1).ku hK hU
 have s1':St P c.nt [(tb tl,.f (.sl (vs.map .pv)))] no a1 w1:=by
  refine zgn s1.size fun b v e=>?_
  simp only [get] at e
  split at e
  ·rename_i hb;cases e;exact ⟨tl,s,hb,p,⟨rfl,(hsl.mono (hk1.tr hlt0)).to_no⟩⟩
  ·cases e
 obtain ⟨log2,G2,e2,g2,g3⟩:=kR
 obtain ⟨es,x1,x2,_⟩:=zdM (P:=P) (c:=c) (obs:=[]) rest (p:=pre) (rest:=[]) (by rw [hp];simp) e2 trivial
 refine za2 (t:=tl) _ (fun i hi o ho=>?_) ?_
 ·have hi':=List.mem_range'.1 hi
  obtain ⟨j,hj,rfl⟩:=hi'
  rw [Nat.one_mul,← Array.getElem?_toList,hp,List.getElem?_append_right (by omega),Nat.add_sub_cancel_left] at ho
  have:=List.all_eq_true.1 (List.all_eq_true.1 d2 o (List.mem_of_getElem? ho)) tl (by simp)
  simpa using this
 have hes:List.range' pre.length rest.length=es.map (·.i)++[]:=by rw [x1,List.append_nil]
 rw [hes]
 refine zeP hc.cfg hc.ip (fun _ _ _ _ _ h=>h) hF _ es s1' x2 ?_
 intro own2 a2 w2 s2 t2 df2 cl c4 c3 c2 c1 c0
 exact hq a2 w2 s2.size ((c0 rfl).trans z1) ((c1 rfl).trans z2) ((cl rfl).trans p) (zbx (t:=tn) s2 g2) (zbx (t:=ti) s2 g3) (df2.trans (df1.trans zd))
  ⟨Nat.le_trans (zbw t1).size (zbw t2).size,fun k hk=>((zbw t2).keep k (Nat.lt_of_lt_of_le hk (zbw t1).size)).trans ((zbw t1).keep k hk),(zbw t2).os.trans (zbw t1).os,(zbw t2).tape.trans (zbw t1).tape,(zbw t2).output.trans (zbw t1).output⟩ ((zbw t2).ku hk1 hU)
end
end Go.Ev
namespace Go.Ev
open Go Go.Proofs Go.RowKit
set_option maxRecDepth 8000
set_option maxHeartbeats 8000000 in
theorem lists_it (A:zh) (hl1:(A.Follow.length:Int)≤9223372036854775807) (hl2:(A.Starts.length:Int)≤9223372036854775807) :
 ItOk Tryz.prog 92 (.fp (zbj A) 0) (A.Follow.length+A.Starts.length) (fun i=>[zg ((A.Follow++A.Starts).getD i [])]):=by
 intro own w0 lb hlb hone hlt0
 refine ⟨⟨_,Tryz.func92,by rfl,by rfl⟩,?_⟩
 intro F n lp J S W hF hro hku hst hss hyield hJ
 have kk:=cfOk [] 31
 obtain ⟨k,o,q1,q2,q3,q4⟩:=hlb
 obtain ⟨v0,e0,r0⟩:=q4 0 _ rfl
 obtain ⟨v1,e1,r1⟩:=q4 1 _ rfl
 obtain ⟨s1,e2,r2⟩:=q4 2 _ rfl
 obtain ⟨v3,e3,r3⟩:=q4 3 _ rfl
 obtain ⟨s2,e4,r4⟩:=q4 4 _ rfl
 obtain ⟨f1,hf1,hr1,hx1⟩:=zfE (P:=Tryz.prog) (enc:=zg) (sz:=1) (agg:=false) (fun x=>by rfl) (fun x=>by rfl) (fun _=>rfl) r2
 obtain ⟨f2,hf2,hr2,hx2⟩:=zfE (P:=Tryz.prog) (enc:=zg) (sz:=1) (agg:=false) (fun x=>by rfl) (fun x=>by rfl) (fun _=>rfl) r4
 obtain ⟨z1,hz1⟩:∃ z1,z1=f1.map fun f=>f 0:=⟨_,rfl⟩
 obtain ⟨z2,hz2⟩:∃ z2,z2=f2.map fun f=>f 0:=⟨_,rfl⟩
 have hm1:f1.map (encX false 1)=z1.map .pv:=by rw [hz1,List.map_map];rfl
 have hm2:f2.map (encX false 1)=z2.map .pv:=by rw [hz2,List.map_map];rfl
 rw [hm1] at hr1
 rw [hm2] at hr2
 have hn1:z1.length=A.Follow.length:=by rw [hz1,List.length_map,hf1]
 have hn2:z2.length=A.Starts.length:=by rw [hz2,List.length_map,hf2]
 have c0:v0.oneCell'=true:=zhV r0 rfl
 have c1:v1.oneCell'=true:=zhV r1 rfl
 have c2:s1.oneCell'=true:=zhV r2 rfl
 have c3:v3.oneCell'=true:=zhV r3 rfl
 have c4:s2.oneCell'=true:=zhV r4 rfl
 have hX:RC own w0 (.fp (.agg [.pv v0,.pv v1,.pv s1,.pv v3,.pv s2]) 0) lb:=by
  refine ⟨k,o,q1,q2,q3,fun j y hy=>?_⟩
  match j,hy with
  | 0,hy=>cases hy;exact ⟨v0,e0,.pv _ c0⟩
  | 1,hy=>cases hy;exact ⟨v1,e1,.pv _ c1⟩
  | 2,hy=>cases hy;exact ⟨s1,e2,.pv _ c2⟩
  | 3,hy=>cases hy;exact ⟨v3,e3,.pv _ c3⟩
  | 4,hy=>cases hy;exact ⟨s2,e4,.pv _ c4⟩
  | j+5,hy=>cases hy
 obtain ⟨yv,hyv⟩:∃ yv,yv=Value.func (.yield lp) #[] #[]:=⟨_,rfl⟩
 rw [← hyv]
 have hyc:yv.oneCell'=true:=by rw [hyv];rfl
 have hU:∀ k,(k < w0.heap.size∧(own k=none∨∃ o,own k=some (.al o)))→k < w0.heap.size:=fun k h=>h.1
 have hval:∀ (x:List Int) (f:Nat→Value) (b:Bool),(f 0).oneCell'=true→(∀ u own' w' b,RL Tryz.prog [] own' w' b (asAV (encX false 1 f)) u→RF own w0 (zg x) u)→RF own w0 (zg x) (f 0):=fun x f _ h1 h2=>h2 (f 0) own w0 0 ⟨rfl,.pv _ h1⟩
 have hok:∀ (i:Nat) (v u:Value),(∃ (x:List Int) (f:Nat→Value),(A.Follow++A.Starts)[i]?=some x∧v=f 0∧RF own w0 (zg x) (f 0))→u=v→okAr own w0 (fun i=>[zg ((A.Follow++A.Starts).getD i [])]) i #[u]:=by
  rintro i v u ⟨x,f,h1,rfl,h2⟩ rfl
  refine ⟨[f 0],rfl,rfl,fun j y u e1 e2=>?_⟩
  dsimp only at e1
  rw [List.getD_eq_getElem?_getD,h1] at e1
  match j,e1,e2 with
  | 0,e1,e2=>cases e1;cases e2;exact h2
  | j+1,e1,e2=>cases e1
 have ok1:∀ (i:Nat) (v u:Value),z1[i]?=some v→u=v→okAr own w0 (fun i=>[zg ((A.Follow++A.Starts).getD i [])]) (0+i) #[u]:=by
  intro i v u hv hu
  have hone':=sl_one hr1 hv
  have hi:i < A.Follow.length:=by have:=(List.getElem?_eq_some_iff.1 hv).1;omega
  rw [hz1,List.getElem?_map] at hv
  obtain ⟨f,hf,rfl⟩:∃ f,f1[i]?=some f∧f 0=v:=by
   cases hf:f1[i]? with
   | none=>rw [hf] at hv;cases hv
   | some f=>rw [hf] at hv;exact ⟨f,rfl,by simpa using hv⟩
  refine hok (0+i) _ u ⟨A.Follow[i],f,by rw [Nat.zero_add,List.getElem?_append_left hi];simp,rfl,hval _ f true hone' (hx1 i _ f (by simp) hf)⟩ hu
 have ok2:∀ (i:Nat) (v u:Value),z2[i]?=some v→u=v→okAr own w0 (fun i=>[zg ((A.Follow++A.Starts).getD i [])]) (A.Follow.length+i) #[u]:=by
  intro i v u hv hu
  have hone':=sl_one hr2 hv
  have hi:i < A.Starts.length:=by have:=(List.getElem?_eq_some_iff.1 hv).1;omega
  rw [hz2,List.getElem?_map] at hv
  obtain ⟨f,hf,rfl⟩:∃ f,f2[i]?=some f∧f 0=v:=by
   cases hf:f2[i]? with
   | none=>rw [hf] at hv;cases hv
   | some f=>rw [hf] at hv;exact ⟨f,rfl,by simpa using hv⟩
  refine hok _ _ u ⟨A.Starts[i],f,by rw [List.getElem?_append_right (by omega),Nat.add_sub_cancel_left];simp,rfl,hval _ f true hone' (hx2 i _ f (by simp) hf)⟩ hu
 refine callsIn_of_wp_marks Tryz.func92 (by rfl) (hF.fn _) ?_ hro
 have hpost:∀ (a:Act) (w:World),a.defers=[]→(J (A.Follow.length+A.Starts.length) w∨S w)→LeavesInM F n Tryz.prog Tryz.f92 a.tmps (fun e W'=>(∃ v,e=.returned v)∧(J (A.Follow.length+A.Starts.length) W'∨S W')) a.defers .returning w:=by
  intro a w hd hJ
  rw [hd]
  exact ⟨.tuple #[],by simp [results,Tryz.f92,go_sem],⟨_,rfl⟩,hJ⟩
 obtain ⟨tm,htm⟩:∃ tm:Array Value,tm=(#[yv]++#[lb])++Array.replicate (Tryz.f92.ntmps - (#[yv]++#[lb]).size) undef:=⟨_,rfl⟩
 have hnt:Tryz.f92.ntmps=31:=by rfl
 have hs0:tm.size=(cf [] 31).nt:=by rw [htm,show (cf [] 31).nt=31 from rfl];simp [hnt]
 have ht0:tm[0]?=some yv:=by rw [htm];exact (Array.getElem?_append_left (by simp)).trans rfl
 have ht1:tm[1]?=some lb:=by rw [htm];exact (Array.getElem?_append_left (by simp)).trans rfl
 show (Code.seq (.seq (sq1 (sq1 (bodyOf Tryz.f92))) (sq2 (sq1 (bodyOf Tryz.f92)))) (.seq (sq1 (sq2 (bodyOf Tryz.f92))) (sq2 (sq2 (bodyOf Tryz.f92))))).wpIn _ _ _ _ _ _
 rw [← htm]
 refine wpIn_seq (wpIn_seq ?_)
 refine yhead (P:=Tryz.prog) (pre:=(opsOf (sq1 (sq1 (bodyOf Tryz.f92)))).take 2) (rest:=(opsOf (sq1 (sq1 (bodyOf Tryz.f92)))).drop 2) (tl:=8) (tn:=9) (ti:=10) (vs:=z1) (s:=s1) (X:=.agg [.pv v0,.pv v1,.pv s1,.pv v3,.pv s2]) (own:=own) (w0:=w0) kk hF (by rfl) hyc (by decide)
  ⟨[],[(1,.f (.pv yv)),(4,.fp (.agg [.pv v0,.pv v1,.pv s1,.pv v3,.pv s2]) 0),(22,.fp (.agg [.pv v0,.pv v1,.pv s1,.pv v3,.pv s2]) 2),(25,.f (.pv s1))],by kernel_rfl,by rfl⟩
  ⟨[],[(25,.f (.sl (z1.map .pv))),(28,vi ((z1.map FV.pv).length:Int)),(31,vi 0)],by kernel_rfl,by rw [List.length_map];rfl,by rfl⟩ (by rfl) (by rfl) hlt0 hX hr1 (a:={ tmps:=tm,defers:=[] }) hs0 ht0 ht1 rfl hku ?_
 intro a1 w1 y0 y1 y2 y3 y4 y5 yd yg yk
 show (sq2 (sq1 (bodyOf Tryz.f92))).wpIn _ _ _ _ _ _
 refine yloop (P:=Tryz.prog) (t1:=1) (tl:=8) (tn:=9) (ti:=10) (tc:=11) (te:=4) (ty:=14) (tx:=15) (to_:=16) (tq:=17) (yv:=yv) (s:=s1) (vs:=z1) (own:=own) (w0:=w0) (lp:=lp) (J:=J) (S:=S) (ok:=okAr own w0 (fun i=>[zg ((A.Follow++A.Starts).getD i [])])) (M:=A.Follow.length+A.Starts.length) (k0:=0)
  kk hF (by decide) (by rfl) hyc (by omega) (by rfl) (by rfl) (by rfl) (by rfl) (pre:=(opsOf (sq1 (sq2 (sq1 (sq1 (sq2 (sq2 (sq1 (sq1 (sq2 (sq1 (bodyOf Tryz.f92)))))))))))).take 2) (by rfl) (by rfl) (by rfl) (by rfl) (by decide)
  (fun i=>⟨[],[(1,.f (.pv yv)),(25,.f (.sl (z1.map .pv))),(28,vi z1.length),(31,vi i),(34,vB (decide ((i:Int) < (z1.length:Int))))],by kernel_rfl,by rfl⟩)
  (fun i v=>⟨[],[(1,.f (.pv yv)),(13,.f (.pv v)),(25,.f (.sl (z1.map .pv))),(28,vi z1.length),(31,vi i),(37,.fp (.pv v) 0),(40,.f (.pv v))],by kernel_rfl,by rfl⟩)
  (fun v=>⟨[],[(1,.f (.pv yv)),(13,.f (.pv v)),(43,.f (.pv yv)),(46,.f (.pv v))],by kernel_rfl,by rfl,by rfl⟩)
  (fun b=>⟨[],[(49,vB b),(52,vB (!b))],by kernel_rfl,by rfl⟩)
  (fun i=>⟨[],[(1,.f (.pv yv)),(25,.f (.sl (z1.map .pv))),(28,vi z1.length),(31,vi (w64 ((i:Int)+1))),(55,vi (w64 ((i:Int)+1)))],by kernel_rfl,by rfl⟩)
  (by decide) hlt0 hyv hst hss hyield (by omega) ok1 hr1 y0 y1 y3 y4 y5 yd (hst _ _ _ hJ yg) yk ?_ (fun a' W' h1 h2=>hpost a' W' h1 (.inr h2))
 intro a2 w2 x0 x1 x2 xd xJ xk
 show (Code.seq _ _).wpIn _ _ _ _ _ _
 refine wpIn_seq ?_
 refine yhead (P:=Tryz.prog) (pre:=(opsOf (sq1 (sq2 (bodyOf Tryz.f92)))).take 2) (rest:=(opsOf (sq1 (sq2 (bodyOf Tryz.f92)))).drop 2) (tl:=20) (tn:=21) (ti:=22) (vs:=z2) (s:=s2) (X:=.agg [.pv v0,.pv v1,.pv s1,.pv v3,.pv s2]) (own:=own) (w0:=w0) kk hF (by rfl) hyc (by decide)
  ⟨[],[(1,.f (.pv yv)),(4,.fp (.agg [.pv v0,.pv v1,.pv s1,.pv v3,.pv s2]) 0),(58,.fp (.agg [.pv v0,.pv v1,.pv s1,.pv v3,.pv s2]) 4),(61,.f (.pv s2))],by kernel_rfl,by rfl⟩
  ⟨[],[(61,.f (.sl (z2.map .pv))),(64,vi ((z2.map FV.pv).length:Int)),(67,vi 0)],by kernel_rfl,by rw [List.length_map];rfl,by rfl⟩ (by rfl) (by rfl) hlt0 hX hr2 x0 x1 (x2.trans y2) xd xk ?_
 intro a3 w3 u0 u1 u2 u3 u4 u5 ud ug uk
 show (sq2 (sq2 (bodyOf Tryz.f92))).wpIn _ _ _ _ _ _
 refine yloop (P:=Tryz.prog) (t1:=1) (tl:=20) (tn:=21) (ti:=22) (tc:=23) (te:=6) (ty:=26) (tx:=27) (to_:=28) (tq:=29) (yv:=yv) (s:=s2) (vs:=z2) (own:=own) (w0:=w0) (lp:=lp) (J:=J) (S:=S) (ok:=okAr own w0 (fun i=>[zg ((A.Follow++A.Starts).getD i [])])) (M:=A.Follow.length+A.Starts.length) (k0:=A.Follow.length)
  kk hF (by decide) (by rfl) hyc (by omega) (by rfl) (by rfl) (by rfl) (by rfl) (pre:=(opsOf (sq1 (sq2 (sq1 (sq1 (sq2 (sq2 (sq1 (sq1 (sq2 (sq2 (bodyOf Tryz.f92)))))))))))).take 2) (by rfl) (by rfl) (by rfl) (by rfl) (by decide)
  (fun i=>⟨[],[(1,.f (.pv yv)),(61,.f (.sl (z2.map .pv))),(64,vi z2.length),(67,vi i),(70,vB (decide ((i:Int) < (z2.length:Int))))],by kernel_rfl,by rfl⟩)
  (fun i v=>⟨[],[(1,.f (.pv yv)),(19,.f (.pv v)),(61,.f (.sl (z2.map .pv))),(64,vi z2.length),(67,vi i),(73,.fp (.pv v) 0),(76,.f (.pv v))],by kernel_rfl,by rfl⟩)
  (fun v=>⟨[],[(1,.f (.pv yv)),(19,.f (.pv v)),(79,.f (.pv yv)),(82,.f (.pv v))],by kernel_rfl,by rfl,by rfl⟩)
  (fun b=>⟨[],[(85,vB b),(88,vB (!b))],by kernel_rfl,by rfl⟩)
  (fun i=>⟨[],[(1,.f (.pv yv)),(61,.f (.sl (z2.map .pv))),(64,vi z2.length),(67,vi (w64 ((i:Int)+1))),(91,vi (w64 ((i:Int)+1)))],by kernel_rfl,by rfl⟩)
  (by decide) hlt0 hyv hst hss hyield (by omega) ok2 hr2 u0 u1 u3 u4 u5 ud (hst _ _ _ (by rw [Nat.zero_add,hn1] at xJ;exact xJ) ug) uk ?_ (fun a' W' h1 h2=>hpost a' W' h1 (.inr h2))
 intro a4 w4 _ _ _ xd4 xJ4 _
 exact hpost a4 w4 xd4 (.inl (by rw [hn2] at xJ4;exact xJ4))
theorem auto_lists_ok (A:zh):CallE Tryz.prog 54 [.agg [.f (fL ze A.Sets),.f (fL zf A.Owner),.f (fL zg A.Follow),.f (fL zr A.Ends),.f (fL zg A.Starts)]] [] (.clo 92 [.fp (zbj A) 0]) []:=by
 refine zd2 (x:=bodyOf Tryz.f54) (cfOk [] 4) Tryz.func54 (by rfl) (by rfl) (by rfl) (Nat.le_of_ble_eq_true rfl) (by rfl) (by rfl) (Nat.le_of_ble_eq_true rfl) ?_
 refine wkS [1] [(1,.agg [.f (fL ze A.Sets),.f (fL zf A.Owner),.f (fL zg A.Follow),.f (fL zr A.Ends),.f (fL zg A.Starts)])] (by kernel_rfl) ?_
 refine sR (cfOk [] 4) [] [4,8] [(4,.ptr 8 0),(8,.agg [.f (fL ze A.Sets),.f (fL zf A.Owner),.f (fL zg A.Follow),.f (fL zr A.Ends),.f (fL zg A.Starts)])] (obs:=[]) (by kernel_rfl) (by kernel_rfl) obN ?_
 refine sR (cfOk [] 4) [] [7,8] [(7,.clo 92 [.ptr 8 0]),(8,.agg [.f (fL ze A.Sets),.f (fL zf A.Owner),.f (fL zg A.Follow),.f (fL zr A.Ends),.f (fL zg A.Starts)])] (obs:=[]) (by kernel_rfl) (by kernel_rfl) obN ?_
 refine Sem.ret' (by kernel_rfl) Wk.refl ?_
 refine ⟨_,Wk.fpz (b:=8) (x:=zbj A) (by rfl) (by rfl) (by rfl),?_⟩
 exact (zcw (x:=.clo 92 [.fp (zbj A) 0]) (l:=[]) (by kernel_rfl) ⟨rfl,rfl⟩).1
def C_auto_lists (A:zh):Prop:=CallE Tryz.prog 54 [.agg [.f (fL ze A.Sets),.f (fL zf A.Owner),.f (fL zg A.Follow),.f (fL zr A.Ends),.f (fL zg A.Starts)]] [] (.clo 92 [.fp (zbj A) 0]) []
theorem lists_it2 (A:zh) (h:A.Follow.length < 1099511627776∧A.Starts.length < 1099511627776):ItOk Tryz.prog 92 (.fp (zbj A) 0) (A.Follow.length+A.Starts.length) (fun i=>[zg ((A.Follow++A.Starts).getD i [])]):=
 lists_it A (by omega) (by omega)
end Go.Ev
namespace Go.Ev
open Go Go.Proofs
set_option maxRecDepth 8000
def zbO (r0:Bool):Prop:=CallE Tryz.prog 14 [] [] (vB r0) []
def zbE (a0:zt) (a1:Int) (r0:Bool):Prop:=CallE Tryz.prog 77 [za1 a0,vi a1] [] (vB r0) []
def zbJ (a0:zt) (a1:Int) (r0:Bool):Prop:=CallE Tryz.prog 78 [za1 a0,vi a1] [] (vB r0) []
def zcc (a0:zb) (r0:Bool):Prop:=CallE Tryz.prog 113 [zA a0] [] (vB r0) []
def zbu (a0:zl) (r0:Bool):Prop:=CallE Tryz.prog 140 [zR a0] [] (vB r0) []
def zbK (a0:zl) (r0:Bool):Prop:=CallE Tryz.prog 123 [zR a0] [] (vB r0) []
def za9 (a0:zb) (o0:zl) (o1:Int) (r0:Bool) (o0':zl) (o1':Int):Prop:=CallE Tryz.prog 122 [zA a0,.ptr 3 0,.ptr 6 0] [zR o0,vi o1] (vB r0) [zR o0',vi o1']
def zJ (a0:(List zb)) (o0:zl) (o1:Int) (r0:Int) (o0':zl) (o1':Int):Prop:=CallE Tryz.prog 141 [vL zn a0,.clo 122 [.ptr 3 0,.ptr 6 0]] [zR o0,vi o1] (vi r0) [zR o0',vi o1']
def zH (a0:(List zb)) (o0:zl) (o1:Int) (r0:Bool) (o0':zl) (o1':Int):Prop:=CallE Tryz.prog 124 [vL zn a0,.clo 122 [.ptr 3 0,.ptr 6 0]] [zR o0,vi o1] (vB r0) [zR o0',vi o1']
def zaD (a0:zl) (a1:Int) (r0:Bool):Prop:=CallE Tryz.prog 98 [zR a0,vi a1] [] (vB r0) []
def zc2 (a0:zb) (r0:Int):Prop:=CallE Tryz.prog 99 [zA a0] [] (vi r0) []
def zc1 (a0:zb) (a1:Int) (r0:Int):Prop:=CallE Tryz.prog 100 [zA a0,vi a1] [] (vi r0) []
def zcx (a0:zb) (r0:Bool):Prop:=CallE Tryz.prog 64 [zA a0] [] (vB r0) []
def zbn (a0:zt) (r0:Bool):Prop:=CallE Tryz.prog 79 [za1 a0] [] (vB r0) []
def zaq (a0:zb) (a1:Int) (r0:Int):Prop:=CallE Tryz.prog 38 [zA a0,vi a1] [] (vi r0) []
def zbH (a0:api_Spec) (a1:Int) (r0:Bool):Prop:=CallE Tryz.prog 13 [zK a0,vi a1] [] (vB r0) []
def zdm (a0:Int) (r0:Bool):Prop:=CallE Tryz.prog 111 [vI .u8 a0] [] (vB r0) []
def zdS (a0:Int) (r0:Bool):Prop:=CallE Tryz.prog 112 [vI .u8 a0] [] (vB r0) []
def zdn (a0:ByteArray) (r0:Bool):Prop:=CallE Tryz.prog 75 [vS a0] [] (vB r0) []
def zb3 (a0:zj) (o0:Int) (r0:Bool) (o0':Int):Prop:=CallE Tryz.prog 76 [zas a0,.ptr 3 0] [vi o0] (vB r0) [vi o0']
def zU (a0:(List zj)) (o0:Int) (r0:Int) (o0':Int):Prop:=CallE Tryz.prog 114 [vL zw a0,.clo 76 [.ptr 3 0]] [vi o0] (vi r0) [vi o0']
def zI (a0:(List zj)) (o0:Int) (r0:Bool) (o0':Int):Prop:=CallE Tryz.prog 80 [vL zw a0,.clo 76 [.ptr 3 0]] [vi o0] (vB r0) [vi o0']
def zbR (a0:api_Spec) (r0:Bool):Prop:=CallE Tryz.prog 41 [zK a0] [] (vB r0) []
def zbz (a1:zc) (o0:zk) (r0:zi) (o0':zk):Prop:=CallE Tryz.prog 143 [.ptr 3 0,zZ a1] [zy o0] (zD r0) [zy o0']
def zam (a0:(List (List Int))) (r0:(List Int)):Prop:=CallE Tryz.prog 94 [vL zg a0] [] (oL 3 zf r0) []
def zah (a0:(List Int)) (a1:(List Int)) (r0:(List Int)):Prop:=CallE Tryz.prog 82 [vL zf a0,vL zf a1] [] (vL zf r0) []
def zaX (a1:(List Int)) (a2:(List Int)) (o0:zk) (o0':zk):Prop:=CallE Tryz.prog 159 [.ptr 3 0,vL zf a1,vL zf a2] [zy o0] (.tup []) [zy o0']
def zaK (a1:zi) (a2:zi) (o0:zk) (r0:zi) (o0':zk):Prop:=CallE Tryz.prog 144 [.ptr 3 0,zD a1,zD a2] [zy o0] (zD r0) [zy o0']
def zav (a1:zb) (a2:Int) (o0:zk) (r0:(List zi)) (o0':zk):Prop:=CallE Tryz.prog 160 [.ptr 3 0,zA a1,vi a2] [zy o0] (oL 158 zx r0) [zy o0']
def zct (a0:zi) (r0:zi):Prop:=CallE Tryz.prog 162 [zD a0] [] (zD r0) []
def zbo (a1:zb) (o0:zk) (r0:zi) (o0':zk):Prop:=CallE Tryz.prog 145 [.ptr 3 0,zA a1] [zy o0] (zD r0) [zy o0']
def zao (a1:zb) (o0:zk) (r0:zi) (o0':zk):Prop:=CallE Tryz.prog 126 [.ptr 3 0,zA a1] [zy o0] (zD r0) [zy o0']
def zd4 (a0:zb) (r0:za) (r1:Int):Prop:=CallE Tryz.prog 102 [zA a0] [] (.tup [zq r0,vi r1]) []
def zbS (a0:(List Int)) (a1:Int) (r0:(List Int)):Prop:=CallE Tryz.prog 115 [vL zf a0,vi a1] [] (oL 3 zf r0) []
def zbb (a1:zb) (a2:Int) (o0:zm) (r0:(List Int)) (r1:(List Int)) (r2:Bool) (o0':zm):Prop:=CallE Tryz.prog 81 [.ptr 3 0,zA a1,vi a2] [zan o0] (.tup [vL zf r0,vL zf r1,vB r2]) [zan o0']
def zbq (a1:zj) (a2:Int) (o0:zm) (r0:(List Int)) (o0':zm):Prop:=CallE Tryz.prog 42 [.ptr 3 0,zas a1,vi a2] [zan o0] (vL zf r0) [zan o0']
def zaZ (a0:(List Int)) (a1:Int) (r0:Int):Prop:=CallE Tryz.prog 127 [vL zf a0,vi a1] [] (vi r0) []
def zaG (a0:(List Int)) (a1:Int) (r0:Bool):Prop:=CallE Tryz.prog 104 [vL zf a0,vi a1] [] (vB r0) []
def zcs (a0:api_Spec) (a1:Int) (a2:Int) (r0:Bool):Prop:=CallE Tryz.prog 83 [zK a0,vi a1,vi a2] [] (vB r0) []
def zcN (a0:api_Spec) (a1:(List (List Int))) (a2:Int) (a3:Bool) (r0:(List Int)):Prop:=CallE Tryz.prog 43 [zK a0,vL zg a1,vi a2,vB a3] [] (vL zf r0) []
def zci (a0:api_Spec) (r0:zh) (r1:Int):Prop:=CallE Tryz.prog 15 [zK a0] [] (.tup [zaC r0,vi r1]) []
def zbv (a0:ByteArray) (r0:Bool):Prop:=CallE Tryz.prog 84 [vS a0] [] (vB r0) []
def zaU (a0:zb) (r0:Bool):Prop:=CallE Tryz.prog 118 [zA a0] [] (vB r0) []
def zaN (a0:zb) (a1:Int) (r0:Bool):Prop:=CallE Tryz.prog 108 [zA a0,vi a1] [] (vB r0) []
def zba (a0:zb) (r0:Int):Prop:=CallE Tryz.prog 26 [zA a0] [] (vi r0) []
def zaO (a0:zb) (r0:Bool):Prop:=CallE Tryz.prog 71 [zA a0] [] (vB r0) []
def zaT (a0:zj) (a1:Int) (r0:Bool):Prop:=CallE Tryz.prog 85 [zas a0,vi a1] [] (vB r0) []
def zaM (a0:api_Spec) (r0:Bool):Prop:=CallE Tryz.prog 44 [zK a0] [] (vB r0) []
def zaL (r0:za):Prop:=CallE Tryz.prog 130 [] [] (zb1 r0) []
def zap (a0:(List Int)) (a1:Int) (r0:(List Int)):Prop:=CallE Tryz.prog 147 [vL zf a0,vi a1] [] (oL 3 zf r0) []
def zat (a0:za) (a1:za) (r0:za):Prop:=CallE Tryz.prog 146 [zq a0,zq a1] [] (.agg [vL ze (za.Sets r0),oL 3 zf (za.First r0),oL 3 zf (za.Last r0),oL 40 zg (za.Follow r0),vB (za.Null r0)]) []
def zC (a0:(List Int)) (a1:(List Int)) (r0:(List Int)):Prop:=CallE Tryz.prog 47 [vL zf a0,vL zf a1] [] (vL zf r0) []
def zT (a0:za) (a1:za) (r0:za):Prop:=CallE Tryz.prog 131 [zq a0,zq a1] [] (.agg [vL ze (za.Sets r0),vL zf (za.First r0),vL zf (za.Last r0),oL 40 zg (za.Follow r0),vB (za.Null r0)]) []
def zbG (a0:za) (a1:za) (r0:za):Prop:=CallE Tryz.prog 132 [zq a0,zq a1] [] (.agg [vL ze (za.Sets r0),vL zf (za.First r0),vL zf (za.Last r0),oL 40 zg (za.Follow r0),vB (za.Null r0)]) []
def zbp (a0:za) (r0:za):Prop:=CallE Tryz.prog 133 [zq a0] [] (.agg [vL ze (za.Sets r0),vL zf (za.First r0),vL zf (za.Last r0),oL 40 zg (za.Follow r0),vB (za.Null r0)]) []
def zae (a0:za) (r0:za):Prop:=CallE Tryz.prog 134 [zq a0] [] (zq r0) []
def zaE (a0:zb) (r0:za):Prop:=CallE Tryz.prog 109 [zA a0] [] (zq r0) []
def zbs (a0:zb) (r0:za) (r1:Int):Prop:=CallE Tryz.prog 73 [zA a0] [] (.tup [zq r0,vi r1]) []
def z6 (a0:(List Int)) (a1:Int) (r0:(List Int)):Prop:=CallE Tryz.prog 87 [vL zf a0,vi a1] [] (oL 3 zf r0) []
def zbe (a1:za) (a2:Int) (o0:zh) (o0':zh):Prop:=CallE Tryz.prog 86 [.ptr 3 0,zq a1,vi a2] [zbc o0] (.tup []) [zbc o0']
def zbF (a1:zj) (a2:Int) (o0:zh) (r0:(List Int)) (o0':zh):Prop:=CallE Tryz.prog 45 [.ptr 3 0,zas a1,vi a2] [zbc o0] (oL 3 zf r0) [zbc o0']
def zaY (a0:api_Spec) (a1:Int) (a2:Int) (r0:Bool):Prop:=CallE Tryz.prog 46 [zK a0,vi a1,vi a2] [] (vB r0) []
def za5 (a0:api_Spec) (r0:zh) (r1:Int):Prop:=CallE Tryz.prog 16 [zK a0] [] (.tup [zaC r0,vi r1]) []
def zaS (a0:(List Int)) (a1:(List Int)) (r0:Bool):Prop:=CallE Tryz.prog 88 [vL zf a0,vL zf a1] [] (vB r0) []
def zab (a0:za) (a1:za) (r0:Bool):Prop:=CallE Tryz.prog 48 [zq a0,zq a1] [] (vB r0) []
def zaR (a0:zh) (a1:zh) (r0:Bool):Prop:=CallE Tryz.prog 17 [zaC a0,zaC a1] [] (vB r0) []
def zcd (a0:zc) (a1:Int) (r0:zc):Prop:=CallE Tryz.prog 95 [zZ a0,vi a1] [] (zZ r0) []
def zcG (a0:Int) (r0:Bool):Prop:=CallE Tryz.prog 51 [vi a0] [] (vB r0) []
def zaJ (a0:(List zc)) (a1:zc) (r0:Int):Prop:=CallE Tryz.prog 91 [vL ze a0,zZ a1] [] (vi r0) []
def zai (a0:(List zc)) (a1:zc) (r0:Bool):Prop:=CallE Tryz.prog 53 [vL ze a0,zZ a1] [] (vB r0) []
def zcu (a0:(List Int)) (a1:Int) (r0:Bool):Prop:=CallE Tryz.prog 55 [vL zf a0,vi a1] [] (vB r0) []
def zac (a0:(List Int)) (r0:Int):Prop:=CallE Tryz.prog 90 [vL zf a0,.clo 51 []] [] (vi r0) []
def zS (a0:(List Int)) (r0:Bool):Prop:=CallE Tryz.prog 52 [vL zf a0,.clo 51 []] [] (vB r0) []
def zdT (a0:zh) (r0:Bool):Prop:=CallE Tryz.prog 19 [zaC a0] [] (vB r0) []
def zbA (a0:api_Spec) (r0:Bool):Prop:=CallE Tryz.prog 4 [zK a0] [] (vB r0) []
end Go.Ev
namespace Go.Ev
open Go Go.RowKit
variable {P : Program}
section
variable {c : Cfg} {G : Sta} {K : Ex → Sta → Prop} {x : Code}
end
end Go.Ev
namespace Go.Ev
open Go
theorem eft (b:Bool):b=true∨b=false:=Bool.eq_false_or_eq_true b
end Go.Ev
namespace Go.Ev
open Go Go.RowKit
variable {P : Program}
structure Ob where
 q:List Ora
 obs:List Prop
 pf:AllP obs
abbrev oN:Ob:=⟨[],[],trivial⟩
abbrev nd {p:Prop} (h:p) (o:Ob):Ob:=⟨o.q,p :: o.obs,obC h o.pf⟩
abbrev op (x:Ora) {p:Prop} (h:p) (o:Ob):Ob:=⟨x :: o.q,p :: o.obs,obC h o.pf⟩
abbrev el {l:List FV} {n:Nat} {x:FV} (h:l[n]?=some x) (o:Ob):Ob:=op (.e x) h o
abbrev ca {g:FuncId} {args outs outs':List AV} {r:AV} (h:CallE P g args outs r outs') (o:Ob):Ob:=op (.c r outs') h o
def gst {b v b' v':Bool} (h:b=v) (h':b'=v') (o:Ob):Nat→Ob
 | 1=>op (.b v) (show (b == true)=v by rw [h];cases v<;>rfl) o
 | 2=>op (.b (!v)) (show (b == false)=!v by rw [h];cases v<;>rfl) o
 | 3=>op (.b v) h o
 | 4=>op (.b v') (show (b' == true)=v' by rw [h'];cases v'<;>rfl) o
 | 5=>op (.b (!v')) (show (b' == false)=!v' by rw [h'];cases v'<;>rfl) o
 | 6=>op (.b v') h' o
 | 7=>op (.b true) (rfl:true=true) o
 | _=>op (.b false) (rfl:false=false) o
def gdg {b v b' v':Bool} (h:b=v) (h':b'=v'):Nat→Nat→Ob→Ob
 | 0,_,o=>o
 | f+1,n,o=>match Nat.beq n 0 with
   | true=>o
   | false=>gdg h h' f (n / 10) (gst h h' o (n % 10))
abbrev g2 {b v b' v':Bool} (h:b=v) (h':b'=v') (n:Nat) (o:Ob):Ob:=gdg h h' 64 n o
abbrev g1 {b v:Bool} (h:b=v) (n:Nat) (o:Ob):Ob:=gdg h h 64 n o
abbrev g0 (n:Nat) (o:Ob):Ob:=gdg (Eq.refl true) (Eq.refl true) 64 n o
abbrev apo {α:Type} (f:α→FV) (l:List α) {k s:Nat} (h:(l.length+k) * s≤2 ^ 47) (o:Ob):Ob:=
 nd (show 0=0∧(List.map f l).length=(List.map f l).length from ⟨rfl,rfl⟩) (nd (show ((List.map f l).length+k) * s≤2 ^ 47 by rw [List.length_map];exact h) (nd (rfl:true=true) o))
section
variable {c : Cfg} {G G' : Sta} {K : Ex → Sta → Prop} {x : Code}
theorem sO (hc:COk P c) (o:Ob) (dr:List Nat) (ch:Sta) (hk:Sem P c (sq2 x) (edt dr ch G) K) (e:x=.seq (sq1 x) (sq2 x):=by kernel_rfl)
 (h:evReg P c (sq1 x) o.q [] (keysOf (edt dr ch G)) G=some (o.obs,edt dr ch G):=by kernel_rfl):Sem P c x G K:=Sem.seqR hc e h o.pf hk
theorem rO (hc:COk P c) (o:Ob) (dr:List Nat) (ch:Sta) (hk:K .normal (edt dr ch G))
 (h:evReg P c x o.q [] (keysOf (edt dr ch G)) G=some (o.obs,edt dr ch G):=by kernel_rfl):Sem P c x G K:=Sem.region hc h o.pf hk
theorem cH (t:Nat) {b:Bool} {A B:Prop} (h:(b=true→A)∧(b=false→B)) (h1:b=true→A→Sem P c (sq1 x) G K) (h2:b=false→B→Sem P c (sq2 x) G K) (e:x=.cond (.tmp t) (sq1 x) (sq2 x):=by kernel_rfl)
 (hg:get G (tb t)=some (.f (.pv (.bool b))):=by kernel_rfl):Sem P c x G K:=Sem.cond' e hg (fun q=>h1 q (h.1 q)) fun q=>h2 q (h.2 q)
theorem endQ {nt:Nat} {rs:List ResultVar} {n:Nat} (fz:List (Nat×Nat)) {r:AV} {l:List AV} (h:evEnd P c rs n (Ev.frzs fz G)=some (r,l):=by kernel_rfl) :
 (∃ G',Wk P nt G G'∧endK (CallE P) c rs n (fun r' o'=>r'=r∧o'=l) .ret G')∧(∃ G',Wk P nt G G'∧endK (CallE P) c rs n (fun r' o'=>r'=r∧o'=l) .normal G'):=
 ⟨⟨_,Wk.frzs,(zcw h ⟨rfl,rfl⟩).1⟩,⟨_,Wk.frzs,(zcw h ⟨rfl,rfl⟩).2⟩⟩
theorem loE {σ:Type} (dr:List Nat) (ch:σ→Sta) (Inv:σ→Prop) (μ:σ→Nat) (s0:σ) (fz:List (Nat×Nat)) (hI:Inv s0)
 (step:∀ s,Inv s→Sem P c (sq1 x) (edt dr (ch s) G) (seqK K fun G'=>∃ s',Wk P c.nt G' (edt dr (ch s') G)∧Inv s'∧μ s' < μ s)) (e:x=.loop (sq1 x):=by kernel_rfl)
 (h0:Ev.tidy fz (keysOf (edt dr (ch s0) G)) G=edt dr (ch s0) G:=by kernel_rfl):Sem P c x G K:=Sem.loop' e (fun s=>edt dr (ch s) G) Inv μ s0 (Wk.eq h0) hI step
theorem sjE {σ:Type} (J:σ→Prop) (dr:List Nat) (ch:σ→Sta) (h2:∀ s,J s→Sem P c (sq2 x) (edt dr (ch s) G) K)
 (h1:Sem P c (sq1 x) G (seqK K fun G'=>∃ s,Wk P c.nt G' (edt dr (ch s) G)∧J s)) (e:x=.seq (sq1 x) (sq2 x):=by kernel_rfl):Sem P c x G K:=Sem.seqJ J (fun s=>edt dr (ch s) G) e h2 h1
end
end Go.Ev
namespace Go.Ev
open Go
section
variable {P : Program} {c : Cfg} {G : Sta} {K : Ex → Sta → Prop} {x : Code}
theorem sOE (hc:COk P c) (o:Ob) (dr:List Nat) (ch ch':Sta) (hk:Sem P c (sq2 x) (edt dr ch' G) K) (e':ch=ch':=by first | rfl | (simp only [nm,enq];done) | (simp only [n0];first | done | simp only [nm,enq])) (e:x=.seq (sq1 x) (sq2 x):=by kernel_rfl)
 (h:evReg P c (sq1 x) o.q [] (keysOf (edt dr ch G)) G=some (o.obs,edt dr ch G):=by kernel_rfl):Sem P c x G K:=by subst e';exact Sem.seqR hc e h o.pf hk
theorem rOE (hc:COk P c) (o:Ob) (dr:List Nat) (ch ch':Sta) (hk:K .normal (edt dr ch' G)) (e':ch=ch':=by first | rfl | (simp only [nm,enq];done) | (simp only [n0];first | done | simp only [nm,enq]))
 (h:evReg P c x o.q [] (keysOf (edt dr ch G)) G=some (o.obs,edt dr ch G):=by kernel_rfl):Sem P c x G K:=by subst e';exact Sem.region hc h o.pf hk
end
end Go.Ev
namespace Go.Ev
open Go Go.Proofs
set_option maxRecDepth 8000
set_option maxHeartbeats 1000000
theorem zfK (r0:zt) (conds:Int) (res:Bool)
 (h:(∃ (Inv14:Int→Prop) (mu15:Int→Nat),Inv14 0∧(∀ (t10:Int),Inv14 t10→(((decide (t10 < (↑(List.length (zt.Conds r0)):Int)))=true→((0:Int)≤t10)∧t10 < ↑(List.length (zt.Conds r0))∧((decide (gd (zt.Conds r0) t10 < (0:Int)))=false→((decide (gd (zt.Conds r0) t10≥conds))=false→((decide (t10 > (0:Int)))=true→((0:Int)≤w64 (t10 - 1)))))∧((decide (gd (zt.Conds r0) t10 < (0:Int)))=false→((decide (gd (zt.Conds r0) t10≥conds))=false→((decide (t10 > (0:Int)))=true→w64 (t10 - 1) < ↑(List.length (zt.Conds r0)))))∧(((decide (gd (zt.Conds r0) t10 < (0:Int)) || (decide (gd (zt.Conds r0) t10≥conds) || decide (t10 > (0:Int)) && decide (gd (zt.Conds r0) t10≤gd (zt.Conds r0) (w64 (t10 - 1)))))=true→(res=false))∧((decide (gd (zt.Conds r0) t10 < (0:Int)) || (decide (gd (zt.Conds r0) t10≥conds) || decide (t10 > (0:Int)) && decide (gd (zt.Conds r0) t10≤gd (zt.Conds r0) (w64 (t10 - 1)))))=false→(Inv14 (w64 (t10+1))∧mu15 (w64 (t10+1)) < mu15 t10))))∧((decide (t10 < (↑(List.length (zt.Conds r0)):Int)))=false→(res=(!zt.All r0 || (↑(List.length (zt.Conds r0)):Int) == 0))))))):zbE r0 conds res:=by
 unfold zbE;have kk:=cfOk [] 46;refine fD (x:=bodyOf Tryz.f77) kk Tryz.func77 ?_;refine wkS [1,4] [(1,za1 r0),(4,vi conds)] (by kernel_rfl) ?_;refine sO kk oN [1] [(7,.ptr 14 0),(14,za1 r0)] ?_;refine qD ?_;refine sOE kk oN [] [(25,vL zf (zt.Conds r0)),(28,vi ((↑(List.length (List.map zf (zt.Conds r0))):Int))),(31,vi 0)] [(25,vL zf (zt.Conds r0)),(28,vi ((↑(List.length (zt.Conds r0)):Int))),(31,vi 0)] ?_;refine bD (id:=0) ?_;obtain ⟨Inv14,mu15,h0Inv14,hInv14⟩:=h;refine loE [] (fun (q:Int)=>(fun (t10:Int)=>([(31,vi t10)]:Sta)) q) (fun (q:Int)=>Inv14 q) (fun (q:Int)=>mu15 q) 0 [] h0Inv14 ?_;rintro t10 hi;have h:=hInv14 t10 hi;refine sO kk oN [] [(34,vB (decide (t10 < (↑(List.length (zt.Conds r0)):Int))))] ?_;refine qD ?_;refine cH 11 h (fun hb16 h=>?_) (fun hb16 h=>?_)
 ·refine kD ?_;show Sem _ _ _ _ _;refine wkD [34] ?_;refine qD ?_;refine bD (id:=1) ?_;obtain ⟨h17,h⟩:=h;obtain ⟨h18,h⟩:=h;refine sO kk (nd h17 (el (zF zf (zt.Conds r0) t10 _ rfl h17 h18) oN)) [] [(16,vi t10),(19,vi (gd (zt.Conds r0) t10))] ?_;obtain ⟨h22,h23,h⟩:=h;refine sM [16,19] [(106,vB (decide (gd (zt.Conds r0) t10 < (0:Int)) || (decide (gd (zt.Conds r0) t10≥conds) || decide (t10 > (0:Int)) && decide (gd (zt.Conds r0) t10≤gd (zt.Conds r0) (w64 (t10 - 1))))))] ?_ (fun hk0=>?_)
  ·refine cH 35 h (fun hb24 h=>?_) (fun hb24 h=>?_)
   ·refine sO kk oN [4,7,14,25,28,31,106] [(13,vB false)] ?_;refine tD ?_;subst h;exact (endQ []).1
   ·refine kD ?_;show Sem _ _ _ _ _;refine wkD [106] ?_;refine rO kk oN [] [(31,vi (w64 (t10+1)))] ?_;exact lD (w64 (t10+1)) [] h
  ·rcases eft (decide (gd (zt.Conds r0) t10 < (0:Int))) with hb19 | hb19
   ·refine sO kk (g1 hb19 222388887 oN) [16,19] [(106,vB true)] ?_;exact Sem.cast (by try rw [hb19];kernel_rfl) hk0
   ·rcases eft (decide (gd (zt.Conds r0) t10≥conds)) with hb20 | hb20
    ·refine sO kk (g2 hb20 hb19 555622223 oN) [16,19] [(106,vB true)] ?_;exact Sem.cast (by try rw [hb19];try rw [hb20];kernel_rfl) hk0
    ·rcases eft (decide (t10 > (0:Int))) with hb21 | hb21
     ·refine sO kk (g1 hb19 2223 (g2 hb21 hb20 555111111 (nd (((h22 hb19) hb20) hb21) (el (zF zf (zt.Conds r0) (w64 (t10 - 1)) _ rfl (((h22 hb19) hb20) hb21) (((h23 hb19) hb20) hb21)) (g2 hb20 hb21 44263 oN))))) [16,19] [(106,vB (decide (gd (zt.Conds r0) t10≤gd (zt.Conds r0) (w64 (t10 - 1)))))] ?_;exact Sem.cast (by try rw [hb19];try rw [hb20];try rw [hb21];kernel_rfl) hk0
     ·refine sO kk (g1 hb19 2223 (g2 hb20 hb21 22244444444263 oN)) [16,19] [(106,vB false)] ?_;exact Sem.cast (by try rw [hb19];try rw [hb20];try rw [hb21];kernel_rfl) hk0
 ·refine xD (i:=0) ?_;show Sem _ _ _ _ _;refine wkD [4,25,28,31,34] ?_;refine sM [7,14] [(13,vB (!zt.All r0 || (↑(List.length (zt.Conds r0)):Int) == 0))] ?_ (fun hk0=>?_)
  ·refine tD ?_;subst h;exact (endQ []).1
  ·rcases eft (!zt.All r0) with hb25 | hb25
   ·refine sO kk (g1 hb25 22223 oN) [7,14] [(13,vB true)] ?_;exact Sem.cast (by try rw [hb25];kernel_rfl) hk0
   ·refine sOE kk (g1 hb25 22223 oN) [7,14] [(13,vB ((↑(List.length (List.map zf (zt.Conds r0))):Int) == 0))] [(13,vB ((↑(List.length (zt.Conds r0)):Int) == 0))] ?_;exact Sem.cast (by try rw [hb25];kernel_rfl) hk0
theorem zgi (r0:zt) (conds:Int) (res:Bool)
 (h:(((zt.Act r0 == (3:Int))=true→(res=(decide (zt.To r0≥(0:Int)) && decide (zt.To r0 < conds))))∧((zt.Act r0 == (3:Int))=false→(res=(bif zt.Act r0 == 1 then zt.To r0 == 0 else zt.Act r0 == (2:Int) && zt.To r0 == 0))))):zbJ r0 conds res:=by
 unfold zbJ;have kk:=cfOk [] 30;refine fD (x:=bodyOf Tryz.f78) kk Tryz.func78 ?_;refine wkS [1,4] [(1,za1 r0),(4,vi conds)] (by kernel_rfl) ?_;refine sO kk oN [1] [(7,.ptr 14 0),(14,za1 r0)] ?_;refine qD ?_;refine sO kk oN [] [(22,vB (zt.Act r0 == (3:Int)))] ?_;refine cH 7 h (fun hb0 h=>?_) (fun hb0 h=>?_)
 ·refine sM [4,7,14,22] [(13,vB (decide (zt.To r0≥(0:Int)) && decide (zt.To r0 < conds)))] ?_ (fun hk0=>?_)
  ·refine tD ?_;subst h;exact (endQ []).1
  ·rcases eft (decide (zt.To r0≥(0:Int))) with hb1 | hb1
   ·refine sO kk (g1 hb1 11113 oN) [4,7,14,22] [(13,vB (decide (zt.To r0 < conds)))] ?_;exact Sem.cast (by try rw [hb1];kernel_rfl) hk0
   ·refine sO kk (g1 hb1 11113 oN) [4,7,14,22] [(13,vB false)] ?_;exact Sem.cast (by try rw [hb1];kernel_rfl) hk0
 ·refine kD ?_;show Sem _ _ _ _ _;refine wkD [4,22] ?_;refine sM [7,14] [(13,vB (bif zt.Act r0 == 1 then zt.To r0 == 0 else zt.Act r0 == (2:Int) && zt.To r0 == 0))] ?_ (fun hk0=>?_)
  ·refine tD ?_;subst h;exact (endQ []).1
  ·rcases eft (zt.Act r0 == 1) with hb2 | hb2
   ·refine sO kk (g1 hb2 22237777 oN) [7,14] [(13,vB (zt.To r0 == 0))] ?_;exact Sem.cast (by try rw [hb2];kernel_rfl) hk0
   ·rcases eft (zt.Act r0 == (2:Int)) with hb3 | hb3
    ·refine sO kk (g2 hb3 hb2 55561113 oN) [7,14] [(13,vB (zt.To r0 == 0))] ?_;exact Sem.cast (by try rw [hb2];try rw [hb3];kernel_rfl) hk0
    ·refine sO kk (g2 hb3 hb2 55561113 oN) [7,14] [(13,vB false)] ?_;exact Sem.cast (by try rw [hb2];try rw [hb3];kernel_rfl) hk0
theorem W_spec_none (x:zb) (res:Bool)
 (h:(res=(zb.Kind x == 0 && (zc.e0 (zb.Set x) == 0 && (zc.e1 (zb.Set x) == 0 && (zc.e2 (zb.Set x) == 0 && (zc.e3 (zb.Set x) == 0 && true))) && (zb.Lo x == 0 && (zb.Hi x == 0 && (↑(List.length (zb.Kids x)):Int) == 0)))))):zcc x res:=by
 unfold zcc;have kk:=cfOk [] 28;refine fD (x:=bodyOf Tryz.f113) kk Tryz.func113 ?_;refine wkS [1] [(1,zA x)] (by kernel_rfl) ?_;refine sO kk oN [1] [(4,.ptr 8 0),(8,zA x)] ?_;refine sM [4,8] [(7,vB (zb.Kind x == 0 && (zc.e0 (zb.Set x) == 0 && (zc.e1 (zb.Set x) == 0 && (zc.e2 (zb.Set x) == 0 && (zc.e3 (zb.Set x) == 0 && true))) && (zb.Lo x == 0 && (zb.Hi x == 0 && (↑(List.length (zb.Kids x)):Int) == 0)))))] ?_ (fun hk0=>?_)
 ·refine tD ?_;subst h;exact (endQ []).1
 ·rcases eft (zb.Kind x == 0) with hb0 | hb0
  ·rcases eft (zc.e0 (zb.Set x) == 0 && (zc.e1 (zb.Set x) == 0 && (zc.e2 (zb.Set x) == 0 && (zc.e3 (zb.Set x) == 0 && true)))) with hb1 | hb1
   ·rcases eft (zb.Lo x == 0) with hb2 | hb2
    ·rcases eft (zb.Hi x == 0) with hb3 | hb3
     ·refine sOE kk (g2 hb1 hb0 444461113 (g2 hb3 hb2 444611113 oN)) [4,8] [(7,vB ((↑(List.length (List.map zn (zb.Kids x))):Int) == 0))] [(7,vB ((↑(List.length (zb.Kids x)):Int) == 0))] ?_;exact Sem.cast (by try rw [hb0];try rw [hb1];try rw [hb2];try rw [hb3];kernel_rfl) hk0
     ·refine sO kk (g2 hb1 hb0 444461113 (g2 hb3 hb2 444611113 oN)) [4,8] [(7,vB false)] ?_;exact Sem.cast (by try rw [hb0];try rw [hb1];try rw [hb2];try rw [hb3];kernel_rfl) hk0
    ·refine sO kk (g1 hb0 11113 (g2 hb2 hb1 4446111388888 oN)) [4,8] [(7,vB false)] ?_;exact Sem.cast (by try rw [hb0];try rw [hb1];try rw [hb2];kernel_rfl) hk0
   ·refine sO kk (g2 hb1 hb0 444461113888888888 oN) [4,8] [(7,vB false)] ?_;exact Sem.cast (by try rw [hb0];try rw [hb1];kernel_rfl) hk0
  ·refine sO kk (g1 hb0 111138888888888888 oN) [4,8] [(7,vB false)] ?_;exact Sem.cast (by try rw [hb0];kernel_rfl) hk0
theorem zfg (x:zl) (res:Bool)
 (h:(((decide (zl.Lo x < (0:Int)) || decide (zl.Lo x > (20:Int)))=true→(res=false))∧((decide (zl.Lo x < (0:Int)) || decide (zl.Lo x > (20:Int)))=false→(res=(zl.Hi x == (-1:Int) || decide (zl.Hi x≥if zl.Lo x > (1:Int) then zl.Lo x else (1:Int)) && decide (zl.Hi x≤(20:Int))))))):zbu x res:=by
 unfold zbu;have kk:=cfOk [] 27;refine fD (x:=bodyOf Tryz.f140) kk Tryz.func140 ?_;refine wkS [1] [(1,zR x)] (by kernel_rfl) ?_;refine sO kk oN [1] [(4,.ptr 8 0),(8,zR x)] ?_;refine qD ?_;refine sM [] [(31,vB (decide (zl.Lo x < (0:Int)) || decide (zl.Lo x > (20:Int))))] ?_ (fun hk0=>?_)
 ·refine cH 10 h (fun hb1 h=>?_) (fun hb1 h=>?_)
  ·refine sO kk oN [4,8,31] [(7,vB false)] ?_;refine tD ?_;subst h;exact (endQ []).1
  ·refine kD ?_;show Sem _ _ _ _ _;refine wkD [31] ?_;refine sM [4,8] [(7,vB (zl.Hi x == (-1:Int) || decide (zl.Hi x≥if true=true then if zl.Lo x > (1:Int) then zl.Lo x else (1:Int) else if zl.Lo x < (1:Int) then zl.Lo x else (1:Int)) && decide (zl.Hi x≤(20:Int))))] ?_ (fun hk0=>?_)
   ·refine tD ?_;subst h;exact (endQ []).1
   ·rcases eft (zl.Hi x == (-1:Int)) with hb2 | hb2
    ·refine sO kk (g1 hb2 222222223 oN) [4,8] [(7,vB true)] ?_;exact Sem.cast (by try rw [hb2];kernel_rfl) hk0
    ·rcases eft (decide (zl.Hi x≥if true=true then if zl.Lo x > (1:Int) then zl.Lo x else (1:Int) else if zl.Lo x < (1:Int) then zl.Lo x else (1:Int))) with hb3 | hb3
     ·refine sO kk (g2 hb2 hb3 2222222444263 oN) [4,8] [(7,vB (decide (zl.Hi x≤(20:Int))))] ?_;exact Sem.cast (by try rw [hb2];try rw [hb3];kernel_rfl) hk0
     ·refine sO kk (g2 hb2 hb3 2222222444263 oN) [4,8] [(7,vB false)] ?_;exact Sem.cast (by try rw [hb2];try rw [hb3];kernel_rfl) hk0
 ·rcases eft (decide (zl.Lo x < (0:Int))) with hb0 | hb0
  ·refine sO kk (g1 hb0 2223 oN) [] [(31,vB true)] ?_;exact Sem.cast (by try rw [hb0];kernel_rfl) hk0
  ·refine sO kk (g1 hb0 2223 oN) [] [(31,vB (decide (zl.Lo x > (20:Int))))] ?_;exact Sem.cast (by try rw [hb0];kernel_rfl) hk0
theorem zgj (x:zl) (res:Bool)
 (h:(∃ J12:Int→Prop,(∀ (many:Int),J12 many→(res=((!(zc.e0 (zl.Set x) == 0 && (zc.e1 (zl.Set x) == 0 && (zc.e2 (zl.Set x) == 0 && (zc.e3 (zl.Set x) == 0 && true))))) == (zl.Kind x == (2:Int)) && (zl.Lo x == 0 && (zl.Hi x == 0 && (decide (many≥(2:Int)) && (!decide (zl.Kind x < (3:Int)) || many == (2:Int))))))))∧(((zl.Kind x == (5:Int))=true→(((!!(zc.e0 (zl.Set x) == 0 && (zc.e1 (zl.Set x) == 0 && (zc.e2 (zl.Set x) == 0 && (zc.e3 (zl.Set x) == 0 && true)))))=true→((((↑(List.length (zl.Kids x)):Int) == 1)=true→(∃ r0_1:Bool,zbu x r0_1∧(res=r0_1)))∧(((↑(List.length (zl.Kids x)):Int) == 1)=false→(res=false))))∧((!!(zc.e0 (zl.Set x) == 0 && (zc.e1 (zl.Set x) == 0 && (zc.e2 (zl.Set x) == 0 && (zc.e3 (zl.Set x) == 0 && true)))))=false→(res=false))))∧((zl.Kind x == (5:Int))=false→(∃ J23:Bool→Prop,(∀ (t17_1:Bool),J23 t17_1→(((t17_1)=true→J12 (w64 ((↑(List.length (zl.Kids x)):Int)+2)))∧((t17_1)=false→(∃ J26:Bool→Prop,(∀ (t20_1:Bool),J26 t20_1→(((t20_1)=true→J12 ((↑(List.length (zl.Kids x)):Int)))∧((t20_1)=false→(res=false))))∧(((zl.Kind x == (3:Int))=true→J26 (zl.Kind x == (3:Int)))∧((zl.Kind x == (3:Int))=false→J26 (zl.Kind x == (4:Int))))))))∧(((zl.Kind x == 1)=true→J23 (zl.Kind x == 1))∧((zl.Kind x == 1)=false→J23 (zl.Kind x == (2:Int))))))))):zbK x res:=by
 unfold zbK;have kk:=cfOk [] 65;refine fD (x:=bodyOf Tryz.f123) kk Tryz.func123 ?_;refine wkS [1] [(1,zR x)] (by kernel_rfl) ?_;refine sO kk oN [1] [(4,.ptr 8 0),(8,zR x)] ?_;refine sOE kk oN [] [(10,vB (!(zc.e0 (zl.Set x) == 0 && (zc.e1 (zl.Set x) == 0 && (zc.e2 (zl.Set x) == 0 && (zc.e3 (zl.Set x) == 0 && true)))))),(13,vi ((↑(List.length (List.map zn (zl.Kids x))):Int)))] [(10,vB (!(zc.e0 (zl.Set x) == 0 && (zc.e1 (zl.Set x) == 0 && (zc.e2 (zl.Set x) == 0 && (zc.e3 (zl.Set x) == 0 && true)))))),(13,vi ((↑(List.length (zl.Kids x)):Int)))] ?_;refine qD ?_;refine sO kk oN [] [(43,vi (zl.Kind x))] ?_;refine bD (id:=0) ?_;obtain ⟨J12,hJ12,h⟩:=h;refine sjE (fun (q:Int)=>J12 q) [43] (fun (q:Int)=>(fun (many:Int)=>([(13,vi many)]:Sta)) q) ?_ ?_
 ·rintro many hj;have h:=hJ12 many hj;refine qD ?_;refine sO kk oN [] [(16,vB (decide (zl.Kind x < (3:Int))))] ?_;refine sM [4,8,10,13,16] [(7,vB ((!(zc.e0 (zl.Set x) == 0 && (zc.e1 (zl.Set x) == 0 && (zc.e2 (zl.Set x) == 0 && (zc.e3 (zl.Set x) == 0 && true))))) == (zl.Kind x == (2:Int)) && (zl.Lo x == 0 && (zl.Hi x == 0 && (decide (many≥(2:Int)) && (!decide (zl.Kind x < (3:Int)) || many == (2:Int)))))))] ?_ (fun hk0=>?_)
  ·refine tD ?_;subst h;exact (endQ []).1
  ·rcases eft ((!(zc.e0 (zl.Set x) == 0 && (zc.e1 (zl.Set x) == 0 && (zc.e2 (zl.Set x) == 0 && (zc.e3 (zl.Set x) == 0 && true))))) == (zl.Kind x == (2:Int))) with hb13 | hb13
   ·rcases eft (zl.Lo x == 0) with hb14 | hb14
    ·rcases eft (zl.Hi x == 0) with hb15 | hb15
     ·rcases eft (decide (many≥(2:Int))) with hb16 | hb16
      ·rcases eft (!decide (zl.Kind x < (3:Int))) with hb17 | hb17
       ·refine sO kk (g1 hb13 1113 (g2 hb15 hb14 4446113 (g2 hb16 hb17 11155163 oN))) [4,8,10,13,16] [(7,vB true)] ?_;exact Sem.cast (by try rw [hb13];try rw [hb14];try rw [hb15];try rw [hb16];try rw [hb17];kernel_rfl) hk0
       ·refine sO kk (g1 hb13 1113 (g2 hb15 hb14 4446113 (g2 hb16 hb17 11155163 oN))) [4,8,10,13,16] [(7,vB (many == (2:Int)))] ?_;exact Sem.cast (by try rw [hb13];try rw [hb14];try rw [hb15];try rw [hb16];try rw [hb17];kernel_rfl) hk0
      ·refine sO kk (g2 hb14 hb13 44461113 (g2 hb16 hb15 44611113 oN)) [4,8,10,13,16] [(7,vB false)] ?_;exact Sem.cast (by try rw [hb13];try rw [hb14];try rw [hb15];try rw [hb16];kernel_rfl) hk0
     ·refine sO kk (g1 hb13 1113 (g2 hb15 hb14 444611388888 oN)) [4,8,10,13,16] [(7,vB false)] ?_;exact Sem.cast (by try rw [hb13];try rw [hb14];try rw [hb15];kernel_rfl) hk0
    ·refine sO kk (g2 hb14 hb13 4446111388888888 oN) [4,8,10,13,16] [(7,vB false)] ?_;exact Sem.cast (by try rw [hb13];try rw [hb14];kernel_rfl) hk0
   ·refine sO kk (g1 hb13 1113888888888888 oN) [4,8,10,13,16] [(7,vB false)] ?_;exact Sem.cast (by try rw [hb13];kernel_rfl) hk0
 ·refine bD (id:=3) ?_;refine qD ?_;refine bD (id:=2) ?_;refine qD ?_;refine bD (id:=1) ?_;refine qD ?_;refine qD ?_;refine sO kk oN [] [(46,vB (zl.Kind x == (5:Int)))] ?_;refine cH 15 h (fun hb18 h=>?_) (fun hb18 h=>?_)
  ·refine xD (i:=1) ?_;show Sem _ _ _ _ _;refine wkD [43,46] ?_;refine qD ?_;rcases eft (!!(zc.e0 (zl.Set x) == 0 && (zc.e1 (zl.Set x) == 0 && (zc.e2 (zl.Set x) == 0 && (zc.e3 (zl.Set x) == 0 && true))))) with hb19 | hb19
   ·have h:=h.1 hb19;rcases eft ((↑(List.length (zl.Kids x)):Int) == 1) with hb20 | hb20
    ·have h:=h.1 hb20;obtain ⟨r0_1,hc21,h⟩:=h;refine sO kk (g2 hb20 hb19 44611 (ca hc21 (g1 hb20 3 oN))) [4,8,10,13] [(7,vB r0_1)] ?_;refine tD ?_;subst h;exact (endQ []).1
    ·have h:=h.2 hb20;refine sO kk (g2 hb20 hb19 446113 oN) [4,8,10,13] [(7,vB false)] ?_;refine tD ?_;subst h;exact (endQ []).1
   ·have h:=h.2 hb19;refine sO kk (g1 hb19 113888 oN) [4,8,10,13] [(7,vB false)] ?_;refine tD ?_;subst h;exact (endQ []).1
  ·refine kD ?_;show Sem _ _ _ _ _;refine wkD [46] ?_;refine qD ?_;obtain ⟨J23,hJ23,h⟩:=h;refine sjE (fun (q:Bool)=>J23 q) [] (fun (q:Bool)=>(fun (t17_1:Bool)=>([(52,vB t17_1)]:Sta)) q) ?_ ?_
   ·rintro t17_1 hj;have h:=hJ23 t17_1 hj;refine cH 17 h (fun hb24 h=>?_) (fun hb24 h=>?_)
    ·refine xD (i:=2) ?_;show Sem _ _ _ _ _;refine wkD [43,52] ?_;refine rO kk oN [] [(13,vi (w64 ((↑(List.length (zl.Kids x)):Int)+2)))] ?_;exact jD (w64 ((↑(List.length (zl.Kids x)):Int)+2)) [] h
    ·refine kD ?_;show Sem _ _ _ _ _;refine wkD [52] ?_;obtain ⟨J26,hJ26,h⟩:=h;refine sjE (fun (q:Bool)=>J26 q) [43] (fun (q:Bool)=>(fun (t20_1:Bool)=>([(61,vB t20_1)]:Sta)) q) ?_ ?_
     ·rintro t20_1 hj;have h:=hJ26 t20_1 hj;refine cH 20 h (fun hb27 h=>?_) (fun hb27 h=>?_)
      ·refine xD (i:=3) ?_;exact jD ((↑(List.length (zl.Kids x)):Int)) [] h
      ·refine kD ?_;show Sem _ _ _ _ _;refine wkD [4,8,10,13,61] ?_;refine xD (i:=0) ?_;show Sem _ _ _ _ _;refine sO kk oN [] [(7,vB false)] ?_;refine tD ?_;subst h;exact (endQ []).1
     ·refine sO kk oN [] [(61,vB (zl.Kind x == (3:Int)))] ?_;refine cH 20 h (fun hb28 h=>?_) (fun hb28 h=>?_)
      ·refine kD ?_;exact jD (zl.Kind x == (3:Int)) [] h
      ·refine rO kk oN [43] [(61,vB (zl.Kind x == (4:Int)))] ?_;exact jD (zl.Kind x == (4:Int)) [] h
   ·refine sO kk oN [] [(52,vB (zl.Kind x == 1))] ?_;refine cH 17 h (fun hb29 h=>?_) (fun hb29 h=>?_)
    ·refine kD ?_;exact jD (zl.Kind x == 1) [] h
    ·refine rO kk oN [] [(52,vB (zl.Kind x == (2:Int)))] ?_;exact jD (zl.Kind x == (2:Int)) [] h
theorem zdO (k:zb) (v:zl) (v_1:Int) (res:Bool) (fin:zl) (fin_1:Int)
 (h:(((zb.Kind k == zl.Kind v)=true→(((zl.Kind v != (5:Int))=true→(res=true∧fin=v∧fin_1=v_1))∧((zl.Kind v != (5:Int))=false→(∃ r0:Bool,zaD ({ Kind:=zb.Kind k,Set:=zb.Set k,Lo:=zb.Lo k,Hi:=zb.Hi k,Kids:=zb.Kids k }) (w64 (v_1 - 1)) r0∧(res=(!r0)∧fin=v∧fin_1=v_1)))))∧((zb.Kind k == zl.Kind v)=false→(∃ r0_1:Bool,zaD ({ Kind:=zb.Kind k,Set:=zb.Set k,Lo:=zb.Lo k,Hi:=zb.Hi k,Kids:=zb.Kids k }) (w64 (v_1 - 1)) r0_1∧(res=(!r0_1)∧fin=v∧fin_1=v_1))))):za9 k v v_1 res fin fin_1:=by
 unfold za9;have kk:=cfOk [] 22;refine fD (x:=bodyOf Tryz.f122) kk Tryz.func122 ?_;refine wkS [1,3,4,6,7] [(1,zA k),(3,zR v),(4,.ptr 3 0),(6,vi v_1),(7,.ptr 6 0)] (by kernel_rfl) ?_;refine sO kk oN [1] [(10,.ptr 20 0),(20,zA k)] ?_;rcases eft (zb.Kind k == zl.Kind v) with hb0 | hb0
 ·have h:=h.1 hb0;rcases eft (zl.Kind v != (5:Int)) with hb1 | hb1
  ·have h:=h.1 hb1;refine sO kk (g2 hb1 hb0 4446222223 oN) [4,7,10,20] [(13,vB true)] ?_;refine tD ?_;obtain ⟨he0,he1,he2⟩:=h;subst res fin fin_1;exact (endQ []).1
  ·have h:=h.2 hb1;obtain ⟨r0,hc2,h⟩:=h;refine sO kk (g2 hb1 hb0 44462222 (ca hc2 (g1 hb1 23 oN))) [4,7,10,20] [(13,vB (!r0))] ?_;refine tD ?_;obtain ⟨he0,he1,he2⟩:=h;subst res fin fin_1;exact (endQ []).1
 ·have h:=h.2 hb0;obtain ⟨r0_1,hc3,h⟩:=h;refine sO kk (g1 hb0 11137777 (ca hc3 (g0 78 oN))) [4,7,10,20] [(13,vB (!r0_1))] ?_;refine tD ?_;obtain ⟨he0,he1,he2⟩:=h;subst res fin fin_1;exact (endQ []).1
theorem zaf (s0:(List zb)) (cap:zl) (cap_1:Int) (res:Int) (fin:zl) (fin_1:Int)
 (h:(∃ (Inv9:Int→Int→Int→Int→Int→Int→Int→List zb→Int→Int→Prop) (mu10:Int→Int→Int→Int→Int→Int→Int→List zb→Int→Int→Nat),Inv9 (zl.Kind cap) (zc.e0 (zl.Set cap)) (zc.e1 (zl.Set cap)) (zc.e2 (zl.Set cap)) (zc.e3 (zl.Set cap)) (zl.Lo cap) (zl.Hi cap) (zl.Kids cap) cap_1 0∧(∀ (o0_Kind:Int) (o0_Set_e0:Int) (o0_Set_e1:Int) (o0_Set_e2:Int) (o0_Set_e3:Int) (o0_Lo:Int) (o0_Hi:Int) (o0_Kids:List zb) (o1:Int) (t8:Int),Inv9 o0_Kind o0_Set_e0 o0_Set_e1 o0_Set_e2 o0_Set_e3 o0_Lo o0_Hi o0_Kids o1 t8→(((decide (t8 < (↑(List.length s0):Int)))=true→((0:Int)≤t8)∧t8 < ↑(List.length s0)∧(∃ r0_2:Bool,∃ o_4:zl,∃ o_5:Int,za9 (gd s0 t8) ({ Kind:=o0_Kind,Set:={ e0:=o0_Set_e0,e1:=o0_Set_e1,e2:=o0_Set_e2,e3:=o0_Set_e3 },Lo:=o0_Lo,Hi:=o0_Hi,Kids:=o0_Kids }) o1 r0_2 o_4 o_5∧(((r0_2)=true→(res=t8∧fin=o_4∧fin_1=o_5))∧((r0_2)=false→(Inv9 (zl.Kind o_4) (zc.e0 (zl.Set o_4)) (zc.e1 (zl.Set o_4)) (zc.e2 (zl.Set o_4)) (zc.e3 (zl.Set o_4)) (zl.Lo o_4) (zl.Hi o_4) (zl.Kids o_4) o_5 (w64 (t8+1))∧mu10 (zl.Kind o_4) (zc.e0 (zl.Set o_4)) (zc.e1 (zl.Set o_4)) (zc.e2 (zl.Set o_4)) (zc.e3 (zl.Set o_4)) (zl.Lo o_4) (zl.Hi o_4) (zl.Kids o_4) o_5 (w64 (t8+1)) < mu10 o0_Kind o0_Set_e0 o0_Set_e1 o0_Set_e2 o0_Set_e3 o0_Lo o0_Hi o0_Kids o1 t8)))))∧((decide (t8 < (↑(List.length s0):Int)))=false→(res=(-1)∧fin=({ Kind:=o0_Kind,Set:={ e0:=o0_Set_e0,e1:=o0_Set_e1,e2:=o0_Set_e2,e3:=o0_Set_e3 },Lo:=o0_Lo,Hi:=o0_Hi,Kids:=o0_Kids })∧fin_1=o1)))))):zJ s0 cap cap_1 res fin fin_1:=by
 unfold zJ;have kk:=cfOk [17] 19;refine fD (x:=bodyOf Tryz.f141) kk Tryz.func141 ?_;refine wkS [1,3,4,6] [(1,vL zn s0),(3,zR cap),(4,.clo 122 [.ptr 3 0,.ptr 6 0]),(6,vi cap_1)] (by kernel_rfl) ?_;refine sO kk oN [] [] ?_;refine qD ?_;refine sOE kk oN [] [(22,vi ((↑(List.length (List.map zn s0)):Int))),(25,vi 0)] [(22,vi ((↑(List.length s0):Int))),(25,vi 0)] ?_;refine bD (id:=0) ?_;obtain ⟨Inv9,mu10,h0Inv9,hInv9⟩:=h;refine loE [] (fun (q:Int×Int×Int×Int×Int×Int×Int×List zb×Int×Int)=>(fun (o0_Kind:Int) (o0_Set_e0:Int) (o0_Set_e1:Int) (o0_Set_e2:Int) (o0_Set_e3:Int) (o0_Lo:Int) (o0_Hi:Int) (o0_Kids:List zb) (o1:Int) (t8:Int)=>([(3,.agg [vi o0_Kind,vI .u64 o0_Set_e0,vI .u64 o0_Set_e1,vI .u64 o0_Set_e2,vI .u64 o0_Set_e3,vi o0_Lo,vi o0_Hi,vL zn o0_Kids]),(6,vi o1),(25,vi t8)]:Sta)) q.1 q.2.1 q.2.2.1 q.2.2.2.1 q.2.2.2.2.1 q.2.2.2.2.2.1 q.2.2.2.2.2.2.1 q.2.2.2.2.2.2.2.1 q.2.2.2.2.2.2.2.2.1 q.2.2.2.2.2.2.2.2.2) (fun (q:Int×Int×Int×Int×Int×Int×Int×List zb×Int×Int)=>Inv9 q.1 q.2.1 q.2.2.1 q.2.2.2.1 q.2.2.2.2.1 q.2.2.2.2.2.1 q.2.2.2.2.2.2.1 q.2.2.2.2.2.2.2.1 q.2.2.2.2.2.2.2.2.1 q.2.2.2.2.2.2.2.2.2) (fun (q:Int×Int×Int×Int×Int×Int×Int×List zb×Int×Int)=>mu10 q.1 q.2.1 q.2.2.1 q.2.2.2.1 q.2.2.2.2.1 q.2.2.2.2.2.1 q.2.2.2.2.2.2.1 q.2.2.2.2.2.2.2.1 q.2.2.2.2.2.2.2.2.1 q.2.2.2.2.2.2.2.2.2) ((zl.Kind cap),(zc.e0 (zl.Set cap)),(zc.e1 (zl.Set cap)),(zc.e2 (zl.Set cap)),(zc.e3 (zl.Set cap)),(zl.Lo cap),(zl.Hi cap),(zl.Kids cap),cap_1,0) [] h0Inv9 ?_;rintro ⟨o0_Kind,o0_Set_e0,o0_Set_e1,o0_Set_e2,o0_Set_e3,o0_Lo,o0_Hi,o0_Kids,o1,t8⟩ hi;have h:=hInv9 o0_Kind o0_Set_e0 o0_Set_e1 o0_Set_e2 o0_Set_e3 o0_Lo o0_Hi o0_Kids o1 t8 hi;refine sO kk oN [] [(28,vB (decide (t8 < (↑(List.length s0):Int))))] ?_;refine qD ?_;refine cH 9 h (fun hb11 h=>?_) (fun hb11 h=>?_)
 ·refine kD ?_;show Sem _ _ _ _ _;refine wkD [28] ?_;refine qD ?_;refine bD (id:=1) ?_;refine sO kk oN [] [(16,vi t8)] ?_;obtain ⟨h12,h⟩:=h;obtain ⟨h13,h⟩:=h;obtain ⟨r0_2,o_4,o_5,hc14,h⟩:=h;refine sO kk (nd h12 (el (zF zn s0 t8 _ (zL _) h12 h13) (ca hc14 oN))) [] [(3,zR o_4),(6,vi o_5),(49,vB r0_2)] ?_;refine cH 16 h (fun hb15 h=>?_) (fun hb15 h=>?_)
  ·refine sO kk oN [1,4,16,22,25,49] [(13,vi t8)] ?_;refine tD ?_;obtain ⟨he0,he1,he2⟩:=h;subst res fin fin_1;exact (endQ []).1
  ·refine kD ?_;show Sem _ _ _ _ _;refine wkD [16,49] ?_;refine rO kk oN [] [(25,vi (w64 (t8+1)))] ?_;exact lD ((zl.Kind o_4),(zc.e0 (zl.Set o_4)),(zc.e1 (zl.Set o_4)),(zc.e2 (zl.Set o_4)),(zc.e3 (zl.Set o_4)),(zl.Lo o_4),(zl.Hi o_4),(zl.Kids o_4),o_5,(w64 (t8+1))) [] h
 ·refine xD (i:=0) ?_;show Sem _ _ _ _ _;refine wkD [1,4,22,25,28] ?_;refine sO kk oN [] [(13,vi (-1))] ?_;refine tD ?_;obtain ⟨he0,he1,he2⟩:=h;subst res fin fin_1;exact (endQ []).1
theorem zaI (s0:(List zb)) (cap:zl) (cap_1:Int) (res:Bool) (fin:zl) (fin_1:Int)
 (h:(∃ r0:Int,∃ o:zl,∃ o_1:Int,zJ s0 cap cap_1 r0 o o_1∧(res=(decide (r0≥(0:Int)))∧fin=o∧fin_1=o_1))):zH s0 cap cap_1 res fin fin_1:=by
 unfold zH;have kk:=cfOk [] 9;refine fD (x:=bodyOf Tryz.f124) kk Tryz.func124 ?_;refine wkS [1,3,4,6] [(1,vL zn s0),(3,zR cap),(4,.clo 122 [.ptr 3 0,.ptr 6 0]),(6,vi cap_1)] (by kernel_rfl) ?_;refine sO kk oN [] [] ?_;obtain ⟨r0,o,o_1,hc0,h⟩:=h;refine sO kk (ca hc0 oN) [1,4] [(3,zR o),(6,vi o_1),(13,vB (decide (r0≥(0:Int))))] ?_;refine tD ?_;obtain ⟨he0,he1,he2⟩:=h;subst res fin fin_1;exact (endQ []).1
theorem zfh (x:zl) (deep:Int) (res:Bool)
 (h:(((decide (deep > (0:Int)))=true→(∃ r0:Bool,zbK x r0∧(((r0)=true→(∃ r0_1:Bool,∃ o:zl,∃ o_1:Int,zH (zl.Kids x) x deep r0_1 o o_1∧(res=(!r0_1))))∧((r0)=false→(res=false)))))∧((decide (deep > (0:Int)))=false→(res=false)))):zaD x deep res:=by
 unfold zaD;have kk:=cfOk [] 20;refine fD (x:=bodyOf Tryz.f98) kk Tryz.func98 ?_;refine wkS [1,4] [(1,zR x),(4,vi deep)] (by kernel_rfl) ?_;refine sO kk oN [1,4] [(7,.ptr 14 0),(10,.ptr 20 0),(14,zR x),(20,vi deep)] ?_;refine sO kk oN [] [(16,.clo 122 [.ptr 14 0,.ptr 20 0])] ?_;rcases eft (decide (deep > (0:Int))) with hb0 | hb0
 ·have h:=h.1 hb0;obtain ⟨r0,hc1,h⟩:=h;rcases eft (r0) with hb2 | hb2
  ·have h:=h.1 hb2;obtain ⟨r0_1,o,o_1,hc3,h⟩:=h;refine sO kk (g1 hb0 11 (ca hc1 (g2 hb2 hb0 61111 (ca hc3 (g1 hb2 13 oN))))) [7,10,14,16,20] [(13,vB (!r0_1))] ?_;refine tD ?_;subst h;exact (endQ []).1
  ·have h:=h.2 hb2;refine sO kk (g1 hb0 11 (ca hc1 (g2 hb2 hb0 6111113 oN))) [7,10,14,16,20] [(13,vB false)] ?_;refine tD ?_;subst h;exact (endQ []).1
 ·have h:=h.2 hb0;refine sO kk (g1 hb0 113888888 oN) [7,10,14,16,20] [(13,vB false)] ?_;refine tD ?_;subst h;exact (endQ []).1
theorem W_rx_Size (x:zb) (res:Int)
 (h:(((zb.Kind x == (2:Int))=true→(res=1))∧((zb.Kind x == (2:Int))=false→(((decide (zb.Kind x < (3:Int)) || decide (zb.Kind x > (5:Int)))=true→(res=0))∧((decide (zb.Kind x < (3:Int)) || decide (zb.Kind x > (5:Int)))=false→(∃ (Inv10:Int→Int→Prop) (mu11:Int→Int→Nat),Inv10 0 0∧(∀ (n:Int) (t19:Int),Inv10 n t19→(((decide (t19 < (↑(List.length (zb.Kids x)):Int)))=true→((0:Int)≤t19)∧t19 < ↑(List.length (zb.Kids x))∧(∃ r0_2:Int,zc2 (gd (zb.Kids x) t19) r0_2∧(Inv10 (if false=true then if (1000000:Int) > w64 (n+r0_2) then (1000000:Int) else w64 (n+r0_2) else if (1000000:Int) < w64 (n+r0_2) then (1000000:Int) else w64 (n+r0_2)) (w64 (t19+1))∧mu11 (if false=true then if (1000000:Int) > w64 (n+r0_2) then (1000000:Int) else w64 (n+r0_2) else if (1000000:Int) < w64 (n+r0_2) then (1000000:Int) else w64 (n+r0_2)) (w64 (t19+1)) < mu11 n t19)))∧((decide (t19 < (↑(List.length (zb.Kids x)):Int)))=false→(∃ J17:Int→Prop,(∀ (n_1:Int),J17 n_1→(res=(if false=true then if (1000000:Int) > n_1 then (1000000:Int) else n_1 else if (1000000:Int) < n_1 then (1000000:Int) else n_1)))∧(((zb.Kind x == (5:Int))=true→J17 (w64 (n * if (if false=true then if (if zb.Hi x > zb.Lo x then zb.Hi x else zb.Lo x) > (1000:Int) then if zb.Hi x > zb.Lo x then zb.Hi x else zb.Lo x else (1000:Int) else if (if zb.Hi x > zb.Lo x then zb.Hi x else zb.Lo x) < (1000:Int) then if zb.Hi x > zb.Lo x then zb.Hi x else zb.Lo x else (1000:Int)) > (1:Int) then if false=true then if (if zb.Hi x > zb.Lo x then zb.Hi x else zb.Lo x) > (1000:Int) then if zb.Hi x > zb.Lo x then zb.Hi x else zb.Lo x else (1000:Int) else if (if zb.Hi x > zb.Lo x then zb.Hi x else zb.Lo x) < (1000:Int) then if zb.Hi x > zb.Lo x then zb.Hi x else zb.Lo x else (1000:Int) else (1:Int))))∧((zb.Kind x == (5:Int))=false→J17 n)))))))))))):zc2 x res:=by
 unfold zc2;have kk:=cfOk [] 43;refine fD (x:=bodyOf Tryz.f99) kk Tryz.func99 ?_;refine wkS [1] [(1,zA x)] (by kernel_rfl) ?_;refine sO kk oN [1] [(4,.ptr 8 0),(7,vi 0),(8,zA x)] ?_;refine qD ?_;refine sO kk oN [] [(22,vB (zb.Kind x == (2:Int)))] ?_;refine cH 7 h (fun hb0 h=>?_) (fun hb0 h=>?_)
 ·refine sO kk oN [4,8,22] [(7,vi 1)] ?_;refine tD ?_;subst h;exact (endQ []).1
 ·refine kD ?_;show Sem _ _ _ _ _;refine wkD [22] ?_;refine qD ?_;refine sM [] [(46,vB (decide (zb.Kind x < (3:Int)) || decide (zb.Kind x > (5:Int))))] ?_ (fun hk0=>?_)
  ·refine cH 15 h (fun hb2 h=>?_) (fun hb2 h=>?_)
   ·refine sO kk oN [4,8,46] [] ?_;refine tD ?_;subst h;exact (endQ []).1
   ·refine kD ?_;show Sem _ _ _ _ _;refine wkD [46] ?_;refine qD ?_;refine sOE kk oN [] [(52,vL zn (zb.Kids x)),(55,vi ((↑(List.length (List.map zn (zb.Kids x))):Int))),(58,vi 0)] [(52,vL zn (zb.Kids x)),(55,vi ((↑(List.length (zb.Kids x)):Int))),(58,vi 0)] ?_;refine bD (id:=0) ?_;obtain ⟨Inv10,mu11,h0Inv10,hInv10⟩:=h;refine loE [] (fun (q:Int×Int)=>(fun (n:Int) (t19:Int)=>([(7,vi n),(58,vi t19)]:Sta)) q.1 q.2) (fun (q:Int×Int)=>Inv10 q.1 q.2) (fun (q:Int×Int)=>mu11 q.1 q.2) (0,0) [] h0Inv10 ?_;rintro ⟨n,t19⟩ hi;have h:=hInv10 n t19 hi;refine sO kk oN [] [(61,vB (decide (t19 < (↑(List.length (zb.Kids x)):Int))))] ?_;refine qD ?_;refine cH 20 h (fun hb12 h=>?_) (fun hb12 h=>?_)
    ·refine kD ?_;show Sem _ _ _ _ _;refine wkD [61] ?_;refine qD ?_;refine bD (id:=1) ?_;obtain ⟨h13,h⟩:=h;obtain ⟨h14,h⟩:=h;refine sO kk (nd h13 (el (zF zn (zb.Kids x) t19 _ (zL _) h13 h14) oN)) [] [(13,.ptr 26 0),(26,zA (gd (zb.Kids x) t19))] ?_;obtain ⟨r0_2,hc15,h⟩:=h;refine rO kk (ca hc15 oN) [13,26] [(7,vi (if false=true then if (1000000:Int) > w64 (n+r0_2) then (1000000:Int) else w64 (n+r0_2) else if (1000000:Int) < w64 (n+r0_2) then (1000000:Int) else w64 (n+r0_2)))] ?_;show Sem _ _ _ _ _;refine rO kk oN [] [(58,vi (w64 (t19+1)))] ?_;exact lD ((if false=true then if (1000000:Int) > w64 (n+r0_2) then (1000000:Int) else w64 (n+r0_2) else if (1000000:Int) < w64 (n+r0_2) then (1000000:Int) else w64 (n+r0_2)),(w64 (t19+1))) [] h
    ·refine xD (i:=0) ?_;show Sem _ _ _ _ _;refine wkD [52,55,58,61] ?_;obtain ⟨J17,hJ17,h⟩:=h;refine sjD (fun (q:Int)=>J17 q) (fun (q:Int)=>(fun (n_1:Int)=>([(7,vi n_1)]:Sta)) q) ?_ ?_
     ·rintro n_1 hj;have h:=hJ17 n_1 hj;refine sO kk oN [] [(7,vi (if false=true then if (1000000:Int) > n_1 then (1000000:Int) else n_1 else if (1000000:Int) < n_1 then (1000000:Int) else n_1))] ?_;refine tD ?_;subst h;exact (endQ []).1
     ·refine sO kk oN [] [(94,vB (zb.Kind x == (5:Int)))] ?_;refine cH 31 h (fun hb18 h=>?_) (fun hb18 h=>?_)
      ·refine rOE kk oN [4,8,94] [(7,vi (w64 (n * if true=true then if (if false=true then if (if true=true then if zb.Hi x > zb.Lo x then zb.Hi x else zb.Lo x else if zb.Hi x < zb.Lo x then zb.Hi x else zb.Lo x) > (1000:Int) then if true=true then if zb.Hi x > zb.Lo x then zb.Hi x else zb.Lo x else if zb.Hi x < zb.Lo x then zb.Hi x else zb.Lo x else (1000:Int) else if (if true=true then if zb.Hi x > zb.Lo x then zb.Hi x else zb.Lo x else if zb.Hi x < zb.Lo x then zb.Hi x else zb.Lo x) < (1000:Int) then if true=true then if zb.Hi x > zb.Lo x then zb.Hi x else zb.Lo x else if zb.Hi x < zb.Lo x then zb.Hi x else zb.Lo x else (1000:Int)) > (1:Int) then if false=true then if (if true=true then if zb.Hi x > zb.Lo x then zb.Hi x else zb.Lo x else if zb.Hi x < zb.Lo x then zb.Hi x else zb.Lo x) > (1000:Int) then if true=true then if zb.Hi x > zb.Lo x then zb.Hi x else zb.Lo x else if zb.Hi x < zb.Lo x then zb.Hi x else zb.Lo x else (1000:Int) else if (if true=true then if zb.Hi x > zb.Lo x then zb.Hi x else zb.Lo x else if zb.Hi x < zb.Lo x then zb.Hi x else zb.Lo x) < (1000:Int) then if true=true then if zb.Hi x > zb.Lo x then zb.Hi x else zb.Lo x else if zb.Hi x < zb.Lo x then zb.Hi x else zb.Lo x else (1000:Int) else (1:Int) else if (if false=true then if (if true=true then if zb.Hi x > zb.Lo x then zb.Hi x else zb.Lo x else if zb.Hi x < zb.Lo x then zb.Hi x else zb.Lo x) > (1000:Int) then if true=true then if zb.Hi x > zb.Lo x then zb.Hi x else zb.Lo x else if zb.Hi x < zb.Lo x then zb.Hi x else zb.Lo x else (1000:Int) else if (if true=true then if zb.Hi x > zb.Lo x then zb.Hi x else zb.Lo x else if zb.Hi x < zb.Lo x then zb.Hi x else zb.Lo x) < (1000:Int) then if true=true then if zb.Hi x > zb.Lo x then zb.Hi x else zb.Lo x else if zb.Hi x < zb.Lo x then zb.Hi x else zb.Lo x else (1000:Int)) < (1:Int) then if false=true then if (if true=true then if zb.Hi x > zb.Lo x then zb.Hi x else zb.Lo x else if zb.Hi x < zb.Lo x then zb.Hi x else zb.Lo x) > (1000:Int) then if true=true then if zb.Hi x > zb.Lo x then zb.Hi x else zb.Lo x else if zb.Hi x < zb.Lo x then zb.Hi x else zb.Lo x else (1000:Int) else if (if true=true then if zb.Hi x > zb.Lo x then zb.Hi x else zb.Lo x else if zb.Hi x < zb.Lo x then zb.Hi x else zb.Lo x) < (1000:Int) then if true=true then if zb.Hi x > zb.Lo x then zb.Hi x else zb.Lo x else if zb.Hi x < zb.Lo x then zb.Hi x else zb.Lo x else (1000:Int) else (1:Int))))] [(7,vi (w64 (n * if (if false=true then if (if zb.Hi x > zb.Lo x then zb.Hi x else zb.Lo x) > (1000:Int) then if zb.Hi x > zb.Lo x then zb.Hi x else zb.Lo x else (1000:Int) else if (if zb.Hi x > zb.Lo x then zb.Hi x else zb.Lo x) < (1000:Int) then if zb.Hi x > zb.Lo x then zb.Hi x else zb.Lo x else (1000:Int)) > (1:Int) then if false=true then if (if zb.Hi x > zb.Lo x then zb.Hi x else zb.Lo x) > (1000:Int) then if zb.Hi x > zb.Lo x then zb.Hi x else zb.Lo x else (1000:Int) else if (if zb.Hi x > zb.Lo x then zb.Hi x else zb.Lo x) < (1000:Int) then if zb.Hi x > zb.Lo x then zb.Hi x else zb.Lo x else (1000:Int) else (1:Int))))] ?_;exact jD (w64 (n * if (if false=true then if (if zb.Hi x > zb.Lo x then zb.Hi x else zb.Lo x) > (1000:Int) then if zb.Hi x > zb.Lo x then zb.Hi x else zb.Lo x else (1000:Int) else if (if zb.Hi x > zb.Lo x then zb.Hi x else zb.Lo x) < (1000:Int) then if zb.Hi x > zb.Lo x then zb.Hi x else zb.Lo x else (1000:Int)) > (1:Int) then if false=true then if (if zb.Hi x > zb.Lo x then zb.Hi x else zb.Lo x) > (1000:Int) then if zb.Hi x > zb.Lo x then zb.Hi x else zb.Lo x else (1000:Int) else if (if zb.Hi x > zb.Lo x then zb.Hi x else zb.Lo x) < (1000:Int) then if zb.Hi x > zb.Lo x then zb.Hi x else zb.Lo x else (1000:Int) else (1:Int))) [] h
      ·refine kD ?_;exact jD n [] h
  ·rcases eft (decide (zb.Kind x < (3:Int))) with hb1 | hb1
   ·refine sO kk (g1 hb1 2223 oN) [] [(46,vB true)] ?_;exact Sem.cast (by try rw [hb1];kernel_rfl) hk0
   ·refine sO kk (g1 hb1 2223 oN) [] [(46,vB (decide (zb.Kind x > (5:Int))))] ?_;exact Sem.cast (by try rw [hb1];kernel_rfl) hk0
theorem W_rx_nodes (x:zb) (most:Int) (res:Int)
 (h:(∃ (Inv18:Int→Int→Prop) (mu19:Int→Int→Nat),Inv18 (w64 (most - 1)) 0∧(∀ (most_2:Int) (t12:Int),Inv18 most_2 t12→(((decide (t12 < (↑(List.length (zb.Kids x)):Int)))=true→(∃ J25:Int→Prop,(∀ (most_4:Int),J25 most_4→(Inv18 most_4 (w64 (t12+1))∧mu19 most_4 (w64 (t12+1)) < mu19 most_2 t12))∧((0:Int)≤t12)∧t12 < ↑(List.length (zb.Kids x))∧(((decide (most_2≥(0:Int)))=true→(∃ r0_5:Int,zc1 (gd (zb.Kids x) t12) most_2 r0_5∧J25 r0_5))∧((decide (most_2≥(0:Int)))=false→J25 most_2))))∧((decide (t12 < (↑(List.length (zb.Kids x)):Int)))=false→(res=most_2)))))):zc1 x most res:=by
 unfold zc1;have kk:=cfOk [22] 23;refine fD (x:=bodyOf Tryz.f100) kk Tryz.func100 ?_;refine wkS [1,4] [(1,zA x),(4,vi most)] (by kernel_rfl) ?_;refine sO kk oN [1] [(7,.ptr 14 0),(14,zA x)] ?_;refine sO kk oN [] [(4,vi (w64 (most - 1)))] ?_;refine qD ?_;refine sOE kk oN [7,14] [(31,vL zn (zb.Kids x)),(34,vi ((↑(List.length (List.map zn (zb.Kids x))):Int))),(37,vi 0)] [(31,vL zn (zb.Kids x)),(34,vi ((↑(List.length (zb.Kids x)):Int))),(37,vi 0)] ?_;refine bD (id:=0) ?_;obtain ⟨Inv18,mu19,h0Inv18,hInv18⟩:=h;refine loE [] (fun (q:Int×Int)=>(fun (most_2:Int) (t12:Int)=>([(4,vi most_2),(37,vi t12)]:Sta)) q.1 q.2) (fun (q:Int×Int)=>Inv18 q.1 q.2) (fun (q:Int×Int)=>mu19 q.1 q.2) ((w64 (most - 1)),0) [] h0Inv18 ?_;rintro ⟨most_2,t12⟩ hi;have h:=hInv18 most_2 t12 hi;refine sO kk oN [] [(40,vB (decide (t12 < (↑(List.length (zb.Kids x)):Int))))] ?_;refine qD ?_;refine cH 13 h (fun hb20 h=>?_) (fun hb20 h=>?_)
 ·refine kD ?_;show Sem _ _ _ _ _;refine wkD [40] ?_;obtain ⟨J25,hJ25,h⟩:=h;refine sjE (fun (q:Int)=>J25 q) [] (fun (q:Int)=>(fun (most_4:Int)=>([(4,vi most_4)]:Sta)) q) ?_ ?_
  ·rintro most_4 hj;have h:=hJ25 most_4 hj;refine rO kk oN [] [(37,vi (w64 (t12+1)))] ?_;exact lD (most_4,(w64 (t12+1))) [] h
  ·refine bD (id:=1) ?_;obtain ⟨h26,h⟩:=h;obtain ⟨h27,h⟩:=h;refine sO kk (nd h26 (el (zF zn (zb.Kids x) t12 _ (zL _) h26 h27) oN)) [] [(19,.ptr 38 0),(38,zA (gd (zb.Kids x) t12))] ?_;refine sO kk oN [] [(52,vB (decide (most_2≥(0:Int))))] ?_;refine cH 17 h (fun hb28 h=>?_) (fun hb28 h=>?_)
   ·obtain ⟨r0_5,hc29,h⟩:=h;refine rO kk (ca hc29 oN) [19,38,52] [(4,vi r0_5)] ?_;exact jD r0_5 [] h
   ·refine kD ?_;exact jD most_2 [] h
 ·refine xD (i:=0) ?_;show Sem _ _ _ _ _;refine wkD [31,34,37,40] ?_;refine sO kk oN [4] [(13,vi most_2)] ?_;refine tD ?_;subst h;exact (endQ []).1
theorem W_rx_Right (x:zb) (res:Bool)
 (h:(∃ r0:Bool,zaD ({ Kind:=zb.Kind x,Set:=zb.Set x,Lo:=zb.Lo x,Hi:=zb.Hi x,Kids:=zb.Kids x }) 20 r0∧(((r0)=true→(∃ r0_1:Int,zc2 x r0_1∧(((decide (r0_1≤(200:Int)))=true→(∃ r0_2:Int,zc1 x ((1000:Int)) r0_2∧(res=(decide (r0_2≥(0:Int))))))∧((decide (r0_1≤(200:Int)))=false→(res=false)))))∧((r0)=false→(res=false))))):zcx x res:=by
 unfold zcx;have kk:=cfOk [] 15;refine fD (x:=bodyOf Tryz.f64) kk Tryz.func64 ?_;refine wkS [1] [(1,zA x)] (by kernel_rfl) ?_;refine sO kk oN [1] [(4,.ptr 8 0),(8,zA x)] ?_;obtain ⟨r0,hc0,h⟩:=h;rcases eft (r0) with hb1 | hb1
 ·have h:=h.1 hb1;obtain ⟨r0_1,hc2,h⟩:=h;rcases eft (decide (r0_1≤(200:Int))) with hb3 | hb3
  ·have h:=h.1 hb3;obtain ⟨r0_2,hc4,h⟩:=h;refine sO kk (ca hc0 (g1 hb1 11 (ca hc2 (g2 hb3 hb1 4611 (ca hc4 (g1 hb3 13 oN)))))) [4,8] [(7,vB (decide (r0_2≥(0:Int))))] ?_;refine tD ?_;subst h;exact (endQ []).1
  ·have h:=h.2 hb3;refine sO kk (ca hc0 (g1 hb1 11 (ca hc2 (g2 hb3 hb1 461113 oN)))) [4,8] [(7,vB false)] ?_;refine tD ?_;subst h;exact (endQ []).1
 ·have h:=h.2 hb1;refine sO kk (ca hc0 (g1 hb1 11138888 oN)) [4,8] [(7,vB false)] ?_;refine tD ?_;subst h;exact (endQ []).1
end Go.Ev
namespace Go.Ev
open Go Go.Proofs
set_option maxRecDepth 8000
set_option maxHeartbeats 1000000
theorem zeA (r0:zt) (res:Bool)
 (h:(((zt.Eof r0)=true→(((!zt.Bol r0)=true→(∃ r0_1:Bool,zcc (zt.Rx r0) r0_1∧(((r0_1)=true→(∃ r0_2:Bool,zcc (zt.Trail r0) r0_2∧(res=r0_2)))∧((r0_1)=false→(res=false)))))∧((!zt.Bol r0)=false→(res=false))))∧((zt.Eof r0)=false→(∃ r0_3:Bool,zcx (zt.Rx r0) r0_3∧(((r0_3)=true→(∃ r0_4:Bool,zcc (zt.Trail r0) r0_4∧(((r0_4)=true→(res=true))∧((r0_4)=false→(∃ r0_5:Bool,zcx (zt.Trail r0) r0_5∧(res=r0_5))))))∧((r0_3)=false→(res=false))))))):zbn r0 res:=by
 unfold zbn;have kk:=cfOk [] 31;refine fD (x:=bodyOf Tryz.f79) kk Tryz.func79 ?_;refine wkS [1] [(1,za1 r0)] (by kernel_rfl) ?_;refine sO kk oN [1] [(4,.ptr 8 0),(8,za1 r0)] ?_;refine qD ?_;refine sO kk oN [] [(13,vB (zt.Eof r0))] ?_;refine cH 4 h (fun hb0 h=>?_) (fun hb0 h=>?_)
 ·rcases eft (!zt.Bol r0) with hb1 | hb1
  ·have h:=h.1 hb1;obtain ⟨r0_1,hc2,h⟩:=h;rcases eft (r0_1) with hb3 | hb3
   ·have h:=h.1 hb3;obtain ⟨r0_2,hc4,h⟩:=h;refine sO kk (g1 hb1 111 (ca hc2 (g2 hb3 hb1 6111 (ca hc4 (g1 hb3 3 oN))))) [4,8,13] [(7,vB r0_2)] ?_;refine tD ?_;subst h;exact (endQ []).1
   ·have h:=h.2 hb3;refine sO kk (g1 hb1 111 (ca hc2 (g2 hb3 hb1 61113 oN))) [4,8,13] [(7,vB false)] ?_;refine tD ?_;subst h;exact (endQ []).1
  ·have h:=h.2 hb1;refine sO kk (g1 hb1 11138888 oN) [4,8,13] [(7,vB false)] ?_;refine tD ?_;subst h;exact (endQ []).1
 ·refine kD ?_;show Sem _ _ _ _ _;refine wkD [13] ?_;obtain ⟨r0_3,hc5,h⟩:=h;rcases eft (r0_3) with hb6 | hb6
  ·have h:=h.1 hb6;obtain ⟨r0_4,hc7,h⟩:=h;rcases eft (r0_4) with hb8 | hb8
   ·have h:=h.1 hb8;refine sO kk (ca hc5 (g1 hb6 111 (ca hc7 (g2 hb6 hb8 1555163 oN)))) [4,8] [(7,vB true)] ?_;refine tD ?_;subst h;exact (endQ []).1
   ·have h:=h.2 hb8;obtain ⟨r0_5,hc9,h⟩:=h;refine sO kk (ca hc5 (g1 hb6 111 (ca hc7 (g2 hb8 hb6 4222 (ca hc9 (g2 hb6 hb8 163 oN)))))) [4,8] [(7,vB r0_5)] ?_;refine tD ?_;subst h;exact (endQ []).1
  ·have h:=h.2 hb6;refine sO kk (ca hc5 (g1 hb6 111113 oN)) [4,8] [(7,vB false)] ?_;refine tD ?_;subst h;exact (endQ []).1
theorem zeL (x:zb) (most:Int) (res:Int)
 (h:(∃ (Inv9:Int→Int→Prop) (mu10:Int→Int→Nat),Inv9 (w64 (most - 1)) 0∧(∀ (most_1:Int) (i:Int),Inv9 most_1 i→(((decide (i < (↑(List.length (List.map zn (zb.Kids x))):Int)) && decide (most_1≥(0:Int)))=true→((0:Int)≤i)∧i < ↑(List.length (zb.Kids x))∧(∃ r0_2:Int,zaq (gd (zb.Kids x) i) most_1 r0_2∧(Inv9 r0_2 (w64 (i+1))∧mu10 r0_2 (w64 (i+1)) < mu10 most_1 i)))∧((decide (i < (↑(List.length (List.map zn (zb.Kids x))):Int)) && decide (most_1≥(0:Int)))=false→(res=most_1)))))):zaq x most res:=by
 unfold zaq;have kk:=cfOk [26] 27;refine fD (x:=bodyOf Tryz.f38) kk Tryz.func38 ?_;refine wkS [1,4] [(1,zA x),(4,vi most)] (by kernel_rfl) ?_;refine sO kk oN [1] [(7,.ptr 14 0),(14,zA x)] ?_;refine sO kk oN [] [(4,vi (w64 (most - 1)))] ?_;refine qD ?_;refine sO kk oN [] [(16,vi 0)] ?_;refine bD (id:=0) ?_;obtain ⟨Inv9,mu10,h0Inv9,hInv9⟩:=h;refine loE [] (fun (q:Int×Int)=>(fun (most_1:Int) (i:Int)=>([(4,vi most_1),(16,vi i)]:Sta)) q.1 q.2) (fun (q:Int×Int)=>Inv9 q.1 q.2) (fun (q:Int×Int)=>mu10 q.1 q.2) ((w64 (most - 1)),0) [] h0Inv9 ?_;rintro ⟨most_1,i⟩ hi;have h:=hInv9 most_1 i hi;refine qD ?_;refine sM [] [(49,vB (decide (i < (↑(List.length (List.map zn (zb.Kids x))):Int)) && decide (most_1≥(0:Int))))] ?_ (fun hk0=>?_)
 ·refine cH 16 h (fun hb12 h=>?_) (fun hb12 h=>?_)
  ·refine kD ?_;show Sem _ _ _ _ _;refine wkD [49] ?_;refine qD ?_;refine bD (id:=1) ?_;obtain ⟨h13,h⟩:=h;obtain ⟨h14,h⟩:=h;obtain ⟨r0_2,hc15,h⟩:=h;refine rO kk (nd h13 (el (zF zn (zb.Kids x) i _ (zL _) h13 h14) (ca hc15 oN))) [] [(4,vi r0_2)] ?_;show Sem _ _ _ _ _;refine rO kk oN [] [(16,vi (w64 (i+1)))] ?_;exact lD (r0_2,(w64 (i+1))) [] h
  ·refine xD (i:=0) ?_;show Sem _ _ _ _ _;refine wkD [7,14,16,49] ?_;refine sO kk oN [4] [(13,vi most_1)] ?_;refine tD ?_;subst h;exact (endQ []).1
 ·rcases eft (decide (i < (↑(List.length (List.map zn (zb.Kids x))):Int))) with hb11 | hb11
  ·refine sO kk (g1 hb11 113 oN) [] [(49,vB (decide (most_1≥(0:Int))))] ?_;exact Sem.cast (by try rw [hb11];kernel_rfl) hk0
  ·refine sO kk (g1 hb11 113 oN) [] [(49,vB false)] ?_;exact Sem.cast (by try rw [hb11];kernel_rfl) hk0
theorem zfR (s0:api_Spec) (most:Int) (res:Bool)
 (h:(∃ (Inv17:Int→Int→Prop) (mu18:Int→Int→Nat),Inv17 (w64 ((↑(List.length (api_Spec.Conds s0)):Int)+(↑(List.length (api_Spec.Rules s0)):Int))) 0∧(∀ (n:Int) (i:Int),Inv17 n i→(((decide (i < (↑(List.length (List.map zw (api_Spec.Rules s0))):Int)) && decide (n < most))=true→((0:Int)≤i)∧i < ↑(List.length (api_Spec.Rules s0))∧((0:Int)≤i)∧i < ↑(List.length (api_Spec.Rules s0))∧(∃ r0_4:Int,zaq (zj.Rx (gd (api_Spec.Rules s0) i)) most r0_4∧((0:Int)≤i)∧i < ↑(List.length (api_Spec.Rules s0))∧(∃ r0_5:Int,zaq (zj.Trail (gd (api_Spec.Rules s0) i)) most r0_5∧(Inv17 (w64 (w64 (w64 (w64 (w64 (n+(↑(List.length (zj.Conds (gd (api_Spec.Rules s0) i))):Int))+most) - r0_4)+most) - r0_5)) (w64 (i+1))∧mu18 (w64 (w64 (w64 (w64 (w64 (n+(↑(List.length (zj.Conds (gd (api_Spec.Rules s0) i))):Int))+most) - r0_4)+most) - r0_5)) (w64 (i+1)) < mu18 n i))))∧((decide (i < (↑(List.length (List.map zw (api_Spec.Rules s0))):Int)) && decide (n < most))=false→(res=(decide (n < most)))))))):zbH s0 most res:=by
 unfold zbH;have kk:=cfOk [] 60;refine fD (x:=bodyOf Tryz.f13) kk Tryz.func13 ?_;refine wkS [1,4] [(1,zK s0),(4,vi most)] (by kernel_rfl) ?_;refine sO kk oN [1] [(7,.ptr 14 0),(14,zK s0)] ?_;refine sOE kk oN [] [(16,vi (w64 ((↑(List.length (List.map zu (api_Spec.Conds s0))):Int)+(↑(List.length (List.map zw (api_Spec.Rules s0))):Int))))] [(16,vi (w64 ((↑(List.length (api_Spec.Conds s0)):Int)+(↑(List.length (api_Spec.Rules s0)):Int))))] ?_;refine qD ?_;refine sO kk oN [] [(19,vi 0)] ?_;refine bD (id:=0) ?_;obtain ⟨Inv17,mu18,h0Inv17,hInv17⟩:=h;refine loE [] (fun (q:Int×Int)=>(fun (n:Int) (i:Int)=>([(16,vi n),(19,vi i)]:Sta)) q.1 q.2) (fun (q:Int×Int)=>Inv17 q.1 q.2) (fun (q:Int×Int)=>mu18 q.1 q.2) ((w64 ((↑(List.length (api_Spec.Conds s0)):Int)+(↑(List.length (api_Spec.Rules s0)):Int))),0) [] h0Inv17 ?_;rintro ⟨n,i⟩ hi;have h:=hInv17 n i hi;refine qD ?_;refine sM [] [(70,vB (decide (i < (↑(List.length (List.map zw (api_Spec.Rules s0))):Int)) && decide (n < most)))] ?_ (fun hk0=>?_)
 ·refine cH 23 h (fun hb20 h=>?_) (fun hb20 h=>?_)
  ·refine kD ?_;show Sem _ _ _ _ _;refine wkD [70] ?_;refine qD ?_;refine bD (id:=1) ?_;obtain ⟨h21,h⟩:=h;obtain ⟨h22,h⟩:=h;obtain ⟨h23,h⟩:=h;obtain ⟨h24,h⟩:=h;obtain ⟨r0_4,hc25,h⟩:=h;obtain ⟨h26,h⟩:=h;obtain ⟨h27,h⟩:=h;obtain ⟨r0_5,hc28,h⟩:=h;refine rOE kk (nd h21 (el (zF zw (api_Spec.Rules s0) i _ (z7 _) h21 h22) (nd h23 (el (zF zw (api_Spec.Rules s0) i _ (z7 _) h23 h24) (ca hc25 (nd h26 (el (zF zw (api_Spec.Rules s0) i _ (z7 _) h26 h27) (ca hc28 oN)))))))) [] [(16,vi (w64 (w64 (w64 (w64 (w64 (n+(↑(List.length (List.map zf (zj.Conds (gd (api_Spec.Rules s0) i)))):Int))+most) - r0_4)+most) - r0_5)))] [(16,vi (w64 (w64 (w64 (w64 (w64 (n+(↑(List.length (zj.Conds (gd (api_Spec.Rules s0) i))):Int))+most) - r0_4)+most) - r0_5)))] ?_;show Sem _ _ _ _ _;refine rO kk oN [] [(19,vi (w64 (i+1)))] ?_;exact lD ((w64 (w64 (w64 (w64 (w64 (n+(↑(List.length (zj.Conds (gd (api_Spec.Rules s0) i))):Int))+most) - r0_4)+most) - r0_5)),(w64 (i+1))) [] h
  ·refine xD (i:=0) ?_;show Sem _ _ _ _ _;refine wkD [7,14,19,70] ?_;refine sO kk oN [4,16] [(13,vB (decide (n < most)))] ?_;refine tD ?_;subst h;exact (endQ []).1
 ·rcases eft (decide (i < (↑(List.length (List.map zw (api_Spec.Rules s0))):Int))) with hb19 | hb19
  ·refine sO kk (g1 hb19 1113 oN) [] [(70,vB (decide (n < most)))] ?_;exact Sem.cast (by try rw [hb19];kernel_rfl) hk0
  ·refine sO kk (g1 hb19 1113 oN) [] [(70,vB false)] ?_;exact Sem.cast (by try rw [hb19];kernel_rfl) hk0
theorem W_read_letter (c0:Int) (res:Bool)
 (h:(res=(bif decide (c0≥(97:Int)) then decide (c0≤(122:Int)) || decide (c0≥(65:Int)) && decide (c0≤(90:Int)) else decide (c0≥(65:Int)) && decide (c0≤(90:Int))))):zdm c0 res:=by
 unfold zdm;have kk:=cfOk [] 17;refine fD (x:=bodyOf Tryz.f111) kk Tryz.func111 ?_;refine wkS [1] [(1,vI .u8 c0)] (by kernel_rfl) ?_;refine sO kk oN [] [] ?_;refine sM [1] [(7,vB (bif decide (c0≥(97:Int)) then decide (c0≤(122:Int)) || decide (c0≥(65:Int)) && decide (c0≤(90:Int)) else decide (c0≥(65:Int)) && decide (c0≤(90:Int))))] ?_ (fun hk0=>?_)
 ·refine tD ?_;subst h;exact (endQ []).1
 ·rcases eft (decide (c0≥(97:Int))) with hb0 | hb0
  ·rcases eft (decide (c0≤(122:Int))) with hb1 | hb1
   ·refine sO kk (g2 hb1 hb0 44622223 oN) [1] [(7,vB true)] ?_;exact Sem.cast (by try rw [hb0];try rw [hb1];kernel_rfl) hk0
   ·rcases eft (decide (c0≥(65:Int))) with hb2 | hb2
    ·refine sO kk (g1 hb0 113 (g2 hb1 hb2 22244263 oN)) [1] [(7,vB (decide (c0≤(90:Int))))] ?_;exact Sem.cast (by try rw [hb0];try rw [hb1];try rw [hb2];kernel_rfl) hk0
    ·refine sO kk (g1 hb0 113 (g2 hb1 hb2 22244263 oN)) [1] [(7,vB false)] ?_;exact Sem.cast (by try rw [hb0];try rw [hb1];try rw [hb2];kernel_rfl) hk0
  ·rcases eft (decide (c0≥(65:Int))) with hb3 | hb3
   ·refine sO kk (g2 hb3 hb0 44677711738 oN) [1] [(7,vB (decide (c0≤(90:Int))))] ?_;exact Sem.cast (by try rw [hb0];try rw [hb3];kernel_rfl) hk0
   ·refine sO kk (g2 hb3 hb0 44677711738 oN) [1] [(7,vB false)] ?_;exact Sem.cast (by try rw [hb0];try rw [hb3];kernel_rfl) hk0
theorem W_read_digit (c0:Int) (res:Bool)
 (h:(res=(decide (c0≥(48:Int)) && decide (c0≤(57:Int))))):zdS c0 res:=by
 unfold zdS;have kk:=cfOk [] 9;refine fD (x:=bodyOf Tryz.f112) kk Tryz.func112 ?_;refine wkS [1] [(1,vI .u8 c0)] (by kernel_rfl) ?_;refine sO kk oN [] [] ?_;refine sM [1] [(7,vB (decide (c0≥(48:Int)) && decide (c0≤(57:Int))))] ?_ (fun hk0=>?_)
 ·refine tD ?_;subst h;exact (endQ []).1
 ·rcases eft (decide (c0≥(48:Int))) with hb0 | hb0
  ·refine sO kk (g1 hb0 113 oN) [1] [(7,vB (decide (c0≤(57:Int))))] ?_;exact Sem.cast (by try rw [hb0];kernel_rfl) hk0
  ·refine sO kk (g1 hb0 113 oN) [1] [(7,vB false)] ?_;exact Sem.cast (by try rw [hb0];kernel_rfl) hk0
theorem W_read_Name (s0:ByteArray) (res:Bool)
 (h:(∃ (Inv23:Int→Prop) (mu24:Int→Nat),Inv23 0∧(∀ (t6:Int),Inv23 t6→(((decide (t6 < (↑(ByteArray.size s0):Int)))=true→((0:Int)≤t6)∧t6 < ↑(ByteArray.size s0)∧(∃ r0_3:Bool,zdm ((↑(UInt8.toNat (byteAt s0 t6)):Int)) r0_3∧(((!r0_3)=true→((!r0_3)=true→((0:Int)≤t6))∧((!r0_3)=true→t6 < ↑(ByteArray.size s0))∧((((↑(UInt8.toNat (byteAt s0 t6)):Int) != (95:Int))=true→(((t6 == 0)=true→(res=false))∧((t6 == 0)=false→((!r0_3)=true→(((↑(UInt8.toNat (byteAt s0 t6)):Int) != (95:Int))=true→((t6 == 0)=false→((0:Int)≤t6))))∧((!r0_3)=true→(((↑(UInt8.toNat (byteAt s0 t6)):Int) != (95:Int))=true→((t6 == 0)=false→t6 < ↑(ByteArray.size s0))))∧(∃ r0_4:Bool,zdS ((↑(UInt8.toNat (byteAt s0 t6)):Int)) r0_4∧(((!r0_4)=true→(res=false))∧((!r0_4)=false→(Inv23 (w64 (t6+1))∧mu24 (w64 (t6+1)) < mu24 t6)))))))∧(((↑(UInt8.toNat (byteAt s0 t6)):Int) != (95:Int))=false→(Inv23 (w64 (t6+1))∧mu24 (w64 (t6+1)) < mu24 t6))))∧((!r0_3)=false→(Inv23 (w64 (t6+1))∧mu24 (w64 (t6+1)) < mu24 t6)))))∧((decide (t6 < (↑(ByteArray.size s0):Int)))=false→(res=(!ByteArray.toList s0 == ByteArray.toList { data:=#[] } && decide ((↑(ByteArray.size s0):Int)≤(12:Int))))))))):zdn s0 res:=by
 unfold zdn;have kk:=cfOk [] 39;refine fD (x:=bodyOf Tryz.f75) kk Tryz.func75 ?_;refine wkS [1] [(1,vS s0)] (by kernel_rfl) ?_;refine sO kk oN [] [] ?_;refine qD ?_;refine sO kk oN [] [(16,vi ((↑(ByteArray.size s0):Int))),(19,vi 0)] ?_;refine bD (id:=0) ?_;obtain ⟨Inv23,mu24,h0Inv23,hInv23⟩:=h;refine loE [] (fun (q:Int)=>(fun (t6:Int)=>([(19,vi t6)]:Sta)) q) (fun (q:Int)=>Inv23 q) (fun (q:Int)=>mu24 q) 0 [] h0Inv23 ?_;rintro t6 hi;have h:=hInv23 t6 hi;refine sO kk oN [] [(22,vB (decide (t6 < (↑(ByteArray.size s0):Int))))] ?_;refine qD ?_;refine cH 7 h (fun hb25 h=>?_) (fun hb25 h=>?_)
 ·refine kD ?_;show Sem _ _ _ _ _;refine wkD [22] ?_;refine qD ?_;refine bD (id:=1) ?_;refine sO kk oN [] [(10,vi t6)] ?_;obtain ⟨h26,h⟩:=h;obtain ⟨h27,h⟩:=h;obtain ⟨r0_3,hc28,h⟩:=h;rcases eft (!r0_3) with hb29 | hb29
  ·have h:=h.1 hb29;obtain ⟨h30,h⟩:=h;obtain ⟨h31,h⟩:=h;rcases eft ((↑(UInt8.toNat (byteAt s0 t6)):Int) != (95:Int)) with hb32 | hb32
   ·have h:=h.1 hb32;rcases eft (t6 == 0) with hb33 | hb33
    ·have h:=h.1 hb33;refine sO kk (nd h26 (op (.y (byteAt s0 t6)) (zal s0 t6 h26 h27) (ca hc28 (g1 hb29 111 (nd (h30 hb29) (op (.y (byteAt s0 t6)) (zal s0 t6 (h30 hb29) (h31 hb29)) (g1 hb29 13 (g2 hb32 hb33 11155555163 oN)))))))) [10] [(91,vB true)] ?_;refine cD (t:=30) (b:=true) (fun hb38=>?_) (fun hb38=>?_)
     ·refine sO kk oN [1,16,19,91] [(7,vB false)] ?_;refine tD ?_;subst h;exact (endQ []).1
     ·cases hb38
    ·have h:=h.2 hb33;obtain ⟨h34,h⟩:=h;obtain ⟨h35,h⟩:=h;obtain ⟨r0_4,hc36,h⟩:=h;refine sO kk (nd h26 (op (.y (byteAt s0 t6)) (zal s0 t6 h26 h27) (ca hc28 (g1 hb29 111 (nd (h30 hb29) (op (.y (byteAt s0 t6)) (zal s0 t6 (h30 hb29) (h31 hb29)) (g1 hb29 13 (g2 hb33 hb32 444222 (nd (((h34 hb29) hb32) hb33) (op (.y (byteAt s0 t6)) (zal s0 t6 (((h34 hb29) hb32) hb33) (((h35 hb29) hb32) hb33)) (g1 hb33 2 (ca hc36 (g2 hb32 hb33 5163 oN))))))))))))) [10] [(91,vB (!r0_4))] ?_;refine cH 30 h (fun hb37 h=>?_) (fun hb37 h=>?_)
     ·refine sO kk oN [1,16,19,91] [(7,vB false)] ?_;refine tD ?_;subst h;exact (endQ []).1
     ·refine kD ?_;show Sem _ _ _ _ _;refine wkD [91] ?_;refine rO kk oN [] [(19,vi (w64 (t6+1)))] ?_;exact lD (w64 (t6+1)) [] h
   ·have h:=h.2 hb32;refine sO kk (nd h26 (op (.y (byteAt s0 t6)) (zal s0 t6 h26 h27) (ca hc28 (g1 hb29 111 (nd (h30 hb29) (op (.y (byteAt s0 t6)) (zal s0 t6 (h30 hb29) (h31 hb29)) (g2 hb32 hb29 4611113 oN))))))) [10] [(91,vB false)] ?_;refine cD (t:=30) (b:=false) (fun hb39=>?_) (fun hb39=>?_)
    ·cases hb39
    ·refine kD ?_;show Sem _ _ _ _ _;refine wkD [91] ?_;refine rO kk oN [] [(19,vi (w64 (t6+1)))] ?_;exact lD (w64 (t6+1)) [] h
  ·have h:=h.2 hb29;refine sO kk (nd h26 (op (.y (byteAt s0 t6)) (zal s0 t6 h26 h27) (ca hc28 (g1 hb29 1111388888 oN)))) [10] [(91,vB false)] ?_;refine cD (t:=30) (b:=false) (fun hb40=>?_) (fun hb40=>?_)
   ·cases hb40
   ·refine kD ?_;show Sem _ _ _ _ _;refine wkD [91] ?_;refine rO kk oN [] [(19,vi (w64 (t6+1)))] ?_;exact lD (w64 (t6+1)) [] h
 ·refine xD (i:=0) ?_;show Sem _ _ _ _ _;refine wkD [16,19,22] ?_;refine sM [1] [(7,vB (!ByteArray.toList s0 == ByteArray.toList { data:=#[] } && decide ((↑(ByteArray.size s0):Int)≤(12:Int))))] ?_ (fun hk0=>?_)
  ·refine tD ?_;subst h;exact (endQ []).1
  ·rcases eft (!ByteArray.toList s0 == ByteArray.toList { data:=#[] }) with hb41 | hb41
   ·refine sO kk (g1 hb41 1113 oN) [1] [(7,vB (decide ((↑(ByteArray.size s0):Int)≤(12:Int))))] ?_;exact Sem.cast (by try rw [hb41];kernel_rfl) hk0
   ·refine sO kk (g1 hb41 1113 oN) [1] [(7,vB false)] ?_;exact Sem.cast (by try rw [hb41];kernel_rfl) hk0
theorem zhH (r0:zj) (v:Int) (res:Bool) (fin:Int)
 (h:(∃ r0_1:Bool,zbE ({ Conds:=zj.Conds r0,All:=zj.All r0,Bol:=zj.Bol r0,Rx:=zj.Rx r0,Trail:=zj.Trail r0,Eof:=zj.Eof r0,Act:=zj.Act r0,To:=zj.To r0 }) v r0_1∧(((!r0_1)=true→(res=true∧fin=v))∧((!r0_1)=false→(∃ r0_2:Bool,zbJ ({ Conds:=zj.Conds r0,All:=zj.All r0,Bol:=zj.Bol r0,Rx:=zj.Rx r0,Trail:=zj.Trail r0,Eof:=zj.Eof r0,Act:=zj.Act r0,To:=zj.To r0 }) v r0_2∧(((!r0_2)=true→(res=true∧fin=v))∧((!r0_2)=false→(∃ r0_3:Bool,zbn ({ Conds:=zj.Conds r0,All:=zj.All r0,Bol:=zj.Bol r0,Rx:=zj.Rx r0,Trail:=zj.Trail r0,Eof:=zj.Eof r0,Act:=zj.Act r0,To:=zj.To r0 }) r0_3∧(res=(!r0_3)∧fin=v))))))))):zb3 r0 v res fin:=by
 unfold zb3;have kk:=cfOk [] 19;refine fD (x:=bodyOf Tryz.f76) kk Tryz.func76 ?_;refine wkS [1,3,4] [(1,zas r0),(3,vi v),(4,.ptr 3 0)] (by kernel_rfl) ?_;refine sO kk oN [1] [(7,.ptr 14 0),(14,zas r0)] ?_;obtain ⟨r0_1,hc0,h⟩:=h;rcases eft (!r0_1) with hb1 | hb1
 ·have h:=h.1 hb1;refine sO kk (ca hc0 (g1 hb1 222238887 oN)) [4,7,14] [(10,vB true)] ?_;refine tD ?_;obtain ⟨he0,he1⟩:=h;subst res fin;exact (endQ []).1
 ·have h:=h.2 hb1;obtain ⟨r0_2,hc2,h⟩:=h;rcases eft (!r0_2) with hb3 | hb3
  ·have h:=h.1 hb3;refine sO kk (ca hc0 (g1 hb1 222 (ca hc2 (g2 hb3 hb1 562223 oN)))) [4,7,14] [(10,vB true)] ?_;refine tD ?_;obtain ⟨he0,he1⟩:=h;subst res fin;exact (endQ []).1
  ·have h:=h.2 hb3;obtain ⟨r0_3,hc4,h⟩:=h;refine sO kk (ca hc0 (g1 hb1 222 (ca hc2 (g2 hb3 hb1 5622 (ca hc4 (g1 hb3 23 oN)))))) [4,7,14] [(10,vB (!r0_3))] ?_;refine tD ?_;obtain ⟨he0,he1⟩:=h;subst res fin;exact (endQ []).1
theorem zaW (s0:(List zj)) (cap:Int) (res:Int) (fin:Int)
 (h:(∃ (Inv9:Int→Int→Prop) (mu10:Int→Int→Nat),Inv9 cap 0∧(∀ (o0:Int) (t8:Int),Inv9 o0 t8→(((decide (t8 < (↑(List.length s0):Int)))=true→((0:Int)≤t8)∧t8 < ↑(List.length s0)∧(∃ r0_2:Bool,∃ o_2:Int,zb3 (gd s0 t8) o0 r0_2 o_2∧(((r0_2)=true→(res=t8∧fin=o_2))∧((r0_2)=false→(Inv9 o_2 (w64 (t8+1))∧mu10 o_2 (w64 (t8+1)) < mu10 o0 t8)))))∧((decide (t8 < (↑(List.length s0):Int)))=false→(res=(-1)∧fin=o0)))))):zU s0 cap res fin:=by
 unfold zU;have kk:=cfOk [17] 19;refine fD (x:=bodyOf Tryz.f114) kk Tryz.func114 ?_;refine wkS [1,3,4] [(1,vL zw s0),(3,vi cap),(4,.clo 76 [.ptr 3 0])] (by kernel_rfl) ?_;refine sO kk oN [] [] ?_;refine qD ?_;refine sOE kk oN [] [(22,vi ((↑(List.length (List.map zw s0)):Int))),(25,vi 0)] [(22,vi ((↑(List.length s0):Int))),(25,vi 0)] ?_;refine bD (id:=0) ?_;obtain ⟨Inv9,mu10,h0Inv9,hInv9⟩:=h;refine loE [] (fun (q:Int×Int)=>(fun (o0:Int) (t8:Int)=>([(3,vi o0),(25,vi t8)]:Sta)) q.1 q.2) (fun (q:Int×Int)=>Inv9 q.1 q.2) (fun (q:Int×Int)=>mu10 q.1 q.2) (cap,0) [] h0Inv9 ?_;rintro ⟨o0,t8⟩ hi;have h:=hInv9 o0 t8 hi;refine sO kk oN [] [(28,vB (decide (t8 < (↑(List.length s0):Int))))] ?_;refine qD ?_;refine cH 9 h (fun hb11 h=>?_) (fun hb11 h=>?_)
 ·refine kD ?_;show Sem _ _ _ _ _;refine wkD [28] ?_;refine qD ?_;refine bD (id:=1) ?_;refine sO kk oN [] [(16,vi t8)] ?_;obtain ⟨h12,h⟩:=h;obtain ⟨h13,h⟩:=h;obtain ⟨r0_2,o_2,hc14,h⟩:=h;refine sO kk (nd h12 (el (zF zw s0 t8 _ (z7 _) h12 h13) (ca hc14 oN))) [] [(3,vi o_2),(49,vB r0_2)] ?_;refine cH 16 h (fun hb15 h=>?_) (fun hb15 h=>?_)
  ·refine sO kk oN [1,4,16,22,25,49] [(13,vi t8)] ?_;refine tD ?_;obtain ⟨he0,he1⟩:=h;subst res fin;exact (endQ []).1
  ·refine kD ?_;show Sem _ _ _ _ _;refine wkD [16,49] ?_;refine rO kk oN [] [(25,vi (w64 (t8+1)))] ?_;exact lD (o_2,(w64 (t8+1))) [] h
 ·refine xD (i:=0) ?_;show Sem _ _ _ _ _;refine wkD [1,4,22,25,28] ?_;refine sO kk oN [] [(13,vi (-1))] ?_;refine tD ?_;obtain ⟨he0,he1⟩:=h;subst res fin;exact (endQ []).1
theorem zaQ (s0:(List zj)) (cap:Int) (res:Bool) (fin:Int)
 (h:(∃ r0:Int,∃ o:Int,zU s0 cap r0 o∧(res=(decide (r0≥(0:Int)))∧fin=o))):zI s0 cap res fin:=by
 unfold zI;have kk:=cfOk [] 9;refine fD (x:=bodyOf Tryz.f80) kk Tryz.func80 ?_;refine wkS [1,3,4] [(1,vL zw s0),(3,vi cap),(4,.clo 76 [.ptr 3 0])] (by kernel_rfl) ?_;refine sO kk oN [] [] ?_;obtain ⟨r0,o,hc0,h⟩:=h;refine sO kk (ca hc0 oN) [1,4] [(3,vi o),(13,vB (decide (r0≥(0:Int))))] ?_;refine tD ?_;obtain ⟨he0,he1⟩:=h;subst res fin;exact (endQ []).1
theorem W_spec_Right (s0:api_Spec) (res:Bool)
 (h:((decide ((↑(List.length (List.map zu (api_Spec.Conds s0))):Int) < (1:Int)))=false→((decide ((↑(List.length (List.map zu (api_Spec.Conds s0))):Int) > (8:Int)))=false→((decide ((↑(List.length (List.map zw (api_Spec.Rules s0))):Int) > (40:Int)))=false→(0:Nat) < List.length (api_Spec.Conds s0))))∧(((decide ((↑(List.length (List.map zu (api_Spec.Conds s0))):Int) < (1:Int)) || (decide ((↑(List.length (List.map zu (api_Spec.Conds s0))):Int) > (8:Int)) || (decide ((↑(List.length (List.map zw (api_Spec.Rules s0))):Int) > (40:Int)) || !(ByteArray.toList (zN.Name (List.getD (api_Spec.Conds s0) (0:Nat) default)) == ByteArray.toList { data:=#[(73:UInt8),(78:UInt8),(73:UInt8),(84:UInt8),(73:UInt8),(65:UInt8),(76:UInt8)] } && (zN.Exclusive (List.getD (api_Spec.Conds s0) (0:Nat) default) == false && true)))))=true→(res=false))∧((decide ((↑(List.length (List.map zu (api_Spec.Conds s0))):Int) < (1:Int)) || (decide ((↑(List.length (List.map zu (api_Spec.Conds s0))):Int) > (8:Int)) || (decide ((↑(List.length (List.map zw (api_Spec.Rules s0))):Int) > (40:Int)) || !(ByteArray.toList (zN.Name (List.getD (api_Spec.Conds s0) (0:Nat) default)) == ByteArray.toList { data:=#[(73:UInt8),(78:UInt8),(73:UInt8),(84:UInt8),(73:UInt8),(65:UInt8),(76:UInt8)] } && (zN.Exclusive (List.getD (api_Spec.Conds s0) (0:Nat) default) == false && true)))))=false→(∃ (Inv14:List ByteArray→Int→Prop) (mu15:List ByteArray→Int→Nat),Inv14 ([]) 0∧(∀ (t65:List ByteArray) (t36:Int),Inv14 t65 t36→(((decide (t36 < (↑(List.length (api_Spec.Conds s0)):Int)))=true→((0:Int)≤t36)∧t36 < ↑(List.length (api_Spec.Conds s0))∧(∃ r0_2:Bool,zdn (zN.Name (gd (api_Spec.Conds s0) t36)) r0_2∧(((!r0_2)=true→(res=false))∧((!r0_2)=false→(Inv14 (sput (zN.Name (gd (api_Spec.Conds s0) t36)) t65) (w64 (t36+1))∧mu15 (sput (zN.Name (gd (api_Spec.Conds s0) t36)) t65) (w64 (t36+1)) < mu15 t65 t36)))))∧((decide (t36 < (↑(List.length (api_Spec.Conds s0)):Int)))=false→((((↑(List.length (List.map zP t65)):Int) == (↑(List.length (api_Spec.Conds s0)):Int))=true→(∃ r0_3:Bool,∃ o:Int,zI (api_Spec.Rules s0) ((↑(List.length (api_Spec.Conds s0)):Int)) r0_3 o∧(res=(!r0_3))))∧(((↑(List.length (List.map zP t65)):Int) == (↑(List.length (api_Spec.Conds s0)):Int))=false→(res=false)))))))))):zbR s0 res:=by
 unfold zbR;have kk:=cfOk [] 64;refine fD (x:=bodyOf Tryz.f41) kk Tryz.func41 ?_;refine wkS [1] [(1,zK s0)] (by kernel_rfl) ?_;refine sO kk oN [1] [(4,.ptr 8 0),(8,zK s0)] ?_;refine qD ?_;obtain ⟨h3,h⟩:=h;refine sM [] [(94,vB (decide ((↑(List.length (List.map zu (api_Spec.Conds s0))):Int) < (1:Int)) || (decide ((↑(List.length (List.map zu (api_Spec.Conds s0))):Int) > (8:Int)) || (decide ((↑(List.length (List.map zw (api_Spec.Rules s0))):Int) > (40:Int)) || !(ByteArray.toList (zN.Name (List.getD (api_Spec.Conds s0) (0:Nat) default)) == ByteArray.toList { data:=#[(73:UInt8),(78:UInt8),(73:UInt8),(84:UInt8),(73:UInt8),(65:UInt8),(76:UInt8)] } && (zN.Exclusive (List.getD (api_Spec.Conds s0) (0:Nat) default) == false && true))))))] ?_ (fun hk0=>?_)
 ·refine cH 31 h (fun hb4 h=>?_) (fun hb4 h=>?_)
  ·refine sO kk oN [4,8,94] [(7,vB false)] ?_;refine tD ?_;subst h;exact (endQ []).1
  ·refine kD ?_;show Sem _ _ _ _ _;refine wkD [94] ?_;refine sOE kk oN [] [(10,.ptr 197 0),(197,.f (FV.sl []))] [(10,.ptr 197 0),(197,vL zP ([]))] ?_;refine qD ?_;refine sOE kk oN [] [(103,vL zu (api_Spec.Conds s0)),(106,vi ((↑(List.length (List.map zu (api_Spec.Conds s0))):Int))),(109,vi 0)] [(103,vL zu (api_Spec.Conds s0)),(106,vi ((↑(List.length (api_Spec.Conds s0)):Int))),(109,vi 0)] ?_;refine bD (id:=0) ?_;obtain ⟨Inv14,mu15,h0Inv14,hInv14⟩:=h;refine loE [] (fun (q:List ByteArray×Int)=>(fun (t65:List ByteArray) (t36:Int)=>([(109,vi t36),(197,vL zP t65)]:Sta)) q.1 q.2) (fun (q:List ByteArray×Int)=>Inv14 q.1 q.2) (fun (q:List ByteArray×Int)=>mu15 q.1 q.2) (([]),0) [] h0Inv14 ?_;rintro ⟨t65,t36⟩ hi;have h:=hInv14 t65 t36 hi;refine sO kk oN [] [(112,vB (decide (t36 < (↑(List.length (api_Spec.Conds s0)):Int))))] ?_;refine qD ?_;refine cH 37 h (fun hb16 h=>?_) (fun hb16 h=>?_)
   ·refine kD ?_;show Sem _ _ _ _ _;refine wkD [112] ?_;refine qD ?_;refine bD (id:=1) ?_;obtain ⟨h17,h⟩:=h;obtain ⟨h18,h⟩:=h;refine sO kk (nd h17 (el (zF zu (api_Spec.Conds s0) t36 _ (z8 _) h17 h18) oN)) [] [(16,.ptr 32 0),(32,zhA (gd (api_Spec.Conds s0) t36))] ?_;refine qD ?_;obtain ⟨r0_2,hc19,h⟩:=h;refine sO kk (ca hc19 oN) [] [(130,vB (!r0_2))] ?_;refine cH 43 h (fun hb20 h=>?_) (fun hb20 h=>?_)
    ·refine sO kk oN [4,8,10,16,32,103,106,109,130,197] [(7,vB false)] ?_;refine tD ?_;subst h;exact (endQ []).1
    ·refine kD ?_;show Sem _ _ _ _ _;refine wkD [130] ?_;refine rOE kk (nd (show List.all (List.map zP t65) (keyIs (TI.desc { desc:=TypeInfo.desc Proofs.Tryz.t9,size:=(1:Nat),bytes:=(16:Nat),zero:=Option.some (AV.f (FV.pv (Value.string { data:=#[] }))) }))=true from by first | exact fitsm_string_set _ | exact zes _ | rfl | simp [isByteF,FV.fits,FV.size,FV.cells,FV.one,]) oN) [16,32] [(197,.f (FV.sl (putE (Value.string (zN.Name (gd (api_Spec.Conds s0) t36))) (FV.agg []) (List.map zP t65))))] [(197,vL zP (sput (zN.Name (gd (api_Spec.Conds s0) t36)) t65))] ?_;show Sem _ _ _ _ _;refine rO kk oN [] [(109,vi (w64 (t36+1)))] ?_;exact lD ((sput (zN.Name (gd (api_Spec.Conds s0) t36)) t65),(w64 (t36+1))) [] h
   ·refine xD (i:=0) ?_;show Sem _ _ _ _ _;refine wkD [103,106,109,112] ?_;refine sOE kk oN [] [(19,.ptr 38 0),(38,vi ((↑(List.length (List.map zu (api_Spec.Conds s0))):Int)))] [(19,.ptr 38 0),(38,vi ((↑(List.length (api_Spec.Conds s0)):Int)))] ?_;refine sO kk oN [] [(22,.clo 76 [.ptr 38 0])] ?_;rcases eft ((↑(List.length (List.map zP t65)):Int) == (↑(List.length (api_Spec.Conds s0)):Int)) with hb21 | hb21
    ·have h:=h.1 hb21;obtain ⟨r0_3,o,hc22,h⟩:=h;refine sO kk (g1 hb21 1111 (ca hc22 (g1 hb21 13 oN))) [4,8,10,19,22,38,197] [(7,vB (!r0_3))] ?_;refine tD ?_;subst h;exact (endQ []).1
    ·have h:=h.2 hb21;refine sO kk (g1 hb21 111113 oN) [4,8,10,19,22,38,197] [(7,vB false)] ?_;refine tD ?_;subst h;exact (endQ []).1
 ·rcases eft (decide ((↑(List.length (List.map zu (api_Spec.Conds s0))):Int) < (1:Int))) with hb0 | hb0
  ·refine sO kk (g1 hb0 22223888878888887 oN) [] [(94,vB true)] ?_;exact Sem.cast (by try rw [hb0];kernel_rfl) hk0
  ·rcases eft (decide ((↑(List.length (List.map zu (api_Spec.Conds s0))):Int) > (8:Int))) with hb1 | hb1
   ·refine sO kk (g2 hb1 hb0 55556222238888887 oN) [] [(94,vB true)] ?_;exact Sem.cast (by try rw [hb0];try rw [hb1];kernel_rfl) hk0
   ·rcases eft (decide ((↑(List.length (List.map zw (api_Spec.Rules s0))):Int) > (40:Int))) with hb2 | hb2
    ·refine sO kk (g1 hb0 22223 (g2 hb2 hb1 555562222223 oN)) [] [(94,vB true)] ?_;exact Sem.cast (by try rw [hb0];try rw [hb1];try rw [hb2];kernel_rfl) hk0
    ·refine sO kk (g1 hb0 22223 (g2 hb2 hb1 55556222 (nd (show (0:Int)≤(0:Int) from by first | decide | rfl | trivial) (el (show (List.map zu (api_Spec.Conds s0))[(Int.toNat (0:Int):Nat)]?=some (zdi (List.getD (api_Spec.Conds s0) (0:Nat) default)) from by have:=zb8 zu (api_Spec.Conds s0) ((0:Nat)) _ (z8 _) (((h3 hb0) hb1) hb2);simpa only [nm,enq,z8] using this) (g1 hb2 2223 oN))))) [] [(94,vB (!(ByteArray.toList (zN.Name (List.getD (api_Spec.Conds s0) (0:Nat) default)) == ByteArray.toList { data:=#[(73:UInt8),(78:UInt8),(73:UInt8),(84:UInt8),(73:UInt8),(65:UInt8),(76:UInt8)] } && (zN.Exclusive (List.getD (api_Spec.Conds s0) (0:Nat) default) == false && true))))] ?_;exact Sem.cast (by try rw [hb0];try rw [hb1];try rw [hb2];kernel_rfl) hk0
theorem zdP (s0:zc) (b:zk) (res:zi) (fin:zk)
 (h:((List.length (zk.sets b)+(1:Nat)) * (32:Nat)≤(2:Nat) ^ (47:Nat))∧((List.length (zk.follow b)+(1:Nat)) * (24:Nat)≤(2:Nat) ^ (47:Nat))∧(res=({ first:=[(↑(List.length (zk.sets b)):Int)],last:=[(↑(List.length (zk.sets b)):Int)],null:=false })∧fin=({ sets:=zk.sets b++[s0],follow:=zk.follow b++[[]] }))):zbz s0 b res fin:=by
 unfold zbz;have kk:=cfOk [] 34;refine fD (x:=bodyOf Tryz.f143) kk Tryz.func143 ?_;refine wkS [1,3,4] [(1,.ptr 3 0),(3,zy b),(4,zZ s0)] (by kernel_rfl) ?_;refine sOE kk oN [4] [(10,.ptr 20 0),(13,.ptr 26 0),(20,zZ s0),(26,.agg [.own 3 ([]),.own 3 ([]),vB false])] [(10,.ptr 20 0),(13,.ptr 26 0),(20,zZ s0),(26,.agg [oL 3 zf ([]),oL 3 zf ([]),vB false])] ?_;refine sOE kk oN [] [(16,.own 3 ([FV.pv (Value.int IntKind.i64 (↑(List.length (List.map ze (zk.sets b))):Int))]))] [(16,oL 3 zf ([(↑(List.length (zk.sets b)):Int)]))] ?_;obtain ⟨h0,h⟩:=h;obtain ⟨h1,h⟩:=h;refine sOE kk (apo ze (zk.sets b) h0 (apo zg (zk.follow b) h1 oN)) [1,10,20] [(3,.agg [.own 25 (List.map ze (zk.sets b)++[FV.agg [FV.pv (Value.int IntKind.u64 (zc.e0 s0)),FV.pv (Value.int IntKind.u64 (zc.e1 s0)),FV.pv (Value.int IntKind.u64 (zc.e2 s0)),FV.pv (Value.int IntKind.u64 (zc.e3 s0))]]),.own 40 (List.map zg (zk.follow b)++[FV.sl []])])] [(3,.agg [oL 25 ze (zk.sets b++[s0]),oL 40 zg (zk.follow b++[[]])])] ?_;refine sOE kk oN [16] [(26,.agg [.f (FV.sl (List.take (1:Nat) (List.drop (0:Nat) (List.map zf [(↑(List.length (zk.sets b)):Int)])))),.f (FV.sl (List.take (1:Nat) (List.drop (0:Nat) (List.map zf [(↑(List.length (zk.sets b)):Int)])))),vB false])] [(26,.agg [vL zf ([(↑(List.length (zk.sets b)):Int)]),vL zf ([(↑(List.length (zk.sets b)):Int)]),vB false])] ?_;refine tD ?_;obtain ⟨he0,he1⟩:=h;subst res fin;exact (endQ []).1
theorem zc0 (slices:(List (List Int))) (res:(List Int))
 (h:(∃ (Inv14:Int→Int→Prop) (mu15:Int→Int→Nat),Inv14 0 0∧(∀ (size:Int) (t11:Int),Inv14 size t11→(((decide (t11 < (↑(List.length slices):Int)))=true→(∃ J20:Prop,(J20→(Inv14 (w64 (size+(↑(List.length (gd slices t11)):Int))) (w64 (t11+1))∧mu15 (w64 (size+(↑(List.length (gd slices t11)):Int))) (w64 (t11+1)) < mu15 size t11))∧((0:Int)≤t11)∧t11 < ↑(List.length slices)∧(((decide (w64 (size+(↑(List.length (gd slices t11)):Int)) < (0:Int)))=true→False)∧((decide (w64 (size+(↑(List.length (gd slices t11)):Int)) < (0:Int)))=false→J20))))∧((decide (t11 < (↑(List.length slices):Int)))=false→((0:Int)≤size∧size≤(2:Int) ^ (40:Nat))∧(∃ (Inv32:List Int→Int→Prop) (mu33:List Int→Int→Nat),Inv32 ([]) 0∧(∀ (newslice:List Int) (t27:Int),Inv32 newslice t27→(((decide (t27 < (↑(List.length slices):Int)))=true→((0:Int)≤t27)∧t27 < ↑(List.length slices)∧((List.length newslice+List.length (gd slices t27)) * (8:Nat)≤(2:Nat) ^ (47:Nat))∧(Inv32 (newslice++gd slices t27) (w64 (t27+1))∧mu33 (newslice++gd slices t27) (w64 (t27+1)) < mu33 newslice t27))∧((decide (t27 < (↑(List.length slices):Int)))=false→(res=newslice)))))))))):zam slices res:=by
 unfold zam;have kk:=cfOk [35] 36;refine fD (x:=bodyOf Tryz.f94) kk Tryz.func94 ?_;refine wkS [1] [(1,vL zg slices)] (by kernel_rfl) ?_;refine sO kk oN [] [] ?_;refine sO kk oN [] [(10,vi 0)] ?_;refine qD ?_;refine sOE kk oN [] [(28,vL zg slices),(31,vi ((↑(List.length (List.map zg slices)):Int))),(34,vi 0)] [(28,vL zg slices),(31,vi ((↑(List.length slices):Int))),(34,vi 0)] ?_;refine bD (id:=0) ?_;obtain ⟨Inv14,mu15,h0Inv14,hInv14⟩:=h;refine loE [] (fun (q:Int×Int)=>(fun (size:Int) (t11:Int)=>([(10,vi size),(34,vi t11)]:Sta)) q.1 q.2) (fun (q:Int×Int)=>Inv14 q.1 q.2) (fun (q:Int×Int)=>mu15 q.1 q.2) (0,0) [] h0Inv14 ?_;rintro ⟨size,t11⟩ hi;have h:=hInv14 size t11 hi;refine sO kk oN [] [(37,vB (decide (t11 < (↑(List.length slices):Int))))] ?_;refine qD ?_;refine cH 12 h (fun hb16 h=>?_) (fun hb16 h=>?_)
 ·refine kD ?_;show Sem _ _ _ _ _;refine wkD [37] ?_;obtain ⟨J20,hJ20,h⟩:=h;refine sjD (fun (_:Unit)=>J20) (fun (_:Unit)=>[(1,vL zg slices),(10,vi (w64 (size+(↑(List.length (gd slices t11)):Int)))),(28,vL zg slices),(31,vi ((↑(List.length slices):Int))),(34,vi t11)]) ?_ ?_
  ·rintro _ hj;have h:=hJ20 hj;refine rO kk oN [] [(34,vi (w64 (t11+1)))] ?_;exact lD ((w64 (size+(↑(List.length (gd slices t11)):Int))),(w64 (t11+1))) [] h
  ·refine bD (id:=1) ?_;obtain ⟨h21,h⟩:=h;obtain ⟨h22,h⟩:=h;refine sO kk (nd h21 (el (zF zg slices t11 _ rfl h21 h22) oN)) [] [(16,vL zf (gd slices t11))] ?_;refine sOE kk oN [16] [(10,vi (w64 (size+(↑(List.length (List.map zf (gd slices t11))):Int))))] [(10,vi (w64 (size+(↑(List.length (gd slices t11)):Int))))] ?_;refine sO kk oN [] [(61,vB (decide (w64 (size+(↑(List.length (gd slices t11)):Int)) < (0:Int))))] ?_;refine cH 20 h (fun hb23 h=>?_) (fun hb23 h=>?_)
   ·exact h.elim
   ·refine kD ?_;exact jD () [] h
 ·refine xD (i:=0) ?_;show Sem _ _ _ _ _;refine wkD [28,31,34,37] ?_;obtain ⟨h24,h⟩:=h;refine sOE kk (nd h24 oN) [10] [(19,.own 3 ([]))] [(19,oL 3 zf ([]))] ?_;refine qD ?_;refine sOE kk oN [1] [(76,vL zg slices),(79,vi ((↑(List.length (List.map zg slices)):Int))),(82,vi 0)] [(76,vL zg slices),(79,vi ((↑(List.length slices):Int))),(82,vi 0)] ?_;refine bD (id:=2) ?_;obtain ⟨Inv32,mu33,h0Inv32,hInv32⟩:=h;refine loE [] (fun (q:List Int×Int)=>(fun (newslice:List Int) (t27:Int)=>([(19,oL 3 zf newslice),(82,vi t27)]:Sta)) q.1 q.2) (fun (q:List Int×Int)=>Inv32 q.1 q.2) (fun (q:List Int×Int)=>mu33 q.1 q.2) (([]),0) [] h0Inv32 ?_;rintro ⟨newslice,t27⟩ hi;have h:=hInv32 newslice t27 hi;refine sO kk oN [] [(85,vB (decide (t27 < (↑(List.length slices):Int))))] ?_;refine qD ?_;refine cH 28 h (fun hb34 h=>?_) (fun hb34 h=>?_)
  ·refine kD ?_;show Sem _ _ _ _ _;refine wkD [85] ?_;refine qD ?_;refine bD (id:=3) ?_;obtain ⟨h35,h⟩:=h;obtain ⟨h36,h⟩:=h;refine sO kk (nd h35 (el (zF zg slices t27 _ rfl h35 h36) oN)) [] [(25,vL zf (gd slices t27))] ?_;obtain ⟨h37,h⟩:=h;refine rOE kk (nd (show (0:Nat)=(0:Nat)∧List.length (List.map zf newslice)=List.length (List.map zf newslice) from ⟨rfl,rfl⟩) (nd (show (List.length (List.map zf newslice)+List.length (List.map zf (gd slices t27))) * (8:Nat)≤(2:Nat) ^ (47:Nat) from by simpa only [nm] using h37) (nd (show List.all (List.map zf (gd slices t27)) (FV.fits (1:Nat))=true from by first | exact fits_i64 _ | exact keysenc_i64 _ | rfl | simp [isByteF,FV.fits,FV.size,FV.cells,FV.one,zf]) oN))) [25] [(19,.own 3 (List.map zf newslice++List.map zf (gd slices t27)))] [(19,oL 3 zf (newslice++gd slices t27))] ?_;show Sem _ _ _ _ _;refine rO kk oN [] [(82,vi (w64 (t27+1)))] ?_;exact lD ((newslice++gd slices t27),(w64 (t27+1))) [] h
  ·refine xD (i:=2) ?_;show Sem _ _ _ _ _;refine wkD [76,79,82,85] ?_;refine sO kk oN [19] [(7,oL 3 zf newslice)] ?_;refine tD ?_;subst h;exact (endQ []).1
theorem zgk (a:(List Int)) (b:(List Int)) (res:(List Int))
 (h:(∃ r0:List Int,zam ([a,b]) r0∧List.length r0 < 1099511627776∧(List.length (sortInts r0)=List.length r0)∧List.length (sortInts r0) < 1099511627776∧(res=(compactInts (sortInts r0))))):zah a b res:=by
 unfold zah;have kk:=cfOk [] 14;refine fD (x:=bodyOf Tryz.f82) kk Tryz.func82 ?_;refine wkS [1,4] [(1,vL zf a),(4,vL zf b)] (by kernel_rfl) ?_;refine sO kk oN [] [] ?_;obtain ⟨r0,hc0,h⟩:=h;refine sO kk (ca (Eq.mp (by unfold zam;(try simp only [List.drop_zero,List.take_length]);first | done | simp only [nm,enq]:zam ([a,b]) r0=CallE Tryz.prog 94 [.f (FV.sl (List.take (List.length [FV.sl (List.map zf a),FV.sl (List.map zf b)]) (List.drop (0:Nat) [FV.sl (List.map zf a),FV.sl (List.map zf b)])))] [] (oL 3 zf r0) []) hc0) oN) [1,4] [(16,oL 3 zf r0)] ?_;obtain ⟨h1,h⟩:=h;obtain ⟨h2,h⟩:=h;refine sO kk (nd (show (0:Nat)=(0:Nat)∧List.length (List.map zf r0)=List.length (List.map zf r0) from ⟨rfl,rfl⟩) (op (.l (List.map zf (sortInts r0))) (show Prod.fst (sortF,false) (List.map zf r0)=some (List.map zf (sortInts r0)) from by first | exact sortF_map zf (fun _=>rfl) _ h1 | (have:=sortF_map zf (fun _=>rfl) _ h1;simpa only [nm,enq] using this)) (nd (show List.length (List.map zf (sortInts r0))=List.length (List.map zf r0) from by simpa only [nm] using h2) oN))) [] [(16,oL 3 zf (sortInts r0))] ?_;obtain ⟨h3,h⟩:=h;refine sO kk (nd (show (0:Nat)=(0:Nat)∧List.length (List.map zf (sortInts r0))=List.length (List.map zf (sortInts r0)) from ⟨rfl,rfl⟩) (op (.l (List.map zf (compactInts (sortInts r0)))) (show Prod.fst (compactF,true) (List.map zf (sortInts r0))=some (List.map zf (compactInts (sortInts r0))) from by first | exact zf8 zf (fun _=>rfl) _ h3 | (have:=zf8 zf (fun _=>rfl) _ h3;simpa only [nm,enq] using this)) oN)) [16] [(13,oL 3 zf (compactInts (sortInts r0)))] ?_;refine tD ?_;subst h;exact (endQ [(13,0)]).1
theorem zd9 (from0:(List Int)) (to0:(List Int)) (b:zk) (fin:zk)
 (h:(∃ (Inv19:List (List Int)→Int→Prop) (mu20:List (List Int)→Int→Nat),Inv19 (zk.follow b) 0∧(∀ (o0_follow:List (List Int)) (t10:Int),Inv19 o0_follow t10→(((decide (t10 < (↑(List.length from0):Int)))=true→((0:Int)≤t10)∧t10 < ↑(List.length from0)∧((0:Int)≤gd from0 t10)∧(Int.toNat (gd from0 t10) < List.length o0_follow)∧gd from0 t10 < ↑(List.length o0_follow)∧(∃ r0_2:List Int,zah (gd o0_follow (gd from0 t10)) to0 r0_2∧((0:Int)≤gd from0 t10)∧(Int.toNat (gd from0 t10) < List.length o0_follow)∧gd from0 t10 < ↑(List.length o0_follow)∧(Inv19 (List.set o0_follow (Int.toNat (gd from0 t10)) r0_2) (w64 (t10+1))∧mu20 (List.set o0_follow (Int.toNat (gd from0 t10)) r0_2) (w64 (t10+1)) < mu20 o0_follow t10)))∧((decide (t10 < (↑(List.length from0):Int)))=false→(fin=({ sets:=zk.sets b,follow:=o0_follow }))))))):zaX from0 to0 b fin:=by
 unfold zaX;have kk:=cfOk [] 30;refine fD (x:=bodyOf Tryz.f159) kk Tryz.func159 ?_;refine wkS [1,3,4,7] [(1,.ptr 3 0),(3,zy b),(4,vL zf from0),(7,vL zf to0)] (by kernel_rfl) ?_;refine sOE kk oN [4] [(25,vL zf from0),(28,vi ((↑(List.length (List.map zf from0)):Int))),(31,vi 0)] [(25,vL zf from0),(28,vi ((↑(List.length from0):Int))),(31,vi 0)] ?_;refine bD (id:=0) ?_;obtain ⟨Inv19,mu20,h0Inv19,hInv19⟩:=h;refine loE [] (fun (q:List (List Int)×Int)=>(fun (o0_follow:List (List Int)) (t10:Int)=>([(3,.agg [oL 25 ze (zk.sets b),oL 40 zg o0_follow]),(31,vi t10)]:Sta)) q.1 q.2) (fun (q:List (List Int)×Int)=>Inv19 q.1 q.2) (fun (q:List (List Int)×Int)=>mu20 q.1 q.2) ((zk.follow b),0) [] h0Inv19 ?_;rintro ⟨o0_follow,t10⟩ hi;have h:=hInv19 o0_follow t10 hi;refine sO kk oN [] [(34,vB (decide (t10 < (↑(List.length from0):Int))))] ?_;refine qD ?_;refine cH 11 h (fun hb21 h=>?_) (fun hb21 h=>?_)
 ·refine kD ?_;show Sem _ _ _ _ _;refine wkD [34] ?_;refine qD ?_;refine bD (id:=1) ?_;obtain ⟨h22,h⟩:=h;obtain ⟨h23,h⟩:=h;refine sO kk (nd h22 (el (zF zf from0 t10 _ rfl h22 h23) oN)) [] [(22,vi (gd from0 t10))] ?_;obtain ⟨h24,h⟩:=h;obtain ⟨h25,h⟩:=h;obtain ⟨h26,h⟩:=h;obtain ⟨r0_2,hc27,h⟩:=h;obtain ⟨h28,h⟩:=h;obtain ⟨h29,h⟩:=h;obtain ⟨h30,h⟩:=h;refine rOE kk (nd h24 (nd (show Int.toNat (gd from0 t10) < List.length (List.map zg o0_follow) from by simpa only [nm] using h25) (el (show (List.map zg o0_follow)[((0:Nat)+Int.toNat (gd from0 t10):Nat)]?=some (fL zf (gd o0_follow (gd from0 t10))) from by have:=zF zg o0_follow (gd from0 t10) _ rfl h24 h26;simpa only [nm,enq,zg] using this) (ca hc27 (nd h28 (nd (show Int.toNat (gd from0 t10) < List.length (List.map zg o0_follow) from by simpa only [nm] using h29) (el (show (List.map zg o0_follow)[((0:Nat)+Int.toNat (gd from0 t10):Nat)]?=some (fL zf (gd o0_follow (gd from0 t10))) from by have:=zF zg o0_follow (gd from0 t10) _ rfl h28 h30;simpa only [nm,enq,zg] using this) oN))))))) [22] [(3,.agg [oL 25 ze (zk.sets b),.own 40 (List.set (List.map zg o0_follow) ((0:Nat)+Int.toNat (gd from0 t10)) (FV.sl (List.map zf r0_2)))])] [(3,.agg [oL 25 ze (zk.sets b),oL 40 zg (List.set o0_follow (Int.toNat (gd from0 t10)) r0_2)])] ?_;show Sem _ _ _ _ _;refine rO kk oN [] [(31,vi (w64 (t10+1)))] ?_;exact lD ((List.set o0_follow (Int.toNat (gd from0 t10)) r0_2),(w64 (t10+1))) [] h
 ·refine xD (i:=0) ?_;obtain he0:=h;subst fin;exact (endQ []).2
theorem zeC (x:zi) (y:zi) (b:zk) (res:zi) (fin:zk)
 (h:(∃ o:zk,zaX (zi.last x) (zi.first y) b o∧(∃ J4:List Int→Prop,(∀ (out_first:List Int),J4 out_first→(∃ J7:List Int→Prop,(∀ (out_last:List Int),J7 out_last→(res=({ first:=out_first,last:=out_last,null:=zi.null x && zi.null y })∧fin=o))∧(((zi.null y)=true→(∃ r0_2:List Int,zah (zi.last x) (zi.last y) r0_2∧J7 r0_2))∧((zi.null y)=false→J7 (zi.last y)))))∧(((zi.null x)=true→(∃ r0_3:List Int,zah (zi.first x) (zi.first y) r0_3∧J4 r0_3))∧((zi.null x)=false→J4 (zi.first x)))))):zaK x y b res fin:=by
 unfold zaK;have kk:=cfOk [41] 42;refine fD (x:=bodyOf Tryz.f144) kk Tryz.func144 ?_;refine wkS [1,3,4,7] [(1,.ptr 3 0),(3,zy b),(4,zD x),(7,zD y)] (by kernel_rfl) ?_;refine sOE kk oN [4,7] [(13,.ptr 26 0),(16,.ptr 32 0),(19,.ptr 38 0),(26,zD x),(32,zD y),(38,.agg [.own 3 ([]),.own 3 ([]),vB false])] [(13,.ptr 26 0),(16,.ptr 32 0),(19,.ptr 38 0),(26,zD x),(32,zD y),(38,.agg [oL 3 zf ([]),oL 3 zf ([]),vB false])] ?_;obtain ⟨o,hc0,h⟩:=h;refine sO kk (ca hc0 oN) [1] [(3,zy o)] ?_;refine sM [] [(22,.ptr 44 0),(44,.agg [vL zf (zi.first x),vL zf (zi.last y),vB (zi.null x && zi.null y)])] ?_ (fun hk0=>?_)
 ·obtain ⟨J4,hJ4,h⟩:=h;refine sjE (fun (q:List Int)=>J4 q) [] (fun (q:List Int)=>(fun (out_first:List Int)=>([(44,.agg [vL zf out_first,vL zf (zi.last y),vB (zi.null x && zi.null y)])]:Sta)) q) ?_ ?_
  ·rintro out_first hj;have h:=hJ4 out_first hj;obtain ⟨J7,hJ7,h⟩:=h;refine sjE (fun (q:List Int)=>J7 q) [13,16,26,32] (fun (q:List Int)=>(fun (out_last:List Int)=>([(44,.agg [vL zf out_first,vL zf out_last,vB (zi.null x && zi.null y)])]:Sta)) q) ?_ ?_
   ·rintro out_last hj;have h:=hJ7 out_last hj;refine sO kk oN [22,44] [(38,.agg [vL zf out_first,vL zf out_last,vB (zi.null x && zi.null y)])] ?_;refine tD ?_;obtain ⟨he0,he1⟩:=h;subst res fin;exact (endQ []).1
   ·refine sO kk oN [] [(103,vB (zi.null y))] ?_;refine cH 34 h (fun hb8 h=>?_) (fun hb8 h=>?_)
    ·obtain ⟨r0_2,hc9,h⟩:=h;refine rO kk (ca hc9 oN) [13,16,26,32,103] [(44,.agg [vL zf out_first,vL zf r0_2,vB (zi.null x && zi.null y)])] ?_;exact jD r0_2 [] h
    ·refine kD ?_;exact jD (zi.last y) [] h
  ·refine sO kk oN [] [(79,vB (zi.null x))] ?_;refine cH 26 h (fun hb10 h=>?_) (fun hb10 h=>?_)
   ·obtain ⟨r0_3,hc11,h⟩:=h;refine rO kk (ca hc11 oN) [79] [(44,.agg [vL zf r0_3,vL zf (zi.last y),vB (zi.null x && zi.null y)])] ?_;exact jD r0_3 [] h
   ·refine kD ?_;exact jD (zi.first x) [] h
 ·rcases eft (zi.null x) with hb1 | hb1
  ·refine sO kk (g1 hb1 113 oN) [] [(22,.ptr 44 0),(44,.agg [vL zf (zi.first x),vL zf (zi.last y),vB (zi.null y)])] ?_;exact Sem.cast (by try rw [hb1];kernel_rfl) hk0
  ·refine sO kk (g1 hb1 113 oN) [] [(22,.ptr 44 0),(44,.agg [vL zf (zi.first x),vL zf (zi.last y),vB false])] ?_;exact Sem.cast (by try rw [hb1];kernel_rfl) hk0
theorem zds (x:zb) (n:Int) (b:zk) (res:(List zi)) (fin:zk)
 (h:(∃ (Inv5:List zc→List (List Int)→List zi→Int→Prop) (mu6:List zc→List (List Int)→List zi→Int→Nat),Inv5 (zk.sets b) (zk.follow b) ([]) 0∧(∀ (o0_sets:List zc) (o0_follow:List (List Int)) (out:List zi) (t8:Int),Inv5 o0_sets o0_follow out t8→(((decide (t8 < n))=true→(∃ r0_2:zi,∃ o_2:zk,zao x ({ sets:=o0_sets,follow:=o0_follow }) r0_2 o_2∧((List.length out+(1:Nat)) * (56:Nat)≤(2:Nat) ^ (47:Nat))∧(Inv5 (zk.sets o_2) (zk.follow o_2) (out++[r0_2]) (w64 (t8+1))∧mu6 (zk.sets o_2) (zk.follow o_2) (out++[r0_2]) (w64 (t8+1)) < mu6 o0_sets o0_follow out t8)))∧((decide (t8 < n))=false→(res=out∧fin=({ sets:=o0_sets,follow:=o0_follow }))))))):zav x n b res fin:=by
 unfold zav;have kk:=cfOk [17] 18;refine fD (x:=bodyOf Tryz.f160) kk Tryz.func160 ?_;refine wkS [1,3,4,7] [(1,.ptr 3 0),(3,zy b),(4,zA x),(7,vi n)] (by kernel_rfl) ?_;refine sOE kk oN [4] [(13,.ptr 26 0),(19,.own 158 ([])),(26,zA x)] [(13,.ptr 26 0),(19,oL 158 zx ([])),(26,zA x)] ?_;refine qD ?_;refine sO kk oN [7] [(22,vi n),(25,vi 0)] ?_;refine bD (id:=0) ?_;obtain ⟨Inv5,mu6,h0Inv5,hInv5⟩:=h;refine loE [] (fun (q:List zc×List (List Int)×List zi×Int)=>(fun (o0_sets:List zc) (o0_follow:List (List Int)) (out:List zi) (t8:Int)=>([(3,.agg [oL 25 ze o0_sets,oL 40 zg o0_follow]),(19,oL 158 zx out),(25,vi t8)]:Sta)) q.1 q.2.1 q.2.2.1 q.2.2.2) (fun (q:List zc×List (List Int)×List zi×Int)=>Inv5 q.1 q.2.1 q.2.2.1 q.2.2.2) (fun (q:List zc×List (List Int)×List zi×Int)=>mu6 q.1 q.2.1 q.2.2.1 q.2.2.2) ((zk.sets b),(zk.follow b),([]),0) [] h0Inv5 ?_;rintro ⟨o0_sets,o0_follow,out,t8⟩ hi;have h:=hInv5 o0_sets o0_follow out t8 hi;refine sO kk oN [] [(28,vB (decide (t8 < n)))] ?_;refine qD ?_;refine cH 9 h (fun hb7 h=>?_) (fun hb7 h=>?_)
 ·refine kD ?_;show Sem _ _ _ _ _;refine wkD [28] ?_;refine qD ?_;refine bD (id:=1) ?_;obtain ⟨r0_2,o_2,hc8,h⟩:=h;obtain ⟨h9,h⟩:=h;refine rOE kk (ca hc8 (apo zx out h9 oN)) [] [(3,zy o_2),(19,.own 158 (List.map zx out++[FV.agg [FV.sl (List.map zf (zi.first r0_2)),FV.sl (List.map zf (zi.last r0_2)),FV.pv (Value.bool (zi.null r0_2))]]))] [(3,zy o_2),(19,oL 158 zx (out++[r0_2]))] ?_;show Sem _ _ _ _ _;refine rO kk oN [] [(25,vi (w64 (t8+1)))] ?_;exact lD ((zk.sets o_2),(zk.follow o_2),(out++[r0_2]),(w64 (t8+1))) [] h
 ·refine xD (i:=0) ?_;show Sem _ _ _ _ _;refine wkD [1,13,22,25,26,28] ?_;refine sO kk oN [] [] ?_;refine tD ?_;obtain ⟨he0,he1⟩:=h;subst res fin;exact (endQ []).1
end Go.Ev
namespace Go.Ev
open Go Go.Proofs
set_option maxRecDepth 8000
set_option maxHeartbeats 1000000
theorem W_place_maybe (x:zi) (res:zi)
 (h:(res=({ first:=zi.first x,last:=zi.last x,null:=true }))):zct x res:=by
 unfold zct;have kk:=cfOk [4] 5;refine fD (x:=bodyOf Tryz.f162) kk Tryz.func162 ?_;refine wkS [1] [(1,zD x)] (by kernel_rfl) ?_;refine sOE kk oN [1] [(4,.ptr 8 0),(7,.ptr 14 0),(8,zD x),(14,.agg [.own 3 ([]),.own 3 ([]),vB false])] [(4,.ptr 8 0),(7,.ptr 14 0),(8,zD x),(14,.agg [oL 3 zf ([]),oL 3 zf ([]),vB false])] ?_;refine sO kk oN [] [(8,.agg [vL zf (zi.first x),vL zf (zi.last x),vB true])] ?_;refine sO kk oN [4,8] [(14,.agg [vL zf (zi.first x),vL zf (zi.last x),vB true])] ?_;refine tD ?_;subst h;exact (endQ []).1
theorem zeB (x:zb) (b:zk) (res:zi) (fin:zk)
 (h:(∃ r0:Int,zc2 x r0∧(((r0 == 0)=true→(res=({ first:=[],last:=[],null:=true })∧fin=b))∧((r0 == 0)=false→(0:Nat) < List.length (zb.Kids x)∧(∃ r0_1:List zi,∃ o:zk,zav (List.getD (zb.Kids x) (0:Nat) default) (if (1:Int) > if zb.Hi x > zb.Lo x then zb.Hi x else zb.Lo x then (1:Int) else if zb.Hi x > zb.Lo x then zb.Hi x else zb.Lo x) b r0_1 o∧(∃ J14:List zc→List (List Int)→List zi→Prop,(∀ (o0_sets:List zc) (o0_follow:List (List Int)) (l:List zi),J14 o0_sets o0_follow l→(zag l∧(List.length l < 1099511627776∧∃ (Inv24:Nat→List zc→List (List Int)→List Int→List Int→Bool→Prop),Inv24 0 o0_sets o0_follow ([]) ([]) true∧(∀ (i:Nat) (y:zi),i < List.length l→l[List.length l - 1 - i]?=some y→∀ (o0_sets_1:List zc) (o0_follow_1:List (List Int)) (out_first:List Int) (out_last:List Int) (out_null:Bool),Inv24 i o0_sets_1 o0_follow_1 out_first out_last out_null→(∃ r0_6:zi,∃ o_4:zk,zaK y ({ first:=out_first,last:=out_last,null:=out_null }) ({ sets:=o0_sets_1,follow:=o0_follow_1 }) r0_6 o_4∧(((decide (zb.Hi x≥(0:Int)) && decide ((↑(List.length l):Int) - 1 - (↑i:Int)≥zb.Lo x))=true→(∃ r0_7:zi,zct r0_6 r0_7∧Inv24 (i+1) (zk.sets o_4) (zk.follow o_4) (zi.first r0_7) (zi.last r0_7) (zi.null r0_7)))∧((decide (zb.Hi x≥(0:Int)) && decide ((↑(List.length l):Int) - 1 - (↑i:Int)≥zb.Lo x))=false→Inv24 (i+1) (zk.sets o_4) (zk.follow o_4) (zi.first r0_6) (zi.last r0_6) (zi.null r0_6)))))∧(∀ (o0_sets_1:List zc) (o0_follow_1:List (List Int)) (out_first:List Int) (out_last:List Int) (out_null:Bool),Inv24 (List.length l) o0_sets_1 o0_follow_1 out_first out_last out_null→(res=({ first:=out_first,last:=out_last,null:=out_null })∧fin=({ sets:=o0_sets_1,follow:=o0_follow_1 }))))))∧(((decide (zb.Hi x < (0:Int)))=true→((0:Int)≤w64 ((↑(List.length r0_1):Int) - 1))∧(Int.toNat (w64 ((↑(List.length r0_1):Int) - 1)) < List.length r0_1)∧Int.toNat (w64 ((↑(List.length r0_1):Int) - 1)) < List.length r0_1∧Int.toNat (w64 ((↑(List.length r0_1):Int) - 1)) < List.length r0_1∧(∃ o_5:zk,zaX (zi.last (gd r0_1 (w64 ((↑(List.length r0_1):Int) - 1)))) (zi.first (gd r0_1 (w64 ((↑(List.length r0_1):Int) - 1)))) o o_5∧Int.toNat (w64 ((↑(List.length r0_1):Int) - 1)) < List.length r0_1∧(((zi.null (gd r0_1 (w64 ((↑(List.length r0_1):Int) - 1))))=true→((zi.null (gd r0_1 (w64 ((↑(List.length r0_1):Int) - 1))))=true→Int.toNat (w64 ((↑(List.length r0_1):Int) - 1)) < List.length r0_1)∧J14 (zk.sets o_5) (zk.follow o_5) (List.set r0_1 (Int.toNat (w64 ((↑(List.length r0_1):Int) - 1))) { first:=zi.first (gd r0_1 (w64 ((↑(List.length r0_1):Int) - 1))),last:=zi.last (gd r0_1 (w64 ((↑(List.length r0_1):Int) - 1))),null:=true }))∧((zi.null (gd r0_1 (w64 ((↑(List.length r0_1):Int) - 1))))=false→((zi.null (gd r0_1 (w64 ((↑(List.length r0_1):Int) - 1))))=false→Int.toNat (w64 ((↑(List.length r0_1):Int) - 1)) < List.length r0_1)∧J14 (zk.sets o_5) (zk.follow o_5) (List.set r0_1 (Int.toNat (w64 ((↑(List.length r0_1):Int) - 1))) { first:=zi.first (gd r0_1 (w64 ((↑(List.length r0_1):Int) - 1))),last:=zi.last (gd r0_1 (w64 ((↑(List.length r0_1):Int) - 1))),null:=zb.Lo x == 0 })))))∧((decide (zb.Hi x < (0:Int)))=false→J14 (zk.sets o) (zk.follow o) r0_1)))))))):zbo x b res fin:=by
 unfold zbo;have kk:=cfOk [75] 76;refine fD (x:=bodyOf Tryz.f145) kk Tryz.func145 ?_;refine wkS [1,3,4] [(1,.ptr 3 0),(3,zy b),(4,zA x)] (by kernel_rfl) ?_;refine sOE kk oN [1,4] [(7,.ptr 14 0),(10,.ptr 20 0),(13,.ptr 26 0),(14,.ptr 3 0),(20,zA x),(26,.agg [.own 3 ([]),.own 3 ([]),vB false])] [(7,.ptr 14 0),(10,.ptr 20 0),(13,.ptr 26 0),(14,.ptr 3 0),(20,zA x),(26,.agg [oL 3 zf ([]),oL 3 zf ([]),vB false])] ?_;refine qD ?_;obtain ⟨r0,hc0,h⟩:=h;refine sO kk (ca hc0 oN) [] [(37,vB (r0 == 0))] ?_;refine cH 12 h (fun hb1 h=>?_) (fun hb1 h=>?_)
 ·refine sOE kk oN [7,10,14,20,37] [(26,.agg [.own 3 ([]),.own 3 ([]),vB true])] [(26,.agg [oL 3 zf ([]),oL 3 zf ([]),vB true])] ?_;refine tD ?_;obtain ⟨he0,he1⟩:=h;subst res fin;exact (endQ [(26,0),(26,1)]).1
 ·refine kD ?_;show Sem _ _ _ _ _;refine wkD [37] ?_;obtain ⟨h2,h⟩:=h;obtain ⟨r0_1,o,hc3,h⟩:=h;refine sO kk (nd (show (0:Int)≤(0:Int) from by first | decide | rfl | trivial) (el (show (List.map zn (zb.Kids x))[(Int.toNat (0:Int):Nat)]?=some (zdJ (List.getD (zb.Kids x) (0:Nat) default)) from by have:=zb8 zn (zb.Kids x) ((0:Nat)) _ (zL _) h2;simpa only [nm,enq,zL] using this) (ca (Eq.mp (by unfold zav;(try simp only [List.drop_zero,List.take_length]);first | done | simp only [nm,enq]:zav (List.getD (zb.Kids x) (0:Nat) default) (if (1:Int) > if zb.Hi x > zb.Lo x then zb.Hi x else zb.Lo x then (1:Int) else if zb.Hi x > zb.Lo x then zb.Hi x else zb.Lo x) b r0_1 o=CallE Tryz.prog 160 [.ptr 3 0,.agg [vi (zb.Kind (List.getD (zb.Kids x) (0:Nat) default)),vI .u64 (zc.e0 (zb.Set (List.getD (zb.Kids x) (0:Nat) default))),vI .u64 (zc.e1 (zb.Set (List.getD (zb.Kids x) (0:Nat) default))),vI .u64 (zc.e2 (zb.Set (List.getD (zb.Kids x) (0:Nat) default))),vI .u64 (zc.e3 (zb.Set (List.getD (zb.Kids x) (0:Nat) default))),vi (zb.Lo (List.getD (zb.Kids x) (0:Nat) default)),vi (zb.Hi (List.getD (zb.Kids x) (0:Nat) default)),vL zn (zb.Kids (List.getD (zb.Kids x) (0:Nat) default))],vi (if true=true then if (1:Int) > if true=true then if zb.Hi x > zb.Lo x then zb.Hi x else zb.Lo x else if zb.Hi x < zb.Lo x then zb.Hi x else zb.Lo x then (1:Int) else if true=true then if zb.Hi x > zb.Lo x then zb.Hi x else zb.Lo x else if zb.Hi x < zb.Lo x then zb.Hi x else zb.Lo x else if (1:Int) < if true=true then if zb.Hi x > zb.Lo x then zb.Hi x else zb.Lo x else if zb.Hi x < zb.Lo x then zb.Hi x else zb.Lo x then (1:Int) else if true=true then if zb.Hi x > zb.Lo x then zb.Hi x else zb.Lo x else if zb.Hi x < zb.Lo x then zb.Hi x else zb.Lo x)] [.agg [oL 25 ze (zk.sets b),oL 40 zg (zk.follow b)]] (oL 158 zx r0_1) [zy o]) hc3) oN))) [] [(3,zy o),(16,oL 158 zx r0_1)] ?_;refine sOE kk oN [] [(19,.ptr 38 0),(38,.agg [.own 3 ([]),.own 3 ([]),vB true])] [(19,.ptr 38 0),(38,.agg [oL 3 zf ([]),oL 3 zf ([]),vB true])] ?_;obtain ⟨J14,hJ14,h⟩:=h;refine sjE (fun (q:List zc×List (List Int)×List zi)=>J14 q.1 q.2.1 q.2.2) [] (fun (q:List zc×List (List Int)×List zi)=>(fun (o0_sets:List zc) (o0_follow:List (List Int)) (l:List zi)=>([(3,.agg [oL 25 ze o0_sets,oL 40 zg o0_follow]),(16,oL 158 zx l)]:Sta)) q.1 q.2.1 q.2.2) ?_ ?_
  ·rintro ⟨o0_sets,o0_follow,l⟩ hj;have h:=hJ14 o0_sets o0_follow l hj;refine qD ?_;obtain ⟨hc15,h⟩:=h;refine sO kk (ca (Eq.mp (by unfold zag;(try simp only [List.drop_zero,List.take_length]);first | done | simp only [nm,enq]:zag l=CallE Tryz.prog 161 [.f (FV.sl (List.take (List.length (List.map zx l)) (List.drop (0:Nat) (List.map zx l))))] [] (.clo 169 [.fp (fL zx l) 0]) []) hc15) oN) [16] [(172,.clo 169 [.fp (fL zx l) 0])] ?_;refine bD (id:=0) ?_;obtain ⟨hl25,Inv24,h0Inv24,hRInv24,hDInv24⟩:=h;refine Sem.range (α:=zi) (σ:=List zc×List (List Int)×List Int×List Int×Bool) (c:=(cf [75] 76)) (by rfl) (tg:=57) (p0:=58) (p1:=59) (by kernel_rfl) (xs:=l) (by kernel_rfl) back_ok_169 (ey:=(fun (y:zi)=>(zef y:FV))) (sz:=3) (fun y=>zaa y) (fun y=>by simp [FV.fits,FV.size,FV.cells,FV.one,zaa]) (by omega) [(7,.ptr 14 0),(10,.ptr 20 0),(13,.ptr 26 0),(19,.ptr 38 0)] [3,14,20,26,38] (fun (q:List zc×List (List Int)×List Int×List Int×Bool)=>(fun (o0_sets_1:List zc) (o0_follow_1:List (List Int)) (out_first:List Int) (out_last:List Int) (out_null:Bool)=>([.agg [oL 25 ze o0_sets_1,oL 40 zg o0_follow_1],.ptr 3 0,zA x,.agg [oL 3 zf ([]),oL 3 zf ([]),vB false],.agg [vL zf out_first,vL zf out_last,vB out_null]]:List AV)) q.1 q.2.1 q.2.2.1 q.2.2.2.1 q.2.2.2.2) (fun (i:Nat) (q:List zc×List (List Int)×List Int×List Int×Bool)=>Inv24 i q.1 q.2.1 q.2.2.1 q.2.2.2.1 q.2.2.2.2) (o0_sets,o0_follow,([]),([]),true) ((wkE (G':=[(3,.agg [oL 25 ze o0_sets,oL 40 zg o0_follow]),(7,.ptr 14 0),(10,.ptr 20 0),(13,.ptr 26 0),(14,.ptr 3 0),(19,.ptr 38 0),(20,zA x),(26,.agg [oL 3 zf ([]),oL 3 zf ([]),vB false]),(38,.agg [vL zf ([]),vL zf ([]),vB true])]) [(38,0),(38,1)] [3,7,10,13,14,19,20,26,38] (by kernel_rfl)).trans (Wk.pick [7,10,13,19,3,14,20,26,38] (by kernel_rfl))) h0Inv24 (by rfl) (fun q=>by rfl) (by rfl) (by decide) (fun q q'=>by rfl) (Nat.le_of_ble_eq_true rfl) (Nat.le_of_ble_eq_true rfl) (by decide) ?_ ?_
   ·rintro i ⟨o0_sets_1,o0_follow_1,out_first,out_last,out_null⟩ y hi hy hinv;have h:=hRInv24 i y hi hy o0_sets_1 o0_follow_1 out_first out_last out_null hinv;refine Sem.weak (Wk.pick [3,6,7,9,10,12,13,15,19,175,178] (G':=[(3,.agg [oL 25 ze o0_sets_1,oL 40 zg o0_follow_1]),(6,.ptr 3 0),(7,.ptr 6 0),(9,zA x),(10,.ptr 9 0),(12,.agg [oL 3 zf ([]),oL 3 zf ([]),vB false]),(13,.ptr 12 0),(15,.agg [vL zf out_first,vL zf out_last,vB out_null]),(19,.ptr 15 0),(175,vi ((↑(List.length l):Int) - 1 - (↑i:Int))),(178,zD y)]) (by kernel_rfl)) ?_;show Sem _ (cfr [75] 76) (sq1 (sq1 (sq2 (sq1 (sq2 (sq2 (sq2 (sq2 (sq2 (bodyOf Tryz.f145)))))))))) _ _;have kr:=cfrOk [75] 76;refine sO kr oN [13,175] [(25,vi ((↑(List.length l):Int) - 1 - (↑i:Int)))] ?_;refine rO kr oN [178] [(28,.ptr 56 0),(56,zD y)] ?_;refine ⟨rfl,?_⟩;show Sem _ (cfr [75] 76) (sq2 (sq1 (sq2 (sq1 (sq2 (sq2 (sq2 (sq2 (sq2 (bodyOf Tryz.f145)))))))))) _ _;refine bD (id:=1) ?_;obtain ⟨r0_6,o_4,hc27,h⟩:=h;refine sO kr (ca hc27 oN) [7,28,56] [(3,zy o_4),(15,zD r0_6)] ?_;refine sM [10,25] [(217,vB (decide (zb.Hi x≥(0:Int)) && decide ((↑(List.length l):Int) - 1 - (↑i:Int)≥zb.Lo x)))] ?_ (fun hk0=>?_)
    ·refine cH 72 h (fun hb29 h=>?_) (fun hb29 h=>?_)
     ·obtain ⟨r0_7,hc30,h⟩:=h;refine rO kr (ca hc30 oN) [19,217] [(15,zD r0_7)] ?_;exact rndE (wkE [] [3,6,9,12,15] (by rfl)) (by kernel_rfl) ⟨((zk.sets o_4),(zk.follow o_4),(zi.first r0_7),(zi.last r0_7),(zi.null r0_7)),rfl,h⟩
     ·refine kD ?_;exact rndE (wkE [] [3,6,9,12,15] (by rfl)) (by kernel_rfl) ⟨((zk.sets o_4),(zk.follow o_4),(zi.first r0_6),(zi.last r0_6),(zi.null r0_6)),rfl,h⟩
    ·rcases eft (decide (zb.Hi x≥(0:Int))) with hb28 | hb28
     ·refine sO kr (g1 hb28 11113 oN) [10,25] [(217,vB (decide ((↑(List.length l):Int) - 1 - (↑i:Int)≥zb.Lo x)))] ?_;exact Sem.cast (by try rw [hb28];kernel_rfl) hk0
     ·refine sO kr (g1 hb28 11113 oN) [10,25] [(217,vB false)] ?_;exact Sem.cast (by try rw [hb28];kernel_rfl) hk0
   ·rintro ⟨o0_sets_1,o0_follow_1,out_first,out_last,out_null⟩ hinv;have h:=hDInv24 o0_sets_1 o0_follow_1 out_first out_last out_null hinv;refine ⟨[(3,.agg [oL 25 ze o0_sets_1,oL 40 zg o0_follow_1]),(13,.ptr 26 0),(19,.ptr 38 0),(26,.agg [oL 3 zf ([]),oL 3 zf ([]),vB false]),(38,.agg [vL zf out_first,vL zf out_last,vB out_null])],Wk.pick [3,13,19,26,38] (by kernel_rfl),?_⟩;show Sem _ _ _ _ _;refine sO kk oN [19,38] [(26,.agg [vL zf out_first,vL zf out_last,vB out_null])] ?_;refine tD ?_;obtain ⟨he0,he1⟩:=h;subst res fin;exact (endQ []).1
  ·refine sO kk oN [] [(85,vB (decide (zb.Hi x < (0:Int))))] ?_;refine cH 28 h (fun hb31 h=>?_) (fun hb31 h=>?_)
   ·obtain ⟨h32,h⟩:=h;obtain ⟨h33,h⟩:=h;refine sOE kk (nd (show (0:Int)≤w64 ((↑(List.length (List.map zx r0_1)):Int) - 1) from by simpa only [nm] using h32) (nd (show Int.toNat (w64 ((↑(List.length (List.map zx r0_1)):Int) - 1)) < List.length (List.map zx r0_1) from by simpa only [nm] using h33) oN)) [85] [(22,AV.ep (16:Nat) (0:Nat) ((0:Nat)+Int.toNat (w64 ((↑(List.length (List.map zx r0_1)):Int) - 1))) (0:Nat))] [(22,AV.ep (16:Nat) (0:Nat) (Int.toNat (w64 ((↑(List.length r0_1):Int) - 1))) (0:Nat))] ?_;obtain ⟨h34,h⟩:=h;obtain ⟨h35,h⟩:=h;obtain ⟨o_5,hc36,h⟩:=h;refine sO kk (el (zb8 zx r0_1 (Int.toNat (w64 ((↑(List.length r0_1):Int) - 1))) _ (zaa _) h34) (el (zb8 zx r0_1 (Int.toNat (w64 ((↑(List.length r0_1):Int) - 1))) _ (zaa _) h35) (ca hc36 oN))) [] [(3,zy o_5)] ?_;obtain ⟨h37,h⟩:=h;rcases eft (zi.null (gd r0_1 (w64 ((↑(List.length r0_1):Int) - 1)))) with hb38 | hb38
    ·have h:=h.1 hb38;obtain ⟨h40,h⟩:=h;refine rOE kk (el (zb8 zx r0_1 (Int.toNat (w64 ((↑(List.length r0_1):Int) - 1))) _ (zaa _) h37) (g1 hb38 2223 (el (zb8 zx r0_1 (Int.toNat (w64 ((↑(List.length r0_1):Int) - 1))) _ (zaa _) (h40 hb38)) oN))) [22] [(16,.own 158 (List.set (List.map zx r0_1) (Int.toNat (w64 ((↑(List.length r0_1):Int) - 1))) (FV.agg [FV.sl (List.map zf (zi.first (gd r0_1 (w64 ((↑(List.length r0_1):Int) - 1))))),FV.sl (List.map zf (zi.last (gd r0_1 (w64 ((↑(List.length r0_1):Int) - 1))))),FV.pv (Value.bool true)])))] [(16,oL 158 zx (List.set r0_1 (Int.toNat (w64 ((↑(List.length r0_1):Int) - 1))) { first:=zi.first (gd r0_1 (w64 ((↑(List.length r0_1):Int) - 1))),last:=zi.last (gd r0_1 (w64 ((↑(List.length r0_1):Int) - 1))),null:=true }))] ?_;exact jD ((zk.sets o_5),(zk.follow o_5),(List.set r0_1 (Int.toNat (w64 ((↑(List.length r0_1):Int) - 1))) { first:=zi.first (gd r0_1 (w64 ((↑(List.length r0_1):Int) - 1))),last:=zi.last (gd r0_1 (w64 ((↑(List.length r0_1):Int) - 1))),null:=true })) [] h
    ·have h:=h.2 hb38;obtain ⟨h39,h⟩:=h;refine rOE kk (el (zb8 zx r0_1 (Int.toNat (w64 ((↑(List.length r0_1):Int) - 1))) _ (zaa _) h37) (g1 hb38 2223 (el (zb8 zx r0_1 (Int.toNat (w64 ((↑(List.length r0_1):Int) - 1))) _ (zaa _) (h39 hb38)) oN))) [22] [(16,.own 158 (List.set (List.map zx r0_1) (Int.toNat (w64 ((↑(List.length r0_1):Int) - 1))) (FV.agg [FV.sl (List.map zf (zi.first (gd r0_1 (w64 ((↑(List.length r0_1):Int) - 1))))),FV.sl (List.map zf (zi.last (gd r0_1 (w64 ((↑(List.length r0_1):Int) - 1))))),FV.pv (Value.bool (zb.Lo x == 0))])))] [(16,oL 158 zx (List.set r0_1 (Int.toNat (w64 ((↑(List.length r0_1):Int) - 1))) { first:=zi.first (gd r0_1 (w64 ((↑(List.length r0_1):Int) - 1))),last:=zi.last (gd r0_1 (w64 ((↑(List.length r0_1):Int) - 1))),null:=zb.Lo x == 0 }))] ?_;exact jD ((zk.sets o_5),(zk.follow o_5),(List.set r0_1 (Int.toNat (w64 ((↑(List.length r0_1):Int) - 1))) { first:=zi.first (gd r0_1 (w64 ((↑(List.length r0_1):Int) - 1))),last:=zi.last (gd r0_1 (w64 ((↑(List.length r0_1):Int) - 1))),null:=zb.Lo x == 0 })) [] h
   ·refine kD ?_;exact jD ((zk.sets o),(zk.follow o),r0_1) [] h
theorem zdQ (x:zb) (b:zk) (res:zi) (fin:zk)
 (h:(((zb.Kind x == (2:Int))=true→(∃ r0:zi,∃ o:zk,zbz (zb.Set x) b r0 o∧(res=r0∧fin=o)))∧((zb.Kind x == (2:Int))=false→(((zb.Kind x == (3:Int))=true→(∃ (Inv12:List zc→List (List Int)→List Int→List Int→Bool→Int→Prop) (mu13:List zc→List (List Int)→List Int→List Int→Bool→Int→Nat),Inv12 (zk.sets b) (zk.follow b) ([]) ([]) true 0∧(∀ (o0_sets:List zc) (o0_follow:List (List Int)) (out_first:List Int) (out_last:List Int) (out_null:Bool) (t26:Int),Inv12 o0_sets o0_follow out_first out_last out_null t26→(((decide (t26 < (↑(List.length (zb.Kids x)):Int)))=true→((0:Int)≤t26)∧t26 < ↑(List.length (zb.Kids x))∧(∃ r0_5:zi,∃ o_5:zk,zao (gd (zb.Kids x) t26) ({ sets:=o0_sets,follow:=o0_follow }) r0_5 o_5∧(∃ r0_6:zi,∃ o_6:zk,zaK ({ first:=out_first,last:=out_last,null:=out_null }) r0_5 o_5 r0_6 o_6∧(Inv12 (zk.sets o_6) (zk.follow o_6) (zi.first r0_6) (zi.last r0_6) (zi.null r0_6) (w64 (t26+1))∧mu13 (zk.sets o_6) (zk.follow o_6) (zi.first r0_6) (zi.last r0_6) (zi.null r0_6) (w64 (t26+1)) < mu13 o0_sets o0_follow out_first out_last out_null t26))))∧((decide (t26 < (↑(List.length (zb.Kids x)):Int)))=false→(res=({ first:=out_first,last:=out_last,null:=out_null })∧fin=({ sets:=o0_sets,follow:=o0_follow })))))))∧((zb.Kind x == (3:Int))=false→(((zb.Kind x == (4:Int))=true→(∃ (Inv32:List zc→List (List Int)→List Int→List Int→Bool→Int→Prop) (mu33:List zc→List (List Int)→List Int→List Int→Bool→Int→Nat),Inv32 (zk.sets b) (zk.follow b) ([]) ([]) false 0∧(∀ (o0_sets_1:List zc) (o0_follow_1:List (List Int)) (out_first_1:List Int) (out_last_1:List Int) (out_null_1:Bool) (t43:Int),Inv32 o0_sets_1 o0_follow_1 out_first_1 out_last_1 out_null_1 t43→(((decide (t43 < (↑(List.length (zb.Kids x)):Int)))=true→((0:Int)≤t43)∧t43 < ↑(List.length (zb.Kids x))∧(∃ r0_13:zi,∃ o_9:zk,zao (gd (zb.Kids x) t43) ({ sets:=o0_sets_1,follow:=o0_follow_1 }) r0_13 o_9∧(∃ r0_14:List Int,zah out_first_1 (zi.first r0_13) r0_14∧(∃ r0_15:List Int,zah out_last_1 (zi.last r0_13) r0_15∧(Inv32 (zk.sets o_9) (zk.follow o_9) r0_14 r0_15 (out_null_1 || zi.null r0_13) (w64 (t43+1))∧mu33 (zk.sets o_9) (zk.follow o_9) r0_14 r0_15 (out_null_1 || zi.null r0_13) (w64 (t43+1)) < mu33 o0_sets_1 o0_follow_1 out_first_1 out_last_1 out_null_1 t43)))))∧((decide (t43 < (↑(List.length (zb.Kids x)):Int)))=false→(res=({ first:=out_first_1,last:=out_last_1,null:=out_null_1 })∧fin=({ sets:=o0_sets_1,follow:=o0_follow_1 })))))))∧((zb.Kind x == (4:Int))=false→(((zb.Kind x == (5:Int))=true→(∃ r0_16:zi,∃ o_10:zk,zbo x b r0_16 o_10∧(res=r0_16∧fin=o_10)))∧((zb.Kind x == (5:Int))=false→(res=({ first:=[],last:=[],null:=true })∧fin=b)))))))))):zao x b res fin:=by
 unfold zao;have kk:=cfOk [37,68] 75;refine fD (x:=bodyOf Tryz.f126) kk Tryz.func126 ?_;refine wkS [1,3,4] [(1,.ptr 3 0),(3,zy b),(4,zA x)] (by kernel_rfl) ?_;refine sOE kk oN [4] [(10,.ptr 20 0),(13,.ptr 26 0),(20,zA x),(26,.agg [.own 3 ([]),.own 3 ([]),vB false])] [(10,.ptr 20 0),(13,.ptr 26 0),(20,zA x),(26,.agg [oL 3 zf ([]),oL 3 zf ([]),vB false])] ?_;refine qD ?_;refine sO kk oN [] [(40,vi (zb.Kind x))] ?_;refine bD (id:=0) ?_;refine sO kk oN [] [(43,vB (zb.Kind x == (2:Int)))] ?_;refine cH 14 h (fun hb0 h=>?_) (fun hb0 h=>?_)
 ·obtain ⟨r0,o,hc1,h⟩:=h;refine sO kk (ca hc1 oN) [1,10,20,40,43] [(3,zy o),(26,zD r0)] ?_;refine tD ?_;obtain ⟨he0,he1⟩:=h;subst res fin;exact (endQ []).1
 ·refine sO kk oN [43] [(61,vB (zb.Kind x == (3:Int)))] ?_;refine cH 20 h (fun hb2 h=>?_) (fun hb2 h=>?_)
  ·refine sOE kk oN [40,61] [(16,.ptr 32 0),(32,.agg [.own 3 ([]),.own 3 ([]),vB true])] [(16,.ptr 32 0),(32,.agg [oL 3 zf ([]),oL 3 zf ([]),vB true])] ?_;refine qD ?_;refine sOE kk oN [10,20] [(73,vL zn (zb.Kids x)),(76,vi ((↑(List.length (List.map zn (zb.Kids x))):Int))),(79,vi 0)] [(73,vL zn (zb.Kids x)),(76,vi ((↑(List.length (zb.Kids x)):Int))),(79,vi 0)] ?_;refine bD (id:=1) ?_;obtain ⟨Inv12,mu13,h0Inv12,hInv12⟩:=h;refine loE [] (fun (q:List zc×List (List Int)×List Int×List Int×Bool×Int)=>(fun (o0_sets:List zc) (o0_follow:List (List Int)) (out_first:List Int) (out_last:List Int) (out_null:Bool) (t26:Int)=>([(3,.agg [oL 25 ze o0_sets,oL 40 zg o0_follow]),(32,.agg [vL zf out_first,vL zf out_last,vB out_null]),(79,vi t26)]:Sta)) q.1 q.2.1 q.2.2.1 q.2.2.2.1 q.2.2.2.2.1 q.2.2.2.2.2) (fun (q:List zc×List (List Int)×List Int×List Int×Bool×Int)=>Inv12 q.1 q.2.1 q.2.2.1 q.2.2.2.1 q.2.2.2.2.1 q.2.2.2.2.2) (fun (q:List zc×List (List Int)×List Int×List Int×Bool×Int)=>mu13 q.1 q.2.1 q.2.2.1 q.2.2.2.1 q.2.2.2.2.1 q.2.2.2.2.2) ((zk.sets b),(zk.follow b),([]),([]),true,0) [(32,0),(32,1)] h0Inv12 ?_;rintro ⟨o0_sets,o0_follow,out_first,out_last,out_null,t26⟩ hi;have h:=hInv12 o0_sets o0_follow out_first out_last out_null t26 hi;refine sO kk oN [] [(82,vB (decide (t26 < (↑(List.length (zb.Kids x)):Int))))] ?_;refine qD ?_;refine cH 27 h (fun hb14 h=>?_) (fun hb14 h=>?_)
   ·refine kD ?_;show Sem _ _ _ _ _;refine wkD [82] ?_;refine qD ?_;refine bD (id:=2) ?_;obtain ⟨h15,h⟩:=h;obtain ⟨h16,h⟩:=h;refine sO kk (nd h15 (el (zF zn (zb.Kids x) t26 _ (zL _) h15 h16) oN)) [] [(22,.ptr 44 0),(44,zA (gd (zb.Kids x) t26))] ?_;obtain ⟨r0_5,o_5,hc17,h⟩:=h;obtain ⟨r0_6,o_6,hc18,h⟩:=h;refine rO kk (ca hc17 (ca hc18 oN)) [22,44] [(3,zy o_6),(32,zD r0_6)] ?_;show Sem _ _ _ _ _;refine rO kk oN [] [(79,vi (w64 (t26+1)))] ?_;exact lD ((zk.sets o_6),(zk.follow o_6),(zi.first r0_6),(zi.last r0_6),(zi.null r0_6),(w64 (t26+1))) [] h
   ·refine xD (i:=1) ?_;show Sem _ _ _ _ _;refine wkD [1,73,76,79,82] ?_;refine sO kk oN [16,32] [(26,.agg [vL zf out_first,vL zf out_last,vB out_null])] ?_;refine tD ?_;obtain ⟨he0,he1⟩:=h;subst res fin;exact (endQ []).1
  ·refine sO kk oN [61] [(115,vB (zb.Kind x == (4:Int)))] ?_;refine cH 38 h (fun hb19 h=>?_) (fun hb19 h=>?_)
   ·refine sOE kk oN [40,115] [(25,.ptr 50 0),(50,.agg [.own 3 ([]),.own 3 ([]),vB false])] [(25,.ptr 50 0),(50,.agg [oL 3 zf ([]),oL 3 zf ([]),vB false])] ?_;refine qD ?_;refine sOE kk oN [10,20] [(124,vL zn (zb.Kids x)),(127,vi ((↑(List.length (List.map zn (zb.Kids x))):Int))),(130,vi 0)] [(124,vL zn (zb.Kids x)),(127,vi ((↑(List.length (zb.Kids x)):Int))),(130,vi 0)] ?_;refine bD (id:=3) ?_;obtain ⟨Inv32,mu33,h0Inv32,hInv32⟩:=h;refine loE [] (fun (q:List zc×List (List Int)×List Int×List Int×Bool×Int)=>(fun (o0_sets_1:List zc) (o0_follow_1:List (List Int)) (out_first_1:List Int) (out_last_1:List Int) (out_null_1:Bool) (t43:Int)=>([(3,.agg [oL 25 ze o0_sets_1,oL 40 zg o0_follow_1]),(50,.agg [vL zf out_first_1,vL zf out_last_1,vB out_null_1]),(130,vi t43)]:Sta)) q.1 q.2.1 q.2.2.1 q.2.2.2.1 q.2.2.2.2.1 q.2.2.2.2.2) (fun (q:List zc×List (List Int)×List Int×List Int×Bool×Int)=>Inv32 q.1 q.2.1 q.2.2.1 q.2.2.2.1 q.2.2.2.2.1 q.2.2.2.2.2) (fun (q:List zc×List (List Int)×List Int×List Int×Bool×Int)=>mu33 q.1 q.2.1 q.2.2.1 q.2.2.2.1 q.2.2.2.2.1 q.2.2.2.2.2) ((zk.sets b),(zk.follow b),([]),([]),false,0) [(50,0),(50,1)] h0Inv32 ?_;rintro ⟨o0_sets_1,o0_follow_1,out_first_1,out_last_1,out_null_1,t43⟩ hi;have h:=hInv32 o0_sets_1 o0_follow_1 out_first_1 out_last_1 out_null_1 t43 hi;refine sO kk oN [] [(133,vB (decide (t43 < (↑(List.length (zb.Kids x)):Int))))] ?_;refine qD ?_;refine cH 44 h (fun hb34 h=>?_) (fun hb34 h=>?_)
    ·refine kD ?_;show Sem _ _ _ _ _;refine wkD [133] ?_;refine qD ?_;refine bD (id:=4) ?_;obtain ⟨h35,h⟩:=h;obtain ⟨h36,h⟩:=h;refine sO kk (nd h35 (el (zF zn (zb.Kids x) t43 _ (zL _) h35 h36) oN)) [] [(31,.ptr 62 0),(62,zA (gd (zb.Kids x) t43))] ?_;obtain ⟨r0_13,o_9,hc37,h⟩:=h;refine sO kk (ca hc37 oN) [31,62] [(3,zy o_9),(34,.ptr 68 0),(68,zD r0_13)] ?_;obtain ⟨r0_14,hc38,h⟩:=h;obtain ⟨r0_15,hc39,h⟩:=h;refine rM [34,68] [(50,.agg [vL zf r0_14,vL zf r0_15,vB (out_null_1 || zi.null r0_13)])] ?_ (fun hk0=>?_)
     ·show Sem _ _ _ _ _;refine rO kk oN [] [(130,vi (w64 (t43+1)))] ?_;exact lD ((zk.sets o_9),(zk.follow o_9),r0_14,r0_15,(out_null_1 || zi.null r0_13),(w64 (t43+1))) [] h
     ·rcases eft (out_null_1) with hb40 | hb40
      ·refine rO kk (ca hc38 (ca hc39 (g1 hb40 223 oN))) [34,68] [(50,.agg [vL zf r0_14,vL zf r0_15,vB true])] ?_;exact kcast (by try rw [hb40];kernel_rfl) hk0
      ·refine rO kk (ca hc38 (ca hc39 (g1 hb40 223 oN))) [34,68] [(50,.agg [vL zf r0_14,vL zf r0_15,vB (zi.null r0_13)])] ?_;exact kcast (by try rw [hb40];kernel_rfl) hk0
    ·refine xD (i:=3) ?_;show Sem _ _ _ _ _;refine wkD [1,124,127,130,133] ?_;refine sO kk oN [25,50] [(26,.agg [vL zf out_first_1,vL zf out_last_1,vB out_null_1])] ?_;refine tD ?_;obtain ⟨he0,he1⟩:=h;subst res fin;exact (endQ []).1
   ·refine sO kk oN [40,115] [(208,vB (zb.Kind x == (5:Int)))] ?_;refine cH 69 h (fun hb41 h=>?_) (fun hb41 h=>?_)
    ·obtain ⟨r0_16,o_10,hc42,h⟩:=h;refine sO kk (ca hc42 oN) [1,10,20,208] [(3,zy o_10),(26,zD r0_16)] ?_;refine tD ?_;obtain ⟨he0,he1⟩:=h;subst res fin;exact (endQ []).1
    ·refine kD ?_;show Sem _ _ _ _ _;refine wkD [1,10,20,208] ?_;refine sOE kk oN [] [(26,.agg [.own 3 ([]),.own 3 ([]),vB true])] [(26,.agg [oL 3 zf ([]),oL 3 zf ([]),vB true])] ?_;refine tD ?_;obtain ⟨he0,he1⟩:=h;subst res fin;exact (endQ [(26,0),(26,1)]).1
theorem W_place_Of (x:zb) (res:za) (res_1:Int)
 (h:(∃ r0:Bool,zcx x r0∧(((!r0)=true→(res=({ Sets:=[],First:=[],Last:=[],Follow:=[],Null:=false })∧res_1=1))∧((!r0)=false→(∃ r0_1:zi,∃ o:zk,zao x ({ sets:=[],follow:=[] }) r0_1 o∧(res=({ Sets:=zk.sets o,First:=zi.first r0_1,Last:=zi.last r0_1,Follow:=zk.follow o,Null:=zi.null r0_1 })∧res_1=0)))))):zd4 x res res_1:=by
 unfold zd4;have kk:=cfOk [] 30;refine fD (x:=bodyOf Tryz.f102) kk Tryz.func102 ?_;refine wkS [1] [(1,zA x)] (by kernel_rfl) ?_;refine sOE kk oN [1] [(4,.ptr 8 0),(7,.ptr 14 0),(8,zA x),(14,.agg [.own 25 ([]),.own 3 ([]),.own 3 ([]),.own 40 ([]),vB false])] [(4,.ptr 8 0),(7,.ptr 14 0),(8,zA x),(14,.agg [oL 25 ze ([]),oL 3 zf ([]),oL 3 zf ([]),oL 40 zg ([]),vB false])] ?_;refine qD ?_;obtain ⟨r0,hc0,h⟩:=h;refine sO kk (ca hc0 oN) [] [(25,vB (!r0))] ?_;refine cH 8 h (fun hb1 h=>?_) (fun hb1 h=>?_)
 ·refine sOE kk oN [4,8,25] [(10,vi 1),(14,.agg [.own 25 ([]),.own 3 ([]),.own 3 ([]),.own 40 ([]),vB false])] [(10,vi 1),(14,.agg [oL 25 ze ([]),oL 3 zf ([]),oL 3 zf ([]),oL 40 zg ([]),vB false])] ?_;refine tD ?_;obtain ⟨he0,he1⟩:=h;subst res res_1;exact (endD [] (.tup [.agg [.f (FV.sl (List.take (List.length (List.map ze [])) (List.drop (0:Nat) (List.map ze [])))),.f (FV.sl (List.take (List.length (List.map zf [])) (List.drop (0:Nat) (List.map zf [])))),.f (FV.sl (List.take (List.length (List.map zf [])) (List.drop (0:Nat) (List.map zf [])))),.f (FV.sl (List.take (List.length (List.map zg [])) (List.drop (0:Nat) (List.map zg [])))),vB false],vi 1]) []).1
 ·refine kD ?_;show Sem _ _ _ _ _;refine wkD [25] ?_;refine sOE kk oN [] [(13,.ptr 68 0),(68,.agg [.own 25 ([]),.own 40 ([])])] [(13,.ptr 68 0),(68,.agg [oL 25 ze ([]),oL 40 zg ([])])] ?_;obtain ⟨r0_1,o,hc2,h⟩:=h;refine sO kk (ca hc2 oN) [4,8] [(16,.ptr 32 0),(32,zD r0_1),(68,zy o)] ?_;refine sOE kk oN [13,16,32,68] [(10,vi 0),(14,.agg [.f (FV.sl (List.take (List.length (List.map ze (zk.sets o))) (List.drop (0:Nat) (List.map ze (zk.sets o))))),vL zf (zi.first r0_1),vL zf (zi.last r0_1),.f (FV.sl (List.take (List.length (List.map zg (zk.follow o))) (List.drop (0:Nat) (List.map zg (zk.follow o))))),vB (zi.null r0_1)])] [(10,vi 0),(14,.agg [vL ze (zk.sets o),vL zf (zi.first r0_1),vL zf (zi.last r0_1),vL zg (zk.follow o),vB (zi.null r0_1)])] ?_;refine tD ?_;obtain ⟨he0,he1⟩:=h;subst res res_1;exact (endQ []).1
theorem W_auto_moved (l:(List Int)) (by0:Int) (res:(List Int))
 (h:(∃ (Inv6:List Int→Int→Prop) (mu7:List Int→Int→Nat),Inv6 ([]) 0∧(∀ (out:List Int) (t9:Int),Inv6 out t9→(((decide (t9 < (↑(List.length l):Int)))=true→((0:Int)≤t9)∧t9 < ↑(List.length l)∧((List.length out+(1:Nat)) * (8:Nat)≤(2:Nat) ^ (47:Nat))∧(Inv6 (out++[w64 (gd l t9+by0)]) (w64 (t9+1))∧mu7 (out++[w64 (gd l t9+by0)]) (w64 (t9+1)) < mu7 out t9))∧((decide (t9 < (↑(List.length l):Int)))=false→(res=out)))))):zbS l by0 res:=by
 unfold zbS;have kk:=cfOk [20] 21;refine fD (x:=bodyOf Tryz.f115) kk Tryz.func115 ?_;refine wkS [1,4] [(1,vL zf l),(4,vi by0)] (by kernel_rfl) ?_;refine sOE kk oN [] [(13,.own 3 ([]))] [(13,oL 3 zf ([]))] ?_;refine qD ?_;refine sOE kk oN [1] [(22,vL zf l),(25,vi ((↑(List.length (List.map zf l)):Int))),(28,vi 0)] [(22,vL zf l),(25,vi ((↑(List.length l):Int))),(28,vi 0)] ?_;refine bD (id:=0) ?_;obtain ⟨Inv6,mu7,h0Inv6,hInv6⟩:=h;refine loE [] (fun (q:List Int×Int)=>(fun (out:List Int) (t9:Int)=>([(13,oL 3 zf out),(28,vi t9)]:Sta)) q.1 q.2) (fun (q:List Int×Int)=>Inv6 q.1 q.2) (fun (q:List Int×Int)=>mu7 q.1 q.2) (([]),0) [] h0Inv6 ?_;rintro ⟨out,t9⟩ hi;have h:=hInv6 out t9 hi;refine sO kk oN [] [(31,vB (decide (t9 < (↑(List.length l):Int))))] ?_;refine qD ?_;refine cH 10 h (fun hb8 h=>?_) (fun hb8 h=>?_)
 ·refine kD ?_;show Sem _ _ _ _ _;refine wkD [31] ?_;refine qD ?_;refine bD (id:=1) ?_;obtain ⟨h9,h⟩:=h;obtain ⟨h10,h⟩:=h;refine sO kk (nd h9 (el (zF zf l t9 _ rfl h9 h10) oN)) [] [(19,vi (gd l t9))] ?_;obtain ⟨h11,h⟩:=h;refine rOE kk (apo zf out h11 oN) [19] [(13,.own 3 (List.map zf out++[FV.pv (Value.int IntKind.i64 (w64 (gd l t9+by0)))]))] [(13,oL 3 zf (out++[w64 (gd l t9+by0)]))] ?_;show Sem _ _ _ _ _;refine rO kk oN [] [(28,vi (w64 (t9+1)))] ?_;exact lD ((out++[w64 (gd l t9+by0)]),(w64 (t9+1))) [] h
 ·refine xD (i:=0) ?_;show Sem _ _ _ _ _;refine wkD [4,22,25,28,31] ?_;refine sO kk oN [] [] ?_;refine tD ?_;subst h;exact (endQ []).1
theorem zfq (x:zb) (rule0:Int) (b:zm) (res:(List Int)) (res_1:(List Int)) (res_2:Bool) (fin:zm)
 (h:(∃ r0:za,∃ r0_1:Int,zd4 x r0 r0_1∧((List.length (zh.Sets (zm.Auto b))+List.length (za.Sets r0)) * (32:Nat)≤(2:Nat) ^ (47:Nat))∧(∃ (Inv15:List Int→List (List Int)→List Bool→Int→Prop) (mu16:List Int→List (List Int)→List Bool→Int→Nat),Inv15 (zh.Owner (zm.Auto b)) (zh.Follow (zm.Auto b)) (zh.Ends (zm.Auto b)) 0∧(∀ (o0_Auto_Owner:List Int) (o0_Auto_Follow:List (List Int)) (o0_Auto_Ends:List Bool) (t40:Int),Inv15 o0_Auto_Owner o0_Auto_Follow o0_Auto_Ends t40→(((decide (t40 < (↑(List.length (za.Follow r0)):Int)))=true→((0:Int)≤t40)∧t40 < ↑(List.length (za.Follow r0))∧((List.length o0_Auto_Owner+(1:Nat)) * (8:Nat)≤(2:Nat) ^ (47:Nat))∧((List.length o0_Auto_Ends+(1:Nat)) * (1:Nat)≤(2:Nat) ^ (47:Nat))∧(∃ r0_4:List Int,zbS (gd (za.Follow r0) t40) ((↑(List.length (zh.Sets (zm.Auto b))):Int)) r0_4∧((List.length o0_Auto_Follow+(1:Nat)) * (24:Nat)≤(2:Nat) ^ (47:Nat))∧(Inv15 (o0_Auto_Owner++[rule0]) (o0_Auto_Follow++[r0_4]) (o0_Auto_Ends++[false]) (w64 (t40+1))∧mu16 (o0_Auto_Owner++[rule0]) (o0_Auto_Follow++[r0_4]) (o0_Auto_Ends++[false]) (w64 (t40+1)) < mu16 o0_Auto_Owner o0_Auto_Follow o0_Auto_Ends t40)))∧((decide (t40 < (↑(List.length (za.Follow r0)):Int)))=false→(∃ r0_5:List Int,zbS (za.First r0) ((↑(List.length (zh.Sets (zm.Auto b))):Int)) r0_5∧(∃ r0_6:List Int,zbS (za.Last r0) ((↑(List.length (zh.Sets (zm.Auto b))):Int)) r0_6∧(res=r0_5∧res_1=r0_6∧res_2=(za.Null r0)∧fin=({ Auto:={ Sets:=zh.Sets (zm.Auto b)++za.Sets r0,Owner:=o0_Auto_Owner,Follow:=o0_Auto_Follow,Ends:=o0_Auto_Ends,Starts:=zh.Starts (zm.Auto b) } })))))))))):zbb x rule0 b res res_1 res_2 fin:=by
 unfold zbb;have kk:=cfOk [] 92;refine fD (x:=bodyOf Tryz.f81) kk Tryz.func81 ?_;refine wkS [1,3,4,7] [(1,.ptr 3 0),(3,zan b),(4,zA x),(7,vi rule0)] (by kernel_rfl) ?_;refine sO kk oN [4] [(13,.ptr 26 0),(26,zA x)] ?_;obtain ⟨r0,r0_1,hc0,h⟩:=h;refine sO kk (ca hc0 oN) [13,26] [(28,.ptr 56 0),(56,zq r0)] ?_;refine sOE kk oN [] [(34,vi ((↑(List.length (List.map ze (zh.Sets (zm.Auto b)))):Int)))] [(34,vi ((↑(List.length (zh.Sets (zm.Auto b))):Int)))] ?_;obtain ⟨h1,h⟩:=h;refine sOE kk (nd (show (0:Nat)=(0:Nat)∧List.length (List.map ze (zh.Sets (zm.Auto b)))=List.length (List.map ze (zh.Sets (zm.Auto b))) from ⟨rfl,rfl⟩) (nd (show (List.length (List.map ze (zh.Sets (zm.Auto b)))+List.length (List.map ze (za.Sets r0))) * (32:Nat)≤(2:Nat) ^ (47:Nat) from by simpa only [nm] using h1) (nd (show List.all (List.map ze (za.Sets r0)) (FV.fits (4:Nat))=true from by first | exact zcm _ | exact keysenc_arr4_uint64 _ | rfl | simp [isByteF,FV.fits,FV.size,FV.cells,FV.one,zak]) oN))) [] [(3,.agg [.own 25 (List.map ze (zh.Sets (zm.Auto b))++List.map ze (za.Sets r0)),oL 3 zf (zh.Owner (zm.Auto b)),oL 40 zg (zh.Follow (zm.Auto b)),oL 4 zr (zh.Ends (zm.Auto b)),oL 40 zg (zh.Starts (zm.Auto b))])] [(3,.agg [oL 25 ze (zh.Sets (zm.Auto b)++za.Sets r0),oL 3 zf (zh.Owner (zm.Auto b)),oL 40 zg (zh.Follow (zm.Auto b)),oL 4 zr (zh.Ends (zm.Auto b)),oL 40 zg (zh.Starts (zm.Auto b))])] ?_;refine qD ?_;refine sOE kk oN [] [(115,vL zg (za.Follow r0)),(118,vi ((↑(List.length (List.map zg (za.Follow r0))):Int))),(121,vi 0)] [(115,vL zg (za.Follow r0)),(118,vi ((↑(List.length (za.Follow r0)):Int))),(121,vi 0)] ?_;refine bD (id:=0) ?_;obtain ⟨Inv15,mu16,h0Inv15,hInv15⟩:=h;refine loE [] (fun (q:List Int×List (List Int)×List Bool×Int)=>(fun (o0_Auto_Owner:List Int) (o0_Auto_Follow:List (List Int)) (o0_Auto_Ends:List Bool) (t40:Int)=>([(3,.agg [oL 25 ze (zh.Sets (zm.Auto b)++za.Sets r0),oL 3 zf o0_Auto_Owner,oL 40 zg o0_Auto_Follow,oL 4 zr o0_Auto_Ends,oL 40 zg (zh.Starts (zm.Auto b))]),(121,vi t40)]:Sta)) q.1 q.2.1 q.2.2.1 q.2.2.2) (fun (q:List Int×List (List Int)×List Bool×Int)=>Inv15 q.1 q.2.1 q.2.2.1 q.2.2.2) (fun (q:List Int×List (List Int)×List Bool×Int)=>mu16 q.1 q.2.1 q.2.2.1 q.2.2.2) ((zh.Owner (zm.Auto b)),(zh.Follow (zm.Auto b)),(zh.Ends (zm.Auto b)),0) [] h0Inv15 ?_;rintro ⟨o0_Auto_Owner,o0_Auto_Follow,o0_Auto_Ends,t40⟩ hi;have h:=hInv15 o0_Auto_Owner o0_Auto_Follow o0_Auto_Ends t40 hi;refine sO kk oN [] [(124,vB (decide (t40 < (↑(List.length (za.Follow r0)):Int))))] ?_;refine qD ?_;refine cH 41 h (fun hb17 h=>?_) (fun hb17 h=>?_)
 ·refine kD ?_;show Sem _ _ _ _ _;refine wkD [124] ?_;refine qD ?_;refine bD (id:=1) ?_;obtain ⟨h18,h⟩:=h;obtain ⟨h19,h⟩:=h;refine sO kk (nd h18 (el (zF zg (za.Follow r0) t40 _ rfl h18 h19) oN)) [] [(40,vL zf (gd (za.Follow r0) t40))] ?_;obtain ⟨h20,h⟩:=h;obtain ⟨h21,h⟩:=h;obtain ⟨r0_4,hc22,h⟩:=h;obtain ⟨h23,h⟩:=h;refine rOE kk (apo zf o0_Auto_Owner h20 (apo zr o0_Auto_Ends h21 (ca hc22 (apo zg o0_Auto_Follow h23 oN)))) [40] [(3,.agg [oL 25 ze (zh.Sets (zm.Auto b)++za.Sets r0),.own 3 (List.map zf o0_Auto_Owner++[FV.pv (Value.int IntKind.i64 rule0)]),.own 40 (List.map zg o0_Auto_Follow++[FV.sl (List.take (List.length (List.map zf r0_4)) (List.drop (0:Nat) (List.map zf r0_4)))]),.own 4 (List.map zr o0_Auto_Ends++[FV.pv (Value.bool false)]),oL 40 zg (zh.Starts (zm.Auto b))])] [(3,.agg [oL 25 ze (zh.Sets (zm.Auto b)++za.Sets r0),oL 3 zf (o0_Auto_Owner++[rule0]),oL 40 zg (o0_Auto_Follow++[r0_4]),oL 4 zr (o0_Auto_Ends++[false]),oL 40 zg (zh.Starts (zm.Auto b))])] ?_;show Sem _ _ _ _ _;refine rO kk oN [] [(121,vi (w64 (t40+1)))] ?_;exact lD ((o0_Auto_Owner++[rule0]),(o0_Auto_Follow++[r0_4]),(o0_Auto_Ends++[false]),(w64 (t40+1))) [] h
 ·refine xD (i:=0) ?_;show Sem _ _ _ _ _;refine wkD [1,7,115,118,121,124] ?_;obtain ⟨r0_5,hc24,h⟩:=h;obtain ⟨r0_6,hc25,h⟩:=h;refine sO kk (ca hc24 (ca hc25 oN)) [28,34,56] [(19,oL 3 zf r0_5),(22,oL 3 zf r0_6),(25,vB (za.Null r0))] ?_;refine tD ?_;obtain ⟨he0,he1,he2,he3⟩:=h;subst res res_1 res_2 fin;exact (endD [] (.tup [.f (FV.sl (List.take (List.length (List.map zf r0_5)) (List.drop (0:Nat) (List.map zf r0_5)))),.f (FV.sl (List.take (List.length (List.map zf r0_6)) (List.drop (0:Nat) (List.map zf r0_6)))),vB (za.Null r0)]) [.agg [oL 25 ze (zh.Sets (zm.Auto b)++za.Sets r0),oL 3 zf o0_Auto_Owner,oL 40 zg o0_Auto_Follow,oL 4 zr o0_Auto_Ends,oL 40 zg (zh.Starts (zm.Auto b))]]).1
theorem zeM (r0:zj) (i:Int) (b:zm) (res:(List Int)) (fin:zm)
 (h:(((zj.Eof r0)=true→(res=([])∧fin=b))∧((zj.Eof r0)=false→(∃ r0_1:List Int,∃ r0_2:List Int,∃ r0_3:Bool,∃ o:zm,zbb (zj.Rx r0) i b r0_1 r0_2 r0_3 o∧(∃ J40:List zc→List Int→List (List Int)→List Bool→List (List Int)→List Int→Prop,(∀ (o0_Auto_Sets:List zc) (o0_Auto_Owner:List Int) (o0_Auto_Follow_1:List (List Int)) (o0_Auto_Ends:List Bool) (o0_Auto_Starts:List (List Int)) (end0:List Int),J40 o0_Auto_Sets o0_Auto_Owner o0_Auto_Follow_1 o0_Auto_Ends o0_Auto_Starts end0→(∃ (Inv52:List Bool→Int→Prop) (mu53:List Bool→Int→Nat),Inv52 o0_Auto_Ends 0∧(∀ (o0_Auto_Ends_1:List Bool) (t72:Int),Inv52 o0_Auto_Ends_1 t72→(((decide (t72 < (↑(List.length end0):Int)))=true→((0:Int)≤t72)∧t72 < ↑(List.length end0)∧((0:Int)≤gd end0 t72)∧(Int.toNat (gd end0 t72) < List.length o0_Auto_Ends_1)∧gd end0 t72 < ↑(List.length o0_Auto_Ends_1)∧(Inv52 (List.set o0_Auto_Ends_1 (Int.toNat (gd end0 t72)) true) (w64 (t72+1))∧mu53 (List.set o0_Auto_Ends_1 (Int.toNat (gd end0 t72)) true) (w64 (t72+1)) < mu53 o0_Auto_Ends_1 t72))∧((decide (t72 < (↑(List.length end0):Int)))=false→(res=r0_1∧fin=({ Auto:={ Sets:=o0_Auto_Sets,Owner:=o0_Auto_Owner,Follow:=o0_Auto_Follow_1,Ends:=o0_Auto_Ends_1,Starts:=o0_Auto_Starts } })))))))∧(((zb.Kind (zj.Trail r0) != (0:Int))=true→(∃ r0_12:List Int,∃ r0_13:List Int,∃ r0_14:Bool,∃ o_2:zm,zbb (zj.Trail r0) i o r0_12 r0_13 r0_14 o_2∧(∃ (Inv81:List (List Int)→Int→Prop) (mu82:List (List Int)→Int→Nat),Inv81 (zh.Follow (zm.Auto o_2)) 0∧(∀ (o0_Auto_Follow_2:List (List Int)) (t43_1:Int),Inv81 o0_Auto_Follow_2 t43_1→(((decide (t43_1 < (↑(List.length r0_2):Int)))=true→((0:Int)≤t43_1)∧t43_1 < ↑(List.length r0_2)∧((0:Int)≤gd r0_2 t43_1)∧(Int.toNat (gd r0_2 t43_1) < List.length o0_Auto_Follow_2)∧gd r0_2 t43_1 < ↑(List.length o0_Auto_Follow_2)∧(∃ r0_17:List Int,zah (gd o0_Auto_Follow_2 (gd r0_2 t43_1)) r0_12 r0_17∧((0:Int)≤gd r0_2 t43_1)∧(Int.toNat (gd r0_2 t43_1) < List.length o0_Auto_Follow_2)∧gd r0_2 t43_1 < ↑(List.length o0_Auto_Follow_2)∧(Inv81 (List.set o0_Auto_Follow_2 (Int.toNat (gd r0_2 t43_1)) r0_17) (w64 (t43_1+1))∧mu82 (List.set o0_Auto_Follow_2 (Int.toNat (gd r0_2 t43_1)) r0_17) (w64 (t43_1+1)) < mu82 o0_Auto_Follow_2 t43_1)))∧((decide (t43_1 < (↑(List.length r0_2):Int)))=false→(∃ J95:List Int→Prop,(∀ (last_1:List Int),J95 last_1→J40 (zh.Sets (zm.Auto o_2)) (zh.Owner (zm.Auto o_2)) o0_Auto_Follow_2 (zh.Ends (zm.Auto o_2)) (zh.Starts (zm.Auto o_2)) last_1)∧(((r0_14)=true→(∃ r0_19:List Int,zah r0_2 r0_13 r0_19∧J95 r0_19))∧((r0_14)=false→J95 r0_13)))))))))∧((zb.Kind (zj.Trail r0) != (0:Int))=false→J40 (zh.Sets (zm.Auto o)) (zh.Owner (zm.Auto o)) (zh.Follow (zm.Auto o)) (zh.Ends (zm.Auto o)) (zh.Starts (zm.Auto o)) r0_2))))))):zbq r0 i b res fin:=by
 unfold zbq;have kk:=cfOk [84] 85;refine fD (x:=bodyOf Tryz.f42) kk Tryz.func42 ?_;refine wkS [1,3,4,7] [(1,.ptr 3 0),(3,zan b),(4,zas r0),(7,vi i)] (by kernel_rfl) ?_;refine sO kk oN [4] [(13,.ptr 26 0),(26,zas r0)] ?_;refine qD ?_;refine sO kk oN [] [(55,vB (zj.Eof r0))] ?_;refine cH 18 h (fun hb0 h=>?_) (fun hb0 h=>?_)
 ·refine sOE kk oN [1,7,13,26,55] [(19,.own 3 ([]))] [(19,oL 3 zf ([]))] ?_;refine tD ?_;obtain ⟨he0,he1⟩:=h;subst res fin;exact (endQ [(19,0)]).1
 ·refine kD ?_;show Sem _ _ _ _ _;refine wkD [55] ?_;obtain ⟨r0_1,r0_2,r0_3,o,hc1,h⟩:=h;refine sO kk (ca hc1 oN) [] [(3,zan o),(22,vL zf r0_1),(25,vL zf r0_2)] ?_;obtain ⟨J40,hJ40,h⟩:=h;refine sjE (fun (q:List zc×List Int×List (List Int)×List Bool×List (List Int)×List Int)=>J40 q.1 q.2.1 q.2.2.1 q.2.2.2.1 q.2.2.2.2.1 q.2.2.2.2.2) [7,13,26] (fun (q:List zc×List Int×List (List Int)×List Bool×List (List Int)×List Int)=>(fun (o0_Auto_Sets:List zc) (o0_Auto_Owner:List Int) (o0_Auto_Follow_1:List (List Int)) (o0_Auto_Ends:List Bool) (o0_Auto_Starts:List (List Int)) (end0:List Int)=>([(3,.agg [oL 25 ze o0_Auto_Sets,oL 3 zf o0_Auto_Owner,oL 40 zg o0_Auto_Follow_1,oL 4 zr o0_Auto_Ends,oL 40 zg o0_Auto_Starts]),(25,vL zf end0)]:Sta)) q.1 q.2.1 q.2.2.1 q.2.2.2.1 q.2.2.2.2.1 q.2.2.2.2.2) ?_ ?_
  ·rintro ⟨o0_Auto_Sets,o0_Auto_Owner,o0_Auto_Follow_1,o0_Auto_Ends,o0_Auto_Starts,end0⟩ hj;have h:=hJ40 o0_Auto_Sets o0_Auto_Owner o0_Auto_Follow_1 o0_Auto_Ends o0_Auto_Starts end0 hj;refine qD ?_;refine sOE kk oN [25] [(211,vL zf end0),(214,vi ((↑(List.length (List.map zf end0)):Int))),(217,vi 0)] [(211,vL zf end0),(214,vi ((↑(List.length end0):Int))),(217,vi 0)] ?_;refine bD (id:=2) ?_;obtain ⟨Inv52,mu53,h0Inv52,hInv52⟩:=h;refine loE [] (fun (q:List Bool×Int)=>(fun (o0_Auto_Ends_1:List Bool) (t72:Int)=>([(3,.agg [oL 25 ze o0_Auto_Sets,oL 3 zf o0_Auto_Owner,oL 40 zg o0_Auto_Follow_1,oL 4 zr o0_Auto_Ends_1,oL 40 zg o0_Auto_Starts]),(217,vi t72)]:Sta)) q.1 q.2) (fun (q:List Bool×Int)=>Inv52 q.1 q.2) (fun (q:List Bool×Int)=>mu53 q.1 q.2) (o0_Auto_Ends,0) [] h0Inv52 ?_;rintro ⟨o0_Auto_Ends_1,t72⟩ hi;have h:=hInv52 o0_Auto_Ends_1 t72 hi;refine sO kk oN [] [(220,vB (decide (t72 < (↑(List.length end0):Int))))] ?_;refine qD ?_;refine cH 73 h (fun hb54 h=>?_) (fun hb54 h=>?_)
   ·refine kD ?_;show Sem _ _ _ _ _;refine wkD [220] ?_;refine qD ?_;refine bD (id:=3) ?_;obtain ⟨h55,h⟩:=h;obtain ⟨h56,h⟩:=h;refine sO kk (nd h55 (el (zF zf end0 t72 _ rfl h55 h56) oN)) [] [(49,vi (gd end0 t72))] ?_;obtain ⟨h57,h⟩:=h;obtain ⟨h58,h⟩:=h;obtain ⟨h59,h⟩:=h;refine rOE kk (nd h57 (nd (show Int.toNat (gd end0 t72) < List.length (List.map zr o0_Auto_Ends_1) from by simpa only [nm] using h58) (el (show (List.map zr o0_Auto_Ends_1)[((0:Nat)+Int.toNat (gd end0 t72):Nat)]?=some (fB (gd o0_Auto_Ends_1 (gd end0 t72))) from by have:=zF zr o0_Auto_Ends_1 (gd end0 t72) _ rfl h57 h59;simpa only [nm,enq,zr] using this) oN))) [49] [(3,.agg [oL 25 ze o0_Auto_Sets,oL 3 zf o0_Auto_Owner,oL 40 zg o0_Auto_Follow_1,.own 4 (List.set (List.map zr o0_Auto_Ends_1) ((0:Nat)+Int.toNat (gd end0 t72)) (FV.pv (Value.bool true))),oL 40 zg o0_Auto_Starts])] [(3,.agg [oL 25 ze o0_Auto_Sets,oL 3 zf o0_Auto_Owner,oL 40 zg o0_Auto_Follow_1,oL 4 zr (List.set o0_Auto_Ends_1 (Int.toNat (gd end0 t72)) true),oL 40 zg o0_Auto_Starts])] ?_;show Sem _ _ _ _ _;refine rO kk oN [] [(217,vi (w64 (t72+1)))] ?_;exact lD ((List.set o0_Auto_Ends_1 (Int.toNat (gd end0 t72)) true),(w64 (t72+1))) [] h
   ·refine xD (i:=2) ?_;show Sem _ _ _ _ _;refine wkD [1,211,214,217,220] ?_;refine sO kk oN [22] [(19,vL zf r0_1)] ?_;refine tD ?_;obtain ⟨he0,he1⟩:=h;subst res fin;exact (endQ []).1
  ·refine sO kk oN [] [(94,vB (zb.Kind (zj.Trail r0) != (0:Int)))] ?_;refine cH 31 h (fun hb60 h=>?_) (fun hb60 h=>?_)
   ·obtain ⟨r0_12,r0_13,r0_14,o_2,hc61,h⟩:=h;refine sO kk (ca hc61 oN) [7,13,26,94] [(3,zan o_2),(31,vL zf r0_12),(34,vL zf r0_13),(37,vB r0_14)] ?_;refine qD ?_;refine sOE kk oN [] [(124,vL zf r0_2),(127,vi ((↑(List.length (List.map zf r0_2)):Int))),(130,vi 0)] [(124,vL zf r0_2),(127,vi ((↑(List.length r0_2):Int))),(130,vi 0)] ?_;refine bD (id:=0) ?_;obtain ⟨Inv81,mu82,h0Inv81,hInv81⟩:=h;refine loE [] (fun (q:List (List Int)×Int)=>(fun (o0_Auto_Follow_2:List (List Int)) (t43_1:Int)=>([(3,.agg [oL 25 ze (zh.Sets (zm.Auto o_2)),oL 3 zf (zh.Owner (zm.Auto o_2)),oL 40 zg o0_Auto_Follow_2,oL 4 zr (zh.Ends (zm.Auto o_2)),oL 40 zg (zh.Starts (zm.Auto o_2))]),(130,vi t43_1)]:Sta)) q.1 q.2) (fun (q:List (List Int)×Int)=>Inv81 q.1 q.2) (fun (q:List (List Int)×Int)=>mu82 q.1 q.2) ((zh.Follow (zm.Auto o_2)),0) [] h0Inv81 ?_;rintro ⟨o0_Auto_Follow_2,t43_1⟩ hi;have h:=hInv81 o0_Auto_Follow_2 t43_1 hi;refine sO kk oN [] [(133,vB (decide (t43_1 < (↑(List.length r0_2):Int))))] ?_;refine qD ?_;refine cH 44 h (fun hb83 h=>?_) (fun hb83 h=>?_)
    ·refine kD ?_;show Sem _ _ _ _ _;refine wkD [133] ?_;refine qD ?_;refine bD (id:=1) ?_;obtain ⟨h84,h⟩:=h;obtain ⟨h85,h⟩:=h;refine sO kk (nd h84 (el (zF zf r0_2 t43_1 _ rfl h84 h85) oN)) [] [(43,vi (gd r0_2 t43_1))] ?_;obtain ⟨h86,h⟩:=h;obtain ⟨h87,h⟩:=h;obtain ⟨h88,h⟩:=h;obtain ⟨r0_17,hc89,h⟩:=h;obtain ⟨h90,h⟩:=h;obtain ⟨h91,h⟩:=h;obtain ⟨h92,h⟩:=h;refine rOE kk (nd h86 (nd (show Int.toNat (gd r0_2 t43_1) < List.length (List.map zg o0_Auto_Follow_2) from by simpa only [nm] using h87) (el (show (List.map zg o0_Auto_Follow_2)[((0:Nat)+Int.toNat (gd r0_2 t43_1):Nat)]?=some (fL zf (gd o0_Auto_Follow_2 (gd r0_2 t43_1))) from by have:=zF zg o0_Auto_Follow_2 (gd r0_2 t43_1) _ rfl h86 h88;simpa only [nm,enq,zg] using this) (ca hc89 (nd h90 (nd (show Int.toNat (gd r0_2 t43_1) < List.length (List.map zg o0_Auto_Follow_2) from by simpa only [nm] using h91) (el (show (List.map zg o0_Auto_Follow_2)[((0:Nat)+Int.toNat (gd r0_2 t43_1):Nat)]?=some (fL zf (gd o0_Auto_Follow_2 (gd r0_2 t43_1))) from by have:=zF zg o0_Auto_Follow_2 (gd r0_2 t43_1) _ rfl h90 h92;simpa only [nm,enq,zg] using this) oN))))))) [43] [(3,.agg [oL 25 ze (zh.Sets (zm.Auto o_2)),oL 3 zf (zh.Owner (zm.Auto o_2)),.own 40 (List.set (List.map zg o0_Auto_Follow_2) ((0:Nat)+Int.toNat (gd r0_2 t43_1)) (FV.sl (List.map zf r0_17))),oL 4 zr (zh.Ends (zm.Auto o_2)),oL 40 zg (zh.Starts (zm.Auto o_2))])] [(3,.agg [oL 25 ze (zh.Sets (zm.Auto o_2)),oL 3 zf (zh.Owner (zm.Auto o_2)),oL 40 zg (List.set o0_Auto_Follow_2 (Int.toNat (gd r0_2 t43_1)) r0_17),oL 4 zr (zh.Ends (zm.Auto o_2)),oL 40 zg (zh.Starts (zm.Auto o_2))])] ?_;show Sem _ _ _ _ _;refine rO kk oN [] [(130,vi (w64 (t43_1+1)))] ?_;exact lD ((List.set o0_Auto_Follow_2 (Int.toNat (gd r0_2 t43_1)) r0_17),(w64 (t43_1+1))) [] h
    ·refine xD (i:=0) ?_;show Sem _ _ _ _ _;refine wkD [31,124,127,130,133] ?_;obtain ⟨J95,hJ95,h⟩:=h;refine sjE (fun (q:List Int)=>J95 q) [25,37] (fun (q:List Int)=>(fun (last_1:List Int)=>([(34,vL zf last_1)]:Sta)) q) ?_ ?_
     ·rintro last_1 hj;have h:=hJ95 last_1 hj;refine rO kk oN [34] [(25,vL zf last_1)] ?_;exact jD ((zh.Sets (zm.Auto o_2)),(zh.Owner (zm.Auto o_2)),o0_Auto_Follow_2,(zh.Ends (zm.Auto o_2)),(zh.Starts (zm.Auto o_2)),last_1) [] h
     ·refine sO kk oN [37] [(196,vB r0_14)] ?_;refine cH 65 h (fun hb96 h=>?_) (fun hb96 h=>?_)
      ·obtain ⟨r0_19,hc97,h⟩:=h;refine rO kk (ca hc97 oN) [25,196] [(34,vL zf r0_19)] ?_;exact jD r0_19 [] h
      ·refine kD ?_;exact jD r0_13 [] h
   ·refine kD ?_;exact jD ((zh.Sets (zm.Auto o)),(zh.Owner (zm.Auto o)),(zh.Follow (zm.Auto o)),(zh.Ends (zm.Auto o)),(zh.Starts (zm.Auto o)),r0_2) [] h
theorem zb2 (s0:(List Int)) (v:Int) (res:Int)
 (h:(∃ (Inv7:Int→Prop) (mu8:Int→Nat),Inv7 0∧(∀ (t8:Int),Inv7 t8→(((decide (t8 < (↑(List.length s0):Int)))=true→((0:Int)≤t8)∧t8 < ↑(List.length s0)∧(((v == gd s0 t8)=true→(res=t8))∧((v == gd s0 t8)=false→(Inv7 (w64 (t8+1))∧mu8 (w64 (t8+1)) < mu8 t8))))∧((decide (t8 < (↑(List.length s0):Int)))=false→(res=(-1))))))):zaZ s0 v res:=by
 unfold zaZ;have kk:=cfOk [17] 19;refine fD (x:=bodyOf Tryz.f127) kk Tryz.func127 ?_;refine wkS [1,4] [(1,vL zf s0),(4,vi v)] (by kernel_rfl) ?_;refine sO kk oN [] [] ?_;refine qD ?_;refine sOE kk oN [] [(22,vi ((↑(List.length (List.map zf s0)):Int))),(25,vi 0)] [(22,vi ((↑(List.length s0):Int))),(25,vi 0)] ?_;refine bD (id:=0) ?_;obtain ⟨Inv7,mu8,h0Inv7,hInv7⟩:=h;refine loE [] (fun (q:Int)=>(fun (t8:Int)=>([(25,vi t8)]:Sta)) q) (fun (q:Int)=>Inv7 q) (fun (q:Int)=>mu8 q) 0 [] h0Inv7 ?_;rintro t8 hi;have h:=hInv7 t8 hi;refine sO kk oN [] [(28,vB (decide (t8 < (↑(List.length s0):Int))))] ?_;refine qD ?_;refine cH 9 h (fun hb9 h=>?_) (fun hb9 h=>?_)
 ·refine kD ?_;show Sem _ _ _ _ _;refine wkD [28] ?_;refine qD ?_;refine bD (id:=1) ?_;refine sO kk oN [] [(16,vi t8)] ?_;obtain ⟨h10,h⟩:=h;obtain ⟨h11,h⟩:=h;refine sO kk (nd h10 (el (zF zf s0 t8 _ rfl h10 h11) oN)) [] [(49,vB (v == gd s0 t8))] ?_;refine cH 16 h (fun hb12 h=>?_) (fun hb12 h=>?_)
  ·refine sO kk oN [1,4,16,22,25,49] [(13,vi t8)] ?_;refine tD ?_;subst h;exact (endQ []).1
  ·refine kD ?_;show Sem _ _ _ _ _;refine wkD [16,49] ?_;refine rO kk oN [] [(25,vi (w64 (t8+1)))] ?_;exact lD (w64 (t8+1)) [] h
 ·refine xD (i:=0) ?_;show Sem _ _ _ _ _;refine wkD [1,4,22,25,28] ?_;refine sO kk oN [] [(13,vi (-1))] ?_;refine tD ?_;subst h;exact (endQ []).1
end Go.Ev
namespace Go.Ev
open Go Go.Proofs
set_option maxRecDepth 8000
set_option maxHeartbeats 1000000
theorem zcI (s0:(List Int)) (v:Int) (res:Bool)
 (h:(∃ r0:Int,zaZ s0 v r0∧(res=(decide (r0≥(0:Int)))))):zaG s0 v res:=by
 unfold zaG;have kk:=cfOk [] 9;refine fD (x:=bodyOf Tryz.f104) kk Tryz.func104 ?_;refine wkS [1,4] [(1,vL zf s0),(4,vi v)] (by kernel_rfl) ?_;refine sO kk oN [] [] ?_;obtain ⟨r0,hc0,h⟩:=h;refine sO kk (ca hc0 oN) [1,4] [(13,vB (decide (r0≥(0:Int))))] ?_;refine tD ?_;subst h;exact (endQ []).1
theorem W_spec_Active (s0:api_Spec) (rule0:Int) (cond:Int) (res:Bool)
 (h:(((decide (rule0 < (0:Int)) || (decide (rule0≥(↑(List.length (List.map zw (api_Spec.Rules s0))):Int)) || (decide (cond < (0:Int)) || decide (cond≥(↑(List.length (api_Spec.Conds s0)):Int)))))=true→(res=false))∧((decide (rule0 < (0:Int)) || (decide (rule0≥(↑(List.length (List.map zw (api_Spec.Rules s0))):Int)) || (decide (cond < (0:Int)) || decide (cond≥(↑(List.length (api_Spec.Conds s0)):Int)))))=false→((0:Int)≤rule0)∧rule0 < ↑(List.length (api_Spec.Rules s0))∧(((zj.All (gd (api_Spec.Rules s0) rule0))=true→(res=true))∧((zj.All (gd (api_Spec.Rules s0) rule0))=false→(∃ r0:Bool,zaG (zj.Conds (gd (api_Spec.Rules s0) rule0)) cond r0∧(((r0)=true→(res=true))∧((r0)=false→((((↑(List.length (List.map zf (zj.Conds (gd (api_Spec.Rules s0) rule0)))):Int) == 0)=true→((zj.All (gd (api_Spec.Rules s0) rule0))=false→((r0)=false→(((↑(List.length (List.map zf (zj.Conds (gd (api_Spec.Rules s0) rule0)))):Int) == 0)=true→((0:Int)≤cond))))∧((zj.All (gd (api_Spec.Rules s0) rule0))=false→((r0)=false→(((↑(List.length (List.map zf (zj.Conds (gd (api_Spec.Rules s0) rule0)))):Int) == 0)=true→cond < ↑(List.length (api_Spec.Conds s0)))))∧(res=(!zN.Exclusive (gd (api_Spec.Conds s0) cond))))∧(((↑(List.length (List.map zf (zj.Conds (gd (api_Spec.Rules s0) rule0)))):Int) == 0)=false→(res=false))))))))))):zcs s0 rule0 cond res:=by
 unfold zcs;have kk:=cfOk [] 56;refine fD (x:=bodyOf Tryz.f83) kk Tryz.func83 ?_;refine wkS [1,4,7] [(1,zK s0),(4,vi rule0),(7,vi cond)] (by kernel_rfl) ?_;refine sO kk oN [1] [(10,.ptr 20 0),(20,zK s0)] ?_;refine qD ?_;refine sM [] [(82,vB (decide (rule0 < (0:Int)) || (decide (rule0≥(↑(List.length (List.map zw (api_Spec.Rules s0))):Int)) || (decide (cond < (0:Int)) || decide (cond≥(↑(List.length (api_Spec.Conds s0)):Int))))))] ?_ (fun hk0=>?_)
 ·refine cH 27 h (fun hb3 h=>?_) (fun hb3 h=>?_)
  ·refine sO kk oN [4,7,10,20,82] [(19,vB false)] ?_;refine tD ?_;subst h;exact (endQ []).1
  ·refine kD ?_;show Sem _ _ _ _ _;refine wkD [82] ?_;obtain ⟨h4,h⟩:=h;obtain ⟨h5,h⟩:=h;refine sO kk (nd h4 (el (zF zw (api_Spec.Rules s0) rule0 _ (z7 _) h4 h5) oN)) [4] [(22,.ptr 44 0),(44,zas (gd (api_Spec.Rules s0) rule0))] ?_;rcases eft (zj.All (gd (api_Spec.Rules s0) rule0)) with hb6 | hb6
   ·have h:=h.1 hb6;refine sO kk (g1 hb6 222238888887 oN) [7,10,20,22,44] [(19,vB true)] ?_;refine tD ?_;subst h;exact (endQ []).1
   ·have h:=h.2 hb6;obtain ⟨r0,hc7,h⟩:=h;rcases eft (r0) with hb12 | hb12
    ·have h:=h.1 hb12;refine sO kk (g1 hb6 2222 (ca hc7 (g2 hb12 hb6 62222223 oN))) [7,10,20,22,44] [(19,vB true)] ?_;refine tD ?_;subst h;exact (endQ []).1
    ·have h:=h.2 hb12;rcases eft ((↑(List.length (List.map zf (zj.Conds (gd (api_Spec.Rules s0) rule0)))):Int) == 0) with hb16 | hb16
     ·have h:=h.1 hb16;obtain ⟨h17,h⟩:=h;obtain ⟨h18,h⟩:=h;refine sO kk (g1 hb6 2222 (ca hc7 (g1 hb6 3 (g2 hb16 hb12 555551111 (nd (((h17 hb6) hb12) hb16) (el (zF zu (api_Spec.Conds s0) cond _ (z8 _) (((h17 hb6) hb12) hb16) (((h18 hb6) hb12) hb16)) (g2 hb12 hb16 444263 oN))))))) [7,10,20,22,44] [(19,vB (!zN.Exclusive (gd (api_Spec.Conds s0) cond)))] ?_;refine tD ?_;subst h;exact (endQ []).1
     ·have h:=h.2 hb16;refine sO kk (g1 hb6 2222 (ca hc7 (g1 hb6 3 (g2 hb12 hb16 222224444444263 oN)))) [7,10,20,22,44] [(19,vB false)] ?_;refine tD ?_;subst h;exact (endQ []).1
 ·rcases eft (decide (rule0 < (0:Int))) with hb0 | hb0
  ·refine sO kk (g1 hb0 222223887888887 oN) [] [(82,vB true)] ?_;exact Sem.cast (by try rw [hb0];kernel_rfl) hk0
  ·rcases eft (decide (rule0≥(↑(List.length (List.map zw (api_Spec.Rules s0))):Int))) with hb1 | hb1
   ·refine sO kk (g2 hb1 hb0 555556223888887 oN) [] [(82,vB true)] ?_;exact Sem.cast (by try rw [hb0];try rw [hb1];kernel_rfl) hk0
   ·rcases eft (decide (cond < (0:Int))) with hb2 | hb2
    ·refine sO kk (g1 hb0 222223 (g2 hb2 hb1 556222223 oN)) [] [(82,vB true)] ?_;exact Sem.cast (by try rw [hb0];try rw [hb1];try rw [hb2];kernel_rfl) hk0
    ·refine sOE kk (g1 hb0 222223 (g2 hb2 hb1 556222223 oN)) [] [(82,vB (decide (cond≥(↑(List.length (List.map zu (api_Spec.Conds s0))):Int))))] [(82,vB (decide (cond≥(↑(List.length (api_Spec.Conds s0)):Int))))] ?_;exact Sem.cast (by try rw [hb0];try rw [hb1];try rw [hb2];kernel_rfl) hk0
theorem W_auto_start (s0:api_Spec) (begins:(List (List Int))) (cond:Int) (bol:Bool) (res:(List Int))
 (h:(∃ (Inv36:List Int→Int→Prop) (mu37:List Int→Int→Nat),Inv36 ([]) 0∧(∀ (out_1:List Int) (t13:Int),Inv36 out_1 t13→(((decide (t13 < (↑(List.length begins):Int)))=true→(∃ J48:List Int→Prop,(∀ (out_3:List Int),J48 out_3→(Inv36 out_3 (w64 (t13+1))∧mu37 out_3 (w64 (t13+1)) < mu37 out_1 t13))∧((0:Int)≤t13)∧t13 < ↑(List.length begins)∧(∃ r0_10:Bool,zcs s0 t13 cond r0_10∧((r0_10)=true→((bol)=false→((0:Int)≤t13)))∧((r0_10)=true→((bol)=false→t13 < ↑(List.length (api_Spec.Rules s0))))∧(((r0_10 && (bol || !zj.Bol (gd (api_Spec.Rules s0) t13)))=true→(∃ r0_11:List Int,zah out_1 (gd begins t13) r0_11∧J48 r0_11))∧((r0_10 && (bol || !zj.Bol (gd (api_Spec.Rules s0) t13)))=false→J48 out_1)))))∧((decide (t13 < (↑(List.length begins):Int)))=false→(res=out_1)))))):zcN s0 begins cond bol res:=by
 unfold zcN;have kk:=cfOk [38] 39;refine fD (x:=bodyOf Tryz.f43) kk Tryz.func43 ?_;refine wkS [1,4,7,10] [(1,zK s0),(4,vL zg begins),(7,vi cond),(10,vB bol)] (by kernel_rfl) ?_;refine sOE kk oN [1] [(13,.ptr 26 0),(25,.own 3 ([])),(26,zK s0)] [(13,.ptr 26 0),(25,oL 3 zf ([])),(26,zK s0)] ?_;refine qD ?_;refine sOE kk oN [4] [(34,vL zg begins),(37,vi ((↑(List.length (List.map zg begins)):Int))),(40,vi 0)] [(34,vL zg begins),(37,vi ((↑(List.length begins):Int))),(40,vi 0)] ?_;refine bD (id:=0) ?_;obtain ⟨Inv36,mu37,h0Inv36,hInv36⟩:=h;refine loE [] (fun (q:List Int×Int)=>(fun (out_1:List Int) (t13:Int)=>([(25,vL zf out_1),(40,vi t13)]:Sta)) q.1 q.2) (fun (q:List Int×Int)=>Inv36 q.1 q.2) (fun (q:List Int×Int)=>mu37 q.1 q.2) (([]),0) [(25,0)] h0Inv36 ?_;rintro ⟨out_1,t13⟩ hi;have h:=hInv36 out_1 t13 hi;refine sO kk oN [] [(43,vB (decide (t13 < (↑(List.length begins):Int))))] ?_;refine qD ?_;refine cH 14 h (fun hb38 h=>?_) (fun hb38 h=>?_)
 ·refine kD ?_;show Sem _ _ _ _ _;refine wkD [43] ?_;obtain ⟨J48,hJ48,h⟩:=h;refine sjE (fun (q:List Int)=>J48 q) [] (fun (q:List Int)=>(fun (out_3:List Int)=>([(25,vL zf out_3)]:Sta)) q) ?_ ?_
  ·rintro out_3 hj;have h:=hJ48 out_3 hj;refine rO kk oN [] [(40,vi (w64 (t13+1)))] ?_;exact lD (out_3,(w64 (t13+1))) [] h
  ·refine bD (id:=1) ?_;obtain ⟨h49,h⟩:=h;obtain ⟨h50,h⟩:=h;refine sO kk (nd h49 (el (zF zg begins t13 _ rfl h49 h50) oN)) [] [(28,vi t13),(31,vL zf (gd begins t13))] ?_;obtain ⟨r0_10,hc51,h⟩:=h;obtain ⟨h54,h55,h⟩:=h;refine sM [28] [(100,vB (r0_10 && (bol || !zj.Bol (gd (api_Spec.Rules s0) t13))))] ?_ (fun hk0=>?_)
   ·refine cH 33 h (fun hb56 h=>?_) (fun hb56 h=>?_)
    ·obtain ⟨r0_11,hc57,h⟩:=h;refine rO kk (ca hc57 oN) [31,100] [(25,vL zf r0_11)] ?_;exact jD r0_11 [] h
    ·refine kD ?_;exact jD out_1 [] h
   ·rcases eft (r0_10) with hb52 | hb52
    ·rcases eft (bol) with hb53 | hb53
     ·refine sO kk (ca hc51 (g2 hb52 hb53 115555555163 oN)) [28] [(100,vB true)] ?_;exact Sem.cast (by try rw [hb52];try rw [hb53];kernel_rfl) hk0
     ·refine sO kk (ca hc51 (g2 hb53 hb52 442222 (nd ((h54 hb52) hb53) (el (zF zw (api_Spec.Rules s0) t13 _ (z7 _) ((h54 hb52) hb53) ((h55 hb52) hb53)) (g2 hb52 hb53 555163 oN))))) [28] [(100,vB (!zj.Bol (gd (api_Spec.Rules s0) t13)))] ?_;exact Sem.cast (by try rw [hb52];try rw [hb53];kernel_rfl) hk0
    ·refine sO kk (ca hc51 (g1 hb52 1113 oN)) [28] [(100,vB false)] ?_;exact Sem.cast (by try rw [hb52];kernel_rfl) hk0
 ·refine xD (i:=0) ?_;show Sem _ _ _ _ _;refine wkD [7,10,13,26,34,37,40,43] ?_;refine sO kk oN [] [] ?_;refine tD ?_;subst h;exact (endQ []).1
theorem zga (s0:api_Spec) (res:zh) (res_1:Int)
 (h:(∃ r0:Bool,zbR s0 r0∧(((!r0)=true→(res=({ Sets:=[],Owner:=[],Follow:=[],Ends:=[],Starts:=[] })∧res_1=1))∧((!r0)=false→(∃ (Inv10:List (List Int)→List zc→List Int→List (List Int)→List Bool→List (List Int)→Int→Prop) (mu11:List (List Int)→List zc→List Int→List (List Int)→List Bool→List (List Int)→Int→Nat),Inv10 ([]) ([]) ([]) ([]) ([]) ([]) 0∧(∀ (begins:List (List Int)) (t28_Auto_Sets:List zc) (t28_Auto_Owner:List Int) (t28_Auto_Follow:List (List Int)) (t28_Auto_Ends:List Bool) (t28_Auto_Starts:List (List Int)) (t18:Int),Inv10 begins t28_Auto_Sets t28_Auto_Owner t28_Auto_Follow t28_Auto_Ends t28_Auto_Starts t18→(((decide (t18 < (↑(List.length (api_Spec.Rules s0)):Int)))=true→((0:Int)≤t18)∧t18 < ↑(List.length (api_Spec.Rules s0))∧(∃ r0_3:List Int,∃ o_2:zm,zbq (gd (api_Spec.Rules s0) t18) t18 ({ Auto:={ Sets:=t28_Auto_Sets,Owner:=t28_Auto_Owner,Follow:=t28_Auto_Follow,Ends:=t28_Auto_Ends,Starts:=t28_Auto_Starts } }) r0_3 o_2∧((List.length begins+(1:Nat)) * (24:Nat)≤(2:Nat) ^ (47:Nat))∧(Inv10 (begins++[r0_3]) (zh.Sets (zm.Auto o_2)) (zh.Owner (zm.Auto o_2)) (zh.Follow (zm.Auto o_2)) (zh.Ends (zm.Auto o_2)) (zh.Starts (zm.Auto o_2)) (w64 (t18+1))∧mu11 (begins++[r0_3]) (zh.Sets (zm.Auto o_2)) (zh.Owner (zm.Auto o_2)) (zh.Follow (zm.Auto o_2)) (zh.Ends (zm.Auto o_2)) (zh.Starts (zm.Auto o_2)) (w64 (t18+1)) < mu11 begins t28_Auto_Sets t28_Auto_Owner t28_Auto_Follow t28_Auto_Ends t28_Auto_Starts t18)))∧((decide (t18 < (↑(List.length (api_Spec.Rules s0)):Int)))=false→(((decide ((↑(List.length t28_Auto_Sets):Int) > (600:Int)))=true→(res=({ Sets:=[],Owner:=[],Follow:=[],Ends:=[],Starts:=[] })∧res_1=2))∧((decide ((↑(List.length t28_Auto_Sets):Int) > (600:Int)))=false→(∃ (Inv24:List (List Int)→Int→Prop) (mu25:List (List Int)→Int→Nat),Inv24 t28_Auto_Starts 0∧(∀ (t28_Auto_Starts_1:List (List Int)) (t43:Int),Inv24 t28_Auto_Starts_1 t43→(((decide (t43 < w64 ((2:Int) * (↑(List.length (api_Spec.Conds s0)):Int))))=true→(∃ r0_6:List Int,zcN s0 begins (w64 (Int.tdiv t43 (2:Int))) (Int.tmod t43 (2:Int) == 1) r0_6∧((List.length t28_Auto_Starts_1+(1:Nat)) * (24:Nat)≤(2:Nat) ^ (47:Nat))∧(Inv24 (t28_Auto_Starts_1++[r0_6]) (w64 (t43+1))∧mu25 (t28_Auto_Starts_1++[r0_6]) (w64 (t43+1)) < mu25 t28_Auto_Starts_1 t43)))∧((decide (t43 < w64 ((2:Int) * (↑(List.length (api_Spec.Conds s0)):Int))))=false→(res=({ Sets:=t28_Auto_Sets,Owner:=t28_Auto_Owner,Follow:=t28_Auto_Follow,Ends:=t28_Auto_Ends,Starts:=t28_Auto_Starts_1 })∧res_1=0))))))))))))))):zci s0 res res_1:=by
 unfold zci;have kk:=cfOk [] 70;refine fD (x:=bodyOf Tryz.f15) kk Tryz.func15 ?_;refine wkS [1] [(1,zK s0)] (by kernel_rfl) ?_;refine sOE kk oN [1] [(4,.ptr 8 0),(7,.ptr 14 0),(8,zK s0),(14,.agg [.own 25 ([]),.own 3 ([]),.own 40 ([]),.own 4 ([]),.own 40 ([])])] [(4,.ptr 8 0),(7,.ptr 14 0),(8,zK s0),(14,.agg [oL 25 ze ([]),oL 3 zf ([]),oL 40 zg ([]),oL 4 zr ([]),oL 40 zg ([])])] ?_;refine qD ?_;obtain ⟨r0,hc0,h⟩:=h;refine sO kk (ca hc0 oN) [] [(34,vB (!r0))] ?_;refine cH 11 h (fun hb1 h=>?_) (fun hb1 h=>?_)
 ·refine sOE kk oN [4,8,34] [(10,vi 1),(14,.agg [.own 25 ([]),.own 3 ([]),.own 40 ([]),.own 4 ([]),.own 40 ([])])] [(10,vi 1),(14,.agg [oL 25 ze ([]),oL 3 zf ([]),oL 40 zg ([]),oL 4 zr ([]),oL 40 zg ([])])] ?_;refine tD ?_;obtain ⟨he0,he1⟩:=h;subst res res_1;exact (endD [] (.tup [.agg [.f (FV.sl (List.take (List.length (List.map ze [])) (List.drop (0:Nat) (List.map ze [])))),.f (FV.sl (List.take (List.length (List.map zf [])) (List.drop (0:Nat) (List.map zf [])))),.f (FV.sl (List.take (List.length (List.map zg [])) (List.drop (0:Nat) (List.map zg [])))),.f (FV.sl (List.take (List.length (List.map zr [])) (List.drop (0:Nat) (List.map zr [])))),.f (FV.sl (List.take (List.length (List.map zg [])) (List.drop (0:Nat) (List.map zg []))))],vi 1]) []).1
 ·refine kD ?_;show Sem _ _ _ _ _;refine wkD [34] ?_;refine sOE kk oN [] [(13,.ptr 86 0),(86,.agg [.own 25 ([]),.own 3 ([]),.own 40 ([]),.own 4 ([]),.own 40 ([])])] [(13,.ptr 86 0),(86,.agg [oL 25 ze ([]),oL 3 zf ([]),oL 40 zg ([]),oL 4 zr ([]),oL 40 zg ([])])] ?_;refine sOE kk oN [] [(16,.own 40 ([]))] [(16,oL 40 zg ([]))] ?_;refine qD ?_;refine sOE kk oN [] [(49,vL zw (api_Spec.Rules s0)),(52,vi ((↑(List.length (List.map zw (api_Spec.Rules s0))):Int))),(55,vi 0)] [(49,vL zw (api_Spec.Rules s0)),(52,vi ((↑(List.length (api_Spec.Rules s0)):Int))),(55,vi 0)] ?_;refine bD (id:=0) ?_;obtain ⟨Inv10,mu11,h0Inv10,hInv10⟩:=h;refine loE [] (fun (q:List (List Int)×List zc×List Int×List (List Int)×List Bool×List (List Int)×Int)=>(fun (begins:List (List Int)) (t28_Auto_Sets:List zc) (t28_Auto_Owner:List Int) (t28_Auto_Follow:List (List Int)) (t28_Auto_Ends:List Bool) (t28_Auto_Starts:List (List Int)) (t18:Int)=>([(16,oL 40 zg begins),(55,vi t18),(86,.agg [oL 25 ze t28_Auto_Sets,oL 3 zf t28_Auto_Owner,oL 40 zg t28_Auto_Follow,oL 4 zr t28_Auto_Ends,oL 40 zg t28_Auto_Starts])]:Sta)) q.1 q.2.1 q.2.2.1 q.2.2.2.1 q.2.2.2.2.1 q.2.2.2.2.2.1 q.2.2.2.2.2.2) (fun (q:List (List Int)×List zc×List Int×List (List Int)×List Bool×List (List Int)×Int)=>Inv10 q.1 q.2.1 q.2.2.1 q.2.2.2.1 q.2.2.2.2.1 q.2.2.2.2.2.1 q.2.2.2.2.2.2) (fun (q:List (List Int)×List zc×List Int×List (List Int)×List Bool×List (List Int)×Int)=>mu11 q.1 q.2.1 q.2.2.1 q.2.2.2.1 q.2.2.2.2.1 q.2.2.2.2.2.1 q.2.2.2.2.2.2) (([]),([]),([]),([]),([]),([]),0) [] h0Inv10 ?_;rintro ⟨begins,t28_Auto_Sets,t28_Auto_Owner,t28_Auto_Follow,t28_Auto_Ends,t28_Auto_Starts,t18⟩ hi;have h:=hInv10 begins t28_Auto_Sets t28_Auto_Owner t28_Auto_Follow t28_Auto_Ends t28_Auto_Starts t18 hi;refine sO kk oN [] [(58,vB (decide (t18 < (↑(List.length (api_Spec.Rules s0)):Int))))] ?_;refine qD ?_;refine cH 19 h (fun hb12 h=>?_) (fun hb12 h=>?_)
  ·refine kD ?_;show Sem _ _ _ _ _;refine wkD [58] ?_;refine qD ?_;refine bD (id:=1) ?_;obtain ⟨h13,h⟩:=h;obtain ⟨h14,h⟩:=h;refine sO kk (nd h13 (el (zF zw (api_Spec.Rules s0) t18 _ (z7 _) h13 h14) oN)) [] [(19,vi t18),(22,.ptr 44 0),(44,zas (gd (api_Spec.Rules s0) t18))] ?_;obtain ⟨r0_3,o_2,hc15,h⟩:=h;obtain ⟨h16,h⟩:=h;refine rOE kk (ca hc15 (apo zg begins h16 oN)) [19,22,44] [(16,.own 40 (List.map zg begins++[FV.sl (List.map zf r0_3)])),(86,zan o_2)] [(16,oL 40 zg (begins++[r0_3])),(86,zan o_2)] ?_;show Sem _ _ _ _ _;refine rO kk oN [] [(55,vi (w64 (t18+1)))] ?_;exact lD ((begins++[r0_3]),(zh.Sets (zm.Auto o_2)),(zh.Owner (zm.Auto o_2)),(zh.Follow (zm.Auto o_2)),(zh.Ends (zm.Auto o_2)),(zh.Starts (zm.Auto o_2)),(w64 (t18+1))) [] h
  ·refine xD (i:=0) ?_;show Sem _ _ _ _ _;refine wkD [49,52,55,58] ?_;refine qD ?_;refine sOE kk oN [] [(112,vB (decide ((↑(List.length (List.map ze t28_Auto_Sets)):Int) > (600:Int))))] [(112,vB (decide ((↑(List.length t28_Auto_Sets):Int) > (600:Int))))] ?_;refine cH 37 h (fun hb17 h=>?_) (fun hb17 h=>?_)
   ·refine sOE kk oN [4,8,13,16,86,112] [(10,vi 2),(14,.agg [.own 25 ([]),.own 3 ([]),.own 40 ([]),.own 4 ([]),.own 40 ([])])] [(10,vi 2),(14,.agg [oL 25 ze ([]),oL 3 zf ([]),oL 40 zg ([]),oL 4 zr ([]),oL 40 zg ([])])] ?_;refine tD ?_;obtain ⟨he0,he1⟩:=h;subst res res_1;exact (endD [] (.tup [.agg [.f (FV.sl (List.take (List.length (List.map ze [])) (List.drop (0:Nat) (List.map ze [])))),.f (FV.sl (List.take (List.length (List.map zf [])) (List.drop (0:Nat) (List.map zf [])))),.f (FV.sl (List.take (List.length (List.map zg [])) (List.drop (0:Nat) (List.map zg [])))),.f (FV.sl (List.take (List.length (List.map zr [])) (List.drop (0:Nat) (List.map zr [])))),.f (FV.sl (List.take (List.length (List.map zg [])) (List.drop (0:Nat) (List.map zg []))))],vi 2]) []).1
   ·refine kD ?_;show Sem _ _ _ _ _;refine wkD [112] ?_;refine qD ?_;refine sOE kk oN [] [(127,vi (w64 ((2:Int) * (↑(List.length (List.map zu (api_Spec.Conds s0))):Int)))),(130,vi 0)] [(127,vi (w64 ((2:Int) * (↑(List.length (api_Spec.Conds s0)):Int)))),(130,vi 0)] ?_;refine bD (id:=2) ?_;obtain ⟨Inv24,mu25,h0Inv24,hInv24⟩:=h;refine loE [] (fun (q:List (List Int)×Int)=>(fun (t28_Auto_Starts_1:List (List Int)) (t43:Int)=>([(16,vL zg begins),(86,.agg [oL 25 ze t28_Auto_Sets,oL 3 zf t28_Auto_Owner,oL 40 zg t28_Auto_Follow,oL 4 zr t28_Auto_Ends,oL 40 zg t28_Auto_Starts_1]),(130,vi t43)]:Sta)) q.1 q.2) (fun (q:List (List Int)×Int)=>Inv24 q.1 q.2) (fun (q:List (List Int)×Int)=>mu25 q.1 q.2) (t28_Auto_Starts,0) [(16,0)] h0Inv24 ?_;rintro ⟨t28_Auto_Starts_1,t43⟩ hi;have h:=hInv24 t28_Auto_Starts_1 t43 hi;refine sO kk oN [] [(133,vB (decide (t43 < w64 ((2:Int) * (↑(List.length (api_Spec.Conds s0)):Int)))))] ?_;refine qD ?_;refine cH 44 h (fun hb26 h=>?_) (fun hb26 h=>?_)
    ·refine kD ?_;show Sem _ _ _ _ _;refine wkD [133] ?_;refine qD ?_;refine bD (id:=3) ?_;refine sO kk oN [] [(25,vi t43)] ?_;obtain ⟨r0_6,hc27,h⟩:=h;obtain ⟨h28,h⟩:=h;refine rOE kk (nd (show (2:Int)≠(0:Int) from by first | decide | rfl | trivial) (nd (show (2:Int)≠(0:Int) from by first | decide | rfl | trivial) (ca hc27 (apo zg t28_Auto_Starts_1 h28 oN)))) [25] [(86,.agg [oL 25 ze t28_Auto_Sets,oL 3 zf t28_Auto_Owner,oL 40 zg t28_Auto_Follow,oL 4 zr t28_Auto_Ends,.own 40 (List.map zg t28_Auto_Starts_1++[FV.sl (List.map zf r0_6)])])] [(86,.agg [oL 25 ze t28_Auto_Sets,oL 3 zf t28_Auto_Owner,oL 40 zg t28_Auto_Follow,oL 4 zr t28_Auto_Ends,oL 40 zg (t28_Auto_Starts_1++[r0_6])])] ?_;show Sem _ _ _ _ _;refine rO kk oN [] [(130,vi (w64 (t43+1)))] ?_;exact lD ((t28_Auto_Starts_1++[r0_6]),(w64 (t43+1))) [] h
    ·refine xD (i:=2) ?_;show Sem _ _ _ _ _;refine wkD [4,8,16,127,130,133] ?_;refine sOE kk oN [13,86] [(10,vi 0),(14,.agg [.f (FV.sl (List.take (List.length (List.map ze t28_Auto_Sets)) (List.drop (0:Nat) (List.map ze t28_Auto_Sets)))),.f (FV.sl (List.take (List.length (List.map zf t28_Auto_Owner)) (List.drop (0:Nat) (List.map zf t28_Auto_Owner)))),.f (FV.sl (List.take (List.length (List.map zg t28_Auto_Follow)) (List.drop (0:Nat) (List.map zg t28_Auto_Follow)))),.f (FV.sl (List.take (List.length (List.map zr t28_Auto_Ends)) (List.drop (0:Nat) (List.map zr t28_Auto_Ends)))),.f (FV.sl (List.take (List.length (List.map zg t28_Auto_Starts_1)) (List.drop (0:Nat) (List.map zg t28_Auto_Starts_1))))])] [(10,vi 0),(14,.agg [vL ze t28_Auto_Sets,vL zf t28_Auto_Owner,vL zg t28_Auto_Follow,vL zr t28_Auto_Ends,vL zg t28_Auto_Starts_1])] ?_;refine tD ?_;obtain ⟨he0,he1⟩:=h;subst res res_1;exact (endQ []).1
theorem zfo (s0:ByteArray) (res:Bool)
 (h:(((ByteArray.toList s0 == ByteArray.toList { data:=#[] } || decide ((↑(ByteArray.size s0):Int) > (12:Int)))=true→(res=false))∧((ByteArray.toList s0 == ByteArray.toList { data:=#[] } || decide ((↑(ByteArray.size s0):Int) > (12:Int)))=false→(∃ (Inv56:Int→Prop) (mu57:Int→Nat),Inv56 0∧(∀ (i:Int),Inv56 i→(((decide (i < (↑(ByteArray.size s0):Int)))=true→((0:Int)≤i)∧i < ↑(ByteArray.size s0)∧((decide ((↑(UInt8.toNat (byteAt s0 i)):Int)≥(97:Int)))=true→((0:Int)≤i))∧((decide ((↑(UInt8.toNat (byteAt s0 i)):Int)≥(97:Int)))=true→i < ↑(ByteArray.size s0))∧((decide ((↑(UInt8.toNat (byteAt s0 i)):Int)≥(97:Int)))=true→((decide ((↑(UInt8.toNat (byteAt s0 i)):Int)≤(122:Int)))=false→((0:Int)≤i)))∧((decide ((↑(UInt8.toNat (byteAt s0 i)):Int)≥(97:Int)))=true→((decide ((↑(UInt8.toNat (byteAt s0 i)):Int)≤(122:Int)))=false→i < ↑(ByteArray.size s0)))∧((decide ((↑(UInt8.toNat (byteAt s0 i)):Int)≥(97:Int)))=true→((decide ((↑(UInt8.toNat (byteAt s0 i)):Int)≤(122:Int)))=false→((decide ((↑(UInt8.toNat (byteAt s0 i)):Int)≥(65:Int)))=true→((0:Int)≤i))))∧((decide ((↑(UInt8.toNat (byteAt s0 i)):Int)≥(97:Int)))=true→((decide ((↑(UInt8.toNat (byteAt s0 i)):Int)≤(122:Int)))=false→((decide ((↑(UInt8.toNat (byteAt s0 i)):Int)≥(65:Int)))=true→i < ↑(ByteArray.size s0))))∧((decide ((↑(UInt8.toNat (byteAt s0 i)):Int)≥(97:Int)))=true→((decide ((↑(UInt8.toNat (byteAt s0 i)):Int)≤(122:Int)))=false→((decide ((↑(UInt8.toNat (byteAt s0 i)):Int)≥(65:Int)))=true→((decide ((↑(UInt8.toNat (byteAt s0 i)):Int)≤(90:Int)))=false→((0:Int)≤i)))))∧((decide ((↑(UInt8.toNat (byteAt s0 i)):Int)≥(97:Int)))=true→((decide ((↑(UInt8.toNat (byteAt s0 i)):Int)≤(122:Int)))=false→((decide ((↑(UInt8.toNat (byteAt s0 i)):Int)≥(65:Int)))=true→((decide ((↑(UInt8.toNat (byteAt s0 i)):Int)≤(90:Int)))=false→i < ↑(ByteArray.size s0)))))∧((decide ((↑(UInt8.toNat (byteAt s0 i)):Int)≥(97:Int)))=true→((decide ((↑(UInt8.toNat (byteAt s0 i)):Int)≤(122:Int)))=false→((decide ((↑(UInt8.toNat (byteAt s0 i)):Int)≥(65:Int)))=false→((0:Int)≤i))))∧((decide ((↑(UInt8.toNat (byteAt s0 i)):Int)≥(97:Int)))=true→((decide ((↑(UInt8.toNat (byteAt s0 i)):Int)≤(122:Int)))=false→((decide ((↑(UInt8.toNat (byteAt s0 i)):Int)≥(65:Int)))=false→i < ↑(ByteArray.size s0))))∧((decide ((↑(UInt8.toNat (byteAt s0 i)):Int)≥(97:Int)))=false→((0:Int)≤i))∧((decide ((↑(UInt8.toNat (byteAt s0 i)):Int)≥(97:Int)))=false→i < ↑(ByteArray.size s0))∧((decide ((↑(UInt8.toNat (byteAt s0 i)):Int)≥(97:Int)))=false→((decide ((↑(UInt8.toNat (byteAt s0 i)):Int)≥(65:Int)))=true→((0:Int)≤i)))∧((decide ((↑(UInt8.toNat (byteAt s0 i)):Int)≥(97:Int)))=false→((decide ((↑(UInt8.toNat (byteAt s0 i)):Int)≥(65:Int)))=true→i < ↑(ByteArray.size s0)))∧((decide ((↑(UInt8.toNat (byteAt s0 i)):Int)≥(97:Int)))=false→((decide ((↑(UInt8.toNat (byteAt s0 i)):Int)≥(65:Int)))=true→((decide ((↑(UInt8.toNat (byteAt s0 i)):Int)≤(90:Int)))=false→((0:Int)≤i))))∧((decide ((↑(UInt8.toNat (byteAt s0 i)):Int)≥(97:Int)))=false→((decide ((↑(UInt8.toNat (byteAt s0 i)):Int)≥(65:Int)))=true→((decide ((↑(UInt8.toNat (byteAt s0 i)):Int)≤(90:Int)))=false→i < ↑(ByteArray.size s0))))∧((decide ((↑(UInt8.toNat (byteAt s0 i)):Int)≥(97:Int)))=false→((decide ((↑(UInt8.toNat (byteAt s0 i)):Int)≥(65:Int)))=false→((0:Int)≤i)))∧((decide ((↑(UInt8.toNat (byteAt s0 i)):Int)≥(97:Int)))=false→((decide ((↑(UInt8.toNat (byteAt s0 i)):Int)≥(65:Int)))=false→i < ↑(ByteArray.size s0)))∧((!bif decide ((↑(UInt8.toNat (byteAt s0 i)):Int)≥(97:Int)) then decide ((↑(UInt8.toNat (byteAt s0 i)):Int)≤(122:Int)) || bif decide ((↑(UInt8.toNat (byteAt s0 i)):Int)≥(65:Int)) then decide ((↑(UInt8.toNat (byteAt s0 i)):Int)≤(90:Int)) || (↑(UInt8.toNat (byteAt s0 i)):Int) == (95:Int) else (↑(UInt8.toNat (byteAt s0 i)):Int) == (95:Int) else bif decide ((↑(UInt8.toNat (byteAt s0 i)):Int)≥(65:Int)) then decide ((↑(UInt8.toNat (byteAt s0 i)):Int)≤(90:Int)) || (↑(UInt8.toNat (byteAt s0 i)):Int) == (95:Int) else (↑(UInt8.toNat (byteAt s0 i)):Int) == (95:Int))=true→((i == 0)=false→((0:Int)≤i)))∧((!bif decide ((↑(UInt8.toNat (byteAt s0 i)):Int)≥(97:Int)) then decide ((↑(UInt8.toNat (byteAt s0 i)):Int)≤(122:Int)) || bif decide ((↑(UInt8.toNat (byteAt s0 i)):Int)≥(65:Int)) then decide ((↑(UInt8.toNat (byteAt s0 i)):Int)≤(90:Int)) || (↑(UInt8.toNat (byteAt s0 i)):Int) == (95:Int) else (↑(UInt8.toNat (byteAt s0 i)):Int) == (95:Int) else bif decide ((↑(UInt8.toNat (byteAt s0 i)):Int)≥(65:Int)) then decide ((↑(UInt8.toNat (byteAt s0 i)):Int)≤(90:Int)) || (↑(UInt8.toNat (byteAt s0 i)):Int) == (95:Int) else (↑(UInt8.toNat (byteAt s0 i)):Int) == (95:Int))=true→((i == 0)=false→i < ↑(ByteArray.size s0)))∧((!bif decide ((↑(UInt8.toNat (byteAt s0 i)):Int)≥(97:Int)) then decide ((↑(UInt8.toNat (byteAt s0 i)):Int)≤(122:Int)) || bif decide ((↑(UInt8.toNat (byteAt s0 i)):Int)≥(65:Int)) then decide ((↑(UInt8.toNat (byteAt s0 i)):Int)≤(90:Int)) || (↑(UInt8.toNat (byteAt s0 i)):Int) == (95:Int) else (↑(UInt8.toNat (byteAt s0 i)):Int) == (95:Int) else bif decide ((↑(UInt8.toNat (byteAt s0 i)):Int)≥(65:Int)) then decide ((↑(UInt8.toNat (byteAt s0 i)):Int)≤(90:Int)) || (↑(UInt8.toNat (byteAt s0 i)):Int) == (95:Int) else (↑(UInt8.toNat (byteAt s0 i)):Int) == (95:Int))=true→((i == 0)=false→((decide ((↑(UInt8.toNat (byteAt s0 i)):Int) < (48:Int)))=false→((0:Int)≤i))))∧((!bif decide ((↑(UInt8.toNat (byteAt s0 i)):Int)≥(97:Int)) then decide ((↑(UInt8.toNat (byteAt s0 i)):Int)≤(122:Int)) || bif decide ((↑(UInt8.toNat (byteAt s0 i)):Int)≥(65:Int)) then decide ((↑(UInt8.toNat (byteAt s0 i)):Int)≤(90:Int)) || (↑(UInt8.toNat (byteAt s0 i)):Int) == (95:Int) else (↑(UInt8.toNat (byteAt s0 i)):Int) == (95:Int) else bif decide ((↑(UInt8.toNat (byteAt s0 i)):Int)≥(65:Int)) then decide ((↑(UInt8.toNat (byteAt s0 i)):Int)≤(90:Int)) || (↑(UInt8.toNat (byteAt s0 i)):Int) == (95:Int) else (↑(UInt8.toNat (byteAt s0 i)):Int) == (95:Int))=true→((i == 0)=false→((decide ((↑(UInt8.toNat (byteAt s0 i)):Int) < (48:Int)))=false→i < ↑(ByteArray.size s0))))∧((((!bif decide ((↑(UInt8.toNat (byteAt s0 i)):Int)≥(97:Int)) then decide ((↑(UInt8.toNat (byteAt s0 i)):Int)≤(122:Int)) || bif decide ((↑(UInt8.toNat (byteAt s0 i)):Int)≥(65:Int)) then decide ((↑(UInt8.toNat (byteAt s0 i)):Int)≤(90:Int)) || (↑(UInt8.toNat (byteAt s0 i)):Int) == (95:Int) else (↑(UInt8.toNat (byteAt s0 i)):Int) == (95:Int) else bif decide ((↑(UInt8.toNat (byteAt s0 i)):Int)≥(65:Int)) then decide ((↑(UInt8.toNat (byteAt s0 i)):Int)≤(90:Int)) || (↑(UInt8.toNat (byteAt s0 i)):Int) == (95:Int) else (↑(UInt8.toNat (byteAt s0 i)):Int) == (95:Int)) && (i == 0 || (decide ((↑(UInt8.toNat (byteAt s0 i)):Int) < (48:Int)) || decide ((↑(UInt8.toNat (byteAt s0 i)):Int) > (57:Int)))))=true→(res=false))∧(((!bif decide ((↑(UInt8.toNat (byteAt s0 i)):Int)≥(97:Int)) then decide ((↑(UInt8.toNat (byteAt s0 i)):Int)≤(122:Int)) || bif decide ((↑(UInt8.toNat (byteAt s0 i)):Int)≥(65:Int)) then decide ((↑(UInt8.toNat (byteAt s0 i)):Int)≤(90:Int)) || (↑(UInt8.toNat (byteAt s0 i)):Int) == (95:Int) else (↑(UInt8.toNat (byteAt s0 i)):Int) == (95:Int) else bif decide ((↑(UInt8.toNat (byteAt s0 i)):Int)≥(65:Int)) then decide ((↑(UInt8.toNat (byteAt s0 i)):Int)≤(90:Int)) || (↑(UInt8.toNat (byteAt s0 i)):Int) == (95:Int) else (↑(UInt8.toNat (byteAt s0 i)):Int) == (95:Int)) && (i == 0 || (decide ((↑(UInt8.toNat (byteAt s0 i)):Int) < (48:Int)) || decide ((↑(UInt8.toNat (byteAt s0 i)):Int) > (57:Int)))))=false→(Inv56 (w64 (i+1))∧mu57 (w64 (i+1)) < mu57 i))))∧((decide (i < (↑(ByteArray.size s0):Int)))=false→(res=true)))))))):zbv s0 res:=by
 unfold zbv;have kk:=cfOk [] 64;refine fD (x:=bodyOf Tryz.f84) kk Tryz.func84 ?_;refine wkS [1] [(1,vS s0)] (by kernel_rfl) ?_;refine sO kk oN [] [] ?_;refine qD ?_;refine sM [] [(34,vB (ByteArray.toList s0 == ByteArray.toList { data:=#[] } || decide ((↑(ByteArray.size s0):Int) > (12:Int))))] ?_ (fun hk0=>?_)
 ·refine cH 11 h (fun hb1 h=>?_) (fun hb1 h=>?_)
  ·refine sO kk oN [1,34] [(7,vB false)] ?_;refine tD ?_;subst h;exact (endQ []).1
  ·refine kD ?_;show Sem _ _ _ _ _;refine wkD [34] ?_;refine qD ?_;refine sO kk oN [] [(10,vi 0)] ?_;refine bD (id:=0) ?_;obtain ⟨Inv56,mu57,h0Inv56,hInv56⟩:=h;refine loE [] (fun (q:Int)=>(fun (i:Int)=>([(10,vi i)]:Sta)) q) (fun (q:Int)=>Inv56 q) (fun (q:Int)=>mu57 q) 0 [] h0Inv56 ?_;rintro i hi;have h:=hInv56 i hi;refine qD ?_;refine sO kk oN [] [(46,vB (decide (i < (↑(ByteArray.size s0):Int))))] ?_;refine cH 15 h (fun hb58 h=>?_) (fun hb58 h=>?_)
   ·refine kD ?_;show Sem _ _ _ _ _;refine wkD [46] ?_;refine qD ?_;refine bD (id:=1) ?_;obtain ⟨h59,h⟩:=h;obtain ⟨h60,h⟩:=h;obtain ⟨h62,h63,h65,h66,h68,h69,h71,h72,h73,h74,h75,h76,h78,h79,h81,h82,h83,h84,h⟩:=h;refine sM [] [(13,vB (bif decide ((↑(UInt8.toNat (byteAt s0 i)):Int)≥(97:Int)) then decide ((↑(UInt8.toNat (byteAt s0 i)):Int)≤(122:Int)) || bif decide ((↑(UInt8.toNat (byteAt s0 i)):Int)≥(65:Int)) then decide ((↑(UInt8.toNat (byteAt s0 i)):Int)≤(90:Int)) || (↑(UInt8.toNat (byteAt s0 i)):Int) == (95:Int) else (↑(UInt8.toNat (byteAt s0 i)):Int) == (95:Int) else bif decide ((↑(UInt8.toNat (byteAt s0 i)):Int)≥(65:Int)) then decide ((↑(UInt8.toNat (byteAt s0 i)):Int)≤(90:Int)) || (↑(UInt8.toNat (byteAt s0 i)):Int) == (95:Int) else (↑(UInt8.toNat (byteAt s0 i)):Int) == (95:Int)))] ?_ (fun hk0=>?_)
    ·obtain ⟨h87,h88,h90,h91,h⟩:=h;refine sM [13] [(190,vB ((!bif decide ((↑(UInt8.toNat (byteAt s0 i)):Int)≥(97:Int)) then decide ((↑(UInt8.toNat (byteAt s0 i)):Int)≤(122:Int)) || bif decide ((↑(UInt8.toNat (byteAt s0 i)):Int)≥(65:Int)) then decide ((↑(UInt8.toNat (byteAt s0 i)):Int)≤(90:Int)) || (↑(UInt8.toNat (byteAt s0 i)):Int) == (95:Int) else (↑(UInt8.toNat (byteAt s0 i)):Int) == (95:Int) else bif decide ((↑(UInt8.toNat (byteAt s0 i)):Int)≥(65:Int)) then decide ((↑(UInt8.toNat (byteAt s0 i)):Int)≤(90:Int)) || (↑(UInt8.toNat (byteAt s0 i)):Int) == (95:Int) else (↑(UInt8.toNat (byteAt s0 i)):Int) == (95:Int)) && (i == 0 || (decide ((↑(UInt8.toNat (byteAt s0 i)):Int) < (48:Int)) || decide ((↑(UInt8.toNat (byteAt s0 i)):Int) > (57:Int))))))] ?_ (fun hk0=>?_)
     ·refine cH 63 h (fun hb92 h=>?_) (fun hb92 h=>?_)
      ·refine sO kk oN [1,10,190] [(7,vB false)] ?_;refine tD ?_;subst h;exact (endQ []).1
      ·refine kD ?_;show Sem _ _ _ _ _;refine wkD [190] ?_;refine rO kk oN [] [(10,vi (w64 (i+1)))] ?_;exact lD (w64 (i+1)) [] h
     ·rcases eft (!bif decide ((↑(UInt8.toNat (byteAt s0 i)):Int)≥(97:Int)) then decide ((↑(UInt8.toNat (byteAt s0 i)):Int)≤(122:Int)) || bif decide ((↑(UInt8.toNat (byteAt s0 i)):Int)≥(65:Int)) then decide ((↑(UInt8.toNat (byteAt s0 i)):Int)≤(90:Int)) || (↑(UInt8.toNat (byteAt s0 i)):Int) == (95:Int) else (↑(UInt8.toNat (byteAt s0 i)):Int) == (95:Int) else bif decide ((↑(UInt8.toNat (byteAt s0 i)):Int)≥(65:Int)) then decide ((↑(UInt8.toNat (byteAt s0 i)):Int)≤(90:Int)) || (↑(UInt8.toNat (byteAt s0 i)):Int) == (95:Int) else (↑(UInt8.toNat (byteAt s0 i)):Int) == (95:Int)) with hb85 | hb85
      ·rcases eft (i == 0) with hb86 | hb86
       ·refine sO kk (g2 hb85 hb86 11155551618888173 oN) [13] [(190,vB true)] ?_;exact Sem.cast (by try rw [hb85];try rw [hb86];kernel_rfl) hk0
       ·rcases eft (decide ((↑(UInt8.toNat (byteAt s0 i)):Int) < (48:Int))) with hb89 | hb89
        ·refine sO kk (g2 hb86 hb85 444222 (nd ((h87 hb85) hb86) (op (.y (byteAt s0 i)) (zal s0 i ((h87 hb85) hb86) ((h88 hb85) hb86)) (g2 hb86 hb85 243 (g2 hb85 hb89 15555163 oN))))) [13] [(190,vB true)] ?_;exact Sem.cast (by try rw [hb85];try rw [hb86];try rw [hb89];kernel_rfl) hk0
        ·refine sO kk (g2 hb86 hb85 444222 (nd ((h87 hb85) hb86) (op (.y (byteAt s0 i)) (zal s0 i ((h87 hb85) hb86) ((h88 hb85) hb86)) (g2 hb86 hb85 243 (g2 hb89 hb85 4222 (nd (((h90 hb85) hb86) hb89) (op (.y (byteAt s0 i)) (zal s0 i (((h90 hb85) hb86) hb89) (((h91 hb85) hb86) hb89)) (g2 hb85 hb89 5163 oN)))))))) [13] [(190,vB (decide ((↑(UInt8.toNat (byteAt s0 i)):Int) > (57:Int))))] ?_;exact Sem.cast (by try rw [hb85];try rw [hb86];try rw [hb89];kernel_rfl) hk0
      ·refine sO kk (g1 hb85 1111113 oN) [13] [(190,vB false)] ?_;exact Sem.cast (by try rw [hb85];kernel_rfl) hk0
    ·rcases eft (decide ((↑(UInt8.toNat (byteAt s0 i)):Int)≥(97:Int))) with hb61 | hb61
     ·rcases eft (decide ((↑(UInt8.toNat (byteAt s0 i)):Int)≤(122:Int))) with hb64 | hb64
      ·refine sO kk (nd h59 (op (.y (byteAt s0 i)) (zal s0 i h59 h60) (g1 hb61 111 (nd (h62 hb61) (op (.y (byteAt s0 i)) (zal s0 i (h62 hb61) (h63 hb61)) (g2 hb64 hb61 46222222388887 oN)))))) [] [(13,vB true)] ?_;exact Sem.cast (by try rw [hb61];try rw [hb64];kernel_rfl) hk0
      ·rcases eft (decide ((↑(UInt8.toNat (byteAt s0 i)):Int)≥(65:Int))) with hb67 | hb67
       ·rcases eft (decide ((↑(UInt8.toNat (byteAt s0 i)):Int)≤(90:Int))) with hb70 | hb70
        ·refine sO kk (nd h59 (op (.y (byteAt s0 i)) (zal s0 i h59 h60) (g1 hb61 111 (nd (h62 hb61) (op (.y (byteAt s0 i)) (zal s0 i (h62 hb61) (h63 hb61)) (g2 hb64 hb61 46222 (nd ((h65 hb61) hb64) (op (.y (byteAt s0 i)) (zal s0 i ((h65 hb61) hb64) ((h66 hb61) hb64)) (g2 hb67 hb64 55111 (nd (((h68 hb61) hb64) hb67) (op (.y (byteAt s0 i)) (zal s0 i (((h68 hb61) hb64) hb67) (((h69 hb61) hb64) hb67)) (g2 hb67 hb64 153 (g2 hb70 hb64 622223 oN))))))))))))) [] [(13,vB true)] ?_;exact Sem.cast (by try rw [hb61];try rw [hb64];try rw [hb67];try rw [hb70];kernel_rfl) hk0
        ·refine sO kk (nd h59 (op (.y (byteAt s0 i)) (zal s0 i h59 h60) (g1 hb61 111 (nd (h62 hb61) (op (.y (byteAt s0 i)) (zal s0 i (h62 hb61) (h63 hb61)) (g2 hb64 hb61 46222 (nd ((h65 hb61) hb64) (op (.y (byteAt s0 i)) (zal s0 i ((h65 hb61) hb64) ((h66 hb61) hb64)) (g2 hb67 hb64 55111 (nd (((h68 hb61) hb64) hb67) (op (.y (byteAt s0 i)) (zal s0 i (((h68 hb61) hb64) hb67) (((h69 hb61) hb64) hb67)) (g2 hb67 hb64 153 (g2 hb70 hb64 6222 (nd ((((h71 hb61) hb64) hb67) hb70) (op (.y (byteAt s0 i)) (zal s0 i ((((h71 hb61) hb64) hb67) hb70) ((((h72 hb61) hb64) hb67) hb70)) (g1 hb70 23 oN)))))))))))))))) [] [(13,vB ((↑(UInt8.toNat (byteAt s0 i)):Int) == (95:Int)))] ?_;exact Sem.cast (by try rw [hb61];try rw [hb64];try rw [hb67];try rw [hb70];kernel_rfl) hk0
       ·refine sO kk (nd h59 (op (.y (byteAt s0 i)) (zal s0 i h59 h60) (g1 hb61 111 (nd (h62 hb61) (op (.y (byteAt s0 i)) (zal s0 i (h62 hb61) (h63 hb61)) (g2 hb64 hb61 46222 (nd ((h65 hb61) hb64) (op (.y (byteAt s0 i)) (zal s0 i ((h65 hb61) hb64) ((h66 hb61) hb64)) (g2 hb64 hb67 224444263777 (nd (((h73 hb61) hb64) hb67) (op (.y (byteAt s0 i)) (zal s0 i (((h73 hb61) hb64) hb67) (((h74 hb61) hb64) hb67)) (g0 78 oN)))))))))))) [] [(13,vB ((↑(UInt8.toNat (byteAt s0 i)):Int) == (95:Int)))] ?_;exact Sem.cast (by try rw [hb61];try rw [hb64];try rw [hb67];kernel_rfl) hk0
     ·rcases eft (decide ((↑(UInt8.toNat (byteAt s0 i)):Int)≥(65:Int))) with hb77 | hb77
      ·rcases eft (decide ((↑(UInt8.toNat (byteAt s0 i)):Int)≤(90:Int))) with hb80 | hb80
       ·refine sO kk (nd h59 (op (.y (byteAt s0 i)) (zal s0 i h59 h60) (g1 hb61 11113777 (nd (h75 hb61) (op (.y (byteAt s0 i)) (zal s0 i (h75 hb61) (h76 hb61)) (g1 hb77 77111 (nd ((h78 hb61) hb77) (op (.y (byteAt s0 i)) (zal s0 i ((h78 hb61) hb77) ((h79 hb61) hb77)) (g2 hb80 hb77 476822223 oN))))))))) [] [(13,vB true)] ?_;exact Sem.cast (by try rw [hb61];try rw [hb77];try rw [hb80];kernel_rfl) hk0
       ·refine sO kk (nd h59 (op (.y (byteAt s0 i)) (zal s0 i h59 h60) (g1 hb61 11113777 (nd (h75 hb61) (op (.y (byteAt s0 i)) (zal s0 i (h75 hb61) (h76 hb61)) (g1 hb77 77111 (nd ((h78 hb61) hb77) (op (.y (byteAt s0 i)) (zal s0 i ((h78 hb61) hb77) ((h79 hb61) hb77)) (g2 hb80 hb77 4768222 (nd (((h81 hb61) hb77) hb80) (op (.y (byteAt s0 i)) (zal s0 i (((h81 hb61) hb77) hb80) (((h82 hb61) hb77) hb80)) (g1 hb80 23 oN)))))))))))) [] [(13,vB ((↑(UInt8.toNat (byteAt s0 i)):Int) == (95:Int)))] ?_;exact Sem.cast (by try rw [hb61];try rw [hb77];try rw [hb80];kernel_rfl) hk0
      ·refine sO kk (nd h59 (op (.y (byteAt s0 i)) (zal s0 i h59 h60) (g1 hb61 11113777 (nd (h75 hb61) (op (.y (byteAt s0 i)) (zal s0 i (h75 hb61) (h76 hb61)) (g1 hb77 771111738777 (nd ((h83 hb61) hb77) (op (.y (byteAt s0 i)) (zal s0 i ((h83 hb61) hb77) ((h84 hb61) hb77)) (g0 78 oN))))))))) [] [(13,vB ((↑(UInt8.toNat (byteAt s0 i)):Int) == (95:Int)))] ?_;exact Sem.cast (by try rw [hb61];try rw [hb77];kernel_rfl) hk0
   ·refine xD (i:=0) ?_;show Sem _ _ _ _ _;refine wkD [1,10,46] ?_;refine sO kk oN [] [(7,vB true)] ?_;refine tD ?_;subst h;exact (endQ []).1
 ·rcases eft (ByteArray.toList s0 == ByteArray.toList { data:=#[] }) with hb0 | hb0
  ·refine sO kk (g1 hb0 2223 oN) [] [(34,vB true)] ?_;exact Sem.cast (by try rw [hb0];kernel_rfl) hk0
  ·refine sO kk (g1 hb0 2223 oN) [] [(34,vB (decide ((↑(ByteArray.size s0):Int) > (12:Int))))] ?_;exact Sem.cast (by try rw [hb0];kernel_rfl) hk0
theorem zfn (x:zb) (res:Bool)
 (h:(res=(zb.Kind x == 0 && (zc.e0 (zb.Set x) == 0 && (zc.e1 (zb.Set x) == 0 && (zc.e2 (zb.Set x) == 0 && (zc.e3 (zb.Set x) == 0 && true))) && (zb.Lo x == 0 && (zb.Hi x == 0 && (↑(List.length (zb.Kids x)):Int) == 0)))))):zaU x res:=by
 unfold zaU;have kk:=cfOk [] 28;refine fD (x:=bodyOf Tryz.f118) kk Tryz.func118 ?_;refine wkS [1] [(1,zA x)] (by kernel_rfl) ?_;refine sO kk oN [1] [(4,.ptr 8 0),(8,zA x)] ?_;refine sM [4,8] [(7,vB (zb.Kind x == 0 && (zc.e0 (zb.Set x) == 0 && (zc.e1 (zb.Set x) == 0 && (zc.e2 (zb.Set x) == 0 && (zc.e3 (zb.Set x) == 0 && true))) && (zb.Lo x == 0 && (zb.Hi x == 0 && (↑(List.length (zb.Kids x)):Int) == 0)))))] ?_ (fun hk0=>?_)
 ·refine tD ?_;subst h;exact (endQ []).1
 ·rcases eft (zb.Kind x == 0) with hb0 | hb0
  ·rcases eft (zc.e0 (zb.Set x) == 0 && (zc.e1 (zb.Set x) == 0 && (zc.e2 (zb.Set x) == 0 && (zc.e3 (zb.Set x) == 0 && true)))) with hb1 | hb1
   ·rcases eft (zb.Lo x == 0) with hb2 | hb2
    ·rcases eft (zb.Hi x == 0) with hb3 | hb3
     ·refine sOE kk (g2 hb1 hb0 444461113 (g2 hb3 hb2 444611113 oN)) [4,8] [(7,vB ((↑(List.length (List.map zn (zb.Kids x))):Int) == 0))] [(7,vB ((↑(List.length (zb.Kids x)):Int) == 0))] ?_;exact Sem.cast (by try rw [hb0];try rw [hb1];try rw [hb2];try rw [hb3];kernel_rfl) hk0
     ·refine sO kk (g2 hb1 hb0 444461113 (g2 hb3 hb2 444611113 oN)) [4,8] [(7,vB false)] ?_;exact Sem.cast (by try rw [hb0];try rw [hb1];try rw [hb2];try rw [hb3];kernel_rfl) hk0
    ·refine sO kk (g1 hb0 11113 (g2 hb2 hb1 4446111388888 oN)) [4,8] [(7,vB false)] ?_;exact Sem.cast (by try rw [hb0];try rw [hb1];try rw [hb2];kernel_rfl) hk0
   ·refine sO kk (g2 hb1 hb0 444461113888888888 oN) [4,8] [(7,vB false)] ?_;exact Sem.cast (by try rw [hb0];try rw [hb1];kernel_rfl) hk0
  ·refine sO kk (g1 hb0 111138888888888888 oN) [4,8] [(7,vB false)] ?_;exact Sem.cast (by try rw [hb0];kernel_rfl) hk0
end Go.Ev
namespace Go.Ev
open Go Go.Proofs
set_option maxRecDepth 8000
set_option maxHeartbeats 1000000
theorem zeJ (x:zb) (deep:Int) (res:Bool)
 (h:(((decide (deep < (1:Int)))=true→(res=false))∧((decide (deep < (1:Int)))=false→(((zb.Kind x == 1)=true→(res=(!!(zc.e0 (zb.Set x) == 0 && (zc.e1 (zb.Set x) == 0 && (zc.e2 (zb.Set x) == 0 && (zc.e3 (zb.Set x) == 0 && true)))) && (zb.Lo x == 0 && zb.Hi x == 0 && (↑(List.length (zb.Kids x)):Int) == 0))))∧((zb.Kind x == 1)=false→(((zb.Kind x == (2:Int))=true→(res=(!(zc.e0 (zb.Set x) == 0 && (zc.e1 (zb.Set x) == 0 && (zc.e2 (zb.Set x) == 0 && (zc.e3 (zb.Set x) == 0 && true)))) && (zb.Lo x == 0 && zb.Hi x == 0 && (↑(List.length (zb.Kids x)):Int) == 0))))∧((zb.Kind x == (2:Int))=false→(((zb.Kind x == (5:Int))=true→(((!!(zc.e0 (zb.Set x) == 0 && (zc.e1 (zb.Set x) == 0 && (zc.e2 (zb.Set x) == 0 && (zc.e3 (zb.Set x) == 0 && true)))))=true→(((decide (zb.Lo x≥(0:Int)))=true→(((decide (zb.Lo x≤(20:Int)))=true→(((zb.Hi x == (-1:Int) || decide (zb.Hi x≥if true=true then if zb.Lo x > (1:Int) then zb.Lo x else (1:Int) else if zb.Lo x < (1:Int) then zb.Lo x else (1:Int)) && decide (zb.Hi x≤(20:Int)))=true→((((↑(List.length (List.map zn (zb.Kids x))):Int) == 1)=true→((!!(zc.e0 (zb.Set x) == 0 && (zc.e1 (zb.Set x) == 0 && (zc.e2 (zb.Set x) == 0 && (zc.e3 (zb.Set x) == 0 && true)))))=true→((decide (zb.Lo x≥(0:Int)))=true→((decide (zb.Lo x≤(20:Int)))=true→((zb.Hi x == (-1:Int) || decide (zb.Hi x≥if true=true then if zb.Lo x > (1:Int) then zb.Lo x else (1:Int) else if zb.Lo x < (1:Int) then zb.Lo x else (1:Int)) && decide (zb.Hi x≤(20:Int)))=true→(((↑(List.length (List.map zn (zb.Kids x))):Int) == 1)=true→(0:Nat) < List.length (zb.Kids x))))))∧(∃ r0:Bool,zaN (List.getD (zb.Kids x) (0:Nat) default) (w64 (deep - 1)) r0∧(res=r0)))∧(((↑(List.length (List.map zn (zb.Kids x))):Int) == 1)=false→(res=false))))∧((zb.Hi x == (-1:Int) || decide (zb.Hi x≥if true=true then if zb.Lo x > (1:Int) then zb.Lo x else (1:Int) else if zb.Lo x < (1:Int) then zb.Lo x else (1:Int)) && decide (zb.Hi x≤(20:Int)))=false→(res=false))))∧((decide (zb.Lo x≤(20:Int)))=false→(res=false))))∧((decide (zb.Lo x≥(0:Int)))=false→(res=false))))∧((!!(zc.e0 (zb.Set x) == 0 && (zc.e1 (zb.Set x) == 0 && (zc.e2 (zb.Set x) == 0 && (zc.e3 (zb.Set x) == 0 && true)))))=false→(res=false))))∧((zb.Kind x == (5:Int))=false→(∃ J19:Bool→Prop,(∀ (t98:Bool),J19 t98→(((t98)=true→(((!(zc.e0 (zb.Set x) == 0 && (zc.e1 (zb.Set x) == 0 && (zc.e2 (zb.Set x) == 0 && (zc.e3 (zb.Set x) == 0 && true)))) || (!(zb.Lo x == 0 && zb.Hi x == 0) || decide ((↑(List.length (zb.Kids x)):Int) < (2:Int))))=true→(res=false))∧((!(zc.e0 (zb.Set x) == 0 && (zc.e1 (zb.Set x) == 0 && (zc.e2 (zb.Set x) == 0 && (zc.e3 (zb.Set x) == 0 && true)))) || (!(zb.Lo x == 0 && zb.Hi x == 0) || decide ((↑(List.length (zb.Kids x)):Int) < (2:Int))))=false→(∃ (Inv40:Int→Prop) (mu41:Int→Nat),Inv40 0∧(∀ (i:Int),Inv40 i→(((decide (i < (↑(List.length (zb.Kids x)):Int)))=true→((0:Int)≤i)∧i < ↑(List.length (zb.Kids x))∧(((zb.Kind (gd (zb.Kids x) i) == zb.Kind x)=true→(res=false))∧((zb.Kind (gd (zb.Kids x) i) == zb.Kind x)=false→((zb.Kind (gd (zb.Kids x) i) == zb.Kind x)=false→((0:Int)≤i))∧((zb.Kind (gd (zb.Kids x) i) == zb.Kind x)=false→i < ↑(List.length (zb.Kids x)))∧(∃ r0_3:Bool,zaN (gd (zb.Kids x) i) (w64 (deep - 1)) r0_3∧(((!r0_3)=true→(res=false))∧((!r0_3)=false→(Inv40 (w64 (i+1))∧mu41 (w64 (i+1)) < mu41 i)))))))∧((decide (i < (↑(List.length (zb.Kids x)):Int)))=false→(res=true))))))))∧((t98)=false→(res=false))))∧(((zb.Kind x == (3:Int))=true→J19 (zb.Kind x == (3:Int)))∧((zb.Kind x == (3:Int))=false→J19 (zb.Kind x == (4:Int)))))))))))))):zaN x deep res:=by
 unfold zaN;have kk:=cfOk [] 139;refine fD (x:=bodyOf Tryz.f108) kk Tryz.func108 ?_;refine wkS [1,4] [(1,zA x),(4,vi deep)] (by kernel_rfl) ?_;refine sO kk oN [1] [(7,.ptr 14 0),(14,zA x)] ?_;refine qD ?_;refine sO kk oN [] [(31,vB (decide (deep < (1:Int))))] ?_;refine cH 10 h (fun hb0 h=>?_) (fun hb0 h=>?_)
 ·refine sO kk oN [4,7,14,31] [(13,vB false)] ?_;refine tD ?_;subst h;exact (endQ []).1
 ·refine kD ?_;show Sem _ _ _ _ _;refine wkD [31] ?_;refine sO kk oN [] [(16,vB (!(zc.e0 (zb.Set x) == 0 && (zc.e1 (zb.Set x) == 0 && (zc.e2 (zb.Set x) == 0 && (zc.e3 (zb.Set x) == 0 && true))))))] ?_;refine sM [] [(19,vB (zb.Lo x == 0 && zb.Hi x == 0))] ?_ (fun hk0=>?_)
  ·refine qD ?_;refine sO kk oN [] [(73,vi (zb.Kind x))] ?_;refine bD (id:=0) ?_;refine sO kk oN [] [(76,vB (zb.Kind x == 1))] ?_;refine cH 25 h (fun hb2 h=>?_) (fun hb2 h=>?_)
   ·refine sM [4,7,14,16,19,73,76] [(13,vB (!!(zc.e0 (zb.Set x) == 0 && (zc.e1 (zb.Set x) == 0 && (zc.e2 (zb.Set x) == 0 && (zc.e3 (zb.Set x) == 0 && true)))) && (zb.Lo x == 0 && zb.Hi x == 0 && (↑(List.length (zb.Kids x)):Int) == 0)))] ?_ (fun hk0=>?_)
    ·refine tD ?_;subst h;exact (endQ []).1
    ·rcases eft (!!(zc.e0 (zb.Set x) == 0 && (zc.e1 (zb.Set x) == 0 && (zc.e2 (zb.Set x) == 0 && (zc.e3 (zb.Set x) == 0 && true))))) with hb3 | hb3
     ·rcases eft (zb.Lo x == 0 && zb.Hi x == 0) with hb4 | hb4
      ·refine sOE kk (g2 hb4 hb3 4611113 oN) [4,7,14,16,19,73,76] [(13,vB ((↑(List.length (List.map zn (zb.Kids x))):Int) == 0))] [(13,vB ((↑(List.length (zb.Kids x)):Int) == 0))] ?_;exact Sem.cast (by try rw [hb3];try rw [hb4];kernel_rfl) hk0
      ·refine sO kk (g2 hb4 hb3 4611113 oN) [4,7,14,16,19,73,76] [(13,vB false)] ?_;exact Sem.cast (by try rw [hb3];try rw [hb4];kernel_rfl) hk0
     ·refine sO kk (g1 hb3 1388888 oN) [4,7,14,16,19,73,76] [(13,vB false)] ?_;exact Sem.cast (by try rw [hb3];kernel_rfl) hk0
   ·refine sO kk oN [76] [(115,vB (zb.Kind x == (2:Int)))] ?_;refine cH 38 h (fun hb5 h=>?_) (fun hb5 h=>?_)
    ·refine sM [4,7,14,16,19,73,115] [(13,vB (!(zc.e0 (zb.Set x) == 0 && (zc.e1 (zb.Set x) == 0 && (zc.e2 (zb.Set x) == 0 && (zc.e3 (zb.Set x) == 0 && true)))) && (zb.Lo x == 0 && zb.Hi x == 0 && (↑(List.length (zb.Kids x)):Int) == 0)))] ?_ (fun hk0=>?_)
     ·refine tD ?_;subst h;exact (endQ []).1
     ·rcases eft (!(zc.e0 (zb.Set x) == 0 && (zc.e1 (zb.Set x) == 0 && (zc.e2 (zb.Set x) == 0 && (zc.e3 (zb.Set x) == 0 && true))))) with hb6 | hb6
      ·rcases eft (zb.Lo x == 0 && zb.Hi x == 0) with hb7 | hb7
       ·refine sOE kk (g2 hb7 hb6 4611113 oN) [4,7,14,16,19,73,115] [(13,vB ((↑(List.length (List.map zn (zb.Kids x))):Int) == 0))] [(13,vB ((↑(List.length (zb.Kids x)):Int) == 0))] ?_;exact Sem.cast (by try rw [hb6];try rw [hb7];kernel_rfl) hk0
       ·refine sO kk (g2 hb7 hb6 4611113 oN) [4,7,14,16,19,73,115] [(13,vB false)] ?_;exact Sem.cast (by try rw [hb6];try rw [hb7];kernel_rfl) hk0
      ·refine sO kk (g1 hb6 1388888 oN) [4,7,14,16,19,73,115] [(13,vB false)] ?_;exact Sem.cast (by try rw [hb6];kernel_rfl) hk0
    ·refine sO kk oN [115] [(151,vB (zb.Kind x == (5:Int)))] ?_;refine cH 50 h (fun hb8 h=>?_) (fun hb8 h=>?_)
     ·refine sM [19,73,151] [(22,vB (zb.Hi x == (-1:Int) || decide (zb.Hi x≥if true=true then if zb.Lo x > (1:Int) then zb.Lo x else (1:Int) else if zb.Lo x < (1:Int) then zb.Lo x else (1:Int)) && decide (zb.Hi x≤(20:Int))))] ?_ (fun hk0=>?_)
      ·rcases eft (!!(zc.e0 (zb.Set x) == 0 && (zc.e1 (zb.Set x) == 0 && (zc.e2 (zb.Set x) == 0 && (zc.e3 (zb.Set x) == 0 && true))))) with hb11 | hb11
       ·have h:=h.1 hb11;rcases eft (decide (zb.Lo x≥(0:Int))) with hb12 | hb12
        ·have h:=h.1 hb12;rcases eft (decide (zb.Lo x≤(20:Int))) with hb13 | hb13
         ·have h:=h.1 hb13;rcases eft (zb.Hi x == (-1:Int) || decide (zb.Hi x≥if true=true then if zb.Lo x > (1:Int) then zb.Lo x else (1:Int) else if zb.Lo x < (1:Int) then zb.Lo x else (1:Int)) && decide (zb.Hi x≤(20:Int))) with hb14 | hb14
          ·have h:=h.1 hb14;rcases eft ((↑(List.length (List.map zn (zb.Kids x))):Int) == 1) with hb15 | hb15
           ·have h:=h.1 hb15;obtain ⟨h16,h⟩:=h;obtain ⟨r0,hc17,h⟩:=h;refine sO kk (g1 hb11 1113 (g2 hb13 hb12 444613 (g2 hb15 hb14 44446111 (nd (show (0:Int)≤(0:Int) from by first | decide | rfl | trivial) (el (show (List.map zn (zb.Kids x))[(Int.toNat (0:Int):Nat)]?=some (zdJ (List.getD (zb.Kids x) (0:Nat) default)) from by have:=zb8 zn (zb.Kids x) ((0:Nat)) _ (zL _) (((((h16 hb11) hb12) hb13) hb14) hb15);simpa only [nm,enq,zL] using this) (g1 hb15 1111 (ca hc17 (g1 hb15 3 oN)))))))) [4,7,14,16,22] [(13,vB r0)] ?_;refine tD ?_;subst h;exact (endQ []).1
           ·have h:=h.2 hb15;refine sO kk (g1 hb11 1113 (g2 hb13 hb12 444613 (g2 hb15 hb14 4444611111113 oN))) [4,7,14,16,22] [(13,vB false)] ?_;refine tD ?_;subst h;exact (endQ []).1
          ·have h:=h.2 hb14;refine sO kk (g2 hb12 hb11 44461113 (g2 hb14 hb13 461111388888888 oN)) [4,7,14,16,22] [(13,vB false)] ?_;refine tD ?_;subst h;exact (endQ []).1
         ·have h:=h.2 hb13;refine sO kk (g1 hb11 1113 (g2 hb13 hb12 4446138888888888888 oN)) [4,7,14,16,22] [(13,vB false)] ?_;refine tD ?_;subst h;exact (endQ []).1
        ·have h:=h.2 hb12;refine sO kk (g2 hb12 hb11 44461113888888888888888 oN) [4,7,14,16,22] [(13,vB false)] ?_;refine tD ?_;subst h;exact (endQ []).1
       ·have h:=h.2 hb11;refine sO kk (g1 hb11 11138888888888888888888 oN) [4,7,14,16,22] [(13,vB false)] ?_;refine tD ?_;subst h;exact (endQ []).1
      ·rcases eft (zb.Hi x == (-1:Int)) with hb9 | hb9
       ·refine sO kk (g1 hb9 222222223 oN) [19,73,151] [(22,vB true)] ?_;exact Sem.cast (by try rw [hb9];kernel_rfl) hk0
       ·rcases eft (decide (zb.Hi x≥if true=true then if zb.Lo x > (1:Int) then zb.Lo x else (1:Int) else if zb.Lo x < (1:Int) then zb.Lo x else (1:Int))) with hb10 | hb10
        ·refine sO kk (g2 hb9 hb10 2222222444263 oN) [19,73,151] [(22,vB (decide (zb.Hi x≤(20:Int))))] ?_;exact Sem.cast (by try rw [hb9];try rw [hb10];kernel_rfl) hk0
        ·refine sO kk (g2 hb9 hb10 2222222444263 oN) [19,73,151] [(22,vB false)] ?_;exact Sem.cast (by try rw [hb9];try rw [hb10];kernel_rfl) hk0
     ·obtain ⟨J19,hJ19,h⟩:=h;refine sjE (fun (q:Bool)=>J19 q) [73,151] (fun (q:Bool)=>(fun (t98:Bool)=>([(295,vB t98)]:Sta)) q) ?_ ?_
      ·rintro t98 hj;have h:=hJ19 t98 hj;refine cH 98 h (fun hb20 h=>?_) (fun hb20 h=>?_)
       ·refine qD ?_;refine sM [16,19,295] [(334,vB (!(zc.e0 (zb.Set x) == 0 && (zc.e1 (zb.Set x) == 0 && (zc.e2 (zb.Set x) == 0 && (zc.e3 (zb.Set x) == 0 && true)))) || (!(zb.Lo x == 0 && zb.Hi x == 0) || decide ((↑(List.length (zb.Kids x)):Int) < (2:Int)))))] ?_ (fun hk0=>?_)
        ·refine cH 111 h (fun hb23 h=>?_) (fun hb23 h=>?_)
         ·refine sO kk oN [4,7,14,334] [(13,vB false)] ?_;refine tD ?_;subst h;exact (endQ []).1
         ·refine kD ?_;show Sem _ _ _ _ _;refine wkD [334] ?_;refine qD ?_;refine sO kk oN [] [(25,vi 0)] ?_;refine bD (id:=1) ?_;obtain ⟨Inv40,mu41,h0Inv40,hInv40⟩:=h;refine loE [] (fun (q:Int)=>(fun (i:Int)=>([(25,vi i)]:Sta)) q) (fun (q:Int)=>Inv40 q) (fun (q:Int)=>mu41 q) 0 [] h0Inv40 ?_;rintro i hi;have h:=hInv40 i hi;refine qD ?_;refine sOE kk oN [] [(349,vB (decide (i < (↑(List.length (List.map zn (zb.Kids x))):Int))))] [(349,vB (decide (i < (↑(List.length (zb.Kids x)):Int))))] ?_;refine cH 116 h (fun hb42 h=>?_) (fun hb42 h=>?_)
          ·refine kD ?_;show Sem _ _ _ _ _;refine wkD [349] ?_;refine qD ?_;refine bD (id:=2) ?_;obtain ⟨h43,h⟩:=h;obtain ⟨h44,h⟩:=h;rcases eft (zb.Kind (gd (zb.Kids x) i) == zb.Kind x) with hb45 | hb45
           ·have h:=h.1 hb45;refine sO kk (nd h43 (el (zF zn (zb.Kids x) i _ (zL _) h43 h44) (g1 hb45 2222222223 oN))) [] [(415,vB true)] ?_;refine cD (t:=138) (b:=true) (fun hb50=>?_) (fun hb50=>?_)
            ·refine sO kk oN [4,7,14,25,415] [(13,vB false)] ?_;refine tD ?_;subst h;exact (endQ []).1
            ·cases hb50
           ·have h:=h.2 hb45;obtain ⟨h46,h⟩:=h;obtain ⟨h47,h⟩:=h;obtain ⟨r0_3,hc48,h⟩:=h;refine sO kk (nd h43 (el (zF zn (zb.Kids x) i _ (zL _) h43 h44) (g1 hb45 2222 (nd (h46 hb45) (el (zF zn (zb.Kids x) i _ (zL _) (h46 hb45) (h47 hb45)) (g1 hb45 2222 (ca hc48 (g1 hb45 23 oN)))))))) [] [(415,vB (!r0_3))] ?_;refine cH 138 h (fun hb49 h=>?_) (fun hb49 h=>?_)
            ·refine sO kk oN [4,7,14,25,415] [(13,vB false)] ?_;refine tD ?_;subst h;exact (endQ []).1
            ·refine kD ?_;show Sem _ _ _ _ _;refine wkD [415] ?_;refine rO kk oN [] [(25,vi (w64 (i+1)))] ?_;exact lD (w64 (i+1)) [] h
          ·refine xD (i:=1) ?_;show Sem _ _ _ _ _;refine wkD [4,7,14,25,349] ?_;refine sO kk oN [] [(13,vB true)] ?_;refine tD ?_;subst h;exact (endQ []).1
        ·rcases eft (!(zc.e0 (zb.Set x) == 0 && (zc.e1 (zb.Set x) == 0 && (zc.e2 (zb.Set x) == 0 && (zc.e3 (zb.Set x) == 0 && true))))) with hb21 | hb21
         ·refine sO kk (g1 hb21 22388887 oN) [16,19,295] [(334,vB true)] ?_;exact Sem.cast (by try rw [hb21];kernel_rfl) hk0
         ·rcases eft (!(zb.Lo x == 0 && zb.Hi x == 0)) with hb22 | hb22
          ·refine sO kk (g2 hb22 hb21 55622223 oN) [16,19,295] [(334,vB true)] ?_;exact Sem.cast (by try rw [hb21];try rw [hb22];kernel_rfl) hk0
          ·refine sOE kk (g2 hb22 hb21 55622223 oN) [16,19,295] [(334,vB (decide ((↑(List.length (List.map zn (zb.Kids x))):Int) < (2:Int))))] [(334,vB (decide ((↑(List.length (zb.Kids x)):Int) < (2:Int))))] ?_;exact Sem.cast (by try rw [hb21];try rw [hb22];kernel_rfl) hk0
       ·refine kD ?_;show Sem _ _ _ _ _;refine wkD [4,7,14,16,19,295] ?_;refine sO kk oN [] [(13,vB false)] ?_;refine tD ?_;subst h;exact (endQ []).1
      ·refine sO kk oN [151] [(295,vB (zb.Kind x == (3:Int)))] ?_;refine cH 98 h (fun hb51 h=>?_) (fun hb51 h=>?_)
       ·refine kD ?_;exact jD (zb.Kind x == (3:Int)) [] h
       ·refine rO kk oN [73] [(295,vB (zb.Kind x == (4:Int)))] ?_;exact jD (zb.Kind x == (4:Int)) [] h
  ·rcases eft (zb.Lo x == 0) with hb1 | hb1
   ·refine sO kk (g1 hb1 1113 oN) [] [(19,vB (zb.Hi x == 0))] ?_;exact Sem.cast (by try rw [hb1];kernel_rfl) hk0
   ·refine sO kk (g1 hb1 1113 oN) [] [(19,vB false)] ?_;exact Sem.cast (by try rw [hb1];kernel_rfl) hk0
theorem zfp (x:zb) (res:Int)
 (h:(((zb.Kind x == (2:Int))=true→(res=1))∧((zb.Kind x == (2:Int))=false→(∃ J3:Bool→Prop,(∀ (t9:Bool),J3 t9→(((t9)=true→(∃ (Inv14:Int→Int→Prop) (mu15:Int→Int→Nat),Inv14 0 0∧(∀ (n:Int) (i:Int),Inv14 n i→(((decide (i < (↑(List.length (zb.Kids x)):Int)))=true→((0:Int)≤i)∧i < ↑(List.length (zb.Kids x))∧(∃ r0_2:Int,zba (gd (zb.Kids x) i) r0_2∧(((decide (w64 (n+r0_2) > (1000000:Int)))=true→(res=((1000000:Int))))∧((decide (w64 (n+r0_2) > (1000000:Int)))=false→(Inv14 (w64 (n+r0_2)) (w64 (i+1))∧mu15 (w64 (n+r0_2)) (w64 (i+1)) < mu15 n i)))))∧((decide (i < (↑(List.length (zb.Kids x)):Int)))=false→(∃ J22:Int→Prop,(∀ (n_1:Int),J22 n_1→(res=(if false=true then if (1000000:Int) > n_1 then (1000000:Int) else n_1 else if (1000000:Int) < n_1 then (1000000:Int) else n_1)))∧(((zb.Kind x == (5:Int))=true→J22 (w64 (n * if (if false=true then if (if zb.Hi x > zb.Lo x then zb.Hi x else zb.Lo x) > (1000:Int) then if zb.Hi x > zb.Lo x then zb.Hi x else zb.Lo x else (1000:Int) else if (if zb.Hi x > zb.Lo x then zb.Hi x else zb.Lo x) < (1000:Int) then if zb.Hi x > zb.Lo x then zb.Hi x else zb.Lo x else (1000:Int)) > (1:Int) then if false=true then if (if zb.Hi x > zb.Lo x then zb.Hi x else zb.Lo x) > (1000:Int) then if zb.Hi x > zb.Lo x then zb.Hi x else zb.Lo x else (1000:Int) else if (if zb.Hi x > zb.Lo x then zb.Hi x else zb.Lo x) < (1000:Int) then if zb.Hi x > zb.Lo x then zb.Hi x else zb.Lo x else (1000:Int) else (1:Int))))∧((zb.Kind x == (5:Int))=false→J22 n))))))))∧((t9)=false→(res=0))))∧(((zb.Kind x == (3:Int))=true→J3 (zb.Kind x == (3:Int)))∧((zb.Kind x == (3:Int))=false→(((zb.Kind x == (4:Int))=true→J3 (zb.Kind x == (4:Int)))∧((zb.Kind x == (4:Int))=false→J3 (zb.Kind x == (5:Int)))))))))):zba x res:=by
 unfold zba;have kk:=cfOk [] 44;refine fD (x:=bodyOf Tryz.f26) kk Tryz.func26 ?_;refine wkS [1] [(1,zA x)] (by kernel_rfl) ?_;refine sO kk oN [1] [(4,.ptr 8 0),(8,zA x)] ?_;refine qD ?_;refine sO kk oN [] [(19,vi (zb.Kind x))] ?_;refine bD (id:=0) ?_;refine sO kk oN [] [(22,vB (zb.Kind x == (2:Int)))] ?_;refine cH 7 h (fun hb0 h=>?_) (fun hb0 h=>?_)
 ·refine sO kk oN [4,8,19,22] [(7,vi 1)] ?_;refine tD ?_;subst h;exact (endQ []).1
 ·obtain ⟨J3,hJ3,h⟩:=h;refine sjE (fun (q:Bool)=>J3 q) [19,22] (fun (q:Bool)=>(fun (t9:Bool)=>([(28,vB t9)]:Sta)) q) ?_ ?_
  ·rintro t9 hj;have h:=hJ3 t9 hj;refine cH 9 h (fun hb4 h=>?_) (fun hb4 h=>?_)
   ·refine sO kk oN [28] [(10,vi 0)] ?_;refine qD ?_;refine sO kk oN [] [(13,vi 0)] ?_;refine bD (id:=1) ?_;obtain ⟨Inv14,mu15,h0Inv14,hInv14⟩:=h;refine loE [] (fun (q:Int×Int)=>(fun (n:Int) (i:Int)=>([(10,vi n),(13,vi i)]:Sta)) q.1 q.2) (fun (q:Int×Int)=>Inv14 q.1 q.2) (fun (q:Int×Int)=>mu15 q.1 q.2) (0,0) [] h0Inv14 ?_;rintro ⟨n,i⟩ hi;have h:=hInv14 n i hi;refine qD ?_;refine sOE kk oN [] [(52,vB (decide (i < (↑(List.length (List.map zn (zb.Kids x))):Int))))] [(52,vB (decide (i < (↑(List.length (zb.Kids x)):Int))))] ?_;refine cH 17 h (fun hb16 h=>?_) (fun hb16 h=>?_)
    ·refine kD ?_;show Sem _ _ _ _ _;refine wkD [52] ?_;refine qD ?_;refine bD (id:=2) ?_;obtain ⟨h17,h⟩:=h;obtain ⟨h18,h⟩:=h;obtain ⟨r0_2,hc19,h⟩:=h;refine sO kk (nd h17 (el (zF zn (zb.Kids x) i _ (zL _) h17 h18) (ca hc19 oN))) [] [(10,vi (w64 (n+r0_2)))] ?_;refine sO kk oN [] [(88,vB (decide (w64 (n+r0_2) > (1000000:Int))))] ?_;refine cH 29 h (fun hb20 h=>?_) (fun hb20 h=>?_)
     ·refine sO kk oN [4,8,10,13,88] [(7,vi ((1000000:Int)))] ?_;refine tD ?_;subst h;exact (endQ []).1
     ·refine kD ?_;show Sem _ _ _ _ _;refine wkD [88] ?_;refine rO kk oN [] [(13,vi (w64 (i+1)))] ?_;exact lD ((w64 (n+r0_2)),(w64 (i+1))) [] h
    ·refine xD (i:=1) ?_;show Sem _ _ _ _ _;refine wkD [13,52] ?_;obtain ⟨J22,hJ22,h⟩:=h;refine sjD (fun (q:Int)=>J22 q) (fun (q:Int)=>(fun (n_1:Int)=>([(10,vi n_1)]:Sta)) q) ?_ ?_
     ·rintro n_1 hj;have h:=hJ22 n_1 hj;refine sO kk oN [10] [(7,vi (if false=true then if (1000000:Int) > n_1 then (1000000:Int) else n_1 else if (1000000:Int) < n_1 then (1000000:Int) else n_1))] ?_;refine tD ?_;subst h;exact (endQ []).1
     ·refine sO kk oN [] [(97,vB (zb.Kind x == (5:Int)))] ?_;refine cH 32 h (fun hb23 h=>?_) (fun hb23 h=>?_)
      ·refine rOE kk oN [4,8,97] [(10,vi (w64 (n * if true=true then if (if false=true then if (if true=true then if zb.Hi x > zb.Lo x then zb.Hi x else zb.Lo x else if zb.Hi x < zb.Lo x then zb.Hi x else zb.Lo x) > (1000:Int) then if true=true then if zb.Hi x > zb.Lo x then zb.Hi x else zb.Lo x else if zb.Hi x < zb.Lo x then zb.Hi x else zb.Lo x else (1000:Int) else if (if true=true then if zb.Hi x > zb.Lo x then zb.Hi x else zb.Lo x else if zb.Hi x < zb.Lo x then zb.Hi x else zb.Lo x) < (1000:Int) then if true=true then if zb.Hi x > zb.Lo x then zb.Hi x else zb.Lo x else if zb.Hi x < zb.Lo x then zb.Hi x else zb.Lo x else (1000:Int)) > (1:Int) then if false=true then if (if true=true then if zb.Hi x > zb.Lo x then zb.Hi x else zb.Lo x else if zb.Hi x < zb.Lo x then zb.Hi x else zb.Lo x) > (1000:Int) then if true=true then if zb.Hi x > zb.Lo x then zb.Hi x else zb.Lo x else if zb.Hi x < zb.Lo x then zb.Hi x else zb.Lo x else (1000:Int) else if (if true=true then if zb.Hi x > zb.Lo x then zb.Hi x else zb.Lo x else if zb.Hi x < zb.Lo x then zb.Hi x else zb.Lo x) < (1000:Int) then if true=true then if zb.Hi x > zb.Lo x then zb.Hi x else zb.Lo x else if zb.Hi x < zb.Lo x then zb.Hi x else zb.Lo x else (1000:Int) else (1:Int) else if (if false=true then if (if true=true then if zb.Hi x > zb.Lo x then zb.Hi x else zb.Lo x else if zb.Hi x < zb.Lo x then zb.Hi x else zb.Lo x) > (1000:Int) then if true=true then if zb.Hi x > zb.Lo x then zb.Hi x else zb.Lo x else if zb.Hi x < zb.Lo x then zb.Hi x else zb.Lo x else (1000:Int) else if (if true=true then if zb.Hi x > zb.Lo x then zb.Hi x else zb.Lo x else if zb.Hi x < zb.Lo x then zb.Hi x else zb.Lo x) < (1000:Int) then if true=true then if zb.Hi x > zb.Lo x then zb.Hi x else zb.Lo x else if zb.Hi x < zb.Lo x then zb.Hi x else zb.Lo x else (1000:Int)) < (1:Int) then if false=true then if (if true=true then if zb.Hi x > zb.Lo x then zb.Hi x else zb.Lo x else if zb.Hi x < zb.Lo x then zb.Hi x else zb.Lo x) > (1000:Int) then if true=true then if zb.Hi x > zb.Lo x then zb.Hi x else zb.Lo x else if zb.Hi x < zb.Lo x then zb.Hi x else zb.Lo x else (1000:Int) else if (if true=true then if zb.Hi x > zb.Lo x then zb.Hi x else zb.Lo x else if zb.Hi x < zb.Lo x then zb.Hi x else zb.Lo x) < (1000:Int) then if true=true then if zb.Hi x > zb.Lo x then zb.Hi x else zb.Lo x else if zb.Hi x < zb.Lo x then zb.Hi x else zb.Lo x else (1000:Int) else (1:Int))))] [(10,vi (w64 (n * if (if false=true then if (if zb.Hi x > zb.Lo x then zb.Hi x else zb.Lo x) > (1000:Int) then if zb.Hi x > zb.Lo x then zb.Hi x else zb.Lo x else (1000:Int) else if (if zb.Hi x > zb.Lo x then zb.Hi x else zb.Lo x) < (1000:Int) then if zb.Hi x > zb.Lo x then zb.Hi x else zb.Lo x else (1000:Int)) > (1:Int) then if false=true then if (if zb.Hi x > zb.Lo x then zb.Hi x else zb.Lo x) > (1000:Int) then if zb.Hi x > zb.Lo x then zb.Hi x else zb.Lo x else (1000:Int) else if (if zb.Hi x > zb.Lo x then zb.Hi x else zb.Lo x) < (1000:Int) then if zb.Hi x > zb.Lo x then zb.Hi x else zb.Lo x else (1000:Int) else (1:Int))))] ?_;exact jD (w64 (n * if (if false=true then if (if zb.Hi x > zb.Lo x then zb.Hi x else zb.Lo x) > (1000:Int) then if zb.Hi x > zb.Lo x then zb.Hi x else zb.Lo x else (1000:Int) else if (if zb.Hi x > zb.Lo x then zb.Hi x else zb.Lo x) < (1000:Int) then if zb.Hi x > zb.Lo x then zb.Hi x else zb.Lo x else (1000:Int)) > (1:Int) then if false=true then if (if zb.Hi x > zb.Lo x then zb.Hi x else zb.Lo x) > (1000:Int) then if zb.Hi x > zb.Lo x then zb.Hi x else zb.Lo x else (1000:Int) else if (if zb.Hi x > zb.Lo x then zb.Hi x else zb.Lo x) < (1000:Int) then if zb.Hi x > zb.Lo x then zb.Hi x else zb.Lo x else (1000:Int) else (1:Int))) [] h
      ·refine kD ?_;exact jD n [] h
   ·refine kD ?_;show Sem _ _ _ _ _;refine wkD [4,8,28] ?_;refine sO kk oN [] [(7,vi 0)] ?_;refine tD ?_;subst h;exact (endQ []).1
  ·refine sO kk oN [22] [(28,vB (zb.Kind x == (3:Int)))] ?_;refine cH 9 h (fun hb24 h=>?_) (fun hb24 h=>?_)
   ·refine kD ?_;exact jD (zb.Kind x == (3:Int)) [] h
   ·refine sO kk oN [] [(28,vB (zb.Kind x == (4:Int)))] ?_;refine cH 9 h (fun hb25 h=>?_) (fun hb25 h=>?_)
    ·refine kD ?_;exact jD (zb.Kind x == (4:Int)) [] h
    ·refine rO kk oN [19] [(28,vB (zb.Kind x == (5:Int)))] ?_;exact jD (zb.Kind x == (5:Int)) [] h
theorem zeK (x:zb) (res:Bool)
 (h:(∃ r0:Bool,zaN x 20 r0∧(((r0)=true→(∃ r0_1:Int,zba x r0_1∧(((decide (r0_1≤(200:Int)))=true→(∃ r0_2:Int,zaq x ((1000:Int)) r0_2∧(res=(decide (r0_2≥(0:Int))))))∧((decide (r0_1≤(200:Int)))=false→(res=false)))))∧((r0)=false→(res=false))))):zaO x res:=by
 unfold zaO;have kk:=cfOk [] 15;refine fD (x:=bodyOf Tryz.f71) kk Tryz.func71 ?_;refine wkS [1] [(1,zA x)] (by kernel_rfl) ?_;refine sO kk oN [1] [(4,.ptr 8 0),(8,zA x)] ?_;obtain ⟨r0,hc0,h⟩:=h;rcases eft (r0) with hb1 | hb1
 ·have h:=h.1 hb1;obtain ⟨r0_1,hc2,h⟩:=h;rcases eft (decide (r0_1≤(200:Int))) with hb3 | hb3
  ·have h:=h.1 hb3;obtain ⟨r0_2,hc4,h⟩:=h;refine sO kk (ca hc0 (g1 hb1 11 (ca hc2 (g2 hb3 hb1 4611 (ca hc4 (g1 hb3 13 oN)))))) [4,8] [(7,vB (decide (r0_2≥(0:Int))))] ?_;refine tD ?_;subst h;exact (endQ []).1
  ·have h:=h.2 hb3;refine sO kk (ca hc0 (g1 hb1 11 (ca hc2 (g2 hb3 hb1 461113 oN)))) [4,8] [(7,vB false)] ?_;refine tD ?_;subst h;exact (endQ []).1
 ·have h:=h.2 hb1;refine sO kk (ca hc0 (g1 hb1 11138888 oN)) [4,8] [(7,vB false)] ?_;refine tD ?_;subst h;exact (endQ []).1
theorem zfm (r0:zj) (conds:Int) (res:Bool)
 (h:(∃ (Inv19:Int→Prop) (mu20:Int→Nat),Inv19 0∧(∀ (i:Int),Inv19 i→(((decide (i < (↑(List.length (zj.Conds r0)):Int)))=true→((0:Int)≤i)∧i < ↑(List.length (zj.Conds r0))∧((decide (gd (zj.Conds r0) i < (0:Int)))=false→((0:Int)≤i))∧((decide (gd (zj.Conds r0) i < (0:Int)))=false→i < ↑(List.length (zj.Conds r0)))∧((decide (gd (zj.Conds r0) i < (0:Int)))=false→((decide (gd (zj.Conds r0) i≥conds))=false→((decide (i > (0:Int)))=true→((0:Int)≤i))))∧((decide (gd (zj.Conds r0) i < (0:Int)))=false→((decide (gd (zj.Conds r0) i≥conds))=false→((decide (i > (0:Int)))=true→i < ↑(List.length (zj.Conds r0)))))∧((decide (gd (zj.Conds r0) i < (0:Int)))=false→((decide (gd (zj.Conds r0) i≥conds))=false→((decide (i > (0:Int)))=true→((0:Int)≤w64 (i - 1)))))∧((decide (gd (zj.Conds r0) i < (0:Int)))=false→((decide (gd (zj.Conds r0) i≥conds))=false→((decide (i > (0:Int)))=true→w64 (i - 1) < ↑(List.length (zj.Conds r0)))))∧(((decide (gd (zj.Conds r0) i < (0:Int)) || (decide (gd (zj.Conds r0) i≥conds) || decide (i > (0:Int)) && decide (gd (zj.Conds r0) i≤gd (zj.Conds r0) (w64 (i - 1)))))=true→(res=false))∧((decide (gd (zj.Conds r0) i < (0:Int)) || (decide (gd (zj.Conds r0) i≥conds) || decide (i > (0:Int)) && decide (gd (zj.Conds r0) i≤gd (zj.Conds r0) (w64 (i - 1)))))=false→(Inv19 (w64 (i+1))∧mu20 (w64 (i+1)) < mu20 i))))∧((decide (i < (↑(List.length (zj.Conds r0)):Int)))=false→(((bif zj.All r0 then decide ((↑(List.length (List.map zf (zj.Conds r0))):Int) > (0:Int)) || (decide (zj.Act r0 < (1:Int)) || (decide (zj.Act r0 > (3:Int)) || (decide (zj.To r0 < (0:Int)) || (decide (zj.To r0≥conds) || zj.Act r0 != (3:Int) && zj.To r0 != (0:Int))))) else decide (zj.Act r0 < (1:Int)) || (decide (zj.Act r0 > (3:Int)) || (decide (zj.To r0 < (0:Int)) || (decide (zj.To r0≥conds) || zj.Act r0 != (3:Int) && zj.To r0 != (0:Int)))))=true→(res=false))∧((bif zj.All r0 then decide ((↑(List.length (List.map zf (zj.Conds r0))):Int) > (0:Int)) || (decide (zj.Act r0 < (1:Int)) || (decide (zj.Act r0 > (3:Int)) || (decide (zj.To r0 < (0:Int)) || (decide (zj.To r0≥conds) || zj.Act r0 != (3:Int) && zj.To r0 != (0:Int))))) else decide (zj.Act r0 < (1:Int)) || (decide (zj.Act r0 > (3:Int)) || (decide (zj.To r0 < (0:Int)) || (decide (zj.To r0≥conds) || zj.Act r0 != (3:Int) && zj.To r0 != (0:Int)))))=false→(((zj.Eof r0)=true→(((!zj.Bol r0)=true→(∃ r0_1:Bool,zaU (zj.Rx r0) r0_1∧(((r0_1)=true→(∃ r0_2:Bool,zaU (zj.Trail r0) r0_2∧(res=r0_2)))∧((r0_1)=false→(res=false)))))∧((!zj.Bol r0)=false→(res=false))))∧((zj.Eof r0)=false→(∃ r0_3:Bool,zaO (zj.Rx r0) r0_3∧(((r0_3)=true→(∃ r0_4:Bool,zaU (zj.Trail r0) r0_4∧(((r0_4)=true→(res=true))∧((r0_4)=false→(∃ r0_5:Bool,zaO (zj.Trail r0) r0_5∧(res=r0_5))))))∧((r0_3)=false→(res=false))))))))))))):zaT r0 conds res:=by
 unfold zaT;have kk:=cfOk [] 113;refine fD (x:=bodyOf Tryz.f85) kk Tryz.func85 ?_;refine wkS [1,4] [(1,zas r0),(4,vi conds)] (by kernel_rfl) ?_;refine sO kk oN [1] [(7,.ptr 14 0),(14,zas r0)] ?_;refine qD ?_;refine sO kk oN [] [(16,vi 0)] ?_;refine bD (id:=0) ?_;obtain ⟨Inv19,mu20,h0Inv19,hInv19⟩:=h;refine loE [] (fun (q:Int)=>(fun (i:Int)=>([(16,vi i)]:Sta)) q) (fun (q:Int)=>Inv19 q) (fun (q:Int)=>mu20 q) 0 [] h0Inv19 ?_;rintro i hi;have h:=hInv19 i hi;refine qD ?_;refine sOE kk oN [] [(31,vB (decide (i < (↑(List.length (List.map zf (zj.Conds r0))):Int))))] [(31,vB (decide (i < (↑(List.length (zj.Conds r0)):Int))))] ?_;refine cH 10 h (fun hb21 h=>?_) (fun hb21 h=>?_)
 ·refine kD ?_;show Sem _ _ _ _ _;refine wkD [31] ?_;refine qD ?_;refine bD (id:=1) ?_;obtain ⟨h22,h⟩:=h;obtain ⟨h23,h⟩:=h;obtain ⟨h25,h26,h29,h30,h31,h32,h⟩:=h;refine sM [] [(136,vB (decide (gd (zj.Conds r0) i < (0:Int)) || (decide (gd (zj.Conds r0) i≥conds) || decide (i > (0:Int)) && decide (gd (zj.Conds r0) i≤gd (zj.Conds r0) (w64 (i - 1))))))] ?_ (fun hk0=>?_)
  ·refine cH 45 h (fun hb33 h=>?_) (fun hb33 h=>?_)
   ·refine sO kk oN [4,7,14,16,136] [(13,vB false)] ?_;refine tD ?_;subst h;exact (endQ []).1
   ·refine kD ?_;show Sem _ _ _ _ _;refine wkD [136] ?_;refine rO kk oN [] [(16,vi (w64 (i+1)))] ?_;exact lD (w64 (i+1)) [] h
  ·rcases eft (decide (gd (zj.Conds r0) i < (0:Int))) with hb24 | hb24
   ·refine sO kk (nd h22 (el (zF zf (zj.Conds r0) i _ rfl h22 h23) (g1 hb24 2222222388887 oN))) [] [(136,vB true)] ?_;exact Sem.cast (by try rw [hb24];kernel_rfl) hk0
   ·rcases eft (decide (gd (zj.Conds r0) i≥conds)) with hb27 | hb27
    ·refine sO kk (nd h22 (el (zF zf (zj.Conds r0) i _ rfl h22 h23) (g1 hb24 2222 (nd (h25 hb24) (el (zF zf (zj.Conds r0) i _ rfl (h25 hb24) (h26 hb24)) (g2 hb27 hb24 555622223 oN)))))) [] [(136,vB true)] ?_;exact Sem.cast (by try rw [hb24];try rw [hb27];kernel_rfl) hk0
    ·rcases eft (decide (i > (0:Int))) with hb28 | hb28
     ·refine sO kk (nd h22 (el (zF zf (zj.Conds r0) i _ rfl h22 h23) (g1 hb24 2222 (nd (h25 hb24) (el (zF zf (zj.Conds r0) i _ rfl (h25 hb24) (h26 hb24)) (g1 hb24 2223 (g2 hb28 hb27 5551111 (nd (((h29 hb24) hb27) hb28) (el (zF zf (zj.Conds r0) i _ rfl (((h29 hb24) hb27) hb28) (((h30 hb24) hb27) hb28)) (g1 hb28 111111 (nd (((h31 hb24) hb27) hb28) (el (zF zf (zj.Conds r0) (w64 (i - 1)) _ rfl (((h31 hb24) hb27) hb28) (((h32 hb24) hb27) hb28)) (g2 hb27 hb28 44263 oN))))))))))))) [] [(136,vB (decide (gd (zj.Conds r0) i≤gd (zj.Conds r0) (w64 (i - 1)))))] ?_;exact Sem.cast (by try rw [hb24];try rw [hb27];try rw [hb28];kernel_rfl) hk0
     ·refine sO kk (nd h22 (el (zF zf (zj.Conds r0) i _ rfl h22 h23) (g1 hb24 2222 (nd (h25 hb24) (el (zF zf (zj.Conds r0) i _ rfl (h25 hb24) (h26 hb24)) (g1 hb24 2223 (g2 hb27 hb28 222444444444444263 oN))))))) [] [(136,vB false)] ?_;exact Sem.cast (by try rw [hb24];try rw [hb27];try rw [hb28];kernel_rfl) hk0
 ·refine xD (i:=0) ?_;show Sem _ _ _ _ _;refine wkD [16,31] ?_;refine qD ?_;refine sM [4] [(253,vB (bif zj.All r0 then decide ((↑(List.length (List.map zf (zj.Conds r0))):Int) > (0:Int)) || (decide (zj.Act r0 < (1:Int)) || (decide (zj.Act r0 > (3:Int)) || (decide (zj.To r0 < (0:Int)) || (decide (zj.To r0≥conds) || zj.Act r0 != (3:Int) && zj.To r0 != (0:Int))))) else decide (zj.Act r0 < (1:Int)) || (decide (zj.Act r0 > (3:Int)) || (decide (zj.To r0 < (0:Int)) || (decide (zj.To r0≥conds) || zj.Act r0 != (3:Int) && zj.To r0 != (0:Int))))))] ?_ (fun hk0=>?_)
  ·refine cH 84 h (fun hb46 h=>?_) (fun hb46 h=>?_)
   ·refine sO kk oN [7,14,253] [(13,vB false)] ?_;refine tD ?_;subst h;exact (endQ []).1
   ·refine kD ?_;show Sem _ _ _ _ _;refine wkD [253] ?_;refine qD ?_;refine sO kk oN [] [(259,vB (zj.Eof r0))] ?_;refine cH 86 h (fun hb47 h=>?_) (fun hb47 h=>?_)
    ·rcases eft (!zj.Bol r0) with hb48 | hb48
     ·have h:=h.1 hb48;obtain ⟨r0_1,hc49,h⟩:=h;rcases eft (r0_1) with hb50 | hb50
      ·have h:=h.1 hb50;obtain ⟨r0_2,hc51,h⟩:=h;refine sO kk (g1 hb48 111 (ca hc49 (g2 hb50 hb48 6111 (ca hc51 (g1 hb50 3 oN))))) [7,14,259] [(13,vB r0_2)] ?_;refine tD ?_;subst h;exact (endQ []).1
      ·have h:=h.2 hb50;refine sO kk (g1 hb48 111 (ca hc49 (g2 hb50 hb48 61113 oN))) [7,14,259] [(13,vB false)] ?_;refine tD ?_;subst h;exact (endQ []).1
     ·have h:=h.2 hb48;refine sO kk (g1 hb48 11138888 oN) [7,14,259] [(13,vB false)] ?_;refine tD ?_;subst h;exact (endQ []).1
    ·refine kD ?_;show Sem _ _ _ _ _;refine wkD [259] ?_;obtain ⟨r0_3,hc52,h⟩:=h;rcases eft (r0_3) with hb53 | hb53
     ·have h:=h.1 hb53;obtain ⟨r0_4,hc54,h⟩:=h;rcases eft (r0_4) with hb55 | hb55
      ·have h:=h.1 hb55;refine sO kk (ca hc52 (g1 hb53 111 (ca hc54 (g2 hb53 hb55 1555163 oN)))) [7,14] [(13,vB true)] ?_;refine tD ?_;subst h;exact (endQ []).1
      ·have h:=h.2 hb55;obtain ⟨r0_5,hc56,h⟩:=h;refine sO kk (ca hc52 (g1 hb53 111 (ca hc54 (g2 hb55 hb53 4222 (ca hc56 (g2 hb53 hb55 163 oN)))))) [7,14] [(13,vB r0_5)] ?_;refine tD ?_;subst h;exact (endQ []).1
     ·have h:=h.2 hb53;refine sO kk (ca hc52 (g1 hb53 111113 oN)) [7,14] [(13,vB false)] ?_;refine tD ?_;subst h;exact (endQ []).1
  ·rcases eft (zj.All r0) with hb34 | hb34
   ·rcases eft (decide ((↑(List.length (List.map zf (zj.Conds r0))):Int) > (0:Int))) with hb35 | hb35
    ·refine sO kk (g2 hb35 hb34 4444622238887888788887888887 oN) [4] [(253,vB true)] ?_;exact Sem.cast (by try rw [hb34];try rw [hb35];kernel_rfl) hk0
    ·rcases eft (decide (zj.Act r0 < (1:Int))) with hb36 | hb36
     ·refine sO kk (g1 hb34 11113 (g2 hb36 hb35 55562223888788887888887 oN)) [4] [(253,vB true)] ?_;exact Sem.cast (by try rw [hb34];try rw [hb35];try rw [hb36];kernel_rfl) hk0
     ·rcases eft (decide (zj.Act r0 > (3:Int))) with hb37 | hb37
      ·refine sO kk (g2 hb35 hb34 444462223 (g2 hb37 hb36 5556222388887888887 oN)) [4] [(253,vB true)] ?_;exact Sem.cast (by try rw [hb34];try rw [hb35];try rw [hb36];try rw [hb37];kernel_rfl) hk0
      ·rcases eft (decide (zj.To r0 < (0:Int))) with hb38 | hb38
       ·refine sO kk (g1 hb34 11113 (g2 hb36 hb35 55562223 (g2 hb38 hb37 555622223888887 oN))) [4] [(253,vB true)] ?_;exact Sem.cast (by try rw [hb34];try rw [hb35];try rw [hb36];try rw [hb37];try rw [hb38];kernel_rfl) hk0
       ·rcases eft (decide (zj.To r0≥conds)) with hb39 | hb39
        ·refine sO kk (g2 hb35 hb34 444462223 (g2 hb37 hb36 55562223 (g2 hb39 hb38 55556222223 oN))) [4] [(253,vB true)] ?_;exact Sem.cast (by try rw [hb34];try rw [hb35];try rw [hb36];try rw [hb37];try rw [hb38];try rw [hb39];kernel_rfl) hk0
        ·rcases eft (zj.Act r0 != (3:Int)) with hb40 | hb40
         ·refine sO kk (g1 hb34 11113 (g2 hb36 hb35 55562223 (g2 hb38 hb37 555622223 (g2 hb39 hb40 2222444263 oN)))) [4] [(253,vB (zj.To r0 != (0:Int)))] ?_;exact Sem.cast (by try rw [hb34];try rw [hb35];try rw [hb36];try rw [hb37];try rw [hb38];try rw [hb39];try rw [hb40];kernel_rfl) hk0
         ·refine sO kk (g1 hb34 11113 (g2 hb36 hb35 55562223 (g2 hb38 hb37 555622223 (g2 hb39 hb40 2222444263 oN)))) [4] [(253,vB false)] ?_;exact Sem.cast (by try rw [hb34];try rw [hb35];try rw [hb36];try rw [hb37];try rw [hb38];try rw [hb39];try rw [hb40];kernel_rfl) hk0
   ·rcases eft (decide (zj.Act r0 < (1:Int))) with hb41 | hb41
    ·refine sO kk (g2 hb41 hb34 4444677782223888788887888887 oN) [4] [(253,vB true)] ?_;exact Sem.cast (by try rw [hb34];try rw [hb41];kernel_rfl) hk0
    ·rcases eft (decide (zj.Act r0 > (3:Int))) with hb42 | hb42
     ·refine sO kk (g1 hb34 11113 (g2 hb42 hb41 77785556222388887888887 oN)) [4] [(253,vB true)] ?_;exact Sem.cast (by try rw [hb34];try rw [hb41];try rw [hb42];kernel_rfl) hk0
     ·rcases eft (decide (zj.To r0 < (0:Int))) with hb43 | hb43
      ·refine sO kk (g2 hb41 hb34 4444677782223 (g2 hb43 hb42 555622223888887 oN)) [4] [(253,vB true)] ?_;exact Sem.cast (by try rw [hb34];try rw [hb41];try rw [hb42];try rw [hb43];kernel_rfl) hk0
      ·rcases eft (decide (zj.To r0≥conds)) with hb44 | hb44
       ·refine sO kk (g1 hb34 11113 (g2 hb42 hb41 777855562223 (g2 hb44 hb43 55556222223 oN))) [4] [(253,vB true)] ?_;exact Sem.cast (by try rw [hb34];try rw [hb41];try rw [hb42];try rw [hb43];try rw [hb44];kernel_rfl) hk0
       ·rcases eft (zj.Act r0 != (3:Int)) with hb45 | hb45
        ·refine sO kk (g2 hb41 hb34 4444677782223 (g2 hb43 hb42 555622223 (g2 hb44 hb45 2222444263 oN))) [4] [(253,vB (zj.To r0 != (0:Int)))] ?_;exact Sem.cast (by try rw [hb34];try rw [hb41];try rw [hb42];try rw [hb43];try rw [hb44];try rw [hb45];kernel_rfl) hk0
        ·refine sO kk (g2 hb41 hb34 4444677782223 (g2 hb43 hb42 555622223 (g2 hb44 hb45 2222444263 oN))) [4] [(253,vB false)] ?_;exact Sem.cast (by try rw [hb34];try rw [hb41];try rw [hb42];try rw [hb43];try rw [hb44];try rw [hb45];kernel_rfl) hk0
end Go.Ev
