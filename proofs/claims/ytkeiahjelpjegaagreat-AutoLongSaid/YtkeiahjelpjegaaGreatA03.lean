import Derived.Test.YtkeiahjelpjegaaGreatA02
import Derived.Shelf.Spec.SlicesGrow
import Derived.Lib.RowBridge
set_option linter.unusedSimpArgs false
set_option linter.unusedVariables false
namespace Go.Ev
open Go Go.Proofs
set_option maxRecDepth 8000
def growRen:Go.Shelf.Ren:=⟨fun | 4=>119 | n=>n,fun | 22=>40 | 25=>3 | n=>n,fun n=>n⟩
theorem growLays:Lays8.n4 Tryz.prog growRen:={
 mixed:=by kernel_rfl
 f4:=⟨Tryz.f119.name,by rfl,Tryz.func119.trans (congrArg some (by kernel_rfl))⟩
 t0:=Tryz.underlying0
 a0:=Tryz.isAgg0
 z0:=Tryz.sizeOf0
 v0:=Tryz.zeroValue0
 t3:=Tryz.underlying3
 a3:=Tryz.isAgg3
 z3:=Tryz.sizeOf3
 v3:=Tryz.zeroValue3
 t4:=Tryz.underlying4
 a4:=Tryz.isAgg4
 z4:=Tryz.sizeOf4
 v4:=Tryz.zeroValue4
 t9:=Tryz.underlying9
 a9:=Tryz.isAgg9
 z9:=Tryz.sizeOf9
 v9:=Tryz.zeroValue9
 t20:=Tryz.underlying20
 a20:=Tryz.isAgg20
 z20:=Tryz.sizeOf20
 v20:=Tryz.zeroValue20
 t22:=Tryz.underlying40
 a22:=Tryz.isAgg40
 z22:=Tryz.sizeOf40
 v22:=Tryz.zeroValue40 }
def ipTab (g:FuncId):Option ((List FV→Option (List FV))×Bool):=
 match Nat.beq g 116 with
 | true=>some (sortF,false)
 | false=>match Nat.beq g 117 with
   | true=>some (compactF,true)
   | false=>none
def grTab (g:FuncId):Option TypeId:=
 match Nat.beq g 119 with
 | true=>some 3
 | false=>none
theorem esz_one {own:Own} {w:World} {b o:Nat} {E:TypeId} {l:List FV} {u:Value} {k n:Nat} (h:OwnL Tryz.prog own w b o E l u) (h2:OwnB Tryz.prog own w b o E k l n) (hne:l≠[]) (hs:∀ x∈l,x.size=1):esz Tryz.prog E=1:=by
 obtain ⟨_,arr,_,_,h4,_⟩:=h2
 cases l with
 | nil=>exact absurd rfl hne
 | cons x r=>rw [← h4 x (List.mem_cons_self ..)];exact hs x (List.mem_cons_self ..)
theorem sort_ok:IpOk Tryz.prog 116 sortF false:=
 ip_sort ⟨_,Tryz.func116,by rfl,by rfl⟩ (fun _ _ _ _ _ _ _ _ _ h h2 h3 h4=>esz_one h h2 h3 h4) Tryz.slices_Sort_int Tryz.slices_Sort_int_none
theorem compact_ok:IpOk Tryz.prog 117 compactF true:=
 ip_compact ⟨_,Tryz.func117,by rfl,by rfl⟩ (fun _ _ _ _ _ _ _ _ _ h h2 h3 h4=>esz_one h h2 h3 h4) Tryz.slices_Compact_int Tryz.slices_Compact_int_empty Lib.compact_length_le
theorem grow_ok:GrOk Tryz.prog 119 3:=by
 refine gr_grow ⟨_,Tryz.func119,by rfl,by rfl⟩ (by kernel_rfl) (fun w n h0 h1=>?_) (fun w=>?_)
 ·refine (Any8.slices_Grow_grow growLays Tryz.t3 (.int .i64 0) Tryz.type3 (by kernel_rfl) (Nat.le_of_ble_eq_true rfl) none 0 0 n [] w (Nat.le_refl _) (by omega) ?_ (by omega) rfl (fun _=>rfl) (fun a h=>by cases h)).mono ?_
  ·have:Tryz.t3.bytes=8:=rfl
   rw [this];omega
  ·rintro e w' ⟨rfl,rfl⟩
   refine ⟨_,_,w.drawn+1,rfl,rfl,?_⟩
   have h1:(Value.int IntKind.i64 0).cells.size=1:=rfl
   simp [Builtin.zeroCells,h1]
   omega
 ·exact (Any8.slices_Grow_room growLays none 0 0 0 w (Nat.le_refl _) (by omega) (by omega) (by omega)).mono fun e w' h=>h
def eqTab (t:TypeId):Bool:=Nat.beq t 57
noncomputable def cf (mv:List Nat) (nt:Nat):Cfg:=mkCfgV tyTab ipTab grTab eqTab mv nt
theorem cfOk (mv:List Nat) (nt:Nat):COk Tryz.prog (cf mv nt):=by
 refine mkCfgV_ok tyTab_ok (by rfl) ⟨fun g f back h=>?_,fun g E h=>?_,fun t h=>?_⟩
 ·change ipTab g=some (f,back) at h
  unfold ipTab at h
  split at h
  ·rename_i e
   simp only [Option.some.injEq,Prod.mk.injEq] at h
   obtain ⟨rfl,rfl⟩:=h
   rw [Nat.eq_of_beq_eq_true e];exact sort_ok
  ·split at h
   ·rename_i e
    simp only [Option.some.injEq,Prod.mk.injEq] at h
    obtain ⟨rfl,rfl⟩:=h
    rw [Nat.eq_of_beq_eq_true e];exact compact_ok
   ·cases h
 ·change grTab g=some E at h
  unfold grTab at h
  split at h
  ·rename_i e
   simp only [Option.some.injEq] at h;subst h
   rw [Nat.eq_of_beq_eq_true e];exact grow_ok
  ·cases h
 ·rw [Nat.eq_of_beq_eq_true h]
  exact ⟨Tryz.stoodInHeld57,Tryz.eqGuardType57,by kernel_rfl⟩
end Go.Ev
set_option linter.unusedVariables false
set_option linter.unusedSimpArgs false
namespace Go.Ev
open Go Go.Proofs
set_option maxRecDepth 8000
noncomputable def cfr (mv:List Nat) (nt:Nat):Cfg:={ cf mv nt with rnd:=true }
theorem cfrOk (mv:List Nat) (nt:Nat):COk Tryz.prog (cfr mv nt):=⟨(cfOk mv nt).cfg,zfr (cfOk mv nt).ip rfl rfl rfl,(cfOk mv nt).ro⟩
theorem back_ok_169:BackOk Tryz.prog 169 zA:=
 back_of (c:=cf [] 19) (cfOk [] 19) Tryz.func169 (by rfl) (by rfl) (by rfl) (by rfl) (agg:=true) (sz:=3) (fun x=>by simp [FV.fits,FV.size,FV.cells,FV.one,zab]) (fun x=>rfl) (fun h=>by cases h) (by rfl)
  (by rfl) (by rfl) (by rfl) (by rfl) (pre:=(opsOf (sq1 (sq1 (sq1 (sq2 (sq1 (sq1 (sq2 (bodyOf Tryz.f169))))))))).take 6) (by rfl) (by rfl) (by rfl) (by rfl)
  (fun yv xs=>⟨[],[(1,.f (.pv yv)),(4,.fp (.sl (xs.map (encX true 3))) 0),(10,vi (w64 (((xs.map (encX true 3)).length:Int) - 1))),(13,.f (.sl (xs.map (encX true 3)))),(16,vi (((xs.map (encX true 3)).length:Int))),(19,vi (w64 (((xs.map (encX true 3)).length:Int) - 1)))],by kernel_rfl,by rfl⟩)
  (fun yv xs i=>⟨[],[(1,.f (.pv yv)),(4,.fp (.sl (xs.map (encX true 3))) 0),(10,vi i),(22,vi i),(25,vB (decide (i≥0)))],by kernel_rfl,by rfl,by rfl⟩)
  (fun yv xs i=>⟨[],[(1,.f (.pv yv)),(4,.fp (.sl (xs.map (encX true 3))) 0),(10,vi (w64 (i - 1))),(28,vi i),(31,vi (w64 (i - 1)))],by kernel_rfl,by rfl⟩)
  (fun yv xs i x=>⟨[],[(1,.f (.pv yv)),(4,.fp (.sl (xs.map (encX true 3))) 0),(10,vi i),(34,.f (.pv yv)),(37,vi i),(40,.f (.sl (xs.map (encX true 3)))),(43,vi i),(46,.fp (encX true 3 x) 0),(49,asAV (encX true 3 x))],by kernel_rfl,by rfl,by rfl,by rfl,by rfl⟩) (fun b=>⟨[],[(52,vB b),(55,vB (!b))],by kernel_rfl,by rfl⟩) (by simp)
theorem zeh (l:List zi):CallE Tryz.prog 161 [vL zA l] [] (.clo 169 [.fp (.sl (List.map zA l)) 0]) []:=by
 refine zdY (x:=bodyOf Tryz.f161) (cfOk [] 4) Tryz.func161 (by rfl) (by rfl) (by rfl) (Nat.le_of_ble_eq_true rfl) (by rfl) (by rfl) (Nat.le_of_ble_eq_true rfl) ?_
 refine wkS [1] [(1,vL zA l)] (by kernel_rfl) ?_
 refine sR (cfOk [] 4) [] [4,8] [(4,.ptr 8 0),(8,vL zA l)] (obs:=[]) (by kernel_rfl) (by kernel_rfl) obN ?_
 refine sR (cfOk [] 4) [] [7,8] [(7,.clo 169 [.ptr 8 0]),(8,vL zA l)] (obs:=[]) (by kernel_rfl) (by kernel_rfl) obN ?_
 refine Sem.ret' (by kernel_rfl) Wk.refl ?_
 refine ⟨_,Wk.fpz (b:=8) (x:=.sl (List.map zA l)) (by rfl) (by rfl) (by rfl),?_⟩
 exact (zdV (x:=.clo 169 [.fp (.sl (List.map zA l)) 0]) (l:=[]) (by kernel_rfl) ⟨rfl,rfl⟩).1
def zag (a0:List zi):Prop:=CallE Tryz.prog 161 [vL zA a0] [] (.clo 169 [.fp (.sl (List.map zA a0)) 0]) []
end Go.Ev
set_option linter.unusedVariables false
set_option linter.unusedSimpArgs false
namespace Go.Ev
open Go Go.RowKit
variable {P : Program}
section
variable {CE : CEx} {c : Cfg} {G G' : Sta} {own : Own} {a : Act} {w : World} {ops : Array Oper} {X : Nat → Nat → Bool}
variable {F : Fence} {n : Nat} {Q : Exit → Act → World → Prop}
def Tp (ops:Array Oper):List Ent→Prop
 | []=>True
 | x :: r=>(∀ o,ops[x.i]?=some o→∀ e∈o.after,Region.binds .any e=true→e.on < ops.size∧∀ y∈x :: r,e.on≠y.i)∧Tp ops r
def entOkX (ops:Array Oper) (X:Nat→Nat→Bool):List Ent→Prop
 | []=>True
 | x :: r=>(∀ y∈r,anc ops ops.size x.i y.i=false→X x.i y.i=false→x.ind y)∧entOkX ops X r
theorem Tp.mid:∀ {p:List Ent} {y:Ent} {r:List Ent},Tp ops (p++y :: r)→Tp ops (p++r)
 | [],y,r,h=>h.2
 | x :: p,y,r,h=>by
   refine ⟨fun o ho e he hb=>?_,Tp.mid h.2⟩
   obtain ⟨h1,h2⟩:=h.1 o ho e he hb
   refine ⟨h1,fun z hz=>h2 z ?_⟩
   show z∈(x :: p)++y :: r
   have hz:z∈(x :: p)++r:=hz
   rcases List.mem_append.1 hz with hz | hz
   ·exact List.mem_append_left _ hz
   ·exact List.mem_append_right _ (List.mem_cons_of_mem _ hz)
theorem entOkX.mid:∀ {p:List Ent} {y:Ent} {r:List Ent},entOkX ops X (p++y :: r)→(∀ x∈p,anc ops ops.size x.i y.i=false→X x.i y.i=false→x.ind y)∧entOkX ops X (p++r)
 | [],y,r,h=>⟨fun x hx=>by simp at hx,h.2⟩
 | x :: p,y,r,h=>by
   obtain ⟨h1,h2⟩:=h
   obtain ⟨h3,h4⟩:=entOkX.mid h2
   refine ⟨fun z hz=>?_,fun z hz=>h1 z ?_,h4⟩
   ·rcases List.mem_cons.1 hz with rfl | hz
    ·exact h1 y (by simp)
    ·exact h3 z hz
   ·have hz:z∈p++r:=hz
    show z∈p++y :: r
    rcases List.mem_append.1 hz with hz | hz
    ·exact List.mem_append_left _ hz
    ·exact List.mem_append_right _ (List.mem_cons_of_mem _ hz)
structure Pl (ops:Array Oper) (X:Nat→Nat→Bool) (es:List Ent) (listed:Array Bool):Prop where
 sz:listed.size=ops.size
 cl:Closed ops listed
 ls:∀ i,i < ops.size→(listed.getD i true=false↔i∈es.map (·.i))
 lt:∀ x∈es,x.i < ops.size
 nd:(es.map (·.i)).Nodup
 tp:Tp ops es
 ok:entOkX ops X es
theorem Pl.pick {es:List Ent} {listed:Array Bool} (h:Pl ops X es listed) {i:Nat} (hi:i∈Region.ready .any ops listed) (hX:∀ x∈es,x.i≠i→X x.i i=false) (hrun:Runs CE (stepRM c ops) es G G') :
 ∃ (y:Ent) (es':List Ent),y.i=i∧(stepRM c ops y.i).wp CE G [] (fun U' T'=>U'=y.U∧T'=y.T)∧Runs CE (stepRM c ops) es' (app y.U G) G'∧Pl ops X es' (listed.setIfInBounds i true)∧es'.length+1=es.length∧(∀ z∈es',z∈es)∧(∀ z∈es',z.i≠i)∧∀ z∈es,z.i≠i→z∈es':=by
 obtain ⟨h1,o,ho,hready⟩:=mem_ready.1 hi
 have hilt:i < ops.size:=(Array.getElem?_eq_some_iff.1 ho).1
 have hmem:=(h.ls i hilt).1 h1
 obtain ⟨y,hy,rfl⟩:=List.mem_map.1 hmem
 obtain ⟨p,r,rfl⟩:=List.append_of_mem hy
 obtain ⟨hm1,hm2⟩:=entOkX.mid h.ok
 have hnd:=h.nd
 have hnotin:∀ z∈p++r,z.i≠y.i:=by
  intro z hz e
  rw [List.map_append,List.map_cons,List.nodup_append,List.nodup_cons] at hnd
  rcases List.mem_append.1 hz with hz | hz
  ·exact hnd.2.2 z.i (List.mem_map.2 ⟨z,hz,rfl⟩) y.i (by simp) e
  ·exact hnd.2.1.1 (e▸List.mem_map.2 ⟨z,hz,rfl⟩)
 have hind:∀ x∈p,x.ind y:=by
  intro x hx
  refine hm1 x hx ?_ (hX x (List.mem_append_left _ hx) (hnotin x (List.mem_append_left _ hx)))
  cases ha:anc ops ops.size x.i y.i with
  | false=>rfl
  | true=>
    have hxl:=zfA h.sz h.cl ops.size x.i y.i ha (fun o' ho' e he hb=>by rw [ho] at ho';cases ho';exact hready e he hb)
    have hxlt:=h.lt x (List.mem_append_left _ hx)
    have:listed.getD x.i true=false:=(h.ls x.i hxlt).2 (by simp [List.mem_map];exact .inl ⟨x,hx,rfl⟩)
    have hsz:=h.sz
    simp only [Array.getD_eq_getD_getElem?,Array.getElem?_eq_getElem (show x.i < listed.size by omega),Option.getD_some] at hxl this
    rw [hxl] at this;cases this
 obtain ⟨r1,r2⟩:=Runs.front hind hrun
 have hsub:(p++r).Sublist (p++y :: r):=List.Sublist.append (List.Sublist.refl _) (List.sublist_cons_self _ _)
 refine ⟨y,p++r,rfl,r1,r2,⟨by simpa using h.sz,?_,?_,fun x hx=>h.lt x (hsub.mem hx),hnd.sublist (hsub.map _),h.tp.mid,hm2⟩,by simp;omega,fun z hz=>hsub.mem hz,hnotin,?_⟩
 ·intro j o' ho' hj e he hb
  have hlst:listed.getD e.on false=true→(listed.setIfInBounds y.i true).getD e.on false=true:=fun h=>getD_set_true h
  by_cases hjy:y.i=j
  ·subst hjy
   rw [ho] at ho';cases ho'
   exact hlst (hready e he hb)
  ·rw [getD_set_ne true hjy] at hj
   exact hlst (h.cl j o' ho' hj e he hb)
 ·intro j hj
  by_cases hjy:y.i=j
  ·subst hjy
   have hsz:=h.sz
   have:(listed.setIfInBounds y.i true).getD y.i true=true:=by
    simp [Array.getD_eq_getD_getElem?,Array.getElem?_setIfInBounds,show y.i < listed.size by omega]
   rw [this]
   simp only [Bool.true_eq_false,false_iff]
   intro hmem
   obtain ⟨z,hz,e⟩:=List.mem_map.1 hmem
   exact hnotin z hz e
  ·rw [getD_set_ne true hjy,h.ls j hj]
   simp only [List.map_append,List.map_cons,List.mem_append,List.mem_cons]
   constructor
   ·rintro (h | h | h)
    ·exact .inl h
    ·exact absurd h.symm hjy
    ·exact .inr h
   ·rintro (h | h)
    ·exact .inl h
    ·exact .inr (.inr h)
 ·intro z hz hzi
  rcases List.mem_append.1 hz with hz | hz
  ·exact List.mem_append_left _ hz
  ·rcases List.mem_cons.1 hz with rfl | hz
   ·exact absurd rfl hzi
   ·exact List.mem_append_right _ hz
theorem Pl.done {es:List Ent} {listed:Array Bool} (he:es=[]) (s:St P c.nt G own a w) (h:Runs CE (stepRM c ops) es G G')
 (hq:∀ own' a' w',St P c.nt G' own' a' w'→Tr own w own' w'→a'.defers=a.defers→Q .normal a' w'):Q .normal a w:=by
 subst he
 have:G=G':=h
 subst this
 exact hq own a w s (Tr.refl _ _) rfl
theorem Pl.end {es:List Ent} {listed:Array Bool} (h:Pl ops X es listed) (he:es=[]):Region.ready .any ops listed=[]:=by
 subst he
 cases hr:Region.ready .any ops listed with
 | nil=>rfl
 | cons i r=>
   have:i∈Region.ready .any ops listed:=by rw [hr];exact List.mem_cons_self ..
   obtain ⟨h1,o,ho,_⟩:=mem_ready.1 this
   have hi:i < ops.size:=(Array.getElem?_eq_some_iff.1 ho).1
   have:=(h.ls i hi).1 h1
   simp at this
end
end Go.Ev
set_option linter.unusedVariables false
set_option linter.unusedSimpArgs false
namespace Go.Ev
open Go Go.RowKit
variable {P : Program}
section
variable {c : Cfg} {ops : Array Oper}
end
theorem Sem.cfg {c c':Cfg} {x:Code} {G:Sta} {K:Ex→Sta→Prop} (h1:c'.nt=c.nt) (h2:c'.rnd=c.rnd) (h:Sem P c' x G K):Sem P c x G K:=by
 unfold Sem WideC at h ⊢
 rw [h1,h2] at h
 exact h
theorem COk.vs {c:Cfg} (h:COk P c) (vs:Nat→Bool):COk P { c with vs:=vs }:=⟨h.cfg,zfr h.ip rfl rfl rfl,h.ro⟩
end Go.Ev
set_option linter.unusedVariables false
set_option linter.unusedSimpArgs false
namespace Go.Ev
open Go Go.RowKit
variable {P : Program}
theorem RF.to_no {own:Own} {w:World} {x:FV} {u:Value} (h:RF own w x u):RF no w x u:=h.mono0 fun _ _=>rfl
theorem zgd {G:Sta} {nt:Nat} {a:Act} {w:World} (hs:a.tmps.size=nt) (h:∀ b v,get G b=some v→∃ t u,b=tb t∧a.tmps[t]?=some u∧RL P G no w b v u):St P nt G no a w:=
 ⟨hs,fun t v e=>by
   obtain ⟨t',u,e1,e2,e3⟩:=h _ _ e
   have:=tb_inj e1;subst this;exact ⟨u,e2,e3⟩,
  fun b v hb _ e=>by obtain ⟨t,u,rfl,_⟩:=h _ _ e;simp [tb] at hb,
  fun b v hm e=>by obtain ⟨t,u,rfl,_⟩:=h _ _ e;exact absurd (by simp only [tb];omega) (zdE hm),
  fun k k' o h=>(nomatch h),fun k o h=>(nomatch h)⟩
section
variable {c : Cfg} {F : Fence} {n : Nat} {Q : Exit → Act → World → Prop} {ops : Array Oper}
def nod (ts:List Tmp) (ops:List Oper):Bool:=ops.all fun o=>ts.all fun t=>o.dst != some t
theorem zgH {ts:List Tmp} {ops:Array Oper} (h:nod ts ops.toList=true) {i:Nat} {o:Oper} (ho:ops[i]?=some o) {t:Tmp} (ht:t∈ts):o.dst≠some t:=by
 have:=List.all_eq_true.1 (List.all_eq_true.1 h o (by rw [← Array.getElem?_toList] at ho;exact List.mem_of_getElem? ho)) t ht
 simpa using this
theorem zej {t0 t1 t2 t3 t4:Tmp} (l:List Nat) {a:Act} {w:World} (hd:nod [t0,t1,t2,t3,t4] ops.toList=true)
 (h:wpOpsIn F n P ops (fun e a' w'=>(e=.normal→a'.tmps[t4]?=a.tmps[t4]?)→(e=.normal→a'.tmps[t3]?=a.tmps[t3]?)→(e=.normal→a'.tmps[t2]?=a.tmps[t2]?)→(e=.normal→a'.tmps[t1]?=a.tmps[t1]?)→(e=.normal→a'.tmps[t0]?=a.tmps[t0]?)→Q e a' w') l a w):wpOpsIn F n P ops Q l a w:=
 za2 (t:=t0) _ (fun i _ o h=>zgH hd h (by simp)) (za2 (t:=t1) _ (fun i _ o h=>zgH hd h (by simp)) (za2 (t:=t2) _ (fun i _ o h=>zgH hd h (by simp)) (za2 (t:=t3) _ (fun i _ o h=>zgH hd h (by simp)) (za2 (t:=t4) _ (fun i _ o h=>zgH hd h (by simp)) h))))
structure Kp5 (t0 t1 t2 t3 t4:Tmp) (a a':Act):Prop where
 k0:a'.tmps[t0]?=a.tmps[t0]?
 k1:a'.tmps[t1]?=a.tmps[t1]?
 k2:a'.tmps[t2]?=a.tmps[t2]?
 k3:a'.tmps[t3]?=a.tmps[t3]?
 k4:a'.tmps[t4]?=a.tmps[t4]?
theorem regK (hc:COk P c) (hF:WideF P F) {t0 t1 t2 t3 t4:Tmp} {id:Nat} {q:List Ora} {G G':Sta} {obs:List Prop} {log:List Lg} {own:Own} {a:Act} {w:World} (h:evOps (CallE P) c ops false ops.toList 0 [] G q=some (obs,log,G')) (ho:AllP obs)
 (hd:nod [t0,t1,t2,t3,t4] ops.toList=true) (s:St P c.nt G own a w)
 (hq:∀ own' a' w',St P c.nt G' own' a' w'→Tr own w own' w'→a'.defers=a.defers→Kp5 t0 t1 t2 t3 t4 a a'→Q .normal a' w'):(Code.region id ops false).wpIn F n P Q a w:=by
 refine wpIn_region (zej _ hd ?_)
 refine zdq hc hF (pre:=ops.toList) (rest:=[]) (by simp) h ho s ?_
 intro own' a' w' s' t' d' h4 h3 h2 h1 h0
 exact hq own' a' w' s' t' d' ⟨h0 rfl,h1 rfl,h2 rfl,h3 rfl,h4 rfl⟩
theorem nmt {a:Act} {t:Tmp} {i:Int} (h:a.tmps[t]?=some (.int .i64 i)) {N:Nat} {k:Nat} (e:i=k):(match a.tmps[t]? with
 | some (Value.int _ v)=>N - v.toNat
 | _=>0)=N - k:=by rw [h];subst e;rfl
theorem yloop (hc:COk P c) (hF:WideF P F) {bx b1 iB i2 i3 iD:Nat} {oB o2 o3 oD:Array Oper} {tl tn ti tc te ty tx to_ tq t1:Tmp} {x:Code} (hnt:0 < c.nt∧to_ < c.nt∧tl < c.nt∧tn < c.nt∧ti < c.nt∧te < c.nt)
 (hx:x=.block bx (.loop (.seq (.region iB oB false) (.seq (.cond (.tmp tc) .skip (.exit bx)) (.seq (.block b1 (.seq (.region i2 o2 false) (.seq (.region i3 o3 false) (.cond (.tmp tq) .ret .skip)))) (.region iD oD false))))))
 {yv s:Value} {vs:List Value} (hyc:yv.oneCell'=true) (hvl:(vs.length:Int)≤9223372036854775807)
 (dB:nod [0,t1,tl,tn,ti] oB.toList=true) (d2:nod [0,t1,tl,tn,ti] o2.toList=true) (d3:nod [0,t1,tl,tn,ti] o3.toList=true) (dD:nod [0,t1,tl,tn,t1] oD.toList=true)
 {pre:List Oper} {oc on:Oper} {ats:Array TypeId} (h3:o3.toList=pre++[oc,on]) (hoc:oc.op=.call { callee:=.value (.tmp ty),args:=#[.tmp tx],argTypes:=ats }) (hocd:oc.dst=some to_) (hocg:oc.guard=none)
 (hlt:0 < tl∧tl < tn∧tn < ti∧0 < te)
 (kB:∀ i:Nat,∃ log G',evOps (CallE P) c oB false oB.toList 0 [] [(1,.f (.pv yv)),(tb tl,.f (.sl (vs.map .pv))),(tb tn,.f (.pv (.int .i64 (vs.length:Int)))),(tb ti,.f (.pv (.int .i64 (i:Int))))] []=some ([],log,G')∧get G' (tb tc)=some (.f (.pv (.bool (decide ((i:Int) < (vs.length:Int)))))))
 (k2:∀ (i:Nat) v,∃ log G',evOps (CallE P) c o2 false o2.toList 0 [] [(1,.f (.pv yv)),(tb tl,.f (.sl (vs.map .pv))),(tb tn,.f (.pv (.int .i64 (vs.length:Int)))),(tb ti,.f (.pv (.int .i64 (i:Int))))] [.e (.pv v)]=some ([(0:Int)≤i,(vs.map FV.pv)[(i:Int).toNat]?=some (.pv v)],log,G')∧get G' (tb te)=some (.f (.pv v)))
 (k3:∀ v,∃ log G',evOps (CallE P) c o3 false pre 0 [] [(1,.f (.pv yv)),(tb te,.f (.pv v))] []=some ([],log,G')∧get G' (tb ty)=some (.f (.pv yv))∧get G' (tb tx)=some (.f (.pv v)))
 (kN:∀ b,∃ log G',evOps (CallE P) c o3 false [on] (pre.length+1) [] [(tb to_,.f (.pv (.bool b)))] []=some ([],log,G')∧get G' (tb tq)=some (.f (.pv (.bool (!b)))))
 (kD:∀ i:Nat,∃ log G',evOps (CallE P) c oD false oD.toList 0 [] [(1,.f (.pv yv)),(tb tl,.f (.sl (vs.map .pv))),(tb tn,.f (.pv (.int .i64 (vs.length:Int)))),(tb ti,.f (.pv (.int .i64 (i:Int))))] []=some ([],log,G')∧get G' (tb ti)=some (.f (.pv (.int .i64 (IntKind.wrap .i64 ((i:Int)+1))))))
 (hond:to_≠0∧to_≠t1∧to_≠tl∧to_≠tn∧to_≠ti)
 {own:Own} {w0:World} (hlt0:∀ k o,own k=some o→k < w0.heap.size) {lp:Nat} (hyv:yv=Value.func (.yield lp) #[] #[]) {J:Nat→World→Prop} {S:World→Prop} {ok:Nat→Array Value→Prop} {M k0:Nat}
 (hst:∀ i W1 W2,J i W1→Grow W1 W2→J i W2) (hss:∀ W1 W2,S W1→Grow W1 W2→S W2)
 (hyield:∀ m i x W1,J i W1→i < M→ok i x→KU (fun k=>k < w0.heap.size∧(own k=none∨∃ o,own k=some (.al o))) w0 W1→YieldAt F m P lp x W1 fun e W'=>((e=.returned (.bool true)∧J (i+1) W')∨(e=.returned (.bool false)∧S W'))∧KU (fun k=>k < w0.heap.size∧(own k=none∨∃ o,own k=some (.al o))) w0 W')
 (hM:k0+vs.length≤M) (hok:∀ i v u,vs[i]?=some v→u=v→ok (k0+i) #[u]) (hsl:RF own w0 (.sl (vs.map .pv)) s)
 {a:Act} {W:World} (z0:a.tmps.size=c.nt) (z1:a.tmps[0]?=some yv) (z2:a.tmps[tl]?=some s) (z3:a.tmps[tn]?=some (.int .i64 (vs.length:Int))) (z4:a.tmps[ti]?=some (.int .i64 0)) (zd:a.defers=[]) (hJ:J k0 W) (hK:KU (fun k=>k < w0.heap.size∧(own k=none∨∃ o,own k=some (.al o))) w0 W)
 (hcont:∀ a' W',a'.tmps.size=c.nt→a'.tmps[0]?=some yv→a'.tmps[t1]?=a.tmps[t1]?→a'.defers=[]→J (k0+vs.length) W'→KU (fun k=>k < w0.heap.size∧(own k=none∨∃ o,own k=some (.al o))) w0 W'→Q .normal a' W')
 (hret:∀ a' W',a'.defers=[]→S W'→Q .ret a' W'):x.wpIn F n P Q a W:=by
 subst hx
 have hU:∀ k,(k < w0.heap.size∧(own k=none∨∃ o,own k=some (.al o)))→k < w0.heap.size:=fun k h=>h.1
 have base:∀ (a:Act) (w:World) (i:Nat),a.tmps.size=c.nt→a.tmps[0]?=some yv→a.tmps[tl]?=some s→a.tmps[tn]?=some (.int .i64 (vs.length:Int))→a.tmps[ti]?=some (.int .i64 (i:Int))→KU (fun k=>k < w0.heap.size∧(own k=none∨∃ o,own k=some (.al o))) w0 w→
  St P c.nt [(1,.f (.pv yv)),(tb tl,.f (.sl (vs.map .pv))),(tb tn,.f (.pv (.int .i64 (vs.length:Int)))),(tb ti,.f (.pv (.int .i64 (i:Int))))] no a w:=by
  intro a w i hs h0 h1 h2 h3 hk
  refine zgd hs fun b v e=>?_
  simp only [get] at e
  split at e
  ·rename_i hb;cases e;exact ⟨0,yv,hb,h0,⟨rfl,.pv _ hyc⟩⟩
  ·split at e
   ·rename_i hb;cases e;exact ⟨tl,s,hb,h1,⟨rfl,(hsl.mono (hk.tr hlt0)).to_no⟩⟩
   ·split at e
    ·rename_i hb;cases e;exact ⟨tn,_,hb,h2,⟨rfl,.pv _ rfl⟩⟩
    ·split at e
     ·rename_i hb;cases e;exact ⟨ti,_,hb,h3,⟨rfl,.pv _ rfl⟩⟩
     ·cases e
 refine wpIn_block ?_
 refine wpIn_loop (fun a' w'=>∃ i:Nat,i≤vs.length∧J (k0+i) w'∧KU (fun k=>k < w0.heap.size∧(own k=none∨∃ o,own k=some (.al o))) w0 w'∧a'.tmps.size=c.nt∧a'.tmps[0]?=some yv∧a'.tmps[tl]?=some s∧a'.tmps[tn]?=some (.int .i64 (vs.length:Int))∧a'.tmps[ti]?=some (.int .i64 (i:Int))∧a'.tmps[t1]?=a.tmps[t1]?∧a'.defers=[])
  (fun a' _=>match a'.tmps[ti]? with
    | some (Value.int _ v)=>vs.length - v.toNat
    | _=>0) ⟨0,Nat.zero_le _,hJ,hK,z0,z1,z2,z3,z4,rfl,zd⟩ ?_
 rintro a1 w1 ⟨i,hi,hJ1,hk1,y0,y1,y2,y3,y4,y5,yd⟩
 rw [nmt y4 rfl]
 refine wpIn_seq ?_
 obtain ⟨logB,GB,eB,gB⟩:=kB i
 refine regK hc hF eB trivial dB (base a1 w1 i y0 y1 y2 y3 y4 hk1) ?_
 intro ownB aB wB sB tB dfB KB
 have hJB:=hst _ _ _ hJ1 (zbz tB)
 have hkB:=(zbz tB).ku hk1 hU
 have zB:=sB.size
 have pc:=zbA (t:=tc) sB gB
 refine wpIn_seq ?_
 refine wpIn_cond (show aB.eval (.tmp tc)=.bool (decide ((i:Int) < (vs.length:Int))) from zdg pc) ?_
 rcases Nat.lt_or_ge i vs.length with hl | hl'
 case' inr=>
  rw [show decide ((i:Int) < (vs.length:Int))=false from by simp;omega]
  refine wpIn_exit ?_
  have hie:i=vs.length:=by omega
  subst hie
  show Exit.inBlock bx Q (.exit bx) aB wB
  simp only [Exit.inBlock,if_true]
  exact hcont aB wB zB (KB.k0.trans y1) (KB.k1.trans y5) (dfB.trans yd) hJB hkB
 rw [show decide ((i:Int) < (vs.length:Int))=true from by simp;omega]
 refine wpIn_skip ?_
 refine wpIn_seq (wpIn_block (wpIn_seq ?_))
 obtain ⟨v,hv⟩:∃ v,vs[i]?=some v:=⟨vs[i],by simp⟩
 obtain ⟨log2,G2,e2,g2⟩:=k2 i v
 refine regK hc hF e2 ⟨by omega,by rw [Int.toNat_natCast,List.getElem?_map,hv];rfl,trivial⟩ d2 (base aB wB i zB (KB.k0.trans y1) (KB.k2.trans y2) (KB.k3.trans y3) (KB.k4.trans y4) hkB) ?_
 intro own2 a2 w2 s2 t2 df2 K2
 have hJ2:=hst _ _ _ hJB (zbz t2)
 have hk2:=(zbz t2).ku hkB hU
 have pe:=zbA (t:=te) s2 g2
 have hve:v.oneCell'=true:=by
  obtain ⟨u,hu,hr⟩:=s2.temps te _ g2
  have hr:RC own2 w2 (.f (.pv v)) u:=hr
  cases hr.2;assumption
 obtain ⟨log3,G3,e3,g3,g3x⟩:=k3 v
 refine wpIn_seq (wpIn_region (zej _ d3 ?_))
 have s2':St P c.nt [(1,.f (.pv yv)),(tb te,.f (.pv v))] no a2 w2:=by
  refine zgd s2.size fun b v' e=>?_
  simp only [get] at e
  split at e
  ·rename_i hb;cases e;exact ⟨0,yv,hb,K2.k0.trans (KB.k0.trans y1),⟨rfl,.pv _ hyc⟩⟩
  ·split at e
   ·rename_i hb;cases e;exact ⟨te,_,hb,pe,⟨rfl,.pv _ hve⟩⟩
   ·cases e
 refine zdq hc hF (pre:=pre) (rest:=[oc,on]) h3 e3 trivial s2' ?_
 intro own3 a3 w3 s3 t3 df3
 have ry:=zbA (t:=ty) s3 g3
 have rx:=zbA (t:=tx) s3 g3x
 have hJ3:=hst _ _ _ hJ2 (zbz t3)
 have hk3:=(zbz t3).ku hk2 hU
 show wpOpsIn F n P o3 _ (pre.length :: (pre.length+1) :: []) a3 w3
 have hocI:o3[pre.length]?=some oc:=by
  rw [← Array.getElem?_toList,h3,List.getElem?_append_right (Nat.le_refl _)];simp
 unfold wpOpsIn
 rw [hocI]
 dsimp only
 rw [if_pos (by simp [Region.wanted,hocg])]
 have hv11:a3.eval (.tmp ty)=.func (.yield lp) #[] #[]:=by rw [← hyv];show a3.tmps.getD ty _=_;exact zdg ry
 refine zek hF.fn (by simp [hoc]) ?_
 have hargs:(#[Operand.tmp tx]:Array Operand).map a3.eval=#[v]:=by
  have e1:a3.eval (.tmp tx)=v:=by show a3.tmps.getD tx _=_;exact zdg rx
  simp [e1]
 rw [run_callY hoc hv11,hargs]
 obtain ⟨fn',tmps',as',bd',hrun,hround⟩:=hyield (n - 1) (k0+i) _ w3 hJ3 (by omega) (hok i v v hv rfl) hk3
 rw [hrun,Oper.uponIn_round]
 refine ⟨fun e=>(by rw [hF.deep] at e;cases e),hround.mono ?_⟩
 rintro e w4 ⟨hJS,hk4⟩
 obtain ⟨b,rfl,hB⟩:∃ b,e=.returned (.bool b)∧((b=true∧J (k0+i+1) w4)∨(b=false∧S w4)):=by
  rcases hJS with ⟨rfl,h⟩ | ⟨rfl,h⟩
  ·exact ⟨true,rfl,.inl ⟨rfl,h⟩⟩
  ·exact ⟨false,rfl,.inr ⟨rfl,h⟩⟩
 dsimp only
 rw [hocd]
 have s4:St P c.nt [(tb to_,.f (.pv (.bool b)))] no (a3.put (some to_) (.bool b)) w4:=by
  have s00:St P c.nt [] no a3 w4:=⟨s3.size,fun t v e=>(by cases e),fun b v hb _ e=>(by cases e),fun b v hm e=>(by cases e),fun k k' o h=>(nomatch h),fun k o h=>(nomatch h)⟩
  exact s00.set_pure (t:=to_) hnt.2.1 ⟨rfl,.pv _ rfl⟩
 obtain ⟨logN,GN,eN,gN⟩:=kN b
 have honI:o3[pre.length+1]?=some on:=by
  rw [← Array.getElem?_toList,h3,List.getElem?_append_right (by omega)];simp
 obtain ⟨es,x1,x2,_⟩:=zdI (P:=P) (c:=c) (obs:=[]) [on] (p:=pre++[oc]) (rest:=[]) (by rw [h3];simp) (by rw [List.length_append];exact eN) trivial
 have hes:[pre.length+1]=es.map (·.i)++[]:=by rw [x1,List.length_append];rfl
 rw [hes]
 refine zeN hc.cfg hc.ip (fun _ _ _ _ _ h=>h) hF _ es s4 x2 ?_
 intro own5 a5 w5 s5 t5 df5 c4 c3 c2 c1 c0
 have v0:a5.tmps[0]?=some yv:=(c0 rfl).trans (K2.k0.trans (KB.k0.trans y1))
 have v1:a5.tmps[t1]?=a.tmps[t1]?:=(c1 rfl).trans (K2.k1.trans (KB.k1.trans y5))
 have v2:a5.tmps[tl]?=some s:=(c2 rfl).trans (K2.k2.trans (KB.k2.trans y2))
 have v3:a5.tmps[tn]?=some (.int .i64 (vs.length:Int)):=(c3 rfl).trans (K2.k3.trans (KB.k3.trans y3))
 have v4:a5.tmps[ti]?=some (.int .i64 (i:Int)):=(c4 rfl).trans (K2.k4.trans (KB.k4.trans y4))
 have vd:a5.defers=[]:=df5.trans (df3.trans (df2.trans (dfB.trans yd)))
 have hk5:=(zbz t5).ku hk4 hU
 refine wpIn_cond (show a5.eval (.tmp tq)=.bool (!b) from zdg (zbA (t:=tq) s5 gN)) ?_
 rcases hB with ⟨rfl,hJ4⟩ | ⟨rfl,hS4⟩
 case' inr=>
  refine wpIn_ret ?_
  exact hret a5 w5 vd (hss _ _ hS4 (zbz t5))
 have hJ5:=hst _ _ _ hJ4 (zbz t5)
 refine wpIn_skip ?_
 obtain ⟨logD,GD,eD,gD⟩:=kD i
 refine regK hc hF eD trivial dD (base a5 w5 i s5.size v0 v2 v3 v4 hk5) ?_
 intro own6 a6 w6 s6 t6 df6 K6
 have u4:=zbA (t:=ti) s6 gD
 rw [wrap64 (by omega) (by omega)] at u4
 have u4':a6.tmps[ti]?=some (.int .i64 ((i+1:Nat):Int)):=by rw [u4];congr 2
 refine ⟨⟨i+1,hl,by have:=hst _ _ _ hJ5 (zbz t6);rwa [Nat.add_assoc] at this,(zbz t6).ku hk5 hU,s6.size,K6.k0.trans v0,K6.k2.trans v2,K6.k3.trans v3,u4',K6.k1.trans v1,df6.trans vd⟩,?_⟩
 rw [nmt u4' rfl]
 omega
end
end Go.Ev
set_option linter.unusedVariables false
set_option linter.unusedSimpArgs false
namespace Go.Ev
open Go Go.RowKit
variable {P : Program}
theorem sl_one {own:Own} {w:World} {vs:List Value} {s:Value} (h:RF own w (.sl (vs.map .pv)) s) {i:Nat} {v:Value} (hv:vs[i]?=some v):v.oneCell'=true:=by
 cases h with
 | sl _ a n c ad sz hn hc ha hsz hcell hr=>
   have hx:(vs.map FV.pv)[i]?=some (.pv v):=by rw [List.getElem?_map,hv];rfl
   obtain ⟨u,hu⟩:=hcell i _ 0 (.pv v) hx rfl
   have:=hr i _ 0 (.pv v) u hx rfl hu
   cases this;assumption
section
variable {c : Cfg} {F : Fence} {n : Nat} {Q : Exit → Act → World → Prop} {ops : Array Oper}
theorem yhead (hc:COk P c) (hF:WideF P F) {id:Nat} {tl tn ti:Tmp} {pre rest:List Oper} (hp:ops.toList=pre++rest) {yv lb s:Value} {X:FV} {vs:List Value} (hyc:yv.oneCell'=true) (ht:tl < c.nt)
 (kA:∃ log G',evOps (CallE P) c ops false pre 0 [] [(1,.f (.pv yv)),(4,.fp X 0)] []=some ([],log,G')∧get G' (tb tl)=some (.f (.pv s)))
 (kR:∃ log G',evOps (CallE P) c ops false rest pre.length [] [(tb tl,.f (.sl (vs.map .pv)))] []=some ([],log,G')∧get G' (tb tn)=some (.f (.pv (.int .i64 (vs.length:Int))))∧get G' (tb ti)=some (.f (.pv (.int .i64 0))))
 (d1:nod [0,1,1,1,1] ops.toList=true) (d2:nod [tl] rest=true)
 {own:Own} {w0:World} (hlt0:∀ k o,own k=some o→k < w0.heap.size) (hX:RC own w0 (.fp X 0) lb) (hsl:RF own w0 (.sl (vs.map .pv)) s)
 {a:Act} {W:World} (z0:a.tmps.size=c.nt) (z1:a.tmps[0]?=some yv) (z2:a.tmps[1]?=some lb) (zd:a.defers=[]) (hK:KU (fun k=>k < w0.heap.size∧(own k=none∨∃ o,own k=some (.al o))) w0 W)
 (hq:∀ a' W',a'.tmps.size=c.nt→a'.tmps[0]?=some yv→a'.tmps[1]?=some lb→a'.tmps[tl]?=some s→a'.tmps[tn]?=some (.int .i64 (vs.length:Int))→a'.tmps[ti]?=some (.int .i64 0)→a'.defers=[]→Grow W W'→KU (fun k=>k < w0.heap.size∧(own k=none∨∃ o,own k=some (.al o))) w0 W'→Q .normal a' W'):(Code.region id ops false).wpIn F n P Q a W:=by
 have hU:∀ k,(k < w0.heap.size∧(own k=none∨∃ o,own k=some (.al o)))→k < w0.heap.size:=fun k h=>h.1
 refine wpIn_region (zej _ d1 ?_)
 obtain ⟨log,G',e,g⟩:=kA
 have s0:St P c.nt [(1,.f (.pv yv)),(4,.fp X 0)] no a W:=by
  refine zgd z0 fun b v e=>?_
  simp only [get] at e
  split at e
  ·rename_i hb;cases e;exact ⟨0,yv,hb,z1,⟨rfl,.pv _ hyc⟩⟩
  ·split at e
   ·rename_i hb;cases e;exact ⟨1,lb,hb,z2,fp_no (RC.fp_mono (hK.tr hlt0) hX)⟩
   ·cases e
 refine zdq hc hF (pre:=pre) (rest:=rest) hp e trivial s0 ?_
 intro own1 a1 w1 s1 t1 df1
 have p:=zbA (t:=tl) s1 g
 have hk1:=(zbz t1).ku hK hU
 have s1':St P c.nt [(tb tl,.f (.sl (vs.map .pv)))] no a1 w1:=by
  refine zgd s1.size fun b v e=>?_
  simp only [get] at e
  split at e
  ·rename_i hb;cases e;exact ⟨tl,s,hb,p,⟨rfl,(hsl.mono (hk1.tr hlt0)).to_no⟩⟩
  ·cases e
 obtain ⟨log2,G2,e2,g2,g3⟩:=kR
 obtain ⟨es,x1,x2,_⟩:=zdI (P:=P) (c:=c) (obs:=[]) rest (p:=pre) (rest:=[]) (by rw [hp];simp) e2 trivial
 refine za2 (t:=tl) _ (fun i hi o ho=>?_) ?_
 ·have hi':=List.mem_range'.1 hi
  obtain ⟨j,hj,rfl⟩:=hi'
  rw [Nat.one_mul,← Array.getElem?_toList,hp,List.getElem?_append_right (by omega),Nat.add_sub_cancel_left] at ho
  have:=List.all_eq_true.1 (List.all_eq_true.1 d2 o (List.mem_of_getElem? ho)) tl (by simp)
  simpa using this
 have hes:List.range' pre.length rest.length=es.map (·.i)++[]:=by rw [x1,List.append_nil]
 rw [hes]
 refine zeN hc.cfg hc.ip (fun _ _ _ _ _ h=>h) hF _ es s1' x2 ?_
 intro own2 a2 w2 s2 t2 df2 cl c4 c3 c2 c1 c0
 exact hq a2 w2 s2.size ((c0 rfl).trans z1) ((c1 rfl).trans z2) ((cl rfl).trans p) (zbA (t:=tn) s2 g2) (zbA (t:=ti) s2 g3) (df2.trans (df1.trans zd))
  ⟨Nat.le_trans (zbz t1).size (zbz t2).size,fun k hk=>((zbz t2).keep k (Nat.lt_of_lt_of_le hk (zbz t1).size)).trans ((zbz t1).keep k hk),(zbz t2).os.trans (zbz t1).os,(zbz t2).tape.trans (zbz t1).tape,(zbz t2).output.trans (zbz t1).output⟩ ((zbz t2).ku hk1 hU)
end
end Go.Ev
set_option linter.unusedVariables false
set_option linter.unusedSimpArgs false
namespace Go.Ev
open Go Go.Proofs Go.RowKit
set_option maxRecDepth 8000
set_option maxHeartbeats 8000000 in
theorem lists_it (A:zl) (hl1:(A.Follow.length:Int)≤9223372036854775807) (hl2:(A.Starts.length:Int)≤9223372036854775807) :
 ItOk Tryz.prog 92 (.fp (zbk A) 0) (A.Follow.length+A.Starts.length) (fun i=>[zg ((A.Follow++A.Starts).getD i [])]):=by
 intro own w0 lb hlb hone hlt0
 refine ⟨⟨_,Tryz.func92,by rfl,by rfl⟩,?_⟩
 intro F n lp J S W hF hro hku hst hss hyield hJ
 have kk:=cfOk [] 31
 obtain ⟨k,o,q1,q2,q3,q4⟩:=hlb
 obtain ⟨v0,e0,r0⟩:=q4 0 _ rfl
 obtain ⟨v1,e1,r1⟩:=q4 1 _ rfl
 obtain ⟨s1,e2,r2⟩:=q4 2 _ rfl
 obtain ⟨v3,e3,r3⟩:=q4 3 _ rfl
 obtain ⟨s2,e4,r4⟩:=q4 4 _ rfl
 obtain ⟨f1,hf1,hr1,hx1⟩:=zfv (P:=Tryz.prog) (enc:=zg) (sz:=1) (agg:=false) (fun x=>by rfl) (fun x=>by rfl) (fun _=>rfl) r2
 obtain ⟨f2,hf2,hr2,hx2⟩:=zfv (P:=Tryz.prog) (enc:=zg) (sz:=1) (agg:=false) (fun x=>by rfl) (fun x=>by rfl) (fun _=>rfl) r4
 obtain ⟨z1,hz1⟩:∃ z1,z1=f1.map fun f=>f 0:=⟨_,rfl⟩
 obtain ⟨z2,hz2⟩:∃ z2,z2=f2.map fun f=>f 0:=⟨_,rfl⟩
 have hm1:f1.map (encX false 1)=z1.map .pv:=by rw [hz1,List.map_map];rfl
 have hm2:f2.map (encX false 1)=z2.map .pv:=by rw [hz2,List.map_map];rfl
 rw [hm1] at hr1
 rw [hm2] at hr2
 have hn1:z1.length=A.Follow.length:=by rw [hz1,List.length_map,hf1]
 have hn2:z2.length=A.Starts.length:=by rw [hz2,List.length_map,hf2]
 have c0:v0.oneCell'=true:=zhH r0 rfl
 have c1:v1.oneCell'=true:=zhH r1 rfl
 have c2:s1.oneCell'=true:=zhH r2 rfl
 have c3:v3.oneCell'=true:=zhH r3 rfl
 have c4:s2.oneCell'=true:=zhH r4 rfl
 have hX:RC own w0 (.fp (.agg [.pv v0,.pv v1,.pv s1,.pv v3,.pv s2]) 0) lb:=by
  refine ⟨k,o,q1,q2,q3,fun j y hy=>?_⟩
  match j,hy with
  | 0,hy=>cases hy;exact ⟨v0,e0,.pv _ c0⟩
  | 1,hy=>cases hy;exact ⟨v1,e1,.pv _ c1⟩
  | 2,hy=>cases hy;exact ⟨s1,e2,.pv _ c2⟩
  | 3,hy=>cases hy;exact ⟨v3,e3,.pv _ c3⟩
  | 4,hy=>cases hy;exact ⟨s2,e4,.pv _ c4⟩
  | j+5,hy=>cases hy
 obtain ⟨yv,hyv⟩:∃ yv,yv=Value.func (.yield lp) #[] #[]:=⟨_,rfl⟩
 rw [← hyv]
 have hyc:yv.oneCell'=true:=by rw [hyv];rfl
 have hU:∀ k,(k < w0.heap.size∧(own k=none∨∃ o,own k=some (.al o)))→k < w0.heap.size:=fun k h=>h.1
 have hval:∀ (x:List Int) (f:Nat→Value) (b:Bool),(f 0).oneCell'=true→(∀ u own' w' b,RL Tryz.prog [] own' w' b (asAV (encX false 1 f)) u→RF own w0 (zg x) u)→RF own w0 (zg x) (f 0):=fun x f _ h1 h2=>h2 (f 0) own w0 0 ⟨rfl,.pv _ h1⟩
 have hok:∀ (i:Nat) (v u:Value),(∃ (x:List Int) (f:Nat→Value),(A.Follow++A.Starts)[i]?=some x∧v=f 0∧RF own w0 (zg x) (f 0))→u=v→okAr own w0 (fun i=>[zg ((A.Follow++A.Starts).getD i [])]) i #[u]:=by
  rintro i v u ⟨x,f,h1,rfl,h2⟩ rfl
  refine ⟨[f 0],rfl,rfl,fun j y u e1 e2=>?_⟩
  dsimp only at e1
  rw [List.getD_eq_getElem?_getD,h1] at e1
  match j,e1,e2 with
  | 0,e1,e2=>cases e1;cases e2;exact h2
  | j+1,e1,e2=>cases e1
 have ok1:∀ (i:Nat) (v u:Value),z1[i]?=some v→u=v→okAr own w0 (fun i=>[zg ((A.Follow++A.Starts).getD i [])]) (0+i) #[u]:=by
  intro i v u hv hu
  have hone':=sl_one hr1 hv
  have hi:i < A.Follow.length:=by have:=(List.getElem?_eq_some_iff.1 hv).1;omega
  rw [hz1,List.getElem?_map] at hv
  obtain ⟨f,hf,rfl⟩:∃ f,f1[i]?=some f∧f 0=v:=by
   cases hf:f1[i]? with
   | none=>rw [hf] at hv;cases hv
   | some f=>rw [hf] at hv;exact ⟨f,rfl,by simpa using hv⟩
  refine hok (0+i) _ u ⟨A.Follow[i],f,by rw [Nat.zero_add,List.getElem?_append_left hi];simp,rfl,hval _ f true hone' (hx1 i _ f (by simp) hf)⟩ hu
 have ok2:∀ (i:Nat) (v u:Value),z2[i]?=some v→u=v→okAr own w0 (fun i=>[zg ((A.Follow++A.Starts).getD i [])]) (A.Follow.length+i) #[u]:=by
  intro i v u hv hu
  have hone':=sl_one hr2 hv
  have hi:i < A.Starts.length:=by have:=(List.getElem?_eq_some_iff.1 hv).1;omega
  rw [hz2,List.getElem?_map] at hv
  obtain ⟨f,hf,rfl⟩:∃ f,f2[i]?=some f∧f 0=v:=by
   cases hf:f2[i]? with
   | none=>rw [hf] at hv;cases hv
   | some f=>rw [hf] at hv;exact ⟨f,rfl,by simpa using hv⟩
  refine hok _ _ u ⟨A.Starts[i],f,by rw [List.getElem?_append_right (by omega),Nat.add_sub_cancel_left];simp,rfl,hval _ f true hone' (hx2 i _ f (by simp) hf)⟩ hu
 refine callsIn_of_wp_marks Tryz.func92 (by rfl) (hF.fn _) ?_ hro
 have hpost:∀ (a:Act) (w:World),a.defers=[]→(J (A.Follow.length+A.Starts.length) w∨S w)→LeavesInM F n Tryz.prog Tryz.f92 a.tmps (fun e W'=>(∃ v,e=.returned v)∧(J (A.Follow.length+A.Starts.length) W'∨S W')) a.defers .returning w:=by
  intro a w hd hJ
  rw [hd]
  exact ⟨.tuple #[],by simp [results,Tryz.f92,go_sem],⟨_,rfl⟩,hJ⟩
 obtain ⟨tm,htm⟩:∃ tm:Array Value,tm=(#[yv]++#[lb])++Array.replicate (Tryz.f92.ntmps - (#[yv]++#[lb]).size) undef:=⟨_,rfl⟩
 have hnt:Tryz.f92.ntmps=31:=by rfl
 have hs0:tm.size=(cf [] 31).nt:=by rw [htm,show (cf [] 31).nt=31 from rfl];simp [hnt]
 have ht0:tm[0]?=some yv:=by rw [htm];exact (Array.getElem?_append_left (by simp)).trans rfl
 have ht1:tm[1]?=some lb:=by rw [htm];exact (Array.getElem?_append_left (by simp)).trans rfl
 show (Code.seq (.seq (sq1 (sq1 (bodyOf Tryz.f92))) (sq2 (sq1 (bodyOf Tryz.f92)))) (.seq (sq1 (sq2 (bodyOf Tryz.f92))) (sq2 (sq2 (bodyOf Tryz.f92))))).wpIn _ _ _ _ _ _
 rw [← htm]
 refine wpIn_seq (wpIn_seq ?_)
 refine yhead (P:=Tryz.prog) (pre:=(opsOf (sq1 (sq1 (bodyOf Tryz.f92)))).take 2) (rest:=(opsOf (sq1 (sq1 (bodyOf Tryz.f92)))).drop 2) (tl:=8) (tn:=9) (ti:=10) (vs:=z1) (s:=s1) (X:=.agg [.pv v0,.pv v1,.pv s1,.pv v3,.pv s2]) (own:=own) (w0:=w0) kk hF (by rfl) hyc (by decide)
  ⟨[],[(1,.f (.pv yv)),(4,.fp (.agg [.pv v0,.pv v1,.pv s1,.pv v3,.pv s2]) 0),(22,.fp (.agg [.pv v0,.pv v1,.pv s1,.pv v3,.pv s2]) 2),(25,.f (.pv s1))],by kernel_rfl,by rfl⟩
  ⟨[],[(25,.f (.sl (z1.map .pv))),(28,vi ((z1.map FV.pv).length:Int)),(31,vi 0)],by kernel_rfl,by rw [List.length_map];rfl,by rfl⟩ (by rfl) (by rfl) hlt0 hX hr1 (a:={ tmps:=tm,defers:=[] }) hs0 ht0 ht1 rfl hku ?_
 intro a1 w1 y0 y1 y2 y3 y4 y5 yd yg yk
 show (sq2 (sq1 (bodyOf Tryz.f92))).wpIn _ _ _ _ _ _
 refine yloop (P:=Tryz.prog) (t1:=1) (tl:=8) (tn:=9) (ti:=10) (tc:=11) (te:=4) (ty:=14) (tx:=15) (to_:=16) (tq:=17) (yv:=yv) (s:=s1) (vs:=z1) (own:=own) (w0:=w0) (lp:=lp) (J:=J) (S:=S) (ok:=okAr own w0 (fun i=>[zg ((A.Follow++A.Starts).getD i [])])) (M:=A.Follow.length+A.Starts.length) (k0:=0)
  kk hF (by decide) (by rfl) hyc (by omega) (by rfl) (by rfl) (by rfl) (by rfl) (pre:=(opsOf (sq1 (sq2 (sq1 (sq1 (sq2 (sq2 (sq1 (sq1 (sq2 (sq1 (bodyOf Tryz.f92)))))))))))).take 2) (by rfl) (by rfl) (by rfl) (by rfl) (by decide)
  (fun i=>⟨[],[(1,.f (.pv yv)),(25,.f (.sl (z1.map .pv))),(28,vi z1.length),(31,vi i),(34,vB (decide ((i:Int) < (z1.length:Int))))],by kernel_rfl,by rfl⟩)
  (fun i v=>⟨[],[(1,.f (.pv yv)),(13,.f (.pv v)),(25,.f (.sl (z1.map .pv))),(28,vi z1.length),(31,vi i),(37,.fp (.pv v) 0),(40,.f (.pv v))],by kernel_rfl,by rfl⟩)
  (fun v=>⟨[],[(1,.f (.pv yv)),(13,.f (.pv v)),(43,.f (.pv yv)),(46,.f (.pv v))],by kernel_rfl,by rfl,by rfl⟩)
  (fun b=>⟨[],[(49,vB b),(52,vB (!b))],by kernel_rfl,by rfl⟩)
  (fun i=>⟨[],[(1,.f (.pv yv)),(25,.f (.sl (z1.map .pv))),(28,vi z1.length),(31,vi (w64 ((i:Int)+1))),(55,vi (w64 ((i:Int)+1)))],by kernel_rfl,by rfl⟩)
  (by decide) hlt0 hyv hst hss hyield (by omega) ok1 hr1 y0 y1 y3 y4 y5 yd (hst _ _ _ hJ yg) yk ?_ (fun a' W' h1 h2=>hpost a' W' h1 (.inr h2))
 intro a2 w2 x0 x1 x2 xd xJ xk
 show (Code.seq _ _).wpIn _ _ _ _ _ _
 refine wpIn_seq ?_
 refine yhead (P:=Tryz.prog) (pre:=(opsOf (sq1 (sq2 (bodyOf Tryz.f92)))).take 2) (rest:=(opsOf (sq1 (sq2 (bodyOf Tryz.f92)))).drop 2) (tl:=20) (tn:=21) (ti:=22) (vs:=z2) (s:=s2) (X:=.agg [.pv v0,.pv v1,.pv s1,.pv v3,.pv s2]) (own:=own) (w0:=w0) kk hF (by rfl) hyc (by decide)
  ⟨[],[(1,.f (.pv yv)),(4,.fp (.agg [.pv v0,.pv v1,.pv s1,.pv v3,.pv s2]) 0),(58,.fp (.agg [.pv v0,.pv v1,.pv s1,.pv v3,.pv s2]) 4),(61,.f (.pv s2))],by kernel_rfl,by rfl⟩
  ⟨[],[(61,.f (.sl (z2.map .pv))),(64,vi ((z2.map FV.pv).length:Int)),(67,vi 0)],by kernel_rfl,by rw [List.length_map];rfl,by rfl⟩ (by rfl) (by rfl) hlt0 hX hr2 x0 x1 (x2.trans y2) xd xk ?_
 intro a3 w3 u0 u1 u2 u3 u4 u5 ud ug uk
 show (sq2 (sq2 (bodyOf Tryz.f92))).wpIn _ _ _ _ _ _
 refine yloop (P:=Tryz.prog) (t1:=1) (tl:=20) (tn:=21) (ti:=22) (tc:=23) (te:=6) (ty:=26) (tx:=27) (to_:=28) (tq:=29) (yv:=yv) (s:=s2) (vs:=z2) (own:=own) (w0:=w0) (lp:=lp) (J:=J) (S:=S) (ok:=okAr own w0 (fun i=>[zg ((A.Follow++A.Starts).getD i [])])) (M:=A.Follow.length+A.Starts.length) (k0:=A.Follow.length)
  kk hF (by decide) (by rfl) hyc (by omega) (by rfl) (by rfl) (by rfl) (by rfl) (pre:=(opsOf (sq1 (sq2 (sq1 (sq1 (sq2 (sq2 (sq1 (sq1 (sq2 (sq2 (bodyOf Tryz.f92)))))))))))).take 2) (by rfl) (by rfl) (by rfl) (by rfl) (by decide)
  (fun i=>⟨[],[(1,.f (.pv yv)),(61,.f (.sl (z2.map .pv))),(64,vi z2.length),(67,vi i),(70,vB (decide ((i:Int) < (z2.length:Int))))],by kernel_rfl,by rfl⟩)
  (fun i v=>⟨[],[(1,.f (.pv yv)),(19,.f (.pv v)),(61,.f (.sl (z2.map .pv))),(64,vi z2.length),(67,vi i),(73,.fp (.pv v) 0),(76,.f (.pv v))],by kernel_rfl,by rfl⟩)
  (fun v=>⟨[],[(1,.f (.pv yv)),(19,.f (.pv v)),(79,.f (.pv yv)),(82,.f (.pv v))],by kernel_rfl,by rfl,by rfl⟩)
  (fun b=>⟨[],[(85,vB b),(88,vB (!b))],by kernel_rfl,by rfl⟩)
  (fun i=>⟨[],[(1,.f (.pv yv)),(61,.f (.sl (z2.map .pv))),(64,vi z2.length),(67,vi (w64 ((i:Int)+1))),(91,vi (w64 ((i:Int)+1)))],by kernel_rfl,by rfl⟩)
  (by decide) hlt0 hyv hst hss hyield (by omega) ok2 hr2 u0 u1 u3 u4 u5 ud (hst _ _ _ (by rw [Nat.zero_add,hn1] at xJ;exact xJ) ug) uk ?_ (fun a' W' h1 h2=>hpost a' W' h1 (.inr h2))
 intro a4 w4 _ _ _ xd4 xJ4 _
 exact hpost a4 w4 xd4 (.inl (by rw [hn2] at xJ4;exact xJ4))
theorem auto_lists_ok (A:zl):CallE Tryz.prog 54 [.agg [.f (fL zf A.Sets),.f (fL zc A.Owner),.f (fL zg A.Follow),.f (fL zw A.Ends),.f (fL zg A.Starts)]] [] (.clo 92 [.fp (zbk A) 0]) []:=by
 refine zdY (x:=bodyOf Tryz.f54) (cfOk [] 4) Tryz.func54 (by rfl) (by rfl) (by rfl) (Nat.le_of_ble_eq_true rfl) (by rfl) (by rfl) (Nat.le_of_ble_eq_true rfl) ?_
 refine wkS [1] [(1,.agg [.f (fL zf A.Sets),.f (fL zc A.Owner),.f (fL zg A.Follow),.f (fL zw A.Ends),.f (fL zg A.Starts)])] (by kernel_rfl) ?_
 refine sR (cfOk [] 4) [] [4,8] [(4,.ptr 8 0),(8,.agg [.f (fL zf A.Sets),.f (fL zc A.Owner),.f (fL zg A.Follow),.f (fL zw A.Ends),.f (fL zg A.Starts)])] (obs:=[]) (by kernel_rfl) (by kernel_rfl) obN ?_
 refine sR (cfOk [] 4) [] [7,8] [(7,.clo 92 [.ptr 8 0]),(8,.agg [.f (fL zf A.Sets),.f (fL zc A.Owner),.f (fL zg A.Follow),.f (fL zw A.Ends),.f (fL zg A.Starts)])] (obs:=[]) (by kernel_rfl) (by kernel_rfl) obN ?_
 refine Sem.ret' (by kernel_rfl) Wk.refl ?_
 refine ⟨_,Wk.fpz (b:=8) (x:=zbk A) (by rfl) (by rfl) (by rfl),?_⟩
 exact (zdV (x:=.clo 92 [.fp (zbk A) 0]) (l:=[]) (by kernel_rfl) ⟨rfl,rfl⟩).1
def C_auto_lists (A:zl):Prop:=CallE Tryz.prog 54 [.agg [.f (fL zf A.Sets),.f (fL zc A.Owner),.f (fL zg A.Follow),.f (fL zw A.Ends),.f (fL zg A.Starts)]] [] (.clo 92 [.fp (zbk A) 0]) []
theorem lists_it2 (A:zl) (h:A.Follow.length < 1099511627776∧A.Starts.length < 1099511627776):ItOk Tryz.prog 92 (.fp (zbk A) 0) (A.Follow.length+A.Starts.length) (fun i=>[zg ((A.Follow++A.Starts).getD i [])]):=
 lists_it A (by omega) (by omega)
end Go.Ev
set_option linter.unusedSimpArgs false
set_option linter.unusedVariables false
namespace Go.Ev
open Go Go.Proofs
set_option maxRecDepth 8000
def zbQ (r0:Bool):Prop:=CallE Tryz.prog 14 [] [] (vB r0) []
def zbG (a0:zu) (a1:Int) (r0:Bool):Prop:=CallE Tryz.prog 77 [zaQ a0,vi a1] [] (vB r0) []
def zbK (a0:zu) (a1:Int) (r0:Bool):Prop:=CallE Tryz.prog 78 [zaQ a0,vi a1] [] (vB r0) []
def zbP (a0:ze) (r0:Bool):Prop:=CallE Tryz.prog 113 [zC a0] [] (vB r0) []
def zby (a0:zk) (r0:Bool):Prop:=CallE Tryz.prog 140 [zE a0] [] (vB r0) []
def zbL (a0:zk) (r0:Bool):Prop:=CallE Tryz.prog 123 [zE a0] [] (vB r0) []
def za9 (a0:ze) (o0:zk) (o1:Int) (r0:Bool) (o0':zk) (o1':Int):Prop:=CallE Tryz.prog 122 [zC a0,.ptr 3 0,.ptr 6 0] [zE o0,vi o1] (vB r0) [zE o0',vi o1']
def zM (a0:(List ze)) (o0:zk) (o1:Int) (r0:Int) (o0':zk) (o1':Int):Prop:=CallE Tryz.prog 141 [vL zn a0,.clo 122 [.ptr 3 0,.ptr 6 0]] [zE o0,vi o1] (vi r0) [zE o0',vi o1']
def zK (a0:(List ze)) (o0:zk) (o1:Int) (r0:Bool) (o0':zk) (o1':Int):Prop:=CallE Tryz.prog 124 [vL zn a0,.clo 122 [.ptr 3 0,.ptr 6 0]] [zE o0,vi o1] (vB r0) [zE o0',vi o1']
def zaB (a0:zk) (a1:Int) (r0:Bool):Prop:=CallE Tryz.prog 98 [zE a0,vi a1] [] (vB r0) []
def zc2 (a0:ze) (r0:Int):Prop:=CallE Tryz.prog 99 [zC a0] [] (vi r0) []
def zc1 (a0:ze) (a1:Int) (r0:Int):Prop:=CallE Tryz.prog 100 [zC a0,vi a1] [] (vi r0) []
def zcx (a0:ze) (r0:Bool):Prop:=CallE Tryz.prog 64 [zC a0] [] (vB r0) []
def zbp (a0:zu) (r0:Bool):Prop:=CallE Tryz.prog 79 [zaQ a0] [] (vB r0) []
def zhu (a0:ByteArray) (r0:Bool):Prop:=CallE Tryz.prog 75 [vS a0] [] (vB r0) []
def zb5 (a0:zj) (o0:Int) (r0:Bool) (o0':Int):Prop:=CallE Tryz.prog 76 [zak a0,.ptr 3 0] [vi o0] (vB r0) [vi o0']
def zW (a0:(List zj)) (o0:Int) (r0:Int) (o0':Int):Prop:=CallE Tryz.prog 114 [vL zy a0,.clo 76 [.ptr 3 0]] [vi o0] (vi r0) [vi o0']
def zL (a0:(List zj)) (o0:Int) (r0:Bool) (o0':Int):Prop:=CallE Tryz.prog 80 [vL zy a0,.clo 76 [.ptr 3 0]] [vi o0] (vB r0) [vi o0']
def zck (a0:zh) (r0:Bool):Prop:=CallE Tryz.prog 41 [zG a0] [] (vB r0) []
def zbC (a1:zb) (o0:zm) (r0:zi) (o0':zm):Prop:=CallE Tryz.prog 143 [.ptr 3 0,zV a1] [zt o0] (zD r0) [zt o0']
def zal (a0:(List (List Int))) (r0:(List Int)):Prop:=CallE Tryz.prog 94 [vL zg a0] [] (oL 3 zc r0) []
def zah (a0:(List Int)) (a1:(List Int)) (r0:(List Int)):Prop:=CallE Tryz.prog 82 [vL zc a0,vL zc a1] [] (vL zc r0) []
def zaW (a1:(List Int)) (a2:(List Int)) (o0:zm) (o0':zm):Prop:=CallE Tryz.prog 159 [.ptr 3 0,vL zc a1,vL zc a2] [zt o0] (.tup []) [zt o0']
def zaK (a1:zi) (a2:zi) (o0:zm) (r0:zi) (o0':zm):Prop:=CallE Tryz.prog 144 [.ptr 3 0,zD a1,zD a2] [zt o0] (zD r0) [zt o0']
def zar (a1:ze) (a2:Int) (o0:zm) (r0:(List zi)) (o0':zm):Prop:=CallE Tryz.prog 160 [.ptr 3 0,zC a1,vi a2] [zt o0] (oL 158 zA r0) [zt o0']
def zcu (a0:zi) (r0:zi):Prop:=CallE Tryz.prog 162 [zD a0] [] (zD r0) []
def zbq (a1:ze) (o0:zm) (r0:zi) (o0':zm):Prop:=CallE Tryz.prog 145 [.ptr 3 0,zC a1] [zt o0] (zD r0) [zt o0']
def zam (a1:ze) (o0:zm) (r0:zi) (o0':zm):Prop:=CallE Tryz.prog 126 [.ptr 3 0,zC a1] [zt o0] (zD r0) [zt o0']
def zd0 (a0:ze) (r0:za) (r1:Int):Prop:=CallE Tryz.prog 102 [zC a0] [] (.tup [zq r0,vi r1]) []
def zbT (a0:(List Int)) (a1:Int) (r0:(List Int)):Prop:=CallE Tryz.prog 115 [vL zc a0,vi a1] [] (oL 3 zc r0) []
def zbc (a1:ze) (a2:Int) (o0:zp) (r0:(List Int)) (r1:(List Int)) (r2:Bool) (o0':zp):Prop:=CallE Tryz.prog 81 [.ptr 3 0,zC a1,vi a2] [zZ o0] (.tup [vL zc r0,vL zc r1,vB r2]) [zZ o0']
def zbt (a1:zj) (a2:Int) (o0:zp) (r0:(List Int)) (o0':zp):Prop:=CallE Tryz.prog 42 [.ptr 3 0,zak a1,vi a2] [zZ o0] (vL zc r0) [zZ o0']
def zaZ (a0:(List Int)) (a1:Int) (r0:Int):Prop:=CallE Tryz.prog 127 [vL zc a0,vi a1] [] (vi r0) []
def zaE (a0:(List Int)) (a1:Int) (r0:Bool):Prop:=CallE Tryz.prog 104 [vL zc a0,vi a1] [] (vB r0) []
def zct (a0:zh) (a1:Int) (a2:Int) (r0:Bool):Prop:=CallE Tryz.prog 83 [zG a0,vi a1,vi a2] [] (vB r0) []
def zcN (a0:zh) (a1:(List (List Int))) (a2:Int) (a3:Bool) (r0:(List Int)):Prop:=CallE Tryz.prog 43 [zG a0,vL zg a1,vi a2,vB a3] [] (vL zc r0) []
def zbU (a0:zh) (r0:zl) (r1:Int):Prop:=CallE Tryz.prog 15 [zG a0] [] (.tup [zbo r0,vi r1]) []
def zcM (a0:ByteArray) (r0:Bool):Prop:=CallE Tryz.prog 84 [vS a0] [] (vB r0) []
def zaT (a0:ze) (r0:Bool):Prop:=CallE Tryz.prog 118 [zC a0] [] (vB r0) []
def zaM (a0:ze) (a1:Int) (r0:Bool):Prop:=CallE Tryz.prog 108 [zC a0,vi a1] [] (vB r0) []
def zba (a0:ze) (r0:Int):Prop:=CallE Tryz.prog 26 [zC a0] [] (vi r0) []
def zaO (a0:ze) (a1:Int) (r0:Int):Prop:=CallE Tryz.prog 38 [zC a0,vi a1] [] (vi r0) []
def zaN (a0:ze) (r0:Bool):Prop:=CallE Tryz.prog 71 [zC a0] [] (vB r0) []
def zaS (a0:zj) (a1:Int) (r0:Bool):Prop:=CallE Tryz.prog 85 [zak a0,vi a1] [] (vB r0) []
def za5 (a0:zh) (r0:Bool):Prop:=CallE Tryz.prog 44 [zG a0] [] (vB r0) []
def zaL (r0:za):Prop:=CallE Tryz.prog 130 [] [] (za8 r0) []
def zan (a0:(List Int)) (a1:Int) (r0:(List Int)):Prop:=CallE Tryz.prog 147 [vL zc a0,vi a1] [] (oL 3 zc r0) []
def zap (a0:za) (a1:za) (r0:za):Prop:=CallE Tryz.prog 146 [zq a0,zq a1] [] (.agg [vL zf (za.Sets r0),oL 3 zc (za.First r0),oL 3 zc (za.Last r0),oL 40 zg (za.Follow r0),vB (za.Null r0)]) []
def zF (a0:(List Int)) (a1:(List Int)) (r0:(List Int)):Prop:=CallE Tryz.prog 47 [vL zc a0,vL zc a1] [] (vL zc r0) []
def zU (a0:za) (a1:za) (r0:za):Prop:=CallE Tryz.prog 131 [zq a0,zq a1] [] (.agg [vL zf (za.Sets r0),vL zc (za.First r0),vL zc (za.Last r0),oL 40 zg (za.Follow r0),vB (za.Null r0)]) []
def zbI (a0:za) (a1:za) (r0:za):Prop:=CallE Tryz.prog 132 [zq a0,zq a1] [] (.agg [vL zf (za.Sets r0),vL zc (za.First r0),vL zc (za.Last r0),oL 40 zg (za.Follow r0),vB (za.Null r0)]) []
def zbs (a0:za) (r0:za):Prop:=CallE Tryz.prog 133 [zq a0] [] (.agg [vL zf (za.Sets r0),vL zc (za.First r0),vL zc (za.Last r0),oL 40 zg (za.Follow r0),vB (za.Null r0)]) []
def zae (a0:za) (r0:za):Prop:=CallE Tryz.prog 134 [zq a0] [] (zq r0) []
def zaC (a0:ze) (r0:za):Prop:=CallE Tryz.prog 109 [zC a0] [] (zq r0) []
def zbv (a0:ze) (r0:za) (r1:Int):Prop:=CallE Tryz.prog 73 [zC a0] [] (.tup [zq r0,vi r1]) []
def z8 (a0:(List Int)) (a1:Int) (r0:(List Int)):Prop:=CallE Tryz.prog 87 [vL zc a0,vi a1] [] (oL 3 zc r0) []
def zbf (a1:za) (a2:Int) (o0:zl) (o0':zl):Prop:=CallE Tryz.prog 86 [.ptr 3 0,zq a1,vi a2] [zaH o0] (.tup []) [zaH o0']
def zbH (a1:zj) (a2:Int) (o0:zl) (r0:(List Int)) (o0':zl):Prop:=CallE Tryz.prog 45 [.ptr 3 0,zak a1,vi a2] [zaH o0] (oL 3 zc r0) [zaH o0']
def zaX (a0:zh) (a1:Int) (a2:Int) (r0:Bool):Prop:=CallE Tryz.prog 46 [zG a0,vi a1,vi a2] [] (vB r0) []
def zbr (a0:zh) (r0:zl) (r1:Int):Prop:=CallE Tryz.prog 16 [zG a0] [] (.tup [zbo r0,vi r1]) []
def zcF (a0:Int) (r0:Bool):Prop:=CallE Tryz.prog 51 [vi a0] [] (vB r0) []
def zaJ (a0:(List zb)) (a1:zb) (r0:Int):Prop:=CallE Tryz.prog 91 [vL zf a0,zV a1] [] (vi r0) []
def zai (a0:(List zb)) (a1:zb) (r0:Bool):Prop:=CallE Tryz.prog 53 [vL zf a0,zV a1] [] (vB r0) []
def zcv (a0:(List Int)) (a1:Int) (r0:Bool):Prop:=CallE Tryz.prog 55 [vL zc a0,vi a1] [] (vB r0) []
def zac (a0:(List Int)) (r0:Int):Prop:=CallE Tryz.prog 90 [vL zc a0,.clo 51 []] [] (vi r0) []
def zS (a0:(List Int)) (r0:Bool):Prop:=CallE Tryz.prog 52 [vL zc a0,.clo 51 []] [] (vB r0) []
def zdO (a0:zl) (r0:Bool):Prop:=CallE Tryz.prog 19 [zbo a0] [] (vB r0) []
def zcf (a0:zb) (a1:Int) (r0:zb):Prop:=CallE Tryz.prog 95 [zV a0,vi a1] [] (zV r0) []
def zgc (a0:Int) (a1:Int) (r0:zb):Prop:=CallE Tryz.prog 59 [vi a0,vi a1] [] (zV r0) []
def zbb (a0:Int) (r0:ze):Prop:=CallE Tryz.prog 23 [vi a0] [] (zdK r0) []
def zbw (a0:Int) (a1:Int) (r0:Bool):Prop:=CallE Tryz.prog 7 [vI .u8 a0,vI .u8 a1] [] (vB r0) []
end Go.Ev
set_option linter.unusedSimpArgs false
set_option linter.unusedVariables false
namespace Go.Ev
open Go Go.Proofs
set_option maxRecDepth 8000
set_option maxHeartbeats 1000000 in
theorem zfB (r0:zu) (conds:Int) (res:Bool)
 (h:(∃ (Inv14:Int→Prop) (mu15:Int→Nat),Inv14 0∧(∀ (t10:Int),Inv14 t10→(((decide (t10 < (↑(List.length (zu.Conds r0)):Int)))=true→((0:Int)≤t10)∧t10 < ↑(List.length (zu.Conds r0))∧((decide (gd (zu.Conds r0) t10 < (0:Int)))=false→((decide (gd (zu.Conds r0) t10≥conds))=false→((decide (t10 > (0:Int)))=true→((0:Int)≤w64 (t10 - 1)))))∧((decide (gd (zu.Conds r0) t10 < (0:Int)))=false→((decide (gd (zu.Conds r0) t10≥conds))=false→((decide (t10 > (0:Int)))=true→w64 (t10 - 1) < ↑(List.length (zu.Conds r0)))))∧(((decide (gd (zu.Conds r0) t10 < (0:Int)) || (decide (gd (zu.Conds r0) t10≥conds) || decide (t10 > (0:Int)) && decide (gd (zu.Conds r0) t10≤gd (zu.Conds r0) (w64 (t10 - 1)))))=true→(res=false))∧((decide (gd (zu.Conds r0) t10 < (0:Int)) || (decide (gd (zu.Conds r0) t10≥conds) || decide (t10 > (0:Int)) && decide (gd (zu.Conds r0) t10≤gd (zu.Conds r0) (w64 (t10 - 1)))))=false→(Inv14 (w64 (t10+1))∧mu15 (w64 (t10+1)) < mu15 t10))))∧((decide (t10 < (↑(List.length (zu.Conds r0)):Int)))=false→(res=(!zu.All r0 || (↑(List.length (zu.Conds r0)):Int) == 0))))))):zbG r0 conds res:=by
 unfold zbG
 have kk:=cfOk [] 46
 refine fD (x:=bodyOf Tryz.f77) kk Tryz.func77 ?_
 refine wkS [1,4] [(1,zaQ r0),(4,vi conds)] (by kernel_rfl) ?_
 refine sD kk [] [1] [(7,.ptr 14 0),(14,zaQ r0)] obN ?_
 refine qD ?_
 refine sDE kk [] [] [(25,vL zc (zu.Conds r0)),(28,vi ((↑(List.length (List.map zc (zu.Conds r0))):Int))),(31,vi 0)] [(25,vL zc (zu.Conds r0)),(28,vi ((↑(List.length (zu.Conds r0)):Int))),(31,vi 0)] obN ?_
 refine bD (id:=0) ?_
 obtain ⟨Inv14,mu15,h0Inv14,hInv14⟩:=h
 refine loD (fun (q:Int)=>(fun (t10:Int)=>([(4,vi conds),(7,.ptr 14 0),(14,zaQ r0),(25,vL zc (zu.Conds r0)),(28,vi ((↑(List.length (zu.Conds r0)):Int))),(31,vi t10)]:Sta)) q) (fun (q:Int)=>Inv14 q) (fun (q:Int)=>mu15 q) 0 [] h0Inv14 ?_
 rintro t10 hi
 have h:=hInv14 t10 hi
 refine sD kk [] [] [(34,vB (decide (t10 < (↑(List.length (zu.Conds r0)):Int))))] obN ?_
 refine qD ?_
 refine cD (t:=11) (b:=decide (t10 < (↑(List.length (zu.Conds r0)):Int))) (fun hb16=>?_) (fun hb16=>?_)
 ·have h:=h.1 hb16
  refine Sem.skip' (by kernel_rfl) Wk.refl ?_
  show Sem _ _ _ _ _
  refine wkD [34] ?_
  refine qD ?_
  refine bD (id:=1) ?_
  obtain ⟨h17,h⟩:=h
  obtain ⟨h18,h⟩:=h
  refine sD kk [.e (fi (gd (zu.Conds r0) t10))] [] [(16,vi t10),(19,vi (gd (zu.Conds r0) t10))] (obC h17 (obC (zO zc (zu.Conds r0) t10 _ rfl h17 h18) obN)) ?_
  obtain ⟨h22,h23,h⟩:=h
  refine sM [16,19] [(106,vB (decide (gd (zu.Conds r0) t10 < (0:Int)) || (decide (gd (zu.Conds r0) t10≥conds) || decide (t10 > (0:Int)) && decide (gd (zu.Conds r0) t10≤gd (zu.Conds r0) (w64 (t10 - 1))))))] ?_ (fun hk0=>?_)
  ·refine cD (t:=35) (b:=decide (gd (zu.Conds r0) t10 < (0:Int)) || (decide (gd (zu.Conds r0) t10≥conds) || decide (t10 > (0:Int)) && decide (gd (zu.Conds r0) t10≤gd (zu.Conds r0) (w64 (t10 - 1))))) (fun hb24=>?_) (fun hb24=>?_)
   ·have h:=h.1 hb24
    refine sD kk [] [4,7,14,25,28,31,106] [(13,vB false)] obN ?_
    refine tD ?_
    obtain he0:=h
    subst res
    exact (endD [] (vB false) []).1
   ·have h:=h.2 hb24
    refine Sem.skip' (by kernel_rfl) Wk.refl ?_
    show Sem _ _ _ _ _
    refine wkD [106] ?_
    refine rD kk [] [] [(31,vi (w64 (t10+1)))] obN ?_
    exact lD (w64 (t10+1)) [] h
  ·rcases Bool.eq_false_or_eq_true (decide (gd (zu.Conds r0) t10 < (0:Int))) with hb19 | hb19
   ·refine sD kk [bF,bF,bF,bT,bF,bF,bF,bF,bT] [16,19] [(106,vB true)] (obC (gff hb19) (obC (gff hb19) (obC (gff hb19) (obC hb19 (oF (oF (oF (oF (oT obN))))))))) ?_
    exact Sem.cast (by try rw [hb19];kernel_rfl) hk0
   ·rcases Bool.eq_false_or_eq_true (decide (gd (zu.Conds r0) t10≥conds)) with hb20 | hb20
    ·refine sD kk [bT,bT,bT,bF,bF,bF,bF,bF,bT] [16,19] [(106,vB true)] (obC (gft hb19) (obC (gft hb19) (obC (gft hb19) (obC hb19 (obC (gff hb20) (obC (gff hb20) (obC (gff hb20) (obC (gff hb20) (obC hb20 obN))))))))) ?_
     exact Sem.cast (by try rw [hb19];try rw [hb20];kernel_rfl) hk0
    ·rcases Bool.eq_false_or_eq_true (decide (t10 > (0:Int))) with hb21 | hb21
     ·refine sD kk [bT,bT,bT,bF,bT,bT,bT,bT,bT,bT,bT,bT,bT,.e (fi (gd (zu.Conds r0) (w64 (t10 - 1)))),bT,bT,bT,bT,bF] [16,19] [(106,vB (decide (gd (zu.Conds r0) t10≤gd (zu.Conds r0) (w64 (t10 - 1)))))] (obC (gft hb19) (obC (gft hb19) (obC (gft hb19) (obC hb19 (obC (gft hb20) (obC (gft hb20) (obC (gft hb20) (obC (gtt hb21) (obC (gtt hb21) (obC (gtt hb21) (obC (gtt hb21) (obC (gtt hb21) (obC (gtt hb21) (obC (((h22 hb19) hb20) hb21) (obC (zO zc (zu.Conds r0) (w64 (t10 - 1)) _ rfl (((h22 hb19) hb20) hb21) (((h23 hb19) hb20) hb21)) (obC (gtt hb21) (obC (gtt hb21) (obC (gft hb20) (obC hb21 (obC hb20 obN)))))))))))))))))))) ?_
      exact Sem.cast (by try rw [hb19];try rw [hb20];try rw [hb21];kernel_rfl) hk0
     ·refine sD kk [bT,bT,bT,bF,bT,bT,bT,bF,bF,bF,bF,bF,bF,bF,bF,bT,bF,bF] [16,19] [(106,vB false)] (obC (gft hb19) (obC (gft hb19) (obC (gft hb19) (obC hb19 (obC (gft hb20) (obC (gft hb20) (obC (gft hb20) (obC (gtf hb21) (obC (gtf hb21) (obC (gtf hb21) (obC (gtf hb21) (obC (gtf hb21) (obC (gtf hb21) (obC (gtf hb21) (obC (gtf hb21) (obC (gft hb20) (obC hb21 (obC hb20 obN)))))))))))))))))) ?_
      exact Sem.cast (by try rw [hb19];try rw [hb20];try rw [hb21];kernel_rfl) hk0
 ·have h:=h.2 hb16
  refine xD (i:=0) ?_
  show Sem _ _ _ _ _
  refine wkD [4,25,28,31,34] ?_
  refine sM [7,14] [(13,vB (!zu.All r0 || (↑(List.length (zu.Conds r0)):Int) == 0))] ?_ (fun hk0=>?_)
  ·refine tD ?_
   obtain he0:=h
   subst res
   exact (endD [] (vB (!zu.All r0 || (↑(List.length (zu.Conds r0)):Int) == 0)) []).1
  ·rcases Bool.eq_false_or_eq_true (!zu.All r0) with hb25 | hb25
   ·refine sD kk [bF,bF,bF,bF,bT] [7,14] [(13,vB true)] (obC (gff hb25) (obC (gff hb25) (obC (gff hb25) (obC (gff hb25) (obC hb25 obN))))) ?_
    exact Sem.cast (by try rw [hb25];kernel_rfl) hk0
   ·refine sDE kk [bT,bT,bT,bT,bF] [7,14] [(13,vB ((↑(List.length (List.map zc (zu.Conds r0))):Int) == 0))] [(13,vB ((↑(List.length (zu.Conds r0)):Int) == 0))] (obC (gft hb25) (obC (gft hb25) (obC (gft hb25) (obC (gft hb25) (obC hb25 obN))))) ?_
    exact Sem.cast (by try rw [hb25];kernel_rfl) hk0
set_option maxHeartbeats 1000000 in
theorem zf7 (r0:zu) (conds:Int) (res:Bool)
 (h:(((zu.Act r0 == (3:Int))=true→(res=(decide (zu.To r0≥(0:Int)) && decide (zu.To r0 < conds))))∧((zu.Act r0 == (3:Int))=false→(res=(bif zu.Act r0 == 1 then zu.To r0 == 0 else zu.Act r0 == (2:Int) && zu.To r0 == 0))))):zbK r0 conds res:=by
 unfold zbK
 have kk:=cfOk [] 30
 refine fD (x:=bodyOf Tryz.f78) kk Tryz.func78 ?_
 refine wkS [1,4] [(1,zaQ r0),(4,vi conds)] (by kernel_rfl) ?_
 refine sD kk [] [1] [(7,.ptr 14 0),(14,zaQ r0)] obN ?_
 refine qD ?_
 refine sD kk [] [] [(22,vB (zu.Act r0 == (3:Int)))] obN ?_
 refine cD (t:=7) (b:=zu.Act r0 == (3:Int)) (fun hb0=>?_) (fun hb0=>?_)
 ·have h:=h.1 hb0
  refine sM [4,7,14,22] [(13,vB (decide (zu.To r0≥(0:Int)) && decide (zu.To r0 < conds)))] ?_ (fun hk0=>?_)
  ·refine tD ?_
   obtain he0:=h
   subst res
   exact (endD [] (vB (decide (zu.To r0≥(0:Int)) && decide (zu.To r0 < conds))) []).1
  ·rcases Bool.eq_false_or_eq_true (decide (zu.To r0≥(0:Int))) with hb1 | hb1
   ·refine sD kk [bT,bT,bT,bT,bT] [4,7,14,22] [(13,vB (decide (zu.To r0 < conds)))] (obC (gtt hb1) (obC (gtt hb1) (obC (gtt hb1) (obC (gtt hb1) (obC hb1 obN))))) ?_
    exact Sem.cast (by try rw [hb1];kernel_rfl) hk0
   ·refine sD kk [bF,bF,bF,bF,bF] [4,7,14,22] [(13,vB false)] (obC (gtf hb1) (obC (gtf hb1) (obC (gtf hb1) (obC (gtf hb1) (obC hb1 obN))))) ?_
    exact Sem.cast (by try rw [hb1];kernel_rfl) hk0
 ·have h:=h.2 hb0
  refine Sem.skip' (by kernel_rfl) Wk.refl ?_
  show Sem _ _ _ _ _
  refine wkD [4,22] ?_
  refine sM [7,14] [(13,vB (bif zu.Act r0 == 1 then zu.To r0 == 0 else zu.Act r0 == (2:Int) && zu.To r0 == 0))] ?_ (fun hk0=>?_)
  ·refine tD ?_
   obtain he0:=h
   subst res
   exact (endD [] (vB (bif zu.Act r0 == 1 then zu.To r0 == 0 else zu.Act r0 == (2:Int) && zu.To r0 == 0)) []).1
  ·rcases Bool.eq_false_or_eq_true (zu.Act r0 == 1) with hb2 | hb2
   ·refine sD kk [bF,bF,bF,bT,bT,bT,bT,bT] [7,14] [(13,vB (zu.To r0 == 0))] (obC (gff hb2) (obC (gff hb2) (obC (gff hb2) (obC hb2 (oT (oT (oT (oT obN)))))))) ?_
    exact Sem.cast (by try rw [hb2];kernel_rfl) hk0
   ·rcases Bool.eq_false_or_eq_true (zu.Act r0 == (2:Int)) with hb3 | hb3
    ·refine sD kk [bT,bT,bT,bF,bT,bT,bT,bT] [7,14] [(13,vB (zu.To r0 == 0))] (obC (gft hb2) (obC (gft hb2) (obC (gft hb2) (obC hb2 (obC (gtt hb3) (obC (gtt hb3) (obC (gtt hb3) (obC hb3 obN)))))))) ?_
     exact Sem.cast (by try rw [hb2];try rw [hb3];kernel_rfl) hk0
    ·refine sD kk [bT,bT,bT,bF,bF,bF,bF,bF] [7,14] [(13,vB false)] (obC (gft hb2) (obC (gft hb2) (obC (gft hb2) (obC hb2 (obC (gtf hb3) (obC (gtf hb3) (obC (gtf hb3) (obC hb3 obN)))))))) ?_
     exact Sem.cast (by try rw [hb2];try rw [hb3];kernel_rfl) hk0
set_option maxHeartbeats 1000000 in
theorem W_spec_none (x:ze) (res:Bool)
 (h:(res=(ze.Kind x == 0 && (zb.e0 (ze.Set x) == 0 && (zb.e1 (ze.Set x) == 0 && (zb.e2 (ze.Set x) == 0 && (zb.e3 (ze.Set x) == 0 && true))) && (ze.Lo x == 0 && (ze.Hi x == 0 && (↑(List.length (ze.Kids x)):Int) == 0)))))):zbP x res:=by
 unfold zbP
 have kk:=cfOk [] 28
 refine fD (x:=bodyOf Tryz.f113) kk Tryz.func113 ?_
 refine wkS [1] [(1,zC x)] (by kernel_rfl) ?_
 refine sD kk [] [1] [(4,.ptr 8 0),(8,zC x)] obN ?_
 refine sM [4,8] [(7,vB (ze.Kind x == 0 && (zb.e0 (ze.Set x) == 0 && (zb.e1 (ze.Set x) == 0 && (zb.e2 (ze.Set x) == 0 && (zb.e3 (ze.Set x) == 0 && true))) && (ze.Lo x == 0 && (ze.Hi x == 0 && (↑(List.length (ze.Kids x)):Int) == 0)))))] ?_ (fun hk0=>?_)
 ·refine tD ?_
  obtain he0:=h
  subst res
  exact (endD [] (vB (ze.Kind x == 0 && (zb.e0 (ze.Set x) == 0 && (zb.e1 (ze.Set x) == 0 && (zb.e2 (ze.Set x) == 0 && (zb.e3 (ze.Set x) == 0 && true))) && (ze.Lo x == 0 && (ze.Hi x == 0 && (↑(List.length (ze.Kids x)):Int) == 0))))) []).1
 ·rcases Bool.eq_false_or_eq_true (ze.Kind x == 0) with hb0 | hb0
  ·rcases Bool.eq_false_or_eq_true (zb.e0 (ze.Set x) == 0 && (zb.e1 (ze.Set x) == 0 && (zb.e2 (ze.Set x) == 0 && (zb.e3 (ze.Set x) == 0 && true)))) with hb1 | hb1
   ·rcases Bool.eq_false_or_eq_true (ze.Lo x == 0) with hb2 | hb2
    ·rcases Bool.eq_false_or_eq_true (ze.Hi x == 0) with hb3 | hb3
     ·refine sDE kk [bT,bT,bT,bT,bT,bT,bT,bT,bT,bT,bT,bT,bT,bT,bT,bT,bT,bT] [4,8] [(7,vB ((↑(List.length (List.map zn (ze.Kids x))):Int) == 0))] [(7,vB ((↑(List.length (ze.Kids x)):Int) == 0))] (obC (gtt hb0) (obC (gtt hb0) (obC (gtt hb0) (obC (gtt hb0) (obC hb0 (obC (gtt hb1) (obC (gtt hb1) (obC (gtt hb1) (obC hb1 (obC (gtt hb2) (obC (gtt hb2) (obC (gtt hb2) (obC hb2 (obC (gtt hb3) (obC (gtt hb3) (obC (gtt hb3) (obC (gtt hb3) (obC hb3 obN)))))))))))))))))) ?_
      exact Sem.cast (by try rw [hb0];try rw [hb1];try rw [hb2];try rw [hb3];kernel_rfl) hk0
     ·refine sD kk [bT,bT,bT,bT,bT,bT,bT,bT,bT,bT,bT,bT,bT,bF,bF,bF,bF,bF] [4,8] [(7,vB false)] (obC (gtt hb0) (obC (gtt hb0) (obC (gtt hb0) (obC (gtt hb0) (obC hb0 (obC (gtt hb1) (obC (gtt hb1) (obC (gtt hb1) (obC hb1 (obC (gtt hb2) (obC (gtt hb2) (obC (gtt hb2) (obC hb2 (obC (gtf hb3) (obC (gtf hb3) (obC (gtf hb3) (obC (gtf hb3) (obC hb3 obN)))))))))))))))))) ?_
      exact Sem.cast (by try rw [hb0];try rw [hb1];try rw [hb2];try rw [hb3];kernel_rfl) hk0
    ·refine sD kk [bT,bT,bT,bT,bT,bT,bT,bT,bT,bF,bF,bF,bF,bF,bF,bF,bF,bF] [4,8] [(7,vB false)] (obC (gtt hb0) (obC (gtt hb0) (obC (gtt hb0) (obC (gtt hb0) (obC hb0 (obC (gtt hb1) (obC (gtt hb1) (obC (gtt hb1) (obC hb1 (obC (gtf hb2) (obC (gtf hb2) (obC (gtf hb2) (obC hb2 (oF (oF (oF (oF (oF obN)))))))))))))))))) ?_
     exact Sem.cast (by try rw [hb0];try rw [hb1];try rw [hb2];kernel_rfl) hk0
   ·refine sD kk [bT,bT,bT,bT,bT,bF,bF,bF,bF,bF,bF,bF,bF,bF,bF,bF,bF,bF] [4,8] [(7,vB false)] (obC (gtt hb0) (obC (gtt hb0) (obC (gtt hb0) (obC (gtt hb0) (obC hb0 (obC (gtf hb1) (obC (gtf hb1) (obC (gtf hb1) (obC hb1 (oF (oF (oF (oF (oF (oF (oF (oF (oF obN)))))))))))))))))) ?_
    exact Sem.cast (by try rw [hb0];try rw [hb1];kernel_rfl) hk0
  ·refine sD kk [bF,bF,bF,bF,bF,bF,bF,bF,bF,bF,bF,bF,bF,bF,bF,bF,bF,bF] [4,8] [(7,vB false)] (obC (gtf hb0) (obC (gtf hb0) (obC (gtf hb0) (obC (gtf hb0) (obC hb0 (oF (oF (oF (oF (oF (oF (oF (oF (oF (oF (oF (oF (oF obN)))))))))))))))))) ?_
   exact Sem.cast (by try rw [hb0];kernel_rfl) hk0
set_option maxHeartbeats 1000000 in
theorem zfb (x:zk) (res:Bool)
 (h:(((decide (zk.Lo x < (0:Int)) || decide (zk.Lo x > (20:Int)))=true→(res=false))∧((decide (zk.Lo x < (0:Int)) || decide (zk.Lo x > (20:Int)))=false→(res=(zk.Hi x == (-1:Int) || decide (zk.Hi x≥if zk.Lo x > (1:Int) then zk.Lo x else (1:Int)) && decide (zk.Hi x≤(20:Int))))))):zby x res:=by
 unfold zby
 have kk:=cfOk [] 27
 refine fD (x:=bodyOf Tryz.f140) kk Tryz.func140 ?_
 refine wkS [1] [(1,zE x)] (by kernel_rfl) ?_
 refine sD kk [] [1] [(4,.ptr 8 0),(8,zE x)] obN ?_
 refine qD ?_
 refine sM [] [(31,vB (decide (zk.Lo x < (0:Int)) || decide (zk.Lo x > (20:Int))))] ?_ (fun hk0=>?_)
 ·refine cD (t:=10) (b:=decide (zk.Lo x < (0:Int)) || decide (zk.Lo x > (20:Int))) (fun hb1=>?_) (fun hb1=>?_)
  ·have h:=h.1 hb1
   refine sD kk [] [4,8,31] [(7,vB false)] obN ?_
   refine tD ?_
   obtain he0:=h
   subst res
   exact (endD [] (vB false) []).1
  ·have h:=h.2 hb1
   refine Sem.skip' (by kernel_rfl) Wk.refl ?_
   show Sem _ _ _ _ _
   refine wkD [31] ?_
   refine sM [4,8] [(7,vB (zk.Hi x == (-1:Int) || decide (zk.Hi x≥if true=true then if zk.Lo x > (1:Int) then zk.Lo x else (1:Int) else if zk.Lo x < (1:Int) then zk.Lo x else (1:Int)) && decide (zk.Hi x≤(20:Int))))] ?_ (fun hk0=>?_)
   ·refine tD ?_
    obtain he0:=h
    subst res
    exact (endD [] (vB (zk.Hi x == (-1:Int) || decide (zk.Hi x≥if true=true then if zk.Lo x > (1:Int) then zk.Lo x else (1:Int) else if zk.Lo x < (1:Int) then zk.Lo x else (1:Int)) && decide (zk.Hi x≤(20:Int)))) []).1
   ·rcases Bool.eq_false_or_eq_true (zk.Hi x == (-1:Int)) with hb2 | hb2
    ·refine sD kk [bF,bF,bF,bF,bF,bF,bF,bF,bT] [4,8] [(7,vB true)] (obC (gff hb2) (obC (gff hb2) (obC (gff hb2) (obC (gff hb2) (obC (gff hb2) (obC (gff hb2) (obC (gff hb2) (obC (gff hb2) (obC hb2 obN))))))))) ?_
     exact Sem.cast (by try rw [hb2];kernel_rfl) hk0
    ·rcases Bool.eq_false_or_eq_true (decide (zk.Hi x≥if true=true then if zk.Lo x > (1:Int) then zk.Lo x else (1:Int) else if zk.Lo x < (1:Int) then zk.Lo x else (1:Int))) with hb3 | hb3
     ·refine sD kk [bT,bT,bT,bT,bT,bT,bT,bT,bT,bT,bT,bT,bF] [4,8] [(7,vB (decide (zk.Hi x≤(20:Int))))] (obC (gft hb2) (obC (gft hb2) (obC (gft hb2) (obC (gft hb2) (obC (gft hb2) (obC (gft hb2) (obC (gft hb2) (obC (gtt hb3) (obC (gtt hb3) (obC (gtt hb3) (obC (gft hb2) (obC hb3 (obC hb2 obN))))))))))))) ?_
      exact Sem.cast (by try rw [hb2];try rw [hb3];kernel_rfl) hk0
     ·refine sD kk [bT,bT,bT,bT,bT,bT,bT,bF,bF,bF,bT,bF,bF] [4,8] [(7,vB false)] (obC (gft hb2) (obC (gft hb2) (obC (gft hb2) (obC (gft hb2) (obC (gft hb2) (obC (gft hb2) (obC (gft hb2) (obC (gtf hb3) (obC (gtf hb3) (obC (gtf hb3) (obC (gft hb2) (obC hb3 (obC hb2 obN))))))))))))) ?_
      exact Sem.cast (by try rw [hb2];try rw [hb3];kernel_rfl) hk0
 ·rcases Bool.eq_false_or_eq_true (decide (zk.Lo x < (0:Int))) with hb0 | hb0
  ·refine sD kk [bF,bF,bF,bT] [] [(31,vB true)] (obC (gff hb0) (obC (gff hb0) (obC (gff hb0) (obC hb0 obN)))) ?_
   exact Sem.cast (by try rw [hb0];kernel_rfl) hk0
  ·refine sD kk [bT,bT,bT,bF] [] [(31,vB (decide (zk.Lo x > (20:Int))))] (obC (gft hb0) (obC (gft hb0) (obC (gft hb0) (obC hb0 obN)))) ?_
   exact Sem.cast (by try rw [hb0];kernel_rfl) hk0
set_option maxHeartbeats 1000000 in
theorem zf8 (x:zk) (res:Bool)
 (h:(∃ J12:Int→Prop,(∀ (many:Int),J12 many→(res=((!(zb.e0 (zk.Set x) == 0 && (zb.e1 (zk.Set x) == 0 && (zb.e2 (zk.Set x) == 0 && (zb.e3 (zk.Set x) == 0 && true))))) == (zk.Kind x == (2:Int)) && (zk.Lo x == 0 && (zk.Hi x == 0 && (decide (many≥(2:Int)) && (!decide (zk.Kind x < (3:Int)) || many == (2:Int))))))))∧(((zk.Kind x == (5:Int))=true→(((!!(zb.e0 (zk.Set x) == 0 && (zb.e1 (zk.Set x) == 0 && (zb.e2 (zk.Set x) == 0 && (zb.e3 (zk.Set x) == 0 && true)))))=true→((((↑(List.length (zk.Kids x)):Int) == 1)=true→(∃ r0_1:Bool,zby x r0_1∧(res=r0_1)))∧(((↑(List.length (zk.Kids x)):Int) == 1)=false→(res=false))))∧((!!(zb.e0 (zk.Set x) == 0 && (zb.e1 (zk.Set x) == 0 && (zb.e2 (zk.Set x) == 0 && (zb.e3 (zk.Set x) == 0 && true)))))=false→(res=false))))∧((zk.Kind x == (5:Int))=false→(∃ J23:Bool→Prop,(∀ (t17_1:Bool),J23 t17_1→(((t17_1)=true→J12 (w64 ((↑(List.length (zk.Kids x)):Int)+2)))∧((t17_1)=false→(∃ J26:Bool→Prop,(∀ (t20_1:Bool),J26 t20_1→(((t20_1)=true→J12 ((↑(List.length (zk.Kids x)):Int)))∧((t20_1)=false→(res=false))))∧(((zk.Kind x == (3:Int))=true→J26 (zk.Kind x == (3:Int)))∧((zk.Kind x == (3:Int))=false→J26 (zk.Kind x == (4:Int))))))))∧(((zk.Kind x == 1)=true→J23 (zk.Kind x == 1))∧((zk.Kind x == 1)=false→J23 (zk.Kind x == (2:Int))))))))):zbL x res:=by
 unfold zbL
 have kk:=cfOk [] 65
 refine fD (x:=bodyOf Tryz.f123) kk Tryz.func123 ?_
 refine wkS [1] [(1,zE x)] (by kernel_rfl) ?_
 refine sD kk [] [1] [(4,.ptr 8 0),(8,zE x)] obN ?_
 refine sDE kk [] [] [(10,vB (!(zb.e0 (zk.Set x) == 0 && (zb.e1 (zk.Set x) == 0 && (zb.e2 (zk.Set x) == 0 && (zb.e3 (zk.Set x) == 0 && true)))))),(13,vi ((↑(List.length (List.map zn (zk.Kids x))):Int)))] [(10,vB (!(zb.e0 (zk.Set x) == 0 && (zb.e1 (zk.Set x) == 0 && (zb.e2 (zk.Set x) == 0 && (zb.e3 (zk.Set x) == 0 && true)))))),(13,vi ((↑(List.length (zk.Kids x)):Int)))] obN ?_
 refine qD ?_
 refine sD kk [] [] [(43,vi (zk.Kind x))] obN ?_
 refine bD (id:=0) ?_
 obtain ⟨J12,hJ12,h⟩:=h
 refine sjD (fun (q:Int)=>J12 q) (fun (q:Int)=>(fun (many:Int)=>([(4,.ptr 8 0),(8,zE x),(10,vB (!(zb.e0 (zk.Set x) == 0 && (zb.e1 (zk.Set x) == 0 && (zb.e2 (zk.Set x) == 0 && (zb.e3 (zk.Set x) == 0 && true)))))),(13,vi many)]:Sta)) q) ?_ ?_
 ·rintro many hj
  have h:=hJ12 many hj
  refine qD ?_
  refine sD kk [] [] [(16,vB (decide (zk.Kind x < (3:Int))))] obN ?_
  refine sM [4,8,10,13,16] [(7,vB ((!(zb.e0 (zk.Set x) == 0 && (zb.e1 (zk.Set x) == 0 && (zb.e2 (zk.Set x) == 0 && (zb.e3 (zk.Set x) == 0 && true))))) == (zk.Kind x == (2:Int)) && (zk.Lo x == 0 && (zk.Hi x == 0 && (decide (many≥(2:Int)) && (!decide (zk.Kind x < (3:Int)) || many == (2:Int)))))))] ?_ (fun hk0=>?_)
  ·refine tD ?_
   obtain he0:=h
   subst res
   exact (endD [] (vB ((!(zb.e0 (zk.Set x) == 0 && (zb.e1 (zk.Set x) == 0 && (zb.e2 (zk.Set x) == 0 && (zb.e3 (zk.Set x) == 0 && true))))) == (zk.Kind x == (2:Int)) && (zk.Lo x == 0 && (zk.Hi x == 0 && (decide (many≥(2:Int)) && (!decide (zk.Kind x < (3:Int)) || many == (2:Int))))))) []).1
  ·rcases Bool.eq_false_or_eq_true ((!(zb.e0 (zk.Set x) == 0 && (zb.e1 (zk.Set x) == 0 && (zb.e2 (zk.Set x) == 0 && (zb.e3 (zk.Set x) == 0 && true))))) == (zk.Kind x == (2:Int))) with hb13 | hb13
   ·rcases Bool.eq_false_or_eq_true (zk.Lo x == 0) with hb14 | hb14
    ·rcases Bool.eq_false_or_eq_true (zk.Hi x == 0) with hb15 | hb15
     ·rcases Bool.eq_false_or_eq_true (decide (many≥(2:Int))) with hb16 | hb16
      ·rcases Bool.eq_false_or_eq_true (!decide (zk.Kind x < (3:Int))) with hb17 | hb17
       ·refine sD kk [bT,bT,bT,bT,bT,bT,bT,bT,bT,bT,bT,bT,bT,bT,bF,bF,bT,bT,bT] [4,8,10,13,16] [(7,vB true)] (obC (gtt hb13) (obC (gtt hb13) (obC (gtt hb13) (obC hb13 (obC (gtt hb14) (obC (gtt hb14) (obC (gtt hb14) (obC hb14 (obC (gtt hb15) (obC (gtt hb15) (obC hb15 (obC (gtt hb16) (obC (gtt hb16) (obC (gtt hb16) (obC (gff hb17) (obC (gff hb17) (obC (gtt hb16) (obC hb17 (obC hb16 obN))))))))))))))))))) ?_
        exact Sem.cast (by try rw [hb13];try rw [hb14];try rw [hb15];try rw [hb16];try rw [hb17];kernel_rfl) hk0
       ·refine sD kk [bT,bT,bT,bT,bT,bT,bT,bT,bT,bT,bT,bT,bT,bT,bT,bT,bT,bF,bT] [4,8,10,13,16] [(7,vB (many == (2:Int)))] (obC (gtt hb13) (obC (gtt hb13) (obC (gtt hb13) (obC hb13 (obC (gtt hb14) (obC (gtt hb14) (obC (gtt hb14) (obC hb14 (obC (gtt hb15) (obC (gtt hb15) (obC hb15 (obC (gtt hb16) (obC (gtt hb16) (obC (gtt hb16) (obC (gft hb17) (obC (gft hb17) (obC (gtt hb16) (obC hb17 (obC hb16 obN))))))))))))))))))) ?_
        exact Sem.cast (by try rw [hb13];try rw [hb14];try rw [hb15];try rw [hb16];try rw [hb17];kernel_rfl) hk0
      ·refine sD kk [bT,bT,bT,bT,bT,bT,bT,bT,bT,bT,bT,bF,bF,bF,bF,bF] [4,8,10,13,16] [(7,vB false)] (obC (gtt hb13) (obC (gtt hb13) (obC (gtt hb13) (obC hb13 (obC (gtt hb14) (obC (gtt hb14) (obC (gtt hb14) (obC hb14 (obC (gtt hb15) (obC (gtt hb15) (obC hb15 (obC (gtf hb16) (obC (gtf hb16) (obC (gtf hb16) (obC (gtf hb16) (obC hb16 obN)))))))))))))))) ?_
       exact Sem.cast (by try rw [hb13];try rw [hb14];try rw [hb15];try rw [hb16];kernel_rfl) hk0
     ·refine sD kk [bT,bT,bT,bT,bT,bT,bT,bT,bF,bF,bF,bF,bF,bF,bF,bF] [4,8,10,13,16] [(7,vB false)] (obC (gtt hb13) (obC (gtt hb13) (obC (gtt hb13) (obC hb13 (obC (gtt hb14) (obC (gtt hb14) (obC (gtt hb14) (obC hb14 (obC (gtf hb15) (obC (gtf hb15) (obC hb15 (oF (oF (oF (oF (oF obN)))))))))))))))) ?_
      exact Sem.cast (by try rw [hb13];try rw [hb14];try rw [hb15];kernel_rfl) hk0
    ·refine sD kk [bT,bT,bT,bT,bF,bF,bF,bF,bF,bF,bF,bF,bF,bF,bF,bF] [4,8,10,13,16] [(7,vB false)] (obC (gtt hb13) (obC (gtt hb13) (obC (gtt hb13) (obC hb13 (obC (gtf hb14) (obC (gtf hb14) (obC (gtf hb14) (obC hb14 (oF (oF (oF (oF (oF (oF (oF (oF obN)))))))))))))))) ?_
     exact Sem.cast (by try rw [hb13];try rw [hb14];kernel_rfl) hk0
   ·refine sD kk [bF,bF,bF,bF,bF,bF,bF,bF,bF,bF,bF,bF,bF,bF,bF,bF] [4,8,10,13,16] [(7,vB false)] (obC (gtf hb13) (obC (gtf hb13) (obC (gtf hb13) (obC hb13 (oF (oF (oF (oF (oF (oF (oF (oF (oF (oF (oF (oF obN)))))))))))))))) ?_
    exact Sem.cast (by try rw [hb13];kernel_rfl) hk0
 ·refine bD (id:=3) ?_
  refine qD ?_
  refine bD (id:=2) ?_
  refine qD ?_
  refine bD (id:=1) ?_
  refine qD ?_
  refine qD ?_
  refine sD kk [] [] [(46,vB (zk.Kind x == (5:Int)))] obN ?_
  refine cD (t:=15) (b:=zk.Kind x == (5:Int)) (fun hb18=>?_) (fun hb18=>?_)
  ·have h:=h.1 hb18
   refine xD (i:=1) ?_
   show Sem _ _ _ _ _
   refine wkD [43,46] ?_
   refine qD ?_
   rcases Bool.eq_false_or_eq_true (!!(zb.e0 (zk.Set x) == 0 && (zb.e1 (zk.Set x) == 0 && (zb.e2 (zk.Set x) == 0 && (zb.e3 (zk.Set x) == 0 && true))))) with hb19 | hb19
   ·have h:=h.1 hb19
    rcases Bool.eq_false_or_eq_true ((↑(List.length (zk.Kids x)):Int) == 1) with hb20 | hb20
    ·have h:=h.1 hb20
     obtain ⟨r0_1,hc21,h⟩:=h
     refine sD kk [bT,bT,bT,bT,bT,.c (vB r0_1) [],bT] [4,8,10,13] [(7,vB r0_1)] (obC (gtt hb19) (obC (gtt hb19) (obC hb19 (obC (gtt hb20) (obC (gtt hb20) (obC hc21 (obC hb20 obN))))))) ?_
     refine tD ?_
     obtain he0:=h
     subst res
     exact (endD [] (vB r0_1) []).1
    ·have h:=h.2 hb20
     refine sD kk [bT,bT,bT,bF,bF,bF] [4,8,10,13] [(7,vB false)] (obC (gtt hb19) (obC (gtt hb19) (obC hb19 (obC (gtf hb20) (obC (gtf hb20) (obC hb20 obN)))))) ?_
     refine tD ?_
     obtain he0:=h
     subst res
     exact (endD [] (vB false) []).1
   ·have h:=h.2 hb19
    refine sD kk [bF,bF,bF,bF,bF,bF] [4,8,10,13] [(7,vB false)] (obC (gtf hb19) (obC (gtf hb19) (obC hb19 (oF (oF (oF obN)))))) ?_
    refine tD ?_
    obtain he0:=h
    subst res
    exact (endD [] (vB false) []).1
  ·have h:=h.2 hb18
   refine Sem.skip' (by kernel_rfl) Wk.refl ?_
   show Sem _ _ _ _ _
   refine wkD [46] ?_
   refine qD ?_
   obtain ⟨J23,hJ23,h⟩:=h
   refine sjD (fun (q:Bool)=>J23 q) (fun (q:Bool)=>(fun (t17_1:Bool)=>([(4,.ptr 8 0),(8,zE x),(10,vB (!(zb.e0 (zk.Set x) == 0 && (zb.e1 (zk.Set x) == 0 && (zb.e2 (zk.Set x) == 0 && (zb.e3 (zk.Set x) == 0 && true)))))),(13,vi ((↑(List.length (zk.Kids x)):Int))),(43,vi (zk.Kind x)),(52,vB t17_1)]:Sta)) q) ?_ ?_
   ·rintro t17_1 hj
    have h:=hJ23 t17_1 hj
    refine cD (t:=17) (b:=t17_1) (fun hb24=>?_) (fun hb24=>?_)
    ·have h:=h.1 hb24
     refine xD (i:=2) ?_
     show Sem _ _ _ _ _
     refine wkD [43,52] ?_
     refine rD kk [] [] [(13,vi (w64 ((↑(List.length (zk.Kids x)):Int)+2)))] obN ?_
     exact jD (w64 ((↑(List.length (zk.Kids x)):Int)+2)) [] h
    ·have h:=h.2 hb24
     refine Sem.skip' (by kernel_rfl) Wk.refl ?_
     show Sem _ _ _ _ _
     refine wkD [52] ?_
     obtain ⟨J26,hJ26,h⟩:=h
     refine sjD (fun (q:Bool)=>J26 q) (fun (q:Bool)=>(fun (t20_1:Bool)=>([(4,.ptr 8 0),(8,zE x),(10,vB (!(zb.e0 (zk.Set x) == 0 && (zb.e1 (zk.Set x) == 0 && (zb.e2 (zk.Set x) == 0 && (zb.e3 (zk.Set x) == 0 && true)))))),(13,vi ((↑(List.length (zk.Kids x)):Int))),(61,vB t20_1)]:Sta)) q) ?_ ?_
     ·rintro t20_1 hj
      have h:=hJ26 t20_1 hj
      refine cD (t:=20) (b:=t20_1) (fun hb27=>?_) (fun hb27=>?_)
      ·have h:=h.1 hb27
       refine xD (i:=3) ?_
       exact jD ((↑(List.length (zk.Kids x)):Int)) [] h
      ·have h:=h.2 hb27
       refine Sem.skip' (by kernel_rfl) Wk.refl ?_
       show Sem _ _ _ _ _
       refine wkD [4,8,10,13,61] ?_
       refine xD (i:=0) ?_
       show Sem _ _ _ _ _
       refine sD kk [] [] [(7,vB false)] obN ?_
       refine tD ?_
       obtain he0:=h
       subst res
       exact (endD [] (vB false) []).1
     ·refine sD kk [] [] [(61,vB (zk.Kind x == (3:Int)))] obN ?_
      refine cD (t:=20) (b:=zk.Kind x == (3:Int)) (fun hb28=>?_) (fun hb28=>?_)
      ·have h:=h.1 hb28
       refine Sem.skip' (by kernel_rfl) Wk.refl ?_
       exact jD (zk.Kind x == (3:Int)) [] h
      ·have h:=h.2 hb28
       refine rD kk [] [43] [(61,vB (zk.Kind x == (4:Int)))] obN ?_
       exact jD (zk.Kind x == (4:Int)) [] h
   ·refine sD kk [] [] [(52,vB (zk.Kind x == 1))] obN ?_
    refine cD (t:=17) (b:=zk.Kind x == 1) (fun hb29=>?_) (fun hb29=>?_)
    ·have h:=h.1 hb29
     refine Sem.skip' (by kernel_rfl) Wk.refl ?_
     exact jD (zk.Kind x == 1) [] h
    ·have h:=h.2 hb29
     refine rD kk [] [] [(52,vB (zk.Kind x == (2:Int)))] obN ?_
     exact jD (zk.Kind x == (2:Int)) [] h
set_option maxHeartbeats 1000000 in
theorem zdL (k:ze) (v:zk) (v_1:Int) (res:Bool) (fin:zk) (fin_1:Int)
 (h:(((ze.Kind k == zk.Kind v)=true→(((zk.Kind v != (5:Int))=true→(res=true∧fin=v∧fin_1=v_1))∧((zk.Kind v != (5:Int))=false→(∃ r0:Bool,zaB ({ Kind:=ze.Kind k,Set:=ze.Set k,Lo:=ze.Lo k,Hi:=ze.Hi k,Kids:=ze.Kids k }) (w64 (v_1 - 1)) r0∧(res=(!r0)∧fin=v∧fin_1=v_1)))))∧((ze.Kind k == zk.Kind v)=false→(∃ r0_1:Bool,zaB ({ Kind:=ze.Kind k,Set:=ze.Set k,Lo:=ze.Lo k,Hi:=ze.Hi k,Kids:=ze.Kids k }) (w64 (v_1 - 1)) r0_1∧(res=(!r0_1)∧fin=v∧fin_1=v_1))))):za9 k v v_1 res fin fin_1:=by
 unfold za9
 have kk:=cfOk [] 22
 refine fD (x:=bodyOf Tryz.f122) kk Tryz.func122 ?_
 refine wkS [1,3,4,6,7] [(1,zC k),(3,zE v),(4,.ptr 3 0),(6,vi v_1),(7,.ptr 6 0)] (by kernel_rfl) ?_
 refine sD kk [] [1] [(10,.ptr 20 0),(20,zC k)] obN ?_
 rcases Bool.eq_false_or_eq_true (ze.Kind k == zk.Kind v) with hb0 | hb0
 ·have h:=h.1 hb0
  rcases Bool.eq_false_or_eq_true (zk.Kind v != (5:Int)) with hb1 | hb1
  ·have h:=h.1 hb1
   refine sD kk [bT,bT,bT,bT,bF,bF,bF,bF,bF,bT] [4,7,10,20] [(13,vB true)] (obC (gtt hb0) (obC (gtt hb0) (obC (gtt hb0) (obC hb0 (obC (gff hb1) (obC (gff hb1) (obC (gff hb1) (obC (gff hb1) (obC (gff hb1) (obC hb1 obN)))))))))) ?_
   refine tD ?_
   obtain ⟨he0,he1,he2⟩:=h
   subst res fin fin_1
   exact (endD [] (vB true) [zE v,vi v_1]).1
  ·have h:=h.2 hb1
   obtain ⟨r0,hc2,h⟩:=h
   refine sD kk [bT,bT,bT,bT,bT,bT,bT,bT,.c (vB r0) [],bT,bF] [4,7,10,20] [(13,vB (!r0))] (obC (gtt hb0) (obC (gtt hb0) (obC (gtt hb0) (obC hb0 (obC (gft hb1) (obC (gft hb1) (obC (gft hb1) (obC (gft hb1) (obC hc2 (obC (gft hb1) (obC hb1 obN))))))))))) ?_
   refine tD ?_
   obtain ⟨he0,he1,he2⟩:=h
   subst res fin fin_1
   exact (endD [] (vB (!r0)) [zE v,vi v_1]).1
 ·have h:=h.2 hb0
  obtain ⟨r0_1,hc3,h⟩:=h
  refine sD kk [bF,bF,bF,bF,bT,bT,bT,bT,.c (vB r0_1) [],bT,bF] [4,7,10,20] [(13,vB (!r0_1))] (obC (gtf hb0) (obC (gtf hb0) (obC (gtf hb0) (obC hb0 (oT (oT (oT (oT (obC hc3 (oT (oF obN))))))))))) ?_
  refine tD ?_
  obtain ⟨he0,he1,he2⟩:=h
  subst res fin fin_1
  exact (endD [] (vB (!r0_1)) [zE v,vi v_1]).1
set_option maxHeartbeats 1000000 in
theorem zaf (s0:(List ze)) (cap:zk) (cap_1:Int) (res:Int) (fin:zk) (fin_1:Int)
 (h:(∃ (Inv9:Int→Int→Int→Int→Int→Int→Int→List ze→Int→Int→Prop) (mu10:Int→Int→Int→Int→Int→Int→Int→List ze→Int→Int→Nat),Inv9 (zk.Kind cap) (zb.e0 (zk.Set cap)) (zb.e1 (zk.Set cap)) (zb.e2 (zk.Set cap)) (zb.e3 (zk.Set cap)) (zk.Lo cap) (zk.Hi cap) (zk.Kids cap) cap_1 0∧(∀ (o0_Kind:Int) (o0_Set_e0:Int) (o0_Set_e1:Int) (o0_Set_e2:Int) (o0_Set_e3:Int) (o0_Lo:Int) (o0_Hi:Int) (o0_Kids:List ze) (o1:Int) (t8:Int),Inv9 o0_Kind o0_Set_e0 o0_Set_e1 o0_Set_e2 o0_Set_e3 o0_Lo o0_Hi o0_Kids o1 t8→(((decide (t8 < (↑(List.length s0):Int)))=true→((0:Int)≤t8)∧t8 < ↑(List.length s0)∧(∃ r0_2:Bool,∃ o_4:zk,∃ o_5:Int,za9 (gd s0 t8) ({ Kind:=o0_Kind,Set:={ e0:=o0_Set_e0,e1:=o0_Set_e1,e2:=o0_Set_e2,e3:=o0_Set_e3 },Lo:=o0_Lo,Hi:=o0_Hi,Kids:=o0_Kids }) o1 r0_2 o_4 o_5∧(((r0_2)=true→(res=t8∧fin=o_4∧fin_1=o_5))∧((r0_2)=false→(Inv9 (zk.Kind o_4) (zb.e0 (zk.Set o_4)) (zb.e1 (zk.Set o_4)) (zb.e2 (zk.Set o_4)) (zb.e3 (zk.Set o_4)) (zk.Lo o_4) (zk.Hi o_4) (zk.Kids o_4) o_5 (w64 (t8+1))∧mu10 (zk.Kind o_4) (zb.e0 (zk.Set o_4)) (zb.e1 (zk.Set o_4)) (zb.e2 (zk.Set o_4)) (zb.e3 (zk.Set o_4)) (zk.Lo o_4) (zk.Hi o_4) (zk.Kids o_4) o_5 (w64 (t8+1)) < mu10 o0_Kind o0_Set_e0 o0_Set_e1 o0_Set_e2 o0_Set_e3 o0_Lo o0_Hi o0_Kids o1 t8)))))∧((decide (t8 < (↑(List.length s0):Int)))=false→(res=(-1)∧fin=({ Kind:=o0_Kind,Set:={ e0:=o0_Set_e0,e1:=o0_Set_e1,e2:=o0_Set_e2,e3:=o0_Set_e3 },Lo:=o0_Lo,Hi:=o0_Hi,Kids:=o0_Kids })∧fin_1=o1)))))):zM s0 cap cap_1 res fin fin_1:=by
 unfold zM
 have kk:=cfOk [17] 19
 refine fD (x:=bodyOf Tryz.f141) kk Tryz.func141 ?_
 refine wkS [1,3,4,6] [(1,vL zn s0),(3,zE cap),(4,.clo 122 [.ptr 3 0,.ptr 6 0]),(6,vi cap_1)] (by kernel_rfl) ?_
 refine sD kk [] [] [] obN ?_
 refine qD ?_
 refine sDE kk [] [] [(22,vi ((↑(List.length (List.map zn s0)):Int))),(25,vi 0)] [(22,vi ((↑(List.length s0):Int))),(25,vi 0)] obN ?_
 refine bD (id:=0) ?_
 obtain ⟨Inv9,mu10,h0Inv9,hInv9⟩:=h
 refine loD (fun (q:Int×Int×Int×Int×Int×Int×Int×List ze×Int×Int)=>(fun (o0_Kind:Int) (o0_Set_e0:Int) (o0_Set_e1:Int) (o0_Set_e2:Int) (o0_Set_e3:Int) (o0_Lo:Int) (o0_Hi:Int) (o0_Kids:List ze) (o1:Int) (t8:Int)=>([(1,vL zn s0),(3,.agg [vi o0_Kind,vI .u64 o0_Set_e0,vI .u64 o0_Set_e1,vI .u64 o0_Set_e2,vI .u64 o0_Set_e3,vi o0_Lo,vi o0_Hi,vL zn o0_Kids]),(4,.clo 122 [.ptr 3 0,.ptr 6 0]),(6,vi o1),(22,vi ((↑(List.length s0):Int))),(25,vi t8)]:Sta)) q.1 q.2.1 q.2.2.1 q.2.2.2.1 q.2.2.2.2.1 q.2.2.2.2.2.1 q.2.2.2.2.2.2.1 q.2.2.2.2.2.2.2.1 q.2.2.2.2.2.2.2.2.1 q.2.2.2.2.2.2.2.2.2) (fun (q:Int×Int×Int×Int×Int×Int×Int×List ze×Int×Int)=>Inv9 q.1 q.2.1 q.2.2.1 q.2.2.2.1 q.2.2.2.2.1 q.2.2.2.2.2.1 q.2.2.2.2.2.2.1 q.2.2.2.2.2.2.2.1 q.2.2.2.2.2.2.2.2.1 q.2.2.2.2.2.2.2.2.2) (fun (q:Int×Int×Int×Int×Int×Int×Int×List ze×Int×Int)=>mu10 q.1 q.2.1 q.2.2.1 q.2.2.2.1 q.2.2.2.2.1 q.2.2.2.2.2.1 q.2.2.2.2.2.2.1 q.2.2.2.2.2.2.2.1 q.2.2.2.2.2.2.2.2.1 q.2.2.2.2.2.2.2.2.2) ((zk.Kind cap),(zb.e0 (zk.Set cap)),(zb.e1 (zk.Set cap)),(zb.e2 (zk.Set cap)),(zb.e3 (zk.Set cap)),(zk.Lo cap),(zk.Hi cap),(zk.Kids cap),cap_1,0) [] h0Inv9 ?_
 rintro ⟨o0_Kind,o0_Set_e0,o0_Set_e1,o0_Set_e2,o0_Set_e3,o0_Lo,o0_Hi,o0_Kids,o1,t8⟩ hi
 have h:=hInv9 o0_Kind o0_Set_e0 o0_Set_e1 o0_Set_e2 o0_Set_e3 o0_Lo o0_Hi o0_Kids o1 t8 hi
 refine sD kk [] [] [(28,vB (decide (t8 < (↑(List.length s0):Int))))] obN ?_
 refine qD ?_
 refine cD (t:=9) (b:=decide (t8 < (↑(List.length s0):Int))) (fun hb11=>?_) (fun hb11=>?_)
 ·have h:=h.1 hb11
  refine Sem.skip' (by kernel_rfl) Wk.refl ?_
  show Sem _ _ _ _ _
  refine wkD [28] ?_
  refine qD ?_
  refine bD (id:=1) ?_
  refine sD kk [] [] [(16,vi t8)] obN ?_
  obtain ⟨h12,h⟩:=h
  obtain ⟨h13,h⟩:=h
  obtain ⟨r0_2,o_4,o_5,hc14,h⟩:=h
  refine sD kk [.e (zat (gd s0 t8)),.c (vB r0_2) [zE o_4,vi o_5]] [] [(3,zE o_4),(6,vi o_5),(49,vB r0_2)] (obC h12 (obC (zO zn s0 t8 _ (zP _) h12 h13) (obC hc14 obN))) ?_
  refine cD (t:=16) (b:=r0_2) (fun hb15=>?_) (fun hb15=>?_)
  ·have h:=h.1 hb15
   refine sD kk [] [1,4,16,22,25,49] [(13,vi t8)] obN ?_
   refine tD ?_
   obtain ⟨he0,he1,he2⟩:=h
   subst res fin fin_1
   exact (endD [] (vi t8) [zE o_4,vi o_5]).1
  ·have h:=h.2 hb15
   refine Sem.skip' (by kernel_rfl) Wk.refl ?_
   show Sem _ _ _ _ _
   refine wkD [16,49] ?_
   refine rD kk [] [] [(25,vi (w64 (t8+1)))] obN ?_
   exact lD ((zk.Kind o_4),(zb.e0 (zk.Set o_4)),(zb.e1 (zk.Set o_4)),(zb.e2 (zk.Set o_4)),(zb.e3 (zk.Set o_4)),(zk.Lo o_4),(zk.Hi o_4),(zk.Kids o_4),o_5,(w64 (t8+1))) [] h
 ·have h:=h.2 hb11
  refine xD (i:=0) ?_
  show Sem _ _ _ _ _
  refine wkD [1,4,22,25,28] ?_
  refine sD kk [] [] [(13,vi (-1))] obN ?_
  refine tD ?_
  obtain ⟨he0,he1,he2⟩:=h
  subst res fin fin_1
  exact (endD [] (vi (-1)) [.agg [vi o0_Kind,vI .u64 o0_Set_e0,vI .u64 o0_Set_e1,vI .u64 o0_Set_e2,vI .u64 o0_Set_e3,vi o0_Lo,vi o0_Hi,vL zn o0_Kids],vi o1]).1
set_option maxHeartbeats 1000000 in
theorem zaI (s0:(List ze)) (cap:zk) (cap_1:Int) (res:Bool) (fin:zk) (fin_1:Int)
 (h:(∃ r0:Int,∃ o:zk,∃ o_1:Int,zM s0 cap cap_1 r0 o o_1∧(res=(decide (r0≥(0:Int)))∧fin=o∧fin_1=o_1))):zK s0 cap cap_1 res fin fin_1:=by
 unfold zK
 have kk:=cfOk [] 9
 refine fD (x:=bodyOf Tryz.f124) kk Tryz.func124 ?_
 refine wkS [1,3,4,6] [(1,vL zn s0),(3,zE cap),(4,.clo 122 [.ptr 3 0,.ptr 6 0]),(6,vi cap_1)] (by kernel_rfl) ?_
 refine sD kk [] [] [] obN ?_
 obtain ⟨r0,o,o_1,hc0,h⟩:=h
 refine sD kk [.c (vi r0) [zE o,vi o_1]] [1,4] [(3,zE o),(6,vi o_1),(13,vB (decide (r0≥(0:Int))))] (obC hc0 obN) ?_
 refine tD ?_
 obtain ⟨he0,he1,he2⟩:=h
 subst res fin fin_1
 exact (endD [] (vB (decide (r0≥(0:Int)))) [zE o,vi o_1]).1
set_option maxHeartbeats 1000000 in
theorem zfc (x:zk) (deep:Int) (res:Bool)
 (h:(((decide (deep > (0:Int)))=true→(∃ r0:Bool,zbL x r0∧(((r0)=true→(∃ r0_1:Bool,∃ o:zk,∃ o_1:Int,zK (zk.Kids x) x deep r0_1 o o_1∧(res=(!r0_1))))∧((r0)=false→(res=false)))))∧((decide (deep > (0:Int)))=false→(res=false)))):zaB x deep res:=by
 unfold zaB
 have kk:=cfOk [] 20
 refine fD (x:=bodyOf Tryz.f98) kk Tryz.func98 ?_
 refine wkS [1,4] [(1,zE x),(4,vi deep)] (by kernel_rfl) ?_
 refine sD kk [] [1,4] [(7,.ptr 14 0),(10,.ptr 20 0),(14,zE x),(20,vi deep)] obN ?_
 refine sD kk [] [] [(16,.clo 122 [.ptr 14 0,.ptr 20 0])] obN ?_
 rcases Bool.eq_false_or_eq_true (decide (deep > (0:Int))) with hb0 | hb0
 ·have h:=h.1 hb0
  obtain ⟨r0,hc1,h⟩:=h
  rcases Bool.eq_false_or_eq_true (r0) with hb2 | hb2
  ·have h:=h.1 hb2
   obtain ⟨r0_1,o,o_1,hc3,h⟩:=h
   refine sD kk [bT,bT,.c (vB r0) [],bT,bT,bT,bT,bT,.c (vB r0_1) [zE o,vi o_1],bT,bT] [7,10,14,16,20] [(13,vB (!r0_1))] (obC (gtt hb0) (obC (gtt hb0) (obC hc1 (obC hb0 (obC (gtt hb2) (obC (gtt hb2) (obC (gtt hb2) (obC (gtt hb2) (obC hc3 (obC (gtt hb2) (obC hb2 obN))))))))))) ?_
   refine tD ?_
   obtain he0:=h
   subst res
   exact (endD [] (vB (!r0_1)) []).1
  ·have h:=h.2 hb2
   refine sD kk [bT,bT,.c (vB r0) [],bT,bF,bF,bF,bF,bF,bF] [7,10,14,16,20] [(13,vB false)] (obC (gtt hb0) (obC (gtt hb0) (obC hc1 (obC hb0 (obC (gtf hb2) (obC (gtf hb2) (obC (gtf hb2) (obC (gtf hb2) (obC (gtf hb2) (obC hb2 obN)))))))))) ?_
   refine tD ?_
   obtain he0:=h
   subst res
   exact (endD [] (vB false) []).1
 ·have h:=h.2 hb0
  refine sD kk [bF,bF,bF,bF,bF,bF,bF,bF,bF] [7,10,14,16,20] [(13,vB false)] (obC (gtf hb0) (obC (gtf hb0) (obC hb0 (oF (oF (oF (oF (oF (oF obN))))))))) ?_
  refine tD ?_
  obtain he0:=h
  subst res
  exact (endD [] (vB false) []).1
set_option maxHeartbeats 1000000 in
theorem W_rx_Size (x:ze) (res:Int)
 (h:(((ze.Kind x == (2:Int))=true→(res=1))∧((ze.Kind x == (2:Int))=false→(((decide (ze.Kind x < (3:Int)) || decide (ze.Kind x > (5:Int)))=true→(res=0))∧((decide (ze.Kind x < (3:Int)) || decide (ze.Kind x > (5:Int)))=false→(∃ (Inv10:Int→Int→Prop) (mu11:Int→Int→Nat),Inv10 0 0∧(∀ (n:Int) (t19:Int),Inv10 n t19→(((decide (t19 < (↑(List.length (ze.Kids x)):Int)))=true→((0:Int)≤t19)∧t19 < ↑(List.length (ze.Kids x))∧(∃ r0_2:Int,zc2 (gd (ze.Kids x) t19) r0_2∧(Inv10 (if false=true then if (1000000:Int) > w64 (n+r0_2) then (1000000:Int) else w64 (n+r0_2) else if (1000000:Int) < w64 (n+r0_2) then (1000000:Int) else w64 (n+r0_2)) (w64 (t19+1))∧mu11 (if false=true then if (1000000:Int) > w64 (n+r0_2) then (1000000:Int) else w64 (n+r0_2) else if (1000000:Int) < w64 (n+r0_2) then (1000000:Int) else w64 (n+r0_2)) (w64 (t19+1)) < mu11 n t19)))∧((decide (t19 < (↑(List.length (ze.Kids x)):Int)))=false→(∃ J17:Int→Prop,(∀ (n_1:Int),J17 n_1→(res=(if false=true then if (1000000:Int) > n_1 then (1000000:Int) else n_1 else if (1000000:Int) < n_1 then (1000000:Int) else n_1)))∧(((ze.Kind x == (5:Int))=true→J17 (w64 (n * if (if false=true then if (if ze.Hi x > ze.Lo x then ze.Hi x else ze.Lo x) > (1000:Int) then if ze.Hi x > ze.Lo x then ze.Hi x else ze.Lo x else (1000:Int) else if (if ze.Hi x > ze.Lo x then ze.Hi x else ze.Lo x) < (1000:Int) then if ze.Hi x > ze.Lo x then ze.Hi x else ze.Lo x else (1000:Int)) > (1:Int) then if false=true then if (if ze.Hi x > ze.Lo x then ze.Hi x else ze.Lo x) > (1000:Int) then if ze.Hi x > ze.Lo x then ze.Hi x else ze.Lo x else (1000:Int) else if (if ze.Hi x > ze.Lo x then ze.Hi x else ze.Lo x) < (1000:Int) then if ze.Hi x > ze.Lo x then ze.Hi x else ze.Lo x else (1000:Int) else (1:Int))))∧((ze.Kind x == (5:Int))=false→J17 n)))))))))))):zc2 x res:=by
 unfold zc2
 have kk:=cfOk [] 43
 refine fD (x:=bodyOf Tryz.f99) kk Tryz.func99 ?_
 refine wkS [1] [(1,zC x)] (by kernel_rfl) ?_
 refine sD kk [] [1] [(4,.ptr 8 0),(7,vi 0),(8,zC x)] obN ?_
 refine qD ?_
 refine sD kk [] [] [(22,vB (ze.Kind x == (2:Int)))] obN ?_
 refine cD (t:=7) (b:=ze.Kind x == (2:Int)) (fun hb0=>?_) (fun hb0=>?_)
 ·have h:=h.1 hb0
  refine sD kk [] [4,8,22] [(7,vi 1)] obN ?_
  refine tD ?_
  obtain he0:=h
  subst res
  exact (endD [] (vi 1) []).1
 ·have h:=h.2 hb0
  refine Sem.skip' (by kernel_rfl) Wk.refl ?_
  show Sem _ _ _ _ _
  refine wkD [22] ?_
  refine qD ?_
  refine sM [] [(46,vB (decide (ze.Kind x < (3:Int)) || decide (ze.Kind x > (5:Int))))] ?_ (fun hk0=>?_)
  ·refine cD (t:=15) (b:=decide (ze.Kind x < (3:Int)) || decide (ze.Kind x > (5:Int))) (fun hb2=>?_) (fun hb2=>?_)
   ·have h:=h.1 hb2
    refine sD kk [] [4,8,46] [] obN ?_
    refine tD ?_
    obtain he0:=h
    subst res
    exact (endD [] (vi 0) []).1
   ·have h:=h.2 hb2
    refine Sem.skip' (by kernel_rfl) Wk.refl ?_
    show Sem _ _ _ _ _
    refine wkD [46] ?_
    refine qD ?_
    refine sDE kk [] [] [(52,vL zn (ze.Kids x)),(55,vi ((↑(List.length (List.map zn (ze.Kids x))):Int))),(58,vi 0)] [(52,vL zn (ze.Kids x)),(55,vi ((↑(List.length (ze.Kids x)):Int))),(58,vi 0)] obN ?_
    refine bD (id:=0) ?_
    obtain ⟨Inv10,mu11,h0Inv10,hInv10⟩:=h
    refine loD (fun (q:Int×Int)=>(fun (n:Int) (t19:Int)=>([(4,.ptr 8 0),(7,vi n),(8,zC x),(52,vL zn (ze.Kids x)),(55,vi ((↑(List.length (ze.Kids x)):Int))),(58,vi t19)]:Sta)) q.1 q.2) (fun (q:Int×Int)=>Inv10 q.1 q.2) (fun (q:Int×Int)=>mu11 q.1 q.2) (0,0) [] h0Inv10 ?_
    rintro ⟨n,t19⟩ hi
    have h:=hInv10 n t19 hi
    refine sD kk [] [] [(61,vB (decide (t19 < (↑(List.length (ze.Kids x)):Int))))] obN ?_
    refine qD ?_
    refine cD (t:=20) (b:=decide (t19 < (↑(List.length (ze.Kids x)):Int))) (fun hb12=>?_) (fun hb12=>?_)
    ·have h:=h.1 hb12
     refine Sem.skip' (by kernel_rfl) Wk.refl ?_
     show Sem _ _ _ _ _
     refine wkD [61] ?_
     refine qD ?_
     refine bD (id:=1) ?_
     obtain ⟨h13,h⟩:=h
     obtain ⟨h14,h⟩:=h
     refine sD kk [.e (zat (gd (ze.Kids x) t19))] [] [(13,.ptr 26 0),(26,zC (gd (ze.Kids x) t19))] (obC h13 (obC (zO zn (ze.Kids x) t19 _ (zP _) h13 h14) obN)) ?_
     obtain ⟨r0_2,hc15,h⟩:=h
     refine rD kk [.c (vi r0_2) []] [13,26] [(7,vi (if false=true then if (1000000:Int) > w64 (n+r0_2) then (1000000:Int) else w64 (n+r0_2) else if (1000000:Int) < w64 (n+r0_2) then (1000000:Int) else w64 (n+r0_2)))] (obC hc15 obN) ?_
     show Sem _ _ _ _ _
     refine rD kk [] [] [(58,vi (w64 (t19+1)))] obN ?_
     exact lD ((if false=true then if (1000000:Int) > w64 (n+r0_2) then (1000000:Int) else w64 (n+r0_2) else if (1000000:Int) < w64 (n+r0_2) then (1000000:Int) else w64 (n+r0_2)),(w64 (t19+1))) [] h
    ·have h:=h.2 hb12
     refine xD (i:=0) ?_
     show Sem _ _ _ _ _
     refine wkD [52,55,58,61] ?_
     obtain ⟨J17,hJ17,h⟩:=h
     refine sjD (fun (q:Int)=>J17 q) (fun (q:Int)=>(fun (n_1:Int)=>([(7,vi n_1)]:Sta)) q) ?_ ?_
     ·rintro n_1 hj
      have h:=hJ17 n_1 hj
      refine sD kk [] [] [(7,vi (if false=true then if (1000000:Int) > n_1 then (1000000:Int) else n_1 else if (1000000:Int) < n_1 then (1000000:Int) else n_1))] obN ?_
      refine tD ?_
      obtain he0:=h
      subst res
      exact (endD [] (vi (if false=true then if (1000000:Int) > n_1 then (1000000:Int) else n_1 else if (1000000:Int) < n_1 then (1000000:Int) else n_1)) []).1
     ·refine sD kk [] [] [(94,vB (ze.Kind x == (5:Int)))] obN ?_
      refine cD (t:=31) (b:=ze.Kind x == (5:Int)) (fun hb18=>?_) (fun hb18=>?_)
      ·have h:=h.1 hb18
       refine rDE kk [] [4,8,94] [(7,vi (w64 (n * if true=true then if (if false=true then if (if true=true then if ze.Hi x > ze.Lo x then ze.Hi x else ze.Lo x else if ze.Hi x < ze.Lo x then ze.Hi x else ze.Lo x) > (1000:Int) then if true=true then if ze.Hi x > ze.Lo x then ze.Hi x else ze.Lo x else if ze.Hi x < ze.Lo x then ze.Hi x else ze.Lo x else (1000:Int) else if (if true=true then if ze.Hi x > ze.Lo x then ze.Hi x else ze.Lo x else if ze.Hi x < ze.Lo x then ze.Hi x else ze.Lo x) < (1000:Int) then if true=true then if ze.Hi x > ze.Lo x then ze.Hi x else ze.Lo x else if ze.Hi x < ze.Lo x then ze.Hi x else ze.Lo x else (1000:Int)) > (1:Int) then if false=true then if (if true=true then if ze.Hi x > ze.Lo x then ze.Hi x else ze.Lo x else if ze.Hi x < ze.Lo x then ze.Hi x else ze.Lo x) > (1000:Int) then if true=true then if ze.Hi x > ze.Lo x then ze.Hi x else ze.Lo x else if ze.Hi x < ze.Lo x then ze.Hi x else ze.Lo x else (1000:Int) else if (if true=true then if ze.Hi x > ze.Lo x then ze.Hi x else ze.Lo x else if ze.Hi x < ze.Lo x then ze.Hi x else ze.Lo x) < (1000:Int) then if true=true then if ze.Hi x > ze.Lo x then ze.Hi x else ze.Lo x else if ze.Hi x < ze.Lo x then ze.Hi x else ze.Lo x else (1000:Int) else (1:Int) else if (if false=true then if (if true=true then if ze.Hi x > ze.Lo x then ze.Hi x else ze.Lo x else if ze.Hi x < ze.Lo x then ze.Hi x else ze.Lo x) > (1000:Int) then if true=true then if ze.Hi x > ze.Lo x then ze.Hi x else ze.Lo x else if ze.Hi x < ze.Lo x then ze.Hi x else ze.Lo x else (1000:Int) else if (if true=true then if ze.Hi x > ze.Lo x then ze.Hi x else ze.Lo x else if ze.Hi x < ze.Lo x then ze.Hi x else ze.Lo x) < (1000:Int) then if true=true then if ze.Hi x > ze.Lo x then ze.Hi x else ze.Lo x else if ze.Hi x < ze.Lo x then ze.Hi x else ze.Lo x else (1000:Int)) < (1:Int) then if false=true then if (if true=true then if ze.Hi x > ze.Lo x then ze.Hi x else ze.Lo x else if ze.Hi x < ze.Lo x then ze.Hi x else ze.Lo x) > (1000:Int) then if true=true then if ze.Hi x > ze.Lo x then ze.Hi x else ze.Lo x else if ze.Hi x < ze.Lo x then ze.Hi x else ze.Lo x else (1000:Int) else if (if true=true then if ze.Hi x > ze.Lo x then ze.Hi x else ze.Lo x else if ze.Hi x < ze.Lo x then ze.Hi x else ze.Lo x) < (1000:Int) then if true=true then if ze.Hi x > ze.Lo x then ze.Hi x else ze.Lo x else if ze.Hi x < ze.Lo x then ze.Hi x else ze.Lo x else (1000:Int) else (1:Int))))] [(7,vi (w64 (n * if (if false=true then if (if ze.Hi x > ze.Lo x then ze.Hi x else ze.Lo x) > (1000:Int) then if ze.Hi x > ze.Lo x then ze.Hi x else ze.Lo x else (1000:Int) else if (if ze.Hi x > ze.Lo x then ze.Hi x else ze.Lo x) < (1000:Int) then if ze.Hi x > ze.Lo x then ze.Hi x else ze.Lo x else (1000:Int)) > (1:Int) then if false=true then if (if ze.Hi x > ze.Lo x then ze.Hi x else ze.Lo x) > (1000:Int) then if ze.Hi x > ze.Lo x then ze.Hi x else ze.Lo x else (1000:Int) else if (if ze.Hi x > ze.Lo x then ze.Hi x else ze.Lo x) < (1000:Int) then if ze.Hi x > ze.Lo x then ze.Hi x else ze.Lo x else (1000:Int) else (1:Int))))] obN ?_
       exact jD (w64 (n * if (if false=true then if (if ze.Hi x > ze.Lo x then ze.Hi x else ze.Lo x) > (1000:Int) then if ze.Hi x > ze.Lo x then ze.Hi x else ze.Lo x else (1000:Int) else if (if ze.Hi x > ze.Lo x then ze.Hi x else ze.Lo x) < (1000:Int) then if ze.Hi x > ze.Lo x then ze.Hi x else ze.Lo x else (1000:Int)) > (1:Int) then if false=true then if (if ze.Hi x > ze.Lo x then ze.Hi x else ze.Lo x) > (1000:Int) then if ze.Hi x > ze.Lo x then ze.Hi x else ze.Lo x else (1000:Int) else if (if ze.Hi x > ze.Lo x then ze.Hi x else ze.Lo x) < (1000:Int) then if ze.Hi x > ze.Lo x then ze.Hi x else ze.Lo x else (1000:Int) else (1:Int))) [] h
      ·have h:=h.2 hb18
       refine Sem.skip' (by kernel_rfl) Wk.refl ?_
       exact jD n [] h
  ·rcases Bool.eq_false_or_eq_true (decide (ze.Kind x < (3:Int))) with hb1 | hb1
   ·refine sD kk [bF,bF,bF,bT] [] [(46,vB true)] (obC (gff hb1) (obC (gff hb1) (obC (gff hb1) (obC hb1 obN)))) ?_
    exact Sem.cast (by try rw [hb1];kernel_rfl) hk0
   ·refine sD kk [bT,bT,bT,bF] [] [(46,vB (decide (ze.Kind x > (5:Int))))] (obC (gft hb1) (obC (gft hb1) (obC (gft hb1) (obC hb1 obN)))) ?_
    exact Sem.cast (by try rw [hb1];kernel_rfl) hk0
set_option maxHeartbeats 1000000 in
theorem W_rx_nodes (x:ze) (most:Int) (res:Int)
 (h:(∃ (Inv18:Int→Int→Prop) (mu19:Int→Int→Nat),Inv18 (w64 (most - 1)) 0∧(∀ (most_2:Int) (t12:Int),Inv18 most_2 t12→(((decide (t12 < (↑(List.length (ze.Kids x)):Int)))=true→(∃ J25:Int→Prop,(∀ (most_4:Int),J25 most_4→(Inv18 most_4 (w64 (t12+1))∧mu19 most_4 (w64 (t12+1)) < mu19 most_2 t12))∧((0:Int)≤t12)∧t12 < ↑(List.length (ze.Kids x))∧(((decide (most_2≥(0:Int)))=true→(∃ r0_5:Int,zc1 (gd (ze.Kids x) t12) most_2 r0_5∧J25 r0_5))∧((decide (most_2≥(0:Int)))=false→J25 most_2))))∧((decide (t12 < (↑(List.length (ze.Kids x)):Int)))=false→(res=most_2)))))):zc1 x most res:=by
 unfold zc1
 have kk:=cfOk [22] 23
 refine fD (x:=bodyOf Tryz.f100) kk Tryz.func100 ?_
 refine wkS [1,4] [(1,zC x),(4,vi most)] (by kernel_rfl) ?_
 refine sD kk [] [1] [(7,.ptr 14 0),(14,zC x)] obN ?_
 refine sD kk [] [] [(4,vi (w64 (most - 1)))] obN ?_
 refine qD ?_
 refine sDE kk [] [7,14] [(31,vL zn (ze.Kids x)),(34,vi ((↑(List.length (List.map zn (ze.Kids x))):Int))),(37,vi 0)] [(31,vL zn (ze.Kids x)),(34,vi ((↑(List.length (ze.Kids x)):Int))),(37,vi 0)] obN ?_
 refine bD (id:=0) ?_
 obtain ⟨Inv18,mu19,h0Inv18,hInv18⟩:=h
 refine loD (fun (q:Int×Int)=>(fun (most_2:Int) (t12:Int)=>([(4,vi most_2),(31,vL zn (ze.Kids x)),(34,vi ((↑(List.length (ze.Kids x)):Int))),(37,vi t12)]:Sta)) q.1 q.2) (fun (q:Int×Int)=>Inv18 q.1 q.2) (fun (q:Int×Int)=>mu19 q.1 q.2) ((w64 (most - 1)),0) [] h0Inv18 ?_
 rintro ⟨most_2,t12⟩ hi
 have h:=hInv18 most_2 t12 hi
 refine sD kk [] [] [(40,vB (decide (t12 < (↑(List.length (ze.Kids x)):Int))))] obN ?_
 refine qD ?_
 refine cD (t:=13) (b:=decide (t12 < (↑(List.length (ze.Kids x)):Int))) (fun hb20=>?_) (fun hb20=>?_)
 ·have h:=h.1 hb20
  refine Sem.skip' (by kernel_rfl) Wk.refl ?_
  show Sem _ _ _ _ _
  refine wkD [40] ?_
  obtain ⟨J25,hJ25,h⟩:=h
  refine sjD (fun (q:Int)=>J25 q) (fun (q:Int)=>(fun (most_4:Int)=>([(4,vi most_4),(31,vL zn (ze.Kids x)),(34,vi ((↑(List.length (ze.Kids x)):Int))),(37,vi t12)]:Sta)) q) ?_ ?_
  ·rintro most_4 hj
   have h:=hJ25 most_4 hj
   refine rD kk [] [] [(37,vi (w64 (t12+1)))] obN ?_
   exact lD (most_4,(w64 (t12+1))) [] h
  ·refine bD (id:=1) ?_
   obtain ⟨h26,h⟩:=h
   obtain ⟨h27,h⟩:=h
   refine sD kk [.e (zat (gd (ze.Kids x) t12))] [] [(19,.ptr 38 0),(38,zC (gd (ze.Kids x) t12))] (obC h26 (obC (zO zn (ze.Kids x) t12 _ (zP _) h26 h27) obN)) ?_
   refine sD kk [] [] [(52,vB (decide (most_2≥(0:Int))))] obN ?_
   refine cD (t:=17) (b:=decide (most_2≥(0:Int))) (fun hb28=>?_) (fun hb28=>?_)
   ·have h:=h.1 hb28
    obtain ⟨r0_5,hc29,h⟩:=h
    refine rD kk [.c (vi r0_5) []] [19,38,52] [(4,vi r0_5)] (obC hc29 obN) ?_
    exact jD r0_5 [] h
   ·have h:=h.2 hb28
    refine Sem.skip' (by kernel_rfl) Wk.refl ?_
    exact jD most_2 [] h
 ·have h:=h.2 hb20
  refine xD (i:=0) ?_
  show Sem _ _ _ _ _
  refine wkD [31,34,37,40] ?_
  refine sD kk [] [4] [(13,vi most_2)] obN ?_
  refine tD ?_
  obtain he0:=h
  subst res
  exact (endD [] (vi most_2) []).1
set_option maxHeartbeats 1000000 in
theorem W_rx_Right (x:ze) (res:Bool)
 (h:(∃ r0:Bool,zaB ({ Kind:=ze.Kind x,Set:=ze.Set x,Lo:=ze.Lo x,Hi:=ze.Hi x,Kids:=ze.Kids x }) 20 r0∧(((r0)=true→(∃ r0_1:Int,zc2 x r0_1∧(((decide (r0_1≤(200:Int)))=true→(∃ r0_2:Int,zc1 x ((1000:Int)) r0_2∧(res=(decide (r0_2≥(0:Int))))))∧((decide (r0_1≤(200:Int)))=false→(res=false)))))∧((r0)=false→(res=false))))):zcx x res:=by
 unfold zcx
 have kk:=cfOk [] 15
 refine fD (x:=bodyOf Tryz.f64) kk Tryz.func64 ?_
 refine wkS [1] [(1,zC x)] (by kernel_rfl) ?_
 refine sD kk [] [1] [(4,.ptr 8 0),(8,zC x)] obN ?_
 obtain ⟨r0,hc0,h⟩:=h
 rcases Bool.eq_false_or_eq_true (r0) with hb1 | hb1
 ·have h:=h.1 hb1
  obtain ⟨r0_1,hc2,h⟩:=h
  rcases Bool.eq_false_or_eq_true (decide (r0_1≤(200:Int))) with hb3 | hb3
  ·have h:=h.1 hb3
   obtain ⟨r0_2,hc4,h⟩:=h
   refine sD kk [.c (vB r0) [],bT,bT,.c (vi r0_1) [],bT,bT,bT,bT,.c (vi r0_2) [],bT,bT] [4,8] [(7,vB (decide (r0_2≥(0:Int))))] (obC hc0 (obC (gtt hb1) (obC (gtt hb1) (obC hc2 (obC (gtt hb1) (obC hb1 (obC (gtt hb3) (obC (gtt hb3) (obC hc4 (obC (gtt hb3) (obC hb3 obN))))))))))) ?_
   refine tD ?_
   obtain he0:=h
   subst res
   exact (endD [] (vB (decide (r0_2≥(0:Int)))) []).1
  ·have h:=h.2 hb3
   refine sD kk [.c (vB r0) [],bT,bT,.c (vi r0_1) [],bT,bT,bF,bF,bF,bF] [4,8] [(7,vB false)] (obC hc0 (obC (gtt hb1) (obC (gtt hb1) (obC hc2 (obC (gtt hb1) (obC hb1 (obC (gtf hb3) (obC (gtf hb3) (obC (gtf hb3) (obC hb3 obN)))))))))) ?_
   refine tD ?_
   obtain he0:=h
   subst res
   exact (endD [] (vB false) []).1
 ·have h:=h.2 hb1
  refine sD kk [.c (vB r0) [],bF,bF,bF,bF,bF,bF,bF,bF] [4,8] [(7,vB false)] (obC hc0 (obC (gtf hb1) (obC (gtf hb1) (obC (gtf hb1) (obC hb1 (oF (oF (oF (oF obN))))))))) ?_
  refine tD ?_
  obtain he0:=h
  subst res
  exact (endD [] (vB false) []).1
end Go.Ev
set_option linter.unusedSimpArgs false
set_option linter.unusedVariables false
namespace Go.Ev
open Go Go.Proofs
set_option maxRecDepth 8000
set_option maxHeartbeats 1000000 in
theorem zew (r0:zu) (res:Bool)
 (h:(((zu.Eof r0)=true→(((!zu.Bol r0)=true→(∃ r0_1:Bool,zbP (zu.Rx r0) r0_1∧(((r0_1)=true→(∃ r0_2:Bool,zbP (zu.Trail r0) r0_2∧(res=r0_2)))∧((r0_1)=false→(res=false)))))∧((!zu.Bol r0)=false→(res=false))))∧((zu.Eof r0)=false→(∃ r0_3:Bool,zcx (zu.Rx r0) r0_3∧(((r0_3)=true→(∃ r0_4:Bool,zbP (zu.Trail r0) r0_4∧(((r0_4)=true→(res=true))∧((r0_4)=false→(∃ r0_5:Bool,zcx (zu.Trail r0) r0_5∧(res=r0_5))))))∧((r0_3)=false→(res=false))))))):zbp r0 res:=by
 unfold zbp
 have kk:=cfOk [] 31
 refine fD (x:=bodyOf Tryz.f79) kk Tryz.func79 ?_
 refine wkS [1] [(1,zaQ r0)] (by kernel_rfl) ?_
 refine sD kk [] [1] [(4,.ptr 8 0),(8,zaQ r0)] obN ?_
 refine qD ?_
 refine sD kk [] [] [(13,vB (zu.Eof r0))] obN ?_
 refine cD (t:=4) (b:=zu.Eof r0) (fun hb0=>?_) (fun hb0=>?_)
 ·have h:=h.1 hb0
  rcases Bool.eq_false_or_eq_true (!zu.Bol r0) with hb1 | hb1
  ·have h:=h.1 hb1
   obtain ⟨r0_1,hc2,h⟩:=h
   rcases Bool.eq_false_or_eq_true (r0_1) with hb3 | hb3
   ·have h:=h.1 hb3
    obtain ⟨r0_2,hc4,h⟩:=h
    refine sD kk [bT,bT,bT,.c (vB r0_1) [],bT,bT,bT,bT,.c (vB r0_2) [],bT] [4,8,13] [(7,vB r0_2)] (obC (gtt hb1) (obC (gtt hb1) (obC (gtt hb1) (obC hc2 (obC hb1 (obC (gtt hb3) (obC (gtt hb3) (obC (gtt hb3) (obC hc4 (obC hb3 obN)))))))))) ?_
    refine tD ?_
    obtain he0:=h
    subst res
    exact (endD [] (vB r0_2) []).1
   ·have h:=h.2 hb3
    refine sD kk [bT,bT,bT,.c (vB r0_1) [],bT,bF,bF,bF,bF] [4,8,13] [(7,vB false)] (obC (gtt hb1) (obC (gtt hb1) (obC (gtt hb1) (obC hc2 (obC hb1 (obC (gtf hb3) (obC (gtf hb3) (obC (gtf hb3) (obC hb3 obN))))))))) ?_
    refine tD ?_
    obtain he0:=h
    subst res
    exact (endD [] (vB false) []).1
  ·have h:=h.2 hb1
   refine sD kk [bF,bF,bF,bF,bF,bF,bF,bF] [4,8,13] [(7,vB false)] (obC (gtf hb1) (obC (gtf hb1) (obC (gtf hb1) (obC hb1 (oF (oF (oF (oF obN)))))))) ?_
   refine tD ?_
   obtain he0:=h
   subst res
   exact (endD [] (vB false) []).1
 ·have h:=h.2 hb0
  refine Sem.skip' (by kernel_rfl) Wk.refl ?_
  show Sem _ _ _ _ _
  refine wkD [13] ?_
  obtain ⟨r0_3,hc5,h⟩:=h
  rcases Bool.eq_false_or_eq_true (r0_3) with hb6 | hb6
  ·have h:=h.1 hb6
   obtain ⟨r0_4,hc7,h⟩:=h
   rcases Bool.eq_false_or_eq_true (r0_4) with hb8 | hb8
   ·have h:=h.1 hb8
    refine sD kk [.c (vB r0_3) [],bT,bT,bT,.c (vB r0_4) [],bT,bF,bF,bF,bT,bT,bT] [4,8] [(7,vB true)] (obC hc5 (obC (gtt hb6) (obC (gtt hb6) (obC (gtt hb6) (obC hc7 (obC (gtt hb6) (obC (gff hb8) (obC (gff hb8) (obC (gff hb8) (obC (gtt hb6) (obC hb8 (obC hb6 obN)))))))))))) ?_
    refine tD ?_
    obtain he0:=h
    subst res
    exact (endD [] (vB true) []).1
   ·have h:=h.2 hb8
    obtain ⟨r0_5,hc9,h⟩:=h
    refine sD kk [.c (vB r0_3) [],bT,bT,bT,.c (vB r0_4) [],bT,bT,bT,bT,.c (vB r0_5) [],bT,bF,bT] [4,8] [(7,vB r0_5)] (obC hc5 (obC (gtt hb6) (obC (gtt hb6) (obC (gtt hb6) (obC hc7 (obC (gtt hb6) (obC (gft hb8) (obC (gft hb8) (obC (gft hb8) (obC hc9 (obC (gtt hb6) (obC hb8 (obC hb6 obN))))))))))))) ?_
    refine tD ?_
    obtain he0:=h
    subst res
    exact (endD [] (vB r0_5) []).1
  ·have h:=h.2 hb6
   refine sD kk [.c (vB r0_3) [],bF,bF,bF,bF,bF,bF] [4,8] [(7,vB false)] (obC hc5 (obC (gtf hb6) (obC (gtf hb6) (obC (gtf hb6) (obC (gtf hb6) (obC (gtf hb6) (obC hb6 obN))))))) ?_
   refine tD ?_
   obtain he0:=h
   subst res
   exact (endD [] (vB false) []).1
set_option maxHeartbeats 1000000 in
theorem zhs (r0:zj) (v:Int) (res:Bool) (fin:Int)
 (h:(∃ r0_1:Bool,zbG ({ Conds:=zj.Conds r0,All:=zj.All r0,Bol:=zj.Bol r0,Rx:=zj.Rx r0,Trail:=zj.Trail r0,Eof:=zj.Eof r0,Act:=zj.Act r0,To:=zj.To r0 }) v r0_1∧(((!r0_1)=true→(res=true∧fin=v))∧((!r0_1)=false→(∃ r0_2:Bool,zbK ({ Conds:=zj.Conds r0,All:=zj.All r0,Bol:=zj.Bol r0,Rx:=zj.Rx r0,Trail:=zj.Trail r0,Eof:=zj.Eof r0,Act:=zj.Act r0,To:=zj.To r0 }) v r0_2∧(((!r0_2)=true→(res=true∧fin=v))∧((!r0_2)=false→(∃ r0_3:Bool,zbp ({ Conds:=zj.Conds r0,All:=zj.All r0,Bol:=zj.Bol r0,Rx:=zj.Rx r0,Trail:=zj.Trail r0,Eof:=zj.Eof r0,Act:=zj.Act r0,To:=zj.To r0 }) r0_3∧(res=(!r0_3)∧fin=v))))))))):zb5 r0 v res fin:=by
 unfold zb5
 have kk:=cfOk [] 19
 refine fD (x:=bodyOf Tryz.f76) kk Tryz.func76 ?_
 refine wkS [1,3,4] [(1,zak r0),(3,vi v),(4,.ptr 3 0)] (by kernel_rfl) ?_
 refine sD kk [] [1] [(7,.ptr 14 0),(14,zak r0)] obN ?_
 obtain ⟨r0_1,hc0,h⟩:=h
 rcases Bool.eq_false_or_eq_true (!r0_1) with hb1 | hb1
 ·have h:=h.1 hb1
  refine sD kk [.c (vB r0_1) [],bF,bF,bF,bF,bT,bF,bF,bF,bT] [4,7,14] [(10,vB true)] (obC hc0 (obC (gff hb1) (obC (gff hb1) (obC (gff hb1) (obC (gff hb1) (obC hb1 (oF (oF (oF (oT obN)))))))))) ?_
  refine tD ?_
  obtain ⟨he0,he1⟩:=h
  subst res fin
  exact (endD [] (vB true) [vi v]).1
 ·have h:=h.2 hb1
  obtain ⟨r0_2,hc2,h⟩:=h
  rcases Bool.eq_false_or_eq_true (!r0_2) with hb3 | hb3
  ·have h:=h.1 hb3
   refine sD kk [.c (vB r0_1) [],bT,bT,bT,.c (vB r0_2) [],bT,bF,bF,bF,bF,bT] [4,7,14] [(10,vB true)] (obC hc0 (obC (gft hb1) (obC (gft hb1) (obC (gft hb1) (obC hc2 (obC (gft hb1) (obC hb1 (obC (gff hb3) (obC (gff hb3) (obC (gff hb3) (obC hb3 obN))))))))))) ?_
   refine tD ?_
   obtain ⟨he0,he1⟩:=h
   subst res fin
   exact (endD [] (vB true) [vi v]).1
  ·have h:=h.2 hb3
   obtain ⟨r0_3,hc4,h⟩:=h
   refine sD kk [.c (vB r0_1) [],bT,bT,bT,.c (vB r0_2) [],bT,bF,bT,bT,.c (vB r0_3) [],bT,bF] [4,7,14] [(10,vB (!r0_3))] (obC hc0 (obC (gft hb1) (obC (gft hb1) (obC (gft hb1) (obC hc2 (obC (gft hb1) (obC hb1 (obC (gft hb3) (obC (gft hb3) (obC hc4 (obC (gft hb3) (obC hb3 obN)))))))))))) ?_
   refine tD ?_
   obtain ⟨he0,he1⟩:=h
   subst res fin
   exact (endD [] (vB (!r0_3)) [vi v]).1
set_option maxHeartbeats 1000000 in
theorem zaV (s0:(List zj)) (cap:Int) (res:Int) (fin:Int)
 (h:(∃ (Inv9:Int→Int→Prop) (mu10:Int→Int→Nat),Inv9 cap 0∧(∀ (o0:Int) (t8:Int),Inv9 o0 t8→(((decide (t8 < (↑(List.length s0):Int)))=true→((0:Int)≤t8)∧t8 < ↑(List.length s0)∧(∃ r0_2:Bool,∃ o_2:Int,zb5 (gd s0 t8) o0 r0_2 o_2∧(((r0_2)=true→(res=t8∧fin=o_2))∧((r0_2)=false→(Inv9 o_2 (w64 (t8+1))∧mu10 o_2 (w64 (t8+1)) < mu10 o0 t8)))))∧((decide (t8 < (↑(List.length s0):Int)))=false→(res=(-1)∧fin=o0)))))):zW s0 cap res fin:=by
 unfold zW
 have kk:=cfOk [17] 19
 refine fD (x:=bodyOf Tryz.f114) kk Tryz.func114 ?_
 refine wkS [1,3,4] [(1,vL zy s0),(3,vi cap),(4,.clo 76 [.ptr 3 0])] (by kernel_rfl) ?_
 refine sD kk [] [] [] obN ?_
 refine qD ?_
 refine sDE kk [] [] [(22,vi ((↑(List.length (List.map zy s0)):Int))),(25,vi 0)] [(22,vi ((↑(List.length s0):Int))),(25,vi 0)] obN ?_
 refine bD (id:=0) ?_
 obtain ⟨Inv9,mu10,h0Inv9,hInv9⟩:=h
 refine loD (fun (q:Int×Int)=>(fun (o0:Int) (t8:Int)=>([(1,vL zy s0),(3,vi o0),(4,.clo 76 [.ptr 3 0]),(22,vi ((↑(List.length s0):Int))),(25,vi t8)]:Sta)) q.1 q.2) (fun (q:Int×Int)=>Inv9 q.1 q.2) (fun (q:Int×Int)=>mu10 q.1 q.2) (cap,0) [] h0Inv9 ?_
 rintro ⟨o0,t8⟩ hi
 have h:=hInv9 o0 t8 hi
 refine sD kk [] [] [(28,vB (decide (t8 < (↑(List.length s0):Int))))] obN ?_
 refine qD ?_
 refine cD (t:=9) (b:=decide (t8 < (↑(List.length s0):Int))) (fun hb11=>?_) (fun hb11=>?_)
 ·have h:=h.1 hb11
  refine Sem.skip' (by kernel_rfl) Wk.refl ?_
  show Sem _ _ _ _ _
  refine wkD [28] ?_
  refine qD ?_
  refine bD (id:=1) ?_
  refine sD kk [] [] [(16,vi t8)] obN ?_
  obtain ⟨h12,h⟩:=h
  obtain ⟨h13,h⟩:=h
  obtain ⟨r0_2,o_2,hc14,h⟩:=h
  refine sD kk [.e (zbd (gd s0 t8)),.c (vB r0_2) [vi o_2]] [] [(3,vi o_2),(49,vB r0_2)] (obC h12 (obC (zO zy s0 t8 _ (zau _) h12 h13) (obC hc14 obN))) ?_
  refine cD (t:=16) (b:=r0_2) (fun hb15=>?_) (fun hb15=>?_)
  ·have h:=h.1 hb15
   refine sD kk [] [1,4,16,22,25,49] [(13,vi t8)] obN ?_
   refine tD ?_
   obtain ⟨he0,he1⟩:=h
   subst res fin
   exact (endD [] (vi t8) [vi o_2]).1
  ·have h:=h.2 hb15
   refine Sem.skip' (by kernel_rfl) Wk.refl ?_
   show Sem _ _ _ _ _
   refine wkD [16,49] ?_
   refine rD kk [] [] [(25,vi (w64 (t8+1)))] obN ?_
   exact lD (o_2,(w64 (t8+1))) [] h
 ·have h:=h.2 hb11
  refine xD (i:=0) ?_
  show Sem _ _ _ _ _
  refine wkD [1,4,22,25,28] ?_
  refine sD kk [] [] [(13,vi (-1))] obN ?_
  refine tD ?_
  obtain ⟨he0,he1⟩:=h
  subst res fin
  exact (endD [] (vi (-1)) [vi o0]).1
set_option maxHeartbeats 1000000 in
theorem zaR (s0:(List zj)) (cap:Int) (res:Bool) (fin:Int)
 (h:(∃ r0:Int,∃ o:Int,zW s0 cap r0 o∧(res=(decide (r0≥(0:Int)))∧fin=o))):zL s0 cap res fin:=by
 unfold zL
 have kk:=cfOk [] 9
 refine fD (x:=bodyOf Tryz.f80) kk Tryz.func80 ?_
 refine wkS [1,3,4] [(1,vL zy s0),(3,vi cap),(4,.clo 76 [.ptr 3 0])] (by kernel_rfl) ?_
 refine sD kk [] [] [] obN ?_
 obtain ⟨r0,o,hc0,h⟩:=h
 refine sD kk [.c (vi r0) [vi o]] [1,4] [(3,vi o),(13,vB (decide (r0≥(0:Int))))] (obC hc0 obN) ?_
 refine tD ?_
 obtain ⟨he0,he1⟩:=h
 subst res fin
 exact (endD [] (vB (decide (r0≥(0:Int)))) [vi o]).1
set_option maxHeartbeats 1000000 in
theorem W_spec_Right (s0:zh) (res:Bool)
 (h:((decide ((↑(List.length (List.map zx (zh.Conds s0))):Int) < (1:Int)))=false→((decide ((↑(List.length (List.map zx (zh.Conds s0))):Int) > (8:Int)))=false→((decide ((↑(List.length (List.map zy (zh.Rules s0))):Int) > (40:Int)))=false→(0:Nat) < List.length (zh.Conds s0))))∧(((decide ((↑(List.length (List.map zx (zh.Conds s0))):Int) < (1:Int)) || (decide ((↑(List.length (List.map zx (zh.Conds s0))):Int) > (8:Int)) || (decide ((↑(List.length (List.map zy (zh.Rules s0))):Int) > (40:Int)) || !(ByteArray.toList (zJ.Name (List.getD (zh.Conds s0) (0:Nat) default)) == ByteArray.toList { data:=#[(73:UInt8),(78:UInt8),(73:UInt8),(84:UInt8),(73:UInt8),(65:UInt8),(76:UInt8)] } && (zJ.Exclusive (List.getD (zh.Conds s0) (0:Nat) default) == false && true)))))=true→(res=false))∧((decide ((↑(List.length (List.map zx (zh.Conds s0))):Int) < (1:Int)) || (decide ((↑(List.length (List.map zx (zh.Conds s0))):Int) > (8:Int)) || (decide ((↑(List.length (List.map zy (zh.Rules s0))):Int) > (40:Int)) || !(ByteArray.toList (zJ.Name (List.getD (zh.Conds s0) (0:Nat) default)) == ByteArray.toList { data:=#[(73:UInt8),(78:UInt8),(73:UInt8),(84:UInt8),(73:UInt8),(65:UInt8),(76:UInt8)] } && (zJ.Exclusive (List.getD (zh.Conds s0) (0:Nat) default) == false && true)))))=false→(∃ (Inv14:List ByteArray→Int→Prop) (mu15:List ByteArray→Int→Nat),Inv14 ([]) 0∧(∀ (t65:List ByteArray) (t36:Int),Inv14 t65 t36→(((decide (t36 < (↑(List.length (zh.Conds s0)):Int)))=true→((0:Int)≤t36)∧t36 < ↑(List.length (zh.Conds s0))∧(∃ r0_2:Bool,zhu (zJ.Name (gd (zh.Conds s0) t36)) r0_2∧(((!r0_2)=true→(res=false))∧((!r0_2)=false→(Inv14 (sput (zJ.Name (gd (zh.Conds s0) t36)) t65) (w64 (t36+1))∧mu15 (sput (zJ.Name (gd (zh.Conds s0) t36)) t65) (w64 (t36+1)) < mu15 t65 t36)))))∧((decide (t36 < (↑(List.length (zh.Conds s0)):Int)))=false→((((↑(List.length (List.map zR t65)):Int) == (↑(List.length (zh.Conds s0)):Int))=true→(∃ r0_3:Bool,∃ o:Int,zL (zh.Rules s0) ((↑(List.length (zh.Conds s0)):Int)) r0_3 o∧(res=(!r0_3))))∧(((↑(List.length (List.map zR t65)):Int) == (↑(List.length (zh.Conds s0)):Int))=false→(res=false)))))))))):zck s0 res:=by
 unfold zck
 have kk:=cfOk [] 64
 refine fD (x:=bodyOf Tryz.f41) kk Tryz.func41 ?_
 refine wkS [1] [(1,zG s0)] (by kernel_rfl) ?_
 refine sD kk [] [1] [(4,.ptr 8 0),(8,zG s0)] obN ?_
 refine qD ?_
 obtain ⟨h3,h⟩:=h
 refine sM [] [(94,vB (decide ((↑(List.length (List.map zx (zh.Conds s0))):Int) < (1:Int)) || (decide ((↑(List.length (List.map zx (zh.Conds s0))):Int) > (8:Int)) || (decide ((↑(List.length (List.map zy (zh.Rules s0))):Int) > (40:Int)) || !(ByteArray.toList (zJ.Name (List.getD (zh.Conds s0) (0:Nat) default)) == ByteArray.toList { data:=#[(73:UInt8),(78:UInt8),(73:UInt8),(84:UInt8),(73:UInt8),(65:UInt8),(76:UInt8)] } && (zJ.Exclusive (List.getD (zh.Conds s0) (0:Nat) default) == false && true))))))] ?_ (fun hk0=>?_)
 ·refine cD (t:=31) (b:=decide ((↑(List.length (List.map zx (zh.Conds s0))):Int) < (1:Int)) || (decide ((↑(List.length (List.map zx (zh.Conds s0))):Int) > (8:Int)) || (decide ((↑(List.length (List.map zy (zh.Rules s0))):Int) > (40:Int)) || !(ByteArray.toList (zJ.Name (List.getD (zh.Conds s0) (0:Nat) default)) == ByteArray.toList { data:=#[(73:UInt8),(78:UInt8),(73:UInt8),(84:UInt8),(73:UInt8),(65:UInt8),(76:UInt8)] } && (zJ.Exclusive (List.getD (zh.Conds s0) (0:Nat) default) == false && true))))) (fun hb4=>?_) (fun hb4=>?_)
  ·have h:=h.1 hb4
   refine sD kk [] [4,8,94] [(7,vB false)] obN ?_
   refine tD ?_
   obtain he0:=h
   subst res
   exact (endD [] (vB false) []).1
  ·have h:=h.2 hb4
   refine Sem.skip' (by kernel_rfl) Wk.refl ?_
   show Sem _ _ _ _ _
   refine wkD [94] ?_
   refine sDE kk [] [] [(10,.ptr 197 0),(197,.f (FV.sl []))] [(10,.ptr 197 0),(197,vL zR ([]))] obN ?_
   refine qD ?_
   refine sDE kk [] [] [(103,vL zx (zh.Conds s0)),(106,vi ((↑(List.length (List.map zx (zh.Conds s0))):Int))),(109,vi 0)] [(103,vL zx (zh.Conds s0)),(106,vi ((↑(List.length (zh.Conds s0)):Int))),(109,vi 0)] obN ?_
   refine bD (id:=0) ?_
   obtain ⟨Inv14,mu15,h0Inv14,hInv14⟩:=h
   refine loD (fun (q:List ByteArray×Int)=>(fun (t65:List ByteArray) (t36:Int)=>([(4,.ptr 8 0),(8,zG s0),(10,.ptr 197 0),(103,vL zx (zh.Conds s0)),(106,vi ((↑(List.length (zh.Conds s0)):Int))),(109,vi t36),(197,vL zR t65)]:Sta)) q.1 q.2) (fun (q:List ByteArray×Int)=>Inv14 q.1 q.2) (fun (q:List ByteArray×Int)=>mu15 q.1 q.2) (([]),0) [] h0Inv14 ?_
   rintro ⟨t65,t36⟩ hi
   have h:=hInv14 t65 t36 hi
   refine sD kk [] [] [(112,vB (decide (t36 < (↑(List.length (zh.Conds s0)):Int))))] obN ?_
   refine qD ?_
   refine cD (t:=37) (b:=decide (t36 < (↑(List.length (zh.Conds s0)):Int))) (fun hb16=>?_) (fun hb16=>?_)
   ·have h:=h.1 hb16
    refine Sem.skip' (by kernel_rfl) Wk.refl ?_
    show Sem _ _ _ _ _
    refine wkD [112] ?_
    refine qD ?_
    refine bD (id:=1) ?_
    obtain ⟨h17,h⟩:=h
    obtain ⟨h18,h⟩:=h
    refine sD kk [.e (zaG (gd (zh.Conds s0) t36))] [] [(16,.ptr 32 0),(32,zhm (gd (zh.Conds s0) t36))] (obC h17 (obC (zO zx (zh.Conds s0) t36 _ (zaa _) h17 h18) obN)) ?_
    refine qD ?_
    obtain ⟨r0_2,hc19,h⟩:=h
    refine sD kk [.c (vB r0_2) []] [] [(130,vB (!r0_2))] (obC hc19 obN) ?_
    refine cD (t:=43) (b:=!r0_2) (fun hb20=>?_) (fun hb20=>?_)
    ·have h:=h.1 hb20
     refine sD kk [] [4,8,10,16,32,103,106,109,130,197] [(7,vB false)] obN ?_
     refine tD ?_
     obtain he0:=h
     subst res
     exact (endD [] (vB false) []).1
    ·have h:=h.2 hb20
     refine Sem.skip' (by kernel_rfl) Wk.refl ?_
     show Sem _ _ _ _ _
     refine wkD [130] ?_
     refine rDE kk [] [16,32] [(197,.f (FV.sl (putE (Value.string (zJ.Name (gd (zh.Conds s0) t36))) (FV.agg []) (List.map zR t65))))] [(197,vL zR (sput (zJ.Name (gd (zh.Conds s0) t36)) t65))] (obC (show List.all (List.map zR t65) (keyIs (TI.desc { desc:=TypeInfo.desc Proofs.Tryz.t9,size:=(1:Nat),bytes:=(16:Nat),zero:=Option.some (AV.f (FV.pv (Value.string { data:=#[] }))) }))=true from by first | exact fitsm_string_set _ | exact zeo _ | rfl | simp [isByteF,FV.fits,FV.size,FV.cells,FV.one,]) obN) ?_
     show Sem _ _ _ _ _
     refine rD kk [] [] [(109,vi (w64 (t36+1)))] obN ?_
     exact lD ((sput (zJ.Name (gd (zh.Conds s0) t36)) t65),(w64 (t36+1))) [] h
   ·have h:=h.2 hb16
    refine xD (i:=0) ?_
    show Sem _ _ _ _ _
    refine wkD [103,106,109,112] ?_
    refine sDE kk [] [] [(19,.ptr 38 0),(38,vi ((↑(List.length (List.map zx (zh.Conds s0))):Int)))] [(19,.ptr 38 0),(38,vi ((↑(List.length (zh.Conds s0)):Int)))] obN ?_
    refine sD kk [] [] [(22,.clo 76 [.ptr 38 0])] obN ?_
    rcases Bool.eq_false_or_eq_true ((↑(List.length (List.map zR t65)):Int) == (↑(List.length (zh.Conds s0)):Int)) with hb21 | hb21
    ·have h:=h.1 hb21
     obtain ⟨r0_3,o,hc22,h⟩:=h
     refine sD kk [bT,bT,bT,bT,.c (vB r0_3) [vi o],bT,bT] [4,8,10,19,22,38,197] [(7,vB (!r0_3))] (obC (gtt hb21) (obC (gtt hb21) (obC (gtt hb21) (obC (gtt hb21) (obC hc22 (obC (gtt hb21) (obC hb21 obN))))))) ?_
     refine tD ?_
     obtain he0:=h
     subst res
     exact (endD [] (vB (!r0_3)) []).1
    ·have h:=h.2 hb21
     refine sD kk [bF,bF,bF,bF,bF,bF] [4,8,10,19,22,38,197] [(7,vB false)] (obC (gtf hb21) (obC (gtf hb21) (obC (gtf hb21) (obC (gtf hb21) (obC (gtf hb21) (obC hb21 obN)))))) ?_
     refine tD ?_
     obtain he0:=h
     subst res
     exact (endD [] (vB false) []).1
 ·rcases Bool.eq_false_or_eq_true (decide ((↑(List.length (List.map zx (zh.Conds s0))):Int) < (1:Int))) with hb0 | hb0
  ·refine sD kk [bF,bF,bF,bF,bT,bF,bF,bF,bF,bT,bF,bF,bF,bF,bF,bF,bT] [] [(94,vB true)] (obC (gff hb0) (obC (gff hb0) (obC (gff hb0) (obC (gff hb0) (obC hb0 (oF (oF (oF (oF (oT (oF (oF (oF (oF (oF (oF (oT obN))))))))))))))))) ?_
   exact Sem.cast (by try rw [hb0];kernel_rfl) hk0
  ·rcases Bool.eq_false_or_eq_true (decide ((↑(List.length (List.map zx (zh.Conds s0))):Int) > (8:Int))) with hb1 | hb1
   ·refine sD kk [bT,bT,bT,bT,bF,bF,bF,bF,bF,bT,bF,bF,bF,bF,bF,bF,bT] [] [(94,vB true)] (obC (gft hb0) (obC (gft hb0) (obC (gft hb0) (obC (gft hb0) (obC hb0 (obC (gff hb1) (obC (gff hb1) (obC (gff hb1) (obC (gff hb1) (obC hb1 (oF (oF (oF (oF (oF (oF (oT obN))))))))))))))))) ?_
    exact Sem.cast (by try rw [hb0];try rw [hb1];kernel_rfl) hk0
   ·rcases Bool.eq_false_or_eq_true (decide ((↑(List.length (List.map zy (zh.Rules s0))):Int) > (40:Int))) with hb2 | hb2
    ·refine sD kk [bT,bT,bT,bT,bF,bT,bT,bT,bT,bF,bF,bF,bF,bF,bF,bF,bT] [] [(94,vB true)] (obC (gft hb0) (obC (gft hb0) (obC (gft hb0) (obC (gft hb0) (obC hb0 (obC (gft hb1) (obC (gft hb1) (obC (gft hb1) (obC (gft hb1) (obC hb1 (obC (gff hb2) (obC (gff hb2) (obC (gff hb2) (obC (gff hb2) (obC (gff hb2) (obC (gff hb2) (obC hb2 obN))))))))))))))))) ?_
     exact Sem.cast (by try rw [hb0];try rw [hb1];try rw [hb2];kernel_rfl) hk0
    ·refine sD kk [bT,bT,bT,bT,bF,bT,bT,bT,bT,bF,bT,bT,bT,.e (zaG (List.getD (zh.Conds s0) (0:Nat) default)),bT,bT,bT,bF] [] [(94,vB (!(ByteArray.toList (zJ.Name (List.getD (zh.Conds s0) (0:Nat) default)) == ByteArray.toList { data:=#[(73:UInt8),(78:UInt8),(73:UInt8),(84:UInt8),(73:UInt8),(65:UInt8),(76:UInt8)] } && (zJ.Exclusive (List.getD (zh.Conds s0) (0:Nat) default) == false && true))))] (obC (gft hb0) (obC (gft hb0) (obC (gft hb0) (obC (gft hb0) (obC hb0 (obC (gft hb1) (obC (gft hb1) (obC (gft hb1) (obC (gft hb1) (obC hb1 (obC (gft hb2) (obC (gft hb2) (obC (gft hb2) (obC (show (0:Int)≤(0:Int) from by first | decide | rfl | trivial) (obC (show (List.map zx (zh.Conds s0))[(Int.toNat (0:Int):Nat)]?=some (zaG (List.getD (zh.Conds s0) (0:Nat) default)) from by have:=zcb zx (zh.Conds s0) ((0:Nat)) _ (zaa _) (((h3 hb0) hb1) hb2);simpa only [nm,enq,zaa] using this) (obC (gft hb2) (obC (gft hb2) (obC (gft hb2) (obC hb2 obN))))))))))))))))))) ?_
     exact Sem.cast (by try rw [hb0];try rw [hb1];try rw [hb2];kernel_rfl) hk0
set_option maxHeartbeats 1000000 in
theorem zdM (s0:zb) (b:zm) (res:zi) (fin:zm)
 (h:((List.length (zm.sets b)+(1:Nat)) * (32:Nat)≤(2:Nat) ^ (47:Nat))∧((List.length (zm.follow b)+(1:Nat)) * (24:Nat)≤(2:Nat) ^ (47:Nat))∧(res=({ first:=[(↑(List.length (zm.sets b)):Int)],last:=[(↑(List.length (zm.sets b)):Int)],null:=false })∧fin=({ sets:=zm.sets b++[s0],follow:=zm.follow b++[[]] }))):zbC s0 b res fin:=by
 unfold zbC
 have kk:=cfOk [] 34
 refine fD (x:=bodyOf Tryz.f143) kk Tryz.func143 ?_
 refine wkS [1,3,4] [(1,.ptr 3 0),(3,zt b),(4,zV s0)] (by kernel_rfl) ?_
 refine sDE kk [] [4] [(10,.ptr 20 0),(13,.ptr 26 0),(20,zV s0),(26,.agg [.own 3 ([]),.own 3 ([]),vB false])] [(10,.ptr 20 0),(13,.ptr 26 0),(20,zV s0),(26,.agg [oL 3 zc ([]),oL 3 zc ([]),vB false])] obN ?_
 refine sDE kk [] [] [(16,.own 3 ([FV.pv (Value.int IntKind.i64 (↑(List.length (List.map zf (zm.sets b))):Int))]))] [(16,oL 3 zc ([(↑(List.length (zm.sets b)):Int)]))] obN ?_
 obtain ⟨h0,h⟩:=h
 obtain ⟨h1,h⟩:=h
 refine sDE kk [] [1,10,20] [(3,.agg [.own 25 (List.map zf (zm.sets b)++List.take (List.length [FV.agg [FV.pv (Value.int IntKind.u64 (zb.e0 s0)),FV.pv (Value.int IntKind.u64 (zb.e1 s0)),FV.pv (Value.int IntKind.u64 (zb.e2 s0)),FV.pv (Value.int IntKind.u64 (zb.e3 s0))]]) (List.drop (0:Nat) [FV.agg [FV.pv (Value.int IntKind.u64 (zb.e0 s0)),FV.pv (Value.int IntKind.u64 (zb.e1 s0)),FV.pv (Value.int IntKind.u64 (zb.e2 s0)),FV.pv (Value.int IntKind.u64 (zb.e3 s0))]])),.own 40 (List.map zg (zm.follow b)++List.take (List.length [FV.sl []]) (List.drop (0:Nat) [FV.sl []]))])] [(3,.agg [oL 25 zf (zm.sets b++[s0]),oL 40 zg (zm.follow b++[[]])])] (obC (show (0:Nat)=(0:Nat)∧List.length (List.map zf (zm.sets b))=List.length (List.map zf (zm.sets b)) from ⟨rfl,rfl⟩) (obC (show (List.length (List.map zf (zm.sets b))+List.length (List.take (1:Nat) (List.drop (0:Nat) [FV.agg [FV.pv (Value.int IntKind.u64 (zb.e0 s0)),FV.pv (Value.int IntKind.u64 (zb.e1 s0)),FV.pv (Value.int IntKind.u64 (zb.e2 s0)),FV.pv (Value.int IntKind.u64 (zb.e3 s0))]]))) * (32:Nat)≤(2:Nat) ^ (47:Nat) from by simpa only [nm] using h0) (obC (show List.all (List.take (1:Nat) (List.drop (0:Nat) [FV.agg [FV.pv (Value.int IntKind.u64 (zb.e0 s0)),FV.pv (Value.int IntKind.u64 (zb.e1 s0)),FV.pv (Value.int IntKind.u64 (zb.e2 s0)),FV.pv (Value.int IntKind.u64 (zb.e3 s0))]])) (FV.fits (4:Nat))=true from by first | exact fits_u64 _ | exact keysenc_u64 _ | rfl | simp [isByteF,FV.fits,FV.size,FV.cells,FV.one,]) (obC (show (0:Nat)=(0:Nat)∧List.length (List.map zg (zm.follow b))=List.length (List.map zg (zm.follow b)) from ⟨rfl,rfl⟩) (obC (show (List.length (List.map zg (zm.follow b))+List.length (List.take (1:Nat) (List.drop (0:Nat) [FV.sl []]))) * (24:Nat)≤(2:Nat) ^ (47:Nat) from by simpa only [nm] using h1) (obC (show List.all (List.take (1:Nat) (List.drop (0:Nat) [FV.sl []])) (FV.fits (1:Nat))=true from by first | decide | rfl | trivial) obN)))))) ?_
 refine sDE kk [] [16] [(26,.agg [.f (FV.sl (List.take (1:Nat) (List.drop (0:Nat) (List.map zc [(↑(List.length (zm.sets b)):Int)])))),.f (FV.sl (List.take (1:Nat) (List.drop (0:Nat) (List.map zc [(↑(List.length (zm.sets b)):Int)])))),vB false])] [(26,.agg [vL zc ([(↑(List.length (zm.sets b)):Int)]),vL zc ([(↑(List.length (zm.sets b)):Int)]),vB false])] obN ?_
 refine tD ?_
 obtain ⟨he0,he1⟩:=h
 subst res fin
 exact (endD [] (.agg [vL zc ([(↑(List.length (zm.sets b)):Int)]),vL zc ([(↑(List.length (zm.sets b)):Int)]),vB false]) [.agg [oL 25 zf (zm.sets b++[s0]),oL 40 zg (zm.follow b++[[]])]]).1
set_option maxHeartbeats 1000000 in
theorem zc0 (slices:(List (List Int))) (res:(List Int))
 (h:(∃ (Inv14:Int→Int→Prop) (mu15:Int→Int→Nat),Inv14 0 0∧(∀ (size:Int) (t11:Int),Inv14 size t11→(((decide (t11 < (↑(List.length slices):Int)))=true→(∃ J20:Prop,(J20→(Inv14 (w64 (size+(↑(List.length (gd slices t11)):Int))) (w64 (t11+1))∧mu15 (w64 (size+(↑(List.length (gd slices t11)):Int))) (w64 (t11+1)) < mu15 size t11))∧((0:Int)≤t11)∧t11 < ↑(List.length slices)∧(((decide (w64 (size+(↑(List.length (gd slices t11)):Int)) < (0:Int)))=true→False)∧((decide (w64 (size+(↑(List.length (gd slices t11)):Int)) < (0:Int)))=false→J20))))∧((decide (t11 < (↑(List.length slices):Int)))=false→((0:Int)≤size∧size≤(2:Int) ^ (40:Nat))∧(∃ (Inv32:List Int→Int→Prop) (mu33:List Int→Int→Nat),Inv32 ([]) 0∧(∀ (newslice:List Int) (t27:Int),Inv32 newslice t27→(((decide (t27 < (↑(List.length slices):Int)))=true→((0:Int)≤t27)∧t27 < ↑(List.length slices)∧((List.length newslice+List.length (gd slices t27)) * (8:Nat)≤(2:Nat) ^ (47:Nat))∧(Inv32 (newslice++gd slices t27) (w64 (t27+1))∧mu33 (newslice++gd slices t27) (w64 (t27+1)) < mu33 newslice t27))∧((decide (t27 < (↑(List.length slices):Int)))=false→(res=newslice)))))))))):zal slices res:=by
 unfold zal
 have kk:=cfOk [35] 36
 refine fD (x:=bodyOf Tryz.f94) kk Tryz.func94 ?_
 refine wkS [1] [(1,vL zg slices)] (by kernel_rfl) ?_
 refine sD kk [] [] [] obN ?_
 refine sD kk [] [] [(10,vi 0)] obN ?_
 refine qD ?_
 refine sDE kk [] [] [(28,vL zg slices),(31,vi ((↑(List.length (List.map zg slices)):Int))),(34,vi 0)] [(28,vL zg slices),(31,vi ((↑(List.length slices):Int))),(34,vi 0)] obN ?_
 refine bD (id:=0) ?_
 obtain ⟨Inv14,mu15,h0Inv14,hInv14⟩:=h
 refine loD (fun (q:Int×Int)=>(fun (size:Int) (t11:Int)=>([(1,vL zg slices),(10,vi size),(28,vL zg slices),(31,vi ((↑(List.length slices):Int))),(34,vi t11)]:Sta)) q.1 q.2) (fun (q:Int×Int)=>Inv14 q.1 q.2) (fun (q:Int×Int)=>mu15 q.1 q.2) (0,0) [] h0Inv14 ?_
 rintro ⟨size,t11⟩ hi
 have h:=hInv14 size t11 hi
 refine sD kk [] [] [(37,vB (decide (t11 < (↑(List.length slices):Int))))] obN ?_
 refine qD ?_
 refine cD (t:=12) (b:=decide (t11 < (↑(List.length slices):Int))) (fun hb16=>?_) (fun hb16=>?_)
 ·have h:=h.1 hb16
  refine Sem.skip' (by kernel_rfl) Wk.refl ?_
  show Sem _ _ _ _ _
  refine wkD [37] ?_
  obtain ⟨J20,hJ20,h⟩:=h
  refine sjD (fun (_:Unit)=>J20) (fun (_:Unit)=>[(1,vL zg slices),(10,vi (w64 (size+(↑(List.length (gd slices t11)):Int)))),(28,vL zg slices),(31,vi ((↑(List.length slices):Int))),(34,vi t11)]) ?_ ?_
  ·rintro _ hj
   have h:=hJ20 hj
   refine rD kk [] [] [(34,vi (w64 (t11+1)))] obN ?_
   exact lD ((w64 (size+(↑(List.length (gd slices t11)):Int))),(w64 (t11+1))) [] h
  ·refine bD (id:=1) ?_
   obtain ⟨h21,h⟩:=h
   obtain ⟨h22,h⟩:=h
   refine sD kk [.e (fL zc (gd slices t11))] [] [(16,vL zc (gd slices t11))] (obC h21 (obC (zO zg slices t11 _ rfl h21 h22) obN)) ?_
   refine sDE kk [] [16] [(10,vi (w64 (size+(↑(List.length (List.map zc (gd slices t11))):Int))))] [(10,vi (w64 (size+(↑(List.length (gd slices t11)):Int))))] obN ?_
   refine sD kk [] [] [(61,vB (decide (w64 (size+(↑(List.length (gd slices t11)):Int)) < (0:Int))))] obN ?_
   refine cD (t:=20) (b:=decide (w64 (size+(↑(List.length (gd slices t11)):Int)) < (0:Int))) (fun hb23=>?_) (fun hb23=>?_)
   ·have h:=h.1 hb23
    exact h.elim
   ·have h:=h.2 hb23
    refine Sem.skip' (by kernel_rfl) Wk.refl ?_
    exact jD () [] h
 ·have h:=h.2 hb16
  refine xD (i:=0) ?_
  show Sem _ _ _ _ _
  refine wkD [28,31,34,37] ?_
  obtain ⟨h24,h⟩:=h
  refine sDE kk [] [10] [(19,.own 3 ([]))] [(19,oL 3 zc ([]))] (obC h24 obN) ?_
  refine qD ?_
  refine sDE kk [] [1] [(76,vL zg slices),(79,vi ((↑(List.length (List.map zg slices)):Int))),(82,vi 0)] [(76,vL zg slices),(79,vi ((↑(List.length slices):Int))),(82,vi 0)] obN ?_
  refine bD (id:=2) ?_
  obtain ⟨Inv32,mu33,h0Inv32,hInv32⟩:=h
  refine loD (fun (q:List Int×Int)=>(fun (newslice:List Int) (t27:Int)=>([(19,oL 3 zc newslice),(76,vL zg slices),(79,vi ((↑(List.length slices):Int))),(82,vi t27)]:Sta)) q.1 q.2) (fun (q:List Int×Int)=>Inv32 q.1 q.2) (fun (q:List Int×Int)=>mu33 q.1 q.2) (([]),0) [] h0Inv32 ?_
  rintro ⟨newslice,t27⟩ hi
  have h:=hInv32 newslice t27 hi
  refine sD kk [] [] [(85,vB (decide (t27 < (↑(List.length slices):Int))))] obN ?_
  refine qD ?_
  refine cD (t:=28) (b:=decide (t27 < (↑(List.length slices):Int))) (fun hb34=>?_) (fun hb34=>?_)
  ·have h:=h.1 hb34
   refine Sem.skip' (by kernel_rfl) Wk.refl ?_
   show Sem _ _ _ _ _
   refine wkD [85] ?_
   refine qD ?_
   refine bD (id:=3) ?_
   obtain ⟨h35,h⟩:=h
   obtain ⟨h36,h⟩:=h
   refine sD kk [.e (fL zc (gd slices t27))] [] [(25,vL zc (gd slices t27))] (obC h35 (obC (zO zg slices t27 _ rfl h35 h36) obN)) ?_
   obtain ⟨h37,h⟩:=h
   refine rDE kk [] [25] [(19,.own 3 (List.map zc newslice++List.map zc (gd slices t27)))] [(19,oL 3 zc (newslice++gd slices t27))] (obC (show (0:Nat)=(0:Nat)∧List.length (List.map zc newslice)=List.length (List.map zc newslice) from ⟨rfl,rfl⟩) (obC (show (List.length (List.map zc newslice)+List.length (List.map zc (gd slices t27))) * (8:Nat)≤(2:Nat) ^ (47:Nat) from by simpa only [nm] using h37) (obC (show List.all (List.map zc (gd slices t27)) (FV.fits (1:Nat))=true from by first | exact zaY _ | exact keysenc_i64 _ | rfl | simp [isByteF,FV.fits,FV.size,FV.cells,FV.one,zc]) obN))) ?_
   show Sem _ _ _ _ _
   refine rD kk [] [] [(82,vi (w64 (t27+1)))] obN ?_
   exact lD ((newslice++gd slices t27),(w64 (t27+1))) [] h
  ·have h:=h.2 hb34
   refine xD (i:=2) ?_
   show Sem _ _ _ _ _
   refine wkD [76,79,82,85] ?_
   refine sD kk [] [19] [(7,oL 3 zc newslice)] obN ?_
   refine tD ?_
   obtain he0:=h
   subst res
   exact (endD [] (oL 3 zc newslice) []).1
set_option maxHeartbeats 1000000 in
theorem zf9 (a:(List Int)) (b:(List Int)) (res:(List Int))
 (h:(∃ r0:List Int,zal ([a,b]) r0∧List.length r0 < 1099511627776∧(List.length (sortInts r0)=List.length r0)∧List.length (sortInts r0) < 1099511627776∧(res=(compactInts (sortInts r0))))):zah a b res:=by
 unfold zah
 have kk:=cfOk [] 14
 refine fD (x:=bodyOf Tryz.f82) kk Tryz.func82 ?_
 refine wkS [1,4] [(1,vL zc a),(4,vL zc b)] (by kernel_rfl) ?_
 refine sD kk [] [] [] obN ?_
 obtain ⟨r0,hc0,h⟩:=h
 refine sD kk [.c (oL 3 zc r0) []] [1,4] [(16,oL 3 zc r0)] (obC (Eq.mp (by unfold zal;(try simp only [List.drop_zero,List.take_length]);first | done | simp only [nm,enq]:zal ([a,b]) r0=CallE Tryz.prog 94 [.f (FV.sl (List.take (List.length [FV.sl (List.map zc a),FV.sl (List.map zc b)]) (List.drop (0:Nat) [FV.sl (List.map zc a),FV.sl (List.map zc b)])))] [] (oL 3 zc r0) []) hc0) obN) ?_
 obtain ⟨h1,h⟩:=h
 obtain ⟨h2,h⟩:=h
 refine sD kk [.l (List.map zc (sortInts r0))] [] [(16,oL 3 zc (sortInts r0))] (obC (show (0:Nat)=(0:Nat)∧List.length (List.map zc r0)=List.length (List.map zc r0) from ⟨rfl,rfl⟩) (obC (show Prod.fst (sortF,false) (List.map zc r0)=some (List.map zc (sortInts r0)) from by first | exact sortF_map zc (fun _=>rfl) _ h1 | (have:=sortF_map zc (fun _=>rfl) _ h1;simpa only [nm,enq] using this)) (obC (show List.length (List.map zc (sortInts r0))=List.length (List.map zc r0) from by simpa only [nm] using h2) obN))) ?_
 obtain ⟨h3,h⟩:=h
 refine sD kk [.l (List.map zc (compactInts (sortInts r0)))] [16] [(13,oL 3 zc (compactInts (sortInts r0)))] (obC (show (0:Nat)=(0:Nat)∧List.length (List.map zc (sortInts r0))=List.length (List.map zc (sortInts r0)) from ⟨rfl,rfl⟩) (obC (show Prod.fst (compactF,true) (List.map zc (sortInts r0))=some (List.map zc (compactInts (sortInts r0))) from by first | exact zfZ zc (fun _=>rfl) _ h3 | (have:=zfZ zc (fun _=>rfl) _ h3;simpa only [nm,enq] using this)) obN)) ?_
 refine tD ?_
 obtain he0:=h
 subst res
 exact (endD [(13,0)] (vL zc (compactInts (sortInts r0))) []).1
set_option maxHeartbeats 1000000 in
theorem zd5 (from0:(List Int)) (to0:(List Int)) (b:zm) (fin:zm)
 (h:(∃ (Inv19:List (List Int)→Int→Prop) (mu20:List (List Int)→Int→Nat),Inv19 (zm.follow b) 0∧(∀ (o0_follow:List (List Int)) (t10:Int),Inv19 o0_follow t10→(((decide (t10 < (↑(List.length from0):Int)))=true→((0:Int)≤t10)∧t10 < ↑(List.length from0)∧((0:Int)≤gd from0 t10)∧(Int.toNat (gd from0 t10) < List.length o0_follow)∧gd from0 t10 < ↑(List.length o0_follow)∧(∃ r0_2:List Int,zah (gd o0_follow (gd from0 t10)) to0 r0_2∧((0:Int)≤gd from0 t10)∧(Int.toNat (gd from0 t10) < List.length o0_follow)∧gd from0 t10 < ↑(List.length o0_follow)∧(Inv19 (List.set o0_follow (Int.toNat (gd from0 t10)) r0_2) (w64 (t10+1))∧mu20 (List.set o0_follow (Int.toNat (gd from0 t10)) r0_2) (w64 (t10+1)) < mu20 o0_follow t10)))∧((decide (t10 < (↑(List.length from0):Int)))=false→(fin=({ sets:=zm.sets b,follow:=o0_follow }))))))):zaW from0 to0 b fin:=by
 unfold zaW
 have kk:=cfOk [] 30
 refine fD (x:=bodyOf Tryz.f159) kk Tryz.func159 ?_
 refine wkS [1,3,4,7] [(1,.ptr 3 0),(3,zt b),(4,vL zc from0),(7,vL zc to0)] (by kernel_rfl) ?_
 refine sDE kk [] [4] [(25,vL zc from0),(28,vi ((↑(List.length (List.map zc from0)):Int))),(31,vi 0)] [(25,vL zc from0),(28,vi ((↑(List.length from0):Int))),(31,vi 0)] obN ?_
 refine bD (id:=0) ?_
 obtain ⟨Inv19,mu20,h0Inv19,hInv19⟩:=h
 refine loD (fun (q:List (List Int)×Int)=>(fun (o0_follow:List (List Int)) (t10:Int)=>([(1,.ptr 3 0),(3,.agg [oL 25 zf (zm.sets b),oL 40 zg o0_follow]),(7,vL zc to0),(25,vL zc from0),(28,vi ((↑(List.length from0):Int))),(31,vi t10)]:Sta)) q.1 q.2) (fun (q:List (List Int)×Int)=>Inv19 q.1 q.2) (fun (q:List (List Int)×Int)=>mu20 q.1 q.2) ((zm.follow b),0) [] h0Inv19 ?_
 rintro ⟨o0_follow,t10⟩ hi
 have h:=hInv19 o0_follow t10 hi
 refine sD kk [] [] [(34,vB (decide (t10 < (↑(List.length from0):Int))))] obN ?_
 refine qD ?_
 refine cD (t:=11) (b:=decide (t10 < (↑(List.length from0):Int))) (fun hb21=>?_) (fun hb21=>?_)
 ·have h:=h.1 hb21
  refine Sem.skip' (by kernel_rfl) Wk.refl ?_
  show Sem _ _ _ _ _
  refine wkD [34] ?_
  refine qD ?_
  refine bD (id:=1) ?_
  obtain ⟨h22,h⟩:=h
  obtain ⟨h23,h⟩:=h
  refine sD kk [.e (fi (gd from0 t10))] [] [(22,vi (gd from0 t10))] (obC h22 (obC (zO zc from0 t10 _ rfl h22 h23) obN)) ?_
  obtain ⟨h24,h⟩:=h
  obtain ⟨h25,h⟩:=h
  obtain ⟨h26,h⟩:=h
  obtain ⟨r0_2,hc27,h⟩:=h
  obtain ⟨h28,h⟩:=h
  obtain ⟨h29,h⟩:=h
  obtain ⟨h30,h⟩:=h
  refine rDE kk [.e (fL zc (gd o0_follow (gd from0 t10))),.c (vL zc r0_2) [],.e (fL zc (gd o0_follow (gd from0 t10)))] [22] [(3,.agg [oL 25 zf (zm.sets b),.own 40 (List.set (List.map zg o0_follow) ((0:Nat)+Int.toNat (gd from0 t10)) (FV.sl (List.map zc r0_2)))])] [(3,.agg [oL 25 zf (zm.sets b),oL 40 zg (List.set o0_follow (Int.toNat (gd from0 t10)) r0_2)])] (obC h24 (obC (show Int.toNat (gd from0 t10) < List.length (List.map zg o0_follow) from by simpa only [nm] using h25) (obC (show (List.map zg o0_follow)[((0:Nat)+Int.toNat (gd from0 t10):Nat)]?=some (fL zc (gd o0_follow (gd from0 t10))) from by have:=zO zg o0_follow (gd from0 t10) _ rfl h24 h26;simpa only [nm,enq,zg] using this) (obC hc27 (obC h28 (obC (show Int.toNat (gd from0 t10) < List.length (List.map zg o0_follow) from by simpa only [nm] using h29) (obC (show (List.map zg o0_follow)[((0:Nat)+Int.toNat (gd from0 t10):Nat)]?=some (fL zc (gd o0_follow (gd from0 t10))) from by have:=zO zg o0_follow (gd from0 t10) _ rfl h28 h30;simpa only [nm,enq,zg] using this) obN))))))) ?_
  show Sem _ _ _ _ _
  refine rD kk [] [] [(31,vi (w64 (t10+1)))] obN ?_
  exact lD ((List.set o0_follow (Int.toNat (gd from0 t10)) r0_2),(w64 (t10+1))) [] h
 ·have h:=h.2 hb21
  refine xD (i:=0) ?_
  obtain he0:=h
  subst fin
  exact (endD [] (.tup []) [.agg [oL 25 zf (zm.sets b),oL 40 zg o0_follow]]).2
set_option maxHeartbeats 1000000 in
theorem zey (x:zi) (y:zi) (b:zm) (res:zi) (fin:zm)
 (h:(∃ o:zm,zaW (zi.last x) (zi.first y) b o∧(∃ J4:List Int→Prop,(∀ (out_first:List Int),J4 out_first→(∃ J7:List Int→Prop,(∀ (out_last:List Int),J7 out_last→(res=({ first:=out_first,last:=out_last,null:=zi.null x && zi.null y })∧fin=o))∧(((zi.null y)=true→(∃ r0_2:List Int,zah (zi.last x) (zi.last y) r0_2∧J7 r0_2))∧((zi.null y)=false→J7 (zi.last y)))))∧(((zi.null x)=true→(∃ r0_3:List Int,zah (zi.first x) (zi.first y) r0_3∧J4 r0_3))∧((zi.null x)=false→J4 (zi.first x)))))):zaK x y b res fin:=by
 unfold zaK
 have kk:=cfOk [41] 42
 refine fD (x:=bodyOf Tryz.f144) kk Tryz.func144 ?_
 refine wkS [1,3,4,7] [(1,.ptr 3 0),(3,zt b),(4,zD x),(7,zD y)] (by kernel_rfl) ?_
 refine sDE kk [] [4,7] [(13,.ptr 26 0),(16,.ptr 32 0),(19,.ptr 38 0),(26,zD x),(32,zD y),(38,.agg [.own 3 ([]),.own 3 ([]),vB false])] [(13,.ptr 26 0),(16,.ptr 32 0),(19,.ptr 38 0),(26,zD x),(32,zD y),(38,.agg [oL 3 zc ([]),oL 3 zc ([]),vB false])] obN ?_
 obtain ⟨o,hc0,h⟩:=h
 refine sD kk [.c (.tup []) [zt o]] [1] [(3,zt o)] (obC hc0 obN) ?_
 refine sM [] [(22,.ptr 44 0),(44,.agg [vL zc (zi.first x),vL zc (zi.last y),vB (zi.null x && zi.null y)])] ?_ (fun hk0=>?_)
 ·obtain ⟨J4,hJ4,h⟩:=h
  refine sjD (fun (q:List Int)=>J4 q) (fun (q:List Int)=>(fun (out_first:List Int)=>([(3,zt o),(13,.ptr 26 0),(16,.ptr 32 0),(19,.ptr 38 0),(22,.ptr 44 0),(26,zD x),(32,zD y),(38,.agg [oL 3 zc ([]),oL 3 zc ([]),vB false]),(44,.agg [vL zc out_first,vL zc (zi.last y),vB (zi.null x && zi.null y)])]:Sta)) q) ?_ ?_
  ·rintro out_first hj
   have h:=hJ4 out_first hj
   obtain ⟨J7,hJ7,h⟩:=h
   refine sjD (fun (q:List Int)=>J7 q) (fun (q:List Int)=>(fun (out_last:List Int)=>([(3,zt o),(19,.ptr 38 0),(22,.ptr 44 0),(38,.agg [oL 3 zc ([]),oL 3 zc ([]),vB false]),(44,.agg [vL zc out_first,vL zc out_last,vB (zi.null x && zi.null y)])]:Sta)) q) ?_ ?_
   ·rintro out_last hj
    have h:=hJ7 out_last hj
    refine sD kk [] [22,44] [(38,.agg [vL zc out_first,vL zc out_last,vB (zi.null x && zi.null y)])] obN ?_
    refine tD ?_
    obtain ⟨he0,he1⟩:=h
    subst res fin
    exact (endD [] (.agg [vL zc out_first,vL zc out_last,vB (zi.null x && zi.null y)]) [zt o]).1
   ·refine sD kk [] [] [(103,vB (zi.null y))] obN ?_
    refine cD (t:=34) (b:=zi.null y) (fun hb8=>?_) (fun hb8=>?_)
    ·have h:=h.1 hb8
     obtain ⟨r0_2,hc9,h⟩:=h
     refine rD kk [.c (vL zc r0_2) []] [13,16,26,32,103] [(44,.agg [vL zc out_first,vL zc r0_2,vB (zi.null x && zi.null y)])] (obC hc9 obN) ?_
     exact jD r0_2 [] h
    ·have h:=h.2 hb8
     refine Sem.skip' (by kernel_rfl) Wk.refl ?_
     exact jD (zi.last y) [] h
  ·refine sD kk [] [] [(79,vB (zi.null x))] obN ?_
   refine cD (t:=26) (b:=zi.null x) (fun hb10=>?_) (fun hb10=>?_)
   ·have h:=h.1 hb10
    obtain ⟨r0_3,hc11,h⟩:=h
    refine rD kk [.c (vL zc r0_3) []] [79] [(44,.agg [vL zc r0_3,vL zc (zi.last y),vB (zi.null x && zi.null y)])] (obC hc11 obN) ?_
    exact jD r0_3 [] h
   ·have h:=h.2 hb10
    refine Sem.skip' (by kernel_rfl) Wk.refl ?_
    exact jD (zi.first x) [] h
 ·rcases Bool.eq_false_or_eq_true (zi.null x) with hb1 | hb1
  ·refine sD kk [bT,bT,bT] [] [(22,.ptr 44 0),(44,.agg [vL zc (zi.first x),vL zc (zi.last y),vB (zi.null y)])] (obC (gtt hb1) (obC (gtt hb1) (obC hb1 obN))) ?_
   exact Sem.cast (by try rw [hb1];kernel_rfl) hk0
  ·refine sD kk [bF,bF,bF] [] [(22,.ptr 44 0),(44,.agg [vL zc (zi.first x),vL zc (zi.last y),vB false])] (obC (gtf hb1) (obC (gtf hb1) (obC hb1 obN))) ?_
   exact Sem.cast (by try rw [hb1];kernel_rfl) hk0
set_option maxHeartbeats 1000000 in
theorem zdo (x:ze) (n:Int) (b:zm) (res:(List zi)) (fin:zm)
 (h:(∃ (Inv5:List zb→List (List Int)→List zi→Int→Prop) (mu6:List zb→List (List Int)→List zi→Int→Nat),Inv5 (zm.sets b) (zm.follow b) ([]) 0∧(∀ (o0_sets:List zb) (o0_follow:List (List Int)) (out:List zi) (t8:Int),Inv5 o0_sets o0_follow out t8→(((decide (t8 < n))=true→(∃ r0_2:zi,∃ o_2:zm,zam x ({ sets:=o0_sets,follow:=o0_follow }) r0_2 o_2∧((List.length out+(1:Nat)) * (56:Nat)≤(2:Nat) ^ (47:Nat))∧(Inv5 (zm.sets o_2) (zm.follow o_2) (out++[r0_2]) (w64 (t8+1))∧mu6 (zm.sets o_2) (zm.follow o_2) (out++[r0_2]) (w64 (t8+1)) < mu6 o0_sets o0_follow out t8)))∧((decide (t8 < n))=false→(res=out∧fin=({ sets:=o0_sets,follow:=o0_follow }))))))):zar x n b res fin:=by
 unfold zar
 have kk:=cfOk [17] 18
 refine fD (x:=bodyOf Tryz.f160) kk Tryz.func160 ?_
 refine wkS [1,3,4,7] [(1,.ptr 3 0),(3,zt b),(4,zC x),(7,vi n)] (by kernel_rfl) ?_
 refine sDE kk [] [4] [(13,.ptr 26 0),(19,.own 158 ([])),(26,zC x)] [(13,.ptr 26 0),(19,oL 158 zA ([])),(26,zC x)] obN ?_
 refine qD ?_
 refine sD kk [] [7] [(22,vi n),(25,vi 0)] obN ?_
 refine bD (id:=0) ?_
 obtain ⟨Inv5,mu6,h0Inv5,hInv5⟩:=h
 refine loD (fun (q:List zb×List (List Int)×List zi×Int)=>(fun (o0_sets:List zb) (o0_follow:List (List Int)) (out:List zi) (t8:Int)=>([(1,.ptr 3 0),(3,.agg [oL 25 zf o0_sets,oL 40 zg o0_follow]),(13,.ptr 26 0),(19,oL 158 zA out),(22,vi n),(25,vi t8),(26,zC x)]:Sta)) q.1 q.2.1 q.2.2.1 q.2.2.2) (fun (q:List zb×List (List Int)×List zi×Int)=>Inv5 q.1 q.2.1 q.2.2.1 q.2.2.2) (fun (q:List zb×List (List Int)×List zi×Int)=>mu6 q.1 q.2.1 q.2.2.1 q.2.2.2) ((zm.sets b),(zm.follow b),([]),0) [] h0Inv5 ?_
 rintro ⟨o0_sets,o0_follow,out,t8⟩ hi
 have h:=hInv5 o0_sets o0_follow out t8 hi
 refine sD kk [] [] [(28,vB (decide (t8 < n)))] obN ?_
 refine qD ?_
 refine cD (t:=9) (b:=decide (t8 < n)) (fun hb7=>?_) (fun hb7=>?_)
 ·have h:=h.1 hb7
  refine Sem.skip' (by kernel_rfl) Wk.refl ?_
  show Sem _ _ _ _ _
  refine wkD [28] ?_
  refine qD ?_
  refine bD (id:=1) ?_
  obtain ⟨r0_2,o_2,hc8,h⟩:=h
  obtain ⟨h9,h⟩:=h
  refine rDE kk [.c (zD r0_2) [zt o_2]] [] [(3,zt o_2),(19,.own 158 (List.map zA out++List.take (List.length [FV.agg [FV.sl (List.map zc (zi.first r0_2)),FV.sl (List.map zc (zi.last r0_2)),FV.pv (Value.bool (zi.null r0_2))]]) (List.drop (0:Nat) [FV.agg [FV.sl (List.map zc (zi.first r0_2)),FV.sl (List.map zc (zi.last r0_2)),FV.pv (Value.bool (zi.null r0_2))]])))] [(3,zt o_2),(19,oL 158 zA (out++[r0_2]))] (obC hc8 (obC (show (0:Nat)=(0:Nat)∧List.length (List.map zA out)=List.length (List.map zA out) from ⟨rfl,rfl⟩) (obC (show (List.length (List.map zA out)+List.length (List.take (1:Nat) (List.drop (0:Nat) [FV.agg [FV.sl (List.map zc (zi.first r0_2)),FV.sl (List.map zc (zi.last r0_2)),FV.pv (Value.bool (zi.null r0_2))]]))) * (56:Nat)≤(2:Nat) ^ (47:Nat) from by simpa only [nm] using h9) (obC (show List.all (List.take (1:Nat) (List.drop (0:Nat) [FV.agg [FV.sl (List.map zc (zi.first r0_2)),FV.sl (List.map zc (zi.last r0_2)),FV.pv (Value.bool (zi.null r0_2))]])) (FV.fits (3:Nat))=true from by first | exact zaY _ | exact keysenc_i64 _ | rfl | simp [isByteF,FV.fits,FV.size,FV.cells,FV.one,zc]) obN)))) ?_
  show Sem _ _ _ _ _
  refine rD kk [] [] [(25,vi (w64 (t8+1)))] obN ?_
  exact lD ((zm.sets o_2),(zm.follow o_2),(out++[r0_2]),(w64 (t8+1))) [] h
 ·have h:=h.2 hb7
  refine xD (i:=0) ?_
  show Sem _ _ _ _ _
  refine wkD [1,13,22,25,26,28] ?_
  refine sD kk [] [] [] obN ?_
  refine tD ?_
  obtain ⟨he0,he1⟩:=h
  subst res fin
  exact (endD [] (oL 158 zA out) [.agg [oL 25 zf o0_sets,oL 40 zg o0_follow]]).1
set_option maxHeartbeats 1000000 in
theorem W_place_maybe (x:zi) (res:zi)
 (h:(res=({ first:=zi.first x,last:=zi.last x,null:=true }))):zcu x res:=by
 unfold zcu
 have kk:=cfOk [4] 5
 refine fD (x:=bodyOf Tryz.f162) kk Tryz.func162 ?_
 refine wkS [1] [(1,zD x)] (by kernel_rfl) ?_
 refine sDE kk [] [1] [(4,.ptr 8 0),(7,.ptr 14 0),(8,zD x),(14,.agg [.own 3 ([]),.own 3 ([]),vB false])] [(4,.ptr 8 0),(7,.ptr 14 0),(8,zD x),(14,.agg [oL 3 zc ([]),oL 3 zc ([]),vB false])] obN ?_
 refine sD kk [] [] [(8,.agg [vL zc (zi.first x),vL zc (zi.last x),vB true])] obN ?_
 refine sD kk [] [4,8] [(14,.agg [vL zc (zi.first x),vL zc (zi.last x),vB true])] obN ?_
 refine tD ?_
 obtain he0:=h
 subst res
 exact (endD [] (.agg [vL zc (zi.first x),vL zc (zi.last x),vB true]) []).1
end Go.Ev
set_option linter.unusedSimpArgs false
set_option linter.unusedVariables false
namespace Go.Ev
open Go Go.Proofs
set_option maxRecDepth 8000
set_option maxHeartbeats 1000000 in
theorem zex (x:ze) (b:zm) (res:zi) (fin:zm)
 (h:(∃ r0:Int,zc2 x r0∧(((r0 == 0)=true→(res=({ first:=[],last:=[],null:=true })∧fin=b))∧((r0 == 0)=false→(0:Nat) < List.length (ze.Kids x)∧(∃ r0_1:List zi,∃ o:zm,zar (List.getD (ze.Kids x) (0:Nat) default) (if (1:Int) > if ze.Hi x > ze.Lo x then ze.Hi x else ze.Lo x then (1:Int) else if ze.Hi x > ze.Lo x then ze.Hi x else ze.Lo x) b r0_1 o∧(∃ J14:List zb→List (List Int)→List zi→Prop,(∀ (o0_sets:List zb) (o0_follow:List (List Int)) (l:List zi),J14 o0_sets o0_follow l→(zag l∧(List.length l < 1099511627776∧∃ (Inv24:Nat→List zb→List (List Int)→List Int→List Int→Bool→Prop),Inv24 0 o0_sets o0_follow ([]) ([]) true∧(∀ (i:Nat) (y:zi),i < List.length l→l[List.length l - 1 - i]?=some y→∀ (o0_sets_1:List zb) (o0_follow_1:List (List Int)) (out_first:List Int) (out_last:List Int) (out_null:Bool),Inv24 i o0_sets_1 o0_follow_1 out_first out_last out_null→(∃ r0_6:zi,∃ o_4:zm,zaK y ({ first:=out_first,last:=out_last,null:=out_null }) ({ sets:=o0_sets_1,follow:=o0_follow_1 }) r0_6 o_4∧(((decide (ze.Hi x≥(0:Int)) && decide ((↑(List.length l):Int) - 1 - (↑i:Int)≥ze.Lo x))=true→(∃ r0_7:zi,zcu r0_6 r0_7∧Inv24 (i+1) (zm.sets o_4) (zm.follow o_4) (zi.first r0_7) (zi.last r0_7) (zi.null r0_7)))∧((decide (ze.Hi x≥(0:Int)) && decide ((↑(List.length l):Int) - 1 - (↑i:Int)≥ze.Lo x))=false→Inv24 (i+1) (zm.sets o_4) (zm.follow o_4) (zi.first r0_6) (zi.last r0_6) (zi.null r0_6)))))∧(∀ (o0_sets_1:List zb) (o0_follow_1:List (List Int)) (out_first:List Int) (out_last:List Int) (out_null:Bool),Inv24 (List.length l) o0_sets_1 o0_follow_1 out_first out_last out_null→(res=({ first:=out_first,last:=out_last,null:=out_null })∧fin=({ sets:=o0_sets_1,follow:=o0_follow_1 }))))))∧(((decide (ze.Hi x < (0:Int)))=true→((0:Int)≤w64 ((↑(List.length r0_1):Int) - 1))∧(Int.toNat (w64 ((↑(List.length r0_1):Int) - 1)) < List.length r0_1)∧Int.toNat (w64 ((↑(List.length r0_1):Int) - 1)) < List.length r0_1∧Int.toNat (w64 ((↑(List.length r0_1):Int) - 1)) < List.length r0_1∧(∃ o_5:zm,zaW (zi.last (gd r0_1 (w64 ((↑(List.length r0_1):Int) - 1)))) (zi.first (gd r0_1 (w64 ((↑(List.length r0_1):Int) - 1)))) o o_5∧Int.toNat (w64 ((↑(List.length r0_1):Int) - 1)) < List.length r0_1∧(((zi.null (gd r0_1 (w64 ((↑(List.length r0_1):Int) - 1))))=true→((zi.null (gd r0_1 (w64 ((↑(List.length r0_1):Int) - 1))))=true→Int.toNat (w64 ((↑(List.length r0_1):Int) - 1)) < List.length r0_1)∧J14 (zm.sets o_5) (zm.follow o_5) (List.set r0_1 (Int.toNat (w64 ((↑(List.length r0_1):Int) - 1))) { first:=zi.first (gd r0_1 (w64 ((↑(List.length r0_1):Int) - 1))),last:=zi.last (gd r0_1 (w64 ((↑(List.length r0_1):Int) - 1))),null:=true }))∧((zi.null (gd r0_1 (w64 ((↑(List.length r0_1):Int) - 1))))=false→((zi.null (gd r0_1 (w64 ((↑(List.length r0_1):Int) - 1))))=false→Int.toNat (w64 ((↑(List.length r0_1):Int) - 1)) < List.length r0_1)∧J14 (zm.sets o_5) (zm.follow o_5) (List.set r0_1 (Int.toNat (w64 ((↑(List.length r0_1):Int) - 1))) { first:=zi.first (gd r0_1 (w64 ((↑(List.length r0_1):Int) - 1))),last:=zi.last (gd r0_1 (w64 ((↑(List.length r0_1):Int) - 1))),null:=ze.Lo x == 0 })))))∧((decide (ze.Hi x < (0:Int)))=false→J14 (zm.sets o) (zm.follow o) r0_1)))))))):zbq x b res fin:=by
 unfold zbq
 have kk:=cfOk [75] 76
 refine fD (x:=bodyOf Tryz.f145) kk Tryz.func145 ?_
 refine wkS [1,3,4] [(1,.ptr 3 0),(3,zt b),(4,zC x)] (by kernel_rfl) ?_
 refine sDE kk [] [1,4] [(7,.ptr 14 0),(10,.ptr 20 0),(13,.ptr 26 0),(14,.ptr 3 0),(20,zC x),(26,.agg [.own 3 ([]),.own 3 ([]),vB false])] [(7,.ptr 14 0),(10,.ptr 20 0),(13,.ptr 26 0),(14,.ptr 3 0),(20,zC x),(26,.agg [oL 3 zc ([]),oL 3 zc ([]),vB false])] obN ?_
 refine qD ?_
 obtain ⟨r0,hc0,h⟩:=h
 refine sD kk [.c (vi r0) []] [] [(37,vB (r0 == 0))] (obC hc0 obN) ?_
 refine cD (t:=12) (b:=r0 == 0) (fun hb1=>?_) (fun hb1=>?_)
 ·have h:=h.1 hb1
  refine sDE kk [] [7,10,14,20,37] [(26,.agg [.own 3 ([]),.own 3 ([]),vB true])] [(26,.agg [oL 3 zc ([]),oL 3 zc ([]),vB true])] obN ?_
  refine tD ?_
  obtain ⟨he0,he1⟩:=h
  subst res fin
  exact (endD [(26,0),(26,1)] (.agg [vL zc ([]),vL zc ([]),vB true]) [zt b]).1
 ·have h:=h.2 hb1
  refine Sem.skip' (by kernel_rfl) Wk.refl ?_
  show Sem _ _ _ _ _
  refine wkD [37] ?_
  obtain ⟨h2,h⟩:=h
  obtain ⟨r0_1,o,hc3,h⟩:=h
  refine sD kk [.e (zat (List.getD (ze.Kids x) (0:Nat) default)),.c (oL 158 zA r0_1) [zt o]] [] [(3,zt o),(16,oL 158 zA r0_1)] (obC (show (0:Int)≤(0:Int) from by first | decide | rfl | trivial) (obC (show (List.map zn (ze.Kids x))[(Int.toNat (0:Int):Nat)]?=some (zat (List.getD (ze.Kids x) (0:Nat) default)) from by have:=zcb zn (ze.Kids x) ((0:Nat)) _ (zP _) h2;simpa only [nm,enq,zP] using this) (obC (Eq.mp (by unfold zar;(try simp only [List.drop_zero,List.take_length]);first | done | simp only [nm,enq]:zar (List.getD (ze.Kids x) (0:Nat) default) (if (1:Int) > if ze.Hi x > ze.Lo x then ze.Hi x else ze.Lo x then (1:Int) else if ze.Hi x > ze.Lo x then ze.Hi x else ze.Lo x) b r0_1 o=CallE Tryz.prog 160 [.ptr 3 0,.agg [vi (ze.Kind (List.getD (ze.Kids x) (0:Nat) default)),vI .u64 (zb.e0 (ze.Set (List.getD (ze.Kids x) (0:Nat) default))),vI .u64 (zb.e1 (ze.Set (List.getD (ze.Kids x) (0:Nat) default))),vI .u64 (zb.e2 (ze.Set (List.getD (ze.Kids x) (0:Nat) default))),vI .u64 (zb.e3 (ze.Set (List.getD (ze.Kids x) (0:Nat) default))),vi (ze.Lo (List.getD (ze.Kids x) (0:Nat) default)),vi (ze.Hi (List.getD (ze.Kids x) (0:Nat) default)),vL zn (ze.Kids (List.getD (ze.Kids x) (0:Nat) default))],vi (if true=true then if (1:Int) > if true=true then if ze.Hi x > ze.Lo x then ze.Hi x else ze.Lo x else if ze.Hi x < ze.Lo x then ze.Hi x else ze.Lo x then (1:Int) else if true=true then if ze.Hi x > ze.Lo x then ze.Hi x else ze.Lo x else if ze.Hi x < ze.Lo x then ze.Hi x else ze.Lo x else if (1:Int) < if true=true then if ze.Hi x > ze.Lo x then ze.Hi x else ze.Lo x else if ze.Hi x < ze.Lo x then ze.Hi x else ze.Lo x then (1:Int) else if true=true then if ze.Hi x > ze.Lo x then ze.Hi x else ze.Lo x else if ze.Hi x < ze.Lo x then ze.Hi x else ze.Lo x)] [.agg [oL 25 zf (zm.sets b),oL 40 zg (zm.follow b)]] (oL 158 zA r0_1) [zt o]) hc3) obN))) ?_
  refine sDE kk [] [] [(19,.ptr 38 0),(38,.agg [.own 3 ([]),.own 3 ([]),vB true])] [(19,.ptr 38 0),(38,.agg [oL 3 zc ([]),oL 3 zc ([]),vB true])] obN ?_
  obtain ⟨J14,hJ14,h⟩:=h
  refine sjD (fun (q:List zb×List (List Int)×List zi)=>J14 q.1 q.2.1 q.2.2) (fun (q:List zb×List (List Int)×List zi)=>(fun (o0_sets:List zb) (o0_follow:List (List Int)) (l:List zi)=>([(3,.agg [oL 25 zf o0_sets,oL 40 zg o0_follow]),(7,.ptr 14 0),(10,.ptr 20 0),(13,.ptr 26 0),(14,.ptr 3 0),(16,oL 158 zA l),(19,.ptr 38 0),(20,zC x),(26,.agg [oL 3 zc ([]),oL 3 zc ([]),vB false]),(38,.agg [oL 3 zc ([]),oL 3 zc ([]),vB true])]:Sta)) q.1 q.2.1 q.2.2) ?_ ?_
  ·rintro ⟨o0_sets,o0_follow,l⟩ hj
   have h:=hJ14 o0_sets o0_follow l hj
   refine qD ?_
   obtain ⟨hc15,h⟩:=h
   refine sD kk [.c (.clo 169 [.fp (fL zA l) 0]) []] [16] [(172,.clo 169 [.fp (fL zA l) 0])] (obC (Eq.mp (by unfold zag;(try simp only [List.drop_zero,List.take_length]);first | done | simp only [nm,enq]:zag l=CallE Tryz.prog 161 [.f (FV.sl (List.take (List.length (List.map zA l)) (List.drop (0:Nat) (List.map zA l))))] [] (.clo 169 [.fp (fL zA l) 0]) []) hc15) obN) ?_
   refine bD (id:=0) ?_
   obtain ⟨hl25,Inv24,h0Inv24,hRInv24,hDInv24⟩:=h
   refine Sem.range (α:=zi) (σ:=List zb×List (List Int)×List Int×List Int×Bool) (c:=(cf [75] 76)) (by rfl) (tg:=57) (p0:=58) (p1:=59) (by kernel_rfl) (xs:=l) (by kernel_rfl) back_ok_169 (ey:=(fun (y:zi)=>(za1 y:FV))) (sz:=3) (fun y=>zab y) (fun y=>by simp [FV.fits,FV.size,FV.cells,FV.one,zab]) (by omega) [(7,.ptr 14 0),(10,.ptr 20 0),(13,.ptr 26 0),(19,.ptr 38 0)] [3,14,20,26,38] (fun (q:List zb×List (List Int)×List Int×List Int×Bool)=>(fun (o0_sets_1:List zb) (o0_follow_1:List (List Int)) (out_first:List Int) (out_last:List Int) (out_null:Bool)=>([.agg [oL 25 zf o0_sets_1,oL 40 zg o0_follow_1],.ptr 3 0,zC x,.agg [oL 3 zc ([]),oL 3 zc ([]),vB false],.agg [vL zc out_first,vL zc out_last,vB out_null]]:List AV)) q.1 q.2.1 q.2.2.1 q.2.2.2.1 q.2.2.2.2) (fun (i:Nat) (q:List zb×List (List Int)×List Int×List Int×Bool)=>Inv24 i q.1 q.2.1 q.2.2.1 q.2.2.2.1 q.2.2.2.2) (o0_sets,o0_follow,([]),([]),true) ((wkE (G':=[(3,.agg [oL 25 zf o0_sets,oL 40 zg o0_follow]),(7,.ptr 14 0),(10,.ptr 20 0),(13,.ptr 26 0),(14,.ptr 3 0),(19,.ptr 38 0),(20,zC x),(26,.agg [oL 3 zc ([]),oL 3 zc ([]),vB false]),(38,.agg [vL zc ([]),vL zc ([]),vB true])]) [(38,0),(38,1)] [3,7,10,13,14,19,20,26,38] (by kernel_rfl)).trans (Wk.pick [7,10,13,19,3,14,20,26,38] (by kernel_rfl))) h0Inv24 (by rfl) (fun q=>by rfl) (by rfl) (by decide) (fun q q'=>by rfl) (Nat.le_of_ble_eq_true rfl) (Nat.le_of_ble_eq_true rfl) (by decide) ?_ ?_
   ·rintro i ⟨o0_sets_1,o0_follow_1,out_first,out_last,out_null⟩ y hi hy hinv
    have h:=hRInv24 i y hi hy o0_sets_1 o0_follow_1 out_first out_last out_null hinv
    refine Sem.weak (Wk.pick [3,6,7,9,10,12,13,15,19,175,178] (G':=[(3,.agg [oL 25 zf o0_sets_1,oL 40 zg o0_follow_1]),(6,.ptr 3 0),(7,.ptr 6 0),(9,zC x),(10,.ptr 9 0),(12,.agg [oL 3 zc ([]),oL 3 zc ([]),vB false]),(13,.ptr 12 0),(15,.agg [vL zc out_first,vL zc out_last,vB out_null]),(19,.ptr 15 0),(175,vi ((↑(List.length l):Int) - 1 - (↑i:Int))),(178,zD y)]) (by kernel_rfl)) ?_
    show Sem _ (cfr [75] 76) (sq1 (sq1 (sq2 (sq1 (sq2 (sq2 (sq2 (sq2 (sq2 (bodyOf Tryz.f145)))))))))) _ _
    have kr:=cfrOk [75] 76
    refine sD kr [] [13,175] [(25,vi ((↑(List.length l):Int) - 1 - (↑i:Int)))] obN ?_
    refine rD kr [] [178] [(28,.ptr 56 0),(56,zD y)] obN ?_
    refine ⟨rfl,?_⟩
    show Sem _ (cfr [75] 76) (sq2 (sq1 (sq2 (sq1 (sq2 (sq2 (sq2 (sq2 (sq2 (bodyOf Tryz.f145)))))))))) _ _
    refine bD (id:=1) ?_
    obtain ⟨r0_6,o_4,hc27,h⟩:=h
    refine sD kr [.c (zD r0_6) [zt o_4]] [7,28,56] [(3,zt o_4),(15,zD r0_6)] (obC hc27 obN) ?_
    refine sM [10,25] [(217,vB (decide (ze.Hi x≥(0:Int)) && decide ((↑(List.length l):Int) - 1 - (↑i:Int)≥ze.Lo x)))] ?_ (fun hk0=>?_)
    ·refine cD (t:=72) (b:=decide (ze.Hi x≥(0:Int)) && decide ((↑(List.length l):Int) - 1 - (↑i:Int)≥ze.Lo x)) (fun hb29=>?_) (fun hb29=>?_)
     ·have h:=h.1 hb29
      obtain ⟨r0_7,hc30,h⟩:=h
      refine rD kr [.c (zD r0_7) []] [19,217] [(15,zD r0_7)] (obC hc30 obN) ?_
      exact rndE (wkE [] [3,6,9,12,15] (by rfl)) (by kernel_rfl) ⟨((zm.sets o_4),(zm.follow o_4),(zi.first r0_7),(zi.last r0_7),(zi.null r0_7)),rfl,h⟩
     ·have h:=h.2 hb29
      refine Sem.skip' (by kernel_rfl) Wk.refl ?_
      exact rndE (wkE [] [3,6,9,12,15] (by rfl)) (by kernel_rfl) ⟨((zm.sets o_4),(zm.follow o_4),(zi.first r0_6),(zi.last r0_6),(zi.null r0_6)),rfl,h⟩
    ·rcases Bool.eq_false_or_eq_true (decide (ze.Hi x≥(0:Int))) with hb28 | hb28
     ·refine sD kr [bT,bT,bT,bT,bT] [10,25] [(217,vB (decide ((↑(List.length l):Int) - 1 - (↑i:Int)≥ze.Lo x)))] (obC (gtt hb28) (obC (gtt hb28) (obC (gtt hb28) (obC (gtt hb28) (obC hb28 obN))))) ?_
      exact Sem.cast (by try rw [hb28];kernel_rfl) hk0
     ·refine sD kr [bF,bF,bF,bF,bF] [10,25] [(217,vB false)] (obC (gtf hb28) (obC (gtf hb28) (obC (gtf hb28) (obC (gtf hb28) (obC hb28 obN))))) ?_
      exact Sem.cast (by try rw [hb28];kernel_rfl) hk0
   ·rintro ⟨o0_sets_1,o0_follow_1,out_first,out_last,out_null⟩ hinv
    have h:=hDInv24 o0_sets_1 o0_follow_1 out_first out_last out_null hinv
    refine ⟨[(3,.agg [oL 25 zf o0_sets_1,oL 40 zg o0_follow_1]),(13,.ptr 26 0),(19,.ptr 38 0),(26,.agg [oL 3 zc ([]),oL 3 zc ([]),vB false]),(38,.agg [vL zc out_first,vL zc out_last,vB out_null])],Wk.pick [3,13,19,26,38] (by kernel_rfl),?_⟩
    show Sem _ _ _ _ _
    refine sD kk [] [19,38] [(26,.agg [vL zc out_first,vL zc out_last,vB out_null])] obN ?_
    refine tD ?_
    obtain ⟨he0,he1⟩:=h
    subst res fin
    exact (endD [] (.agg [vL zc out_first,vL zc out_last,vB out_null]) [.agg [oL 25 zf o0_sets_1,oL 40 zg o0_follow_1]]).1
  ·refine sD kk [] [] [(85,vB (decide (ze.Hi x < (0:Int))))] obN ?_
   refine cD (t:=28) (b:=decide (ze.Hi x < (0:Int))) (fun hb31=>?_) (fun hb31=>?_)
   ·have h:=h.1 hb31
    obtain ⟨h32,h⟩:=h
    obtain ⟨h33,h⟩:=h
    refine sDE kk [] [85] [(22,AV.ep (16:Nat) (0:Nat) ((0:Nat)+Int.toNat (w64 ((↑(List.length (List.map zA r0_1)):Int) - 1))) (0:Nat))] [(22,AV.ep (16:Nat) (0:Nat) (Int.toNat (w64 ((↑(List.length r0_1):Int) - 1))) (0:Nat))] (obC (show (0:Int)≤w64 ((↑(List.length (List.map zA r0_1)):Int) - 1) from by simpa only [nm] using h32) (obC (show Int.toNat (w64 ((↑(List.length (List.map zA r0_1)):Int) - 1)) < List.length (List.map zA r0_1) from by simpa only [nm] using h33) obN)) ?_
    obtain ⟨h34,h⟩:=h
    obtain ⟨h35,h⟩:=h
    obtain ⟨o_5,hc36,h⟩:=h
    refine sD kk [.e (za1 (gd r0_1 (w64 ((↑(List.length r0_1):Int) - 1)))),.e (za1 (gd r0_1 (w64 ((↑(List.length r0_1):Int) - 1)))),.c (.tup []) [zt o_5]] [] [(3,zt o_5)] (obC (zcb zA r0_1 (Int.toNat (w64 ((↑(List.length r0_1):Int) - 1))) _ (zab _) h34) (obC (zcb zA r0_1 (Int.toNat (w64 ((↑(List.length r0_1):Int) - 1))) _ (zab _) h35) (obC hc36 obN))) ?_
    obtain ⟨h37,h⟩:=h
    rcases Bool.eq_false_or_eq_true (zi.null (gd r0_1 (w64 ((↑(List.length r0_1):Int) - 1)))) with hb38 | hb38
    ·have h:=h.1 hb38
     obtain ⟨h40,h⟩:=h
     refine rDE kk [.e (za1 (gd r0_1 (w64 ((↑(List.length r0_1):Int) - 1)))),bF,bF,bF,bT,.e (za1 (gd r0_1 (w64 ((↑(List.length r0_1):Int) - 1))))] [22] [(16,.own 158 (List.set (List.map zA r0_1) (Int.toNat (w64 ((↑(List.length r0_1):Int) - 1))) (FV.agg [FV.sl (List.map zc (zi.first (gd r0_1 (w64 ((↑(List.length r0_1):Int) - 1))))),FV.sl (List.map zc (zi.last (gd r0_1 (w64 ((↑(List.length r0_1):Int) - 1))))),FV.pv (Value.bool true)])))] [(16,oL 158 zA (List.set r0_1 (Int.toNat (w64 ((↑(List.length r0_1):Int) - 1))) { first:=zi.first (gd r0_1 (w64 ((↑(List.length r0_1):Int) - 1))),last:=zi.last (gd r0_1 (w64 ((↑(List.length r0_1):Int) - 1))),null:=true }))] (obC (zcb zA r0_1 (Int.toNat (w64 ((↑(List.length r0_1):Int) - 1))) _ (zab _) h37) (obC (gff hb38) (obC (gff hb38) (obC (gff hb38) (obC hb38 (obC (zcb zA r0_1 (Int.toNat (w64 ((↑(List.length r0_1):Int) - 1))) _ (zab _) (h40 hb38)) obN)))))) ?_
     exact jD ((zm.sets o_5),(zm.follow o_5),(List.set r0_1 (Int.toNat (w64 ((↑(List.length r0_1):Int) - 1))) { first:=zi.first (gd r0_1 (w64 ((↑(List.length r0_1):Int) - 1))),last:=zi.last (gd r0_1 (w64 ((↑(List.length r0_1):Int) - 1))),null:=true })) [] h
    ·have h:=h.2 hb38
     obtain ⟨h39,h⟩:=h
     refine rDE kk [.e (za1 (gd r0_1 (w64 ((↑(List.length r0_1):Int) - 1)))),bT,bT,bT,bF,.e (za1 (gd r0_1 (w64 ((↑(List.length r0_1):Int) - 1))))] [22] [(16,.own 158 (List.set (List.map zA r0_1) (Int.toNat (w64 ((↑(List.length r0_1):Int) - 1))) (FV.agg [FV.sl (List.map zc (zi.first (gd r0_1 (w64 ((↑(List.length r0_1):Int) - 1))))),FV.sl (List.map zc (zi.last (gd r0_1 (w64 ((↑(List.length r0_1):Int) - 1))))),FV.pv (Value.bool (ze.Lo x == 0))])))] [(16,oL 158 zA (List.set r0_1 (Int.toNat (w64 ((↑(List.length r0_1):Int) - 1))) { first:=zi.first (gd r0_1 (w64 ((↑(List.length r0_1):Int) - 1))),last:=zi.last (gd r0_1 (w64 ((↑(List.length r0_1):Int) - 1))),null:=ze.Lo x == 0 }))] (obC (zcb zA r0_1 (Int.toNat (w64 ((↑(List.length r0_1):Int) - 1))) _ (zab _) h37) (obC (gft hb38) (obC (gft hb38) (obC (gft hb38) (obC hb38 (obC (zcb zA r0_1 (Int.toNat (w64 ((↑(List.length r0_1):Int) - 1))) _ (zab _) (h39 hb38)) obN)))))) ?_
     exact jD ((zm.sets o_5),(zm.follow o_5),(List.set r0_1 (Int.toNat (w64 ((↑(List.length r0_1):Int) - 1))) { first:=zi.first (gd r0_1 (w64 ((↑(List.length r0_1):Int) - 1))),last:=zi.last (gd r0_1 (w64 ((↑(List.length r0_1):Int) - 1))),null:=ze.Lo x == 0 })) [] h
   ·have h:=h.2 hb31
    refine Sem.skip' (by kernel_rfl) Wk.refl ?_
    exact jD ((zm.sets o),(zm.follow o),r0_1) [] h
set_option maxHeartbeats 1000000 in
theorem zdN (x:ze) (b:zm) (res:zi) (fin:zm)
 (h:(((ze.Kind x == (2:Int))=true→(∃ r0:zi,∃ o:zm,zbC (ze.Set x) b r0 o∧(res=r0∧fin=o)))∧((ze.Kind x == (2:Int))=false→(((ze.Kind x == (3:Int))=true→(∃ (Inv12:List zb→List (List Int)→List Int→List Int→Bool→Int→Prop) (mu13:List zb→List (List Int)→List Int→List Int→Bool→Int→Nat),Inv12 (zm.sets b) (zm.follow b) ([]) ([]) true 0∧(∀ (o0_sets:List zb) (o0_follow:List (List Int)) (out_first:List Int) (out_last:List Int) (out_null:Bool) (t26:Int),Inv12 o0_sets o0_follow out_first out_last out_null t26→(((decide (t26 < (↑(List.length (ze.Kids x)):Int)))=true→((0:Int)≤t26)∧t26 < ↑(List.length (ze.Kids x))∧(∃ r0_5:zi,∃ o_5:zm,zam (gd (ze.Kids x) t26) ({ sets:=o0_sets,follow:=o0_follow }) r0_5 o_5∧(∃ r0_6:zi,∃ o_6:zm,zaK ({ first:=out_first,last:=out_last,null:=out_null }) r0_5 o_5 r0_6 o_6∧(Inv12 (zm.sets o_6) (zm.follow o_6) (zi.first r0_6) (zi.last r0_6) (zi.null r0_6) (w64 (t26+1))∧mu13 (zm.sets o_6) (zm.follow o_6) (zi.first r0_6) (zi.last r0_6) (zi.null r0_6) (w64 (t26+1)) < mu13 o0_sets o0_follow out_first out_last out_null t26))))∧((decide (t26 < (↑(List.length (ze.Kids x)):Int)))=false→(res=({ first:=out_first,last:=out_last,null:=out_null })∧fin=({ sets:=o0_sets,follow:=o0_follow })))))))∧((ze.Kind x == (3:Int))=false→(((ze.Kind x == (4:Int))=true→(∃ (Inv32:List zb→List (List Int)→List Int→List Int→Bool→Int→Prop) (mu33:List zb→List (List Int)→List Int→List Int→Bool→Int→Nat),Inv32 (zm.sets b) (zm.follow b) ([]) ([]) false 0∧(∀ (o0_sets_1:List zb) (o0_follow_1:List (List Int)) (out_first_1:List Int) (out_last_1:List Int) (out_null_1:Bool) (t43:Int),Inv32 o0_sets_1 o0_follow_1 out_first_1 out_last_1 out_null_1 t43→(((decide (t43 < (↑(List.length (ze.Kids x)):Int)))=true→((0:Int)≤t43)∧t43 < ↑(List.length (ze.Kids x))∧(∃ r0_13:zi,∃ o_9:zm,zam (gd (ze.Kids x) t43) ({ sets:=o0_sets_1,follow:=o0_follow_1 }) r0_13 o_9∧(∃ r0_14:List Int,zah out_first_1 (zi.first r0_13) r0_14∧(∃ r0_15:List Int,zah out_last_1 (zi.last r0_13) r0_15∧(Inv32 (zm.sets o_9) (zm.follow o_9) r0_14 r0_15 (out_null_1 || zi.null r0_13) (w64 (t43+1))∧mu33 (zm.sets o_9) (zm.follow o_9) r0_14 r0_15 (out_null_1 || zi.null r0_13) (w64 (t43+1)) < mu33 o0_sets_1 o0_follow_1 out_first_1 out_last_1 out_null_1 t43)))))∧((decide (t43 < (↑(List.length (ze.Kids x)):Int)))=false→(res=({ first:=out_first_1,last:=out_last_1,null:=out_null_1 })∧fin=({ sets:=o0_sets_1,follow:=o0_follow_1 })))))))∧((ze.Kind x == (4:Int))=false→(((ze.Kind x == (5:Int))=true→(∃ r0_16:zi,∃ o_10:zm,zbq x b r0_16 o_10∧(res=r0_16∧fin=o_10)))∧((ze.Kind x == (5:Int))=false→(res=({ first:=[],last:=[],null:=true })∧fin=b)))))))))):zam x b res fin:=by
 unfold zam
 have kk:=cfOk [37,68] 75
 refine fD (x:=bodyOf Tryz.f126) kk Tryz.func126 ?_
 refine wkS [1,3,4] [(1,.ptr 3 0),(3,zt b),(4,zC x)] (by kernel_rfl) ?_
 refine sDE kk [] [4] [(10,.ptr 20 0),(13,.ptr 26 0),(20,zC x),(26,.agg [.own 3 ([]),.own 3 ([]),vB false])] [(10,.ptr 20 0),(13,.ptr 26 0),(20,zC x),(26,.agg [oL 3 zc ([]),oL 3 zc ([]),vB false])] obN ?_
 refine qD ?_
 refine sD kk [] [] [(40,vi (ze.Kind x))] obN ?_
 refine bD (id:=0) ?_
 refine sD kk [] [] [(43,vB (ze.Kind x == (2:Int)))] obN ?_
 refine cD (t:=14) (b:=ze.Kind x == (2:Int)) (fun hb0=>?_) (fun hb0=>?_)
 ·have h:=h.1 hb0
  obtain ⟨r0,o,hc1,h⟩:=h
  refine sD kk [.c (zD r0) [zt o]] [1,10,20,40,43] [(3,zt o),(26,zD r0)] (obC hc1 obN) ?_
  refine tD ?_
  obtain ⟨he0,he1⟩:=h
  subst res fin
  exact (endD [] (zD r0) [zt o]).1
 ·have h:=h.2 hb0
  refine sD kk [] [43] [(61,vB (ze.Kind x == (3:Int)))] obN ?_
  refine cD (t:=20) (b:=ze.Kind x == (3:Int)) (fun hb2=>?_) (fun hb2=>?_)
  ·have h:=h.1 hb2
   refine sDE kk [] [40,61] [(16,.ptr 32 0),(32,.agg [.own 3 ([]),.own 3 ([]),vB true])] [(16,.ptr 32 0),(32,.agg [oL 3 zc ([]),oL 3 zc ([]),vB true])] obN ?_
   refine qD ?_
   refine sDE kk [] [10,20] [(73,vL zn (ze.Kids x)),(76,vi ((↑(List.length (List.map zn (ze.Kids x))):Int))),(79,vi 0)] [(73,vL zn (ze.Kids x)),(76,vi ((↑(List.length (ze.Kids x)):Int))),(79,vi 0)] obN ?_
   refine bD (id:=1) ?_
   obtain ⟨Inv12,mu13,h0Inv12,hInv12⟩:=h
   refine loD (fun (q:List zb×List (List Int)×List Int×List Int×Bool×Int)=>(fun (o0_sets:List zb) (o0_follow:List (List Int)) (out_first:List Int) (out_last:List Int) (out_null:Bool) (t26:Int)=>([(1,.ptr 3 0),(3,.agg [oL 25 zf o0_sets,oL 40 zg o0_follow]),(13,.ptr 26 0),(16,.ptr 32 0),(26,.agg [oL 3 zc ([]),oL 3 zc ([]),vB false]),(32,.agg [vL zc out_first,vL zc out_last,vB out_null]),(73,vL zn (ze.Kids x)),(76,vi ((↑(List.length (ze.Kids x)):Int))),(79,vi t26)]:Sta)) q.1 q.2.1 q.2.2.1 q.2.2.2.1 q.2.2.2.2.1 q.2.2.2.2.2) (fun (q:List zb×List (List Int)×List Int×List Int×Bool×Int)=>Inv12 q.1 q.2.1 q.2.2.1 q.2.2.2.1 q.2.2.2.2.1 q.2.2.2.2.2) (fun (q:List zb×List (List Int)×List Int×List Int×Bool×Int)=>mu13 q.1 q.2.1 q.2.2.1 q.2.2.2.1 q.2.2.2.2.1 q.2.2.2.2.2) ((zm.sets b),(zm.follow b),([]),([]),true,0) [(32,0),(32,1)] h0Inv12 ?_
   rintro ⟨o0_sets,o0_follow,out_first,out_last,out_null,t26⟩ hi
   have h:=hInv12 o0_sets o0_follow out_first out_last out_null t26 hi
   refine sD kk [] [] [(82,vB (decide (t26 < (↑(List.length (ze.Kids x)):Int))))] obN ?_
   refine qD ?_
   refine cD (t:=27) (b:=decide (t26 < (↑(List.length (ze.Kids x)):Int))) (fun hb14=>?_) (fun hb14=>?_)
   ·have h:=h.1 hb14
    refine Sem.skip' (by kernel_rfl) Wk.refl ?_
    show Sem _ _ _ _ _
    refine wkD [82] ?_
    refine qD ?_
    refine bD (id:=2) ?_
    obtain ⟨h15,h⟩:=h
    obtain ⟨h16,h⟩:=h
    refine sD kk [.e (zat (gd (ze.Kids x) t26))] [] [(22,.ptr 44 0),(44,zC (gd (ze.Kids x) t26))] (obC h15 (obC (zO zn (ze.Kids x) t26 _ (zP _) h15 h16) obN)) ?_
    obtain ⟨r0_5,o_5,hc17,h⟩:=h
    obtain ⟨r0_6,o_6,hc18,h⟩:=h
    refine rD kk [.c (zD r0_5) [zt o_5],.c (zD r0_6) [zt o_6]] [22,44] [(3,zt o_6),(32,zD r0_6)] (obC hc17 (obC hc18 obN)) ?_
    show Sem _ _ _ _ _
    refine rD kk [] [] [(79,vi (w64 (t26+1)))] obN ?_
    exact lD ((zm.sets o_6),(zm.follow o_6),(zi.first r0_6),(zi.last r0_6),(zi.null r0_6),(w64 (t26+1))) [] h
   ·have h:=h.2 hb14
    refine xD (i:=1) ?_
    show Sem _ _ _ _ _
    refine wkD [1,73,76,79,82] ?_
    refine sD kk [] [16,32] [(26,.agg [vL zc out_first,vL zc out_last,vB out_null])] obN ?_
    refine tD ?_
    obtain ⟨he0,he1⟩:=h
    subst res fin
    exact (endD [] (.agg [vL zc out_first,vL zc out_last,vB out_null]) [.agg [oL 25 zf o0_sets,oL 40 zg o0_follow]]).1
  ·have h:=h.2 hb2
   refine sD kk [] [61] [(115,vB (ze.Kind x == (4:Int)))] obN ?_
   refine cD (t:=38) (b:=ze.Kind x == (4:Int)) (fun hb19=>?_) (fun hb19=>?_)
   ·have h:=h.1 hb19
    refine sDE kk [] [40,115] [(25,.ptr 50 0),(50,.agg [.own 3 ([]),.own 3 ([]),vB false])] [(25,.ptr 50 0),(50,.agg [oL 3 zc ([]),oL 3 zc ([]),vB false])] obN ?_
    refine qD ?_
    refine sDE kk [] [10,20] [(124,vL zn (ze.Kids x)),(127,vi ((↑(List.length (List.map zn (ze.Kids x))):Int))),(130,vi 0)] [(124,vL zn (ze.Kids x)),(127,vi ((↑(List.length (ze.Kids x)):Int))),(130,vi 0)] obN ?_
    refine bD (id:=3) ?_
    obtain ⟨Inv32,mu33,h0Inv32,hInv32⟩:=h
    refine loD (fun (q:List zb×List (List Int)×List Int×List Int×Bool×Int)=>(fun (o0_sets_1:List zb) (o0_follow_1:List (List Int)) (out_first_1:List Int) (out_last_1:List Int) (out_null_1:Bool) (t43:Int)=>([(1,.ptr 3 0),(3,.agg [oL 25 zf o0_sets_1,oL 40 zg o0_follow_1]),(13,.ptr 26 0),(25,.ptr 50 0),(26,.agg [oL 3 zc ([]),oL 3 zc ([]),vB false]),(50,.agg [vL zc out_first_1,vL zc out_last_1,vB out_null_1]),(124,vL zn (ze.Kids x)),(127,vi ((↑(List.length (ze.Kids x)):Int))),(130,vi t43)]:Sta)) q.1 q.2.1 q.2.2.1 q.2.2.2.1 q.2.2.2.2.1 q.2.2.2.2.2) (fun (q:List zb×List (List Int)×List Int×List Int×Bool×Int)=>Inv32 q.1 q.2.1 q.2.2.1 q.2.2.2.1 q.2.2.2.2.1 q.2.2.2.2.2) (fun (q:List zb×List (List Int)×List Int×List Int×Bool×Int)=>mu33 q.1 q.2.1 q.2.2.1 q.2.2.2.1 q.2.2.2.2.1 q.2.2.2.2.2) ((zm.sets b),(zm.follow b),([]),([]),false,0) [(50,0),(50,1)] h0Inv32 ?_
    rintro ⟨o0_sets_1,o0_follow_1,out_first_1,out_last_1,out_null_1,t43⟩ hi
    have h:=hInv32 o0_sets_1 o0_follow_1 out_first_1 out_last_1 out_null_1 t43 hi
    refine sD kk [] [] [(133,vB (decide (t43 < (↑(List.length (ze.Kids x)):Int))))] obN ?_
    refine qD ?_
    refine cD (t:=44) (b:=decide (t43 < (↑(List.length (ze.Kids x)):Int))) (fun hb34=>?_) (fun hb34=>?_)
    ·have h:=h.1 hb34
     refine Sem.skip' (by kernel_rfl) Wk.refl ?_
     show Sem _ _ _ _ _
     refine wkD [133] ?_
     refine qD ?_
     refine bD (id:=4) ?_
     obtain ⟨h35,h⟩:=h
     obtain ⟨h36,h⟩:=h
     refine sD kk [.e (zat (gd (ze.Kids x) t43))] [] [(31,.ptr 62 0),(62,zC (gd (ze.Kids x) t43))] (obC h35 (obC (zO zn (ze.Kids x) t43 _ (zP _) h35 h36) obN)) ?_
     obtain ⟨r0_13,o_9,hc37,h⟩:=h
     refine sD kk [.c (zD r0_13) [zt o_9]] [31,62] [(3,zt o_9),(34,.ptr 68 0),(68,zD r0_13)] (obC hc37 obN) ?_
     obtain ⟨r0_14,hc38,h⟩:=h
     obtain ⟨r0_15,hc39,h⟩:=h
     refine rM [34,68] [(50,.agg [vL zc r0_14,vL zc r0_15,vB (out_null_1 || zi.null r0_13)])] ?_ (fun hk0=>?_)
     ·show Sem _ _ _ _ _
      refine rD kk [] [] [(130,vi (w64 (t43+1)))] obN ?_
      exact lD ((zm.sets o_9),(zm.follow o_9),r0_14,r0_15,(out_null_1 || zi.null r0_13),(w64 (t43+1))) [] h
     ·rcases Bool.eq_false_or_eq_true (out_null_1) with hb40 | hb40
      ·refine rD kk [.c (vL zc r0_14) [],.c (vL zc r0_15) [],bF,bF,bT] [34,68] [(50,.agg [vL zc r0_14,vL zc r0_15,vB true])] (obC hc38 (obC hc39 (obC (gff hb40) (obC (gff hb40) (obC hb40 obN))))) ?_
       exact kcast (by try rw [hb40];kernel_rfl) hk0
      ·refine rD kk [.c (vL zc r0_14) [],.c (vL zc r0_15) [],bT,bT,bF] [34,68] [(50,.agg [vL zc r0_14,vL zc r0_15,vB (zi.null r0_13)])] (obC hc38 (obC hc39 (obC (gft hb40) (obC (gft hb40) (obC hb40 obN))))) ?_
       exact kcast (by try rw [hb40];kernel_rfl) hk0
    ·have h:=h.2 hb34
     refine xD (i:=3) ?_
     show Sem _ _ _ _ _
     refine wkD [1,124,127,130,133] ?_
     refine sD kk [] [25,50] [(26,.agg [vL zc out_first_1,vL zc out_last_1,vB out_null_1])] obN ?_
     refine tD ?_
     obtain ⟨he0,he1⟩:=h
     subst res fin
     exact (endD [] (.agg [vL zc out_first_1,vL zc out_last_1,vB out_null_1]) [.agg [oL 25 zf o0_sets_1,oL 40 zg o0_follow_1]]).1
   ·have h:=h.2 hb19
    refine sD kk [] [40,115] [(208,vB (ze.Kind x == (5:Int)))] obN ?_
    refine cD (t:=69) (b:=ze.Kind x == (5:Int)) (fun hb41=>?_) (fun hb41=>?_)
    ·have h:=h.1 hb41
     obtain ⟨r0_16,o_10,hc42,h⟩:=h
     refine sD kk [.c (zD r0_16) [zt o_10]] [1,10,20,208] [(3,zt o_10),(26,zD r0_16)] (obC hc42 obN) ?_
     refine tD ?_
     obtain ⟨he0,he1⟩:=h
     subst res fin
     exact (endD [] (zD r0_16) [zt o_10]).1
    ·have h:=h.2 hb41
     refine Sem.skip' (by kernel_rfl) Wk.refl ?_
     show Sem _ _ _ _ _
     refine wkD [1,10,20,208] ?_
     refine sDE kk [] [] [(26,.agg [.own 3 ([]),.own 3 ([]),vB true])] [(26,.agg [oL 3 zc ([]),oL 3 zc ([]),vB true])] obN ?_
     refine tD ?_
     obtain ⟨he0,he1⟩:=h
     subst res fin
     exact (endD [(26,0),(26,1)] (.agg [vL zc ([]),vL zc ([]),vB true]) [zt b]).1
set_option maxHeartbeats 1000000 in
theorem W_place_Of (x:ze) (res:za) (res_1:Int)
 (h:(∃ r0:Bool,zcx x r0∧(((!r0)=true→(res=({ Sets:=[],First:=[],Last:=[],Follow:=[],Null:=false })∧res_1=1))∧((!r0)=false→(∃ r0_1:zi,∃ o:zm,zam x ({ sets:=[],follow:=[] }) r0_1 o∧(res=({ Sets:=zm.sets o,First:=zi.first r0_1,Last:=zi.last r0_1,Follow:=zm.follow o,Null:=zi.null r0_1 })∧res_1=0)))))):zd0 x res res_1:=by
 unfold zd0
 have kk:=cfOk [] 30
 refine fD (x:=bodyOf Tryz.f102) kk Tryz.func102 ?_
 refine wkS [1] [(1,zC x)] (by kernel_rfl) ?_
 refine sDE kk [] [1] [(4,.ptr 8 0),(7,.ptr 14 0),(8,zC x),(14,.agg [.own 25 ([]),.own 3 ([]),.own 3 ([]),.own 40 ([]),vB false])] [(4,.ptr 8 0),(7,.ptr 14 0),(8,zC x),(14,.agg [oL 25 zf ([]),oL 3 zc ([]),oL 3 zc ([]),oL 40 zg ([]),vB false])] obN ?_
 refine qD ?_
 obtain ⟨r0,hc0,h⟩:=h
 refine sD kk [.c (vB r0) []] [] [(25,vB (!r0))] (obC hc0 obN) ?_
 refine cD (t:=8) (b:=!r0) (fun hb1=>?_) (fun hb1=>?_)
 ·have h:=h.1 hb1
  refine sDE kk [] [4,8,25] [(10,vi 1),(14,.agg [.own 25 ([]),.own 3 ([]),.own 3 ([]),.own 40 ([]),vB false])] [(10,vi 1),(14,.agg [oL 25 zf ([]),oL 3 zc ([]),oL 3 zc ([]),oL 40 zg ([]),vB false])] obN ?_
  refine tD ?_
  obtain ⟨he0,he1⟩:=h
  subst res res_1
  exact (endD [] (.tup [.agg [.f (FV.sl (List.take (List.length (List.map zf [])) (List.drop (0:Nat) (List.map zf [])))),.f (FV.sl (List.take (List.length (List.map zc [])) (List.drop (0:Nat) (List.map zc [])))),.f (FV.sl (List.take (List.length (List.map zc [])) (List.drop (0:Nat) (List.map zc [])))),.f (FV.sl (List.take (List.length (List.map zg [])) (List.drop (0:Nat) (List.map zg [])))),vB false],vi 1]) []).1
 ·have h:=h.2 hb1
  refine Sem.skip' (by kernel_rfl) Wk.refl ?_
  show Sem _ _ _ _ _
  refine wkD [25] ?_
  refine sDE kk [] [] [(13,.ptr 68 0),(68,.agg [.own 25 ([]),.own 40 ([])])] [(13,.ptr 68 0),(68,.agg [oL 25 zf ([]),oL 40 zg ([])])] obN ?_
  obtain ⟨r0_1,o,hc2,h⟩:=h
  refine sD kk [.c (zD r0_1) [zt o]] [4,8] [(16,.ptr 32 0),(32,zD r0_1),(68,zt o)] (obC hc2 obN) ?_
  refine sDE kk [] [13,16,32,68] [(10,vi 0),(14,.agg [.f (FV.sl (List.take (List.length (List.map zf (zm.sets o))) (List.drop (0:Nat) (List.map zf (zm.sets o))))),vL zc (zi.first r0_1),vL zc (zi.last r0_1),.f (FV.sl (List.take (List.length (List.map zg (zm.follow o))) (List.drop (0:Nat) (List.map zg (zm.follow o))))),vB (zi.null r0_1)])] [(10,vi 0),(14,.agg [vL zf (zm.sets o),vL zc (zi.first r0_1),vL zc (zi.last r0_1),vL zg (zm.follow o),vB (zi.null r0_1)])] obN ?_
  refine tD ?_
  obtain ⟨he0,he1⟩:=h
  subst res res_1
  exact (endD [] (.tup [.agg [vL zf (zm.sets o),vL zc (zi.first r0_1),vL zc (zi.last r0_1),vL zg (zm.follow o),vB (zi.null r0_1)],vi 0]) []).1
set_option maxHeartbeats 1000000 in
theorem W_auto_moved (l:(List Int)) (by0:Int) (res:(List Int))
 (h:(∃ (Inv6:List Int→Int→Prop) (mu7:List Int→Int→Nat),Inv6 ([]) 0∧(∀ (out:List Int) (t9:Int),Inv6 out t9→(((decide (t9 < (↑(List.length l):Int)))=true→((0:Int)≤t9)∧t9 < ↑(List.length l)∧((List.length out+(1:Nat)) * (8:Nat)≤(2:Nat) ^ (47:Nat))∧(Inv6 (out++[w64 (gd l t9+by0)]) (w64 (t9+1))∧mu7 (out++[w64 (gd l t9+by0)]) (w64 (t9+1)) < mu7 out t9))∧((decide (t9 < (↑(List.length l):Int)))=false→(res=out)))))):zbT l by0 res:=by
 unfold zbT
 have kk:=cfOk [20] 21
 refine fD (x:=bodyOf Tryz.f115) kk Tryz.func115 ?_
 refine wkS [1,4] [(1,vL zc l),(4,vi by0)] (by kernel_rfl) ?_
 refine sDE kk [] [] [(13,.own 3 ([]))] [(13,oL 3 zc ([]))] obN ?_
 refine qD ?_
 refine sDE kk [] [1] [(22,vL zc l),(25,vi ((↑(List.length (List.map zc l)):Int))),(28,vi 0)] [(22,vL zc l),(25,vi ((↑(List.length l):Int))),(28,vi 0)] obN ?_
 refine bD (id:=0) ?_
 obtain ⟨Inv6,mu7,h0Inv6,hInv6⟩:=h
 refine loD (fun (q:List Int×Int)=>(fun (out:List Int) (t9:Int)=>([(4,vi by0),(13,oL 3 zc out),(22,vL zc l),(25,vi ((↑(List.length l):Int))),(28,vi t9)]:Sta)) q.1 q.2) (fun (q:List Int×Int)=>Inv6 q.1 q.2) (fun (q:List Int×Int)=>mu7 q.1 q.2) (([]),0) [] h0Inv6 ?_
 rintro ⟨out,t9⟩ hi
 have h:=hInv6 out t9 hi
 refine sD kk [] [] [(31,vB (decide (t9 < (↑(List.length l):Int))))] obN ?_
 refine qD ?_
 refine cD (t:=10) (b:=decide (t9 < (↑(List.length l):Int))) (fun hb8=>?_) (fun hb8=>?_)
 ·have h:=h.1 hb8
  refine Sem.skip' (by kernel_rfl) Wk.refl ?_
  show Sem _ _ _ _ _
  refine wkD [31] ?_
  refine qD ?_
  refine bD (id:=1) ?_
  obtain ⟨h9,h⟩:=h
  obtain ⟨h10,h⟩:=h
  refine sD kk [.e (fi (gd l t9))] [] [(19,vi (gd l t9))] (obC h9 (obC (zO zc l t9 _ rfl h9 h10) obN)) ?_
  obtain ⟨h11,h⟩:=h
  refine rDE kk [] [19] [(13,.own 3 (List.map zc out++List.take (List.length [FV.pv (Value.int IntKind.i64 (w64 (gd l t9+by0)))]) (List.drop (0:Nat) [FV.pv (Value.int IntKind.i64 (w64 (gd l t9+by0)))])))] [(13,oL 3 zc (out++[w64 (gd l t9+by0)]))] (obC (show (0:Nat)=(0:Nat)∧List.length (List.map zc out)=List.length (List.map zc out) from ⟨rfl,rfl⟩) (obC (show (List.length (List.map zc out)+List.length (List.take (1:Nat) (List.drop (0:Nat) [FV.pv (Value.int IntKind.i64 (w64 (gd l t9+by0)))]))) * (8:Nat)≤(2:Nat) ^ (47:Nat) from by simpa only [nm] using h11) (obC (show List.all (List.take (1:Nat) (List.drop (0:Nat) [FV.pv (Value.int IntKind.i64 (w64 (gd l t9+by0)))])) (FV.fits (1:Nat))=true from by first | exact zaY _ | exact keysenc_i64 _ | rfl | simp [isByteF,FV.fits,FV.size,FV.cells,FV.one,]) obN))) ?_
  show Sem _ _ _ _ _
  refine rD kk [] [] [(28,vi (w64 (t9+1)))] obN ?_
  exact lD ((out++[w64 (gd l t9+by0)]),(w64 (t9+1))) [] h
 ·have h:=h.2 hb8
  refine xD (i:=0) ?_
  show Sem _ _ _ _ _
  refine wkD [4,22,25,28,31] ?_
  refine sD kk [] [] [] obN ?_
  refine tD ?_
  obtain he0:=h
  subst res
  exact (endD [] (oL 3 zc out) []).1
set_option maxHeartbeats 1000000 in
theorem zfi (x:ze) (rule0:Int) (b:zp) (res:(List Int)) (res_1:(List Int)) (res_2:Bool) (fin:zp)
 (h:(∃ r0:za,∃ r0_1:Int,zd0 x r0 r0_1∧((List.length (zl.Sets (zp.Auto b))+List.length (za.Sets r0)) * (32:Nat)≤(2:Nat) ^ (47:Nat))∧(∃ (Inv15:List Int→List (List Int)→List Bool→Int→Prop) (mu16:List Int→List (List Int)→List Bool→Int→Nat),Inv15 (zl.Owner (zp.Auto b)) (zl.Follow (zp.Auto b)) (zl.Ends (zp.Auto b)) 0∧(∀ (o0_Auto_Owner:List Int) (o0_Auto_Follow:List (List Int)) (o0_Auto_Ends:List Bool) (t40:Int),Inv15 o0_Auto_Owner o0_Auto_Follow o0_Auto_Ends t40→(((decide (t40 < (↑(List.length (za.Follow r0)):Int)))=true→((0:Int)≤t40)∧t40 < ↑(List.length (za.Follow r0))∧((List.length o0_Auto_Owner+(1:Nat)) * (8:Nat)≤(2:Nat) ^ (47:Nat))∧((List.length o0_Auto_Ends+(1:Nat)) * (1:Nat)≤(2:Nat) ^ (47:Nat))∧(∃ r0_4:List Int,zbT (gd (za.Follow r0) t40) ((↑(List.length (zl.Sets (zp.Auto b))):Int)) r0_4∧((List.length o0_Auto_Follow+(1:Nat)) * (24:Nat)≤(2:Nat) ^ (47:Nat))∧(Inv15 (o0_Auto_Owner++[rule0]) (o0_Auto_Follow++[r0_4]) (o0_Auto_Ends++[false]) (w64 (t40+1))∧mu16 (o0_Auto_Owner++[rule0]) (o0_Auto_Follow++[r0_4]) (o0_Auto_Ends++[false]) (w64 (t40+1)) < mu16 o0_Auto_Owner o0_Auto_Follow o0_Auto_Ends t40)))∧((decide (t40 < (↑(List.length (za.Follow r0)):Int)))=false→(∃ r0_5:List Int,zbT (za.First r0) ((↑(List.length (zl.Sets (zp.Auto b))):Int)) r0_5∧(∃ r0_6:List Int,zbT (za.Last r0) ((↑(List.length (zl.Sets (zp.Auto b))):Int)) r0_6∧(res=r0_5∧res_1=r0_6∧res_2=(za.Null r0)∧fin=({ Auto:={ Sets:=zl.Sets (zp.Auto b)++za.Sets r0,Owner:=o0_Auto_Owner,Follow:=o0_Auto_Follow,Ends:=o0_Auto_Ends,Starts:=zl.Starts (zp.Auto b) } })))))))))):zbc x rule0 b res res_1 res_2 fin:=by
 unfold zbc
 have kk:=cfOk [] 92
 refine fD (x:=bodyOf Tryz.f81) kk Tryz.func81 ?_
 refine wkS [1,3,4,7] [(1,.ptr 3 0),(3,zZ b),(4,zC x),(7,vi rule0)] (by kernel_rfl) ?_
 refine sD kk [] [4] [(13,.ptr 26 0),(26,zC x)] obN ?_
 obtain ⟨r0,r0_1,hc0,h⟩:=h
 refine sD kk [.c (.tup [zq r0,vi r0_1]) []] [13,26] [(28,.ptr 56 0),(56,zq r0)] (obC hc0 obN) ?_
 refine sDE kk [] [] [(34,vi ((↑(List.length (List.map zf (zl.Sets (zp.Auto b)))):Int)))] [(34,vi ((↑(List.length (zl.Sets (zp.Auto b))):Int)))] obN ?_
 obtain ⟨h1,h⟩:=h
 refine sDE kk [] [] [(3,.agg [.own 25 (List.map zf (zl.Sets (zp.Auto b))++List.map zf (za.Sets r0)),oL 3 zc (zl.Owner (zp.Auto b)),oL 40 zg (zl.Follow (zp.Auto b)),oL 4 zw (zl.Ends (zp.Auto b)),oL 40 zg (zl.Starts (zp.Auto b))])] [(3,.agg [oL 25 zf (zl.Sets (zp.Auto b)++za.Sets r0),oL 3 zc (zl.Owner (zp.Auto b)),oL 40 zg (zl.Follow (zp.Auto b)),oL 4 zw (zl.Ends (zp.Auto b)),oL 40 zg (zl.Starts (zp.Auto b))])] (obC (show (0:Nat)=(0:Nat)∧List.length (List.map zf (zl.Sets (zp.Auto b)))=List.length (List.map zf (zl.Sets (zp.Auto b))) from ⟨rfl,rfl⟩) (obC (show (List.length (List.map zf (zl.Sets (zp.Auto b)))+List.length (List.map zf (za.Sets r0))) * (32:Nat)≤(2:Nat) ^ (47:Nat) from by simpa only [nm] using h1) (obC (show List.all (List.map zf (za.Sets r0)) (FV.fits (4:Nat))=true from by first | exact zco _ | exact keysenc_arr4_uint64 _ | rfl | simp [isByteF,FV.fits,FV.size,FV.cells,FV.one,zaz]) obN))) ?_
 refine qD ?_
 refine sDE kk [] [] [(115,vL zg (za.Follow r0)),(118,vi ((↑(List.length (List.map zg (za.Follow r0))):Int))),(121,vi 0)] [(115,vL zg (za.Follow r0)),(118,vi ((↑(List.length (za.Follow r0)):Int))),(121,vi 0)] obN ?_
 refine bD (id:=0) ?_
 obtain ⟨Inv15,mu16,h0Inv15,hInv15⟩:=h
 refine loD (fun (q:List Int×List (List Int)×List Bool×Int)=>(fun (o0_Auto_Owner:List Int) (o0_Auto_Follow:List (List Int)) (o0_Auto_Ends:List Bool) (t40:Int)=>([(1,.ptr 3 0),(3,.agg [oL 25 zf (zl.Sets (zp.Auto b)++za.Sets r0),oL 3 zc o0_Auto_Owner,oL 40 zg o0_Auto_Follow,oL 4 zw o0_Auto_Ends,oL 40 zg (zl.Starts (zp.Auto b))]),(7,vi rule0),(28,.ptr 56 0),(34,vi ((↑(List.length (zl.Sets (zp.Auto b))):Int))),(56,zq r0),(115,vL zg (za.Follow r0)),(118,vi ((↑(List.length (za.Follow r0)):Int))),(121,vi t40)]:Sta)) q.1 q.2.1 q.2.2.1 q.2.2.2) (fun (q:List Int×List (List Int)×List Bool×Int)=>Inv15 q.1 q.2.1 q.2.2.1 q.2.2.2) (fun (q:List Int×List (List Int)×List Bool×Int)=>mu16 q.1 q.2.1 q.2.2.1 q.2.2.2) ((zl.Owner (zp.Auto b)),(zl.Follow (zp.Auto b)),(zl.Ends (zp.Auto b)),0) [] h0Inv15 ?_
 rintro ⟨o0_Auto_Owner,o0_Auto_Follow,o0_Auto_Ends,t40⟩ hi
 have h:=hInv15 o0_Auto_Owner o0_Auto_Follow o0_Auto_Ends t40 hi
 refine sD kk [] [] [(124,vB (decide (t40 < (↑(List.length (za.Follow r0)):Int))))] obN ?_
 refine qD ?_
 refine cD (t:=41) (b:=decide (t40 < (↑(List.length (za.Follow r0)):Int))) (fun hb17=>?_) (fun hb17=>?_)
 ·have h:=h.1 hb17
  refine Sem.skip' (by kernel_rfl) Wk.refl ?_
  show Sem _ _ _ _ _
  refine wkD [124] ?_
  refine qD ?_
  refine bD (id:=1) ?_
  obtain ⟨h18,h⟩:=h
  obtain ⟨h19,h⟩:=h
  refine sD kk [.e (fL zc (gd (za.Follow r0) t40))] [] [(40,vL zc (gd (za.Follow r0) t40))] (obC h18 (obC (zO zg (za.Follow r0) t40 _ rfl h18 h19) obN)) ?_
  obtain ⟨h20,h⟩:=h
  obtain ⟨h21,h⟩:=h
  obtain ⟨r0_4,hc22,h⟩:=h
  obtain ⟨h23,h⟩:=h
  refine rDE kk [.c (oL 3 zc r0_4) []] [40] [(3,.agg [oL 25 zf (zl.Sets (zp.Auto b)++za.Sets r0),.own 3 (List.map zc o0_Auto_Owner++List.take (List.length [FV.pv (Value.int IntKind.i64 rule0)]) (List.drop (0:Nat) [FV.pv (Value.int IntKind.i64 rule0)])),.own 40 (List.map zg o0_Auto_Follow++List.take (List.length [FV.sl (List.take (List.length (List.map zc r0_4)) (List.drop (0:Nat) (List.map zc r0_4)))]) (List.drop (0:Nat) [FV.sl (List.take (List.length (List.map zc r0_4)) (List.drop (0:Nat) (List.map zc r0_4)))])),.own 4 (List.map zw o0_Auto_Ends++List.take (List.length [FV.pv (Value.bool false)]) (List.drop (0:Nat) [FV.pv (Value.bool false)])),oL 40 zg (zl.Starts (zp.Auto b))])] [(3,.agg [oL 25 zf (zl.Sets (zp.Auto b)++za.Sets r0),oL 3 zc (o0_Auto_Owner++[rule0]),oL 40 zg (o0_Auto_Follow++[r0_4]),oL 4 zw (o0_Auto_Ends++[false]),oL 40 zg (zl.Starts (zp.Auto b))])] (obC (show (0:Nat)=(0:Nat)∧List.length (List.map zc o0_Auto_Owner)=List.length (List.map zc o0_Auto_Owner) from ⟨rfl,rfl⟩) (obC (show (List.length (List.map zc o0_Auto_Owner)+List.length (List.take (1:Nat) (List.drop (0:Nat) [FV.pv (Value.int IntKind.i64 rule0)]))) * (8:Nat)≤(2:Nat) ^ (47:Nat) from by simpa only [nm] using h20) (obC (show List.all (List.take (1:Nat) (List.drop (0:Nat) [FV.pv (Value.int IntKind.i64 rule0)])) (FV.fits (1:Nat))=true from by first | exact zaY _ | exact keysenc_i64 _ | rfl | simp [isByteF,FV.fits,FV.size,FV.cells,FV.one,]) (obC (show (0:Nat)=(0:Nat)∧List.length (List.map zw o0_Auto_Ends)=List.length (List.map zw o0_Auto_Ends) from ⟨rfl,rfl⟩) (obC (show (List.length (List.map zw o0_Auto_Ends)+List.length (List.take (1:Nat) (List.drop (0:Nat) [FV.pv (Value.bool false)]))) * (1:Nat)≤(2:Nat) ^ (47:Nat) from by simpa only [nm] using h21) (obC (show List.all (List.take (1:Nat) (List.drop (0:Nat) [FV.pv (Value.bool false)])) (FV.fits (1:Nat))=true from by first | decide | rfl | trivial) (obC hc22 (obC (show (0:Nat)=(0:Nat)∧List.length (List.map zg o0_Auto_Follow)=List.length (List.map zg o0_Auto_Follow) from ⟨rfl,rfl⟩) (obC (show (List.length (List.map zg o0_Auto_Follow)+List.length (List.take (1:Nat) (List.drop (0:Nat) [FV.sl (List.take (List.length (List.map zc r0_4)) (List.drop (0:Nat) (List.map zc r0_4)))]))) * (24:Nat)≤(2:Nat) ^ (47:Nat) from by simpa only [nm] using h23) (obC (show List.all (List.take (1:Nat) (List.drop (0:Nat) [FV.sl (List.take (List.length (List.map zc r0_4)) (List.drop (0:Nat) (List.map zc r0_4)))])) (FV.fits (1:Nat))=true from by first | exact zaY _ | exact keysenc_i64 _ | rfl | simp [isByteF,FV.fits,FV.size,FV.cells,FV.one,zc]) obN)))))))))) ?_
  show Sem _ _ _ _ _
  refine rD kk [] [] [(121,vi (w64 (t40+1)))] obN ?_
  exact lD ((o0_Auto_Owner++[rule0]),(o0_Auto_Follow++[r0_4]),(o0_Auto_Ends++[false]),(w64 (t40+1))) [] h
 ·have h:=h.2 hb17
  refine xD (i:=0) ?_
  show Sem _ _ _ _ _
  refine wkD [1,7,115,118,121,124] ?_
  obtain ⟨r0_5,hc24,h⟩:=h
  obtain ⟨r0_6,hc25,h⟩:=h
  refine sD kk [.c (oL 3 zc r0_5) [],.c (oL 3 zc r0_6) []] [28,34,56] [(19,oL 3 zc r0_5),(22,oL 3 zc r0_6),(25,vB (za.Null r0))] (obC hc24 (obC hc25 obN)) ?_
  refine tD ?_
  obtain ⟨he0,he1,he2,he3⟩:=h
  subst res res_1 res_2 fin
  exact (endD [] (.tup [.f (FV.sl (List.take (List.length (List.map zc r0_5)) (List.drop (0:Nat) (List.map zc r0_5)))),.f (FV.sl (List.take (List.length (List.map zc r0_6)) (List.drop (0:Nat) (List.map zc r0_6)))),vB (za.Null r0)]) [.agg [oL 25 zf (zl.Sets (zp.Auto b)++za.Sets r0),oL 3 zc o0_Auto_Owner,oL 40 zg o0_Auto_Follow,oL 4 zw o0_Auto_Ends,oL 40 zg (zl.Starts (zp.Auto b))]]).1
set_option maxHeartbeats 1000000 in
theorem zeJ (r0:zj) (i:Int) (b:zp) (res:(List Int)) (fin:zp)
 (h:(((zj.Eof r0)=true→(res=([])∧fin=b))∧((zj.Eof r0)=false→(∃ r0_1:List Int,∃ r0_2:List Int,∃ r0_3:Bool,∃ o:zp,zbc (zj.Rx r0) i b r0_1 r0_2 r0_3 o∧(∃ J40:List zb→List Int→List (List Int)→List Bool→List (List Int)→List Int→Prop,(∀ (o0_Auto_Sets:List zb) (o0_Auto_Owner:List Int) (o0_Auto_Follow_1:List (List Int)) (o0_Auto_Ends:List Bool) (o0_Auto_Starts:List (List Int)) (end0:List Int),J40 o0_Auto_Sets o0_Auto_Owner o0_Auto_Follow_1 o0_Auto_Ends o0_Auto_Starts end0→(∃ (Inv52:List Bool→Int→Prop) (mu53:List Bool→Int→Nat),Inv52 o0_Auto_Ends 0∧(∀ (o0_Auto_Ends_1:List Bool) (t72:Int),Inv52 o0_Auto_Ends_1 t72→(((decide (t72 < (↑(List.length end0):Int)))=true→((0:Int)≤t72)∧t72 < ↑(List.length end0)∧((0:Int)≤gd end0 t72)∧(Int.toNat (gd end0 t72) < List.length o0_Auto_Ends_1)∧gd end0 t72 < ↑(List.length o0_Auto_Ends_1)∧(Inv52 (List.set o0_Auto_Ends_1 (Int.toNat (gd end0 t72)) true) (w64 (t72+1))∧mu53 (List.set o0_Auto_Ends_1 (Int.toNat (gd end0 t72)) true) (w64 (t72+1)) < mu53 o0_Auto_Ends_1 t72))∧((decide (t72 < (↑(List.length end0):Int)))=false→(res=r0_1∧fin=({ Auto:={ Sets:=o0_Auto_Sets,Owner:=o0_Auto_Owner,Follow:=o0_Auto_Follow_1,Ends:=o0_Auto_Ends_1,Starts:=o0_Auto_Starts } })))))))∧(((ze.Kind (zj.Trail r0) != (0:Int))=true→(∃ r0_12:List Int,∃ r0_13:List Int,∃ r0_14:Bool,∃ o_2:zp,zbc (zj.Trail r0) i o r0_12 r0_13 r0_14 o_2∧(∃ (Inv81:List (List Int)→Int→Prop) (mu82:List (List Int)→Int→Nat),Inv81 (zl.Follow (zp.Auto o_2)) 0∧(∀ (o0_Auto_Follow_2:List (List Int)) (t43_1:Int),Inv81 o0_Auto_Follow_2 t43_1→(((decide (t43_1 < (↑(List.length r0_2):Int)))=true→((0:Int)≤t43_1)∧t43_1 < ↑(List.length r0_2)∧((0:Int)≤gd r0_2 t43_1)∧(Int.toNat (gd r0_2 t43_1) < List.length o0_Auto_Follow_2)∧gd r0_2 t43_1 < ↑(List.length o0_Auto_Follow_2)∧(∃ r0_17:List Int,zah (gd o0_Auto_Follow_2 (gd r0_2 t43_1)) r0_12 r0_17∧((0:Int)≤gd r0_2 t43_1)∧(Int.toNat (gd r0_2 t43_1) < List.length o0_Auto_Follow_2)∧gd r0_2 t43_1 < ↑(List.length o0_Auto_Follow_2)∧(Inv81 (List.set o0_Auto_Follow_2 (Int.toNat (gd r0_2 t43_1)) r0_17) (w64 (t43_1+1))∧mu82 (List.set o0_Auto_Follow_2 (Int.toNat (gd r0_2 t43_1)) r0_17) (w64 (t43_1+1)) < mu82 o0_Auto_Follow_2 t43_1)))∧((decide (t43_1 < (↑(List.length r0_2):Int)))=false→(∃ J95:List Int→Prop,(∀ (last_1:List Int),J95 last_1→J40 (zl.Sets (zp.Auto o_2)) (zl.Owner (zp.Auto o_2)) o0_Auto_Follow_2 (zl.Ends (zp.Auto o_2)) (zl.Starts (zp.Auto o_2)) last_1)∧(((r0_14)=true→(∃ r0_19:List Int,zah r0_2 r0_13 r0_19∧J95 r0_19))∧((r0_14)=false→J95 r0_13)))))))))∧((ze.Kind (zj.Trail r0) != (0:Int))=false→J40 (zl.Sets (zp.Auto o)) (zl.Owner (zp.Auto o)) (zl.Follow (zp.Auto o)) (zl.Ends (zp.Auto o)) (zl.Starts (zp.Auto o)) r0_2))))))):zbt r0 i b res fin:=by
 unfold zbt
 have kk:=cfOk [84] 85
 refine fD (x:=bodyOf Tryz.f42) kk Tryz.func42 ?_
 refine wkS [1,3,4,7] [(1,.ptr 3 0),(3,zZ b),(4,zak r0),(7,vi i)] (by kernel_rfl) ?_
 refine sD kk [] [4] [(13,.ptr 26 0),(26,zak r0)] obN ?_
 refine qD ?_
 refine sD kk [] [] [(55,vB (zj.Eof r0))] obN ?_
 refine cD (t:=18) (b:=zj.Eof r0) (fun hb0=>?_) (fun hb0=>?_)
 ·have h:=h.1 hb0
  refine sDE kk [] [1,7,13,26,55] [(19,.own 3 ([]))] [(19,oL 3 zc ([]))] obN ?_
  refine tD ?_
  obtain ⟨he0,he1⟩:=h
  subst res fin
  exact (endD [(19,0)] (vL zc ([])) [zZ b]).1
 ·have h:=h.2 hb0
  refine Sem.skip' (by kernel_rfl) Wk.refl ?_
  show Sem _ _ _ _ _
  refine wkD [55] ?_
  obtain ⟨r0_1,r0_2,r0_3,o,hc1,h⟩:=h
  refine sD kk [.c (.tup [vL zc r0_1,vL zc r0_2,vB r0_3]) [zZ o]] [] [(3,zZ o),(22,vL zc r0_1),(25,vL zc r0_2)] (obC hc1 obN) ?_
  obtain ⟨J40,hJ40,h⟩:=h
  refine sjD (fun (q:List zb×List Int×List (List Int)×List Bool×List (List Int)×List Int)=>J40 q.1 q.2.1 q.2.2.1 q.2.2.2.1 q.2.2.2.2.1 q.2.2.2.2.2) (fun (q:List zb×List Int×List (List Int)×List Bool×List (List Int)×List Int)=>(fun (o0_Auto_Sets:List zb) (o0_Auto_Owner:List Int) (o0_Auto_Follow_1:List (List Int)) (o0_Auto_Ends:List Bool) (o0_Auto_Starts:List (List Int)) (end0:List Int)=>([(1,.ptr 3 0),(3,.agg [oL 25 zf o0_Auto_Sets,oL 3 zc o0_Auto_Owner,oL 40 zg o0_Auto_Follow_1,oL 4 zw o0_Auto_Ends,oL 40 zg o0_Auto_Starts]),(22,vL zc r0_1),(25,vL zc end0)]:Sta)) q.1 q.2.1 q.2.2.1 q.2.2.2.1 q.2.2.2.2.1 q.2.2.2.2.2) ?_ ?_
  ·rintro ⟨o0_Auto_Sets,o0_Auto_Owner,o0_Auto_Follow_1,o0_Auto_Ends,o0_Auto_Starts,end0⟩ hj
   have h:=hJ40 o0_Auto_Sets o0_Auto_Owner o0_Auto_Follow_1 o0_Auto_Ends o0_Auto_Starts end0 hj
   refine qD ?_
   refine sDE kk [] [25] [(211,vL zc end0),(214,vi ((↑(List.length (List.map zc end0)):Int))),(217,vi 0)] [(211,vL zc end0),(214,vi ((↑(List.length end0):Int))),(217,vi 0)] obN ?_
   refine bD (id:=2) ?_
   obtain ⟨Inv52,mu53,h0Inv52,hInv52⟩:=h
   refine loD (fun (q:List Bool×Int)=>(fun (o0_Auto_Ends_1:List Bool) (t72:Int)=>([(1,.ptr 3 0),(3,.agg [oL 25 zf o0_Auto_Sets,oL 3 zc o0_Auto_Owner,oL 40 zg o0_Auto_Follow_1,oL 4 zw o0_Auto_Ends_1,oL 40 zg o0_Auto_Starts]),(22,vL zc r0_1),(211,vL zc end0),(214,vi ((↑(List.length end0):Int))),(217,vi t72)]:Sta)) q.1 q.2) (fun (q:List Bool×Int)=>Inv52 q.1 q.2) (fun (q:List Bool×Int)=>mu53 q.1 q.2) (o0_Auto_Ends,0) [] h0Inv52 ?_
   rintro ⟨o0_Auto_Ends_1,t72⟩ hi
   have h:=hInv52 o0_Auto_Ends_1 t72 hi
   refine sD kk [] [] [(220,vB (decide (t72 < (↑(List.length end0):Int))))] obN ?_
   refine qD ?_
   refine cD (t:=73) (b:=decide (t72 < (↑(List.length end0):Int))) (fun hb54=>?_) (fun hb54=>?_)
   ·have h:=h.1 hb54
    refine Sem.skip' (by kernel_rfl) Wk.refl ?_
    show Sem _ _ _ _ _
    refine wkD [220] ?_
    refine qD ?_
    refine bD (id:=3) ?_
    obtain ⟨h55,h⟩:=h
    obtain ⟨h56,h⟩:=h
    refine sD kk [.e (fi (gd end0 t72))] [] [(49,vi (gd end0 t72))] (obC h55 (obC (zO zc end0 t72 _ rfl h55 h56) obN)) ?_
    obtain ⟨h57,h⟩:=h
    obtain ⟨h58,h⟩:=h
    obtain ⟨h59,h⟩:=h
    refine rDE kk [.e (fB (gd o0_Auto_Ends_1 (gd end0 t72)))] [49] [(3,.agg [oL 25 zf o0_Auto_Sets,oL 3 zc o0_Auto_Owner,oL 40 zg o0_Auto_Follow_1,.own 4 (List.set (List.map zw o0_Auto_Ends_1) ((0:Nat)+Int.toNat (gd end0 t72)) (FV.pv (Value.bool true))),oL 40 zg o0_Auto_Starts])] [(3,.agg [oL 25 zf o0_Auto_Sets,oL 3 zc o0_Auto_Owner,oL 40 zg o0_Auto_Follow_1,oL 4 zw (List.set o0_Auto_Ends_1 (Int.toNat (gd end0 t72)) true),oL 40 zg o0_Auto_Starts])] (obC h57 (obC (show Int.toNat (gd end0 t72) < List.length (List.map zw o0_Auto_Ends_1) from by simpa only [nm] using h58) (obC (show (List.map zw o0_Auto_Ends_1)[((0:Nat)+Int.toNat (gd end0 t72):Nat)]?=some (fB (gd o0_Auto_Ends_1 (gd end0 t72))) from by have:=zO zw o0_Auto_Ends_1 (gd end0 t72) _ rfl h57 h59;simpa only [nm,enq,zw] using this) obN))) ?_
    show Sem _ _ _ _ _
    refine rD kk [] [] [(217,vi (w64 (t72+1)))] obN ?_
    exact lD ((List.set o0_Auto_Ends_1 (Int.toNat (gd end0 t72)) true),(w64 (t72+1))) [] h
   ·have h:=h.2 hb54
    refine xD (i:=2) ?_
    show Sem _ _ _ _ _
    refine wkD [1,211,214,217,220] ?_
    refine sD kk [] [22] [(19,vL zc r0_1)] obN ?_
    refine tD ?_
    obtain ⟨he0,he1⟩:=h
    subst res fin
    exact (endD [] (vL zc r0_1) [.agg [oL 25 zf o0_Auto_Sets,oL 3 zc o0_Auto_Owner,oL 40 zg o0_Auto_Follow_1,oL 4 zw o0_Auto_Ends_1,oL 40 zg o0_Auto_Starts]]).1
  ·refine sD kk [] [] [(94,vB (ze.Kind (zj.Trail r0) != (0:Int)))] obN ?_
   refine cD (t:=31) (b:=ze.Kind (zj.Trail r0) != (0:Int)) (fun hb60=>?_) (fun hb60=>?_)
   ·have h:=h.1 hb60
    obtain ⟨r0_12,r0_13,r0_14,o_2,hc61,h⟩:=h
    refine sD kk [.c (.tup [vL zc r0_12,vL zc r0_13,vB r0_14]) [zZ o_2]] [7,13,26,94] [(3,zZ o_2),(31,vL zc r0_12),(34,vL zc r0_13),(37,vB r0_14)] (obC hc61 obN) ?_
    refine qD ?_
    refine sDE kk [] [] [(124,vL zc r0_2),(127,vi ((↑(List.length (List.map zc r0_2)):Int))),(130,vi 0)] [(124,vL zc r0_2),(127,vi ((↑(List.length r0_2):Int))),(130,vi 0)] obN ?_
    refine bD (id:=0) ?_
    obtain ⟨Inv81,mu82,h0Inv81,hInv81⟩:=h
    refine loD (fun (q:List (List Int)×Int)=>(fun (o0_Auto_Follow_2:List (List Int)) (t43_1:Int)=>([(1,.ptr 3 0),(3,.agg [oL 25 zf (zl.Sets (zp.Auto o_2)),oL 3 zc (zl.Owner (zp.Auto o_2)),oL 40 zg o0_Auto_Follow_2,oL 4 zw (zl.Ends (zp.Auto o_2)),oL 40 zg (zl.Starts (zp.Auto o_2))]),(22,vL zc r0_1),(25,vL zc r0_2),(31,vL zc r0_12),(34,vL zc r0_13),(37,vB r0_14),(124,vL zc r0_2),(127,vi ((↑(List.length r0_2):Int))),(130,vi t43_1)]:Sta)) q.1 q.2) (fun (q:List (List Int)×Int)=>Inv81 q.1 q.2) (fun (q:List (List Int)×Int)=>mu82 q.1 q.2) ((zl.Follow (zp.Auto o_2)),0) [] h0Inv81 ?_
    rintro ⟨o0_Auto_Follow_2,t43_1⟩ hi
    have h:=hInv81 o0_Auto_Follow_2 t43_1 hi
    refine sD kk [] [] [(133,vB (decide (t43_1 < (↑(List.length r0_2):Int))))] obN ?_
    refine qD ?_
    refine cD (t:=44) (b:=decide (t43_1 < (↑(List.length r0_2):Int))) (fun hb83=>?_) (fun hb83=>?_)
    ·have h:=h.1 hb83
     refine Sem.skip' (by kernel_rfl) Wk.refl ?_
     show Sem _ _ _ _ _
     refine wkD [133] ?_
     refine qD ?_
     refine bD (id:=1) ?_
     obtain ⟨h84,h⟩:=h
     obtain ⟨h85,h⟩:=h
     refine sD kk [.e (fi (gd r0_2 t43_1))] [] [(43,vi (gd r0_2 t43_1))] (obC h84 (obC (zO zc r0_2 t43_1 _ rfl h84 h85) obN)) ?_
     obtain ⟨h86,h⟩:=h
     obtain ⟨h87,h⟩:=h
     obtain ⟨h88,h⟩:=h
     obtain ⟨r0_17,hc89,h⟩:=h
     obtain ⟨h90,h⟩:=h
     obtain ⟨h91,h⟩:=h
     obtain ⟨h92,h⟩:=h
     refine rDE kk [.e (fL zc (gd o0_Auto_Follow_2 (gd r0_2 t43_1))),.c (vL zc r0_17) [],.e (fL zc (gd o0_Auto_Follow_2 (gd r0_2 t43_1)))] [43] [(3,.agg [oL 25 zf (zl.Sets (zp.Auto o_2)),oL 3 zc (zl.Owner (zp.Auto o_2)),.own 40 (List.set (List.map zg o0_Auto_Follow_2) ((0:Nat)+Int.toNat (gd r0_2 t43_1)) (FV.sl (List.map zc r0_17))),oL 4 zw (zl.Ends (zp.Auto o_2)),oL 40 zg (zl.Starts (zp.Auto o_2))])] [(3,.agg [oL 25 zf (zl.Sets (zp.Auto o_2)),oL 3 zc (zl.Owner (zp.Auto o_2)),oL 40 zg (List.set o0_Auto_Follow_2 (Int.toNat (gd r0_2 t43_1)) r0_17),oL 4 zw (zl.Ends (zp.Auto o_2)),oL 40 zg (zl.Starts (zp.Auto o_2))])] (obC h86 (obC (show Int.toNat (gd r0_2 t43_1) < List.length (List.map zg o0_Auto_Follow_2) from by simpa only [nm] using h87) (obC (show (List.map zg o0_Auto_Follow_2)[((0:Nat)+Int.toNat (gd r0_2 t43_1):Nat)]?=some (fL zc (gd o0_Auto_Follow_2 (gd r0_2 t43_1))) from by have:=zO zg o0_Auto_Follow_2 (gd r0_2 t43_1) _ rfl h86 h88;simpa only [nm,enq,zg] using this) (obC hc89 (obC h90 (obC (show Int.toNat (gd r0_2 t43_1) < List.length (List.map zg o0_Auto_Follow_2) from by simpa only [nm] using h91) (obC (show (List.map zg o0_Auto_Follow_2)[((0:Nat)+Int.toNat (gd r0_2 t43_1):Nat)]?=some (fL zc (gd o0_Auto_Follow_2 (gd r0_2 t43_1))) from by have:=zO zg o0_Auto_Follow_2 (gd r0_2 t43_1) _ rfl h90 h92;simpa only [nm,enq,zg] using this) obN))))))) ?_
     show Sem _ _ _ _ _
     refine rD kk [] [] [(130,vi (w64 (t43_1+1)))] obN ?_
     exact lD ((List.set o0_Auto_Follow_2 (Int.toNat (gd r0_2 t43_1)) r0_17),(w64 (t43_1+1))) [] h
    ·have h:=h.2 hb83
     refine xD (i:=0) ?_
     show Sem _ _ _ _ _
     refine wkD [31,124,127,130,133] ?_
     obtain ⟨J95,hJ95,h⟩:=h
     refine sjD (fun (q:List Int)=>J95 q) (fun (q:List Int)=>(fun (last_1:List Int)=>([(1,.ptr 3 0),(3,.agg [oL 25 zf (zl.Sets (zp.Auto o_2)),oL 3 zc (zl.Owner (zp.Auto o_2)),oL 40 zg o0_Auto_Follow_2,oL 4 zw (zl.Ends (zp.Auto o_2)),oL 40 zg (zl.Starts (zp.Auto o_2))]),(22,vL zc r0_1),(34,vL zc last_1)]:Sta)) q) ?_ ?_
     ·rintro last_1 hj
      have h:=hJ95 last_1 hj
      refine rD kk [] [34] [(25,vL zc last_1)] obN ?_
      exact jD ((zl.Sets (zp.Auto o_2)),(zl.Owner (zp.Auto o_2)),o0_Auto_Follow_2,(zl.Ends (zp.Auto o_2)),(zl.Starts (zp.Auto o_2)),last_1) [] h
     ·refine sD kk [] [37] [(196,vB r0_14)] obN ?_
      refine cD (t:=65) (b:=r0_14) (fun hb96=>?_) (fun hb96=>?_)
      ·have h:=h.1 hb96
       obtain ⟨r0_19,hc97,h⟩:=h
       refine rD kk [.c (vL zc r0_19) []] [25,196] [(34,vL zc r0_19)] (obC hc97 obN) ?_
       exact jD r0_19 [] h
      ·have h:=h.2 hb96
       refine Sem.skip' (by kernel_rfl) Wk.refl ?_
       exact jD r0_13 [] h
   ·have h:=h.2 hb60
    refine Sem.skip' (by kernel_rfl) Wk.refl ?_
    exact jD ((zl.Sets (zp.Auto o)),(zl.Owner (zp.Auto o)),(zl.Follow (zp.Auto o)),(zl.Ends (zp.Auto o)),(zl.Starts (zp.Auto o)),r0_2) [] h
set_option maxHeartbeats 1000000 in
theorem zb4 (s0:(List Int)) (v:Int) (res:Int)
 (h:(∃ (Inv7:Int→Prop) (mu8:Int→Nat),Inv7 0∧(∀ (t8:Int),Inv7 t8→(((decide (t8 < (↑(List.length s0):Int)))=true→((0:Int)≤t8)∧t8 < ↑(List.length s0)∧(((v == gd s0 t8)=true→(res=t8))∧((v == gd s0 t8)=false→(Inv7 (w64 (t8+1))∧mu8 (w64 (t8+1)) < mu8 t8))))∧((decide (t8 < (↑(List.length s0):Int)))=false→(res=(-1))))))):zaZ s0 v res:=by
 unfold zaZ
 have kk:=cfOk [17] 19
 refine fD (x:=bodyOf Tryz.f127) kk Tryz.func127 ?_
 refine wkS [1,4] [(1,vL zc s0),(4,vi v)] (by kernel_rfl) ?_
 refine sD kk [] [] [] obN ?_
 refine qD ?_
 refine sDE kk [] [] [(22,vi ((↑(List.length (List.map zc s0)):Int))),(25,vi 0)] [(22,vi ((↑(List.length s0):Int))),(25,vi 0)] obN ?_
 refine bD (id:=0) ?_
 obtain ⟨Inv7,mu8,h0Inv7,hInv7⟩:=h
 refine loD (fun (q:Int)=>(fun (t8:Int)=>([(1,vL zc s0),(4,vi v),(22,vi ((↑(List.length s0):Int))),(25,vi t8)]:Sta)) q) (fun (q:Int)=>Inv7 q) (fun (q:Int)=>mu8 q) 0 [] h0Inv7 ?_
 rintro t8 hi
 have h:=hInv7 t8 hi
 refine sD kk [] [] [(28,vB (decide (t8 < (↑(List.length s0):Int))))] obN ?_
 refine qD ?_
 refine cD (t:=9) (b:=decide (t8 < (↑(List.length s0):Int))) (fun hb9=>?_) (fun hb9=>?_)
 ·have h:=h.1 hb9
  refine Sem.skip' (by kernel_rfl) Wk.refl ?_
  show Sem _ _ _ _ _
  refine wkD [28] ?_
  refine qD ?_
  refine bD (id:=1) ?_
  refine sD kk [] [] [(16,vi t8)] obN ?_
  obtain ⟨h10,h⟩:=h
  obtain ⟨h11,h⟩:=h
  refine sD kk [.e (fi (gd s0 t8))] [] [(49,vB (v == gd s0 t8))] (obC h10 (obC (zO zc s0 t8 _ rfl h10 h11) obN)) ?_
  refine cD (t:=16) (b:=v == gd s0 t8) (fun hb12=>?_) (fun hb12=>?_)
  ·have h:=h.1 hb12
   refine sD kk [] [1,4,16,22,25,49] [(13,vi t8)] obN ?_
   refine tD ?_
   obtain he0:=h
   subst res
   exact (endD [] (vi t8) []).1
  ·have h:=h.2 hb12
   refine Sem.skip' (by kernel_rfl) Wk.refl ?_
   show Sem _ _ _ _ _
   refine wkD [16,49] ?_
   refine rD kk [] [] [(25,vi (w64 (t8+1)))] obN ?_
   exact lD (w64 (t8+1)) [] h
 ·have h:=h.2 hb9
  refine xD (i:=0) ?_
  show Sem _ _ _ _ _
  refine wkD [1,4,22,25,28] ?_
  refine sD kk [] [] [(13,vi (-1))] obN ?_
  refine tD ?_
  obtain he0:=h
  subst res
  exact (endD [] (vi (-1)) []).1
set_option maxHeartbeats 1000000 in
theorem zcH (s0:(List Int)) (v:Int) (res:Bool)
 (h:(∃ r0:Int,zaZ s0 v r0∧(res=(decide (r0≥(0:Int)))))):zaE s0 v res:=by
 unfold zaE
 have kk:=cfOk [] 9
 refine fD (x:=bodyOf Tryz.f104) kk Tryz.func104 ?_
 refine wkS [1,4] [(1,vL zc s0),(4,vi v)] (by kernel_rfl) ?_
 refine sD kk [] [] [] obN ?_
 obtain ⟨r0,hc0,h⟩:=h
 refine sD kk [.c (vi r0) []] [1,4] [(13,vB (decide (r0≥(0:Int))))] (obC hc0 obN) ?_
 refine tD ?_
 obtain he0:=h
 subst res
 exact (endD [] (vB (decide (r0≥(0:Int)))) []).1
end Go.Ev
set_option linter.unusedSimpArgs false
set_option linter.unusedVariables false
namespace Go.Ev
open Go Go.Proofs
set_option maxRecDepth 8000
set_option maxHeartbeats 1000000 in
theorem W_spec_Active (s0:zh) (rule0:Int) (cond:Int) (res:Bool)
 (h:(((decide (rule0 < (0:Int)) || (decide (rule0≥(↑(List.length (List.map zy (zh.Rules s0))):Int)) || (decide (cond < (0:Int)) || decide (cond≥(↑(List.length (zh.Conds s0)):Int)))))=true→(res=false))∧((decide (rule0 < (0:Int)) || (decide (rule0≥(↑(List.length (List.map zy (zh.Rules s0))):Int)) || (decide (cond < (0:Int)) || decide (cond≥(↑(List.length (zh.Conds s0)):Int)))))=false→((0:Int)≤rule0)∧rule0 < ↑(List.length (zh.Rules s0))∧(((zj.All (gd (zh.Rules s0) rule0))=true→(res=true))∧((zj.All (gd (zh.Rules s0) rule0))=false→(∃ r0:Bool,zaE (zj.Conds (gd (zh.Rules s0) rule0)) cond r0∧(((r0)=true→(res=true))∧((r0)=false→((((↑(List.length (List.map zc (zj.Conds (gd (zh.Rules s0) rule0)))):Int) == 0)=true→((zj.All (gd (zh.Rules s0) rule0))=false→((r0)=false→(((↑(List.length (List.map zc (zj.Conds (gd (zh.Rules s0) rule0)))):Int) == 0)=true→((0:Int)≤cond))))∧((zj.All (gd (zh.Rules s0) rule0))=false→((r0)=false→(((↑(List.length (List.map zc (zj.Conds (gd (zh.Rules s0) rule0)))):Int) == 0)=true→cond < ↑(List.length (zh.Conds s0)))))∧(res=(!zJ.Exclusive (gd (zh.Conds s0) cond))))∧(((↑(List.length (List.map zc (zj.Conds (gd (zh.Rules s0) rule0)))):Int) == 0)=false→(res=false))))))))))):zct s0 rule0 cond res:=by
 unfold zct
 have kk:=cfOk [] 56
 refine fD (x:=bodyOf Tryz.f83) kk Tryz.func83 ?_
 refine wkS [1,4,7] [(1,zG s0),(4,vi rule0),(7,vi cond)] (by kernel_rfl) ?_
 refine sD kk [] [1] [(10,.ptr 20 0),(20,zG s0)] obN ?_
 refine qD ?_
 refine sM [] [(82,vB (decide (rule0 < (0:Int)) || (decide (rule0≥(↑(List.length (List.map zy (zh.Rules s0))):Int)) || (decide (cond < (0:Int)) || decide (cond≥(↑(List.length (zh.Conds s0)):Int))))))] ?_ (fun hk0=>?_)
 ·refine cD (t:=27) (b:=decide (rule0 < (0:Int)) || (decide (rule0≥(↑(List.length (List.map zy (zh.Rules s0))):Int)) || (decide (cond < (0:Int)) || decide (cond≥(↑(List.length (zh.Conds s0)):Int))))) (fun hb3=>?_) (fun hb3=>?_)
  ·have h:=h.1 hb3
   refine sD kk [] [4,7,10,20,82] [(19,vB false)] obN ?_
   refine tD ?_
   obtain he0:=h
   subst res
   exact (endD [] (vB false) []).1
  ·have h:=h.2 hb3
   refine Sem.skip' (by kernel_rfl) Wk.refl ?_
   show Sem _ _ _ _ _
   refine wkD [82] ?_
   obtain ⟨h4,h⟩:=h
   obtain ⟨h5,h⟩:=h
   refine sD kk [.e (zbd (gd (zh.Rules s0) rule0))] [4] [(22,.ptr 44 0),(44,zak (gd (zh.Rules s0) rule0))] (obC h4 (obC (zO zy (zh.Rules s0) rule0 _ (zau _) h4 h5) obN)) ?_
   rcases Bool.eq_false_or_eq_true (zj.All (gd (zh.Rules s0) rule0)) with hb6 | hb6
   ·have h:=h.1 hb6
    refine sD kk [bF,bF,bF,bF,bT,bF,bF,bF,bF,bF,bF,bT] [7,10,20,22,44] [(19,vB true)] (obC (gff hb6) (obC (gff hb6) (obC (gff hb6) (obC (gff hb6) (obC hb6 (oF (oF (oF (oF (oF (oF (oT obN)))))))))))) ?_
    refine tD ?_
    obtain he0:=h
    subst res
    exact (endD [] (vB true) []).1
   ·have h:=h.2 hb6
    obtain ⟨r0,hc7,h⟩:=h
    rcases Bool.eq_false_or_eq_true (r0) with hb12 | hb12
    ·have h:=h.1 hb12
     refine sD kk [bT,bT,bT,bT,.c (vB r0) [],bF,bF,bF,bF,bF,bF,bF,bT] [7,10,20,22,44] [(19,vB true)] (obC (gft hb6) (obC (gft hb6) (obC (gft hb6) (obC (gft hb6) (obC hc7 (obC hb6 (obC (gff hb12) (obC (gff hb12) (obC (gff hb12) (obC (gff hb12) (obC (gff hb12) (obC (gff hb12) (obC hb12 obN))))))))))))) ?_
     refine tD ?_
     obtain he0:=h
     subst res
     exact (endD [] (vB true) []).1
    ·have h:=h.2 hb12
     rcases Bool.eq_false_or_eq_true ((↑(List.length (List.map zc (zj.Conds (gd (zh.Rules s0) rule0)))):Int) == 0) with hb16 | hb16
     ·have h:=h.1 hb16
      obtain ⟨h17,h⟩:=h
      obtain ⟨h18,h⟩:=h
      refine sD kk [bT,bT,bT,bT,.c (vB r0) [],bF,bT,bT,bT,bT,bT,bT,bT,bT,bT,.e (zaG (gd (zh.Conds s0) cond)),bT,bT,bT,bT,bT,bF] [7,10,20,22,44] [(19,vB (!zJ.Exclusive (gd (zh.Conds s0) cond)))] (obC (gft hb6) (obC (gft hb6) (obC (gft hb6) (obC (gft hb6) (obC hc7 (obC hb6 (obC (gft hb12) (obC (gft hb12) (obC (gft hb12) (obC (gft hb12) (obC (gft hb12) (obC (gtt hb16) (obC (gtt hb16) (obC (gtt hb16) (obC (gtt hb16) (obC (((h17 hb6) hb12) hb16) (obC (zO zx (zh.Conds s0) cond _ (zaa _) (((h17 hb6) hb12) hb16) (((h18 hb6) hb12) hb16)) (obC (gtt hb16) (obC (gtt hb16) (obC (gtt hb16) (obC (gft hb12) (obC hb16 (obC hb12 obN))))))))))))))))))))))) ?_
      refine tD ?_
      obtain he0:=h
      subst res
      exact (endD [] (vB (!zJ.Exclusive (gd (zh.Conds s0) cond))) []).1
     ·have h:=h.2 hb16
      refine sD kk [bT,bT,bT,bT,.c (vB r0) [],bF,bT,bT,bT,bT,bT,bF,bF,bF,bF,bF,bF,bF,bT,bF,bF] [7,10,20,22,44] [(19,vB false)] (obC (gft hb6) (obC (gft hb6) (obC (gft hb6) (obC (gft hb6) (obC hc7 (obC hb6 (obC (gft hb12) (obC (gft hb12) (obC (gft hb12) (obC (gft hb12) (obC (gft hb12) (obC (gtf hb16) (obC (gtf hb16) (obC (gtf hb16) (obC (gtf hb16) (obC (gtf hb16) (obC (gtf hb16) (obC (gtf hb16) (obC (gft hb12) (obC hb16 (obC hb12 obN))))))))))))))))))))) ?_
      refine tD ?_
      obtain he0:=h
      subst res
      exact (endD [] (vB false) []).1
 ·rcases Bool.eq_false_or_eq_true (decide (rule0 < (0:Int))) with hb0 | hb0
  ·refine sD kk [bF,bF,bF,bF,bF,bT,bF,bF,bT,bF,bF,bF,bF,bF,bT] [] [(82,vB true)] (obC (gff hb0) (obC (gff hb0) (obC (gff hb0) (obC (gff hb0) (obC (gff hb0) (obC hb0 (oF (oF (oT (oF (oF (oF (oF (oF (oT obN))))))))))))))) ?_
   exact Sem.cast (by try rw [hb0];kernel_rfl) hk0
  ·rcases Bool.eq_false_or_eq_true (decide (rule0≥(↑(List.length (List.map zy (zh.Rules s0))):Int))) with hb1 | hb1
   ·refine sD kk [bT,bT,bT,bT,bT,bF,bF,bF,bT,bF,bF,bF,bF,bF,bT] [] [(82,vB true)] (obC (gft hb0) (obC (gft hb0) (obC (gft hb0) (obC (gft hb0) (obC (gft hb0) (obC hb0 (obC (gff hb1) (obC (gff hb1) (obC hb1 (oF (oF (oF (oF (oF (oT obN))))))))))))))) ?_
    exact Sem.cast (by try rw [hb0];try rw [hb1];kernel_rfl) hk0
   ·rcases Bool.eq_false_or_eq_true (decide (cond < (0:Int))) with hb2 | hb2
    ·refine sD kk [bT,bT,bT,bT,bT,bF,bT,bT,bF,bF,bF,bF,bF,bF,bT] [] [(82,vB true)] (obC (gft hb0) (obC (gft hb0) (obC (gft hb0) (obC (gft hb0) (obC (gft hb0) (obC hb0 (obC (gft hb1) (obC (gft hb1) (obC hb1 (obC (gff hb2) (obC (gff hb2) (obC (gff hb2) (obC (gff hb2) (obC (gff hb2) (obC hb2 obN))))))))))))))) ?_
     exact Sem.cast (by try rw [hb0];try rw [hb1];try rw [hb2];kernel_rfl) hk0
    ·refine sDE kk [bT,bT,bT,bT,bT,bF,bT,bT,bF,bT,bT,bT,bT,bT,bF] [] [(82,vB (decide (cond≥(↑(List.length (List.map zx (zh.Conds s0))):Int))))] [(82,vB (decide (cond≥(↑(List.length (zh.Conds s0)):Int))))] (obC (gft hb0) (obC (gft hb0) (obC (gft hb0) (obC (gft hb0) (obC (gft hb0) (obC hb0 (obC (gft hb1) (obC (gft hb1) (obC hb1 (obC (gft hb2) (obC (gft hb2) (obC (gft hb2) (obC (gft hb2) (obC (gft hb2) (obC hb2 obN))))))))))))))) ?_
     exact Sem.cast (by try rw [hb0];try rw [hb1];try rw [hb2];kernel_rfl) hk0
set_option maxHeartbeats 1000000 in
theorem W_auto_start (s0:zh) (begins:(List (List Int))) (cond:Int) (bol:Bool) (res:(List Int))
 (h:(∃ (Inv36:List Int→Int→Prop) (mu37:List Int→Int→Nat),Inv36 ([]) 0∧(∀ (out_1:List Int) (t13:Int),Inv36 out_1 t13→(((decide (t13 < (↑(List.length begins):Int)))=true→(∃ J48:List Int→Prop,(∀ (out_3:List Int),J48 out_3→(Inv36 out_3 (w64 (t13+1))∧mu37 out_3 (w64 (t13+1)) < mu37 out_1 t13))∧((0:Int)≤t13)∧t13 < ↑(List.length begins)∧(∃ r0_10:Bool,zct s0 t13 cond r0_10∧((r0_10)=true→((bol)=false→((0:Int)≤t13)))∧((r0_10)=true→((bol)=false→t13 < ↑(List.length (zh.Rules s0))))∧(((r0_10 && (bol || !zj.Bol (gd (zh.Rules s0) t13)))=true→(∃ r0_11:List Int,zah out_1 (gd begins t13) r0_11∧J48 r0_11))∧((r0_10 && (bol || !zj.Bol (gd (zh.Rules s0) t13)))=false→J48 out_1)))))∧((decide (t13 < (↑(List.length begins):Int)))=false→(res=out_1)))))):zcN s0 begins cond bol res:=by
 unfold zcN
 have kk:=cfOk [38] 39
 refine fD (x:=bodyOf Tryz.f43) kk Tryz.func43 ?_
 refine wkS [1,4,7,10] [(1,zG s0),(4,vL zg begins),(7,vi cond),(10,vB bol)] (by kernel_rfl) ?_
 refine sDE kk [] [1] [(13,.ptr 26 0),(25,.own 3 ([])),(26,zG s0)] [(13,.ptr 26 0),(25,oL 3 zc ([])),(26,zG s0)] obN ?_
 refine qD ?_
 refine sDE kk [] [4] [(34,vL zg begins),(37,vi ((↑(List.length (List.map zg begins)):Int))),(40,vi 0)] [(34,vL zg begins),(37,vi ((↑(List.length begins):Int))),(40,vi 0)] obN ?_
 refine bD (id:=0) ?_
 obtain ⟨Inv36,mu37,h0Inv36,hInv36⟩:=h
 refine loD (fun (q:List Int×Int)=>(fun (out_1:List Int) (t13:Int)=>([(7,vi cond),(10,vB bol),(13,.ptr 26 0),(25,vL zc out_1),(26,zG s0),(34,vL zg begins),(37,vi ((↑(List.length begins):Int))),(40,vi t13)]:Sta)) q.1 q.2) (fun (q:List Int×Int)=>Inv36 q.1 q.2) (fun (q:List Int×Int)=>mu37 q.1 q.2) (([]),0) [(25,0)] h0Inv36 ?_
 rintro ⟨out_1,t13⟩ hi
 have h:=hInv36 out_1 t13 hi
 refine sD kk [] [] [(43,vB (decide (t13 < (↑(List.length begins):Int))))] obN ?_
 refine qD ?_
 refine cD (t:=14) (b:=decide (t13 < (↑(List.length begins):Int))) (fun hb38=>?_) (fun hb38=>?_)
 ·have h:=h.1 hb38
  refine Sem.skip' (by kernel_rfl) Wk.refl ?_
  show Sem _ _ _ _ _
  refine wkD [43] ?_
  obtain ⟨J48,hJ48,h⟩:=h
  refine sjD (fun (q:List Int)=>J48 q) (fun (q:List Int)=>(fun (out_3:List Int)=>([(7,vi cond),(10,vB bol),(13,.ptr 26 0),(25,vL zc out_3),(26,zG s0),(34,vL zg begins),(37,vi ((↑(List.length begins):Int))),(40,vi t13)]:Sta)) q) ?_ ?_
  ·rintro out_3 hj
   have h:=hJ48 out_3 hj
   refine rD kk [] [] [(40,vi (w64 (t13+1)))] obN ?_
   exact lD (out_3,(w64 (t13+1))) [] h
  ·refine bD (id:=1) ?_
   obtain ⟨h49,h⟩:=h
   obtain ⟨h50,h⟩:=h
   refine sD kk [.e (fL zc (gd begins t13))] [] [(28,vi t13),(31,vL zc (gd begins t13))] (obC h49 (obC (zO zg begins t13 _ rfl h49 h50) obN)) ?_
   obtain ⟨r0_10,hc51,h⟩:=h
   obtain ⟨h54,h55,h⟩:=h
   refine sM [28] [(100,vB (r0_10 && (bol || !zj.Bol (gd (zh.Rules s0) t13))))] ?_ (fun hk0=>?_)
   ·refine cD (t:=33) (b:=r0_10 && (bol || !zj.Bol (gd (zh.Rules s0) t13))) (fun hb56=>?_) (fun hb56=>?_)
    ·have h:=h.1 hb56
     obtain ⟨r0_11,hc57,h⟩:=h
     refine rD kk [.c (vL zc r0_11) []] [31,100] [(25,vL zc r0_11)] (obC hc57 obN) ?_
     exact jD r0_11 [] h
    ·have h:=h.2 hb56
     refine Sem.skip' (by kernel_rfl) Wk.refl ?_
     exact jD out_1 [] h
   ·rcases Bool.eq_false_or_eq_true (r0_10) with hb52 | hb52
    ·rcases Bool.eq_false_or_eq_true (bol) with hb53 | hb53
     ·refine sD kk [.c (vB r0_10) [],bT,bT,bF,bF,bF,bF,bF,bF,bF,bT,bT,bT] [28] [(100,vB true)] (obC hc51 (obC (gtt hb52) (obC (gtt hb52) (obC (gff hb53) (obC (gff hb53) (obC (gff hb53) (obC (gff hb53) (obC (gff hb53) (obC (gff hb53) (obC (gff hb53) (obC (gtt hb52) (obC hb53 (obC hb52 obN))))))))))))) ?_
      exact Sem.cast (by try rw [hb52];try rw [hb53];kernel_rfl) hk0
     ·refine sD kk [.c (vB r0_10) [],bT,bT,bT,bT,bT,bT,.e (zbd (gd (zh.Rules s0) t13)),bT,bT,bT,bT,bF,bT] [28] [(100,vB (!zj.Bol (gd (zh.Rules s0) t13)))] (obC hc51 (obC (gtt hb52) (obC (gtt hb52) (obC (gft hb53) (obC (gft hb53) (obC (gft hb53) (obC (gft hb53) (obC ((h54 hb52) hb53) (obC (zO zy (zh.Rules s0) t13 _ (zau _) ((h54 hb52) hb53) ((h55 hb52) hb53)) (obC (gft hb53) (obC (gft hb53) (obC (gft hb53) (obC (gtt hb52) (obC hb53 (obC hb52 obN))))))))))))))) ?_
      exact Sem.cast (by try rw [hb52];try rw [hb53];kernel_rfl) hk0
    ·refine sD kk [.c (vB r0_10) [],bF,bF,bF,bF] [28] [(100,vB false)] (obC hc51 (obC (gtf hb52) (obC (gtf hb52) (obC (gtf hb52) (obC hb52 obN))))) ?_
     exact Sem.cast (by try rw [hb52];kernel_rfl) hk0
 ·have h:=h.2 hb38
  refine xD (i:=0) ?_
  show Sem _ _ _ _ _
  refine wkD [7,10,13,26,34,37,40,43] ?_
  refine sD kk [] [] [] obN ?_
  refine tD ?_
  obtain he0:=h
  subst res
  exact (endD [] (vL zc out_1) []).1
set_option maxHeartbeats 1000000 in
theorem W_auto_Build (s0:zh) (res:zl) (res_1:Int)
 (h:(∃ r0:Bool,zck s0 r0∧(((!r0)=true→(res=({ Sets:=[],Owner:=[],Follow:=[],Ends:=[],Starts:=[] })∧res_1=1))∧((!r0)=false→(∃ (Inv10:List (List Int)→List zb→List Int→List (List Int)→List Bool→List (List Int)→Int→Prop) (mu11:List (List Int)→List zb→List Int→List (List Int)→List Bool→List (List Int)→Int→Nat),Inv10 ([]) ([]) ([]) ([]) ([]) ([]) 0∧(∀ (begins:List (List Int)) (t28_Auto_Sets:List zb) (t28_Auto_Owner:List Int) (t28_Auto_Follow:List (List Int)) (t28_Auto_Ends:List Bool) (t28_Auto_Starts:List (List Int)) (t18:Int),Inv10 begins t28_Auto_Sets t28_Auto_Owner t28_Auto_Follow t28_Auto_Ends t28_Auto_Starts t18→(((decide (t18 < (↑(List.length (zh.Rules s0)):Int)))=true→((0:Int)≤t18)∧t18 < ↑(List.length (zh.Rules s0))∧(∃ r0_3:List Int,∃ o_2:zp,zbt (gd (zh.Rules s0) t18) t18 ({ Auto:={ Sets:=t28_Auto_Sets,Owner:=t28_Auto_Owner,Follow:=t28_Auto_Follow,Ends:=t28_Auto_Ends,Starts:=t28_Auto_Starts } }) r0_3 o_2∧((List.length begins+(1:Nat)) * (24:Nat)≤(2:Nat) ^ (47:Nat))∧(Inv10 (begins++[r0_3]) (zl.Sets (zp.Auto o_2)) (zl.Owner (zp.Auto o_2)) (zl.Follow (zp.Auto o_2)) (zl.Ends (zp.Auto o_2)) (zl.Starts (zp.Auto o_2)) (w64 (t18+1))∧mu11 (begins++[r0_3]) (zl.Sets (zp.Auto o_2)) (zl.Owner (zp.Auto o_2)) (zl.Follow (zp.Auto o_2)) (zl.Ends (zp.Auto o_2)) (zl.Starts (zp.Auto o_2)) (w64 (t18+1)) < mu11 begins t28_Auto_Sets t28_Auto_Owner t28_Auto_Follow t28_Auto_Ends t28_Auto_Starts t18)))∧((decide (t18 < (↑(List.length (zh.Rules s0)):Int)))=false→(((decide ((↑(List.length t28_Auto_Sets):Int) > (600:Int)))=true→(res=({ Sets:=[],Owner:=[],Follow:=[],Ends:=[],Starts:=[] })∧res_1=2))∧((decide ((↑(List.length t28_Auto_Sets):Int) > (600:Int)))=false→(∃ (Inv24:List (List Int)→Int→Prop) (mu25:List (List Int)→Int→Nat),Inv24 t28_Auto_Starts 0∧(∀ (t28_Auto_Starts_1:List (List Int)) (t43:Int),Inv24 t28_Auto_Starts_1 t43→(((decide (t43 < w64 ((2:Int) * (↑(List.length (zh.Conds s0)):Int))))=true→(∃ r0_6:List Int,zcN s0 begins (w64 (Int.tdiv t43 (2:Int))) (Int.tmod t43 (2:Int) == 1) r0_6∧((List.length t28_Auto_Starts_1+(1:Nat)) * (24:Nat)≤(2:Nat) ^ (47:Nat))∧(Inv24 (t28_Auto_Starts_1++[r0_6]) (w64 (t43+1))∧mu25 (t28_Auto_Starts_1++[r0_6]) (w64 (t43+1)) < mu25 t28_Auto_Starts_1 t43)))∧((decide (t43 < w64 ((2:Int) * (↑(List.length (zh.Conds s0)):Int))))=false→(res=({ Sets:=t28_Auto_Sets,Owner:=t28_Auto_Owner,Follow:=t28_Auto_Follow,Ends:=t28_Auto_Ends,Starts:=t28_Auto_Starts_1 })∧res_1=0))))))))))))))):zbU s0 res res_1:=by
 unfold zbU
 have kk:=cfOk [] 70
 refine fD (x:=bodyOf Tryz.f15) kk Tryz.func15 ?_
 refine wkS [1] [(1,zG s0)] (by kernel_rfl) ?_
 refine sDE kk [] [1] [(4,.ptr 8 0),(7,.ptr 14 0),(8,zG s0),(14,.agg [.own 25 ([]),.own 3 ([]),.own 40 ([]),.own 4 ([]),.own 40 ([])])] [(4,.ptr 8 0),(7,.ptr 14 0),(8,zG s0),(14,.agg [oL 25 zf ([]),oL 3 zc ([]),oL 40 zg ([]),oL 4 zw ([]),oL 40 zg ([])])] obN ?_
 refine qD ?_
 obtain ⟨r0,hc0,h⟩:=h
 refine sD kk [.c (vB r0) []] [] [(34,vB (!r0))] (obC hc0 obN) ?_
 refine cD (t:=11) (b:=!r0) (fun hb1=>?_) (fun hb1=>?_)
 ·have h:=h.1 hb1
  refine sDE kk [] [4,8,34] [(10,vi 1),(14,.agg [.own 25 ([]),.own 3 ([]),.own 40 ([]),.own 4 ([]),.own 40 ([])])] [(10,vi 1),(14,.agg [oL 25 zf ([]),oL 3 zc ([]),oL 40 zg ([]),oL 4 zw ([]),oL 40 zg ([])])] obN ?_
  refine tD ?_
  obtain ⟨he0,he1⟩:=h
  subst res res_1
  exact (endD [] (.tup [.agg [.f (FV.sl (List.take (List.length (List.map zf [])) (List.drop (0:Nat) (List.map zf [])))),.f (FV.sl (List.take (List.length (List.map zc [])) (List.drop (0:Nat) (List.map zc [])))),.f (FV.sl (List.take (List.length (List.map zg [])) (List.drop (0:Nat) (List.map zg [])))),.f (FV.sl (List.take (List.length (List.map zw [])) (List.drop (0:Nat) (List.map zw [])))),.f (FV.sl (List.take (List.length (List.map zg [])) (List.drop (0:Nat) (List.map zg []))))],vi 1]) []).1
 ·have h:=h.2 hb1
  refine Sem.skip' (by kernel_rfl) Wk.refl ?_
  show Sem _ _ _ _ _
  refine wkD [34] ?_
  refine sDE kk [] [] [(13,.ptr 86 0),(86,.agg [.own 25 ([]),.own 3 ([]),.own 40 ([]),.own 4 ([]),.own 40 ([])])] [(13,.ptr 86 0),(86,.agg [oL 25 zf ([]),oL 3 zc ([]),oL 40 zg ([]),oL 4 zw ([]),oL 40 zg ([])])] obN ?_
  refine sDE kk [] [] [(16,.own 40 ([]))] [(16,oL 40 zg ([]))] obN ?_
  refine qD ?_
  refine sDE kk [] [] [(49,vL zy (zh.Rules s0)),(52,vi ((↑(List.length (List.map zy (zh.Rules s0))):Int))),(55,vi 0)] [(49,vL zy (zh.Rules s0)),(52,vi ((↑(List.length (zh.Rules s0)):Int))),(55,vi 0)] obN ?_
  refine bD (id:=0) ?_
  obtain ⟨Inv10,mu11,h0Inv10,hInv10⟩:=h
  refine loD (fun (q:List (List Int)×List zb×List Int×List (List Int)×List Bool×List (List Int)×Int)=>(fun (begins:List (List Int)) (t28_Auto_Sets:List zb) (t28_Auto_Owner:List Int) (t28_Auto_Follow:List (List Int)) (t28_Auto_Ends:List Bool) (t28_Auto_Starts:List (List Int)) (t18:Int)=>([(4,.ptr 8 0),(7,.ptr 14 0),(8,zG s0),(13,.ptr 86 0),(14,.agg [oL 25 zf ([]),oL 3 zc ([]),oL 40 zg ([]),oL 4 zw ([]),oL 40 zg ([])]),(16,oL 40 zg begins),(49,vL zy (zh.Rules s0)),(52,vi ((↑(List.length (zh.Rules s0)):Int))),(55,vi t18),(86,.agg [oL 25 zf t28_Auto_Sets,oL 3 zc t28_Auto_Owner,oL 40 zg t28_Auto_Follow,oL 4 zw t28_Auto_Ends,oL 40 zg t28_Auto_Starts])]:Sta)) q.1 q.2.1 q.2.2.1 q.2.2.2.1 q.2.2.2.2.1 q.2.2.2.2.2.1 q.2.2.2.2.2.2) (fun (q:List (List Int)×List zb×List Int×List (List Int)×List Bool×List (List Int)×Int)=>Inv10 q.1 q.2.1 q.2.2.1 q.2.2.2.1 q.2.2.2.2.1 q.2.2.2.2.2.1 q.2.2.2.2.2.2) (fun (q:List (List Int)×List zb×List Int×List (List Int)×List Bool×List (List Int)×Int)=>mu11 q.1 q.2.1 q.2.2.1 q.2.2.2.1 q.2.2.2.2.1 q.2.2.2.2.2.1 q.2.2.2.2.2.2) (([]),([]),([]),([]),([]),([]),0) [] h0Inv10 ?_
  rintro ⟨begins,t28_Auto_Sets,t28_Auto_Owner,t28_Auto_Follow,t28_Auto_Ends,t28_Auto_Starts,t18⟩ hi
  have h:=hInv10 begins t28_Auto_Sets t28_Auto_Owner t28_Auto_Follow t28_Auto_Ends t28_Auto_Starts t18 hi
  refine sD kk [] [] [(58,vB (decide (t18 < (↑(List.length (zh.Rules s0)):Int))))] obN ?_
  refine qD ?_
  refine cD (t:=19) (b:=decide (t18 < (↑(List.length (zh.Rules s0)):Int))) (fun hb12=>?_) (fun hb12=>?_)
  ·have h:=h.1 hb12
   refine Sem.skip' (by kernel_rfl) Wk.refl ?_
   show Sem _ _ _ _ _
   refine wkD [58] ?_
   refine qD ?_
   refine bD (id:=1) ?_
   obtain ⟨h13,h⟩:=h
   obtain ⟨h14,h⟩:=h
   refine sD kk [.e (zbd (gd (zh.Rules s0) t18))] [] [(19,vi t18),(22,.ptr 44 0),(44,zak (gd (zh.Rules s0) t18))] (obC h13 (obC (zO zy (zh.Rules s0) t18 _ (zau _) h13 h14) obN)) ?_
   obtain ⟨r0_3,o_2,hc15,h⟩:=h
   obtain ⟨h16,h⟩:=h
   refine rDE kk [.c (vL zc r0_3) [zZ o_2]] [19,22,44] [(16,.own 40 (List.map zg begins++List.take (List.length [FV.sl (List.map zc r0_3)]) (List.drop (0:Nat) [FV.sl (List.map zc r0_3)]))),(86,zZ o_2)] [(16,oL 40 zg (begins++[r0_3])),(86,zZ o_2)] (obC hc15 (obC (show (0:Nat)=(0:Nat)∧List.length (List.map zg begins)=List.length (List.map zg begins) from ⟨rfl,rfl⟩) (obC (show (List.length (List.map zg begins)+List.length (List.take (1:Nat) (List.drop (0:Nat) [FV.sl (List.map zc r0_3)]))) * (24:Nat)≤(2:Nat) ^ (47:Nat) from by simpa only [nm] using h16) (obC (show List.all (List.take (1:Nat) (List.drop (0:Nat) [FV.sl (List.map zc r0_3)])) (FV.fits (1:Nat))=true from by first | exact zaY _ | exact keysenc_i64 _ | rfl | simp [isByteF,FV.fits,FV.size,FV.cells,FV.one,zc]) obN)))) ?_
   show Sem _ _ _ _ _
   refine rD kk [] [] [(55,vi (w64 (t18+1)))] obN ?_
   exact lD ((begins++[r0_3]),(zl.Sets (zp.Auto o_2)),(zl.Owner (zp.Auto o_2)),(zl.Follow (zp.Auto o_2)),(zl.Ends (zp.Auto o_2)),(zl.Starts (zp.Auto o_2)),(w64 (t18+1))) [] h
  ·have h:=h.2 hb12
   refine xD (i:=0) ?_
   show Sem _ _ _ _ _
   refine wkD [49,52,55,58] ?_
   refine qD ?_
   refine sDE kk [] [] [(112,vB (decide ((↑(List.length (List.map zf t28_Auto_Sets)):Int) > (600:Int))))] [(112,vB (decide ((↑(List.length t28_Auto_Sets):Int) > (600:Int))))] obN ?_
   refine cD (t:=37) (b:=decide ((↑(List.length t28_Auto_Sets):Int) > (600:Int))) (fun hb17=>?_) (fun hb17=>?_)
   ·have h:=h.1 hb17
    refine sDE kk [] [4,8,13,16,86,112] [(10,vi 2),(14,.agg [.own 25 ([]),.own 3 ([]),.own 40 ([]),.own 4 ([]),.own 40 ([])])] [(10,vi 2),(14,.agg [oL 25 zf ([]),oL 3 zc ([]),oL 40 zg ([]),oL 4 zw ([]),oL 40 zg ([])])] obN ?_
    refine tD ?_
    obtain ⟨he0,he1⟩:=h
    subst res res_1
    exact (endD [] (.tup [.agg [.f (FV.sl (List.take (List.length (List.map zf [])) (List.drop (0:Nat) (List.map zf [])))),.f (FV.sl (List.take (List.length (List.map zc [])) (List.drop (0:Nat) (List.map zc [])))),.f (FV.sl (List.take (List.length (List.map zg [])) (List.drop (0:Nat) (List.map zg [])))),.f (FV.sl (List.take (List.length (List.map zw [])) (List.drop (0:Nat) (List.map zw [])))),.f (FV.sl (List.take (List.length (List.map zg [])) (List.drop (0:Nat) (List.map zg []))))],vi 2]) []).1
   ·have h:=h.2 hb17
    refine Sem.skip' (by kernel_rfl) Wk.refl ?_
    show Sem _ _ _ _ _
    refine wkD [112] ?_
    refine qD ?_
    refine sDE kk [] [] [(127,vi (w64 ((2:Int) * (↑(List.length (List.map zx (zh.Conds s0))):Int)))),(130,vi 0)] [(127,vi (w64 ((2:Int) * (↑(List.length (zh.Conds s0)):Int)))),(130,vi 0)] obN ?_
    refine bD (id:=2) ?_
    obtain ⟨Inv24,mu25,h0Inv24,hInv24⟩:=h
    refine loD (fun (q:List (List Int)×Int)=>(fun (t28_Auto_Starts_1:List (List Int)) (t43:Int)=>([(4,.ptr 8 0),(7,.ptr 14 0),(8,zG s0),(13,.ptr 86 0),(14,.agg [oL 25 zf ([]),oL 3 zc ([]),oL 40 zg ([]),oL 4 zw ([]),oL 40 zg ([])]),(16,vL zg begins),(86,.agg [oL 25 zf t28_Auto_Sets,oL 3 zc t28_Auto_Owner,oL 40 zg t28_Auto_Follow,oL 4 zw t28_Auto_Ends,oL 40 zg t28_Auto_Starts_1]),(127,vi (w64 ((2:Int) * (↑(List.length (zh.Conds s0)):Int)))),(130,vi t43)]:Sta)) q.1 q.2) (fun (q:List (List Int)×Int)=>Inv24 q.1 q.2) (fun (q:List (List Int)×Int)=>mu25 q.1 q.2) (t28_Auto_Starts,0) [(16,0)] h0Inv24 ?_
    rintro ⟨t28_Auto_Starts_1,t43⟩ hi
    have h:=hInv24 t28_Auto_Starts_1 t43 hi
    refine sD kk [] [] [(133,vB (decide (t43 < w64 ((2:Int) * (↑(List.length (zh.Conds s0)):Int)))))] obN ?_
    refine qD ?_
    refine cD (t:=44) (b:=decide (t43 < w64 ((2:Int) * (↑(List.length (zh.Conds s0)):Int)))) (fun hb26=>?_) (fun hb26=>?_)
    ·have h:=h.1 hb26
     refine Sem.skip' (by kernel_rfl) Wk.refl ?_
     show Sem _ _ _ _ _
     refine wkD [133] ?_
     refine qD ?_
     refine bD (id:=3) ?_
     refine sD kk [] [] [(25,vi t43)] obN ?_
     obtain ⟨r0_6,hc27,h⟩:=h
     obtain ⟨h28,h⟩:=h
     refine rDE kk [.c (vL zc r0_6) []] [25] [(86,.agg [oL 25 zf t28_Auto_Sets,oL 3 zc t28_Auto_Owner,oL 40 zg t28_Auto_Follow,oL 4 zw t28_Auto_Ends,.own 40 (List.map zg t28_Auto_Starts_1++List.take (List.length [FV.sl (List.map zc r0_6)]) (List.drop (0:Nat) [FV.sl (List.map zc r0_6)]))])] [(86,.agg [oL 25 zf t28_Auto_Sets,oL 3 zc t28_Auto_Owner,oL 40 zg t28_Auto_Follow,oL 4 zw t28_Auto_Ends,oL 40 zg (t28_Auto_Starts_1++[r0_6])])] (obC (show (2:Int)≠(0:Int) from by first | decide | rfl | trivial) (obC (show (2:Int)≠(0:Int) from by first | decide | rfl | trivial) (obC hc27 (obC (show (0:Nat)=(0:Nat)∧List.length (List.map zg t28_Auto_Starts_1)=List.length (List.map zg t28_Auto_Starts_1) from ⟨rfl,rfl⟩) (obC (show (List.length (List.map zg t28_Auto_Starts_1)+List.length (List.take (1:Nat) (List.drop (0:Nat) [FV.sl (List.map zc r0_6)]))) * (24:Nat)≤(2:Nat) ^ (47:Nat) from by simpa only [nm] using h28) (obC (show List.all (List.take (1:Nat) (List.drop (0:Nat) [FV.sl (List.map zc r0_6)])) (FV.fits (1:Nat))=true from by first | exact zaY _ | exact keysenc_i64 _ | rfl | simp [isByteF,FV.fits,FV.size,FV.cells,FV.one,zc]) obN)))))) ?_
     show Sem _ _ _ _ _
     refine rD kk [] [] [(130,vi (w64 (t43+1)))] obN ?_
     exact lD ((t28_Auto_Starts_1++[r0_6]),(w64 (t43+1))) [] h
    ·have h:=h.2 hb26
     refine xD (i:=2) ?_
     show Sem _ _ _ _ _
     refine wkD [4,8,16,127,130,133] ?_
     refine sDE kk [] [13,86] [(10,vi 0),(14,.agg [.f (FV.sl (List.take (List.length (List.map zf t28_Auto_Sets)) (List.drop (0:Nat) (List.map zf t28_Auto_Sets)))),.f (FV.sl (List.take (List.length (List.map zc t28_Auto_Owner)) (List.drop (0:Nat) (List.map zc t28_Auto_Owner)))),.f (FV.sl (List.take (List.length (List.map zg t28_Auto_Follow)) (List.drop (0:Nat) (List.map zg t28_Auto_Follow)))),.f (FV.sl (List.take (List.length (List.map zw t28_Auto_Ends)) (List.drop (0:Nat) (List.map zw t28_Auto_Ends)))),.f (FV.sl (List.take (List.length (List.map zg t28_Auto_Starts_1)) (List.drop (0:Nat) (List.map zg t28_Auto_Starts_1))))])] [(10,vi 0),(14,.agg [vL zf t28_Auto_Sets,vL zc t28_Auto_Owner,vL zg t28_Auto_Follow,vL zw t28_Auto_Ends,vL zg t28_Auto_Starts_1])] obN ?_
     refine tD ?_
     obtain ⟨he0,he1⟩:=h
     subst res res_1
     exact (endD [] (.tup [.agg [vL zf t28_Auto_Sets,vL zc t28_Auto_Owner,vL zg t28_Auto_Follow,vL zw t28_Auto_Ends,vL zg t28_Auto_Starts_1],vi 0]) []).1
set_option maxHeartbeats 1000000 in
theorem zff (x:ze) (res:Bool)
 (h:(res=(ze.Kind x == 0 && (zb.e0 (ze.Set x) == 0 && (zb.e1 (ze.Set x) == 0 && (zb.e2 (ze.Set x) == 0 && (zb.e3 (ze.Set x) == 0 && true))) && (ze.Lo x == 0 && (ze.Hi x == 0 && (↑(List.length (ze.Kids x)):Int) == 0)))))):zaT x res:=by
 unfold zaT
 have kk:=cfOk [] 28
 refine fD (x:=bodyOf Tryz.f118) kk Tryz.func118 ?_
 refine wkS [1] [(1,zC x)] (by kernel_rfl) ?_
 refine sD kk [] [1] [(4,.ptr 8 0),(8,zC x)] obN ?_
 refine sM [4,8] [(7,vB (ze.Kind x == 0 && (zb.e0 (ze.Set x) == 0 && (zb.e1 (ze.Set x) == 0 && (zb.e2 (ze.Set x) == 0 && (zb.e3 (ze.Set x) == 0 && true))) && (ze.Lo x == 0 && (ze.Hi x == 0 && (↑(List.length (ze.Kids x)):Int) == 0)))))] ?_ (fun hk0=>?_)
 ·refine tD ?_
  obtain he0:=h
  subst res
  exact (endD [] (vB (ze.Kind x == 0 && (zb.e0 (ze.Set x) == 0 && (zb.e1 (ze.Set x) == 0 && (zb.e2 (ze.Set x) == 0 && (zb.e3 (ze.Set x) == 0 && true))) && (ze.Lo x == 0 && (ze.Hi x == 0 && (↑(List.length (ze.Kids x)):Int) == 0))))) []).1
 ·rcases Bool.eq_false_or_eq_true (ze.Kind x == 0) with hb0 | hb0
  ·rcases Bool.eq_false_or_eq_true (zb.e0 (ze.Set x) == 0 && (zb.e1 (ze.Set x) == 0 && (zb.e2 (ze.Set x) == 0 && (zb.e3 (ze.Set x) == 0 && true)))) with hb1 | hb1
   ·rcases Bool.eq_false_or_eq_true (ze.Lo x == 0) with hb2 | hb2
    ·rcases Bool.eq_false_or_eq_true (ze.Hi x == 0) with hb3 | hb3
     ·refine sDE kk [bT,bT,bT,bT,bT,bT,bT,bT,bT,bT,bT,bT,bT,bT,bT,bT,bT,bT] [4,8] [(7,vB ((↑(List.length (List.map zn (ze.Kids x))):Int) == 0))] [(7,vB ((↑(List.length (ze.Kids x)):Int) == 0))] (obC (gtt hb0) (obC (gtt hb0) (obC (gtt hb0) (obC (gtt hb0) (obC hb0 (obC (gtt hb1) (obC (gtt hb1) (obC (gtt hb1) (obC hb1 (obC (gtt hb2) (obC (gtt hb2) (obC (gtt hb2) (obC hb2 (obC (gtt hb3) (obC (gtt hb3) (obC (gtt hb3) (obC (gtt hb3) (obC hb3 obN)))))))))))))))))) ?_
      exact Sem.cast (by try rw [hb0];try rw [hb1];try rw [hb2];try rw [hb3];kernel_rfl) hk0
     ·refine sD kk [bT,bT,bT,bT,bT,bT,bT,bT,bT,bT,bT,bT,bT,bF,bF,bF,bF,bF] [4,8] [(7,vB false)] (obC (gtt hb0) (obC (gtt hb0) (obC (gtt hb0) (obC (gtt hb0) (obC hb0 (obC (gtt hb1) (obC (gtt hb1) (obC (gtt hb1) (obC hb1 (obC (gtt hb2) (obC (gtt hb2) (obC (gtt hb2) (obC hb2 (obC (gtf hb3) (obC (gtf hb3) (obC (gtf hb3) (obC (gtf hb3) (obC hb3 obN)))))))))))))))))) ?_
      exact Sem.cast (by try rw [hb0];try rw [hb1];try rw [hb2];try rw [hb3];kernel_rfl) hk0
    ·refine sD kk [bT,bT,bT,bT,bT,bT,bT,bT,bT,bF,bF,bF,bF,bF,bF,bF,bF,bF] [4,8] [(7,vB false)] (obC (gtt hb0) (obC (gtt hb0) (obC (gtt hb0) (obC (gtt hb0) (obC hb0 (obC (gtt hb1) (obC (gtt hb1) (obC (gtt hb1) (obC hb1 (obC (gtf hb2) (obC (gtf hb2) (obC (gtf hb2) (obC hb2 (oF (oF (oF (oF (oF obN)))))))))))))))))) ?_
     exact Sem.cast (by try rw [hb0];try rw [hb1];try rw [hb2];kernel_rfl) hk0
   ·refine sD kk [bT,bT,bT,bT,bT,bF,bF,bF,bF,bF,bF,bF,bF,bF,bF,bF,bF,bF] [4,8] [(7,vB false)] (obC (gtt hb0) (obC (gtt hb0) (obC (gtt hb0) (obC (gtt hb0) (obC hb0 (obC (gtf hb1) (obC (gtf hb1) (obC (gtf hb1) (obC hb1 (oF (oF (oF (oF (oF (oF (oF (oF (oF obN)))))))))))))))))) ?_
    exact Sem.cast (by try rw [hb0];try rw [hb1];kernel_rfl) hk0
  ·refine sD kk [bF,bF,bF,bF,bF,bF,bF,bF,bF,bF,bF,bF,bF,bF,bF,bF,bF,bF] [4,8] [(7,vB false)] (obC (gtf hb0) (obC (gtf hb0) (obC (gtf hb0) (obC (gtf hb0) (obC hb0 (oF (oF (oF (oF (oF (oF (oF (oF (oF (oF (oF (oF (oF obN)))))))))))))))))) ?_
   exact Sem.cast (by try rw [hb0];kernel_rfl) hk0
end Go.Ev
