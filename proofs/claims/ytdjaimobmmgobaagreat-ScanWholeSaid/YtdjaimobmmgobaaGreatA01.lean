import Derived.Test.YtdjaimobmmgobaaGreatA00
import Derived.MapKept
import Derived.Laws.Tables
import Derived.Laws.CopyRow
import Derived.Laws.Append
set_option linter.unusedVariables false
set_option linter.unusedSimpArgs false
namespace Go.Ev
open Go Go.RowKit
variable {P : Program}
section
variable {CE : CEx} {c : Cfg} {G : Sta} {own : Own} {a : Act} {w : World} {T : List Acc} {next : Act → World → Prop}
variable {F : Fence} {n : Nat} {o : Oper} {Q : Exit → Act → World → Prop}
theorem zdk {k q:Nat} {u v:Value} {arr:Array Value} {TT:TypeId} (hw:w.heap[k]?=some (.cells arr TT (0,0))) (hq:q < arr.size) (hu:u.oneCell'=true) :
 (store ⟨k,q,none⟩ u).run P w=.ok () (w.setCell ⟨k,q,none⟩ u):=by
 rw [run_store _ _ _ _ _ hu]
 have h1:w.cell? ⟨k,q,none⟩=some arr[q]:=by simp [World.cell?,hw,hq]
 have h2:w.frozen? ⟨k,q,none⟩=false:=by simp [World.frozen?,hw]
 simp [h1,h2]
theorem zfN (s:St P c.nt G own a w) {b q k:Nat} (hb:b % 3≠1) (hmm:isM b=false) (hk:own k=some (.box b)) {m:Nat} (hm:lenOf G b=some m) (hq:q < m) {x:AV} {u:Value} (hp:x.plain0=true) (hx:R0 P G own w x u) :
 (store ⟨k,q,none⟩ u).run P w=.ok () (w.setCell ⟨k,q,none⟩ u)∧St P c.nt ((Up.leaf b q x).app G) own a (w.setCell ⟨k,q,none⟩ u)∧
   Keep P G own w ((Up.leaf b q x).app G) own (w.setCell ⟨k,q,none⟩ u) (killr b (some q)) (live (killr b (some q))):=by
 simp only [lenOf,Option.map_eq_some_iff] at hm
 obtain ⟨y,hg,hlen⟩:=hm
 obtain ⟨k',arr,TT,e1,e2,e3⟩:=s.boxes b y hb hmm hg
 have:=s.one _ _ _ e1 hk;subst this
 have hu:=za3 hx hp
 refine ⟨zdk (v:=undef) e2 (by rw [← e3.1];omega) hu,?_⟩
 have hxl:x.isLeaf=true:=r0_leaf hx
 refine s.leaf hb hmm hg (by omega) e1 hxl (fun _ _=>Iff.rfl) (fun _ h=>h) (fun _ _ h=>h) (fun _ _ _ _ _ _ _ _ h=>h.1) (fun ht=>?_) s.one s.lt
 have K:Keep P G own w ((Up.leaf b q x).app G) own (w.setCell ⟨k',q,none⟩ u) (Up.leaf b q x).kill (live (Up.leaf b q x).kill):=by
  refine zbS (by intros;simp) (by intros;simp) ht (fun j c off h _=>h) ?_
  intro c' p E l j c'' hl hgl h
  refine h.mono ht h.1 (z8 _ _ _ ?_)
  intro e;simp only at e;rw [e] at h;have:=h.1;rw [e1] at this;cases this
 have h1:=R0.keep K hx
 have h2:(Up.leaf b q x).kill x=x:=by cases x<;>first | rfl | simp [AV.plain0] at hp
 rw [h2] at h1
 cases x<;>first | exact h1 | simp [AV.plain0] at hp
theorem zgm (s:St P c.nt G own a w) {b q k:Nat} (hb:b % 3≠1) (hmm:isM b=false) (hk:own k=some (.box b)) {m:Nat} (hm:lenOf G b=some m) (hq:q < m) {sb j:Nat} {E:TypeId} {l:List FV} {u:Value} (hx:OwnL P own w sb j E l u) :
 (store ⟨k,q,none⟩ u).run P w=.ok () (w.setCell ⟨k,q,none⟩ u)∧St P c.nt (app [.leaf sb j .bad,.leaf b q (.own E l)] G) (relab own sb j b q) a (w.setCell ⟨k,q,none⟩ u)∧
   Keep P G own w ((Up.leaf sb j .bad).app G) own w (killr sb (some j)) (live (killr sb (some j)))∧
   Keep P ((Up.leaf sb j .bad).app G) own w (app [.leaf sb j .bad,.leaf b q (.own E l)] G) (relab own sb j b q) (w.setCell ⟨k,q,none⟩ u) (killr b (some q)) (live (killr b (some q))):=by
 obtain ⟨s1,K1⟩:=s.bad sb j
 have hm1:lenOf ((Up.leaf sb j .bad).app G) b=some m:=by
  rw [ziS];exact hm
  intro x hx y hy
  simp only [List.mem_singleton] at hx;subst hx
  simp only [Up.writes,List.mem_singleton] at hy;subst hy;rfl
 simp only [lenOf,Option.map_eq_some_iff] at hm1
 obtain ⟨y,hg,hlen⟩:=hm1
 obtain ⟨k',arr,TT,e1,e2,e3⟩:=s1.boxes b y hb hmm hg
 have:=s1.one _ _ _ e1 hk;subst this
 have hu:u.oneCell'=true:=by obtain ⟨a',c',rfl,_⟩:=hx;rfl
 have hd:=zgN G sb j
 obtain ⟨s2,K2⟩:=s1.leaf (own':=relab own sb j b q) (v:=.own E l) (u:=u) hb hmm hg (show q < y.leaves.length by omega) e1 rfl (zdP own sb j b q) (fun k h=>by simp [relab,h]) (fun k o h=>by simp [relab,h])
  (fun c' p E' l' kk c'' hn hl h=>by
    have h1:¬ (c'=sb∧p=j):=by rintro ⟨rfl,rfl⟩;exact hd _ _ hl
    simp only [relab,h.1,Option.some.injEq,Owner.sl.injEq,if_neg h1,if_neg hn])
  (fun ht=>by
    obtain ⟨a',c',h1,h2,h3⟩:=hx
    refine ⟨a',c',h1,h2,h3.imp id ?_⟩
    rintro ⟨kk,h4,h5⟩
    refine ⟨kk,h4,?_⟩
    have h6:OwnB P (relab own sb j b q) w b q E kk l c':=h5.mono' (zgr _ _ _ _ _ _) (by simp [relab,h5.1])
    have hne:kk≠k':=by intro e;rw [e] at h5;have:=h5.1;rw [e1] at this;cases this
    refine h6.mono ?_ h6.1 (z8 _ _ _ hne)
    refine ⟨by simp,fun i hi hn=>⟨hn,z8 _ _ _ ?_⟩,rfl,rfl,rfl,fun i x hn=>⟨hn,z8 _ _ _ ?_⟩,fun _ _ _ h=>h⟩
    all_goals
     intro e;simp only at e;subst e
     rw [(zdP own sb j b q i b).1 e1] at hn;cases hn)
  (ziF s1.one) (relab_lt s1.lt)
 exact ⟨zdk (v:=undef) e2 (by rw [← e3.1];omega) hu,s2,K1,K2⟩
def Src (P:Program) (G:Sta) (own:Own) (w:World) (sb j0:Nat) (ls:List AV) (us:List Value):Prop:=
 ls.length=us.length∧∀ (j:Nat) x u,ls[j]?=some x→us[j]?=some u→
  (∃ E l,x=.own E l∧look G sb (some (j0+j))=some (.own E l)∧OwnL P own w sb (j0+j) E l u)∨(x.plain0=true∧R0 P G own w x u)
theorem Src.tail {sb j0:Nat} {x:AV} {u:Value} {ls:List AV} {us:List Value} (h:Src P G own w sb j0 (x :: ls) (u :: us)):Src P G own w sb (j0+1) ls us:=by
 refine ⟨by have:=h.1;simpa using this,fun j y v h1 h2=>?_⟩
 have:=h.2 (j+1) y v (by simpa using h1) (by simpa using h2)
 rw [show j0+(j+1)=j0+1+j by omega] at this;exact this
theorem Src.keep {G':Sta} {own':Own} {w':World} {φ:AV→AV} {ov:Nat→Nat→Prop} (K:Keep P G own w G' own' w' φ ov) {sb j0:Nat} {ls:List AV} {us:List Value} (h:Src P G own w sb j0 ls us)
 (hf:∀ x,AV.plain0 x=true→φ x=x) (hov:∀ j,j0≤j→ov sb j) (hlk:∀ j E l,j0≤j→look G sb (some j)=some (.own E l)→look G' sb (some j)=some (.own E l)):Src P G' own' w' sb j0 ls us:=by
 refine ⟨h.1,fun j x u h1 h2=>?_⟩
 rcases h.2 j x u h1 h2 with ⟨E,l,rfl,e1,e2⟩ | ⟨e1,e2⟩
 ·exact .inl ⟨E,l,rfl,hlk _ _ _ (by omega) e1,K.ro _ _ _ _ _ (hov _ (by omega)) e1 e2⟩
 ·have:=R0.keep K e2
  rw [hf x e1] at this
  exact .inr ⟨e1,this⟩
theorem zb4 {b:Nat} {o:Option Nat} (x:AV) (h:x.plain0=true):killr b o x=x:=by cases x<;>first | rfl | simp [AV.plain0] at h
theorem zcg {b q:Nat} {v:AV} {d p:Nat} {E:TypeId} {l:List FV} (hne:¬ (d=b∧p=q)) (h:look G d (some p)=some (.own E l)):look ((Up.leaf b q v).app G) d (some p)=some (.own E l):=by
 refine look_fwd h ?_
 intro x hx y hy
 simp only [AV.refs,AV.refs1,AV.refs0,List.mem_singleton] at hx
 simp only [Up.writes,List.mem_singleton] at hy
 subst hx hy
 simp only [accOf,Acc.meets,Bool.and_eq_false_iff,beq_eq_false_iff_ne]
 by_cases e:d=b
 ·exact .inr (fun e2=>hne ⟨e,e2⟩)
 ·exact .inl e
theorem zeD {sb b k m:Nat} (hb:b % 3≠1) (hmm:isM b=false) (hsb:sb≠b):∀ (ls:List AV) (us:List Value) (G:Sta) (own:Own) (w:World) (j0 q i:Nat),St P c.nt G own a w→own k=some (.box b)→lenOf G b=some m→q+i+ls.length≤m→
 Src P G own w sb j0 ls us→∃ own' w',(storeCells ⟨k,q,none⟩ us i).run P w=.ok () w'∧St P c.nt (app (stL sb j0 b (q+i) ls) G) own' a w'∧Tr own w own' w'∧own' k=some (.box b)
 | [],us,G,own,w,j0,q,i,s,hk,hm,hlen,hs=>by
   have:us=[]:=List.length_eq_zero_iff.1 (by have:=hs.1;simpa using this.symm)
   subst this
   exact ⟨own,w,by simp [storeCells],s,Tr.refl _ _,hk⟩
 | x :: ls,[],G,own,w,j0,q,i,s,hk,hm,hlen,hs=>by have:=hs.1;simp at this
 | x :: ls,u :: us,G,own,w,j0,q,i,s,hk,hm,hlen,hs=>by
   simp only [List.length_cons] at hlen
   have hls:∀ (v:AV) (H:Sta) (d p:Nat),lenOf ((Up.leaf d p v).app H) b=lenOf H b:=fun v H d p=>by
    rw [ziS]
    intro x hx y hy
    simp only [List.mem_singleton] at hx;subst hx
    simp only [Up.writes,List.mem_singleton] at hy;subst hy;rfl
   rcases hs.2 0 x u rfl rfl with ⟨E,l,rfl,e1,e2⟩ | ⟨e1,e2⟩
   ·obtain ⟨r1,s1,K1,K2⟩:=zgm s hb hmm hk hm (show q+i < m by omega) e2
    have t1:Src P ((Up.leaf sb (j0+0) .bad).app G) own w sb (j0+1) ls us:=by
     refine hs.tail.keep K1 (fun x hx=>zb4 x hx) (fun j hj=>zaf (by rintro ⟨_,e | e⟩<;>simp at e;omega)) ?_
     exact fun j E l hj h=>zcg (by rintro ⟨_,e⟩;omega) h
    have t2:=t1.keep K2 (fun x hx=>zb4 x hx) (fun j hj=>zaf (fun e=>hsb e.1)) (fun j E l hj h=>zcg (fun e=>hsb e.1) h)
    obtain ⟨own',w',r2,s2,t,hk'⟩:=zeD hb hmm hsb ls us _ _ _ (j0+1) q (i+1) s1 ((zdP _ _ _ _ _ _ _).1 hk) (by simp only [app,hls];exact hm) (by omega) t2
    refine ⟨own',w',?_,?_,?_,hk'⟩
    ·simp only [storeCells,za0,Sem.run_bind,r1,Result.andThen_ok];exact r2
    ·simp only [stL];rw [show q+(i+1)=q+i+1 by omega] at s2;exact s2
    ·exact (K1.tr.trans K2.tr).trans t
   ·obtain ⟨r1,s1,K1⟩:=zfN s hb hmm hk hm (show q+i < m by omega) e1 e2
    have t1:=hs.tail.keep K1 (fun x hx=>zb4 x hx) (fun j hj=>zaf (fun e=>hsb e.1)) (fun j E l hj h=>zcg (fun e=>hsb e.1) h)
    obtain ⟨own',w',r2,s2,t,hk'⟩:=zeD hb hmm hsb ls us _ _ _ (j0+1) q (i+1) s1 hk (by rw [hls];exact hm) (by omega) t1
    refine ⟨own',w',?_,?_,K1.tr.trans t,hk'⟩
    ·simp only [storeCells,za0,Sem.run_bind,r1,Result.andThen_ok];exact r2
    ·have:stL sb j0 b (q+i) (x :: ls)=.leaf b (q+i) x :: stL sb (j0+1) b (q+i+1) ls:=by cases x<;>first | rfl | simp [AV.plain0] at e1
     rw [this];rw [show q+(i+1)=q+i+1 by omega] at s2;exact s2
theorem zeH (hc:CfgOk P c) {t:TypeId} {i:TI} (hi:c.ti t=some i) {ad:Addr} {v:Value} {w':World} (hl:v.cells.size=i.size) (h:(storeCells ad v.cells.toList 0).run P w=.ok () w'):(storeVar t ad v).run P w=.ok () w':=by
 simp only [storeVar,Sem.run_bind,(hc t i hi).run_size w,Result.andThen_ok,hl]
 simpa using h
theorem zfj {nt:Nat} {K:List Up→List Acc→Prop} {ow:Nat→AV→Value→Prop}:∀ {vs:List AV} {j0:Nat} {U:List Up} (hU:FrzOnly U) {own:Own} (s:St P nt (app U G) own a w) {us:List Value}
 (hv:vs.length=us.length∧∀ (j:Nat) v u,vs[j]?=some v→us[j]?=some u→(∃ E l,v=.own E l∧ow (j0+j) v u)∨R0 P (app U G) own w v u)
 {k:List AV→List Up→RM} {T:List Acc},(cpoL vs k).wp CE G T K→
 ∃ xs W T',FrzOnly W∧St P nt (app (U++W) G) (frzsOwn W own) a w∧Kp P (app U G) own w (app (U++W) G) (frzsOwn W own) w∧
   (xs.length=us.length∧∀ (j:Nat) v u,xs[j]?=some v→us[j]?=some u→(∃ E l,v=.own E l∧ow (j0+j) v u)∨(v.plain0=true∧R0 P (app (U++W) G) (frzsOwn W own) w v u))∧(k xs W).wp CE G T' K
 | [],j0,U,hU,own,s,us,hv,k,T,h=>by
   have:us=[]:=List.length_eq_zero_iff.1 (by have:=hv.1;simpa using this.symm)
   subst this
   exact ⟨[],[],T,FrzOnly.nil,by simpa [frzsOwn] using s,by simpa [frzsOwn] using Kp.refl _ _ _,⟨rfl,fun j v u h=>by simp at h⟩,h⟩
 | v :: r,j0,U,hU,own,s,us,hv,k,T,h=>by
   obtain ⟨hlen,hv⟩:=hv
   cases us with
   | nil=>simp at hlen
   | cons u us=>
     have frzs_app:∀ {A B:List Up} (hA:FrzOnly A) (o:Own),frzsOwn (A++B) o=frzsOwn B (frzsOwn A o):=by
      intro A
      induction A with
      | nil=>intro B _ o;rfl
      | cons x A ih=>
        intro B hA o
        obtain ⟨b,p,rfl⟩:=hA x (List.mem_cons_self ..)
        simp only [List.cons_append,frzsOwn]
        exact ih (fun y hy=>hA y (List.mem_cons_of_mem _ hy)) _
     rcases hv 0 v u rfl rfl with ⟨E,l,rfl,ho⟩ | h0
     ·have h':(cpoL r fun l' W=>k (.own E l :: l') ([]++W)).wp CE G T K:=h
      obtain ⟨xs,W2,T2,k1,k2,k3,k4,k6⟩:=zfj (j0:=j0+1) hU s (vs:=r) (us:=us) ⟨by simpa using hlen,fun j v' u' e1 e2=>by
       have:=hv (j+1) v' u' (by simpa using e1) (by simpa using e2)
       rwa [show j0+(j+1)=j0+1+j by omega] at this⟩ h'
      refine ⟨.own E l :: xs,[]++W2,T2,k1,k2,k3,⟨by simp [k4.1],fun j v' u' e1 e2=>?_⟩,k6⟩
      cases j with
      | zero=>simp at e1 e2;subst e1 e2;exact .inl ⟨E,l,rfl,ho⟩
      | succ j=>
        simp at e1 e2
        have:=k4.2 j v' u' e1 e2
        rwa [show j0+1+j=j0+(j+1) by omega] at this
     ·have hcp:cpo1 v=cp1 v:=by cases v<;>first | rfl | exact h0.elim
      rw [cpoL,hcp] at h
      obtain ⟨x,W,T1,own1,h1,h2,h3,h4,h5,h6,rfl⟩:=zdx hU s h0 h
      obtain ⟨xs,W2,T2,k1,k2,k3,k4,k6⟩:=zfj (j0:=j0+1) (hU.app h1) h2 (us:=us) ⟨by simpa using hlen,fun j v' u' e1 e2=>by
       have:=hv (j+1) v' u' (by simpa using e1) (by simpa using e2)
       rw [show j0+(j+1)=j0+1+j by omega] at this
       exact this.imp id (h3.r0 _ _)⟩ h6
      rw [List.append_assoc] at k2 k3 k4
      rw [← frzs_app h1] at k2 k3 k4
      refine ⟨x :: xs,W++W2,T2,h1.app k1,k2,h3.trans k3,⟨by simp [k4.1],fun j v' u' e1 e2=>?_⟩,k6⟩
      cases j with
      | zero=>simp at e1 e2;subst e1 e2;exact .inr ⟨h5,k3.r0 _ _ h4⟩
      | succ j=>
        simp at e1 e2
        have:=k4.2 j v' u' e1 e2
        rwa [show j0+1+j=j0+(j+1) by omega] at this
theorem zgF {sb:Nat}:∀ {W:List Up},FrzOnly W→W.all (frzOff sb)=true→∀ {G:Sta} {own:Own},(∀ j,look (app W G) sb (some j)=look G sb (some j))∧
 (∀ j E l u,OwnL P own w sb j E l u→OwnL P (frzsOwn W own) w sb j E l u)
 | [],_,_,G,own=>⟨fun _=>rfl,fun _ _ _ _ h=>h⟩
 | x :: W,hW,hall,G,own=>by
   obtain ⟨b,p,rfl⟩:=hW x (List.mem_cons_self ..)
   simp only [List.all_cons,Bool.and_eq_true,frzOff,bne_iff_ne] at hall
   obtain ⟨h1,h2⟩:=zgF (fun y hy=>hW y (List.mem_cons_of_mem _ hy)) hall.2 (G:=(Up.frz b p).app G) (own:=ownFrz own b p)
   refine ⟨fun j=>(h1 j).trans (zeg (fun e=>hall.1 e.1.symm)),fun j E l u h=>h2 j E l u ?_⟩
   obtain ⟨a',c',e1,e2,e3⟩:=h
   refine ⟨a',c',e1,e2,e3.imp id ?_⟩
   rintro ⟨k,e4,e5⟩
   refine ⟨k,e4,e5.mono' (frz_tr _ _ _ _) ?_⟩
   simp only [ownFrz,e5.1,Option.some.injEq,Owner.sl.injEq]
   rw [if_neg];exact fun e=>hall.1 e.1.symm
theorem zjU (s:St P c.nt G own a w) {t:Nat} {v:AV} (hg:get G (tb t)=some v) (hv:v.ok=true) (hnt:∀ l,v≠.tup l) (hnr:∀ b p i q,v≠.rf b p i q) (hne:∀ b p i q,v≠.ep b p i q) :
 v.leaves.length=(a.eval (.tmp t)).cells.toList.length∧
 ∀ (j:Nat) x u,v.leaves[j]?=some x→(a.eval (.tmp t)).cells.toList[j]?=some u→(∃ E l,x=.own E l∧(look G (tb t) (some (0+j))=some x∧RO P G own w (tb t) (0+j) x u))∨R0 P G own w x u:=by
 have hr:=s.temp hg
 have key:∀ v:AV,(∀ l,v≠.agg l)→v.leaves=[v]→get G (tb t)=some v→RO P G own w (tb t) 0 v (a.eval (.tmp t))→(a.eval (.tmp t)).oneCell'=true→v.leaves.length=(a.eval (.tmp t)).cells.toList.length∧
  ∀ (j:Nat) x u,v.leaves[j]?=some x→(a.eval (.tmp t)).cells.toList[j]?=some u→(∃ E l,x=.own E l∧(look G (tb t) (some (0+j))=some x∧RO P G own w (tb t) (0+j) x u))∨R0 P G own w x u:=by
  intro v h1 e1 hg h3 hone
  have e2:(a.eval (.tmp t)).cells=#[a.eval (.tmp t)]:=by
   generalize a.eval (.tmp t)=u at hone
   cases u<;>first | rfl | simp [Value.oneCell'] at hone
  rw [e1,e2]
  refine ⟨rfl,fun j x u f1 f2=>?_⟩
  cases j with
  | succ j=>simp at f1
  | zero=>
    simp at f1 f2;subst f1 f2
    by_cases ho:∃ E l,v=.own E l
    ·obtain ⟨E,l,rfl⟩:=ho
     exact .inl ⟨E,l,rfl,za6 hg rfl,h3⟩
    ·right
     rw [zgp (fun E l e=>ho ⟨E,l,e⟩)] at h3;exact h3
 cases v with
 | agg l=>
   obtain ⟨arr,hu,e1,e2⟩:=hr
   rw [hu]
   refine ⟨by simpa [AV.leaves,Value.cells] using e1,fun j x u f1 f2=>?_⟩
   simp only [AV.leaves] at f1
   have h0:=e2 j x u f1 (by simpa [Value.cells] using f2)
   by_cases ho:∃ E l,x=.own E l
   ·obtain ⟨E,l',rfl⟩:=ho
    exact .inl ⟨E,l',rfl,by rw [Nat.zero_add];exact zbK hg f1 rfl,by rw [Nat.zero_add];exact h0⟩
   ·right
    rw [zgp (fun E l e=>ho ⟨E,l,e⟩)] at h0;exact h0
 | tup l=>exact absurd rfl (hnt _)
 | bad=>simp [AV.ok,AV.ok1,AV.isBad] at hv
 | rf b p i q=>exact absurd rfl (hnr _ _ _ _)
 | ep b p i q=>exact absurd rfl (hne _ _ _ _)
 | own E l=>exact key _ (by simp) rfl hg hr (by obtain ⟨a',c',hu,_⟩:=hr;rw [hu];rfl)
 | f x=>exact key _ (by simp) rfl hg hr (za3 (P:=P) (G:=G) (own:=own) (w:=w) (v:=.f x) hr rfl)
 | ptr b p=>exact key _ (by simp) rfl hg hr (za3 (P:=P) (G:=G) (own:=own) (w:=w) (v:=.ptr b p) hr rfl)
 | ln n=>exact key _ (by simp) rfl hg hr (by obtain ⟨a',c',hu⟩:=hr;rw [hu];rfl)
 | fp x p=>exact key _ (by simp) rfl hg hr (za3 (P:=P) (G:=G) (own:=own) (w:=w) (v:=.fp x p) hr rfl)
 | clo g l=>exact key _ (by simp) rfl hg hr (za3 (P:=P) (G:=G) (own:=own) (w:=w) (v:=.clo g l) hr rfl)
theorem zie {b:Nat}:∀ {W:List Up},FrzOnly W→∀ {G:Sta},lenOf (app W G) b=lenOf G b
 | [],_,_=>rfl
 | x :: W,hW,G=>by
   obtain ⟨d,p,rfl⟩:=hW x (List.mem_cons_self ..)
   refine (zie (fun y hy=>hW y (List.mem_cons_of_mem _ hy))).trans (ziS ?_ G)
   intro x hx y hy
   simp only [List.mem_singleton,Up.writes] at hx hy;subst hx hy;rfl
theorem upo_upo {b q:Nat} {v1 v2:AV} (G:Sta):(Up.upo b q v2).app ((Up.upo b q v1).app G)=(Up.upo b q v2).app G:=by
 have h:∀ x,setLeaf q v2 (setLeaf q v1 x)=setLeaf q v2 x:=by
  intro x
  have key:∀ x:AV,(∀ l,x≠.agg l)→setLeaf q v2 (setLeaf q v1 x)=setLeaf q v2 x:=by
   intro x hx
   have e:∀ (w:AV) (y:AV),(∀ l,y≠.agg l)→setLeaf q w y=if q=0 then w.toLeaf else y:=by
    intro w y hy;cases y<;>first | rfl | exact absurd rfl (hy _)
   rw [e v1 x hx,e v2 x hx]
   by_cases h0:q=0
   ·rw [if_pos h0,if_pos h0,e _ _ (zcE v1).1,if_pos h0]
   ·rw [if_neg h0,if_neg h0,e _ _ hx,if_neg h0]
  cases x with
  | agg l=>simp [setLeaf]
  | _=>exact key _ (by simp)
 have:∀ G,upd b (setLeaf q v2) (upd b (setLeaf q v1) G)=upd b (setLeaf q v2) G:=by
  intro G
  induction G with
  | nil=>rfl
  | cons x G ih=>
    obtain ⟨a,y⟩:=x
    by_cases e:b=a
    ·subst e;simp [upd,h]
    ·simp [upd,e,ih]
 exact this G
theorem zix:∀ (fs:List FV) (us:List Value) (G:Sta) (w:World) {b q k:Nat} {E:TypeId} {l:List FV} {i cap:Nat} {x:FV} (cc i0:Nat),St P c.nt G own a w→look G b (some q)=some (.own E l)→OwnB P own w b q E k l cap→
 l[i]?=some x→cc+i0+fs.length≤x.size→fs≠[]→fs.length=us.length→(∀ (j:Nat) y u,fs[j]?=some y→us[j]?=some u→y.one=true∧RF own w y u∧u.oneCell'=true)→
 ∃ w',(storeCells ⟨k,i * esz P E+cc,none⟩ us i0).run P w=.ok () w'∧St P c.nt ((Up.upo b q (.own E (l.set i (setcs x (cc+i0) fs)))).app G) own a w'∧Tr own w own w'
 | [],us,G,w,b,q,k,E,l,i,cap,x,cc,i0,s,hl,hB,hi,hsz,hne,hlen,hr=>absurd rfl hne
 | y :: fs,[],G,w,b,q,k,E,l,i,cap,x,cc,i0,s,hl,hB,hi,hsz,hne,hlen,hr=>by simp at hlen
 | y :: fs,u :: us,G,w,b,q,k,E,l,i,cap,x,cc,i0,s,hl,hB,hi,hsz,hne,hlen,hr=>by
   obtain ⟨hy1,hy2,hy3⟩:=hr 0 y u rfl rfl
   simp only [List.length_cons] at hsz
   have hc:cc+i0 < x.size:=by omega
   obtain ⟨s1,K1,hB1⟩:=s.upo hl hB hi hc hy1 hy2
   have hstore:(store (Addr.add ⟨k,i * esz P E+cc,none⟩ i0) u).run P w=.ok () (w.setCell ⟨k,i * esz P E+(cc+i0),none⟩ u):=by
    rw [za0,Nat.add_assoc]
    obtain ⟨_,arr,e2,e3,e4,e5⟩:=hB
    obtain ⟨v,e6,_⟩:=e5 i x (cc+i0) (x.cells[cc+i0]'hc) hi (by simp [FV.size] at hc;simp [hc])
    exact zdk (v:=undef) e2 (Array.getElem?_eq_some_iff.1 e6).1 hy3
   have hil:=(List.getElem?_eq_some_iff.1 hi).1
   cases fs with
   | nil=>
     have:us=[]:=List.length_eq_zero_iff.1 (by simpa using hlen.symm)
     subst this
     exact ⟨_,by simp [storeCells,hstore],s1,K1.tr⟩
   | cons y2 fs=>
     have hx1:(l.set i (x.setc (cc+i0) y))[i]?=some (x.setc (cc+i0) y):=by simp [hil]
     have hsz1:(x.setc (cc+i0) y).size=x.size:=by rw [FV.size,FV.setc_cells hy1 hc,List.length_set];rfl
     obtain ⟨w',r,s2,t2⟩:=zix (y2 :: fs) us _ _ cc (i0+1) s1 (zdp rfl hl) hB1 hx1 (by rw [hsz1];omega) (by simp) (by simpa using hlen)
      (fun j z v h1 h2=>by
        obtain ⟨a1,a2,a3⟩:=hr (j+1) z v (by simpa using h1) (by simpa using h2)
        exact ⟨a1,a2.mono K1.tr,a3⟩)
     refine ⟨w',?_,?_,K1.tr.trans t2⟩
     ·simp only [storeCells,Sem.run_bind,hstore,Result.andThen_ok] at r ⊢;exact r
     ·rw [upo_upo,List.set_set] at s2
      rw [show cc+(i0+1)=cc+i0+1 by omega] at s2
      exact s2
theorem leaves_one {v:AV} (h:∀ l,v≠.agg l):v.leaves=[v]:=by cases v<;>first | rfl | exact absurd rfl (h _)
theorem ze0 {K:List Up→List Acc→Prop} {U:List Up} (hU:FrzOnly U) (s:St P c.nt (app U G) own a w) {v:AV} {u:Value} (hv:RV P (app U G) own w v u) {k:List AV→List Up→RM} (h:(cpL v.leaves k).wp CE G T K) :
 ∃ xs W T' own',FrzOnly W∧St P c.nt (app (U++W) G) own' a w∧Kp P (app U G) own w (app (U++W) G) own' w∧
   (xs.length=u.cells.toList.length∧∀ (j:Nat) x y,xs[j]?=some x→u.cells.toList[j]?=some y→x.plain0=true∧R0 P (app (U++W) G) own' w x y)∧(k xs W).wp CE G T' K:=by
 have key:∀ {us:List Value},(v.leaves.length=us.length∧∀ (j:Nat) x y,v.leaves[j]?=some x→us[j]?=some y→R0 P (app U G) own w x y)→(∀ x:AV,us=[u]→x.plain0=true→∀ G' own',R0 P G' own' w x u→u.cells.toList=[u])→(us=[u]∨us=u.cells.toList)→
  ∃ xs W T' own',FrzOnly W∧St P c.nt (app (U++W) G) own' a w∧Kp P (app U G) own w (app (U++W) G) own' w∧
  (xs.length=u.cells.toList.length∧∀ (j:Nat) x y,xs[j]?=some x→u.cells.toList[j]?=some y→x.plain0=true∧R0 P (app (U++W) G) own' w x y)∧(k xs W).wp CE G T' K:=by
  intro us hus hone hcase
  obtain ⟨xs,W,T2,own2,k1,k2,k3,k4,k5,k6⟩:=zjl hU s (us:=us) hus h
  have hu:us=u.cells.toList:=by
   rcases hcase with hcase | hcase
   ·subst hcase
    obtain ⟨x,hx⟩:∃ x,xs=[x]:=by
     have:=k4.1;simp at this
     exact List.length_eq_one_iff.1 this
    subst hx
    exact (hone x rfl (k5 x (List.mem_cons_self ..)) _ _ (k4.2 0 x u rfl rfl)).symm
   ·exact hcase
  rw [← hu]
  exact ⟨xs,W,T2,own2,k1,k2,k3,⟨k4.1,fun j x y e1 e2=>⟨k5 x (List.mem_of_getElem? e1),k4.2 j x y e1 e2⟩⟩,k6⟩
 have one:∀ v':AV,(∀ l,v'≠.agg l)→v'=v→R0 P (app U G) own w v' u→_:=fun v' h1 hvv h0=>
  key (us:=[u]) (by subst hvv;rw [leaves_one h1];exact ⟨rfl,fun j x y e1 e2=>by cases j with | zero=>simp at e1 e2;subst e1 e2;exact h0 | succ j=>simp at e1⟩)
   (fun x _ hp G' own' hx=>by
     have:=za3 hx hp
     cases u<;>first | rfl | simp [Value.oneCell'] at this) (.inl rfl)
 cases v with
 | agg l=>
   obtain ⟨arr,rfl,e1,e2⟩:=hv
   exact key (us:=arr.toList) ⟨by simpa [AV.leaves] using e1,fun j x y f1 f2=>e2 j x y f1 (by simpa using f2)⟩ (fun x e hp G' own' hx=>by
    have:=za3 hx hp;simp [Value.oneCell'] at this) (.inr rfl)
 | tup l=>simp [AV.leaves,cpL,cp1] at h;exact h.elim
 | own E l=>exact hv.elim
 | bad=>exact one _ (by simp) rfl hv
 | ln n=>exact one _ (by simp) rfl hv
 | f x=>exact one _ (by simp) rfl hv
 | ptr b q=>exact one _ (by simp) rfl hv
 | fp x q=>exact one _ (by simp) rfl hv
 | ep b q i r=>exact one _ (by simp) rfl hv
 | rf b q i r=>exact one _ (by simp) rfl hv
 | clo g l=>exact one _ (by simp) rfl hv
theorem zfK {K:List Up→List Acc→Prop} (s:St P c.nt G own a w) {v:AV} {u:Value} (hv:RV P G own w v u) {k:List AV→List Up→RM} (h:(cpL v.leaves k).wp CE G T K) :
 ∃ xs W T' own',FrzOnly W∧St P c.nt (app W G) own' a w∧Kp P G own w (app W G) own' w∧
   (xs.length=u.cells.toList.length∧∀ (j:Nat) x y,xs[j]?=some x→u.cells.toList[j]?=some y→x.plain0=true∧R0 P (app W G) own' w x y)∧(k xs W).wp CE G T' K:=by
 obtain ⟨xs,W,T2,own2,k1,k2,k3,k4,k6⟩:=ze0 (U:=[]) FrzOnly.nil s hv h
 simp only [List.nil_append] at k2 k3 k4
 exact ⟨xs,W,T2,own2,k1,k2,k3,k4,k6⟩
theorem zdw:∀ {l:List AV} {fs:List FV},fLeaves l=some fs→fs.length=l.length∧∀ (j:Nat) y,fs[j]?=some y→l[j]?=some (.f y)∧y.one=true
 | [],fs,h=>by simp [fLeaves] at h;subst h;exact ⟨rfl,fun j y h=>by simp at h⟩
 | v :: r,fs,h=>by
   simp only [fLeaves] at h
   split at h
   ·rename_i x l hx hl
    cases h
    obtain ⟨h1,h2⟩:=zdw hl
    refine ⟨by simp [h1],fun j y hy=>?_⟩
    cases j with
    | succ j=>simp at hy;simpa using h2 j y hy
    | zero=>
      simp at hy;subst hy
      cases v with
      | f z=>
        simp only [AV.leafF] at hx
        split at hx
        ·cases hx;rename_i ho;exact ⟨rfl,ho⟩
        ·cases hx
      | _=>simp [AV.leafF] at hx
   ·cases h
section
variable {i : TI} {b off k : Nat} {m : Nat}
def StoreGoal (P:Program) (a:Act) (w:World) (next:Act→World→Prop) (i:TI) (k off:Nat) (u:Value):Prop:=
 ∃ w',u.cells.size=i.size∧(storeCells ⟨k,off,none⟩ u.cells.toList 0).run P w=.ok () w'∧next a w'
theorem stAny_sound (s:St P c.nt G own a w) (hb:b % 3≠1) (hmm:isM b=false) (hb0:b≠0) (hk:own k=some (.box b)) (hm:lenOf G b=some m) (hle:off+i.size≤m) {y:Operand}
 (h:(stAny i y b off).wp CE G T (Kn P c.nt G own a w next)):StoreGoal P a w next i k off (a.eval y):=by
 obtain ⟨v',T2,e1,e2⟩:=zJ s h
 obtain ⟨xs,W,T3,own2,k1,k2,k3,k4,k6⟩:=zfK s e1 e2
 split at k6
 ·rename_i hlen
  obtain ⟨own3,w3,r1,r2,r3,_⟩:=zeD (sb:=0) (k:=k) hb hmm (Ne.symm hb0) xs (a.eval y).cells.toList (app W G) own2 w 0 off 0 k2 (k3.box k b hk) (by rw [zie k1];exact hm) (by omega)
   ⟨k4.1,fun j x u f1 f2=>.inr (k4.2 j x u f1 f2)⟩
  exact ⟨w3,by rw [← hlen,k4.1];simp,r1,k6 own3 a w3 (by rw [zas];exact r2) (k3.tr.trans r3) rfl⟩
 ·exact k6.elim
theorem stNil_sound (s:St P c.nt G own a w) (hb:b % 3≠1) (hmm:isM b=false) (hk:own k=some (.box b)) (hm:lenOf G b=some m) (hle:off+i.size≤m)
 (h:(stNil i b off).wp CE G T (Kn P c.nt G own a w next)):StoreGoal P a w next i k off (a.eval (.const (.slice none 0 0))):=by
 unfold stNil at h
 split at h
 ·rename_i E hE
  split at h
  ·rename_i hsz
   have hm':=hm
   simp only [lenOf,Option.map_eq_some_iff] at hm'
   obtain ⟨y,hg,hlen⟩:=hm'
   obtain ⟨k',arr,TT,e1,e2,e3⟩:=s.boxes b y hb hmm hg
   have:=s.one _ _ _ e1 hk;subst this
   obtain ⟨s1,K1⟩:=s.leaf (own':=own) (v:=.own E []) (u:=.slice none 0 0) hb hmm hg (show off < y.leaves.length by omega) e1 rfl (fun _ _=>Iff.rfl) (fun _ h=>h) (fun _ _ h=>h) (fun _ _ _ _ _ _ _ _ h=>h.1)
    (fun ht=>⟨none,0,rfl,Nat.le_refl _,.inl ⟨rfl,rfl,rfl⟩⟩) s.one s.lt
   refine ⟨w.setCell ⟨k',off,none⟩ (.slice none 0 0),by rw [hsz];rfl,?_,h own a _ s1 K1.tr rfl⟩
   have:=zdk (P:=P) (w:=w) (v:=undef) (q:=off) (u:=.slice none 0 0) e2 (by rw [← e3.1];omega) rfl
   simp [Act.eval,Value.cells,storeCells,Addr.add,this]
  ·exact h.elim
 ·exact h.elim
theorem stRaw_sound (s:St P c.nt G own a w) (hb:b % 3≠1) (hmm:isM b=false) (hk:own k=some (.box b)) (hm:lenOf G b=some m) (hle:off+i.size≤m) {t:Nat} {v:AV} (hg:get G (tb t)=some v) (hok:v.ok=true)
 (hnt:∀ l,v≠.tup l) (hnr:∀ b p i q,v≠.rf b p i q) (hne:∀ b p i q,v≠.ep b p i q)
 (h:(stRaw i t b off v).wp CE G T (Kn P c.nt G own a w next)):StoreGoal P a w next i k off (a.eval (.tmp t)):=by
 have hr:=zjU s hg hok hnt hnr hne
 obtain ⟨xs,W,T3,k1,k2,k3,k4,k6⟩:=zfj (U:=[]) (j0:=0) (ow:=fun j x u=>look G (tb t) (some j)=some x∧RO P G own w (tb t) j x u) FrzOnly.nil s (us:=(a.eval (.tmp t)).cells.toList) ⟨hr.1,fun j v u e1 e2=>hr.2 j v u e1 e2⟩ h
 simp only [List.nil_append] at k2 k3 k4
 have hsb:tb t≠b:=by intro e;subst e;simp [tb] at hb
 split at k6
 ·rename_i hlen
  split at k6
  ·rename_i hall
   obtain ⟨f1,f2⟩:=zgF (P:=P) (w:=w) k1 hall (G:=G) (own:=own)
   obtain ⟨own3,w3,r1,r2,r3,_⟩:=zeD (sb:=tb t) (k:=k) hb hmm hsb xs (a.eval (.tmp t)).cells.toList (app W G) _ w 0 off 0 k2 (k3.box k b hk) (by rw [zie k1];exact hm) (by omega)
    ⟨k4.1,fun j x u g1 g2=>by
      rcases k4.2 j x u g1 g2 with ⟨E,l,rfl,g3,g4⟩ | g3
      ·exact .inl ⟨E,l,rfl,by rw [f1];exact g3,f2 _ _ _ _ g4⟩
      ·exact .inr g3⟩
   exact ⟨w3,by rw [← hlen,k4.1];simp,r1,k6 own3 a w3 (by rw [zas];exact r2) (k3.tr.trans r3) rfl⟩
  ·exact k6.elim
 ·exact k6.elim
theorem stTmp_sound (s:St P c.nt G own a w) (hb:b % 3≠1) (hmm:isM b=false) (hk:own k=some (.box b)) (hm:lenOf G b=some m) (hle:off+i.size≤m) {t:Nat} {v:AV} (hg:get G (tb t)=some v) (hok:v.ok=true)
 (h:(stTmp i t b off v).wp CE G T (Kn P c.nt G own a w next)):StoreGoal P a w next i k off (a.eval (.tmp t)):=by
 unfold stTmp at h
 split at h
 ·rename_i b' o' j q
  have hrf:SlV P G own w b' o' j q (a.eval (.tmp t)):=s.temp hg
  split at h
  ·rename_i hcond
   obtain ⟨rfl,rfl,rfl⟩:=hcond
   obtain ⟨y,T2,h3,h4⟩:=zaM h
   split at h4
   ·rename_i E l
    split at h4
    ·rename_i hsz
     obtain ⟨_,hown⟩:=zeE h3 hrf
     obtain ⟨r1,s1,K1,K2⟩:=zgm s hb hmm hk hm (show o' < m by omega) hown
     have hone:(a.eval (.tmp t)).cells=#[a.eval (.tmp t)]:=by obtain ⟨a',c',hu,_⟩:=hown;rw [hu];rfl
     refine ⟨_,by rw [hone,hsz];rfl,?_,h4 _ a _ s1 (K1.tr.trans K2.tr) rfl⟩
     simp [hone,storeCells,Addr.add,r1]
    ·exact h4.elim
   ·exact h4.elim
  ·obtain ⟨x,W,T2,own2,k1,k2,k3,k4,k5,k6,_⟩:=zdx (U:=[]) FrzOnly.nil s (v:=.rf b' o' j q) hrf h
   simp only [List.nil_append] at k2 k3 k4
   split at k6
   ·rename_i hsz
    have hu:=za3 k4 k5
    have hone:(a.eval (.tmp t)).cells=#[a.eval (.tmp t)]:=by
     generalize a.eval (.tmp t)=u at hu
     cases u<;>first | rfl | simp [Value.oneCell'] at hu
    obtain ⟨r1,s1,K1⟩:=zfN k2 hb hmm (k3.box k b hk) (by rw [zie k1];exact hm) (show off < m by omega) k5 k4
    refine ⟨_,by rw [hone,hsz];rfl,?_,k6 _ a _ (by rw [zas];exact s1) (k3.tr.trans K1.tr) rfl⟩
    simp [hone,storeCells,Addr.add,r1]
   ·exact k6.elim
 all_goals first
  | exact stRaw_sound s hb hmm hk hm hle hg hok (by simp) (by simp) (by simp) h
  | exact h.elim
theorem stSrc_sound (s:St P c.nt G own a w) (hb:b % 3≠1) (hmm:isM b=false) (hb0:b≠0) (hk:own k=some (.box b)) (hm:lenOf G b=some m) (hle:off+i.size≤m) {y:Operand}
 (h:(stSrc i y b off).wp CE G T (Kn P c.nt G own a w next)):StoreGoal P a w next i k off (a.eval y):=by
 unfold stSrc at h
 split at h
 ·exact stNil_sound s hb hmm hk hm hle h
 ·obtain ⟨v,h1,h2,h3⟩:=h
  exact stTmp_sound s hb hmm hk hm hle h1 h2 h3
 ·exact stAny_sound s hb hmm hb0 hk hm hle h
end
theorem op_store (hc:CfgOk P c) (hF:∀ f,F.fn f) (s:St P c.nt G own a w) {t:TypeId} {x y:Operand} (ho:o.op=.store t x y) (hd:o.dst=none)
 (h:(rdO x fun p=>storeRM c t y p).wp CE G T (Kn P c.nt G own a w next)):o.wpIn F n P a w next Q:=by
 obtain ⟨v,T1,h1,h2⟩:=zJ s h
 have key:∀ {ad:Addr} {w':World} {i:TI},a.eval x=.pointer (some ad)→c.ti t=some i→(a.eval y).cells.size=i.size→(storeCells ad (a.eval y).cells.toList 0).run P w=.ok () w'→next a w'→o.wpIn F n P a w next Q:=by
  intro ad w' i hu hi hl hr hn
  refine zfc hF (by simp [ho]) (w':=w') ?_ (by rw [hd];exact hn)
  have:=zeH hc hi hl hr
  simp [execOp,ho,Instr.storeAt,hu,Instr.sureAddr,this]
 unfold storeRM at h2
 split at h2
 ·exact h2.elim
 ·rename_i i hi
  split at h2
  ·rename_i b off
   obtain ⟨vb,hgb,h3⟩:=h2
   dsimp only at h3
   split at h3
   ·rename_i hcond
    obtain ⟨hle,⟨hb,hmm⟩,hb0⟩:=hcond
    obtain ⟨k,hk,hu⟩:=RC.ptr (w:=w) h1 hmm
    obtain ⟨w',g1,g2,g3⟩:=stSrc_sound s hb hmm hb0 hk (show lenOf G b=some vb.leaves.length by simp [lenOf,hgb]) hle h3
    exact key hu hi g1 g2 g3
   ·exact h3.elim
  ·rename_i b q j cc
   obtain ⟨v',T2,e1,e2⟩:=zJ s h2
   obtain ⟨xs,W,T3,own2,k1,k2,k3,k4,k6⟩:=zfK s e1 e2
   obtain ⟨z,T4,h3,h4⟩:=zaM k6
   split at h4
   ·rename_i E es fs hfs
    split at h4
    ·rename_i e he
     split at h4
     ·rename_i hcond
      obtain ⟨g1,g0,g2,hall⟩:=hcond
      have hl':look (app W G) b (some q)=some (.own E es):=by rw [(zgF (P:=P) (w:=w) k1 hall (G:=G) (own:=own)).1];exact h3
      obtain ⟨f1,f2⟩:=zdw hfs
      have hep:EpV P (app W G) own2 w b q j cc (a.eval x):=k3.r0 (.ep b q j cc) _ h1
      unfold EpV at hep
      rw [hl'] at hep
      obtain ⟨_,k,cap,hu,hB⟩:=hep
      have hlen:fs.length=(a.eval y).cells.toList.length:=by rw [f1,k4.1]
      obtain ⟨w',r1,r2,r3⟩:=zix fs (a.eval y).cells.toList (app W G) w cc 0 k2 hl' hB he (by omega) (by intro e;subst e;simp at g1;omega) hlen (fun jj yy u p1 p2=>by
       obtain ⟨p3,p4⟩:=f2 jj yy p1
       obtain ⟨p5,p6⟩:=k4.2 jj _ u p3 p2
       exact ⟨p4,p6.2,za3 p6 p5⟩)
      exact key hu hi (by rw [← g1,hlen];simp) r1 (h4 _ a w' (by rw [zas];exact r2) (k3.tr.trans r3) rfl)
     ·exact h4.elim
    ·exact h4.elim
   ·exact h4.elim
  ·exact h2.elim
end
end Go.Ev
namespace Go.Ev
open Go Go.RowKit
variable {P : Program}
section
variable {CE : CEx} {c : Cfg} {G : Sta} {own : Own} {a : Act} {w : World} {T : List Acc} {next : Act → World → Prop}
variable {F : Fence} {n : Nat} {o : Oper} {Q : Exit → Act → World → Prop}
theorem ziK:∀ {l:List (Nat×Nat)},noDupB l=true→l.Nodup
 | [],_=>List.nodup_nil
 | (a,b) :: r,h=>by
   simp only [noDupB,Bool.and_eq_true] at h
   refine List.nodup_cons.2 ⟨fun hm=>?_,ziK h.2⟩
   have:=List.all_eq_true.1 h.1 _ hm
   simp at this
def SrcM (P:Program) (G:Sta) (own:Own) (w:World) (ls:List LI) (us:List Value):Prop:=
 ls.length=us.length∧∀ (j:Nat) x u,ls[j]?=some x→us[j]?=some u→match x with
  | .pl v=>v.plain0=true∧R0 P G own w v u
  | .mv sb p E l=>look G sb (some p)=some (.own E l)∧OwnL P own w sb p E l u
theorem SrcM.tail {x:LI} {u:Value} {ls:List LI} {us:List Value} (h:SrcM P G own w (x :: ls) (u :: us)):SrcM P G own w ls us:=
 ⟨by have:=h.1;simpa using this,fun j y v h1 h2=>h.2 (j+1) y v (by simpa using h1) (by simpa using h2)⟩
theorem SrcM.keep {G':Sta} {own':Own} {w':World} {φ:AV→AV} {ov:Nat→Nat→Prop} (K:Keep P G own w G' own' w' φ ov) {ls:List LI} {us:List Value} (h:SrcM P G own w ls us)
 (hf:∀ x,AV.plain0 x=true→φ x=x) (hov:∀ sb j,(sb,j)∈ls.flatMap LI.src→ov sb j) (hlk:∀ sb j E l,(sb,j)∈ls.flatMap LI.src→look G sb (some j)=some (.own E l)→look G' sb (some j)=some (.own E l)):SrcM P G' own' w' ls us:=by
 refine ⟨h.1,fun j x u h1 h2=>?_⟩
 have h3:=h.2 j x u h1 h2
 cases x with
 | pl v=>
   refine ⟨h3.1,?_⟩
   have:=R0.keep K h3.2
   rw [hf v h3.1] at this
   exact this
 | mv sb p E l=>
   have hm:(sb,p)∈ls.flatMap LI.src:=List.mem_flatMap.2 ⟨_,List.mem_of_getElem? h1,by simp [LI.src]⟩
   exact ⟨hlk _ _ _ _ hm h3.1,K.ro _ _ _ _ _ (hov _ _ hm) h3.1 h3.2⟩
theorem zha {b k m:Nat} (hb:b % 3≠1) (hmm:isM b=false):∀ (ls:List LI) (us:List Value) (G:Sta) (own:Own) (w:World) (q i:Nat),St P c.nt G own a w→own k=some (.box b)→lenOf G b=some m→q+i+ls.length≤m→
 (ls.flatMap LI.src).Nodup→(∀ p∈ls.flatMap LI.src,p.1≠b)→SrcM P G own w ls us→∃ own' w',(storeCells ⟨k,q,none⟩ us i).run P w=.ok () w'∧St P c.nt (app (stMv b (q+i) ls) G) own' a w'∧Tr own w own' w'∧own' k=some (.box b)
 | [],us,G,own,w,q,i,s,hk,hm,hlen,hnd,hne,hs=>by
   have:us=[]:=List.length_eq_zero_iff.1 (by have:=hs.1;simpa using this.symm)
   subst this
   exact ⟨own,w,by simp [storeCells],s,Tr.refl _ _,hk⟩
 | x :: ls,[],G,own,w,q,i,s,hk,hm,hlen,hnd,hne,hs=>by have:=hs.1;simp at this
 | x :: ls,u :: us,G,own,w,q,i,s,hk,hm,hlen,hnd,hne,hs=>by
   simp only [List.length_cons] at hlen
   have hls:∀ (v:AV) (H:Sta) (d p:Nat),lenOf ((Up.leaf d p v).app H) b=lenOf H b:=fun v H d p=>by
    rw [ziS]
    intro x hx y hy
    simp only [List.mem_singleton] at hx;subst hx
    simp only [Up.writes,List.mem_singleton] at hy;subst hy;rfl
   have h0:=hs.2 0 x u rfl rfl
   have hnd2:(ls.flatMap LI.src).Nodup:=by rw [List.flatMap_cons] at hnd;exact (List.nodup_append.1 hnd).2.1
   have hne2:∀ p∈ls.flatMap LI.src,p.1≠b:=fun p hp=>hne p (by rw [List.flatMap_cons];exact List.mem_append_right _ hp)
   cases x with
   | mv sb p E l=>
     obtain ⟨e1,e2⟩:=h0
     have hsb:sb≠b:=hne (sb,p) (by rw [List.flatMap_cons];exact List.mem_append_left _ (by simp [LI.src]))
     have hdj:∀ q'∈ls.flatMap LI.src,¬ (q'.1=sb∧q'.2=p):=fun q' hq' e=>by
      rw [List.flatMap_cons] at hnd
      exact (List.nodup_append.1 hnd).2.2 (sb,p) (by simp [LI.src]) q' hq' (by rw [← e.1,← e.2])
     obtain ⟨r1,s1,K1,K2⟩:=zgm s hb hmm hk hm (show q+i < m by omega) e2
     have t1:SrcM P ((Up.leaf sb p .bad).app G) own w ls us:=by
      refine hs.tail.keep K1 (fun x hx=>zb4 x hx) (fun sb' j' hj=>zaf (by rintro ⟨h1,h2⟩;exact hdj _ hj ⟨h1,(by simpa using h2:p=j').symm⟩)) ?_
      exact fun sb' j' E l hj h=>zcg (hdj _ hj) h
     have t2:=t1.keep K2 (fun x hx=>zb4 x hx) (fun sb' j' hj=>zaf (fun e=>hne2 _ hj e.1)) (fun sb' j' E l hj h=>zcg (fun e=>hne2 _ hj e.1) h)
     obtain ⟨own',w',r2,s2,t,hk'⟩:=zha hb hmm ls us _ _ _ q (i+1) s1 ((zdP _ _ _ _ _ _ _).1 hk) (by simp only [app,hls];exact hm) (by omega) hnd2 hne2 t2
     refine ⟨own',w',?_,?_,?_,hk'⟩
     ·simp only [storeCells,za0,Sem.run_bind,r1,Result.andThen_ok];exact r2
     ·simp only [stMv];rw [show q+(i+1)=q+i+1 by omega] at s2;exact s2
     ·exact (K1.tr.trans K2.tr).trans t
   | pl v=>
     obtain ⟨e1,e2⟩:=h0
     obtain ⟨r1,s1,K1⟩:=zfN s hb hmm hk hm (show q+i < m by omega) e1 e2
     have t1:=hs.tail.keep K1 (fun x hx=>zb4 x hx) (fun sb' j' hj=>zaf (fun e=>hne2 _ hj e.1)) (fun sb' j' E l hj h=>zcg (fun e=>hne2 _ hj e.1) h)
     obtain ⟨own',w',r2,s2,t,hk'⟩:=zha hb hmm ls us _ _ _ q (i+1) s1 hk (by rw [hls];exact hm) (by omega) hnd2 hne2 t1
     refine ⟨own',w',?_,?_,K1.tr.trans t,hk'⟩
     ·simp only [storeCells,za0,Sem.run_bind,r1,Result.andThen_ok];exact r2
     ·simp only [stMv];rw [show q+(i+1)=q+i+1 by omega] at s2;exact s2
theorem zeP {b0:Nat} {K:List Up→List Acc→Prop} (s:St P c.nt G own a w):∀ {vs:List AV} {j0:Nat} {us:List Value} {k:List LI→RM} {T:List Acc},vs.length=us.length→
 (∀ (j:Nat) v u,vs[j]?=some v→us[j]?=some u→RO P G own w b0 (j0+j) v u∧∀ E l,v=.own E l→look G b0 (some (j0+j))=some (.own E l))→(mvL b0 j0 vs k).wp CE G T K→∃ ls T',SrcM P G own w ls us∧(k ls).wp CE G T' K
 | [],j0,us,k,T,hl,hr,h=>by
   have:us=[]:=List.length_eq_zero_iff.1 (by simpa using hl.symm)
   subst this
   exact ⟨[],T,⟨rfl,fun j x u h=>by simp at h⟩,h⟩
 | v :: vs,j0,[],k,T,hl,hr,h=>by simp at hl
 | v :: vs,j0,u :: us,k,T,hl,hr,h=>by
   obtain ⟨h0,h00⟩:=hr 0 v u rfl rfl
   have ht:∀ (j:Nat) x y,vs[j]?=some x→us[j]?=some y→RO P G own w b0 (j0+1+j) x y∧∀ E l,x=.own E l→look G b0 (some (j0+1+j))=some (.own E l):=fun j x y e1 e2=>by
    have:=hr (j+1) x y (by simpa using e1) (by simpa using e2)
    rwa [show j0+(j+1)=j0+1+j by omega] at this
   have cons:∀ {x:LI} {ls:List LI},(match x with
    | .pl v=>v.plain0=true∧R0 P G own w v u
    | .mv sb p E l=>look G sb (some p)=some (.own E l)∧OwnL P own w sb p E l u)→SrcM P G own w ls us→SrcM P G own w (x :: ls) (u :: us):=fun {x ls} hx hs=>by
    refine ⟨by simp [hs.1],fun j y z e1 e2=>?_⟩
    cases j with
    | zero=>simp at e1 e2;subst e1 e2;exact hx
    | succ j=>exact hs.2 j y z (by simpa using e1) (by simpa using e2)
   cases v with
   | rf sb j i n=>
     obtain ⟨y,T2,h3,h4⟩:=zaM h
     have hrf:SlV P G own w sb j i n u:=h0
     cases y with
     | own E l=>
       dsimp only at h4
       split at h4
       ·rename_i hc
        obtain ⟨rfl,rfl⟩:=hc
        obtain ⟨ls,T3,k1,k2⟩:=zeP s (by simpa using hl) ht h4
        refine ⟨_,T3,cons ?_ k1,k2⟩
        refine ⟨h3,?_⟩
        have:=(zeE h3 hrf).2
        rw [List.take_length] at this;exact this
       ·exact h4.elim
     | f x=>cases x with
       | sl l=>
         obtain ⟨ls,T3,k1,k2⟩:=zeP s (by simpa using hl) ht h4
         refine ⟨_,T3,cons ?_ k1,k2⟩
         refine ⟨rfl,?_⟩
         unfold SlV at hrf
         rw [h3] at hrf
         exact ⟨rfl,hrf.2⟩
       | _=>exact h4.elim
     | _=>exact h4.elim
   | f x=>
     obtain ⟨ls,T3,k1,k2⟩:=zeP s (by simpa using hl) ht h
     exact ⟨.pl (.f x) :: ls,T3,cons (x:=.pl (.f x)) ⟨rfl,h0⟩ k1,k2⟩
   | own E l=>
     obtain ⟨ls,T3,k1,k2⟩:=zeP s (by simpa using hl) ht h
     exact ⟨.mv b0 j0 E l :: ls,T3,cons (x:=.mv b0 j0 E l) ⟨h00 E l rfl,h0⟩ k1,k2⟩
   | _=>exact h.elim
theorem store_view (s:St P c.nt G own a w) {b q k:Nat} (hb:b % 3≠1) (hmm:isM b=false) (hk:own k=some (.box b)) {m:Nat} (hm:lenOf G b=some m) (hq:q < m) {sb p j n:Nat} {E:TypeId} {l:List FV} {u:Value} (hne:sb≠b)
 (hl:look G sb (some p)=some (.own E l)) (hx:SlV P G own w sb p j n u) :
 (store ⟨k,q,none⟩ u).run P w=.ok () (w.setCell ⟨k,q,none⟩ u)∧St P c.nt ((Up.leaf b q (.rf sb p j n)).app G) own a (w.setCell ⟨k,q,none⟩ u)∧
   Keep P G own w ((Up.leaf b q (.rf sb p j n)).app G) own (w.setCell ⟨k,q,none⟩ u) (killr b (some q)) (live (killr b (some q))):=by
 simp only [lenOf,Option.map_eq_some_iff] at hm
 obtain ⟨y,hg,hlen⟩:=hm
 obtain ⟨k',arr,TT,e1,e2,e3⟩:=s.boxes b y hb hmm hg
 have:=s.one _ _ _ e1 hk;subst this
 have hu:u.oneCell'=true:=by
  unfold SlV at hx
  rw [hl] at hx
  obtain ⟨_,a',c',rfl,_⟩:=hx
  rfl
 refine ⟨zdk (v:=undef) e2 (by rw [← e3.1];omega) hu,?_⟩
 refine s.leaf hb hmm hg (by omega) e1 rfl (fun _ _=>Iff.rfl) (fun _ h=>h) (fun _ _ h=>h) (fun _ _ _ _ _ _ _ _ h=>h.1) (fun ht=>?_) s.one s.lt
 have K:Keep P G own w ((Up.leaf b q (.rf sb p j n)).app G) own (w.setCell ⟨k',q,none⟩ u) (Up.leaf b q (.rf sb p j n)).kill (live (Up.leaf b q (.rf sb p j n)).kill):=by
  refine zbS (by intros;simp) (by intros;simp) ht (fun j c off h _=>h) ?_
  intro c' p E l j c'' hl hgl h
  refine h.mono ht h.1 (z8 _ _ _ ?_)
  intro e;simp only at e;rw [e] at h;have:=h.1;rw [e1] at this;cases this
 have h1:=R0.keep K (v:=.rf sb p j n) hx
 have h2:(Up.leaf b q (.rf sb p j n)).kill (.rf sb p j n)=.rf sb p j n:=by
  simp only [Up.kill,killr];rw [if_neg (fun e=>hne e.1)]
 rw [h2] at h1
 exact h1
theorem op_storeV (hc:CfgOk P c) (hF:∀ f,F.fn f) (s:St P c.nt G own a w) {t:TypeId} {x y:Operand} (ho:o.op=.store t x y) (hd:o.dst=none)
 (h:(rdO x fun p=>storeVw c t y p).wp CE G T (Kn P c.nt G own a w next)):o.wpIn F n P a w next Q:=by
 obtain ⟨v,T1,h1,h2⟩:=zJ s h
 unfold storeVw at h2
 split at h2
 ·rename_i i b off hi
  obtain ⟨vb,hgb,h3⟩:=h2
  dsimp only at h3
  split at h3
  ·rename_i hcond
   obtain ⟨hle,⟨hb,hmm⟩,hb0,hsz⟩:=hcond
   obtain ⟨k,hk,hu⟩:=RC.ptr (w:=w) h1 hmm
   obtain ⟨v',T2,e1,e2⟩:=zJ s h3
   split at e2
   ·rename_i sb q j m
    split at e2
    ·rename_i hne
     obtain ⟨z,T3,g1,g2⟩:=zaM e2
     split at g2
     ·rename_i E l
      have hx:SlV P G own w sb q j m (a.eval y):=e1
      obtain ⟨r1,s1,K1⟩:=store_view s hb hmm hk (show lenOf G b=some vb.leaves.length by simp [lenOf,hgb]) (show off < vb.leaves.length by omega) hne g1 hx
      have hone:(a.eval y).cells=#[a.eval y]:=by
       have hx':=hx
       unfold SlV at hx'
       rw [g1] at hx'
       obtain ⟨_,a',c',hu',_⟩:=hx'
       rw [hu'];rfl
      refine zfc hF (by simp [ho]) (w':=w.setCell ⟨k,off,none⟩ (a.eval y)) ?_ (by rw [hd];exact g2 _ a _ s1 K1.tr rfl)
      have:=zeH hc hi (ad:=⟨k,off,none⟩) (v:=a.eval y) (w:=w) (w':=w.setCell ⟨k,off,none⟩ (a.eval y)) (by rw [hone,hsz];rfl) (by simp [hone,storeCells,Addr.add,r1])
      simp [execOp,ho,Instr.storeAt,hu,Instr.sureAddr,this]
     ·exact g2.elim
    ·exact e2.elim
   ·exact e2.elim
  ·exact h3.elim
 ·exact h2.elim
theorem op_storeX (hc:CfgOk P c) (hF:∀ f,F.fn f) (s:St P c.nt G own a w) {t:TypeId} {x y:Operand} (ho:o.op=.store t x y) (hd:o.dst=none)
 (h:(rdO x fun p=>storeX c t y p).wp CE G T (Kn P c.nt G own a w next)):o.wpIn F n P a w next Q:=by
 unfold storeX at h
 cases hm:mvS c y with
 | none=>
   simp only [hm] at h
   cases hv:vsS c y with
   | false=>simp only [hv] at h;exact op_store hc hF s ho hd h
   | true=>simp only [hv] at h;exact op_storeV hc hF s ho hd h
 | some tt=>
   simp only [hm] at h
   have hy:y=.tmp tt:=by
    unfold mvS at hm
    split at hm
    ·split at hm
     ·simp only [Option.some.injEq] at hm;subst hm;rfl
     ·cases hm
    ·cases hm
   subst hy
   obtain ⟨v,T1,h1,h2⟩:=zJ s h
   unfold storeMv at h2
   split at h2
   ·rename_i i b off hi
    obtain ⟨vb,hgb,h3⟩:=h2
    dsimp only at h3
    split at h3
    ·rename_i hcond
     obtain ⟨hle,⟨hb,hmm⟩,hb0⟩:=hcond
     obtain ⟨k,hk,hu⟩:=RC.ptr (w:=w) h1 hmm
     obtain ⟨vt,g1,g2,g3⟩:=h3
     cases vt with
     | agg l=>
       have hr:=s.temp g1
       obtain ⟨arr,e1,e2,e3⟩:=hr
       have hall:∀ (j:Nat) v u,l[j]?=some v→(a.eval (.tmp tt)).cells.toList[j]?=some u→RO P G own w (tb tt) j v u:=fun j v u q1 q2=>e3 j v u q1 (by rw [e1] at q2;simpa [Value.cells] using q2)
       have hlen:l.length=(a.eval (.tmp tt)).cells.toList.length:=by rw [e1];simpa [Value.cells] using e2
       obtain ⟨ls,T3,k1,k2⟩:=zeP s hlen (fun j v u q1 q2=>by
        have:=hall j v u q1 q2
        rw [Nat.zero_add]
        exact ⟨this,fun E l0 e=>by subst e;exact zbK g1 q1 rfl⟩) g3
       split at k2
       ·rename_i hc2
        obtain ⟨c1,c2,c3⟩:=hc2
        obtain ⟨own3,w3,r1,r2,r3,_⟩:=zha (k:=k) hb hmm ls (a.eval (.tmp tt)).cells.toList G own w off 0 s hk (show lenOf G b=some vb.leaves.length by simp [lenOf,hgb]) (by omega) (ziK c2) (fun p hp=>by have:=List.all_eq_true.1 c3 p hp;simpa using this) k1
        refine zfc hF (by simp [ho]) (w':=w3) ?_ (by rw [hd];exact k2 own3 a w3 r2 r3 rfl)
        have hsz:(a.eval (.tmp tt)).cells.size=i.size:=by rw [← c1,k1.1];simp
        have:=zeH hc hi hsz r1
        simp [execOp,ho,Instr.storeAt,hu,Instr.sureAddr,this]
       ·exact k2.elim
     | _=>exact g3.elim
    ·exact h3.elim
   ·exact h2.elim
theorem zhD {k q:Nat} {arr:Array Value} {TT:TypeId} {u:Value} (hw:w.heap[k]?=some (.cells arr TT (0,0))) (hu:arr[q]?=some u):w.setCell ⟨k,q,none⟩ u=w:=by
 have hlt:=(Array.getElem?_eq_some_iff.1 hu).1
 have he:=(Array.getElem?_eq_some_iff.1 hu).2
 have hk:=(Array.getElem?_eq_some_iff.1 hw).1
 have hke:=(Array.getElem?_eq_some_iff.1 hw).2
 have:(w.setCell ⟨k,q,none⟩ u).heap=w.heap:=by
  apply Array.ext_getElem?
  intro i
  simp only [World.setCell,Array.getElem?_modify]
  by_cases e:k=i
  ·subst e
   rw [if_pos rfl,hw]
   simp only [Option.map_some,Option.isSome_none,Bool.false_eq_true,if_false]
   congr 2
   apply Array.ext_getElem?
   intro j
   rw [Array.getElem?_setIfInBounds]
   by_cases e2:q=j
   ·subst e2;rw [if_pos rfl,if_pos hlt,hu]
   ·rw [if_neg e2]
  ·rw [if_neg e]
 cases w with
 | mk heap tape drawn os output=>
   simp only [World.setCell] at this ⊢
   simp only [this]
theorem zeC {k:Nat} {arr:Array Value} {TT:TypeId} (hw:w.heap[k]?=some (.cells arr TT (0,0))):∀ (us:List Value) (i:Nat),(∀ (j:Nat) u,us[j]?=some u→arr[i+j]?=some u∧u.oneCell'=true)→(storeCells ⟨k,0,none⟩ us i).run P w=.ok () w
 | [],i,h=>by simp [storeCells]
 | u :: us,i,h=>by
   obtain ⟨h1,h2⟩:=h 0 u rfl
   rw [Nat.add_zero] at h1
   have hlt:=(Array.getElem?_eq_some_iff.1 h1).1
   have r1:=zdk (P:=P) (w:=w) (v:=undef) (q:=i) (u:=u) hw hlt h2
   rw [zhD hw h1] at r1
   simp only [storeCells,za0,Nat.zero_add,Sem.run_bind,r1,Result.andThen_ok]
   exact zeC hw us (i+1) fun j v hv=>by
    have:=h (j+1) v (by simpa using hv)
    rw [show i+(j+1)=i+1+j by omega] at this;exact this
theorem op_boxO (hF:∀ f,F.fn f) (s:St P c.nt G own a w) {E:TypeId} {t r:Tmp} (ho:o.op=.box E (.tmp t)) (hd:o.dst=some r) {l:List AV} (hg:get G (tb t)=some (.agg l)) (hok:(AV.agg l).ok=true)
 (hfo:l.all isFO=true) (hlt:r < c.nt)
 (h:∀ T',Kn P c.nt G own a w next (.newbox (xb r) (.agg (l.map fun _=>.bad)) :: (stL (tb t) 0 (xb r) 0 l++[.set (tb r) (.ptr (xb r) 0)])) T'):o.wpIn F n P a w next Q:=by
 have hr:=zjU s hg hok (by simp) (by simp) (by simp)
 simp only [AV.leaves] at hr
 have hb2:xb r % 3=2:=by simp only [xb];omega
 have hne:tb t≠xb r:=by simp only [tb,xb];omega
 let arr:=(a.eval (.tmp t)).cells
 have hsz:l.length=arr.size:=by have:=hr.1;simpa using this
 have s1:=s.newbox (b:=xb r) hb2 (ziX r) (z:=.agg (l.map fun _=>.bad)) (arr:=arr) (T:=E) ⟨by simpa [AV.leaves] using hsz,fun j x u e1 e2=>by
  simp only [AV.leaves,List.getElem?_map] at e1
  cases hj:l[j]? with
  | none=>rw [hj] at e1;cases e1
  | some y=>rw [hj] at e1;cases e1;trivial⟩
 have K1:=s.newbox_keep (xb r) hb2 (.agg (l.map fun _=>.bad)) arr E
 have hk1:ownBox own w.heap.size (xb r) w.heap.size=some (.box (xb r)):=by simp [ownBox]
 have hlook:∀ j E l',look G (tb t) (some j)=some (.own E l')→look ((Up.newbox (xb r) (.agg (l.map fun _=>.bad))).app G) (tb t) (some j)=some (.own E l'):=fun j E l' h=>by
  refine look_fwd h ?_
  intro x hx y hy
  simp only [AV.refs,AV.refs1,AV.refs0,List.mem_singleton] at hx
  simp only [Up.writes,List.mem_cons,List.not_mem_nil,or_false] at hy
  subst hx
  rcases hy with rfl | rfl
  ·simp only [accOf,Acc.meets,beq_eq_false_iff_ne];exact hne
  ·rfl
 have hsrc:Src P ((Up.newbox (xb r) (.agg (l.map fun _=>.bad))).app G) (ownBox own w.heap.size (xb r)) (w.alloc (.cells arr E)) (tb t) 0 l (a.eval (.tmp t)).cells.toList:=by
  refine ⟨hr.1,fun j x u e1 e2=>?_⟩
  have hxfo:=List.all_eq_true.1 hfo x (List.mem_of_getElem? e1)
  rcases hr.2 j x u e1 e2 with ⟨E',l',rfl,e3,e4⟩ | e3
  ·exact .inl ⟨E',l',rfl,hlook _ _ _ e3,K1.ro _ _ _ _ _ (zcG hne) e3 e4⟩
  ·cases x with
   | f y=>
     have:=R0.keep K1 e3
     exact .inr ⟨rfl,this⟩
   | own E' l'=>exact e3.elim
   | _=>simp [isFO] at hxfo
 have hlen:lenOf ((Up.newbox (xb r) (.agg (l.map fun _=>.bad))).app G) (xb r)=some l.length:=by
  simp [lenOf,Up.app,zaK,AV.leaves]
 obtain ⟨own2,w2,r1,s2,t2,hk2⟩:=zeD (c:=c) (b:=xb r) (k:=w.heap.size) (m:=l.length) (by omega) (ziX r) hne l (a.eval (.tmp t)).cells.toList _ _ _ 0 0 0 s1 hk1 hlen (by omega) hsrc
 have hone:∀ (j:Nat) u,(a.eval (.tmp t)).cells.toList[j]?=some u→arr[0+j]?=some u∧u.oneCell'=true:=fun j u hu=>by
  have hj:arr[j]?=some u:=by simpa [arr] using hu
  refine ⟨by rw [Nat.zero_add];exact hj,?_⟩
  have hjl:j < l.length:=by rw [hsz];exact (Array.getElem?_eq_some_iff.1 hj).1
  have hxfo:=List.all_eq_true.1 hfo l[j] (by simp)
  rcases hr.2 j l[j] u (by simp [hjl]) hu with ⟨E',l',e0,e3,e4⟩ | e3
  ·rw [e0] at e4
   obtain ⟨a',c',rfl,_⟩:=e4;rfl
  ·refine za3 e3 ?_
   generalize l[j]=x at hxfo e3
   cases x with
   | f y=>rfl
   | own E' l'=>exact e3.elim
   | _=>simp [isFO] at hxfo
 have hself:=zeC (P:=P) (w:=w.alloc (.cells arr E)) (zaV w (.cells arr E)) (a.eval (.tmp t)).cells.toList 0 hone
 rw [hself] at r1
 have hw2:w.alloc (.cells arr E)=w2:=by simpa using r1
 subst hw2
 have s3:=s2.set_view (t:=r) hlt (v:=.ptr (xb r) 0) (u:=.pointer (some ⟨w.heap.size,0,none⟩)) ⟨w.heap.size,hk2,by rw [ziX];rfl⟩ rfl
 refine zI hF (by simp [ho]) (u:=.pointer (some ⟨w.heap.size,0,none⟩)) (w':=w.alloc (.cells (a.eval (.tmp t)).cells E)) ?_ ?_
 ·simp [execOp,ho,Instr.box,newVar,newRow]
 ·rw [hd]
  refine h [] _ _ _ ?_ (K1.tr.trans t2) rfl
  show St P c.nt (app (stL (tb t) 0 (xb r) 0 l++[.set (tb r) (.ptr (xb r) 0)]) ((Up.newbox (xb r) (.agg (l.map fun _=>.bad))).app G)) own2 _ _
  rw [zas];exact s3
theorem op_boxN (hF:∀ f,F.fn f) (s:St P c.nt G own a w) {E:TypeId} {x:Operand} (ho:o.op=.box E x)
 (h:(boxRM c o.dst x).wp CE G T (Kn P c.nt G own a w next)):o.wpIn F n P a w next Q:=by
 unfold boxRM at h
 split at h
 ·rename_i t r hd
  obtain ⟨v,h1,h2,h3⟩:=h
  have old:((cp (vw (tb t) v) fun v U=>newB c (some r) U v).wp CE G (T++accOf (tb t) none :: v.refs) (Kn P c.nt G own a w next))→o.wpIn F n P a w next Q:=fun h=>by
   refine op_box (CE:=CE) (T:=T) hF s ho ?_
   rw [hd];exact ⟨v,h1,h2,h⟩
  cases v with
  | agg l=>
    dsimp only at h3
    split at h3
    ·split at h3
     ·rename_i hc
      exact op_boxO hF s ho hd h1 h2 hc.1 hc.2 fun T' own' a' w' s' t' d'=>h3 own' a' w' s' t' d'
     ·exact h3.elim
    ·exact old h3
  | _=>exact old h3
 ·exact op_box (CE:=CE) (T:=T) hF s ho h
end
end Go.Ev
namespace Go.Ev
open Go Go.RowKit
variable {P : Program}
section
variable {CE : CEx} {c : Cfg} {G : Sta} {own : Own} {a : Act} {w : World} {T : List Acc} {next : Act → World → Prop}
variable {F : Fence} {n : Nat} {o : Oper} {Q : Exit → Act → World → Prop}
def RZ (P:Program) (G:Sta) (own:Own) (w:World) (x:AV) (u:Value):Prop:=zeroLeaf x u∨(x.plain0=true∧R0 P G own w x u)
theorem RZ.kp {G':Sta} {own':Own} {w':World} (K:Kp P G own w G' own' w') {x:AV} {u:Value} (h:RZ P G own w x u):RZ P G' own' w' x u:=h.imp id (fun h=>⟨h.1,K.r0 _ _ h.2⟩)
def RZs (P:Program) (G:Sta) (own:Own) (w:World) (l:List AV) (arr:Array Value):Prop:=l.length=arr.size∧∀ (j:Nat) x u,l[j]?=some x→arr[j]?=some u→RZ P G own w x u
theorem foldl_set (o:Nat):∀ (vs:List Value) (st:Nat) (arr:Array Value),((vs.zipIdx st).foldl (fun cs (p:Value×Nat)=>cs.setIfInBounds (o+p.2) p.1) arr).size=arr.size∧
 ∀ m,((vs.zipIdx st).foldl (fun cs (p:Value×Nat)=>cs.setIfInBounds (o+p.2) p.1) arr)[m]?=if o+st≤m∧m < o+st+vs.length∧m < arr.size then vs[m - (o+st)]? else arr[m]?
 | [],st,arr=>⟨rfl,fun m=>by simp;omega⟩
 | v :: vs,st,arr=>by
   obtain ⟨h1,h2⟩:=foldl_set o vs (st+1) (arr.setIfInBounds (o+st) v)
   simp only [List.zipIdx_cons,List.foldl_cons]
   refine ⟨by rw [h1,Array.size_setIfInBounds],fun m=>?_⟩
   rw [h2]
   simp only [Array.size_setIfInBounds,List.length_cons]
   by_cases hm:m=o+st
   ·subst hm
    rw [if_neg (by omega)]
    by_cases hlt:o+st < arr.size
    ·rw [Array.getElem?_setIfInBounds_self_of_lt hlt,if_pos ⟨by omega,by omega,hlt⟩];simp
    ·rw [if_neg (by omega),Array.getElem?_eq_none (by simp;omega),Array.getElem?_eq_none (by omega)]
   ·rw [Array.getElem?_setIfInBounds_ne (fun e=>hm e.symm)]
    by_cases hc:o+(st+1)≤m∧m < o+(st+1)+vs.length∧m < arr.size
    ·rw [if_pos hc,if_pos ⟨by omega,by omega,hc.2.2⟩]
     obtain ⟨d,hd⟩:∃ d,m - (o+st)=d+1:=⟨m - (o+st) - 1,by omega⟩
     rw [hd,List.getElem?_cons_succ,show m - (o+(st+1))=d by omega]
    ·rw [if_neg hc,if_neg (by omega)]
theorem fill_zip (o:Nat) (vs:Array Value) (arr:Array Value):(vs.zipIdx.foldl (fun cs (p:Value×Nat)=>cs.setIfInBounds (o+p.2) p.1) arr).size=arr.size∧
 ∀ m,(vs.zipIdx.foldl (fun cs (p:Value×Nat)=>cs.setIfInBounds (o+p.2) p.1) arr)[m]?=if o≤m∧m < o+vs.size∧m < arr.size then vs[m - o]? else arr[m]?:=by
 rw [← Array.foldl_toList,Array.toList_zipIdx]
 have:=foldl_set o vs.toList 0 arr
 simpa using this
theorem zeW:∀ (l:List AV) (z:List AV) (o m:Nat),(fillL z o l).length=z.length∧(fillL z o l)[m]?=if o≤m∧m < o+l.length∧m < z.length then l[m - o]? else z[m]?
 | [],z,o,m=>⟨rfl,by simp [fillL];omega⟩
 | x :: l,z,o,m=>by
   obtain ⟨h1,h2⟩:=zeW l (z.set o x) (o+1) m
   simp only [fillL]
   refine ⟨by rw [h1,List.length_set],?_⟩
   rw [h2]
   simp only [List.length_set,List.length_cons]
   by_cases hm:m=o
   ·subst hm
    rw [if_neg (by omega),List.getElem?_set,if_pos rfl]
    by_cases hlt:m < z.length
    ·rw [if_pos hlt,if_pos ⟨by omega,by omega,hlt⟩];simp
    ·rw [if_neg hlt,if_neg (by omega),List.getElem?_eq_none (by omega)]
   ·rw [List.getElem?_set_ne (fun e=>hm e.symm)]
    by_cases hc:o+1≤m∧m < o+1+l.length∧m < z.length
    ·rw [if_pos hc,if_pos ⟨by omega,by omega,hc.2.2⟩]
     obtain ⟨d,hd⟩:∃ d,m - o=d+1:=⟨m - o - 1,by omega⟩
     rw [hd,List.getElem?_cons_succ,show m - (o+1)=d by omega]
    ·rw [if_neg hc,if_neg (by omega)]
theorem RZs.fill {l z:List AV} {o:Nat} {vs arr:Array Value} (hz:RZs P G own w z arr) (hl:l.length=vs.size) (hr:∀ (j:Nat) x u,l[j]?=some x→vs[j]?=some u→RZ P G own w x u) :
 RZs P G own w (fillL z o l) (vs.zipIdx.foldl (fun cs (p:Value×Nat)=>cs.setIfInBounds (o+p.2) p.1) arr):=by
 obtain ⟨h1,h2⟩:=fill_zip o vs arr
 refine ⟨by rw [(zeW l z o 0).1,h1];exact hz.1,fun j x u e1 e2=>?_⟩
 rw [(zeW l z o j).2,hl,hz.1] at e1
 rw [h2] at e2
 split at e1
 ·rename_i hc
  rw [if_pos hc] at e2
  exact hr _ _ _ e1 e2
 ·rename_i hc
  rw [if_neg hc] at e2
  exact hz.2 _ _ _ e1 e2
theorem zhL {K:List Up→List Acc→Prop} {place:Nat→Option (Nat×Nat)} (s:St P c.nt G own a w):∀ {parts:List (Nat×Operand)} {z:List AV} {arr:Array Value} {U:List Up} {own1:Own} {k:List AV→List Up→RM} {T:List Acc},
 FrzOnly U→St P c.nt (app U G) own1 a w→Kp P G own w (app U G) own1 w→RZs P (app U G) own1 w z arr→(fillRM place z parts U k).wp CE G T K→
 ∃ z' arr' U' own' T',Instr.fill place arr (parts.map fun p=>(p.1,a.eval p.2))=some arr'∧St P c.nt (app U' G) own' a w∧Kp P G own w (app U' G) own' w∧RZs P (app U' G) own' w z' arr'∧(k z' U').wp CE G T' K
 | [],z,arr,U,own1,k,T,hU,s1,K1,hz,h=>⟨z,arr,U,own1,T,rfl,s1,K1,hz,h⟩
 | (i,x) :: r,z,arr,U,own1,k,T,hU,s1,K1,hz,h=>by
   obtain ⟨v,T1,h1,h2⟩:=zJ s h
   obtain ⟨xs,W,T2,own2,k1,k2,k3,k4,k6⟩:=ze0 hU s1 (K1.rv h1) h2
   split at k6
   ·rename_i q m hp
    split at k6
    ·rename_i hc
     obtain ⟨hc1,hc2⟩:=hc
     have hlen:xs.length=(a.eval x).cells.size:=by rw [k4.1];simp
     have hz2:RZs P (app (U++W) G) own2 w z arr:=⟨hz.1,fun j x u e1 e2=>(hz.2 j x u e1 e2).kp k3⟩
     have hz3:=hz2.fill (o:=q) hlen (fun j x u e1 e2=>.inr (k4.2 j x u e1 (by simpa using e2)))
     obtain ⟨z',arr',U',own',T',r1,r2,r3,r4,r5⟩:=zhL s (hU.app k1) k2 (K1.trans k3) hz3 k6
     refine ⟨z',arr',U',own',T',?_,r2,r3,r4,r5⟩
     simp only [List.map_cons,Instr.fill,hp]
     rw [if_neg]
     ·exact r1
     ·have:=hz.1
      simp only [Bool.or_eq_true,bne_iff_ne,decide_eq_true_eq]
      omega
    ·exact k6.elim
   ·exact k6.elim
theorem zeM (hc:CfgOk P c):∀ {fs:List Field} {pl:List (Nat×Nat)},placesL c fs=some pl→fs.mapM (fun f=>(P.info? f.type).map fun i=>(f.offset,i.size))=some pl
 | [],pl,h=>by simp [placesL] at h;subst h;rfl
 | f :: r,pl,h=>by
   simp only [placesL] at h
   split at h
   ·rename_i t l ht hl
    cases h
    obtain ⟨inf,h1,h2,_⟩:=(hc f.type t ht).info
    rw [List.mapM_cons,zeM hc hl]
    simp [h1,h2]
   ·cases h
theorem finAgg_sound {U:List Up} {own':Own} {d:Option Tmp} {l:List AV} {arr:Array Value} (s:St P c.nt (app U G) own' a w) (ht:Tr own w own' w) (hz:RZs P (app U G) own' w l arr)
 (h:(finAgg c d U l).wp CE G T (Kn P c.nt G own a w next)):next (a.put d (.agg arr)) w:=by
 cases d with
 | none=>exact h.elim
 | some t=>
   simp only [finAgg] at h
   split at h
   ·rename_i hlt
    have hs:St P c.nt ((Up.set (tb t) (.agg l)).app (app U G)) own' (a.put (some t) (.agg arr)) w:=by
     refine s.set_pure hlt (u:=.agg arr) ⟨arr,rfl,hz.1,fun j x v e1 e2=>?_⟩
     rcases hz.2 j x v e1 e2 with h1 | ⟨h1,h2⟩
     ·exact zd4 h1
     ·have K:Keep P (app U G) own' w ((Up.set (tb t) (.agg l)).app (app U G)) own' w (Up.set (tb t) (.agg l)).kill (live (Up.set (tb t) (.agg l)).kill):=
       zbS (by intros;simp) (by intros;simp) (Tr.refl _ _) (fun k b off h _=>h) (fun _ _ _ _ _ _ _ _ h=>h)
      have:=R0.keep K h2
      rw [show (Up.set (tb t) (.agg l)).kill x=x from zb4 x h1] at this
      rw [zgp (by intro E l e;subst e;simp [AV.plain0] at h1)]
      exact this
    exact h own' _ w (by rw [zas];exact hs) ht rfl
   ·exact h.elim
theorem zeroFits_rzs {z:List AV} {zv:Value} (h:zeroFits (.agg z) zv):RZs P G own w z zv.cells:=by
 obtain ⟨arr,rfl,h1,h2⟩:=h
 exact ⟨h1,fun j x u e1 e2=>.inl (h2 j x u e1 e2)⟩
theorem op_build (hc:CfgOk P c) (hF:∀ f,F.fn f) (s:St P c.nt G own a w) {t:TypeId} {parts:Array (Nat×Operand)} (ho:o.op=.build t parts)
 (h:(buildRM c o.dst t parts.toList).wp CE G T (Kn P c.nt G own a w next)):o.wpIn F n P a w next Q:=by
 have go:∀ {place:Nat→Option (Nat×Nat)} {z:List AV} {zv:Value},zeroFits (.agg z) zv→(∀ ps cells,Instr.fill place zv.cells ps=some cells→P.built t ps=some cells)→
  (fillRM place z parts.toList [] fun l U=>finAgg c o.dst U l).wp CE G T (Kn P c.nt G own a w next)→o.wpIn F n P a w next Q:=by
  intro place z zv hz hb h
  obtain ⟨z',arr',U',own',T',r1,r2,r3,r4,r5⟩:=zhL (U:=[]) s FrzOnly.nil s (Kp.refl _ _ _) (zeroFits_rzs hz) h
  refine zI hF (by simp [ho]) (u:=.agg arr') (w':=w) ?_ (finAgg_sound r2 r3.tr r4 r5)
  have:=run_build (P:=P) w t (parts.map fun p=>(p.1,a.eval p.2)) arr' (hb _ _ (by simpa using r1))
  simp only [execOp,ho]
  rw [Sem.run_bind,this];rfl
 unfold buildRM at h
 split at h
 ·rename_i fs sz by_ z hti
  split at h
  ·rename_i pl hpl
   obtain ⟨f,h1,h2,h3,h4⟩:=(hc t _ hti).info
   obtain ⟨zv,h5,h6⟩:=h4 _ rfl
   refine go h6 ?_ h
   intro ps cells hfill
   unfold Program.built
   rw [h1,(hc t _ hti).und]
   simp only [h5,zeM hc hpl]
   simpa using hfill
  ·exact h.elim
 ·rename_i N E sz by_ z hti
  split at h
  ·rename_i i hi
   obtain ⟨f,h1,h2,h3,h4⟩:=(hc t _ hti).info
   obtain ⟨zv,h5,h6⟩:=h4 _ rfl
   obtain ⟨fE,g1,g2,_⟩:=(hc E _ hi).info
   refine go h6 ?_ h
   intro ps cells hfill
   unfold Program.built
   rw [h1,(hc t _ hti).und]
   simp only [h5,g1,g2]
   exact hfill
  ·exact h.elim
 ·exact h.elim
theorem op_buildVw (hc:CfgOk P c) (hF:∀ f,F.fn f) (s:St P c.nt G own a w) {t:TypeId} {parts:Array (Nat×Operand)} {i:Nat} {x:Tmp} (ho:o.op=.build t parts) (hps:parts.toList=[(i,.tmp x)])
 (h:(buildVw c o.dst t i x).wp CE G T (Kn P c.nt G own a w next)):o.wpIn F n P a w next Q:=by
 unfold buildVw at h
 split at h
 ·rename_i fs sz by_ z hti
  split at h
  ·rename_i pl hpl
   split at h
   ·rename_i q m hp
    obtain ⟨v,T1,h1,h2⟩:=zaM h
    split at h2
    ·rename_i E l
     split at h2
     ·rename_i hcond
      obtain ⟨rfl,hle,hne⟩:=hcond
      split at h2
      ·rename_i r hd
       split at h2
       ·rename_i hlt
        obtain ⟨f,f1,f2,f3,f4⟩:=(hc t _ hti).info
        obtain ⟨zv,f5,f6⟩:=f4 _ rfl
        obtain ⟨arr,rfl,f7,f8⟩:=f6
        obtain ⟨u,u1,u2⟩:=s.temps x _ h1
        have hx:a.eval (.tmp x)=u:=by
         show a.tmps.getD x undef=u
         rw [Array.getD_eq_getD_getElem?,u1];rfl
        have hv:R0 P G own w (.rf (tb x) 0 0 l.length) u:=RL.view u2 h1
        have hcells:u.cells=#[u]:=by
         obtain ⟨aa,cc,e1,_⟩:=(u2:OwnL P own w (tb x) 0 E l u)
         rw [e1];rfl
        have hz:=fill_zip q u.cells arr
        refine zI hF (by simp [ho]) (u:=.agg (u.cells.zipIdx.foldl (fun cs (p:Value×Nat)=>cs.setIfInBounds (q+p.2) p.1) arr)) (w':=w) ?_ ?_
        ·have hfill:Instr.fill (pl[·]?) arr [(i,u)]=some (u.cells.zipIdx.foldl (fun cs (p:Value×Nat)=>cs.setIfInBounds (q+p.2) p.1) arr):=by
          simp only [Instr.fill,hp]
          rw [if_neg]
          simp only [Bool.or_eq_true,bne_iff_ne,decide_eq_true_eq,hcells]
          simp
          omega
         have:=run_build (P:=P) w t (parts.map fun p=>(p.1,a.eval p.2)) (u.cells.zipIdx.foldl (fun cs (p:Value×Nat)=>cs.setIfInBounds (q+p.2) p.1) arr) (by
          unfold Program.built
          rw [f1,(hc t _ hti).und]
          simp only [f5,zeM hc hpl]
          have e:(parts.map fun p=>(p.1,a.eval p.2)).toList=[(i,u)]:=by simp [hps,hx]
          rw [e];simpa [Value.cells] using hfill)
         simp only [execOp,ho]
         rw [Sem.run_bind,this];rfl
        ·rw [hd]
         have htr:tb x≠tb r:=by
          intro e;exact hne (by rw [hd,tb_inj e])
         have hs:St P c.nt ((Up.set (tb r) (.agg (fillL z q [.rf (tb x) 0 0 l.length]))).app G) own (a.put (some r) (.agg (u.cells.zipIdx.foldl (fun cs (p:Value×Nat)=>cs.setIfInBounds (q+p.2) p.1) arr))) w:=by
          refine s.set_pure hlt ⟨_,rfl,by rw [(zeW _ z q 0).1,hz.1];exact f7,fun j y v e1 e2=>?_⟩
          rw [(zeW _ z q j).2] at e1
          rw [hz.2,hcells] at e2
          by_cases hj:j=q
          ·subst hj
           rw [if_pos ⟨Nat.le_refl _,by simp,by omega⟩] at e1
           rw [if_pos ⟨Nat.le_refl _,by simp,by omega⟩] at e2
           simp at e1 e2
           subst e1 e2
           have K:Keep P G own w ((Up.set (tb r) (.agg (fillL z j [.rf (tb x) 0 0 l.length]))).app G) own w (Up.set (tb r) (.agg (fillL z j [.rf (tb x) 0 0 l.length]))).kill (live (Up.set (tb r) (.agg (fillL z j [.rf (tb x) 0 0 l.length]))).kill):=
            zbS (by intros;simp) (by intros;simp) (Tr.refl _ _) (fun k b off h _=>h) (fun _ _ _ _ _ _ _ _ h=>h)
           have:=R0.keep K hv
           rw [show (Up.set (tb r) (.agg (fillL z j [.rf (tb x) 0 0 l.length]))).kill (.rf (tb x) 0 0 l.length)=.rf (tb x) 0 0 l.length from by simp [Up.kill,killr,htr]] at this
           exact this
          ·rw [if_neg (by simp;omega)] at e1
           rw [if_neg (by simp;omega)] at e2
           exact zd4 (f8 j y v e1 e2)
         exact h2 own _ w hs (Tr.refl _ _) rfl
       ·exact h2.elim
      ·exact h2.elim
     ·exact h2.elim
    ·exact h2.elim
   ·exact h.elim
  ·exact h.elim
 ·exact h.elim
theorem op_buildX (hc:CfgOk P c) (hF:∀ f,F.fn f) (s:St P c.nt G own a w) {t:TypeId} {parts:Array (Nat×Operand)} (ho:o.op=.build t parts)
 (h:(match vsPart c parts.toList with
 | some (i,x)=>buildVw c o.dst t i x
 | none=>buildRM c o.dst t parts.toList:RM).wp CE G T (Kn P c.nt G own a w next)):o.wpIn F n P a w next Q:=by
 split at h
 ·rename_i i x hq
  refine op_buildVw hc hF s ho ?_ h
  unfold vsPart at hq
  split at hq
  ·rename_i i' t' hl
   split at hq
   ·cases hq;exact hl
   ·cases hq
  ·cases hq
 ·exact op_build hc hF s ho h
theorem op_len (hc:CfgOk P c) (hF:∀ f,F.fn f) (s:St P c.nt G own a w) {x:Operand} {t:TypeId} (ho:o.op=.call { callee:=.builtin .len,args:=#[x],argTypes:=#[t] })
 (h:(match c.ti t with
 | some { desc:=.slice _,.. }=>rdO x (lenRM c o.dst)
 | some { desc:=.string,.. }=>rdO x (lenSRM c o.dst)
 | some { desc:=.map _ _,.. }=>rdO x (lenMRM c o.dst)
 | _=>.fail:RM).wp CE G T (Kn P c.nt G own a w next)):o.wpIn F n P a w next Q:=by
 have exec:∀ {u},(Builtin.len_ #[t] o.type #[a.eval x]).run P w=.ok u w→(execOp a.eval o).run P w=.ok (.value u) w:=by
  intro u hu
  simp only [execOp,ho,resolve,Sem.run_bind]
  simp [invoke,builtin,hu]
 split at h
 ·rename_i hti
  have hun:=(hc t _ hti).und
  obtain ⟨v,T1,h1,h2⟩:=zJ s h
  unfold lenRM at h2
  split at h2
  ·rename_i l
   obtain ⟨a',c',hu,_⟩:=rf_shape h1.2
   exact zI hF (by simp [ho]) (exec (u:=.int .i64 l.length) (by simp [Builtin.len_,run_underlying hun,hu,goInt])) (zM (U:=[]) s (Tr.refl _ _) (zaz rfl) h2)
  ·rename_i b q i m
   obtain ⟨T2,h3,h4,_⟩:=zhb (v:=.rf b q i m) h1 h2
   obtain ⟨l,_,_,a',c',hu,_⟩:=h4 _ _ _ _ rfl
   exact zI hF (by simp [ho]) (exec (u:=.int .i64 m) (by simp [Builtin.len_,run_underlying hun,hu,goInt])) (zM (U:=[]) s (Tr.refl _ _) (zaz rfl) h3)
  ·rename_i m
   obtain ⟨a',c',hu⟩:∃ a' c',a.eval x=.slice a' m c':=h1
   exact zI hF (by simp [ho]) (exec (u:=.int .i64 m) (by simp [Builtin.len_,run_underlying hun,hu,goInt])) (zM (U:=[]) s (Tr.refl _ _) (zaz rfl) h2)
  ·exact h2.elim
 ·rename_i hti
  have hun:=(hc t _ hti).und
  obtain ⟨v,T1,h1,h2⟩:=zJ s h
  unfold lenSRM at h2
  split at h2
  ·rename_i str
   have hu:=zbt h1
   exact zI hF (by simp [ho]) (exec (u:=.int .i64 str.size) (by simp [Builtin.len_,run_underlying hun,hu,goInt])) (zM (U:=[]) s (Tr.refl _ _) (zaz rfl) h2)
  ·exact h2.elim
 ·rename_i hti
  have hun:=(hc t _ hti).und
  obtain ⟨v,T1,h1,h2⟩:=zJ s h
  unfold lenMRM at h2
  split at h2
  ·rename_i b q
   split at h2
   ·rename_i hm
    obtain ⟨k,hk,hu⟩:=h1
    rw [if_pos (zew hm)] at hu
    obtain ⟨z,T2,h3,h4⟩:=zaM h2
    split at h4
    ·rename_i L
     obtain ⟨k',es,ck,e1,e2,e3⟩:=s.maps b _ hm h3
     have:=s.one _ _ _ e1 hk;subst this
     have hlen:L.length=es.size:=by
      rcases e3 with e | ⟨L',e,h,_⟩
      ·cases e
      ·cases e;exact h
     exact zI hF (by simp [ho]) (exec (u:=.int .i64 L.length) (by simp [Builtin.len_,run_underlying hun,hu,goInt,MapKept.run_getObj_map e2,hlen])) (zM (U:=[]) s (Tr.refl _ _) (zaz rfl) h4)
    ·exact h4.elim
   ·exact h2.elim
  ·exact h2.elim
 ·exact h.elim
theorem ziN {mx:Bool} {k:IntKind}:∀ {l:List AV} {us:List Value} {p:Int} {z:AV},maxGo mx k p l=some z→l.length=us.length→(∀ (j:Nat) x u,l[j]?=some x→us[j]?=some u→RV P G own w x u)→
 ∃ r,(us.foldlM (if mx=true then Builtin.max2 else Builtin.min2) (.int k p)).run P w=.ok r w∧RV P G own w z r
 | [],us,p,z,h,hl,hr=>by
   have:us=[]:=List.length_eq_zero_iff.1 (by simpa using hl.symm)
   subst this
   simp [maxGo] at h;subst h
   exact ⟨_,rfl,zaz rfl⟩
 | x :: l,[],p,z,h,hl,hr=>by simp at hl
 | x :: l,u :: us,p,z,h,hl,hr=>by
   unfold maxGo at h
   split at h
   ·simp_all
   ·rename_i a1 a2
    injection a2 with a2 a3;subst a2 a3
    rename_i k' q _
    have hu:=zbt (hr 0 _ u rfl rfl);subst hu
    obtain ⟨r,h1,h2⟩:=ziN (us:=us) h (by simpa using hl) (fun j x u e1 e2=>hr (j+1) x u (by simpa using e1) (by simpa using e2))
    refine ⟨r,?_,h2⟩
    rw [List.foldlM_cons]
    cases mx<;>simp only [Bool.false_eq_true,if_true,if_false] at h1 ⊢
    ·rw [Sem.run_bind,Builtin.min2,Sem.run_pure,Result.andThen_ok];exact h1
    ·rw [Sem.run_bind,Builtin.max2,Sem.run_pure,Result.andThen_ok];exact h1
   ·cases h
theorem op_max (hF:∀ f,F.fn f) (s:St P c.nt G own a w) {xs:Array Operand} {ts:Array TypeId} {mx:Bool} (ho:o.op=.call { callee:=.builtin (if mx=true then .max else .min),args:=xs,argTypes:=ts })
 (h:(rdL xs.toList fun vs=>optRM c o.dst (maxAV mx vs)).wp CE G T (Kn P c.nt G own a w next)):o.wpIn F n P a w next Q:=by
 obtain ⟨vs,T',h1,h2,h3⟩:=zdQ s h
 cases hm:maxAV mx vs with
 | none=>rw [hm] at h3;exact h3.elim
 | some z=>
   rw [hm] at h3
   unfold maxAV at hm
   split at hm
   ·rename_i k p r
    cases hxs:xs.toList with
    | nil=>rw [hxs] at h1;simp at h1
    | cons x0 xr=>
      rw [hxs] at h1 h2
      have hu:=zbt (h2 0 _ x0 rfl rfl)
      obtain ⟨r',h4,h5⟩:=ziN (P:=P) (G:=G) (own:=own) (w:=w) (us:=xr.map a.eval) hm (by simpa using h1) (fun j x u e1 e2=>by
       rw [List.getElem?_map] at e2
       cases hj:xr[j]? with
       | none=>rw [hj] at e2;cases e2
       | some y=>rw [hj] at e2;cases e2;exact h2 (j+1) x y (by simpa using e1) (by simpa using hj))
      refine zI hF (by simp [ho]) (u:=r') (w':=w) ?_ (zM (U:=[]) s (Tr.refl _ _) h5 h3)
      have hmap:(xs.map a.eval).toList=a.eval x0 :: xr.map a.eval:=by simp [hxs]
      cases mx<;>simp only [Bool.false_eq_true,if_true,if_false] at h4 ho ⊢
      ·simp only [execOp,ho,resolve,Sem.run_bind]
       simp only [Sem.run_pure,Result.andThen_ok,invoke,builtin,Builtin.min_,hmap,Sem.run_bind,hu,h4]
      ·simp only [execOp,ho,resolve,Sem.run_bind]
       simp only [Sem.run_pure,Result.andThen_ok,invoke,builtin,Builtin.max_,hmap,Sem.run_bind,hu,h4]
   ·cases hm
end
end Go.Ev
namespace Go.Ev
open Go Go.RowKit
variable {P : Program}
section
variable {CE : CEx} {c : Cfg} {G : Sta} {own : Own} {a : Act} {w : World} {T : List Acc} {next : Act → World → Prop}
variable {F : Fence} {n : Nat} {o : Oper} {Q : Exit → Act → World → Prop}
theorem elem_cells {v:AV} {u:Value} {e:FV} (h:RV P G own w v u) (he:v.elem=some e):e.cells.length=u.cells.size∧∀ (j:Nat) y z,e.cells[j]?=some y→u.cells[j]?=some z→RF own w y z:=by
 cases v with
 | agg l=>
   simp only [AV.elem,Option.map_eq_some_iff] at he
   obtain ⟨fs,h1,rfl⟩:=he
   obtain ⟨h2,h3⟩:=zdw h1
   obtain ⟨arr,rfl,h4,h5⟩:=h
   refine ⟨by simp only [FV.cells,Value.cells];omega,fun j y z e1 e2=>?_⟩
   exact (h5 j _ z (h3 j y e1).1 e2).2
 | f x=>
   simp only [AV.elem,AV.leafF] at he
   split at he
   ·rename_i hone
    cases he
    have hu:=za3 (P:=P) (G:=G) (v:=.f _) h rfl
    have e2:u.cells=#[u]:=by cases u<;>first | rfl | simp [Value.oneCell'] at hu
    rw [FV.one_cells hone,e2]
    refine ⟨rfl,fun j y z f1 f2=>?_⟩
    cases j with
    | zero=>simp at f1 f2;subst f1 f2;exact h.2
    | succ j=>simp at f1
   ·cases he
 | _=>simp [AV.elem,AV.leafF] at he
theorem zgM {K:List Up→List Acc→Prop} (s:St P c.nt G own a w):∀ {parts:List (Nat×Operand)} {i:Nat} {U:List Up} {own1:Own} {k:List FV→List Up→RM} {T:List Acc},
 FrzOnly U→St P c.nt (app U G) own1 a w→Kp P G own w (app U G) own1 w→(elemsRM i parts k).wp CE G T K→
 ∃ es W own' T',FrzOnly W∧St P c.nt (app (U++W) G) own' a w∧Kp P (app U G) own1 w (app (U++W) G) own' w∧es.length=parts.length∧
   (∀ (j:Nat) e p,es[j]?=some e→parts[j]?=some p→p.1=i+j∧e.cells.length=(a.eval p.2).cells.size∧∀ (q:Nat) y z,e.cells[q]?=some y→(a.eval p.2).cells[q]?=some z→RF own' w y z)∧(k es W).wp CE G T' K
 | [],i,U,own1,k,T,hU,s1,K1,h=>⟨[],[],own1,T,FrzOnly.nil,by simpa using s1,by simpa using Kp.refl _ _ _,rfl,fun j e p h=>by simp at h,h⟩
 | (j,x) :: r,i,U,own1,k,T,hU,s1,K1,h=>by
   simp only [elemsRM] at h
   split at h
   ·rename_i hij
    obtain ⟨v,T1,h1,h2⟩:=zJ s h
    obtain ⟨v',W,T2,own2,k1,k2,k3,k4,k5,k6⟩:=zgO hU s1 (K1.rv h1) h2
    split at k6
    ·rename_i e he
     obtain ⟨es,W2,own3,T3,g1,g2,g3,g4,g5,g6⟩:=zgM s (hU.app k1) k2 (K1.trans k3) k6
     rw [List.append_assoc] at g2 g3
     obtain ⟨c1,c2⟩:=elem_cells k4 he
     refine ⟨e :: es,W++W2,own3,T3,k1.app g1,g2,k3.trans g3,by simp [g4],fun q e' p f1 f2=>?_,g6⟩
     cases q with
     | zero=>
       simp at f1 f2;subst f1 f2
       exact ⟨by simp [hij],c1,fun q y z p1 p2=>(c2 q y z p1 p2).mono g3.tr⟩
     | succ q=>
       simp at f1 f2
       obtain ⟨p1,p2,p3⟩:=g5 q e' p f1 f2
       exact ⟨by omega,p2,p3⟩
    ·exact k6.elim
   ·exact h.elim
theorem zj6 (sz N:Nat):∀ (vals:List (Nat×Value)) (i0:Nat) (arr:Array Value),arr.size=N * sz→i0+vals.length≤N→(∀ (j:Nat) p,vals[j]?=some p→p.1=i0+j∧p.2.cells.size=sz)→
 ∃ arr',Instr.fill (fun i=>some (i * sz,sz)) arr vals=some arr'∧arr'.size=N * sz∧(∀ m,m < i0 * sz→arr'[m]?=arr[m]?)∧
   ∀ (j:Nat) p q,vals[j]?=some p→q < sz→arr'[(i0+j) * sz+q]?=p.2.cells[q]?
 | [],i0,arr,hs,_,_=>⟨arr,rfl,hs,fun _ _=>rfl,fun j p q h=>by simp at h⟩
 | (i,v) :: r,i0,arr,hs,hle,hv=>by
   obtain ⟨h1,h2⟩:=hv 0 _ rfl
   simp only [Nat.add_zero] at h1 h2
   subst h1
   simp only [List.length_cons] at hle
   obtain ⟨f1,f2⟩:=fill_zip (i * sz) v.cells arr
   have hroom:i * sz+sz≤N * sz:=by
    have:(i+1) * sz≤N * sz:=Nat.mul_le_mul_right _ (by omega)
    rw [Nat.add_mul] at this;omega
   obtain ⟨arr',g1,g2,g3,g4⟩:=zj6 sz N r (i+1) _ (by rw [f1];exact hs) (by omega) (fun j p hj=>by
    obtain ⟨e1,e2⟩:=hv (j+1) p (by simpa using hj)
    exact ⟨by omega,e2⟩)
   refine ⟨arr',?_,g2,fun m hm=>?_,fun j p q hj hq=>?_⟩
   ·simp only [Instr.fill]
    rw [if_neg]
    ·exact g1
    ·simp only [Bool.or_eq_true,bne_iff_ne,decide_eq_true_eq];omega
   ·rw [g3 m (by rw [Nat.add_mul];omega),f2,if_neg (by omega)]
   ·cases j with
    | succ j=>
      rw [show i+(j+1)=i+1+j by omega]
      exact g4 j p q (by simpa using hj) hq
    | zero=>
      simp at hj;subst hj
      rw [Nat.add_zero,g3 _ (by rw [Nat.add_mul];omega),f2,if_pos ⟨by omega,by omega,by omega⟩]
      rw [show i * sz+q - i * sz=q by omega]
theorem zcW {n:Nat} {e:FV} (h:e.fits n=true):e.size=n∧∀ y∈e.cells,y.one=true:=by
 simp only [FV.fits,Bool.and_eq_true,beq_iff_eq,List.all_eq_true] at h
 exact h
theorem zdJ {U:List Up} {own':Own} {w':World} {d:Option Tmp} {E:TypeId} {l:List FV} {cap:Nat} {arr:Array Value} (s:St P c.nt (app U G) own' a w) (ht:Tr own w own' w)
 {n0:Nat} (hn:w.heap.size≤n0) (hsz:n0 < w'.heap.size) (hkeep:∀ k,k < w.heap.size→w'.heap[k]?=w.heap[k]?) (hos:w'.os=w.os) (htp:w'.tape=w.tape) (hout:w'.output=w.output)
 (hw:w'.heap[n0]?=some (.cells arr E (0,0))) (hcap:l.length≤cap) (harr:cap * esz P E≤arr.size) (hs:∀ x∈l,x.size=esz P E)
 (hcells:∀ (i:Nat) x (j:Nat) y,l[i]?=some x→x.cells[j]?=some y→∃ v,arr[i * esz P E+j]?=some v∧RF own' w y v)
 (h:(finNew c d U E l).wp CE G T (Kn P c.nt G own a w next)):next (a.put d (.slice (some ⟨n0,0,none⟩) l.length cap)) w':=by
 cases d with
 | none=>exact h.elim
 | some t=>
   simp only [finNew] at h
   split at h
   ·rename_i hlt
    obtain ⟨s2,t2⟩:=s.set_new (E:=E) (l:=l) (u:=.slice (some ⟨n0,0,none⟩) l.length cap) hlt hn hsz hkeep hos htp hout (fun t2=>
     ⟨_,cap,rfl,hcap,.inr ⟨n0,rfl,by simp [ownSl],arr,hw,harr,hs,fun i x j y e1 e2=>let ⟨v,e3,e4⟩:=hcells i x j y e1 e2;⟨v,e3,e4.mono t2⟩⟩⟩)
    exact h _ _ w' (by rw [zas];exact s2) (ht.trans t2) rfl
   ·exact h.elim
theorem op_buildSlice (hc:CfgOk P c) (hF:∀ f,F.fn f) (s:St P c.nt G own a w) {t:TypeId} {m:Nat} {parts:Array (Nat×Operand)} (ho:o.op=.buildSlice t m parts)
 (h:(buildSliceRM c o.dst t m parts.toList).wp CE G T (Kn P c.nt G own a w next)):o.wpIn F n P a w next Q:=by
 unfold buildSliceRM at h
 split at h
 ·rename_i E sz0 by0 z0 hti
  split at h
  ·rename_i D sz by_ z hE
   obtain ⟨es,W,own2,T2,k1,k2,k3,k4,k5,k6⟩:=zgM (U:=[]) s FrzOnly.nil s (Kp.refl _ _ _) h
   simp only [List.nil_append] at k2 k3
   split at k6
   ·rename_i hcond
    obtain ⟨g1,g2,g3⟩:=hcond
    have hlen:parts.toList.length=m:=by omega
    obtain ⟨zv,z1,_⟩:=(hc E _ hE).run_zero w rfl
    have hszE:(sizeOf E).run P w=.ok sz w:=(hc E _ hE).run_size w
    have hesz:esz P E=sz:=(hc E _ hE).cells
    have hvals:∀ (j:Nat) p,(parts.toList.map fun p=>(p.1,a.eval p.2))[j]?=some p→p.1=0+j∧p.2.cells.size=sz:=by
     intro j p hp
     rw [List.getElem?_map] at hp
     cases hj:parts.toList[j]? with
     | none=>rw [hj] at hp;cases hp
     | some q=>
       rw [hj] at hp;cases hp
       have hlt:=(List.getElem?_eq_some_iff.1 hj).1
       obtain ⟨e,he⟩:∃ e,es[j]?=some e:=⟨es[j]'(by omega),by simp⟩
       obtain ⟨p1,p2,p3⟩:=k5 j e q he hj
       refine ⟨p1,?_⟩
       rw [← p2]
       exact (zcW (List.all_eq_true.1 g3 e (List.mem_of_getElem? he))).1
    have main:∀ (init:Array Value),init.size=m * sz→∃ arr',Instr.fill (fun i=>some (i * sz,sz)) init (parts.toList.map fun p=>(p.1,a.eval p.2))=some arr'∧next (a.put o.dst (.slice (some ⟨w.heap.size,0,none⟩) m m)) (w.alloc (.cells arr' E)):=by
     intro init hi
     obtain ⟨arr',f1,f2,f3,f4⟩:=zj6 sz m _ 0 init hi (by simp at hlen ⊢;omega) hvals
     refine ⟨arr',f1,?_⟩
     have:=zdJ (G:=G) (w':=w.alloc (.cells arr' E)) (cap:=m) (arr:=arr') k2 k3.tr (n0:=w.heap.size) (Nat.le_refl _) (by simp) (fun k hk=>zaH _ _ hk) rfl rfl rfl (zaV _ _) (by omega)
      (by rw [hesz,f2];exact Nat.le_refl _) (fun x hx=>by rw [hesz];exact (zcW (List.all_eq_true.1 g3 x hx)).1) ?_ k6
     ·rw [g1] at this;exact this
     ·intro i x j y e1 e2
      have hil:=(List.getElem?_eq_some_iff.1 e1).1
      have hxs:=(zcW (List.all_eq_true.1 g3 x (List.mem_of_getElem? e1))).1
      have hjl:=(List.getElem?_eq_some_iff.1 e2).1
      simp only [FV.size] at hxs
      obtain ⟨p,hp⟩:∃ p,parts.toList[i]?=some p:=⟨parts.toList[i]'(by omega),by simp⟩
      obtain ⟨p1,p2,p3⟩:=k5 i x p e1 hp
      have:=f4 i (p.1,a.eval p.2) j (by rw [List.getElem?_map,hp];rfl) (by omega)
      obtain ⟨zz,hz⟩:∃ zz,(a.eval p.2).cells[j]?=some zz:=⟨(a.eval p.2).cells[j]'(by omega),by simp⟩
      rw [hesz]
      refine ⟨zz,?_,p3 j y zz e2 hz⟩
      rw [Nat.zero_add] at this;rw [this];exact hz
    have hun:=(hc t _ hti).und
    by_cases h0:m * sz=0
    ·obtain ⟨arr',f1,f2⟩:=main #[] (by simp [h0])
     refine zI hF (by simp [ho]) ?_ f2
     simp only [execOp,ho]
     rw [Sem.run_bind]
     have:(Instr.buildSlice t m (parts.map fun p=>(p.1,a.eval p.2))).run P w=.ok (.slice (some ⟨w.heap.size,0,none⟩) m m) (w.alloc (.cells arr' E)):=by
      have g2':¬ m * sz > 2 ^ 24:=by omega
      have he:∀ g:Nat→Value,(Array.range (m * sz)).map g=#[]:=fun g=>Array.eq_empty_of_size_eq_zero (by simp [h0])
      simp only [Instr.buildSlice,Sem.run_bind,run_underlying hun,Result.andThen_ok,hszE,Sem.run_ite,if_neg g2',if_pos h0,Sem.run_pure,Array.toList_map,he,f1]
      simp [newRow]
     rw [this];rfl
    ·obtain ⟨arr',f1,f2⟩:=main ((Array.range (m * sz)).map (zv.cells[· % zv.cells.size]!)) (by simp)
     refine zI hF (by simp [ho]) ?_ f2
     simp only [execOp,ho]
     rw [Sem.run_bind]
     have:(Instr.buildSlice t m (parts.map fun p=>(p.1,a.eval p.2))).run P w=.ok (.slice (some ⟨w.heap.size,0,none⟩) m m) (w.alloc (.cells arr' E)):=by
      have g2':¬ m * sz > 2 ^ 24:=by omega
      simp only [Instr.buildSlice,Sem.run_bind,run_underlying hun,Result.andThen_ok,hszE,Sem.run_ite,if_neg g2',if_neg h0,z1,Array.toList_map,f1,Sem.run_pure]
      simp [newRow]
     rw [this];rfl
   ·exact k6.elim
  ·exact h.elim
 ·exact h.elim
end
end Go.Ev
namespace Go.Ev
open Go Go.RowKit
variable {P : Program}
section
variable {CE : CEx} {c : Cfg} {G : Sta} {own : Own} {a : Act} {w : World} {T : List Acc} {next : Act → World → Prop}
variable {F : Fence} {n : Nat} {o : Oper} {Q : Exit → Act → World → Prop}
theorem run_load_all {k q N:Nat} (h:∀ p,p < N→∃ v,w.cell? ⟨k,q+p,none⟩=some v) :
 ∃ us:List Value,us.length=N∧(∀ w',(∀ p,w'.cell? p=w.cell? p)→(loadCells ⟨k,q,none⟩ N).run P w'=.ok us.toArray w')∧∀ (p:Nat) v,us[p]?=some v→w.cell? ⟨k,q+p,none⟩=some v:=by
 refine ⟨(List.range N).map fun p=>(w.cell? ⟨k,q+p,none⟩).getD undef,by simp,?_,fun p v hp=>?_⟩
 ·exact fun w' hw'=>run_loadCells w' ⟨k,q,none⟩ N _ (fun j hj=>by
   rw [za0,hw'];obtain ⟨v,hv⟩:=h j hj;rw [hv];rfl)
 ·rw [List.getElem?_map] at hp
  by_cases hlt:p < N
  ·rw [List.getElem?_range hlt] at hp
   cases hp
   obtain ⟨v,hv⟩:=h p hlt;simp [hv]
  ·rw [List.getElem?_eq_none (by simpa using hlt)] at hp;cases hp
theorem divmod {p sz n:Nat} (hsz:0 < sz) (h:p < n * sz):p / sz < n∧p % sz < sz∧p=p / sz * sz+p % sz:=
 ⟨(Nat.div_lt_iff_lt_mul hsz).2 h,Nat.mod_lt _ hsz,(Nat.div_add_mod' p sz).symm⟩
theorem one_oneCell {y:FV} {v:Value} (h:RF own w y v) (hy:y.one=true):v.oneCell'=true:=by
 cases h with
 | pv _ h=>exact h
 | sl=>rfl
 | agg=>simp [FV.one] at hy
theorem src_cells {m:List FV} {u:Value} {sz:Nat} (hsz:0 < sz) (h:RF own w (.sl m) u) (hf:m.all (FV.fits sz)=true) :
 ∃ (us:List Value) (a':Option Addr) (c':Nat),u=.slice a' m.length c'∧us.length=m.length * sz∧(∀ w',(∀ p,w'.cell? p=w.cell? p)→(Builtin.firstCells sz m.length u).run P w'=.ok us.toArray w')∧(∀ v∈us,v.oneCell'=true)∧
   ∀ (i:Nat) x (j:Nat) y,m[i]?=some x→x.cells[j]?=some y→∃ v,us[i * sz+j]?=some v∧RF own w y v:=by
 cases h with
 | sl l a' n c' ad s0 hn hc ha hsz0 hcell hv=>
   subst hn
   by_cases hm:m=[]
   ·subst hm
    refine ⟨[],a',c',rfl,by simp,fun w' _=>?_,by simp,fun i x j y h=>by simp at h⟩
    cases a'<;>simp [Builtin.firstCells,loadCells,loadCellsFrom]
   ·obtain ⟨rfl,h2,h3,h4⟩:=ha hm
    have hs:s0=sz:=by
     obtain ⟨x,hx⟩:=List.exists_mem_of_ne_nil m hm
     rw [← hsz0 x hx];exact (zcW (List.all_eq_true.1 hf x hx)).1
    subst hs
    have hget:∀ p,p < m.length * s0→∃ x y,m[p / s0]?=some x∧x.cells[p % s0]?=some y∧y.one=true:=by
     intro p hp
     obtain ⟨d1,d2,d3⟩:=divmod hsz hp
     have hx:m[p / s0]?=some (m[p / s0]'d1):=by simp [d1]
     have hxs:=zcW (List.all_eq_true.1 hf _ (List.mem_of_getElem? hx))
     have hlt:p % s0 < (m[p / s0]'d1).cells.length:=by have:=hxs.1;simp only [FV.size] at this;omega
     exact ⟨_,_,hx,by simp [hlt],hxs.2 _ (List.getElem_mem hlt)⟩
    obtain ⟨blk,off,sp⟩:=ad
    simp only at h2 h3 h4;subst h2
    obtain ⟨us,u1,u2,u3⟩:=run_load_all (P:=P) (w:=w) (k:=blk) (q:=off) (N:=m.length * s0) (fun p hp=>by
     obtain ⟨x,y,hx,hy,_⟩:=hget p hp
     obtain ⟨v,hv'⟩:=hcell _ x _ y hx hy
     obtain ⟨d1,d2,d3⟩:=divmod hsz hp
     exact ⟨v,by rw [d3];exact hv'⟩)
    refine ⟨us,_,c',rfl,u1,fun w' hw'=>by simpa [Builtin.firstCells] using u2 w' hw',?_,?_⟩
    ·intro v hv'
     obtain ⟨p,hp⟩:=List.mem_iff_getElem?.1 hv'
     have hlt:=(List.getElem?_eq_some_iff.1 hp).1
     obtain ⟨x,y,hx,hy,hone⟩:=hget p (by omega)
     obtain ⟨d1,d2,d3⟩:=divmod hsz (show p < m.length * s0 by omega)
     have hcl:=u3 p v hp
     rw [d3] at hcl
     exact one_oneCell (hv _ x _ y v hx hy hcl) hone
    ·intro i x j y hi hj
     have hjl:j < s0:=by have:=(List.getElem?_eq_some_iff.1 hj).1;have:=hsz0 x (List.mem_of_getElem? hi);simp only [FV.size] at this;omega
     have hil:=(List.getElem?_eq_some_iff.1 hi).1
     have hlt:i * s0+j < us.length:=by
      rw [u1]
      have:(i+1) * s0≤m.length * s0:=Nat.mul_le_mul_right _ hil
      rw [Nat.add_mul] at this;omega
     refine ⟨us[i * s0+j],by simp [hlt],?_⟩
     exact hv i x j y _ hi hj (u3 _ _ (by simp [hlt]))
theorem str_cells (s:ByteArray):(Builtin.firstCells 1 s.size (.string s)).run P w=.ok ((strElems s).map fun y=>match y with | .pv v=>v | _=>undef).toArray w:=by
 simp only [Builtin.firstCells,Sem.run_pure]
 congr 1
 apply Array.ext'
 simp only [Array.toList_map,strElems,List.map_map,ByteArray.toList_eq]
 have:(s.extract 0 s.size)=s:=by
  apply ByteArray.ext
  rw [ByteArray.data_extract]
  exact Array.extract_size
 rw [this]
 rfl
theorem zeI {E T1 T2:TypeId} {D2:TypeDesc} (hun1:P.underlying T1=some (.slice E)) (hun2:P.underlying T2=some D2) (hsrc:isSrcD D2=true) {sz len m cap:Nat} {base:Option Addr} {v:Value} {us:List Value} {ty:TypeId}
 (hszE:(sizeOf E).run P w=.ok sz w) (hl1:(Builtin.lenOf v).run P w=.ok m w) (hf1:(Builtin.firstCells sz m v).run P w=.ok us.toArray w) (hroom:len+m≤cap) :
 (Builtin.append_ #[T1,T2] ty #[.slice base len cap,v]).run P w=(match base with | some a=>((storeCells (a.add (len * sz)) us).run P w).andThen fun _ w=>.ok (.slice base (len+m) cap) w | none=>.ok (.slice base (len+m) cap) w):=by
 cases D2<;>simp [isSrcD] at hsrc
 all_goals cases base<;>simp [Builtin.append_,run_underlying hun1,run_underlying hun2,hszE,hl1,hf1,hroom]
theorem ziB {E T1 T2:TypeId} {D2:TypeDesc} (hun1:P.underlying T1=some (.slice E)) (hun2:P.underlying T2=some D2) (hsrc:isSrcD D2=true) {sz by_ len m cap:Nat} {base:Option Addr} {v zv:Value} {us os:List Value} {ty:TypeId} {f:TypeInfo}
 (hszE:(sizeOf E).run P w=.ok sz w) (hl1:(Builtin.lenOf v).run P w=.ok m w) (hin:∀ w,(typeInfo E).run P w=.ok f w) (hby:f.bytes=by_) (hb0:0 < by_) (hroom:¬ len+m≤cap) (hcap:len≤cap) (hfit:(len+m) * by_≤2 ^ 47)
 (hf1:∀ w',(∀ p,w'.cell? p=w.cell? p)→(Builtin.firstCells sz m v).run P w'=.ok us.toArray w') (hf0:∀ w',(∀ p,w'.cell? p=w.cell? p)→(Builtin.firstCells sz len (.slice base len cap)).run P w'=.ok os.toArray w') (hz:∀ w',(zeroValue E).run P w'=.ok zv w') :
 ∃ cap' rest,len+m≤cap'∧rest.size=(cap' - (len+m)) * zv.cells.size∧(Builtin.append_ #[T1,T2] ty #[.slice base len cap,v]).run P w=.ok (.slice (some ⟨w.heap.size,0,none⟩) (len+m) cap') (w.drew.alloc (.cells (os.toArray++us.toArray++rest) E)):=by
 subst hby
 refine ⟨(Question.appendCap (len+m) cap E).cut (w.tape w.drawn (.appendCap (len+m) cap E)),Builtin.zeroCells zv.cells ((Question.appendCap (len+m) cap E).cut (w.tape w.drawn (.appendCap (len+m) cap E)) - (len+m)),?_,?_,?_⟩
 ·simp only [Question.cut];omega
 ·simp [Builtin.zeroCells]
 ·have hn:¬ Builtin.nextslicecap (len+m) cap * f.bytes > 2 ^ 48:=by
   have h1:=nextslicecap_le (need:=len+m) (old:=cap) (by omega)
   have h2:Builtin.nextslicecap (len+m) cap * f.bytes≤2 * (len+m) * f.bytes:=Nat.mul_le_mul_right _ h1
   have h3:2 * (len+m) * f.bytes=2 * ((len+m) * f.bytes):=Nat.mul_assoc _ _ _
   omega
  have hb:¬ f.bytes=0:=by omega
  have hd:∀ p,w.drew.cell? p=w.cell? p:=fun p=>rfl
  have k1:=hf1 w.drew hd
  have k2:=hf0 w.drew hd
  have k3:=hz w.drew
  cases D2<;>simp [isSrcD] at hsrc
  all_goals
   have hn':¬ 2 ^ 48 < Builtin.nextslicecap (len+m) cap * f.bytes:=hn
   simp only [Builtin.append_,List.getElem?_toArray,List.getElem?_cons_zero,List.getElem?_cons_succ,Sem.run_bind,run_underlying hun1,run_underlying hun2,Result.andThen_ok,hszE,Sem.run_pure,hl1,Bool.false_eq_true,if_false,Sem.run_ite,if_neg hroom,hin,hb,false_or,or_false,and_false,if_neg hn,run_choose,Question.forced,World.drew_eq,run_askRoom,Bool.not_false,if_true]
   simp only [Result.andThen_ok,hin,k1,k2,k3,newRow,Sem.run_bind,run_newObj,Sem.run_pure,World.alloc_eq,World.size_drew]
theorem append_core (hc:CfgOk P c) {E T1 T2:TypeId} {i i1 i2:TI} (hE:c.ti E=some i) (h1:c.ti T1=some i1) (hd1:i1.desc=.slice E) (h2:c.ti T2=some i2) (hsrc:isSrcD i2.desc=true) {z:AV} (hz:i.zero=some z) (hby:0 < i.bytes) (hsz:0 < i.size) (hzl:z.leaves.length=i.size)
 {G2:Sta} {own1:Own} (s:St P c.nt G2 own1 a w) {b q:Nat} {l m:List FV} {u v:Value} (hdead:Dead G2 b q) (hu:OwnL P own1 w b q E l u) {us:List Value}
 (hl1:(Builtin.lenOf v).run P w=.ok m.length w) (hf1:∀ w',(∀ p,w'.cell? p=w.cell? p)→(Builtin.firstCells i.size m.length v).run P w'=.ok us.toArray w') (hus:us.length=m.length * i.size) (hone:∀ v∈us,v.oneCell'=true) (hms:∀ x∈m,x.size=i.size)
 (hcells:∀ (i':Nat) x (j:Nat) y,m[i']?=some x→x.cells[j]?=some y→∃ v,us[i' * i.size+j]?=some v∧RF own1 w y v) (hfit:(l.length+m.length) * i.bytes≤2 ^ 47) {t:Nat} (hlt:t < c.nt) (ty:TypeId) :
 ∃ r w' own',(Builtin.append_ #[T1,T2] ty #[u,v]).run P w=.ok r w'∧St P c.nt ((Up.set (tb t) (.own E (l++m))).app G2) own' (a.put (some t) r) w'∧Tr own1 w own' w':=by
 have hun1:P.underlying T1=some (.slice E):=by rw [← hd1];exact (hc T1 _ h1).und
 have hun2:=(hc T2 _ h2).und
 have hszE:(sizeOf E).run P w=.ok i.size w:=(hc E _ hE).run_size w
 have hesz:esz P E=i.size:=(hc E _ hE).cells
 obtain ⟨a',cap,rfl,hcap,hB⟩:=hu
 by_cases hroom:l.length+m.length≤cap
 ·-- there is room
  rcases hB with ⟨rfl,rfl,rfl⟩ | ⟨k,rfl,hB⟩
  ·have hm:m=[]:=by simpa using hroom
   subst hm
   have:us=[]:=List.length_eq_zero_iff.1 (by simpa using hus)
   subst this
   refine ⟨.slice none 0 0,w,own1,?_,?_,Tr.refl _ _⟩
   ·rw [zeI hun1 hun2 hsrc hszE hl1 (hf1 w (fun _=>rfl)) (by simp)];rfl
   ·exact s.set_pure hlt ⟨none,0,rfl,Nat.le_refl _,.inl ⟨rfl,rfl,rfl⟩⟩
  ·obtain ⟨hk,arr,e2,e3,e4,e5⟩:=hB
   have hin:l.length * i.size+us.length≤arr.size:=by
    rw [hus,← Nat.add_mul]
    refine Nat.le_trans (Nat.mul_le_mul_right _ hroom) ?_
    rw [← hesz];exact e3
   have hst:=run_storeCells_at (P:=P) k (l.length * i.size) E us 0 arr w e2 (by simpa using hin) hone
   rw [Nat.add_zero] at hst
   obtain ⟨arr2,harr2⟩:∃ arr2,arr2=(arr.toList.take (l.length * i.size)++us++arr.toList.drop (l.length * i.size+us.length)).toArray:=⟨_,rfl⟩
   rw [← harr2] at hst
   have hget:∀ p,arr2[p]?=if p < l.length * i.size then arr[p]? else if p < l.length * i.size+us.length then us[p - l.length * i.size]? else arr[p]?:=by
    intro p
    rw [harr2]
    simp only [List.getElem?_toArray,List.getElem?_append,List.length_append,List.length_take,Array.length_toList]
    have hmin:min (l.length * i.size) arr.size=l.length * i.size:=by omega
    rw [hmin]
    by_cases h1:p < l.length * i.size
    ·rw [if_pos (by omega),if_pos h1,if_pos h1,List.getElem?_take,if_pos h1];simp
    ·rw [if_neg h1]
     by_cases h2:p < l.length * i.size+us.length
     ·rw [if_pos h2,if_neg h1,if_pos h2]
     ·rw [if_neg h2,if_neg h2,List.getElem?_drop,show l.length * i.size+us.length+(p - (l.length * i.size+us.length))=p by omega];simp
   have hsize:arr2.size=arr.size:=by
    rw [harr2];simp;omega
   have hw2:=setRow_heap w k arr arr2 E (0,0) e2
   have hother:∀ j,j≠k→(w.setRow k arr2).heap[j]?=w.heap[j]?:=by
    intro j hj
    simp only [World.setRow,Array.getElem?_modify]
    rw [if_neg (fun e=>hj e.symm)]
   have hsz2:(w.setRow k arr2).heap.size=w.heap.size:=by simp [World.setRow]
   have ht:Tr own1 w (relab own1 b q (tb t) 0) (w.setRow k arr2):=by
    refine ⟨by rw [hsz2];exact Nat.le_refl _,fun j hj hn=>⟨by simp [relab,hn],hother j ?_⟩,rfl,rfl,rfl,fun j x hn=>⟨by simp [relab,hn],hother j ?_⟩,fun j x _ hn=>by simp [relab,hn]⟩
    all_goals (intro e;subst e;rw [hk] at hn;cases hn)
   refine ⟨.slice (some ⟨k,0,none⟩) (l.length+m.length) cap,w.setRow k arr2,relab own1 b q (tb t) 0,?_,?_,ht⟩
   ·have hadd:(Addr.add ⟨k,0,none⟩ (l.length * i.size))=⟨k,l.length * i.size,none⟩:=by rw [za0,Nat.zero_add]
    rw [zeI hun1 hun2 hsrc hszE hl1 (hf1 w (fun _=>rfl)) hroom]
    simp only [hadd,hst,Result.andThen_ok]
   ·refine s.set hlt ht (fun j b' hj=>⟨(zdP _ _ _ _ _ _ _).1 hj,hother j ?_⟩) ?_ ?_ (ziF s.one) (fun j x hj=>by rw [hsz2];exact relab_lt s.lt j x hj)
    ·intro e;subst e;rw [hk] at hj;cases hj
    ·intro b' o' E' l' k' c' hb' hl' hB'
     have n1:¬ (b'=b∧o'=q):=by rintro ⟨rfl,rfl⟩;exact hdead _ _ hl'
     have n2:¬ (b'=tb t∧o'=0):=fun e=>hb' e.1
     refine hB'.mono ht (by simp only [relab,hB'.1,Option.some.injEq,Owner.sl.injEq,if_neg n1,if_neg n2]) (hother k' ?_)
     intro e;subst e
     have:=hB'.1;rw [hk] at this;injection this with this;injection this with p1 p2;exact n1 ⟨p1.symm,p2.symm⟩
    ·refine ⟨some ⟨k,0,none⟩,cap,by simp,by simpa using hroom,.inr ⟨k,rfl,by simp [relab,hk],arr2,hw2,by rw [hsize];exact e3,?_,?_⟩⟩
     ·intro x hx
      rcases List.mem_append.1 hx with hx | hx
      ·exact e4 x hx
      ·rw [hesz];exact hms x hx
     ·intro i' x j y g1 g2
      rw [hget]
      by_cases hi:i' < l.length
      ·rw [List.getElem?_append_left hi] at g1
       have hjl:j < esz P E:=by have:=(List.getElem?_eq_some_iff.1 g2).1;have:=e4 x (List.mem_of_getElem? g1);simp only [FV.size] at this;omega
       have hlt':i' * esz P E+j < l.length * i.size:=by
        rw [← hesz]
        have:(i'+1) * esz P E≤l.length * esz P E:=Nat.mul_le_mul_right _ hi
        rw [Nat.add_mul] at this;omega
       rw [if_pos hlt']
       obtain ⟨v',p1,p2⟩:=e5 i' x j y g1 g2
       exact ⟨v',p1,p2.mono ht⟩
      ·rw [List.getElem?_append_right (by omega)] at g1
       obtain ⟨v',p1,p2⟩:=hcells _ x j y g1 g2
       have hp:=(List.getElem?_eq_some_iff.1 p1).1
       have hidx:i' * esz P E+j=l.length * i.size+((i' - l.length) * i.size+j):=by
        rw [hesz,← Nat.add_assoc,← Nat.add_mul,show l.length+(i' - l.length)=i' by omega]
       rw [hidx,if_neg (by omega),if_pos (by omega),show l.length * i.size+((i' - l.length) * i.size+j) - l.length * i.size=(i' - l.length) * i.size+j by omega]
       exact ⟨v',p1,p2.mono ht⟩
 ·-- it grows
  obtain ⟨zv,hz1,hz2⟩:∃ zv,(∀ w',(zeroValue E).run P w'=.ok zv w')∧zeroFits z zv:=by
   obtain ⟨f,g1,g2,g3,g4⟩:=(hc E _ hE).info
   obtain ⟨zv,g5,g6⟩:=g4 z hz
   exact ⟨zv,fun w'=>by simp [zeroValue,typeInfo,g1,g5],g6⟩
  obtain ⟨f,hin,hfb⟩:∃ f,(∀ w',(typeInfo E).run P w'=.ok f w')∧f.bytes=i.bytes:=by
   obtain ⟨f,g1,g2,g3,g4⟩:=(hc E _ hE).info
   exact ⟨f,fun w'=>by simp [typeInfo,g1],g3⟩
  have hzs:zv.cells.size=i.size:=by
   rw [← hzl];exact (zd5 (P:=P) (G:=G2) (own:=own1) (w:=w) (b:=0) hz2).1.symm
  have old:∃ os:List Value,os.length=l.length * i.size∧(∀ w',(∀ p,w'.cell? p=w.cell? p)→(Builtin.firstCells i.size l.length (.slice a' l.length cap)).run P w'=.ok os.toArray w')∧
   (∀ x∈l,x.size=i.size)∧∀ (i':Nat) x (j:Nat) y,l[i']?=some x→x.cells[j]?=some y→∃ v,os[i' * i.size+j]?=some v∧RF own1 w y v:=by
   rcases hB with ⟨rfl,rfl,rfl⟩ | ⟨k,rfl,hk,arr,e2,e3,e4,e5⟩
   ·exact ⟨[],by simp,fun w' _=>by simp [Builtin.firstCells],by simp,fun i' x j y h=>by simp at h⟩
   ·have hlen:l.length * i.size≤arr.size:=by
     refine Nat.le_trans (Nat.mul_le_mul_right _ hcap) ?_
     rw [← hesz];exact e3
    have hcl:∀ p,p < l.length * i.size→w.cell? ⟨k,0+p,none⟩=some (arr.getD p undef):=by
     intro p hp;simp [World.cell?,e2,show p < arr.size by omega]
    refine ⟨(List.range (l.length * i.size)).map fun p=>arr.getD p undef,by simp,fun w' hw'=>?_,fun x hx=>by rw [← hesz];exact e4 x hx,fun i' x j y g1 g2=>?_⟩
    ·simp only [Builtin.firstCells]
     exact run_loadCells w' ⟨k,0,none⟩ _ _ (fun j hj=>by rw [za0,hw'];exact hcl j hj)
    ·obtain ⟨v',p1,p2⟩:=e5 i' x j y g1 g2
     have hil:=(List.getElem?_eq_some_iff.1 g1).1
     have hjl:j < i.size:=by have:=(List.getElem?_eq_some_iff.1 g2).1;have:=e4 x (List.mem_of_getElem? g1);rw [hesz] at this;simp only [FV.size] at this;omega
     have hlt':i' * i.size+j < l.length * i.size:=by
      have:(i'+1) * i.size≤l.length * i.size:=Nat.mul_le_mul_right _ hil
      rw [Nat.add_mul] at this;omega
     rw [hesz] at p1
     refine ⟨v',?_,p2⟩
     rw [List.getElem?_map,List.getElem?_range hlt']
     simp [p1]
  obtain ⟨os,o1,o2,o3,o4⟩:=old
  obtain ⟨cap',rest,r1,r2,r3⟩:=ziB (P:=P) (w:=w) (E:=E) (base:=a') (zv:=zv) (ty:=ty) hun1 hun2 hsrc hszE hl1 hin hfb hby hroom hcap hfit hf1 o2 hz1
  have hsize:(os.toArray++us.toArray++rest).size=cap' * i.size:=by
   simp only [Array.size_append,List.size_toArray,o1,hus,r2,hzs]
   rw [← Nat.add_mul,← Nat.add_mul];congr 1;omega
  obtain ⟨s2,t2⟩:=s.set_new (t:=t) (E:=E) (l:=l++m) (u:=.slice (some ⟨w.heap.size,0,none⟩) (l.length+m.length) cap') (w':=w.drew.alloc (.cells (os.toArray++us.toArray++rest) E)) (n:=w.heap.size) hlt (Nat.le_refl _) (by simp) (fun k hk=>zaH w.drew _ hk) rfl rfl rfl
   (fun t2=>⟨some ⟨w.heap.size,0,none⟩,cap',by simp,by simpa using r1,.inr ⟨w.heap.size,rfl,by simp [ownSl],_,zaV w.drew _,by rw [hesz,hsize];exact Nat.le_refl _,(fun x hx=>by
     rw [hesz]
     rcases List.mem_append.1 hx with hx | hx
     ·exact o3 x hx
     ·exact hms x hx),(fun i' x j y g1 g2=>by
     rw [hesz]
     by_cases hi:i' < l.length
     ·rw [List.getElem?_append_left hi] at g1
      obtain ⟨v',p1,p2⟩:=o4 i' x j y g1 g2
      have hp:=(List.getElem?_eq_some_iff.1 p1).1
      exact ⟨v',by rw [Array.getElem?_append_left (by simp;omega),Array.getElem?_append_left (by simpa using hp)];simpa using p1,p2.mono t2⟩
     ·rw [List.getElem?_append_right (by omega)] at g1
      obtain ⟨v',p1,p2⟩:=hcells _ x j y g1 g2
      have hp:=(List.getElem?_eq_some_iff.1 p1).1
      have hidx:i' * i.size+j=os.length+((i' - l.length) * i.size+j):=by
       rw [o1,← Nat.add_assoc,← Nat.add_mul,show l.length+(i' - l.length)=i' by omega]
      refine ⟨v',?_,p2.mono t2⟩
      rw [Array.getElem?_append_left (by simp;omega),Array.getElem?_append_right (by simp;omega)]
      simp only [List.size_toArray,List.getElem?_toArray]
      rw [hidx,Nat.add_sub_cancel_left];exact p1)⟩⟩)
  exact ⟨_,_,_,r3,s2,t2⟩
end
end Go.Ev
namespace Go.Ev
open Go Go.RowKit
variable {P : Program}
section
variable {CE : CEx} {c : Cfg} {G : Sta} {own : Own} {a : Act} {w : World} {T : List Acc} {next : Act → World → Prop}
variable {F : Fence} {n : Nat} {o : Oper} {Q : Exit → Act → World → Prop}
theorem cp1_leaf {v:AV} {k:AV→List Up→RM} {K:List Up→List Acc→Prop} (h:(cp1 v k).wp CE G T K):v.isLeaf=true:=by
 cases v<;>first | rfl | exact h.elim
theorem frzs_ne {b q:Nat}:∀ {W:List Up},FrzOnly W→W.all (frzNe b q)=true→∀ {own:Own},(∀ E l u,OwnL P own w b q E l u→OwnL P (frzsOwn W own) w b q E l u)
 | [],_,_,own=>fun _ _ _ h=>h
 | x :: W,hW,hall,own=>by
   obtain ⟨d,p,rfl⟩:=hW x (List.mem_cons_self ..)
   simp only [List.all_cons,Bool.and_eq_true,frzNe,Bool.not_eq_true',Bool.and_eq_false_iff,beq_eq_false_iff_ne] at hall
   have ih:=frzs_ne (W:=W) (fun y hy=>hW y (List.mem_cons_of_mem _ hy)) hall.2 (own:=ownFrz own d p)
   intro E l u h
   refine ih E l u ?_
   obtain ⟨a',c',e1,e2,e3⟩:=h
   refine ⟨a',c',e1,e2,e3.imp id ?_⟩
   rintro ⟨k,e4,e5⟩
   refine ⟨k,e4,e5.mono' (frz_tr _ _ _ _) ?_⟩
   simp only [ownFrz,e5.1,Option.some.injEq,Owner.sl.injEq]
   rw [if_neg]
   rintro ⟨rfl,rfl⟩
   rcases hall.1 with h | h<;>exact h rfl
theorem lookz_ne {G:Sta} {d p b q:Nat} (h:¬(b=d∧q=p)):look ((Up.frz d p).app G) b (some q)=look G b (some q):=by
 simp only [look,Up.app,zaj]
 by_cases e:b=d
 ·subst e
  have hq:q≠p:=fun e=>h ⟨rfl,e⟩
  rw [if_pos rfl]
  cases get G b with
  | none=>rfl
  | some v=>
    simp only [Option.map_some,Option.bind_some]
    cases v with
    | agg l=>
      simp only [mapLeaf,AV.leaves,List.getElem?_modify]
      cases l[q]? with
      | none=>rfl
      | some x=>simp [Ne.symm hq]
    | _=>
      simp only [mapLeaf]
      split
      ·rename_i h0
       have:q≠0:=fun e=>hq (by omega)
       obtain ⟨q',rfl⟩:∃ q',q=q'+1:=⟨q - 1,by omega⟩
       simp [Ev.frz,AV.leaves]
      ·rfl
 ·rw [if_neg e]
theorem lookz_all {b q:Nat}:∀ {W:List Up} {G:Sta},FrzOnly W→W.all (frzNe b q)=true→look (app W G) b (some q)=look G b (some q)
 | [],_,_,_=>rfl
 | x :: W,G,hW,hall=>by
   obtain ⟨d,p,rfl⟩:=hW x (List.mem_cons_self ..)
   simp only [List.all_cons,Bool.and_eq_true,frzNe,Bool.not_eq_true',Bool.and_eq_false_iff,beq_eq_false_iff_ne] at hall
   show look (app W ((Up.frz d p).app G)) b (some q)=_
   rw [lookz_all (fun y hy=>hW y (List.mem_cons_of_mem _ hy)) hall.2,lookz_ne]
   rintro ⟨rfl,rfl⟩
   rcases hall.1 with h | h<;>exact h rfl
theorem fresh_key (G:Sta):∃ b,get G b=none:=by
 have:∀ G:Sta,∃ N,∀ b,N≤b→get G b=none:=by
  intro G
  induction G with
  | nil=>exact ⟨0,fun _ _=>rfl⟩
  | cons x G ih=>
    obtain ⟨k,v⟩:=x
    obtain ⟨N,hN⟩:=ih
    refine ⟨max N (k+1),fun b hb=>?_⟩
    simp only [get]
    rw [if_neg (by omega)]
    exact hN b (by omega)
 obtain ⟨N,hN⟩:=this G
 exact ⟨N,hN N (Nat.le_refl _)⟩
theorem zhr (hc:CfgOk P c) {E T1 T2:TypeId} {i i1 i2:TI} (hE:c.ti E=some i) (h1:c.ti T1=some i1) (hd1:i1.desc=.slice E) (h2:c.ti T2=some i2) (hsrc:isSrcD i2.desc=true) {z:AV} (hz:i.zero=some z) (hby:0 < i.bytes) (hsz:0 < i.size) (hzl:z.leaves.length=i.size)
 (s:St P c.nt G own a w) {d:Option Tmp} {ys:AV} {l:List FV} {bo:Option (Nat×Nat)} {u v:Value} (hu:bo.elim (l=[]∧u=.slice none 0 0) fun x=>OwnL P own w x.1 x.2 E l u) (hlk:∀ b q,bo=some (b,q)→look G b (some q)=some (.own E l)) (hv:RV P G own w ys v) (ty:TypeId)
 (h:(apGo c d E i ys l bo).wp CE G T (Kn P c.nt G own a w next)):∃ r w',(Builtin.append_ #[T1,T2] ty #[u,v]).run P w=.ok r w'∧next (a.put d r) w':=by
 have hl:=cp1_leaf h
 obtain ⟨y,W,T2',own2,k1,k2,k3,k4,k5,k6,rfl⟩:=zdx (U:=[]) FrzOnly.nil s (zic hv hl) h
 simp only [List.nil_append] at k2 k3 k4
 split at k6
 ·rename_i hall
  obtain ⟨b,q,G2,s2,hd,hown,happ⟩:∃ b q G2,St P c.nt G2 (frzsOwn W own) a w∧Dead G2 b q∧OwnL P (frzsOwn W own) w b q E l u∧(∀ x,app ((W++boUps l.length bo)++[x]) G=x.app G2):=by
   cases bo with
   | none=>
     obtain ⟨rfl,rfl⟩:=hu
     obtain ⟨b,hb⟩:=fresh_key (app W G)
     exact ⟨b,0,app W G,k2,fun E' l' hl'=>by simp [look,hb] at hl',⟨none,0,rfl,Nat.le_refl _,.inl ⟨rfl,rfl,rfl⟩⟩,fun x=>by simp [zas,app,boUps]⟩
   | some bq=>
     obtain ⟨b,q⟩:=bq
     have hlk':look (app W G) b (some q)=some (.own E l):=(lookz_all k1 hall).trans (hlk b q rfl)
     obtain ⟨s2,_⟩:=k2.lnd hlk'
     exact ⟨b,q,_,s2,dead_ln _ b q l.length,frzs_ne k1 hall _ _ _ hu,fun x=>by simp [zas,app,boUps]⟩
  have fin:∀ {m:List FV} {us:List Value},(finNew c d (W++boUps l.length bo) E (l++m)).wp CE G T2' (Kn P c.nt G own a w next)→(Builtin.lenOf v).run P w=.ok m.length w→(∀ w',(∀ p,w'.cell? p=w.cell? p)→(Builtin.firstCells i.size m.length v).run P w'=.ok us.toArray w')→
   us.length=m.length * i.size→(∀ v∈us,v.oneCell'=true)→(∀ x∈m,x.size=i.size)→(∀ (i':Nat) x (j:Nat) y,m[i']?=some x→x.cells[j]?=some y→∃ v,us[i' * i.size+j]?=some v∧RF (frzsOwn W own) w y v)→(l.length+m.length) * i.bytes≤2 ^ 47→
   ∃ r w',(Builtin.append_ #[T1,T2] ty #[u,v]).run P w=.ok r w'∧next (a.put d r) w':=by
   intro m us hfin q1 q2 q3 q4 q5 q6 q7
   cases d with
   | none=>exact hfin.elim
   | some t=>
     simp only [finNew] at hfin
     split at hfin
     ·rename_i hlt
      obtain ⟨r,w',own',r1,r2,r3⟩:=append_core hc hE h1 hd1 h2 hsrc hz hby hsz hzl s2 hd hown q1 q2 q3 q4 q5 q6 q7 hlt ty
      exact ⟨r,w',r1,hfin own' _ w' (by rw [happ];exact r2) (k3.tr.trans r3) rfl⟩
     ·exact hfin.elim
  split at k6
  ·rename_i m
   split at k6
   ·rename_i hcond
    obtain ⟨c1,c2⟩:=hcond
    have hrf:=k4.2
    obtain ⟨us,a',c',rfl,g1,g2,g3,g4⟩:=src_cells (P:=P) hsz hrf c2
    exact fin k6 rfl g2 g1 g3 (fun x hx=>(zcW (List.all_eq_true.1 c2 x hx)).1) g4 c1
   ·exact k6.elim
  ·rename_i str
   split at k6
   ·rename_i hcond
    obtain ⟨c1,c2⟩:=hcond
    have hrf:v=.string str:=zbt (P:=P) (G:=app W G) k4
    subst hrf
    have hlen:(strElems str).length=str.size:=by simp [strElems,ByteArray.toList_eq]
    refine fin k6 (us:=(strElems str).map fun y=>match y with | .pv v=>v | _=>undef) (by rw [hlen];rfl) (fun w' _=>by rw [c2,hlen];exact str_cells str) (by simp [c2]) ?_ ?_ ?_ (by rw [hlen];exact c1)
    ·intro v hv
     simp only [strElems,List.map_map,List.mem_map] at hv
     obtain ⟨b,_,rfl⟩:=hv;rfl
    ·intro x hx
     simp only [strElems,List.mem_map] at hx
     obtain ⟨b,_,rfl⟩:=hx;rw [c2];rfl
    ·intro i' x j yy g1 g2
     simp only [strElems,List.getElem?_map] at g1
     cases hb:str.toList[i']? with
     | none=>rw [hb] at g1;cases g1
     | some b=>
       rw [hb] at g1;cases g1
       cases j with
       | succ j=>simp [FV.cells] at g2
       | zero=>
         simp [FV.cells] at g2;subst g2
         exact ⟨_,by rw [c2,Nat.mul_one,Nat.add_zero,List.getElem?_map,strElems,List.getElem?_map,hb];rfl,RF.pv _ rfl⟩
   ·exact k6.elim
  ·exact k6.elim
 ·exact k6.elim
theorem op_append (hc:CfgOk P c) (hF:∀ f,F.fn f) (s:St P c.nt G own a w) {x y:Operand} {t t2:TypeId} (ho:o.op=.call { callee:=.builtin .append,args:=#[x,y],argTypes:=#[t,t2] })
 (h:(rdO y fun v=>appendRM c o.dst t t2 x v).wp CE G T (Kn P c.nt G own a w next)):o.wpIn F n P a w next Q:=by
 obtain ⟨v,T1,h1,h2⟩:=zJ s h
 have fin:(∃ r w',(Builtin.append_ #[t,t2] o.type #[a.eval x,a.eval y]).run P w=.ok r w'∧next (a.put o.dst r) w')→o.wpIn F n P a w next Q:=by
  rintro ⟨r,w',r1,r2⟩
  refine zI hF (by simp [ho]) (u:=r) (w':=w') ?_ r2
  simp only [execOp,ho,resolve,Sem.run_bind]
  simp [invoke,builtin,r1]
 unfold appendRM at h2
 split at h2
 ·rename_i E sz0 by0 z0 i2 hti hti2
  split at h2
  ·rename_i i hE
   split at h2
   ·rename_i z hz
    split at h2
    ·rename_i hcond
     obtain ⟨hsrc,hby,hsz,hzl⟩:=hcond
     unfold apBase at h2
     split at h2
     ·exact fin (zhr hc hE hti rfl hti2 hsrc hz hby hsz hzl s (bo:=none) ⟨rfl,rfl⟩ (fun _ _ e=>by cases e) h1 o.type h2)
     ·rename_i tt
      obtain ⟨yy,T2,h3,h4⟩:=zaM h2
      have hr:=s.temp h3
      split at h4
      ·rename_i b q j m
       obtain ⟨yy,T3,h5,h6⟩:=zaM h4
       split at h6
       ·rename_i E' l
        split at h6
        ·rename_i hcond
         obtain ⟨rfl,rfl,rfl⟩:=hcond
         have hown:=(zeE h5 hr).2
         rw [List.take_length] at hown
         exact fin (zhr hc hE hti rfl hti2 hsrc hz hby hsz hzl s (bo:=some (b,q)) hown (fun _ _ e=>by cases e;exact h5) h1 o.type h6)
        ·exact h6.elim
       ·exact h6.elim
      ·rename_i E' l
       split at h4
       ·rename_i hEE;subst hEE
        exact fin (zhr hc hE hti rfl hti2 hsrc hz hby hsz hzl s (bo:=some (tb tt,0)) hr (fun _ _ e=>by cases e;exact za6 h3 rfl) h1 o.type h4)
       ·exact h4.elim
      ·exact h4.elim
     ·exact h2.elim
    ·exact h2.elim
   ·exact h2.elim
  ·exact h2.elim
 ·exact h2.elim
theorem zfb {m:Int} (h0:0≤m) (h:m < 2 ^ 40):IntKind.i64.wrap m=m:=by
 have h1:m % 2 ^ 64=m:=Int.emod_eq_of_lt h0 (by omega)
 simp [IntKind.wrap,IntKind.bits,IntKind.signed] at h1 ⊢
 omega
theorem elem_rv {z:AV} {zv:Value} {e:FV} (P:Program) (G:Sta) (hz:zeroFits z zv) (he:z.elem=some e):e.cells.length=zv.cells.size∧∀ (j:Nat) y u,e.cells[j]?=some y→zv.cells[j]?=some u→RF own w y u:=by
 have hrb:=zd5 (P:=P) (G:=G) (own:=own) (w:=w) (b:=0) hz
 have key:e.cells.length=z.leaves.length∧∀ (j:Nat) y,e.cells[j]?=some y→z.leaves[j]?=some (.f y):=by
  cases z with
  | agg l=>
    simp only [AV.elem,Option.map_eq_some_iff] at he
    obtain ⟨fs,h1,rfl⟩:=he
    obtain ⟨h2,h3⟩:=zdw h1
    exact ⟨h2,fun j y hy=>(h3 j y hy).1⟩
  | f x=>
    simp only [AV.elem,AV.leafF] at he
    split at he
    ·rename_i hone
     cases he
     rw [FV.one_cells hone]
     refine ⟨rfl,fun j y hy=>?_⟩
     cases j with
     | zero=>simp at hy;subst hy;rfl
     | succ j=>simp at hy
    ·cases he
  | _=>simp [AV.elem,AV.leafF] at he
 refine ⟨by rw [key.1];exact hrb.1,fun j y u h1 h2=>?_⟩
 exact (hrb.2 j _ u (key.2 j y h1) h2).2
theorem op_makeSlice (hc:CfgOk P c) (hF:∀ f,F.fn f) (s:St P c.nt G own a w) {t:TypeId} {x y:Operand} (ho:o.op=.makeSlice t x y)
 (h:(rdO x fun p=>rdO y fun q=>makeSliceRM c o.dst t p q).wp CE G T (Kn P c.nt G own a w next)):o.wpIn F n P a w next Q:=by
 obtain ⟨v,T1,h1,h2⟩:=zJ s h
 obtain ⟨v',T2,h3,h4⟩:=zJ s h2
 unfold makeSliceRM at h4
 split at h4
 ·rename_i k1 l k2 m E sz0 by0 z0 hti
  have hx:=zbt h1
  have hy:=zbt h3
  split at h4
  ·rename_i D sz by_ z hE
   split at h4
   ·rename_i e he
    split at h4
    ·rename_i hcond
     obtain ⟨g1,g2,g3,g4,g5,g6⟩:=hcond
     obtain ⟨zv,z1,z2⟩:=(hc E _ hE).run_zero w rfl
     have hszE:(sizeOf E).run P w=.ok sz w:=(hc E _ hE).run_size w
     have hesz:esz P E=sz:=(hc E _ hE).cells
     obtain ⟨f,hin,_,hfb⟩:=(hc E _ hE).run_info w
     have hfb:f.bytes=by_:=hfb
     obtain ⟨fs1,fs2⟩:=zcW g6
     obtain ⟨q1,q2⟩:=elem_rv (own:=own) (w:=w) P G z2 he
     have hzs:zv.cells.size=sz:=by rw [← q1];exact fs1
     have hm0:0≤m:=Int.le_trans g1 g2
     have hun:=(hc t _ hti).und
     obtain ⟨arr,harr⟩:∃ arr:Array Value,arr=if m.toNat * sz=0 then #[] else (Array.range (m.toNat * sz)).map (zv.cells[· % zv.cells.size]!):=⟨_,rfl⟩
     have hasz:arr.size=m.toNat * sz:=by rw [harr];split<;>simp_all
     have hget:∀ p,p < m.toNat * sz→arr[p]?=zv.cells[p % sz]?:=by
      intro p hp
      rw [harr,if_neg (by omega)]
      have hlt:p % sz < zv.cells.size:=by rw [hzs];exact Nat.mod_lt _ g5
      simp only [Array.getElem?_map,Array.getElem?_range,if_pos hp,Option.map_some,hzs]
      rw [getElem!_pos zv.cells _ hlt,Array.getElem?_eq_getElem hlt]
     have hrep:(List.replicate l.toNat e).length=l.toNat:=by simp
     have:=zdJ (G:=G) (own':=own) (U:=[]) (w':=w.alloc (.cells arr E)) (cap:=m.toNat) (arr:=arr) s (Tr.refl _ _) (n0:=w.heap.size) (Nat.le_refl _) (by simp) (fun k hk=>zaH _ _ hk) rfl rfl rfl (zaV _ _)
      (by rw [hrep];omega) (by rw [hesz,hasz];exact Nat.le_refl _) (fun x hx=>by rw [hesz,List.eq_of_mem_replicate hx];exact fs1) (fun i x j yy e1 e2=>by
        have hx:=List.eq_of_mem_replicate (List.mem_of_getElem? e1);subst hx
        have hi:=(List.getElem?_eq_some_iff.1 e1).1
        rw [hrep] at hi
        have hj:j < sz:=by have:=(List.getElem?_eq_some_iff.1 e2).1;simp only [FV.size] at fs1;omega
        have hlt:i * sz+j < m.toNat * sz:=by
         have:(i+1) * sz≤m.toNat * sz:=Nat.mul_le_mul_right _ (by omega)
         rw [Nat.add_mul] at this;omega
        obtain ⟨zz,hzz⟩:∃ zz,zv.cells[j]?=some zz:=⟨zv.cells[j]'(by omega),by simp⟩
        refine ⟨zz,?_,q2 j yy zz e2 hzz⟩
        rw [hesz,hget _ hlt,show (i * sz+j) % sz=j by rw [Nat.add_comm,Nat.add_mul_mod_self_right,Nat.mod_eq_of_lt hj]];exact hzz) h4
     rw [hrep] at this
     refine zI hF (by simp [ho]) ?_ this
     have w1:=zfb g1 (by omega)
     have w2:=zfb hm0 g3
     simp only [execOp,ho]
     rw [Sem.run_bind]
     have hrun:(Instr.makeSlice t (a.eval x) (a.eval y)).run P w=.ok (.slice (some ⟨w.heap.size,0,none⟩) l.toNat m.toNat) (w.alloc (.cells arr E)):=by
      have n1:¬ m < 0:=by omega
      have n2:¬ ((f.bytes:Int) * m > 2 ^ 48):=by rw [hfb];omega
      have n3:¬ l < 0:=by omega
      have n4:¬ l > m:=by omega
      by_cases h0:m.toNat * sz=0
      ·rw [if_pos h0] at harr;subst harr
       have he:∀ g:Nat→Value,(Array.range (m.toNat * sz)).map g=#[]:=fun g=>Array.eq_empty_of_size_eq_zero (by simp [h0])
       simp only [Instr.makeSlice,hx,hy,Sem.run_bind,run_underlying hun,Result.andThen_ok,asInt,asIntOf,Sem.run_pure,hin,w1,w2,n1,n2,n3,n4,decide_false,Bool.or_false,Bool.false_eq_true,if_false,run_askRoom,hszE,Sem.run_ite,if_pos h0,he]
       simp [newRow]
      ·rw [if_neg h0] at harr;subst harr
       simp only [Instr.makeSlice,hx,hy,Sem.run_bind,run_underlying hun,Result.andThen_ok,asInt,asIntOf,Sem.run_pure,hin,w1,w2,n1,n2,n3,n4,decide_false,Bool.or_false,Bool.false_eq_true,if_false,run_askRoom,hszE,Sem.run_ite,if_neg h0,z1]
       simp [newRow]
     rw [hrun];rfl
    ·exact h4.elim
   ·exact h4.elim
  ·exact h4.elim
 ·exact h4.elim
end
end Go.Ev
namespace Go.Ev
open Go Go.RowKit
variable {P : Program}
theorem rf_take {own:Own} {w:World} {es:List FV} {a:Option Addr} {n c h:Nat} (hr:RF own w (.sl es) (.slice a n c)) (hh:h≤es.length):RF own w (.sl (es.take h)) (.slice a h c):=by
 cases hr with
 | sl _ _ _ _ ad sz hn hc ha hsz hcell hv=>
   have hg:∀ (i:Nat) x,(es.take h)[i]?=some x→es[i]?=some x:=by
    intro i x hx
    rw [List.getElem?_take] at hx
    split at hx
    ·exact hx
    ·cases hx
   refine .sl _ a h c ad sz (by simp;omega) (by omega) (fun hne=>ha ?_) (fun x hx=>hsz x (List.mem_of_mem_take hx)) (fun i x j y h1 h2=>hcell i x j y (hg i x h1) h2) (fun i x j y v h1 h2 h3=>hv i x j y v (hg i x h1) h2 h3)
   intro e;subst e;simp at hne
theorem rf_drop {own:Own} {w:World} {es:List FV} {a:Option Addr} {n c lo hi size:Nat} (hr:RF own w (.sl es) (.slice a n c)) (hlo:lo≤hi) (hhi:hi≤es.length) (hs:∀ x∈es,x.size=size) :
 RF own w (.sl ((es.drop lo).take (hi - lo))) (.slice (if c=lo then a else a.map (·.add (lo * size))) (hi - lo) (c - lo)):=by
 by_cases hlt:lo=hi
 ·subst hlt
  simp only [Nat.sub_self,List.take_zero]
  exact RF.nil
 have hr':=hr
 cases hr with
 | sl _ _ _ _ ad sz hn hc ha hsz hcell hv=>
   have hne:es≠[]:=by intro e;subst e;simp at hhi;omega
   obtain ⟨h1,h2,h3,h4⟩:=ha hne
   have hszs:sz=size:=by
    cases es with
    | nil=>exact absurd rfl hne
    | cons x r=>rw [← hsz x (List.mem_cons_self ..),hs x (List.mem_cons_self ..)]
   subst hszs
   have hg:∀ (i:Nat) x,((es.drop lo).take (hi - lo))[i]?=some x→es[lo+i]?=some x:=by
    intro i x hx
    rw [List.getElem?_take] at hx
    split at hx
    ·rw [List.getElem?_drop] at hx;exact hx
    ·cases hx
   rw [if_neg (by omega),h1]
   refine .sl _ _ _ _ ⟨ad.block,ad.off+lo * sz,none⟩ sz (by simp;omega) (by omega) (fun _=>⟨?_,rfl,h3,h4⟩) (fun x hx=>hsz x (List.mem_of_mem_drop (List.mem_of_mem_take hx))) ?_ ?_
   ·simp only [Option.map_some,Option.some.injEq]
    have:ad=⟨ad.block,ad.off,none⟩:=by cases ad;simp at h2;subst h2;rfl
    rw [this,za0]
   ·intro i x j y e1 e2
    have:=hcell (lo+i) x j y (hg i x e1) e2
    rwa [Nat.add_mul,Nat.add_assoc,← Nat.add_assoc,← Nat.add_assoc,Nat.add_assoc (ad.off+lo * sz)] at this
   ·intro i x j y v e1 e2 e3
    refine hv (lo+i) x j y v (hg i x e1) e2 ?_
    rw [Nat.add_mul,Nat.add_assoc,← Nat.add_assoc,← Nat.add_assoc,Nat.add_assoc (ad.off+lo * sz)];exact e3
section
variable {CE : CEx} {c : Cfg} {G : Sta} {own : Own} {a : Act} {w : World} {T : List Acc} {next : Act → World → Prop}
variable {F : Fence} {n : Nat} {o : Oper} {Q : Exit → Act → World → Prop}
def bndAV (x:Option AV) (dflt:Nat):Option Nat:=match x with
    | none=>some dflt
    | some (.f (.pv (.int _ n)))=>if 0≤n then some n.toNat else none
    | _=>none
def RVo (P:Program) (G:Sta) (own:Own) (w:World):Option AV→Option Value→Prop
 | none,none=>True
 | some x,some v=>RV P G own w x v
 | _,_=>False
theorem zhq {x:Option AV} {v:Option Value} {d l:Nat} (hx:RVo P G own w x v) (h:bndAV x d=some l):(v=none∧l=d)∨∃ k,v=some (.int k l):=by
 cases x with
 | none=>cases v<;>simp_all [RVo,bndAV]
 | some x=>
   cases v with
   | none=>exact hx.elim
   | some v=>
     simp only [bndAV] at h
     split at h
     ·cases ‹some _=none›
     ·rename_i heq
      cases heq
      have:=zbt (P:=P) (G:=G) hx
      split at h
      ·rename_i k m hm
       cases h
       right;exact ⟨k,by rw [this,Int.toNat_of_nonneg hm]⟩
      ·cases h
     ·cases h
theorem zhe {isSlice:Bool} {len cap l h:Nat} {low high:Option Value} (hl:(low=none∧l=0)∨∃ k,low=some (.int k l)) (hh:(high=none∧h=len)∨∃ k,high=some (.int k h))
 (h1:l≤h) (h2:h≤cap):(Instr.sliceBounds isSlice len cap low high none).run P w=.ok (l,h,cap) w:=by
 have b1:∀ (k:IntKind) (x y:Nat) (cd:BoundsCode),x≤y→(Instr.sliceBound (.int k x) y cd).run P w=.ok x w:=by
  intro k x y cd hxy
  have:(0:Int)≤x∧(x:Int)≤y:=⟨by omega,by omega⟩
  simp [Instr.sliceBound,asIntOf,this]
 unfold Instr.sliceBounds
 rcases hl with ⟨rfl,rfl⟩ | ⟨k,rfl⟩<;>rcases hh with ⟨rfl,rfl⟩ | ⟨k',rfl⟩<;>simp [Sem.run_bind,b1,h1,h2]
theorem zff {L H:Option Operand} {t:TypeId} {x:Operand} (hc:CfgOk P c) (hF:∀ f,F.fn f) (s:St P c.nt G own a w) (ho:o.op=.slice t x L H none) {v:AV} {lo hi:Option AV}
 (hx:RV P G own w v (a.eval x)) (hlo:RVo P G own w lo (L.map a.eval)) (hhi:RVo P G own w hi (H.map a.eval))
 (h:(sliceRM c o.dst t v lo hi).wp CE G T (Kn P c.nt G own a w next)):o.wpIn F n P a w next Q:=by
 have hexec:∀ {r},(∀ k,P.underlying t≠some (.array k r))→True:=fun _=>trivial
 have run:∀ {D r},P.underlying t=some D→(∀ k E,D≠.array k E)→(Instr.slice t (a.eval x) (L.map a.eval) (H.map a.eval) none).run P w=.ok r w→(execOp a.eval o).run P w=.ok (.value r) w:=by
  intro D r hun hD hr
  simp only [execOp,ho,Option.map_none,Sem.run_bind,Instr.sliceAt,run_underlying hun,Result.andThen_ok]
  cases D<;>first | exact absurd rfl (hD _ _) | simp [hr]
 unfold sliceRM at h
 dsimp only at h
 split at h
 ·rename_i str _ _ _ hti
  have hu:=zbt (P:=P) (G:=G) hx
  have hun:=(hc t _ hti).und
  split at h
  ·rename_i l hh e1 e2
   have g1:=zhq (d:=0) (l:=l) hlo e1
   have g2:=zhq (d:=str.size) (l:=hh) hhi e2
   split at h
   ·rename_i hcond
    refine zI hF (by simp [ho]) (u:=.string (str.extract l hh)) (w':=w) ?_ (zM (U:=[]) s (Tr.refl _ _) (zaz rfl) h)
    refine run hun (by simp) ?_
    simp only [Instr.slice,hu,Sem.run_bind,run_underlying hun,Result.andThen_ok]
    simp [zhe (isSlice:=false) g1 g2 hcond.1 hcond.2]
   ·exact h.elim
  ·exact h.elim
 ·rename_i es E _ _ _ hti
  have hun:=(hc t _ hti).und
  split at h
  ·rename_i l hh i e1 e2 hE
   have g1:=zhq (d:=0) (l:=l) hlo e1
   have g2:=zhq (d:=es.length) (l:=hh) hhi e2
   split at h
   ·rename_i hcond
    obtain ⟨c1,c2,c3⟩:=hcond
    have hr:RF own w (.sl es) (a.eval x):=hx.2
    have hs:∀ y∈es,y.size=i.size:=fun y hy=>(zcW (List.all_eq_true.1 c3 y hy)).1
    generalize a.eval x=u at hr run
    obtain ⟨aa,nn,cc,rfl,hnn,hcc⟩:∃ aa nn cc,u=.slice aa nn cc∧nn=es.length∧nn≤cc:=by
     cases hr with
     | sl _ aa nn cc ad sz hn hc=>exact ⟨aa,nn,cc,rfl,hn,hc⟩
    have hd:=rf_drop (lo:=l) (hi:=hh) (size:=i.size) hr c1 c2 hs
    refine zI hF (by simp [ho]) (w':=w) ?_ (zM (U:=[]) s (Tr.refl _ _) (v:=.f (.sl ((es.drop l).take (hh - l)))) ⟨rfl,hd⟩ h)
    refine run hun (by simp) ?_
    simp only [Instr.slice,Sem.run_bind,run_underlying hun,Result.andThen_ok]
    subst hnn
    simp [zhe (isSlice:=true) g1 g2 c1 (Nat.le_trans c2 hcc),(hc E _ hE).run_size w]
   ·exact h.elim
  ·exact h.elim
 ·rename_i b q j m E _ _ _ hti
  have hun:=(hc t _ hti).und
  split at h
  ·rename_i l hh i e1 e2 hE
   have g1:=zhq (d:=0) (l:=l) hlo e1
   have g2:=zhq (d:=m) (l:=hh) hhi e2
   split at h
   ·rename_i hcond
    split at h
    ·rename_i hl0
     subst hl0
     have hv:SlV P G own w b q j m (a.eval x):=hx
     generalize a.eval x=u at hv run
     obtain ⟨y,T1,h1,h2⟩:=zaM h
     have key:∃ aa cc,u=.slice aa m cc∧m≤cc∧R0 P G own w (.rf b q j hh) (.slice aa hh cc):=by
      show ∃ aa cc,u=.slice aa m cc∧m≤cc∧SlV P G own w b q j hh (.slice aa hh cc)
      unfold SlV at hv ⊢
      rw [h1] at hv ⊢
      cases y with
      | own E' l'=>
        obtain ⟨e3,aa,cc,rfl,e5,e6⟩:=hv
        exact ⟨aa,cc,rfl,e5,by omega,aa,cc,rfl,by omega,e6⟩
      | f y=>
        cases y with
        | sl l'=>
          obtain ⟨e3,e4⟩:=hv
          have e4':=e4
          cases e4 with
          | sl _ aa nn cc ad sz hn hc'=>
            have hn':nn=m:=by simp at hn;omega
            subst hn'
            refine ⟨aa,cc,rfl,hc',by omega,?_⟩
            have:=rf_take (h:=hh) e4' (by simp;omega)
            rwa [List.take_take,Nat.min_eq_left hcond.2] at this
        | _=>simp [sliceOf] at h2;exact h2.elim
      | _=>simp [sliceOf] at h2;exact h2.elim
     have h3:∃ T1,(fin c o.dst [] (.rf b q j hh)).wp CE G T1 (Kn P c.nt G own a w next):=by
      split at h2
      ·exact ⟨_,h2⟩
      ·exact h2.elim
     obtain ⟨T2,h3⟩:=h3
     obtain ⟨aa,cc,rfl,hcc,hr⟩:=key
     refine zI hF (by simp [ho]) (w':=w) ?_ (zM (U:=[]) s (Tr.refl _ _) (v:=.rf b q j hh) hr h3)
     refine run hun (by simp) ?_
     simp only [Instr.slice,Sem.run_bind,run_underlying hun,Result.andThen_ok]
     have hadd:∀ z:Addr,z.add 0=z:=fun z=>by cases z with | mk k o s=>cases s<;>simp [Addr.add]
     have ham:Option.map (fun z:Addr=>z.add 0) aa=aa:=by cases aa<;>simp [hadd]
     simp [zhe (isSlice:=true) g1 g2 hcond.1 (Nat.le_trans hcond.2 hcc),(hc E _ hE).run_size w,ham]
    ·exact h.elim
   ·exact h.elim
  ·exact h.elim
 ·exact h.elim
theorem op_slice (hc:CfgOk P c) (hF:∀ f,F.fn f) (s:St P c.nt G own a w) {t:TypeId} {x:Operand} {L H:Option Operand} (ho:o.op=.slice t x L H none)
 (h:(sliceOpRM c o.dst t x L H).wp CE G T (Kn P c.nt G own a w next)):o.wpIn F n P a w next Q:=by
 obtain ⟨v,T1,h1,h2⟩:=zJ s h
 cases L with
 | none=>cases H with
   | none=>exact zff hc hF s ho h1 (lo:=none) (hi:=none) trivial trivial h2
   | some y=>
     obtain ⟨v2,T2,h3,h4⟩:=zJ s h2
     exact zff hc hF s ho h1 (lo:=none) (hi:=some v2) trivial h3 h4
 | some x=>cases H with
   | none=>
     obtain ⟨v2,T2,h3,h4⟩:=zJ s h2
     exact zff hc hF s ho h1 (lo:=some v2) (hi:=none) h3 trivial h4
   | some y=>
     obtain ⟨v2,T2,h3,h4⟩:=zJ s h2
     obtain ⟨v3,T3,h5,h6⟩:=zJ s h4
     exact zff hc hF s ho h1 (lo:=some v2) (hi:=some v3) h3 h5 h6
end
end Go.Ev
namespace Go.Ev
open Go Go.RowKit
variable {P : Program}
def killS (S:Nat→Bool):AV→AV
 | .rf c p i n=>if S c=true then .bad else .rf c p i n
 | .ep c p i n=>if S c=true then .bad else .ep c p i n
 | v=>v
theorem zgz (S:Nat→Bool):Kl (killS S):=by
 refine ⟨rfl,fun v=>?_,fun _=>rfl,fun _=>rfl,fun v=>?_⟩
 ·cases v with
  | rf c p i n=>simp only [killS];split;exact .inr rfl;exact .inl rfl
  | ep c p i n=>simp only [killS];split;exact .inr rfl;exact .inl rfl
  | _=>exact .inl rfl
 ·cases v with
  | rf c p i n=>simp only [Ev.frz,killS];split<;>rfl
  | ep c p i n=>simp only [Ev.frz,killS];split<;>rfl
  | _=>rfl
theorem map2_comp {f g:AV→AV} (hf:Kl f) (hg:Kl g) (v:AV):AV.map2 f (AV.map2 g v)=AV.map2 (fun v=>f (g v)) v:=by
 have h1:∀ v:AV,AV.map1 f (AV.map1 g v)=AV.map1 (fun v=>f (g v)) v:=by
  intro v
  cases v with
  | agg l=>simp [AV.map1]
  | tup l=>simp only [AV.map1,hg.tup,hf.tup]
  | _=>
    simp only [AV.map1]
    rcases hg.or _ with e | e<;>rw [e]<;>rfl
 cases v with
 | agg l=>simp [AV.map2]
 | tup l=>simp only [AV.map2,List.map_map,AV.tup.injEq];exact List.map_congr_left (fun v _=>h1 v)
 | _=>
   simp only [AV.map2]
   rcases hg.or _ with e | e<;>rw [e]<;>rfl
theorem killr_eq (b:Nat):killr b none=killS (fun c=>c == b):=by
 funext v
 cases v<;>simp [killr,killS]
theorem killS_comp (S S':Nat→Bool) (v:AV):killS S (killS S' v)=killS (fun c=>S c || S' c) v:=by
 cases v with
 | rf c p i n=>simp only [killS];by_cases h:S' c=true<;>by_cases h2:S c=true<;>simp [h,h2,killS]
 | ep c p i n=>simp only [killS];by_cases h:S' c=true<;>by_cases h2:S c=true<;>simp [h,h2,killS]
 | _=>rfl
theorem zjY (S S':Nat→Bool) (v:AV):AV.map2 (killS S) (AV.map2 (killS S') v)=AV.map2 (killS (fun c=>S c || S' c)) v:=by
 rw [map2_comp (zgz _) (zgz _)]
 congr 1;funext v;exact killS_comp S S' v
theorem ziO (v:AV):AV.map2 (killS (fun _=>false)) v=v:=by
 have:killS (fun _=>false)=fun v=>v:=by funext v;cases v<;>rfl
 rw [this];exact zc3 v
theorem zik (f:Nat→Nat):∀ (bs:List Nat) (vs:List AV) (G:Sta) (c:Nat),bs.length=vs.length→c∉bs→get (app (putsOf f bs vs) G) c=(get G c).map (AV.map2 (killS (fun x=>bs.contains x)))
 | [],[],G,c,_,_=>by
   simp only [putsOf,app,List.contains_nil]
   cases get G c<;>simp [ziO]
 | b :: bs,v :: vs,G,c,hl,hc=>by
   simp only [putsOf,app]
   rw [zik f bs vs _ c (by simpa using hl) (fun h=>hc (List.mem_cons_of_mem _ h))]
   have hcb:c≠b:=fun e=>hc (by rw [e];exact List.mem_cons_self ..)
   simp only [Up.app,zaj,if_neg hcb,zab,Option.map_map]
   congr 1;funext x
   simp only [Function.comp,killr_eq,zjY]
   congr 2;funext y;simp only [List.contains_cons,Bool.or_comm]
 | [],_ :: _,_,_,h,_=>by simp at h
 | _ :: _,[],_,_,h,_=>by simp at h
theorem zi2 (f:Nat→Nat):∀ (bs:List Nat) (vs:List AV) (G:Sta) (i b:Nat) (v:AV),bs.length=vs.length→bs.Nodup→bs[i]?=some b→vs[i]?=some v→
 (∀ v∈vs,∀ S,AV.map2 (killS S) (ren1 f v)=ren1 f v)→(∃ x,get G b=some x∧(ren1 f v).leaves.length=x.leaves.length)→get (app (putsOf f bs vs) G) b=some (ren1 f v)
 | [],_,_,_,_,_,_,_,h,_,_,_=>by simp at h
 | _ :: _,[],_,_,_,_,h,_,_,_,_,_=>by simp at h
 | c :: bs,y :: vs,G,i,b,v,hl,hn,hb,hv,hk,hx=>by
   obtain ⟨x,hx1,hx2⟩:=hx
   rw [List.nodup_cons] at hn
   simp only [putsOf,app]
   cases i with
   | zero=>
     simp at hb hv;subst hb hv
     rw [zik f bs vs _ c (by simpa using hl) hn.1]
     simp only [Up.app,zaj,if_true,zab,hx1,Option.map_some]
     have:(AV.map2 (killr c none) x).leaves.length=x.leaves.length:=zid (zbG c none) x
     rw [putV,if_pos (by rw [this];exact hx2),hk _ (List.mem_cons_self ..)]
   | succ i=>
     simp at hb hv
     refine zi2 f bs vs _ i b v (by simpa using hl) hn.2 hb hv (fun v hv=>hk v (List.mem_cons_of_mem _ hv)) ?_
     have hcb:b≠c:=fun e=>hn.1 (by rw [← e];exact List.mem_of_getElem? hb)
     refine ⟨AV.map2 (killr c none) x,by simp only [Up.app,zaj,if_neg hcb,zab,hx1,Option.map_some],?_⟩
     rw [zid (zbG c none) x];exact hx2
def dIs (d:Option Tmp) (c:Nat):Bool:=
 match d with
 | some t=>c == tb t
 | none=>false
def outS (bs:List Nat) (d:Option Tmp) (c:Nat):Bool:=bs.contains c || dIs d c
theorem get_out (f:Nat→Nat) {bs:List Nat} {vs:List AV} {d:Option Tmp} {r:AV} {G:Sta} {c:Nat} (hl:bs.length=vs.length) (hc:outS bs d c=false) :
 get (app (putsOf f bs vs++setD d r) G) c=(get G c).map (AV.map2 (killS (outS bs d))):=by
 simp only [outS,Bool.or_eq_false_iff] at hc
 have hcb:c∉bs:=by intro h;have:=hc.1;simp at this;exact this h
 rw [zas]
 cases d with
 | none=>
   simp only [setD,app]
   rw [zik f bs vs G c hl hcb]
   congr 2;unfold outS;simp [dIs]
 | some t=>
   have hct:c≠tb t:=by have:=hc.2;simpa [dIs] using this
   simp only [setD,app,Up.app,zaK,if_neg hct,zab]
   rw [zik f bs vs G c hl hcb,Option.map_map]
   congr 1;funext x
   simp only [Function.comp,killr_eq,zjY]
   congr 2;funext y;simp only [outS,dIs,Bool.or_comm]
theorem zi4 (f:Nat→Nat) {bs:List Nat} {vs:List AV} {d:Option Tmp} {r:AV} {G:Sta} {i b:Nat} {v:AV} (hl:bs.length=vs.length) (hn:bs.Nodup) (hb:bs[i]?=some b) (hv:vs[i]?=some v)
 (hb3:b % 3≠1) (hk:∀ v∈vs,∀ S,AV.map2 (killS S) (ren1 f v)=ren1 f v) (hx:∃ x,get G b=some x∧(ren1 f v).leaves.length=x.leaves.length) :
 get (app (putsOf f bs vs++setD d r) G) b=some (ren1 f v):=by
 rw [zas]
 have h1:=zi2 f bs vs G i b v hl hn hb hv hk hx
 cases d with
 | none=>exact h1
 | some t=>
   have hct:b≠tb t:=by intro e;rw [e] at hb3;simp [tb] at hb3
   simp only [setD,app,Up.app,zaK,if_neg hct,zab,h1,Option.map_some,killr_eq]
   rw [hk v (List.mem_of_getElem? hv)]
theorem look_of_get {G G':Sta} {φ:AV→AV} (k:Kl φ) {b:Nat} (h:get G' b=(get G b).map (AV.map2 φ)) (o:Option Nat):look G' b o=(look G b o).map (AV.map2 φ):=by
 have:=ziQ k G b o
 rw [← this]
 have e:get G' b=get (mapv (AV.map2 φ) G) b:=by rw [h,zab]
 cases o<;>simp only [look,e]
theorem ob_back (i:Nat):ob i / 3 - 1=i:=by simp only [ob];omega
theorem zig {n i:Nat} (h:i < n):isOut n (ob i)=true:=by
 have h1:ob i % 3=0:=by simp only [ob];omega
 have h2:ob i≠0:=by simp only [ob];omega
 have h3:ob i / 3≤n:=by simp only [ob];omega
 simp [isOut,h1,h2,h3]
theorem isOut_spec {n b:Nat} (h:isOut n b=true):∃ i,i < n∧b=ob i:=by
 simp only [isOut,Bool.and_eq_true,beq_iff_eq,bne_iff_ne,decide_eq_true_eq] at h
 exact ⟨b / 3 - 1,by omega,by simp only [ob];omega⟩
theorem back_ob {bs:List Nat} {i b:Nat} (h:bs[i]?=some b):back bs (ob i)=b:=by
 simp only [back,ob_back,List.getD_eq_getElem?_getD,h,Option.getD_some]
theorem zi0 {bs:List Nat} (hn:bs.Nodup):∀ {i b:Nat},bs[i]?=some b→bs.idxOf b=i:=by
 induction bs with
 | nil=>intro i b h;simp at h
 | cons c bs ih=>
   intro i b h
   rw [List.nodup_cons] at hn
   cases i with
   | zero=>simp at h;subst h;simp
   | succ i=>
     simp at h
     have hcb:c≠b:=fun e=>hn.1 (by rw [e];exact List.mem_of_getElem? h)
     rw [List.idxOf_cons,show (c == b)=false by simpa using hcb];simp [ih hn.2 h]
theorem zdO {bs:List Nat} (hn:bs.Nodup) {i b:Nat} (h:bs[i]?=some b):toOut bs b=ob i:=by rw [toOut,zi0 hn h]
def toOwn (bs:List Nat) (o:Owner):Owner:=
 match o with
 | .box b=>if bs.contains b=true then .box (toOut bs b) else .al o
 | .sl b p=>if bs.contains b=true then .sl (toOut bs b) p else .al o
 | .al _=>.al o
def ownC (bs:List Nat) (own:Own):Own:=fun k=>(own k).map (toOwn bs)
def fromOwn (bs:List Nat) (d:Option Tmp) (o:Owner):Option Owner:=
 match o with
 | .box b=>if isOut bs.length b=true then some (.box (back bs b)) else none
 | .sl b p=>if isOut bs.length b=true then some (.sl (back bs b) p) else if b=0 then d.map (fun t=>.sl (tb t) p) else none
 | .al _=>none
def hid (bs:List Nat) (o:Owner):Bool:=
 match o with
 | .box b=>!bs.contains b
 | .sl b _=>!bs.contains b
 | .al _=>true
def lost (d:Option Tmp) (o:Owner):Bool:=
 match o with
 | .sl b _=>dIs d b
 | _=>false
def ownR (bs:List Nat) (d:Option Tmp) (own own':Own):Own:=fun k=>
 match own k with
 | some o=>if hid bs o=true then (if lost d o=true then none else some o) else (own' k).bind (fromOwn bs d)
 | none=>(own' k).bind (fromOwn bs d)
theorem toOwn_hid {bs:List Nat} {o:Owner} (h:hid bs o=true):toOwn bs o=.al o:=by
 cases o with
 | box b=>simp only [hid,Bool.not_eq_true'] at h;simp only [toOwn];rw [if_neg (by rw [h];simp)]
 | sl b p=>simp only [hid,Bool.not_eq_true'] at h;simp only [toOwn];rw [if_neg (by rw [h];simp)]
 | al x=>rfl
theorem ownR_hid {bs:List Nat} {d:Option Tmp} {own own':Own} {k:Nat} {o:Owner} (h:own k=some o) (hh:hid bs o=true):ownR bs d own own' k=if lost d o=true then none else some o:=by
 simp only [ownR,h,if_pos hh]
theorem zgt {bs:List Nat} {d:Option Tmp} {own own':Own} {k:Nat} (h:∀ o,own k=some o→hid bs o=false):ownR bs d own own' k=(own' k).bind (fromOwn bs d):=by
 simp only [ownR]
 cases e:own k with
 | none=>rfl
 | some o=>simp only;rw [if_neg (by rw [h o e];simp)]
end Go.Ev
namespace Go.Ev
open Go Go.RowKit
variable {P : Program}
theorem RF.mono0 {own own':Own} {w:World} (hn:∀ k,own k=none→own' k=none) {x:FV} {v:Value} (h:RF own w x v):RF own' w x v:=by
 induction h with
 | pv v h=>exact .pv v h
 | agg l arr hl _ ih=>exact .agg l arr hl ih
 | sl l a n c ad sz hn' hc ha hsz hcell _ ih=>exact .sl l a n c ad sz hn' hc (fun hne=>let ⟨h1,h2,h3,h4⟩:=ha hne;⟨h1,h2,hn _ h3,h4⟩) hsz hcell ih
section ren
variable {G G' : Sta} {own own' : Own} {w : World} {f : Nat → Nat} {p : Nat → Bool}
theorem zjr (hn:∀ k,own k=none→own' k=none) (hb:∀ k b,p b=true→own k=some (.box b)→own' k=some (.box (f b))) (hmf:∀ b,p b=true→isM b=false→isM (f b)=false) {v:AV} {u:Value} (h:RC own w v u) (hv:capIn p v=true):RC own' w (renC f v) u:=by
 cases v with
 | bad=>trivial
 | f x=>exact ⟨h.1,h.2.mono0 hn⟩
 | ptr b o=>
   simp only [capIn,Bool.and_eq_true,Bool.not_eq_true'] at hv
   obtain ⟨k,h1,h2⟩:=RC.ptr (w:=w) h hv.2
   exact ⟨k,hb k b hv.1 h1,by rw [hmf b hv.1 hv.2];exact h2⟩
 | fp x o=>
   obtain ⟨k,q,h1,h2,h3,h4⟩:=h
   exact ⟨k,q,h1,hn _ h2,h3,fun j y hy=>let ⟨z,e1,e2⟩:=h4 j y hy;⟨z,e1,e2.mono0 hn⟩⟩
 | _=>simp [capIn] at hv
theorem zhG (hn:∀ k,own k=none→own' k=none) (hb:∀ k b,p b=true→own k=some (.box b)→own' k=some (.box (f b))) (hmf:∀ b,p b=true→isM b=false→isM (f b)=false) {v:AV} {u:Value} (h:R0 P G own w v u) (hv:shut0 false p v=true):R0 P G' own' w (ren0 f v) u:=by
 cases v with
 | clo g caps=>
   obtain ⟨arr,h1,h2,h3⟩:=h
   refine ⟨arr,h1,by simpa using h2,fun j x y e1 e2=>?_⟩
   simp only [List.getElem?_map] at e1
   cases hj:caps[j]? with
   | none=>rw [hj] at e1;cases e1
   | some z=>
     rw [hj] at e1;cases e1
     exact zjr hn hb hmf (h3 j z y hj e2) (List.all_eq_true.1 hv z (List.mem_of_getElem? hj))
 | bad=>exact zjr (w:=w) (u:=u) hn hb hmf (v:=.bad) h hv
 | f x=>exact zjr (w:=w) (u:=u) hn hb hmf (v:=.f x) h hv
 | ptr b o=>exact zjr (w:=w) (u:=u) hn hb hmf (v:=.ptr b o) h hv
 | fp x o=>exact zjr (w:=w) (u:=u) hn hb hmf (v:=.fp x o) h hv
 | _=>simp [shut0,capIn] at hv
theorem ren_ro (hn:∀ k,own k=none→own' k=none) (hb:∀ k b,p b=true→own k=some (.box b)→own' k=some (.box (f b))) (hmf:∀ b,p b=true→isM b=false→isM (f b)=false) {b b' j:Nat} (hs:∀ k j,own k=some (.sl b j)→own' k=some (.sl b' j)) {v:AV} {u:Value}
 (h:RO P G own w b j v u) (hv:shut0 true p v=true):RO P G' own' w b' j (ren0 f v) u:=by
 cases v with
 | own E l=>
   obtain ⟨a,c,h1,h2,h3⟩:=h
   refine ⟨a,c,h1,h2,h3.imp id ?_⟩
   rintro ⟨k,e1,e2,arr,e3,e4,e5,e6⟩
   exact ⟨k,e1,hs _ _ e2,arr,e3,e4,e5,fun i x j y h1 h2=>let ⟨z,q1,q2⟩:=e6 i x j y h1 h2;⟨z,q1,q2.mono0 hn⟩⟩
 | clo g caps=>exact zhG (P:=P) (G:=G) (G':=G') (w:=w) (u:=u) hn hb hmf (v:=.clo g caps) h hv
 | bad=>exact zhG (P:=P) (G:=G) (G':=G') (w:=w) (u:=u) hn hb hmf (v:=.bad) h hv
 | f x=>exact zhG (P:=P) (G:=G) (G':=G') (w:=w) (u:=u) hn hb hmf (v:=.f x) h hv
 | ptr b o=>exact zhG (P:=P) (G:=G) (G':=G') (w:=w) (u:=u) hn hb hmf (v:=.ptr b o) h hv
 | fp x o=>exact zhG (P:=P) (G:=G) (G':=G') (w:=w) (u:=u) hn hb hmf (v:=.fp x o) h hv
 | _=>simp [shut0,capIn] at hv
theorem zjN {o:Bool} {v:AV} (hv:shut0 o p v=true):v.isLeaf=true∧(ren0 f v).isLeaf=true:=by
 cases v<;>first | exact ⟨rfl,rfl⟩ | simp [shut0,capIn] at hv
theorem zeh {v:AV} (hv:v.isLeaf=true):v.leaves=[v]:=by cases v<;>first | rfl | simp [AV.isLeaf] at hv
theorem zb2 {o:Bool} {v:AV} (hv:shut1 o p v=true):(∃ l,v=.agg l∧l.all (shut0 o p)=true)∨(shut0 o p v=true∧v.isLeaf=true∧ren1 f v=ren0 f v∧(ren0 f v).isLeaf=true):=by
 cases v with
 | agg l=>exact .inl ⟨l,rfl,hv⟩
 | _=>
   right
   have hv':=hv
   simp only [shut1] at hv'
   exact ⟨hv',(zjN (f:=f) hv').1,rfl,(zjN hv').2⟩
theorem zd8 {o:Bool} {v:AV} (hv:shut1 o p v=true):(ren1 f v).leaves=v.leaves.map (ren0 f)∧∀ x∈v.leaves,shut0 o p x=true:=by
 rcases zb2 (f:=f) hv with ⟨l,rfl,h⟩ | ⟨h1,h2,h3,h4⟩
 ·exact ⟨rfl,fun x hx=>List.all_eq_true.1 h x hx⟩
 ·rw [h3,zeh h2,zeh h4]
  exact ⟨rfl,fun x hx=>by simp at hx;rw [hx];exact h1⟩
theorem ziD (hn:∀ k,own k=none→own' k=none) (hb:∀ k b,p b=true→own k=some (.box b)→own' k=some (.box (f b))) (hmf:∀ b,p b=true→isM b=false→isM (f b)=false) {b b':Nat} (hs:∀ k j,own k=some (.sl b j)→own' k=some (.sl b' j)) {v:AV} {arr:Array Value}
 (h:RB P G own w b v arr) (hv:shut1 true p v=true):RB P G' own' w b' (ren1 f v) arr:=by
 obtain ⟨h1,h2⟩:=zd8 (f:=f) hv
 refine ⟨by rw [h1,List.length_map];exact h.1,fun j x u e1 e2=>?_⟩
 rw [h1,List.getElem?_map] at e1
 cases hj:v.leaves[j]? with
 | none=>rw [hj] at e1;cases e1
 | some y=>rw [hj] at e1;cases e1;exact ren_ro hn hb hmf hs (h.2 j y u hj e2) (h2 y (List.mem_of_getElem? hj))
theorem r1_r0 {v:AV} {u:Value} (h1:∀ l,v≠.agg l):R1 P G own w v u=R0 P G own w v u:=by
 cases v<;>first | rfl | exact absurd rfl (h1 _)
theorem ren_r1 (hn:∀ k,own k=none→own' k=none) (hb:∀ k b,p b=true→own k=some (.box b)→own' k=some (.box (f b))) (hmf:∀ b,p b=true→isM b=false→isM (f b)=false) {v:AV} {u:Value} (h:R1 P G own w v u) (hv:shut1 false p v=true):R1 P G' own' w (ren1 f v) u:=by
 rcases zb2 (f:=f) hv with ⟨l,rfl,h1⟩ | ⟨h1,h2,h3,h4⟩
 ·obtain ⟨arr,e1,e2,e3⟩:=h
  refine ⟨arr,e1,by simpa using e2,fun j x y q1 q2=>?_⟩
  rw [List.getElem?_map] at q1
  cases hj:l[j]? with
  | none=>rw [hj] at q1;cases q1
  | some z=>rw [hj] at q1;cases q1;exact zhG hn hb hmf (e3 j z y hj q2) (List.all_eq_true.1 h1 z (List.mem_of_getElem? hj))
 ·rw [h3,r1_r0 (zH h4).1]
  rw [r1_r0 (zH h2).1] at h
  exact zhG hn hb hmf h h1
theorem rl_ro {b:Nat} {v:AV} {u:Value} (h:v.isLeaf=true):RL P G own w b v u=RO P G own w b 0 v u:=by
 cases v<;>first | rfl | simp [AV.isLeaf] at h
theorem ren_rl (hn:∀ k,own k=none→own' k=none) (hb:∀ k b,p b=true→own k=some (.box b)→own' k=some (.box (f b))) (hmf:∀ b,p b=true→isM b=false→isM (f b)=false) {b b':Nat} (hs:∀ k j,own k=some (.sl b j)→own' k=some (.sl b' j)) {v:AV} {u:Value}
 (h:RL P G own w b v u) (hv:shut2 p v=true):RL P G' own' w b' (ren2 f v) u:=by
 have key:∀ v:AV,shut1 true p v=true→ren2 f v=ren1 f v→RL P G own w b v u→RL P G' own' w b' (ren2 f v) u:=by
  intro v hv he h
  rw [he]
  rcases zb2 (f:=f) hv with ⟨l,rfl,h1⟩ | ⟨h1,h2,h3,h4⟩
  ·obtain ⟨arr,e1,e2,e3⟩:=h
   refine ⟨arr,e1,by simpa using e2,fun j x y q1 q2=>?_⟩
   rw [List.getElem?_map] at q1
   cases hj:l[j]? with
   | none=>rw [hj] at q1;cases q1
   | some z=>rw [hj] at q1;cases q1;exact ren_ro hn hb hmf hs (e3 j z y hj q2) (List.all_eq_true.1 h1 z (List.mem_of_getElem? hj))
  ·rw [h3,rl_ro h4]
   rw [rl_ro h2] at h
   exact ren_ro hn hb hmf hs h h1
 cases v with
 | tup l=>
   obtain ⟨arr,e1,e2,e3⟩:=h
   refine ⟨arr,e1,by simpa using e2,fun j x y q1 q2=>?_⟩
   rw [List.getElem?_map] at q1
   cases hj:l[j]? with
   | none=>rw [hj] at q1;cases q1
   | some z=>rw [hj] at q1;cases q1;exact ren_r1 hn hb hmf (e3 j z y hj q2) (List.all_eq_true.1 hv z (List.mem_of_getElem? hj))
 | agg l=>exact key _ hv rfl h
 | _=>exact key _ hv rfl h
theorem shut_kill {o:Bool} {v:AV} (hv:shut1 o p v=true) (S:Nat→Bool):AV.map2 (killS S) (ren1 f v)=ren1 f v:=by
 have h0:∀ v:AV,shut0 o p v=true→killS S (ren0 f v)=ren0 f v:=by
  intro v hv
  cases v<;>first | rfl | simp [shut0,capIn] at hv
 rcases zb2 (f:=f) hv with ⟨l,rfl,h1⟩ | ⟨h1,h2,h3,h4⟩
 ·simp only [ren1,AV.map2,List.map_map,AV.agg.injEq]
  exact List.map_congr_left (fun x hx=>h0 x (List.all_eq_true.1 h1 x hx))
 ·rw [h3,zaX (zH h4).1 (zH h4).2];exact h0 v h1
end ren
theorem get_frzs (b:Nat):∀ {U:List Up} (hU:FrzOnly U) {G:Sta} {v:AV},get G b=some v→get (app U G) b=some (frzIn b U v)
 | [],_,G,v,h=>h
 | u :: U,hU,G,v,h=>by
   obtain ⟨c,o,rfl⟩:=hU u (List.mem_cons_self ..)
   simp only [app,frzIn]
   refine get_frzs b (fun u hu=>hU u (List.mem_cons_of_mem _ hu)) ?_
   simp only [Up.app,zaj]
   by_cases e:b=c
   ·subst e;simp [h]
   ·rw [if_neg e,if_neg (fun e'=>e e'.symm)];exact h
theorem zi7 (U:List Up):∀ (bs:List Nat) (vs:List AV),bs.length=vs.length→(frzAll U bs vs).length=bs.length∧∀ (i:Nat) b v,bs[i]?=some b→(frzAll U bs vs)[i]?=some v→∃ x,vs[i]?=some x∧v=frzIn b U x
 | [],[],_=>⟨rfl,fun i b v h=>by simp at h⟩
 | b :: bs,v :: vs,h=>by
   obtain ⟨h1,h2⟩:=zi7 U bs vs (by simpa using h)
   refine ⟨by simp [frzAll,h1],fun i c x e1 e2=>?_⟩
   cases i with
   | zero=>simp [frzAll] at e1 e2;exact ⟨v,rfl,by rw [← e1,e2]⟩
   | succ i=>simp [frzAll] at e1 e2;obtain ⟨y,q1,q2⟩:=h2 i c x e1 e2;exact ⟨y,by simpa using q1,q2⟩
 | [],_ :: _,h=>by simp at h
 | _ :: _,[],h=>by simp at h
theorem zfm:∀ (m l:List Nat) (i:Nat) (b:Nat),l[i]?=some b→(addNew l m)[i]?=some b
 | [],l,i,b,h=>h
 | x :: m,l,i,b,h=>by
   simp only [addNew]
   split
   ·exact zfm m l i b h
   ·exact zfm m _ i b (by rw [List.getElem?_append_left (List.getElem?_eq_some_iff.1 h).1];exact h)
theorem zhK {CE:CEx} {G:Sta} {K:List Up→List Acc→Prop}:∀ (n:Nat) {bs:List Nat} {cs:List AV} {k:List Nat→List AV→RM} {T:List Acc},(gather n bs cs k).wp CE G T K→
 (∀ (i:Nat) c,cs[i]?=some c→∃ b,bs[i]?=some b∧get G b=some c)→∃ bs' cs' T',bs'.length=cs'.length∧(∀ (i:Nat) c,cs'[i]?=some c→∃ b,bs'[i]?=some b∧get G b=some c)∧(k bs' cs').wp CE G T' K
 | 0,_,_,_,_,h,_=>h.elim
 | n+1,bs,cs,k,T,h,hc=>by
   simp only [gather] at h
   split at h
   ·rename_i hl;exact ⟨bs,cs,T,hl.symm,hc,h⟩
   ·split at h
    ·rename_i b hb
     obtain ⟨v,T1,h1,h2⟩:=zaM h
     refine zhK n h2 ?_
     intro i c hi
     by_cases hlt:i < cs.length
     ·rw [List.getElem?_append_left hlt] at hi
      obtain ⟨b',q1,q2⟩:=hc i c hi
      exact ⟨b',zfm _ _ _ _ q1,q2⟩
     ·have hle:cs.length≤i:=by omega
      rw [List.getElem?_append_right hle] at hi
      have hi0:i=cs.length:=by
       have:=(List.getElem?_eq_some_iff.1 hi).1;simp at this;omega
      subst hi0
      simp at hi;subst hi
      exact ⟨b,zfm _ _ _ _ hb,h1⟩
    ·exact h.elim
theorem zeG:∀ {cs os:List AV},sameLens cs os=true→∀ (i:Nat) c o,cs[i]?=some c→os[i]?=some o→o.leaves.length=c.leaves.length
 | [],_,_,i,c,o,h,_=>by simp at h
 | c :: cs,[],h,_,_,_,_,_=>by simp [sameLens] at h
 | c :: cs,o :: os,h,i,x,y,e1,e2=>by
   simp only [sameLens,Bool.and_eq_true,beq_iff_eq] at h
   cases i with
   | zero=>simp at e1 e2;subst e1 e2;exact h.1.symm
   | succ i=>simp at e1 e2;exact zeG h.2 i x y e1 e2
end Go.Ev
namespace Go.Ev
open Go Go.RowKit
variable {P : Program}
variable (P) in
structure Outs (own:Own) (w:World) (outs:List AV):Prop where
 boxes:∀ (i:Nat) v,outs[i]?=some v→∃ k arr T,own k=some (.box (ob i))∧w.heap[k]?=some (.cells arr T (0,0))∧RB P [] own w (ob i) v arr
 one:∀ k k' o,own k=some o→own k'=some o→k=k'
 lt:∀ k o,own k=some o→k < w.heap.size
variable (P) in
def argR (own:Own) (w:World) (j:Nat):AV→Value→Prop
 | .own E l,v=>OwnL P own w (tb j) 0 E l v
 | x,v=>R1 P [] own w x v
variable (P) in
def Args (own:Own) (w:World) (args:List AV) (vs:Array Value):Prop:=
 args.length=vs.size∧∀ (j:Nat) x v,args[j]?=some x→vs[j]?=some v→argR P own w j x v
variable (P) in
def resR (own:Own) (w:World) (r:AV) (u:Value):Prop:=
 match r with
 | .tup (.own E l :: rs)=>∃ v arr,u=.tuple arr∧rs.length+1=arr.size∧arr[0]?=some v∧OwnL P own w 0 0 E l v∧∀ (j:Nat) x y,rs[j]?=some x→arr[j+1]?=some y→R1 P [] own w x y
 | r=>RL P [] own w 0 r u
theorem argR_r1 {own:Own} {w:World} {j:Nat} {x:AV} {v:Value} (h:∀ E l,x≠.own E l):argR P own w j x v=R1 P [] own w x v:=by
 cases x<;>first | rfl | exact absurd rfl (h _ _)
theorem zjM {p:Nat→Bool} {x:AV} (h:shut1 false p x=true):∀ E l,x≠.own E l:=by
 rintro E l rfl;simp [shut1,shut0,capIn] at h
theorem rl_resR {own:Own} {w:World} {r:AV} {u:Value} (h:RL P [] own w 0 r u):resR P own w r u:=by
 unfold resR
 split
 ·rename_i E l rs
  obtain ⟨arr,e1,e2,e3⟩:=h
  obtain ⟨v,hv⟩:∃ v,arr[0]?=some v:=⟨arr[0]'(by simp at e2;omega),by simp⟩
  exact (e3 0 _ v rfl hv).elim
 ·exact h
theorem resR_rl {own:Own} {w:World} {p:Nat→Bool} {r:AV} {u:Value} (hs:shut2 p r=true) (h:resR P own w r u):RL P [] own w 0 r u:=by
 unfold resR at h
 split at h
 ·simp [shut2,shut1,shut0,capIn] at hs
 ·exact h
variable (P) in
def CallE:CEx:=fun g args outs r outs'=>
 (∃ fn,P.funcs[g]?=some fn∧(fn.name == "runtime.NumGoroutine")=false∧fn.body.isNone=false)∧
 ∀ own w (vs:Array Value),Outs P own w outs→Args P own w args vs→
   Calls P g vs w fun e w'=>∃ u own',e=.returned u∧Tr own w own' w'∧Outs P own' w' outs'∧resR P own' w' r u
theorem ziw {bs:List Nat} (hn:bs.Nodup) {x y o:Owner} (hx:toOwn bs x=o) (hy:toOwn bs y=o):x=y:=by
 have hmem:∀ b,bs.contains b=true→∃ i,bs[i]?=some b:=fun b h=>List.mem_iff_getElem?.1 (by simpa using h)
 have hto:∀ {b c:Nat},bs.contains b=true→bs.contains c=true→toOut bs b=toOut bs c→b=c:=by
  intro b c h1 h2 e
  obtain ⟨i,hi⟩:=hmem b h1
  obtain ⟨j,hj⟩:=hmem c h2
  rw [zdO hn hi,zdO hn hj] at e
  have:i=j:=by simp only [ob] at e;omega
  subst this;rw [hi] at hj;exact Option.some.inj hj
 cases x with
 | box b=>
   simp only [toOwn] at hx
   split at hx
   ·rename_i h1;subst hx
    cases y with
    | box c=>
      simp only [toOwn] at hy
      split at hy
      ·rename_i h2;rw [hto h2 h1 (by simpa using hy)]
      ·cases hy
    | sl c q=>simp only [toOwn] at hy;split at hy<;>cases hy
    | al z=>simp [toOwn] at hy
   ·subst hx
    cases y with
    | box c=>simp only [toOwn] at hy;split at hy<;>cases hy;rfl
    | sl c q=>simp only [toOwn] at hy;split at hy<;>cases hy
    | al z=>simp [toOwn] at hy
 | sl b q=>
   simp only [toOwn] at hx
   split at hx
   ·rename_i h1;subst hx
    cases y with
    | sl c q'=>
      simp only [toOwn] at hy
      split at hy
      ·rename_i h2
       simp only [Owner.sl.injEq] at hy
       rw [hto h2 h1 hy.1,hy.2]
      ·cases hy
    | box c=>simp only [toOwn] at hy;split at hy<;>cases hy
    | al z=>simp [toOwn] at hy
   ·subst hx
    cases y with
    | sl c q=>simp only [toOwn] at hy;split at hy<;>cases hy;rfl
    | box c=>simp only [toOwn] at hy;split at hy<;>cases hy
    | al z=>simp [toOwn] at hy
 | al z=>
   simp only [toOwn] at hx;subst hx
   cases y with
   | box c=>simp only [toOwn] at hy;split at hy<;>cases hy
   | sl c q=>simp only [toOwn] at hy;split at hy<;>cases hy
   | al z'=>simp only [toOwn,Owner.al.injEq] at hy;rw [hy]
theorem zgR {bs:List Nat} {b:Nat} (h:isOut bs.length b=true):∃ i,bs[i]?=some (back bs b)∧b=ob i:=by
 obtain ⟨i,hi,rfl⟩:=isOut_spec h
 have:bs[i]?=some (bs[i]'hi):=by simp
 exact ⟨i,by rw [back_ob this];exact this,rfl⟩
theorem zj4 {bs:List Nat} {d:Option Tmp} {x o:Owner} (h:fromOwn bs d x=some o):hid bs o=false∨lost d o=true:=by
 cases x with
 | box b=>
   simp only [fromOwn] at h
   split at h
   ·rename_i h1;cases h
    obtain ⟨i,h2,_⟩:=zgR h1
    left;simp [hid,List.mem_of_getElem? h2]
   ·cases h
 | sl b q=>
   simp only [fromOwn] at h
   split at h
   ·rename_i h1;cases h
    obtain ⟨i,h2,_⟩:=zgR h1
    left;simp [hid,List.mem_of_getElem? h2]
   ·split at h
    ·cases d with
     | none=>cases h
     | some t=>cases h;right;simp [lost,dIs]
    ·cases h
 | al z=>simp [fromOwn] at h
theorem fromOwn_inj {bs:List Nat} {d:Option Tmp} (hn:bs.Nodup) (h3:∀ b∈bs,b % 3≠1) {x y o:Owner} (hx:fromOwn bs d x=some o) (hy:fromOwn bs d y=some o):x=y:=by
 have hbk:∀ {b c:Nat},isOut bs.length b=true→isOut bs.length c=true→back bs b=back bs c→b=c:=by
  intro b c h1 h2 e
  obtain ⟨i,e1,rfl⟩:=zgR h1
  obtain ⟨j,e2,rfl⟩:=zgR h2
  rw [e] at e1
  have a1:=zi0 hn e1
  have a2:=zi0 hn e2
  rw [← a1,a2]
 have htb:∀ {b t:Nat},isOut bs.length b=true→back bs b≠tb t:=by
  intro b t h1 e
  obtain ⟨i,e1,_⟩:=zgR h1
  have:=h3 _ (List.mem_of_getElem? e1)
  rw [e] at this;simp [tb] at this
 cases x with
 | box b=>
   simp only [fromOwn] at hx
   split at hx
   ·rename_i h1;cases hx
    cases y with
    | box c=>
      simp only [fromOwn] at hy
      split at hy
      ·rename_i h2;rw [hbk h2 h1 (by simpa using hy)]
      ·cases hy
    | sl c q=>
      simp only [fromOwn] at hy
      split at hy
      ·cases hy
      ·split at hy
       ·cases d<;>cases hy
       ·cases hy
    | al z=>simp [fromOwn] at hy
   ·cases hx
 | sl b q=>
   simp only [fromOwn] at hx
   split at hx
   ·rename_i h1;cases hx
    cases y with
    | sl c q'=>
      simp only [fromOwn] at hy
      split at hy
      ·rename_i h2
       simp only [Option.some.injEq,Owner.sl.injEq] at hy
       rw [hbk h2 h1 hy.1,hy.2]
      ·split at hy
       ·cases d with
        | none=>cases hy
        | some t=>simp only [Option.map_some,Option.some.injEq,Owner.sl.injEq] at hy;exact absurd hy.1.symm (htb h1)
       ·cases hy
    | box c=>simp only [fromOwn] at hy;split at hy<;>cases hy
    | al z=>simp [fromOwn] at hy
   ·split at hx
    ·rename_i hb0
     cases d with
     | none=>cases hx
     | some t=>
       cases hx
       cases y with
       | sl c q'=>
         simp only [fromOwn] at hy
         split at hy
         ·rename_i h2
          simp only [Option.some.injEq,Owner.sl.injEq] at hy
          exact absurd hy.1 (htb h2)
         ·split at hy
          ·rename_i hc0
           simp only [Option.map_some,Option.some.injEq,Owner.sl.injEq] at hy
           rw [hb0,hc0,hy.2]
          ·cases hy
       | box c=>simp only [fromOwn] at hy;split at hy<;>cases hy
       | al z=>simp [fromOwn] at hy
    ·cases hx
 | al z=>simp [fromOwn] at hx
section
variable {CE : CEx} {c : Cfg} {G : Sta} {own : Own} {a : Act} {w : World} {T : List Acc} {next : Act → World → Prop}
variable {F : Fence} {n : Nat} {o : Oper} {Q : Exit → Act → World → Prop}
theorem call_back {bs:List Nat} {cs outs:List AV} {d:Option Tmp} {own1 own':Own} {w':World} {G1:Sta} {r:AV} {u:Value} (s:St P c.nt G1 own1 a w)
 (hl:bs.length=cs.length) (hcs:∀ (i:Nat) b v,bs[i]?=some b→cs[i]?=some v→get G1 b=some v)
 (h3:∀ b∈bs,b % 3≠1) (h3m:∀ b∈bs,isM b=false) (hn:bs.Nodup) (h5:dIn d c.nt=true) (g1:outs.length=bs.length) (g2:sameLens cs outs=true)
 (g3:outs.all (shut1 true (isOut bs.length))=true) (g4:shut2 (isOut bs.length) r=true)
 (tr:Tr (ownC bs own1) w own' w') (ho:Outs P own' w' outs) (hr:RL P [] own' w' 0 r u) :
 St P c.nt (app (putsOf (back bs) bs outs++setD d (ren2 (back bs) r)) G1) (ownR bs d own1 own') (a.put d u) w'∧Tr own1 w (ownR bs d own1 own') w':=by
 have hal:∀ k o,own1 k=some o→hid bs o=true→own' k=some (.al o)∧w'.heap[k]?=w.heap[k]?:=fun k o h hh=>tr.al k o (by simp [ownC,h,toOwn_hid hh])
 have hnh:∀ {k o},own' k=some o→(∀ x,o≠.al x)→∀ x,own1 k=some x→hid bs x=false:=by
  intro k o h hne x hx
  cases hh:hid bs x with
  | false=>rfl
  | true=>rw [(hal k x hx hh).1] at h;cases h;exact absurd rfl (hne x)
 have hnn:∀ k,own' k=none→ownR bs d own1 own' k=none:=by
  intro k hk
  rw [zgt,hk];rfl
  intro x hx
  cases hh:hid bs x with
  | false=>rfl
  | true=>rw [(hal k x hx hh).1] at hk;cases hk
 have hin:∀ {b},b∈bs→∃ i,bs[i]?=some b∧toOut bs b=ob i:=by
  intro b hb
  obtain ⟨i,hi⟩:=List.mem_iff_getElem?.1 hb
  exact ⟨i,hi,zdO hn hi⟩
 have hbox:∀ k b,own1 k=some (.box b)→ownR bs d own1 own' k=some (.box b):=by
  intro k b hk
  by_cases hb:b∈bs
  ·obtain ⟨i,hi,ht⟩:=hin hb
   have h1:own' k=some (.box (ob i)):=tr.bx k (ob i) (by simp only [ob];omega) (by simp [ownC,hk,toOwn,hb,ht])
   rw [zgt (hnh h1 (by simp)),h1]
   have hlt:i < bs.length:=(List.getElem?_eq_some_iff.1 hi).1
   simp [fromOwn,zig hlt,back_ob hi]
  ·rw [ownR_hid hk (by simp [hid,hb])];simp [lost]
 have hrb:∀ k b,isOut bs.length b=true→own' k=some (.box b)→ownR bs d own1 own' k=some (.box (back bs b)):=by
  intro k b hb hk
  rw [zgt (hnh hk (by simp)),hk];simp [fromOwn,hb]
 have hmf:∀ b,isOut bs.length b=true→isM b=false→isM (back bs b)=false:=by
  intro b _ _
  unfold back
  by_cases h:b / 3 - 1 < bs.length
  ·rw [List.getD_eq_getElem?_getD,List.getElem?_eq_getElem h];exact h3m _ (List.getElem_mem h)
  ·rw [List.getD_eq_getElem?_getD,List.getElem?_eq_none (by omega)];rfl
 have T1:Tr own1 w (ownR bs d own1 own') w':=by
  refine ⟨tr.size,fun k hk h=>?_,tr.os,tr.tape,tr.output,fun k o h=>?_,fun k b _ h=>hbox k b h⟩
  ·obtain ⟨e1,e2⟩:=tr.keep k hk (by simp [ownC,h])
   exact ⟨hnn k e1,e2⟩
  ·obtain ⟨e1,e2⟩:=hal k _ h rfl
   exact ⟨by rw [ownR_hid h rfl];simp [lost],e2⟩
 have hnb:∀ {b},b % 3=1→b∉bs:=fun h hb=>h3 _ hb h
 have hget:∀ {b},outS bs d b=false→get (app (putsOf (back bs) bs outs++setD d (ren2 (back bs) r)) G1) b=(get G1 b).map (AV.map2 (killS (outS bs d))):=fun h=>get_out (back bs) g1.symm h
 have hown:∀ b o E l k cap,outS bs d b=false→OwnB P own1 w b o E k l cap→OwnB P (ownR bs d own1 own') w' b o E k l cap:=by
  intro b o E l k cap hS hB
  simp only [outS,Bool.or_eq_false_iff] at hS
  have hb:b∉bs:=by have:=hS.1;simpa using this
  have hh:hid bs (.sl b o)=true:=by simp [hid,hb]
  refine hB.mono T1 ?_ (hal k _ hB.1 hh).2
  rw [ownR_hid hB.1 hh];simp [lost,hS.2]
 have K:Keep P G1 own1 w (app (putsOf (back bs) bs outs++setD d (ren2 (back bs) r)) G1) (ownR bs d own1 own') w' (killS (outS bs d)) (fun b _=>outS bs d b=false):=by
  have lk:∀ {b o x},outS bs d b=false→look (app (putsOf (back bs) bs outs++setD d (ren2 (back bs) r)) G1) b (some o)=some x→x≠.bad→look G1 b (some o)=some x:=by
   intro b o x hS hg hx
   rw [look_of_get (zgz _) (hget hS)] at hg
   cases hy:look G1 b (some o) with
   | none=>rw [hy] at hg;cases hg
   | some y=>
     rw [hy] at hg
     simp only [Option.map_some,Option.some.injEq] at hg
     have hlf:=(zdq hy).1
     rw [zaX (zH hlf).1 (zH hlf).2] at hg
     rcases (zgz (outS bs d)).or y with e | e
     ·rw [e] at hg;rw [hg]
     ·rw [e] at hg;exact absurd hg.symm hx
  refine ⟨zgz _,fun _ _=>rfl,T1,fun k b off h _=>hbox k b h,fun _ _ _ _ _ _=>rfl,?_,?_,?_⟩
  ·intro b o i m v hk h
   have hS:outS bs d b=false:=by
    simp only [killS] at hk
    split at hk
    ·cases hk
    ·rename_i e;simpa using e
   unfold SlV at h ⊢
   cases hg:look (app (putsOf (back bs) bs outs++setD d (ren2 (back bs) r)) G1) b (some o) with
   | none=>trivial
   | some x=>
     cases x with
     | own E l=>
       rw [lk hS hg (by simp)] at h
       obtain ⟨e1,aa,cc,e2,e3,e4⟩:=h
       refine ⟨e1,aa,cc,e2,e3,e4.imp id ?_⟩
       rintro ⟨k,e5,e6⟩
       exact ⟨k,e5,hown b o E l k _ hS e6⟩
     | f x=>
       cases x with
       | sl l=>rw [lk hS hg (by simp)] at h;exact ⟨h.1,h.2.mono T1⟩
       | _=>trivial
     | _=>trivial
  ·intro b o i m v hk h
   have hS:outS bs d b=false:=by
    simp only [killS] at hk
    split at hk
    ·cases hk
    ·rename_i e;simpa using e
   unfold EpV at h ⊢
   cases hg:look (app (putsOf (back bs) bs outs++setD d (ren2 (back bs) r)) G1) b (some o) with
   | none=>trivial
   | some x=>
     cases x with
     | own E l=>
       rw [lk hS hg (by simp)] at h
       obtain ⟨e1,k,cap,e2,e3⟩:=h
       exact ⟨e1,k,cap,e2,hown b o E l k _ hS e3⟩
     | f x=>
       cases x with
       | sl l=>rw [lk hS hg (by simp)] at h;obtain ⟨x,e1,e2⟩:=h;exact ⟨x,e1,RC.fp_mono T1 e2⟩
       | _=>trivial
     | _=>trivial
  ·rintro b o E l v hS hg ⟨aa,cc,e1,e2,e3⟩
   refine ⟨aa,cc,e1,e2,e3.imp id ?_⟩
   rintro ⟨k,e4,e5⟩
   exact ⟨k,e4,hown b o E l k _ hS e5⟩
 have hshut:∀ {v},v∈outs→shut1 true (isOut bs.length) v=true:=fun h=>List.all_eq_true.1 g3 _ h
 have hsz:(a.put d u).tmps.size=c.nt:=by
  cases d with
  | none=>exact s.size
  | some t=>rw [zd9];simp [s.size]
 refine ⟨s.step K hsz ?_ ?_ ?_ ?_,T1⟩
 ·intro t v' hg
  cases hd:dIs d (tb t) with
  | true=>
    cases d with
    | none=>simp [dIs] at hd
    | some t0=>
      have:t=t0:=tb_inj (by simpa [dIs] using hd)
      subst this
      rw [zas] at hg
      simp only [setD,app,Up.app,zaK,if_true,Option.some.injEq] at hg
      subst hg
      have hlt:t < c.nt:=by simpa [dIn] using h5
      refine .inl ⟨u,by rw [zd9,Array.getElem?_setIfInBounds_self_of_lt (by rw [s.size];exact hlt)],?_⟩
      refine ren_rl hnn hrb hmf ?_ hr g4
      intro k j hk
      rw [zgt (hnh hk (by simp)),hk]
      simp [fromOwn,isOut]
  | false=>
    have hS:outS bs d (tb t)=false:=by
     have:tb t∉bs:=hnb (by simp [tb])
     simp [outS,hd,this]
    rw [hget hS] at hg
    cases hx:get G1 (tb t) with
    | none=>rw [hx] at hg;cases hg
    | some x=>
      rw [hx] at hg;cases hg
      refine .inr ⟨x,rfl,rfl,?_,fun _=>hS⟩
      cases d with
      | none=>rfl
      | some t0=>
        rw [zd9,Array.getElem?_setIfInBounds_ne]
        intro e;subst e;simp [dIs] at hd
 ·intro b v' hb3 hg
  by_cases hb:b∈bs
  ·obtain ⟨i,hi,_⟩:=hin hb
   have hlt:i < bs.length:=(List.getElem?_eq_some_iff.1 hi).1
   obtain ⟨v,hv⟩:∃ v,outs[i]?=some v:=⟨outs[i]'(by omega),by simp⟩
   obtain ⟨x,hx⟩:∃ x,cs[i]?=some x:=⟨cs[i]'(by omega),by simp⟩
   have hlen:(ren1 (back bs) v).leaves.length=x.leaves.length:=by
    rw [(zd8 (f:=back bs) (hshut (List.mem_of_getElem? hv))).1,List.length_map]
    exact zeG g2 i x v hx hv
   rw [zi4 (back bs) g1.symm hn hi hv hb3 (fun v hv S=>shut_kill (hshut hv) S) ⟨x,hcs i b x hi hx,hlen⟩] at hg
   cases hg
   obtain ⟨k,arr,TT,e1,e2,e3⟩:=ho.boxes i v hv
   have hbk:=back_ob hi
   refine .inl ⟨h3m b hb,k,arr,TT,by have:=hrb k _ (zig hlt) e1;rwa [hbk] at this,e2,?_⟩
   refine ziD hnn hrb hmf ?_ e3 (hshut (List.mem_of_getElem? hv))
   intro k j hk
   rw [zgt (hnh hk (by simp)),hk]
   simp [fromOwn,zig hlt,hbk]
  ·have hd:dIs d b=false:=by
    cases d with
    | none=>rfl
    | some t=>
      simp only [dIs,beq_eq_false_iff_ne]
      intro e;subst e;simp [tb] at hb3
   have hS:outS bs d b=false:=by simp [outS,hd,hb]
   rw [hget hS] at hg
   cases hx:get G1 b with
   | none=>rw [hx] at hg;cases hg
   | some x=>
     rw [hx] at hg;cases hg
     exact .inr (.inr ⟨x,rfl,rfl,fun _=>hS,fun k hk=>⟨hbox k b hk,(hal k _ hk (by simp [hid,hb])).2⟩⟩)
 ·have cases2:∀ {k o},ownR bs d own1 own' k=some o→(own1 k=some o∧hid bs o=true∧lost d o=false)∨∃ x,own' k=some x∧fromOwn bs d x=some o:=by
   intro k o h
   simp only [ownR] at h
   split at h
   ·rename_i x hx
    split at h
    ·rename_i hh
     split at h
     ·cases h
     ·rename_i hl;cases h;exact .inl ⟨hx,hh,by simpa using hl⟩
    ·right
     obtain ⟨y,e1,e2⟩:=Option.bind_eq_some_iff.1 h
     exact ⟨y,e1,e2⟩
   ·right
    obtain ⟨y,e1,e2⟩:=Option.bind_eq_some_iff.1 h
    exact ⟨y,e1,e2⟩
  intro k k' o h h'
  rcases cases2 h with ⟨q1,q2,q3⟩ | ⟨x,q1,q2⟩<;>rcases cases2 h' with ⟨q1',q2',q3'⟩ | ⟨x',q1',q2'⟩
  ·exact s.one k k' o q1 q1'
  ·rcases zj4 q2' with e | e
   ·rw [e] at q2;cases q2
   ·rw [e] at q3;cases q3
  ·rcases zj4 q2 with e | e
   ·rw [e] at q2';cases q2'
   ·rw [e] at q3';cases q3'
  ·have:=fromOwn_inj hn h3 q2 q2'
   subst this
   exact ho.one k k' x q1 q1'
 ·intro k o h
  simp only [ownR] at h
  split at h
  ·rename_i x hx
   exact Nat.lt_of_lt_of_le (s.lt k x hx) tr.size
  ·obtain ⟨y,e1,e2⟩:=Option.bind_eq_some_iff.1 h
   exact ho.lt k y e1
end
end Go.Ev
namespace Go.Ev
open Go Go.RowKit
variable {P : Program}
theorem St.upos {nt:Nat} {G:Sta} {own:Own} {a:Act} {w w':World} (s:St P nt G own a w) {b o:Nat} {E:TypeId} {l l':List FV}
 (hl:look G b (some o)=some (.own E l)) (hlen:l'.length=l.length) (hsz:w.heap.size≤w'.heap.size) (hot:∀ j,j < w.heap.size→own j≠some (.sl b o)→w'.heap[j]?=w.heap[j]?)
 (hos:w'.os=w.os) (htp:w'.tape=w.tape) (hou:w'.output=w.output) (hnew:∀ {k n},OwnB P own w b o E k l n→OwnB P own w' b o E k l' n) :
 St P nt ((Up.upo b o (.own E l')).app G) own a w'∧Kp P G own w ((Up.upo b o (.own E l')).app G) own w':=by
 have hnil:l=[]→l'=[]:=fun h=>List.length_eq_zero_iff.1 (by rw [hlen,h];rfl)
 have ht:Tr own w own w':=by
  exact ⟨hsz,fun j hj hn=>⟨hn,hot j hj (by rw [hn];simp)⟩,hos,htp,hou,fun j x hn=>⟨hn,hot j (s.lt _ _ hn) (by rw [hn];simp)⟩,fun _ _ _ h=>h⟩
 have hblk:∀ {d p E' k' l' n},¬ (d=b∧p=o)→OwnB P own w d p E' k' l' n→OwnB P own w' d p E' k' l' n:=by
  intro d p E' k' l' n hn h
  refine h.mono ht h.1 (hot _ (s.lt _ _ h.1) ?_)
  rw [h.1];intro e;simp only [Option.some.injEq,Owner.sl.injEq] at e;exact hn e
 have K:Keep P G own w ((Up.upo b o (.own E l')).app G) own w' (fun v=>v) (fun d p=>¬ (d=b∧p=o)):=by
  refine ⟨kl_id,fun _ _=>rfl,ht,fun k c off h _=>h,fun _ _ _ _ _ _=>rfl,?_,?_,?_⟩
  ·intro d p i' n v _ h
   by_cases hdp:d=b∧p=o
   ·obtain ⟨rfl,rfl⟩:=hdp
    unfold SlV at h ⊢
    rw [zdp (v:=.own E l') rfl hl]
    rw [hl] at h
    obtain ⟨h1,a',c',h2,h3,h4⟩:=h
    refine ⟨by rw [hlen];exact h1,a',c',h2,h3,?_⟩
    rcases h4 with ⟨h5,h6,h7⟩ | ⟨k',h5,h6⟩
    ·exact .inl ⟨h5,hnil h6,h7⟩
    ·right
     exact ⟨k',h5,hnew h6⟩
   ·unfold SlV at h ⊢
    rw [zef hdp]
    cases hg:look G d (some p) with
    | none=>trivial
    | some z=>
      rw [hg] at h
      cases z with
      | own E l=>
        obtain ⟨e1,a',c',e2,e3,e4⟩:=h
        refine ⟨e1,a',c',e2,e3,e4.imp id ?_⟩
        rintro ⟨k,e5,e6⟩
        exact ⟨k,e5,hblk hdp e6⟩
      | f x=>
        cases x with
        | sl l=>exact ⟨h.1,h.2.mono ht⟩
        | _=>trivial
      | _=>trivial
  ·intro d p i' n v _ h
   by_cases hdp:d=b∧p=o
   ·obtain ⟨rfl,rfl⟩:=hdp
    unfold EpV at h ⊢
    rw [zdp (v:=.own E l') rfl hl]
    rw [hl] at h
    obtain ⟨h1,k',cap',h2,h3⟩:=h
    exact ⟨by rw [hlen];exact h1,k',cap',h2,hnew h3⟩
   ·unfold EpV at h ⊢
    rw [zef hdp]
    cases hg:look G d (some p) with
    | none=>trivial
    | some z=>
      rw [hg] at h
      cases z with
      | own E l=>
        obtain ⟨e1,k,cap,e2,e3⟩:=h
        exact ⟨e1,k,cap,e2,hblk hdp e3⟩
      | f x=>
        cases x with
        | sl l=>obtain ⟨x,e1,e2⟩:=h;exact ⟨x,e1,RC.fp_mono ht e2⟩
        | _=>trivial
      | _=>trivial
  ·rintro d p E' l' v hdp hg ⟨a',c',e1,e2,e3⟩
   refine ⟨a',c',e1,e2,e3.imp id ?_⟩
   rintro ⟨k,e4,e5⟩
   exact ⟨k,e4,hblk hdp e5⟩
 have leafcase:∀ {v:Value},RO P G own w b o (.own E l) v→RO P ((Up.upo b o (.own E l')).app G) own w' b o (.own E l') v:=by
  rintro v ⟨a',c',e1,e2,e3⟩
  refine ⟨a',c',by rw [hlen];exact e1,by rw [hlen];exact e2,?_⟩
  rcases e3 with ⟨h5,h6,h7⟩ | ⟨k',h5,h6⟩
  ·exact .inl ⟨h5,hnil h6,h7⟩
  ·right
   exact ⟨k',h5,hnew h6⟩
 obtain ⟨_,vb,hgb,hyb,hfb⟩:=zdq hl
 refine ⟨s.step K s.size ?_ ?_ s.one (fun k o h=>Nat.lt_of_lt_of_le (s.lt k o h) hsz),K.kp⟩
 ·intro r v' hg
  by_cases hr:tb r=b
  ·subst hr
   simp only [Up.app,zaj,if_true,hgb,Option.map_some,Option.some.injEq] at hg
   subst hg
   obtain ⟨u',hu,hrl⟩:=s.temps r vb hgb
   refine .inl ⟨u',hu,?_⟩
   rcases hfb with ⟨q,rfl⟩ | hfb
   ·obtain ⟨arr,e1,e2,e3⟩:=hrl
    refine ⟨arr,e1,by simpa using e2,fun j z v h3 h4=>?_⟩
    simp only [AV.leaves] at hyb
    simp only [AV.toLeaf,List.getElem?_set] at h3
    by_cases hj:o=j
    ·subst hj
     rw [if_pos rfl,if_pos (List.getElem?_eq_some_iff.1 hyb).1] at h3;cases h3
     exact leafcase (e3 o _ v hyb h4)
    ·rw [if_neg hj] at h3
     have hro:=e3 j z v h3 h4
     exact RO.keep K hro (zbK hgb h3 (zaP hro)) (fun e=>hj e.2.symm)
   ·have ex:vb.leaves=[vb]:=by cases vb<;>first | rfl | simp [AV.isLeaf] at hfb
    rw [ex] at hyb
    cases o with
    | succ o=>simp at hyb
    | zero=>
      simp at hyb;subst hyb
      exact leafcase hrl
  ·simp only [Up.app,zaj,if_neg hr] at hg
   exact .inr ⟨v',hg,(zc3 v').symm,rfl,fun o' e=>hr e.1⟩
 ·intro d v' hd hg
  by_cases hdb:d=b
  ·subst hdb
   simp only [Up.app,zaj,if_true,hgb,Option.map_some,Option.some.injEq] at hg
   subst hg
   cases hm:isM d with
   | true=>
     refine .inr (.inl ⟨rfl,fun hm=>?_,fun hm=>?_⟩)
     ·obtain ⟨k',es',ck,e1,e2,e3⟩:=s.maps d vb hm hgb
      rcases e3 with rfl | ⟨L,rfl,_⟩<;>(cases o<;>simp [AV.leaves] at hyb)
     ·obtain ⟨e1,u',e2⟩:=s.ghosts d vb hm hgb
      have ex:vb.leaves=[vb]:=by cases vb<;>first | rfl | simp [AV.isLeaf] at e1
      rw [ex] at hyb
      cases o with
      | succ o=>simp at hyb
      | zero=>
        simp at hyb;subst hyb
        exact ⟨rfl,u',leafcase e2⟩
   | false=>
   obtain ⟨k',arr,T,e1,e2,e3⟩:=s.boxes d vb hd hm hgb
   refine .inl ⟨rfl,k',arr,T,e1,?_,?_⟩
   ·rw [hot _ (s.lt _ _ e1) (by rw [e1];simp)];exact e2
   ·refine ⟨by rw [zdm rfl hfb];exact e3.1,fun j z v h3 h4=>?_⟩
    rw [za4 rfl hfb] at h3
    by_cases hj:j=o
    ·subst hj
     rw [if_pos ⟨rfl,(List.getElem?_eq_some_iff.1 hyb).1⟩] at h3;cases h3
     exact leafcase (e3.2 j _ v hyb h4)
    ·rw [if_neg (fun e=>hj e.1)] at h3
     have hro:=e3.2 j z v h3 h4
     exact RO.keep K hro (by simp [look,hgb,h3,zaP hro]) (fun e=>hj e.2)
  ·simp only [Up.app,zaj,if_neg hdb] at hg
   refine .inr (.inr ⟨v',hg,(zc3 v').symm,fun o' e=>hdb e.1,fun k' hk=>⟨hk,hot _ (s.lt _ _ hk) (by rw [hk];simp)⟩⟩)
theorem St.world {nt:Nat} {G:Sta} {own:Own} {a:Act} {w w':World} (s:St P nt G own a w) {b o:Nat} (hd:Dead G b o) (hsz:w.heap.size≤w'.heap.size)
 (hot:∀ j,j < w.heap.size→own j≠some (.sl b o)→w'.heap[j]?=w.heap[j]?) (hos:w'.os=w.os) (htp:w'.tape=w.tape) (hou:w'.output=w.output):St P nt G own a w'∧Tr own w own w':=by
 have t:Tr own w own w':=⟨hsz,fun j hj hn=>⟨hn,hot j hj (by rw [hn];simp)⟩,hos,htp,hou,fun j x hn=>⟨hn,hot j (s.lt _ _ hn) (by rw [hn];simp)⟩,fun _ _ _ h=>h⟩
 have hB:∀ {d p E k l n},look G d (some p)=some (.own E l)→OwnB P own w d p E k l n→OwnB P own w' d p E k l n:=by
  intro d p E k l n hl h
  refine h.mono t h.1 (hot k (s.lt _ _ h.1) ?_)
  rw [h.1]
  intro e;simp only [Option.some.injEq,Owner.sl.injEq] at e
  obtain ⟨rfl,rfl⟩:=e
  exact hd _ _ hl
 have K:Keep P G own w G own w' (fun v=>v) (fun _ _=>True):=by
  refine ⟨kl_id,fun _ _=>rfl,t,fun _ _ _ h _=>h,fun _ _ _ _ _ _=>rfl,?_,?_,?_⟩
  ·intro b o i n u _ h
   unfold SlV at h ⊢
   cases hg:look G b (some o) with
   | none=>trivial
   | some x=>
     rw [hg] at h
     cases x with
     | own E l=>
       obtain ⟨e1,a,c,e2,e3,e4⟩:=h
       exact ⟨e1,a,c,e2,e3,e4.imp id fun ⟨k,e5,e6⟩=>⟨k,e5,hB hg e6⟩⟩
     | f x=>cases x with
       | sl l=>exact ⟨h.1,h.2.mono t⟩
       | _=>trivial
     | _=>trivial
  ·intro b o i n u _ h
   unfold EpV at h ⊢
   cases hg:look G b (some o) with
   | none=>trivial
   | some x=>
     rw [hg] at h
     cases x with
     | own E l=>obtain ⟨e1,k,c,e2,e3⟩:=h;exact ⟨e1,k,c,e2,hB hg e3⟩
     | f x=>cases x with
       | sl l=>obtain ⟨x,e1,e2⟩:=h;exact ⟨x,e1,RC.fp_mono t e2⟩
       | _=>trivial
     | _=>trivial
  ·rintro b o E l u _ hl ⟨a,c,e1,e2,e3⟩
   exact ⟨a,c,e1,e2,e3.imp id fun ⟨k,e4,e5⟩=>⟨k,e4,hB hl e5⟩⟩
 exact ⟨s.step K s.size (fun r v h=>.inr ⟨v,h,(zc3 v).symm,rfl,fun _=>trivial⟩) (fun b v _ h=>.inr (.inr ⟨v,h,(zc3 v).symm,fun _=>trivial,fun k hk=>⟨hk,hot k (s.lt _ _ hk) (by rw [hk];simp)⟩⟩)) s.one
  (fun k o h=>Nat.lt_of_lt_of_le (s.lt k o h) hsz),t⟩
end Go.Ev
namespace Go.Ev
open Go Go.RowKit
variable {P : Program}
theorem renC_id (v:AV):renC id v=v:=by cases v<;>rfl
theorem ren0_id (v:AV):ren0 id v=v:=by
 cases v with
 | clo g caps=>
   show AV.clo g (caps.map (renC id))=_
   rw [show renC id=id from funext renC_id,List.map_id]
 | _=>rfl
theorem ziE (v:AV):ren1 id v=v:=by
 cases v with
 | agg l=>
   show AV.agg (l.map (ren0 id))=_
   rw [show ren0 id=id from funext ren0_id,List.map_id]
 | clo g caps=>exact ren0_id (.clo g caps)
 | _=>rfl
variable (P) in
def NwOk (g:FuncId) (h:List AV→Option AV):Prop:=
 (∃ fn,P.funcs[g]?=some fn∧(fn.name == "runtime.NumGoroutine")=false∧fn.body.isNone=false)∧
 ∀ own w args (vs:Array Value) v,args.all (shut1 false fun _=>false)=true→h args=some v→Outs P own w []→Args P own w args vs→
   Calls P g vs w fun e w'=>∃ k own' arr T b0,e=.returned (.pointer (some ⟨k,0,none⟩))∧Tr own w own' w'∧Outs P own' w' []∧own' k=some (.box b0)∧w'.heap[k]?=some (.cells arr T (0,0))∧RB P [] own' w' b0 v arr
def Owner.on (b:Nat):Owner→Bool
 | .box c=>c == b
 | .sl c _=>c == b
 | .al _=>false
def Owner.mvd (b:Nat):Owner→Owner
 | .box _=>.box b
 | .sl _ q=>.sl b q
 | .al o=>.al o
def nwOwn (b b0:Nat) (own own':Own):Own:=fun k=>
 match own k with
 | some o=>if o.on b=true then none else some o
 | none=>match own' k with
   | some o=>if o.on b0=true then some (o.mvd b) else none
   | none=>none
theorem Owner.mvd_on {b b0:Nat} {o:Owner} (h:o.on b0=true):(o.mvd b).on b=true:=by
 cases o<;>simp [Owner.on,Owner.mvd] at h ⊢
theorem Owner.mvd_inj {b b0:Nat} {x y:Owner} (hx:x.on b0=true) (hy:y.on b0=true) (h:x.mvd b=y.mvd b):x=y:=by
 cases x<;>cases y<;>simp [Owner.on,Owner.mvd] at hx hy h ⊢<;>simp [hx,hy,h]
section
variable {nt : Nat} {G : Sta} {own own' : Own} {a : Act} {w w' : World} {b b0 : Nat}
theorem zeO {k:Nat} {o:Owner} (h:own k=some o) (hn:o.on b=false):nwOwn b b0 own own' k=some o:=by
 simp [nwOwn,h,hn]
theorem nwOwn_new {k:Nat} {o:Owner} (h:own k=none) (h':own' k=some o) (hn:o.on b0=true):nwOwn b b0 own own' k=some (o.mvd b):=by
 simp [nwOwn,h,h',hn]
theorem zed {k:Nat} {o:Owner} (h:nwOwn b b0 own own' k=some o):(own k=some o∧o.on b=false)∨(own k=none∧∃ x,own' k=some x∧x.on b0=true∧o=x.mvd b):=by
 unfold nwOwn at h
 cases e:own k with
 | some x=>
   simp only [e] at h
   split at h
   ·cases h
   ·rename_i hn;cases h;exact .inl ⟨rfl,by simpa using hn⟩
 | none=>
   simp only [e] at h
   cases e':own' k with
   | none=>simp only [e'] at h;cases h
   | some x=>
     simp only [e'] at h
     split at h
     ·rename_i hn;cases h;exact .inr ⟨rfl,x,rfl,hn,rfl⟩
     ·cases h
theorem St.newres (s:St P nt G own a w) (hb2:b % 3=2) (hm:isM b=false) {z:AV} {arr:Array Value} {T:TypeId} {k:Nat}
 (tr:Tr (ownC [] own) w own' w') (ho:Outs P own' w' []) (hk:own' k=some (.box b0)) (hw:w'.heap[k]?=some (.cells arr T (0,0))) (hz:RB P [] own' w' b0 z arr)
 (hs:shut1 true (fun _=>false) z=true):St P nt ((Up.newbox b z).app G) (nwOwn b b0 own own') a w'∧Tr own w (nwOwn b b0 own own') w'∧nwOwn b b0 own own' k=some (.box b):=by
 have hal:∀ k o,own k=some o→own' k=some (.al o)∧w'.heap[k]?=w.heap[k]?:=fun k o h=>tr.al k o (by simp [ownC,h,toOwn_hid (bs:=[]) (o:=o) (by cases o<;>rfl)])
 have hne:∀ {k x},own' k=some x→(∀ o,x≠.al o)→own k=none:=by
  intro k x h hx
  cases e:own k with
  | none=>rfl
  | some o=>rw [(hal k o e).1] at h;cases h;exact absurd rfl (hx _)
 have hon:∀ {k x},own' k=some x→x.on b0=true→own k=none:=fun h hx=>hne h (fun o e=>by subst e;simp [Owner.on] at hx)
 have hnn:∀ k,own' k=none→nwOwn b b0 own own' k=none:=by
  intro k h
  cases e:nwOwn b b0 own own' k with
  | none=>rfl
  | some o=>
    rcases zed e with ⟨e1,_⟩ | ⟨_,x,e1,_⟩
    ·rw [(hal k o e1).1] at h;cases h
    ·rw [h] at e1;cases e1
 have ht:Tr own w (nwOwn b b0 own own') w':=by
  refine ⟨tr.size,fun k hk h=>?_,tr.os,tr.tape,tr.output,fun k o h=>⟨zeO h rfl,(hal k _ h).2⟩,fun k c hc h=>zeO h ?_⟩
  ·obtain ⟨e1,e2⟩:=tr.keep k hk (by simp [ownC,h])
   exact ⟨hnn k e1,e2⟩
  ·simp only [Owner.on,beq_eq_false_iff_ne];omega
 have hk2:nwOwn b b0 own own' k=some (.box b):=nwOwn_new (hon hk (by simp [Owner.on])) hk (by simp [Owner.on])
 have K:Keep P G own w ((Up.newbox b z).app G) (nwOwn b b0 own own') w' (Up.newbox b z).kill (live (Up.newbox b z).kill):=by
  refine zbS (by intros;simp) (by intros;simp) ht ?_ ?_
  ·intro k c off h hkk
   have hc:c≠b:=by
    intro e;subst e;simp [Up.kill,killb,killp,killr] at hkk
   exact zeO h (by simpa [Owner.on] using hc)
  ·intro c o E l k cc hl hg h
   have hc:c≠b:=by
    intro e;subst e;simp [live,Up.kill,killb,killp,killr] at hl
   exact h.mono ht (zeO h.1 (by simpa [Owner.on] using hc)) (hal k _ h.1).2
 have hz':RB P ((Up.newbox b z).app G) (nwOwn b b0 own own') w' b z arr:=by
  have:=ziD (P:=P) (G':=(Up.newbox b z).app G) (own':=nwOwn b b0 own own') (p:=fun _=>false) (f:=id) (b':=b) hnn (fun _ _ h=>by cases h) (fun _ h=>by cases h) (fun k j h=>nwOwn_new (o:=.sl b0 j) (hon h (by simp [Owner.on])) h (by simp [Owner.on])) hz hs
  rwa [ziE] at this
 refine ⟨s.step K s.size ?_ ?_ ?_ ?_,ht,hk2⟩
 ·intro r v' hg
  have hrb:tb r≠b:=by intro e;subst e;simp [tb] at hb2
  simp only [Up.app,zaK,zab,if_neg hrb] at hg
  cases hx:get G (tb r) with
  | none=>rw [hx] at hg;cases hg
  | some x=>rw [hx] at hg;cases hg;exact .inr ⟨x,rfl,rfl,rfl,fun o=>zcG hrb⟩
 ·intro c v' hc hg
  by_cases hcb:c=b
  ·subst hcb
   simp only [Up.app,zaK,if_true] at hg
   cases hg
   exact .inl ⟨hm,k,arr,T,hk2,hw,hz'⟩
  ·simp only [Up.app,zaK,zab,if_neg hcb] at hg
   cases hx:get G c with
   | none=>rw [hx] at hg;cases hg
   | some x=>
     rw [hx] at hg;cases hg
     exact .inr (.inr ⟨x,rfl,rfl,fun o=>zcG hcb,fun k hk=>⟨zeO hk (by simpa [Owner.on] using hcb),(hal k _ hk).2⟩⟩)
 ·intro j j' o h h'
  rcases zed h with ⟨e1,e2⟩ | ⟨e1,x,e2,e3,rfl⟩<;>rcases zed h' with ⟨e1',e2'⟩ | ⟨e1',x',e2',e3',e4⟩
  ·exact s.one j j' o e1 e1'
  ·subst e4;rw [Owner.mvd_on e3'] at e2;cases e2
  ·rw [Owner.mvd_on e3] at e2';cases e2'
  ·have:=Owner.mvd_inj e3 e3' e4
   subst this
   exact ho.one j j' x e2 e2'
 ·intro j o h
  rcases zed h with ⟨e1,_⟩ | ⟨_,x,e1,_⟩
  ·exact Nat.lt_of_lt_of_le (s.lt j o e1) tr.size
  ·exact ho.lt j x e1
end
end Go.Ev
namespace Go.Ev
open Go Go.RowKit
variable {P : Program}
section
variable {nt : Nat} {G : Sta} {own : Own} {a : Act} {w : World}
theorem St.drawn (s:St P nt G own a w) (m:Nat):St P nt G own a { w with drawn:=m }∧Tr own w own { w with drawn:=m }:=by
 have t:Tr own w own { w with drawn:=m }:=⟨Nat.le_refl _,fun _ _ h=>⟨h,rfl⟩,rfl,rfl,rfl,fun _ _ h=>⟨h,rfl⟩,fun _ _ _ h=>h⟩
 have K:Keep P G own w G own { w with drawn:=m } (fun v=>v) (fun _ _=>True):=by
  refine ⟨kl_id,fun _ _=>rfl,t,fun _ _ _ h _=>h,fun _ _ _ _ _ _=>rfl,?_,?_,?_⟩
  ·intro b o i n u _ h
   unfold SlV at h ⊢
   cases hg:look G b (some o) with
   | none=>trivial
   | some x=>
     rw [hg] at h
     cases x with
     | own E l=>
       obtain ⟨e1,a,c,e2,e3,e4⟩:=h
       exact ⟨e1,a,c,e2,e3,e4.imp id fun ⟨k,e5,e6⟩=>⟨k,e5,e6.mono t e6.1 rfl⟩⟩
     | f x=>cases x with
       | sl l=>exact ⟨h.1,h.2.mono t⟩
       | _=>trivial
     | _=>trivial
  ·intro b o i n u _ h
   unfold EpV at h ⊢
   cases hg:look G b (some o) with
   | none=>trivial
   | some x=>
     rw [hg] at h
     cases x with
     | own E l=>obtain ⟨e1,k,c,e2,e3⟩:=h;exact ⟨e1,k,c,e2,e3.mono t e3.1 rfl⟩
     | f x=>cases x with
       | sl l=>obtain ⟨x,e1,e2⟩:=h;exact ⟨x,e1,RC.fp_mono t e2⟩
       | _=>trivial
     | _=>trivial
  ·rintro b o E l u _ _ ⟨a,c,e1,e2,e3⟩
   exact ⟨a,c,e1,e2,e3.imp id fun ⟨k,e4,e5⟩=>⟨k,e4,e5.mono t e5.1 rfl⟩⟩
 exact ⟨s.step K s.size (fun r v h=>.inr ⟨v,h,(zc3 v).symm,rfl,fun _=>trivial⟩) (fun b v _ h=>.inr (.inr ⟨v,h,(zc3 v).symm,fun _=>trivial,fun k hk=>⟨hk,rfl⟩⟩)) s.one s.lt,t⟩
end
structure WideF (P:Program) (F:Fence):Prop where
 fn:∀ f,F.fn f
 deep:F.depth.isSome=false
 calls:∀ m g vs w R,Calls P g vs w R→CallsIn F m P g vs w R
section
variable {CE : CEx} {c : Cfg} {G : Sta} {own : Own} {a : Act} {w : World} {T : List Acc} {next : Act → World → Prop}
variable {F : Fence} {n : Nat} {o : Oper} {Q : Exit → Act → World → Prop}
theorem ren1_nown {p:Nat→Bool} {f:Nat→Nat} {x:AV} (h:shut1 false p x=true):∀ E l,ren1 f x≠.own E l:=by
 intro E l
 cases x<;>first | (simp [shut1,shut0,capIn] at h;done) | simp [ren1,ren0,renC]
theorem callGo_sound (hCE:∀ g args outs r outs',CE g args outs r outs'→CallE P g args outs r outs') {U:List Up} {own1:Own} (s:St P c.nt (app U G) own1 a w) (ht:Tr own w own1 w)
 {g:FuncId} {d:Option Tmp} {args:List AV} {us:Array Value} {bs:List Nat} {cs:List AV}
 (hargs:args.length=us.size∧∀ (j:Nat) x u,args[j]?=some x→us[j]?=some u→R1 P (app U G) own1 w x u)
 (hl:bs.length=cs.length) (hcs:∀ (i:Nat) b v,bs[i]?=some b→cs[i]?=some v→get (app U G) b=some v)
 (h:(callGo c d g args U bs cs).wp CE G T (Kn P c.nt G own a w next)) :
 (∃ fn,P.funcs[g]?=some fn∧(fn.name == "runtime.NumGoroutine")=false∧fn.body.isNone=false)∧Calls P g us w fun e w'=>∃ u,e=.returned u∧next (a.put d u) w':=by
 unfold callGo at h
 split at h
 ·rename_i hcond
  obtain ⟨h1,h2,h3,hn,h5⟩:=hcond
  obtain ⟨r,outs,hce,h6⟩:=h
  obtain ⟨hf,hcall⟩:=hCE _ _ _ _ _ hce
  refine ⟨hf,?_⟩
  have h3':∀ b∈bs,b % 3≠1:=fun b hb=>by have:=List.all_eq_true.1 h3 b hb;simp at this;exact this.1
  have h3m:∀ b∈bs,isM b=false:=fun b hb=>by have:=List.all_eq_true.1 h3 b hb;simp at this;exact this.2
  have hmf:∀ b,bs.contains b=true→isM b=false→isM (toOut bs b)=false:=fun b _ _=>zgB _
  have hnn:∀ k,own1 k=none→ownC bs own1 k=none:=fun k hk=>by simp [ownC,hk]
  have hbx:∀ k b,bs.contains b=true→own1 k=some (.box b)→ownC bs own1 k=some (.box (toOut bs b)):=fun k b hb hk=>by
   simp only [ownC,hk,Option.map_some,toOwn];rw [if_pos hb]
  have hO:Outs P (ownC bs own1) w (cs.map (ren1 (toOut bs))):=by
   refine ⟨fun i v hv=>?_,fun k k' x e e'=>?_,fun k x e=>?_⟩
   ·rw [List.getElem?_map] at hv
    cases hi:cs[i]? with
    | none=>rw [hi] at hv;cases hv
    | some y=>
      rw [hi] at hv;cases hv
      have hlt:i < bs.length:=by have:=(List.getElem?_eq_some_iff.1 hi).1;omega
      obtain ⟨b,hb⟩:∃ b,bs[i]?=some b:=⟨bs[i],by simp⟩
      have hmem:=List.mem_of_getElem? hb
      obtain ⟨k,arr,TT,e1,e2,e3⟩:=s.boxes b y (h3' b hmem) (h3m b hmem) (hcs i b y hb hi)
      have hto:=zdO hn hb
      refine ⟨k,arr,TT,by rw [← hto];exact hbx k b (by simpa using hmem) e1,e2,?_⟩
      refine ziD hnn hbx hmf ?_ e3 (List.all_eq_true.1 h2 y (List.mem_of_getElem? hi))
      intro k j hk
      simp only [ownC,hk,Option.map_some,toOwn]
      rw [if_pos (by simpa using hmem),hto]
   ·simp only [ownC] at e e'
    cases q:own1 k with
    | none=>rw [q] at e;cases e
    | some y=>
      cases q':own1 k' with
      | none=>rw [q'] at e';cases e'
      | some y'=>
        rw [q] at e;rw [q'] at e'
        simp only [Option.map_some,Option.some.injEq] at e e'
        have:=ziw hn e e'
        subst this
        exact s.one k k' y q q'
   ·simp only [ownC] at e
    cases q:own1 k with
    | none=>rw [q] at e;cases e
    | some y=>exact s.lt k y q
  have hA:Args P (ownC bs own1) w (args.map (ren1 (toOut bs))) us:=by
   refine ⟨by simpa using hargs.1,fun j x v e1 e2=>?_⟩
   rw [List.getElem?_map] at e1
   cases hj:args[j]? with
   | none=>rw [hj] at e1;cases e1
   | some y=>
     rw [hj] at e1;cases e1
     rw [argR_r1 (ren1_nown (List.all_eq_true.1 h1 y (List.mem_of_getElem? hj)))]
     exact ren_r1 hnn hbx hmf (hargs.2 j y v hj e2) (List.all_eq_true.1 h1 y (List.mem_of_getElem? hj))
  refine (hcall _ w us hO hA).mono ?_
  rintro e w' ⟨u,own',rfl,tr,ho,hr⟩
  refine ⟨u,rfl,?_⟩
  dsimp only at h6
  split at h6
  ·rename_i hcond
   obtain ⟨g1,g2,g3,g4⟩:=hcond
   obtain ⟨s2,t2⟩:=call_back s hl hcs h3' h3m hn h5 g1 g2 g3 g4 tr ho (resR_rl g4 hr)
   exact h6 _ _ w' (by rw [zas];exact s2) (ht.trans t2) (put_defers _ _ _)
  ·exact h6.elim
 ·exact h.elim
theorem zgo {f:Operand} {args:Array Operand} {ats:Array TypeId} {g:FuncId} {caps:Array Value} {fn:Func} (ho:o.op=.call { callee:=.value f,args,argTypes:=ats })
 (hv:a.eval f=.func (.func g) #[] caps) (hf:P.funcs[g]?=some fn) (hname:(fn.name == "runtime.NumGoroutine")=false) (hb:fn.body.isNone=false) :
 (execOp a.eval o).run P w=.ok (.enter g (args.map a.eval++caps)) w:=by
 simp only [execOp,ho,resolve,hv,Deferred.ofValue,Sem.run_bind,Sem.run_pure,Result.andThen_ok,invoke,Array.empty_append]
 simp only [beq_eq_false_iff_ne,ne_eq] at hname
 simp only [Option.isNone_eq_false_iff] at hb
 simp [callFunc,hf,hname,Option.isSome_iff_ne_none.1 hb]
theorem op_call (hCE:∀ g args outs r outs',CE g args outs r outs'→CallE P g args outs r outs') (hF:WideF P F) (s:St P c.nt G own a w) {f:Operand} {args:Array Operand} {ats:Array TypeId} (ho:o.op=.call { callee:=.value f,args,argTypes:=ats })
 (h:(rdO f fun v=>match v with
 | .clo g caps=>rdL args.toList fun l=>cps l fun l U=>callRM c o.dst g (l++caps) U
 | _=>.fail:RM).wp CE G T (Kn P c.nt G own a w next)):o.wpIn F n P a w next Q:=by
 obtain ⟨v,T1,h1,h2⟩:=zJ s h
 split at h2
 ·rename_i g caps
  obtain ⟨vs,T2,h3,h4,h5⟩:=zdQ s h2
  obtain ⟨xs,W,T3,own1,k1,k2,k3,k4,k5,k6⟩:=zdZ (U:=[]) FrzOnly.nil s (us:=args.toList.map a.eval) ⟨by simp [h3],fun j v u e1 e2=>by
   rw [List.getElem?_map] at e2
   cases hj:args.toList[j]? with
   | none=>rw [hj] at e2;cases e2
   | some x=>rw [hj] at e2;cases e2;exact h4 j v x e1 hj⟩ h5
  simp only [List.nil_append] at k2 k3 k4 k6
  have k6:(gather 32 (addNew [] ((xs++caps).flatMap AV.ptrs)) [] fun bs cs=>callGo c o.dst g (xs++caps) W bs (frzAll W bs cs)).wp CE G T3 (Kn P c.nt G own a w next):=k6
  obtain ⟨bs,cs,T4,g1,g2,g3⟩:=zhK 32 k6 (fun i c h=>by simp at h)
  obtain ⟨z1,z2⟩:=zi7 W bs cs g1
  have hclo:R0 P (app W G) own1 w (.clo g caps) (a.eval f):=k3.r0 _ _ h1
  obtain ⟨arr,a1,a2,a3⟩:=hclo
  have hus:(args.map a.eval++arr).size=args.size+arr.size:=by simp
  have hxl:xs.length=args.size:=by have:=k4.1;simpa using this
  obtain ⟨hf,hcall⟩:=callGo_sound hCE k2 k3.tr (us:=args.map a.eval++arr) (args:=xs++caps) ⟨by simp [hxl,a2],fun j x u e1 e2=>by
   by_cases hj:j < xs.length
   ·rw [List.getElem?_append_left hj] at e1
    rw [Array.getElem?_append_left (by simpa [← hxl] using hj)] at e2
    have hr:=k4.2 j x u e1 (by simpa using e2)
    have hp:=k5 x (List.mem_of_getElem? e1)
    cases x<;>first | exact hr | simp [AV.plain1,AV.plain0] at hp
   ·have hle:xs.length≤j:=by omega
    rw [List.getElem?_append_right hle] at e1
    rw [Array.getElem?_append_right (by simpa [← hxl] using hle)] at e2
    have hr:=a3 (j - xs.length) x u e1 (by simpa [hxl] using e2)
    cases x<;>first | exact hr | exact hr.elim⟩ (by rw [z1]) (fun i b v e1 e2=>by
   obtain ⟨y,q1,rfl⟩:=z2 i b v e1 e2
   obtain ⟨b',q2,q3⟩:=g2 i y q1
   rw [e1] at q2;cases q2
   exact get_frzs b k1 q3) g3
  obtain ⟨fn,f1,f2,f3⟩:=hf
  refine zeA hF.fn (by simp [ho]) ?_
  rw [zgo ho a1 f1 f2 f3,Oper.uponIn_enter]
  refine ⟨fun e=>(by rw [hF.deep] at e;cases e),(hF.calls _ _ _ _ _ hcall).mono ?_⟩
  rintro e w' ⟨u,rfl,hn⟩
  exact hn
 ·exact h2.elim
variable (P) in
def IpOk (g:FuncId) (f:List FV→Option (List FV)) (back:Bool):Prop:=
 (∃ fn,P.funcs[g]?=some fn∧(fn.name == "runtime.NumGoroutine")=false∧fn.body.isNone=false)∧
 ∀ own w b o E l l' u,f l=some l'→(∀ k o',own k=some o'→k < w.heap.size)→(∀ k k' o,own k=some o→own k'=some o→k=k')→OwnL P own w b o E l u→
   Calls P g #[u] w fun e w'=>∃ r,e=.returned r∧w.heap.size≤w'.heap.size∧(∀ j,j < w.heap.size→own j≠some (.sl b o)→w'.heap[j]?=w.heap[j]?)∧w'.os=w.os∧w'.tape=w.tape∧w'.output=w.output∧
    (if back=true then OwnL P own w' b o E l' r else r=.tuple #[]∧∀ k n,OwnB P own w b o E k l n→OwnB P own w' b o E k l' n)
theorem zj3 (s:St P c.nt G own a w) {g:FuncId} {f:List FV→Option (List FV)} {back:Bool} (hip:IpOk P g f back) {d:Option Tmp} {b q:Nat} {E:TypeId} {l:List FV} {u:Value}
 (hl:look G b (some q)=some (.own E l)) (hv:OwnL P own w b q E l u) (h:(ipGo c d f back b q E l).wp CE G T (Kn P c.nt G own a w next)) :
 Calls P g #[u] w fun e w'=>∃ r,e=.returned r∧next (a.put d r) w':=by
 unfold ipGo at h
 split at h
 ·rename_i l' hf
  refine (hip.2 own w b q E l l' u hf s.lt s.one hv).mono ?_
  rintro e w' ⟨r,rfl,h1,h2,h3,h4,h5,h6⟩
  refine ⟨r,rfl,?_⟩
  split at h
  ·rename_i hback
   rw [if_pos hback] at h6
   split at h
   ·rename_i t
    split at h
    ·rename_i hlt
     obtain ⟨s1,_⟩:=s.bad b q
     obtain ⟨s2,t2⟩:=s1.world (zgN G b q) h1 h2 h3 h4 h5
     obtain ⟨s3,t3⟩:=s2.set_move hlt (zgN G b q) h6
     exact h _ _ w' s3 (t2.trans t3) rfl
    ·exact h.elim
   ·exact h.elim
  ·rename_i hback
   rw [if_neg hback] at h6
   obtain ⟨rfl,h7⟩:=h6
   split at h
   ·rename_i hlen
    obtain ⟨s1,K1⟩:=s.upos hl hlen h1 h2 h3 h4 h5 (fun h=>h7 _ _ h)
    exact zM (U:=[.upo b q (.own E l')]) s1 K1.tr (v:=.tup []) ⟨#[],rfl,rfl,fun j x v h=>by simp at h⟩ h
   ·exact h.elim
 ·exact h.elim
theorem op_ip (hF:WideF P F) (s:St P c.nt G own a w) {g:FuncId} {f:List FV→Option (List FV)} {back:Bool} (hip:IpOk P g f back) {t:Tmp} {ats:Array TypeId} (ho:o.op=.call { callee:=.value (.func g),args:=#[.tmp t],argTypes:=ats })
 (h:(ipRM c o.dst f back t).wp CE G T (Kn P c.nt G own a w next)):o.wpIn F n P a w next Q:=by
 obtain ⟨fn,f1,f2,f3⟩:=hip.1
 have fin:(Calls P g #[a.eval (.tmp t)] w fun e w'=>∃ r,e=.returned r∧next (a.put o.dst r) w')→o.wpIn F n P a w next Q:=by
  intro hc
  refine zeA hF.fn (by simp [ho]) ?_
  rw [zgo (caps:=#[]) ho rfl f1 f2 f3,Oper.uponIn_enter]
  refine ⟨fun e=>(by rw [hF.deep] at e;cases e),(hF.calls _ _ _ _ _ (by simpa using hc)).mono ?_⟩
  rintro e w' ⟨u,rfl,hn⟩
  exact hn
 obtain ⟨v,T1,h1,h2⟩:=zaM h
 have hr:=s.temp h1
 split at h2
 ·rename_i b q i m
  obtain ⟨y,T2,h3,h4⟩:=zaM h2
  split at h4
  ·rename_i E l
   split at h4
   ·rename_i hcond
    obtain ⟨rfl,rfl⟩:=hcond
    have hown:=(zeE h3 hr).2
    rw [List.take_length] at hown
    exact fin (zj3 s hip h3 hown h4)
   ·exact h4.elim
  ·exact h4.elim
 ·rename_i E l
  exact fin (zj3 s hip (za6 h1 rfl) hr h2)
 ·exact h2.elim
variable (P) in
def GrOk (g:FuncId) (E:TypeId):Prop:=
 (∃ fn,P.funcs[g]?=some fn∧(fn.name == "runtime.NumGoroutine")=false∧fn.body.isNone=false)∧
 ∀ w (n:Int),0≤n→n≤2 ^ 40→Calls P g #[.slice none 0 0,.int .i64 n] w fun e w'=>
   (e=.returned (.slice none 0 0)∧w'=w)∨∃ cap arr m,e=.returned (.slice (some ⟨w.heap.size,0,none⟩) 0 cap)∧w'=({ w with drawn:=m }:World).alloc (.cells arr E)∧cap * esz P E≤arr.size
variable (P) in
def IpsOk (c:Cfg):Prop:=(∀ g f back,c.ip g=some (f,back)→IpOk P g f back)∧(∀ g E,c.gr g=some E→GrOk P g E)∧EqsOk P c∧∀ g h,c.nw g=some h→NwOk P g h
theorem op_grow (hF:WideF P F) (s:St P c.nt G own a w) {g:FuncId} {E:TypeId} (hgr:GrOk P g E) {y:Operand} {ats:Array TypeId} (ho:o.op=.call { callee:=.value (.func g),args:=#[.const (.slice none 0 0),y],argTypes:=ats })
 (h:(rdO y (growRM c o.dst E)).wp CE G T (Kn P c.nt G own a w next)):o.wpIn F n P a w next Q:=by
 obtain ⟨fn,f1,f2,f3⟩:=hgr.1
 obtain ⟨v,T1,h1,h2⟩:=zJ s h
 unfold growRM at h2
 split at h2
 ·rename_i n
  split at h2
  ·rename_i hn
   have hv:a.eval y=.int .i64 n:=zbt (P:=P) (G:=G) (own:=own) (w:=w) h1
   refine zeA hF.fn (by simp [ho]) ?_
   rw [zgo (caps:=#[]) ho rfl f1 f2 f3,Oper.uponIn_enter]
   refine ⟨fun e=>(by rw [hF.deep] at e;cases e),(hF.calls _ _ _ _ _ ?_)⟩
   have hargs:(#[Operand.const (.slice none 0 0),y].map a.eval++#[]:Array Value)=#[.slice none 0 0,.int .i64 n]:=by
    have e1:(#[Operand.const (.slice none 0 0),y].map a.eval:Array Value)=#[a.eval (.const (.slice none 0 0)),a.eval y]:=by simp
    rw [e1,hv];rfl
   rw [hargs]
   refine (hgr.2 w n hn.1 hn.2).mono ?_
   rintro e w' (⟨rfl,rfl⟩ | ⟨cap,arr,m,rfl,rfl,hcap⟩)
   ·cases hd:o.dst with
    | none=>rw [hd] at h2;exact h2.elim
    | some t=>
      rw [hd] at h2
      unfold finNew at h2
      dsimp only at h2
      by_cases hlt:t < c.nt
      ·rw [if_pos hlt] at h2
       refine (show Kn P c.nt G own a w' next [.set (tb t) (.own E [])] T1 from h2) own _ _ ?_ (Tr.refl _ _) rfl
       exact (s.set_pure hlt (show OwnL P own _ (tb t) 0 E [] _ from ⟨none,0,rfl,Nat.le_refl _,.inl ⟨rfl,rfl,rfl⟩⟩))
      ·rw [if_neg hlt] at h2;exact h2.elim
   ·obtain ⟨s1,t1⟩:=s.drawn m
    exact zdJ (c:=c) (w:={ w with drawn:=m }) (U:=[]) (l:=[]) (cap:=cap) (arr:=arr) (G:=G) (own:=own) (own':=own) s1 (Tr.refl _ _) (n0:=w.heap.size) (Nat.le_refl _) (by simp) (fun k hk=>zaH _ _ hk) rfl rfl rfl (zaV _ _) (Nat.zero_le _) hcap (fun x hx=>by cases hx) (fun i x j y h=>by simp at h)
     (show (finNew c o.dst [] E []).wp CE G T1 (Kn P c.nt G own a { w with drawn:=m } next) from RM.wp_mono (fun U' T' hk own' a' w' s' t' d'=>hk own' a' w' s' (t1.trans t') d') _ _ h2)
  ·exact h2.elim
 ·exact h2.elim
theorem op_nw (hF:WideF P F) (s:St P c.nt G own a w) {g:FuncId} {hh:List AV→Option AV} (hnw:NwOk P g hh) {args:Array Operand} {ats:Array TypeId} (ho:o.op=.call { callee:=.value (.func g),args,argTypes:=ats })
 (h:(rdL args.toList fun l=>cps l fun l U=>nwGo c o.dst hh l U).wp CE G T (Kn P c.nt G own a w next)):o.wpIn F n P a w next Q:=by
 obtain ⟨fn,f1,f2,f3⟩:=hnw.1
 obtain ⟨vs,T2,h3,h4,h5⟩:=zdQ s h
 obtain ⟨xs,W,T3,own1,k1,k2,k3,k4,k5,k6⟩:=zdZ (U:=[]) FrzOnly.nil s (us:=args.toList.map a.eval) ⟨by simp [h3],fun j v u e1 e2=>by
  rw [List.getElem?_map] at e2
  cases hj:args.toList[j]? with
  | none=>rw [hj] at e2;cases e2
  | some x=>rw [hj] at e2;cases e2;exact h4 j v x e1 hj⟩ h5
 simp only [List.nil_append] at k2 k3 k4 k6
 unfold nwGo at k6
 split at k6
 ·rename_i hsh
  split at k6
  ·rename_i v hv
   split at k6
   ·rename_i hsv
    split at k6
    ·rename_i t hd
     split at k6
     ·rename_i hlt
      have hxl:xs.length=args.size:=by have:=k4.1;simpa using this
      have hO:Outs P (ownC [] own1) w []:=by
       refine ⟨fun i v hv=>by simp at hv,fun k k' x e e'=>?_,fun k x e=>?_⟩
       ·simp only [ownC] at e e'
        cases q:own1 k with
        | none=>rw [q] at e;cases e
        | some y=>
          cases q':own1 k' with
          | none=>rw [q'] at e';cases e'
          | some y'=>
            rw [q] at e;rw [q'] at e'
            simp only [Option.map_some,Option.some.injEq] at e e'
            have:=ziw (bs:=[]) List.nodup_nil e e'
            subst this
            exact k2.one k k' y q q'
       ·simp only [ownC] at e
        cases q:own1 k with
        | none=>rw [q] at e;cases e
        | some y=>exact k2.lt k y q
      have hA:Args P (ownC [] own1) w xs (args.map a.eval):=by
       refine ⟨by simp [hxl],fun j x u e1 e2=>?_⟩
       have hr:=k4.2 j x u e1 (by simpa using e2)
       have hp:=k5 x (List.mem_of_getElem? e1)
       have hr1:R1 P (app W G) own1 w x u:=by cases x<;>first | exact hr | simp [AV.plain1,AV.plain0] at hp
       have:=ren_r1 (P:=P) (G':=[]) (own':=ownC [] own1) (p:=fun _=>false) (f:=id) (fun k hk=>by simp [ownC,hk]) (fun _ _ h=>by cases h) (fun _ h=>by cases h) hr1 (List.all_eq_true.1 hsh x (List.mem_of_getElem? e1))
       rw [ziE] at this
       rw [argR_r1 (zjM (List.all_eq_true.1 hsh x (List.mem_of_getElem? e1)))];exact this
      refine zeA hF.fn (by simp [ho]) ?_
      rw [zgo (caps:=#[]) ho rfl f1 f2 f3,Oper.uponIn_enter]
      refine ⟨fun e=>(by rw [hF.deep] at e;cases e),(hF.calls _ _ _ _ _ ((hnw.2 _ w xs _ v hsh hv hO (by simpa using hA)).mono ?_))⟩
      rintro e w' ⟨k,own',arr,TT,b0,rfl,tr,ho',e1,e2,e3⟩
      obtain ⟨s1,t1,q1⟩:=k2.newres (b:=xb t) (by simp only [xb];omega) (ziX t) tr ho' e1 e2 e3 hsv
      have s2:=s1.set_view (t:=t) hlt (v:=.ptr (xb t) 0) (u:=.pointer (some ⟨k,0,none⟩)) ⟨k,q1,by rw [ziX];rfl⟩ rfl
      rw [hd]
      exact k6 _ _ _ (by rw [zas];exact s2) (k3.tr.trans t1) rfl
     ·exact k6.elim
    ·exact k6.elim
   ·exact k6.elim
  ·exact k6.elim
 ·exact k6.elim
def Owner.slAt (b:Nat):Owner→Bool
 | .sl c _=>c == b
 | _=>false
def ovC (b q:Nat) (own:Own):Own:=fun k=>(own k).map fun o=>if o=.sl b q then .sl (tb 0) 0 else .al o
def ovOwn (gp b q:Nat) (own own':Own):Own:=fun k=>
 match own k with
 | some o=>if o=.sl b q then (if own' k=some (.sl 0 0) then some (.sl gp 0) else none) else if o.slAt gp=true then none else some o
 | none=>if own' k=some (.sl 0 0) then some (.sl gp 0) else none
theorem ownl_to {own own':Own} {w:World} {b q b' q':Nat} (hn:∀ k,own k=none→own' k=none) (hs:∀ k,own k=some (.sl b q)→own' k=some (.sl b' q')) {E:TypeId} {l:List FV} {u:Value} (h:OwnL P own w b q E l u):OwnL P own' w b' q' E l u:=by
 obtain ⟨a,c,e1,e2,e3⟩:=h
 refine ⟨a,c,e1,e2,e3.imp id ?_⟩
 rintro ⟨k,e4,e5,arr,e6,e7,e8,e9⟩
 exact ⟨k,e4,hs _ e5,arr,e6,e7,e8,fun i x j y h1 h2=>let ⟨z,q1,q2⟩:=e9 i x j y h1 h2;⟨z,q1,q2.mono0 hn⟩⟩
section
variable {own' : Own} {w' : World} {b q gp : Nat} {G1 : Sta}
theorem ov_al {k:Nat} {o:Owner} (tr:Tr (ovC b q own) w own' w') (h:own k=some o) (hne:o≠.sl b q):own' k=some (.al o)∧w'.heap[k]?=w.heap[k]?:=
 tr.al k o (by simp [ovC,h,hne])
theorem ov_none {k:Nat} (tr:Tr (ovC b q own) w own' w') (hk:k < w.heap.size) (h:own k=none):own' k=none∧w'.heap[k]?=w.heap[k]?:=
 tr.keep k hk (by simp [ovC,h])
theorem zgu {k:Nat} {o:Owner} (h:own k=some o) (hne:o≠.sl b q) (hs:o.slAt gp=false):ovOwn gp b q own own' k=some o:=by
 simp [ovOwn,h,hne,hs]
theorem zeb {k:Nat} {o:Owner} (h:ovOwn gp b q own own' k=some o):(own k=some o∧o≠.sl b q∧o.slAt gp=false)∨(own' k=some (.sl 0 0)∧o=.sl gp 0):=by
 unfold ovOwn at h
 split at h
 ·rename_i x hx
  split at h
  ·split at h
   ·rename_i h1 h2;cases h;exact .inr ⟨h2,rfl⟩
   ·cases h
  ·split at h
   ·cases h
   ·rename_i h1 h2;cases h;exact .inl ⟨hx,h1,by simpa using h2⟩
 ·split at h
  ·rename_i h2;cases h;exact .inr ⟨h2,rfl⟩
  ·cases h
theorem ziI {k:Nat} (tr:Tr (ovC b q own) w own' w') (h:own' k=some (.sl 0 0)):ovOwn gp b q own own' k=some (.sl gp 0):=by
 unfold ovOwn
 split
 ·rename_i o ho
  by_cases e:o=.sl b q
  ·rw [if_pos e,if_pos h]
  ·rw [(ov_al tr ho e).1] at h;cases h
 ·rw [if_pos h]
theorem zdR {k:Nat} (tr:Tr (ovC b q own) w own' w') (h:own' k=none):ovOwn gp b q own own' k=none:=by
 cases e:ovOwn gp b q own own' k with
 | none=>rfl
 | some o=>
   rcases zeb e with ⟨e1,e2,_⟩ | ⟨e1,_⟩
   ·rw [(ov_al tr e1 e2).1] at h;cases h
   ·rw [h] at e1;cases e1
theorem ov_tr (s:St P c.nt G1 own a w) (tr:Tr (ovC b q own) w own' w'):Tr own w (ovOwn gp b q own own') w':=
 ⟨tr.size,fun k hk h=>⟨zdR tr (ov_none tr hk h).1,(ov_none tr hk h).2⟩,tr.os,tr.tape,tr.output,
   fun k o h=>⟨zgu h (by simp) rfl,(ov_al tr h (by simp)).2⟩,fun k c _ h=>zgu h (by simp) rfl⟩
theorem ov_box {k c:Nat} (tr:Tr (ovC b q own) w own' w') (h:own k=some (.box c)):ovOwn gp b q own own' k=some (.box c)∧w'.heap[k]?=w.heap[k]?:=
 ⟨zgu h (by simp) rfl,(ov_al tr h (by simp)).2⟩
theorem ov_ownB (s:St P c.nt G1 own a w) (tr:Tr (ovC b q own) w own' w') (hd:Dead G1 b q) {d p k n:Nat} {E:TypeId} {l:List FV} (hg:d≠gp) (hl:look G1 d (some p)=some (.own E l)) (h:OwnB P own w d p E k l n):OwnB P (ovOwn gp b q own own') w' d p E k l n:=by
 have hne:Owner.sl d p≠.sl b q:=by
  intro e;simp only [Owner.sl.injEq] at e;obtain ⟨rfl,rfl⟩:=e;exact hd _ _ hl
 exact h.mono (ov_tr s tr) (zgu h.1 hne (by simp [Owner.slAt,hg])) (ov_al tr h.1 hne).2
theorem ov_one (s:St P c.nt G1 own a w) (ho:Outs P own' w' []) (k k':Nat) (o:Owner) (h:ovOwn gp b q own own' k=some o) (h':ovOwn gp b q own own' k'=some o):k=k':=by
 rcases zeb h with ⟨e1,_,e3⟩ | ⟨e1,e2⟩<;>rcases zeb h' with ⟨f1,_,f3⟩ | ⟨f1,f2⟩
 ·exact s.one k k' o e1 f1
 ·subst f2;simp [Owner.slAt] at e3
 ·subst e2;simp [Owner.slAt] at f3
 ·exact ho.one k k' _ e1 f1
theorem ov_lt (s:St P c.nt G1 own a w) (tr:Tr (ovC b q own) w own' w') (ho:Outs P own' w' []) (k:Nat) (o:Owner) (h:ovOwn gp b q own own' k=some o):k < w'.heap.size:=by
 rcases zeb h with ⟨e1,_⟩ | ⟨e1,_⟩
 ·exact Nat.lt_of_lt_of_le (s.lt k o e1) tr.size
 ·exact ho.lt k _ e1
theorem St.ghost (s:St P c.nt G1 own a w) (hg:isG gp=true) (tr:Tr (ovC b q own) w own' w') (ho:Outs P own' w' []) (hd:Dead G1 b q) {E:TypeId} {l:List FV} {u:Value} (hv:OwnL P own' w' 0 0 E l u) :
 St P c.nt ((Up.set gp (.own E l)).app G1) (ovOwn gp b q own own') a w':=by
 have hb1:=isG_box hg
 have ht:=ov_tr (gp:=gp) s tr
 have K:Keep P G1 own w ((Up.set gp (.own E l)).app G1) (ovOwn gp b q own own') w' (Up.set gp (.own E l)).kill (live (Up.set gp (.own E l)).kill):=by
  refine zbS (by intros;simp) (by intros;simp) ht (fun k b off h _=>(ov_box tr h).1) ?_
  intro d p E l k n hl hlk h
  refine ov_ownB s tr hd ?_ hlk h
  intro e;subst e;simp [live,Up.kill,killr] at hl
 refine s.step K s.size ?_ ?_ (ov_one s ho) (ov_lt s tr ho)
 ·intro t v' hgt
  have hrb:tb t≠gp:=by intro e;subst e;simp [tb] at hb1
  simp only [Up.app,zaK,zab,if_neg hrb] at hgt
  cases hx:get G1 (tb t) with
  | none=>rw [hx] at hgt;cases hgt
  | some x=>rw [hx] at hgt;cases hgt;exact .inr ⟨x,rfl,rfl,rfl,fun o=>zaf (fun e=>hrb e.1)⟩
 ·intro d v' hc hgt
  by_cases hcb:d=gp
  ·subst hcb
   simp only [Up.app,zaK,if_true] at hgt
   cases hgt
   refine .inr (.inl ⟨isM_G hg,fun hm=>(isG_MM hm hg).elim,fun _=>⟨rfl,u,?_⟩⟩)
   exact ownl_to (fun k h=>zdR tr h) (fun k h=>ziI tr h) hv
  ·simp only [Up.app,zaK,zab,if_neg hcb] at hgt
   cases hx:get G1 d with
   | none=>rw [hx] at hgt;cases hgt
   | some x=>
     rw [hx] at hgt;cases hgt
     exact .inr (.inr ⟨x,rfl,rfl,fun o=>zaf (fun e=>hcb e.1),fun k hk'=>ov_box tr hk'⟩)
end
theorem ovGo_sound (hCE:∀ g args outs r outs',CE g args outs r outs'→CallE P g args outs r outs') (s:St P c.nt G own a w) {g:FuncId} {d:Option Tmp} {b q:Nat} {E:TypeId} {l:List FV} {xs:List AV} {u0:Value} {us:Array Value}
 (hl:look G b (some q)=some (.own E l)) (hv:OwnL P own w b q E l u0)
 (hargs:xs.length=us.size∧∀ (j:Nat) x u,xs[j]?=some x→us[j]?=some u→R1 P G own w x u)
 (h:(ovGo c d g b q E l xs).wp CE G T (Kn P c.nt G own a w next)) :
 (∃ fn,P.funcs[g]?=some fn∧(fn.name == "runtime.NumGoroutine")=false∧fn.body.isNone=false)∧Calls P g (#[u0]++us) w fun e w'=>∃ u,e=.returned u∧next (a.put d u) w':=by
 unfold ovGo at h
 split at h
 ·rename_i t hsh
  obtain ⟨r,outs,hce,h6⟩:=h
  obtain ⟨hf,hcall⟩:=hCE _ _ _ _ _ hce
  refine ⟨hf,?_⟩
  have hnn:∀ k,own k=none→ovC b q own k=none:=fun k hk=>by simp [ovC,hk]
  have hO:Outs P (ovC b q own) w []:=by
   refine ⟨fun i v hv=>by simp at hv,fun k k' x e e'=>?_,fun k x e=>?_⟩
   ·simp only [ovC] at e e'
    cases z:own k with
    | none=>rw [z] at e;cases e
    | some y=>
      cases z':own k' with
      | none=>rw [z'] at e';cases e'
      | some y'=>
        rw [z] at e;rw [z'] at e'
        simp only [Option.map_some,Option.some.injEq] at e e'
        have:y=y':=by
         split at e<;>split at e'
         ·rename_i h1 h2;rw [h1,h2]
         ·rw [← e] at e';cases e'
         ·rw [← e] at e';cases e'
         ·rw [← e] at e';cases e';rfl
        subst this
        exact s.one k k' y z z'
   ·simp only [ovC] at e
    cases z:own k with
    | none=>rw [z] at e;cases e
    | some y=>exact s.lt k y z
  have hA:Args P (ovC b q own) w (.own E l :: xs) (#[u0]++us):=by
   refine ⟨by simp [hargs.1];omega,fun j x v e1 e2=>?_⟩
   cases j with
   | zero=>
     rw [Array.getElem?_append_left (by simp)] at e2
     simp at e1 e2
     subst e1 e2
     exact ownl_to hnn (fun k hk=>by simp [ovC,hk]) hv
   | succ j=>
     simp only [List.getElem?_cons_succ] at e1
     have e2':us[j]?=some v:=by rw [Array.getElem?_append_right (by simp)] at e2;simpa using e2
     have hx:=List.all_eq_true.1 hsh x (List.mem_of_getElem? e1)
     rw [argR_r1 (zjM hx)]
     have:=ren_r1 (P:=P) (G':=[]) (own':=ovC b q own) (p:=fun _=>false) (f:=id) hnn (fun _ _ h=>by cases h) (fun _ h=>by cases h) (hargs.2 j x v e1 e2') hx
     rwa [ziE] at this
  refine (hcall _ w _ hO hA).mono ?_
  rintro e w' ⟨u,own',rfl,tr,ho,hr⟩
  refine ⟨u,rfl,?_⟩
  dsimp only at h6
  split at h6
  ·rename_i hcond
   obtain ⟨hlt,rfl⟩:=hcond
   obtain ⟨s1,_⟩:=s.bad b q
   have hd:=zgN G b q
   split at h6
   ·rename_i E' l'
    have hr:OwnL P own' w' 0 0 E' l' u:=hr
    refine h6 (ovOwn (tb t) b q own own') _ w' ?_ (ov_tr s tr) rfl
    refine s1.set hlt (ov_tr s1 tr) (fun k b h=>ov_box tr h) (fun d p E l k n hne hlk h=>ov_ownB s1 tr hd hne hlk h) ?_ (ov_one s ho) (ov_lt s tr ho)
    exact ownl_to (fun k h=>zdR tr h) (fun k h=>ziI tr h) hr
   ·rename_i E' l' rs
    split at h6
    ·rename_i hrs
     simp only [Bool.and_eq_true] at hrs
     obtain ⟨hrs,hfr⟩:=hrs
     obtain ⟨v,arr,rfl,hsz,hv0,hvl,hvr⟩:=hr
     have s2:=s1.ghost (gp:=gb t) (isG_gb t) tr ho hd hvl
     refine h6 (ovOwn (gb t) b q own own') _ w' ?_ (ov_tr s tr) rfl
     have hgt:look (app [.leaf b q .bad,.set (gb t) (.own E' l')] G) (gb t) (some 0)=some (.own E' l'):=by
      simp [app,Up.app,look,zaK,AV.leaves,AV.isLeaf]
     refine s2.set_view (t:=t) hlt (v:=.tup (.rf (gb t) 0 0 l'.length :: rs)) (u:=.tuple arr) ⟨arr,rfl,by simpa using hsz,fun j x y e1 e2=>?_⟩ ?_
     ·cases j with
      | zero=>
        simp at e1;subst e1
        rw [hv0] at e2;cases e2
        obtain ⟨aa,cc,f1,f2,f3⟩:=ownl_to (own':=ovOwn (gb t) b q own own') (b':=gb t) (q':=0) (fun k h=>zdR tr h) (fun k h=>ziI tr h) hvl
        show SlV P _ _ _ _ _ _ _ _
        unfold SlV
        have hgt':look ((Up.set (gb t) (.own E' l')).app ((Up.leaf b q .bad).app G)) (gb t) (some 0)=some (.own E' l'):=hgt
        rw [hgt']
        refine ⟨by omega,aa,cc,f1,f2,f3.imp id ?_⟩
        rintro ⟨k,f4,f5⟩
        exact ⟨k,by rw [f4];simp,by rw [Nat.zero_add];exact f5⟩
      | succ j=>
        simp only [List.getElem?_cons_succ] at e1
        have hx:=List.all_eq_true.1 hrs x (List.mem_of_getElem? e1)
        have:=ren_r1 (P:=P) (G:=[]) (G':=(Up.set (gb t) (.own E' l')).app ((Up.leaf b q .bad).app G)) (own':=ovOwn (gb t) b q own own') (p:=fun _=>false) (f:=id) (fun k h=>zdR tr h) (fun _ _ h=>by cases h) (fun _ h=>by cases h) (hvr j x y e1 e2) hx
        rwa [ziE] at this
     ·exact hfr
    ·exact h6.elim
   ·exact h6.elim
  ·exact h6.elim
 ·exact h.elim
theorem op_ov (hCE:∀ g args outs r outs',CE g args outs r outs'→CallE P g args outs r outs') (hF:WideF P F) (s:St P c.nt G own a w) {g:FuncId} {t:Tmp} {rest:List Operand} {args:Array Operand} {ats:Array TypeId}
 (ho:o.op=.call { callee:=.value (.func g),args,argTypes:=ats }) (hargs:args.toList=.tmp t :: rest) (h:(ovRM c o.dst g t rest).wp CE G T (Kn P c.nt G own a w next)):o.wpIn F n P a w next Q:=by
 unfold ovRM at h
 obtain ⟨vs,T2,h3,h4,h5⟩:=zdQ s h
 obtain ⟨xs,W,T3,own1,k1,k2,k3,k4,k5,k6⟩:=zdZ (U:=[]) FrzOnly.nil s (us:=rest.map a.eval) ⟨by simp [h3],fun j v u e1 e2=>by
  rw [List.getElem?_map] at e2
  cases hj:rest[j]? with
  | none=>rw [hj] at e2;cases e2
  | some x=>rw [hj] at e2;cases e2;exact h4 j v x e1 hj⟩ h5
 simp only [List.nil_append] at k2 k3 k4 k6
 have k6':∃ b q E l,look (app W G) b (some q)=some (.own E l)∧OwnL P own1 w b q E l (a.eval (.tmp t))∧(∃ T',(ovGo c o.dst g b q E l xs).wp CE (app W G) T' (Kn P c.nt (app W G) own1 a w next)):=by
  split at k6
  ·obtain ⟨v,T4,g1,g2⟩:=zaM k6
   have hr:=(show St P c.nt G own1 a w from k2).temp g1
   have kn:∀ {U T},Kn P c.nt G own a w next U T→Kn P c.nt (app [] G) own1 a w next U T:=fun hk own' a' w' s' t' d'=>hk own' a' w' s' (k3.tr.trans t') d'
   split at g2
   ·rename_i E l
    exact ⟨_,_,E,l,za6 g1 rfl,hr,_,RM.wp_mono (fun U T hk=>kn hk) _ _ g2⟩
   ·rename_i b q i m
    obtain ⟨y,T5,g3,g4⟩:=zaM g2
    split at g4
    ·rename_i E l
     split at g4
     ·rename_i hcond
      obtain ⟨rfl,rfl⟩:=hcond
      have hown:=(zeE g3 hr).2
      rw [List.take_length] at hown
      exact ⟨_,_,E,l,g3,hown,_,RM.wp_mono (fun U T hk=>kn hk) _ _ g4⟩
     ·exact g4.elim
    ·exact g4.elim
   ·exact g2.elim
  ·exact k6.elim
 obtain ⟨b,q,E,l,e1,e2,T6,e3⟩:=k6'
 have hxl:xs.length=rest.length:=by have:=k4.1;simpa using this
 obtain ⟨⟨fn,f1,f2,f3⟩,hcall⟩:=ovGo_sound hCE k2 e1 e2 (us:=(rest.map a.eval).toArray) ⟨by simp [hxl],fun j x u q1 q2=>by
  have hr:=k4.2 j x u q1 (by simpa using q2)
  have hp:=k5 x (List.mem_of_getElem? q1)
  cases x<;>first | exact hr | simp [AV.plain1,AV.plain0] at hp⟩ e3
 have hav:args.map a.eval++#[]=#[a.eval (.tmp t)]++(rest.map a.eval).toArray:=by
  cases args with
  | mk l0=>simp only at hargs;subst hargs;simp
 refine zeA hF.fn (by simp [ho]) ?_
 rw [zgo (caps:=#[]) ho rfl f1 f2 f3,Oper.uponIn_enter,hav]
 refine ⟨fun e=>(by rw [hF.deep] at e;cases e),(hF.calls _ _ _ _ _ hcall).mono ?_⟩
 rintro e w' ⟨u,rfl,hn⟩
 exact hn
theorem op_calls (hip:IpsOk P c) (hCE:∀ g args outs r outs',CE g args outs r outs'→CallE P g args outs r outs') (hF:WideF P F) (s:St P c.nt G own a w) {f:Operand} {args:Array Operand} {ats:Array TypeId} (ho:o.op=.call { callee:=.value f,args,argTypes:=ats })
 (h:(match ipOf c f args.toList with
 | some (_,f,back,t)=>ipRM c o.dst f back t
 | none=>match grOf c f args.toList with
   | some (_,E,y)=>rdO y (growRM c o.dst E)
   | none=>match nwOf c f with
     | some (_,h)=>rdL args.toList fun l=>cps l fun l U=>nwGo c o.dst h l U
     | none=>match ovOf c f args.toList with
       | some (g,t,rest)=>ovRM c o.dst g t rest
       | none=>rdO f fun v=>match v with
         | .clo g caps=>rdL args.toList fun l=>cps l fun l U=>callRM c o.dst g (l++caps) U
         | _=>.fail:RM).wp CE G T (Kn P c.nt G own a w next)):o.wpIn F n P a w next Q:=by
 split at h
 ·rename_i g f' back t hq
  unfold ipOf at hq
  split at hq
  ·rename_i g' t' hargs
   simp only [Option.map_eq_some_iff] at hq
   obtain ⟨⟨f2,b2⟩,h1,h2⟩:=hq
   simp only [Prod.mk.injEq] at h2
   obtain ⟨rfl,rfl,rfl,rfl⟩:=h2
   have:args=#[.tmp t']:=by cases args with | mk l=>simp at hargs;rw [hargs]
   rw [this] at ho
   exact op_ip hF s (hip.1 _ _ _ h1) ho h
  ·cases hq
 ·split at h
  ·rename_i x hq
   unfold grOf at hq
   split at hq
   ·rename_i y2 hargs hz
    simp only [Option.map_eq_some_iff] at hq
    obtain ⟨E',h1,h2⟩:=hq
    have hx:args=#[.const (.slice none 0 0),y2]:=by cases args with | mk l=>simp at hargs;rw [hargs]
    simp only [Prod.mk.injEq] at h2
    obtain ⟨e1,e2,e3⟩:=h2
    rw [hx] at ho
    rw [← e2,← e3] at h
    exact op_grow hF s (hip.2.1 _ _ h1) ho h
   ·cases hq
  ·split at h
   ·rename_i g h0 hq
    unfold nwOf at hq
    split at hq
    ·rename_i g'
     simp only [Option.map_eq_some_iff] at hq
     obtain ⟨h1,e1,e2⟩:=hq
     simp only [Prod.mk.injEq] at e2
     obtain ⟨rfl,rfl⟩:=e2
     exact op_nw hF s (hip.2.2.2 _ _ e1) ho h
    ·cases hq
   ·split at h
    ·rename_i g0 t0 rest0 hq
     unfold ovOf at hq
     split at hq
     ·rename_i g1 t1 r1 hargs
      split at hq
      ·simp only [Option.some.injEq,Prod.mk.injEq] at hq
       obtain ⟨rfl,rfl,rfl⟩:=hq
       exact op_ov hCE hF s ho (by assumption) h
      ·cases hq
     ·cases hq
    ·exact op_call hCE hF s ho h
end
end Go.Ev
namespace Go.Ev
open Go Go.RowKit
variable {P : Program}
section
variable {CE : CEx} {c : Cfg} {G : Sta} {own : Own} {a : Act} {w : World} {T : List Acc} {next : Act → World → Prop}
variable {F : Fence} {n : Nat} {o : Oper} {Q : Exit → Act → World → Prop}
end
end Go.Ev
namespace Go.Ev
open Go Go.RowKit
variable {P : Program}
section
variable {CE : CEx} {c : Cfg} {G : Sta} {own : Own} {a : Act} {w : World} {T : List Acc} {next : Act → World → Prop}
variable {F : Fence} {n : Nat} {o : Oper} {Q : Exit → Act → World → Prop}
theorem zfB {α β:Type} {f:α→β→Sem (ForInStep β)} {g:β→α→β}:∀ (l:List α) (b:β),(∀ x∈l,∀ b,(f x b).run P w=.ok (.yield (g b x)) w)→(forIn l b f).run P w=.ok (l.foldl g b) w
 | [],b,_=>by rw [List.forIn_nil];rfl
 | x :: l,b,h=>by
   rw [List.forIn_cons,Sem.run_bind,h x (List.mem_cons_self ..) b]
   exact zfB l (g b x) fun y hy=>h y (List.mem_cons_of_mem _ hy)
def byteV:Value→UInt8
 | .int .u8 n=>UInt8.ofNat n.toNat
 | _=>0
theorem zj5:∀ (us:List Value) (s:ByteArray),us.foldl (fun s v=>s.push (byteV v)) s=⟨s.data++(us.map byteV).toArray⟩
 | [],s=>by simp
 | v :: us,s=>by
   rw [List.foldl_cons,zj5 us]
   cases s
   simp [ByteArray.push]
theorem zhd {ad:Addr} {len cap:Nat} {us:List Value} (hl:(loadCells ad len).run P w=.ok us.toArray w) (hb:∀ v∈us,∃ n,v=.int .u8 n) :
 (Conv.bytesToString (.slice (some ad) len cap)).run P w=.ok (.string ⟨(us.map byteV).toArray⟩) w:=by
 unfold Conv.bytesToString
 simp only [Sem.run_bind,hl,Result.andThen_ok]
 rw [← Array.forIn_toList,zfB (g:=fun s v=>s.push (byteV v))]
 ·simp only [Result.andThen_ok,zj5]
  simp
 ·intro x hx b
  obtain ⟨n,rfl⟩:=hb x (by simpa using hx)
  rfl
theorem zhc (e:TypeId) (s:ByteArray):∃ cap w',(Conv.stringToBytes e s).run P w=.ok (.slice (some ⟨w.heap.size,0,none⟩) s.size cap) w'∧s.size≤cap∧w.heap.size < w'.heap.size∧(∀ j,j < w.heap.size→w'.heap[j]?=w.heap[j]?)∧
 w'.os=w.os∧w'.tape=w.tape∧w'.output=w.output∧∃ arr fr,w'.heap[w.heap.size]?=some (.cells arr e fr)∧∀ (j:Nat) b,s.data.toList[j]?=some b→arr[j]?=some (.int .u8 b.toNat):=by
 unfold Conv.stringToBytes markStringish
 simp only [Sem.run_bind,run_choose,Question.forced,World.drew_eq,newRow,run_newObj,Sem.run_pure,Result.andThen_ok,World.alloc_eq,World.size_drew]
 have hsh:∀ (r:Nat) (w:World),(shape r).run P w=.ok (w.shape? r) w:=fun _ _=>rfl
 have hfr:∀ (x:Addr) (n:Nat) (w:World),(freeze x n).run P w=.ok () (w.freeze x n):=fun _ _ _=>rfl
 simp only [Bool.false_eq_true,if_false,Result.andThen_ok,World.size_drew,hsh]
 obtain ⟨cap,hcap⟩:∃ cap,cap=(Question.appendCap s.size 0 e).cut (w.tape w.drawn (Question.appendCap s.size 0 e)):=⟨_,rfl⟩
 rw [← hcap]
 obtain ⟨arr,harr⟩:∃ arr,arr=Array.map (fun b:UInt8=>Value.int IntKind.u8 ↑b.toNat) s.data++Array.replicate (cap - s.size) (Value.int IntKind.u8 0):=⟨_,rfl⟩
 rw [← harr]
 have hheap:(w.drew.alloc (Obj.cells arr e)).heap=w.heap.push (Obj.cells arr e):=rfl
 have hshape:(w.drew.alloc (Obj.cells arr e)).shape? w.heap.size=some (e,arr.size):=by
  simp [World.shape?,hheap]
 rw [hshape]
 simp only [hfr,Result.andThen_ok]
 have hf:((w.drew.alloc (Obj.cells arr e)).freeze ⟨w.heap.size,arr.size,none⟩ 1).heap=(w.heap.push (Obj.cells arr e)).modify w.heap.size fun
  | .cells c elem (lo,hi)=>.cells c elem (if lo == hi then (arr.size,arr.size+1) else (min lo arr.size,max hi (arr.size+1)))
  | o=>o:=rfl
 refine ⟨cap,_,rfl,?_,?_,fun j hj=>?_,rfl,rfl,rfl,arr,(arr.size,arr.size+1),?_,fun j b hb=>?_⟩
 ·rw [hcap];simp only [Question.cut];omega
 ·rw [hf];simp
 ·rw [hf,Array.getElem?_modify,if_neg (by omega),Array.getElem?_push,if_neg (by omega)]
 ·rw [hf,Array.getElem?_modify,if_pos rfl,Array.getElem?_push,if_pos rfl];rfl
 ·have hj:j < s.data.size:=by have:=(List.getElem?_eq_some_iff.1 hb).1;simpa using this
  rw [harr,Array.getElem?_append_left (by simpa using hj),Array.getElem?_map]
  have:s.data[j]?=some b:=by simpa using hb
  rw [this];rfl
theorem toStr_sound (hc:CfgOk P c) (s:St P c.nt G own a w) {t t' e:TypeId} {d:Option Tmp} {v:AV} {u:Value} (hk:cvKind c t t'=.str e) (hu:isU8 c e=true) (hv:RV P G own w v u)
 (h:(toStrGo c d v).wp CE G T (Kn P c.nt G own a w next)):∃ r w',(convert t t' u).run P w=.ok r w'∧next (a.put d r) w':=by
 have hl:=cp1_leaf h
 obtain ⟨y,W,T2',own2,k1,k2,k3,k4,k5,k6,rfl⟩:=zdx (U:=[]) FrzOnly.nil s (zic hv hl) h
 simp only [List.nil_append] at k2 k3 k4
 unfold cvKind at hk
 split at hk
 ·rename_i hs ht
  cases hk
  have hue:∀ w,(underlying e).run P w=.ok (.int .u8) w:=by
   unfold isU8 at hu
   split at hu
   ·rename_i he
    exact (hc e _ he).run_und
   ·cases hu
  split at k6
  ·rename_i m
   split at k6
   ·rename_i hall
    have hrf:RF (frzsOwn W own) w (.sl m) u:=k4.2
    have hfit:m.all (FV.fits 1)=true:=List.all_eq_true.2 fun x hx=>by
     have:=List.all_eq_true.1 hall x hx
     unfold isByteF at this
     split at this
     ·rfl
     ·cases this
    have hnil:∀ c',u=.slice none m.length c'→m=[]:=by
     intro c' e'
     subst e'
     cases hrf with
     | sl l a n c ad sz hn hc ha=>
       refine Classical.byContradiction fun hne=>?_
       have:=(ha hne).1
       cases this
    obtain ⟨us,a',c',rfl,hus,hf,hone,hcells⟩:=src_cells (P:=P) (Nat.lt_succ_self 0) hrf hfit
    have hrun:(convert t t' (.slice a' m.length c')).run P w=.ok (.string (bytesT m)) w:=by
     simp only [convert,Sem.run_bind,(hc t _ hs).run_und,(hc t' _ ht).run_und,Result.andThen_ok,hue]
     cases a' with
     | none=>
       have:=hnil c' rfl
       subst this
       rfl
     | some ad=>
       have hld:(loadCells ad m.length).run P w=.ok us.toArray w:=by
        have:=hf w fun _=>rfl
        simpa [Builtin.firstCells] using this
       have hval:∀ (i:Nat) x,us[i]?=some x→∃ n,x=.int .u8 n∧m[i]?=some (.pv (.int .u8 n)):=by
        intro i x hx
        have hi:i < m.length:=by have:=(List.getElem?_eq_some_iff.1 hx).1;omega
        have hb:=List.all_eq_true.1 hall m[i] (List.getElem_mem hi)
        have hmi:m[i]?=some m[i]:=List.getElem?_eq_getElem hi
        unfold isByteF at hb
        split at hb
        ·rename_i n hn
         rw [hn] at hmi
         obtain ⟨v,h1,h2⟩:=hcells i _ 0 (.pv (.int .u8 n)) hmi rfl
         rw [Nat.mul_one,Nat.add_zero,hx] at h1
         cases h1
         cases h2
         exact ⟨n,rfl,hmi⟩
        ·cases hb
       rw [zhd hld fun x hx=>by
        obtain ⟨i,hi,rfl⟩:=List.mem_iff_getElem.1 hx
        obtain ⟨n,h1,_⟩:=hval i _ (List.getElem?_eq_getElem hi)
        exact ⟨n,h1⟩]
       congr 2
       unfold bytesT
       congr 2
       refine List.ext_getElem? fun i=>?_
       rw [List.getElem?_map,List.getElem?_map]
       cases hx:us[i]? with
       | none=>
         have:m.length≤i:=by have:=List.getElem?_eq_none_iff.1 hx;omega
         rw [List.getElem?_eq_none this];rfl
       | some x=>
         obtain ⟨n,rfl,h2⟩:=hval i x hx
         rw [h2];rfl
    exact ⟨_,w,hrun,zM k2 k3.tr (zaz rfl) k6⟩
   ·exact k6.elim
  ·exact k6.elim
 ·cases hk
 ·cases hk
theorem toBytes_sound (hc:CfgOk P c) (s:St P c.nt G own a w) {t t' e:TypeId} {d:Option Tmp} {v:AV} {u:Value} (hk:cvKind c t t'=.bytes e) (hu:isU8 c e=true) (hv:RV P G own w v u)
 (h:(toBytesGo c d v).wp CE G T (Kn P c.nt G own a w next)):∃ r w',(convert t t' u).run P w=.ok r w'∧next (a.put d r) w':=by
 unfold cvKind at hk
 split at hk
 ·cases hk
 ·rename_i hs ht
  cases hk
  have hue:∀ w,(underlying e).run P w=.ok (.int .u8) w:=by
   unfold isU8 at hu
   split at hu
   ·rename_i he
    exact (hc e _ he).run_und
   ·cases hu
  unfold toBytesGo at h
  split at h
  ·rename_i str
   have:=zbt hv
   subst this
   obtain ⟨cap,w',h1,h2,h3,h4,h5,h6,h7,arr,fr,h8,h9⟩:=zhc (P:=P) (w:=w) e str
   have hrun:(convert t t' (.string str)).run P w=.ok (.slice (some ⟨w.heap.size,0,none⟩) str.size cap) w':=by
    simp only [convert,Sem.run_bind,(hc t _ hs).run_und,(hc t' _ ht).run_und,Result.andThen_ok,hue]
    exact h1
   obtain ⟨b,hb⟩:=fresh_key G
   obtain ⟨s2,t2⟩:=s.world (b:=b) (o:=0) (fun E l hl=>by simp [look,hb] at hl) (Nat.le_of_lt h3) (fun j hj _=>h4 j hj) h5 h6 h7
   suffices hR:RV P G own w' (.f (.sl (List.map zF (bytesOf str)))) (.slice (some ⟨w.heap.size,0,none⟩) str.size cap) from ⟨_,w',hrun,zM (U:=[]) s2 t2 hR h⟩
   refine ⟨rfl,?_⟩
   have hlen:(List.map zF (bytesOf str)).length=str.size:=by simp [bytesOf]
   have hown:own w.heap.size=none:=by
    cases ho:own w.heap.size with
    | none=>rfl
    | some x=>exact absurd (s.lt _ _ ho) (Nat.lt_irrefl _)
   have hel:∀ (i:Nat) x (j:Nat) y,(List.map zF (bytesOf str))[i]?=some x→x.cells[j]?=some y→∃ b:UInt8,j=0∧y=.pv (.int .u8 b.toNat)∧w'.cell? ⟨w.heap.size,0+(i * 1+j),none⟩=some (.int .u8 b.toNat):=by
    intro i x j y e1 e2
    rw [bytesOf,List.map_map,List.getElem?_map] at e1
    cases hb:str.data.toList[i]? with
    | none=>rw [hb] at e1;cases e1
    | some b=>
      rw [hb] at e1;cases e1
      cases j with
      | succ j=>simp [zF,FV.cells] at e2
      | zero=>
        simp [zF,FV.cells] at e2
        refine ⟨b,rfl,e2.symm,?_⟩
        simp only [World.cell?,h8,Nat.mul_one,Nat.add_zero,Nat.zero_add]
        exact h9 i b hb
   refine RF.sl _ _ _ _ ⟨w.heap.size,0,none⟩ 1 hlen.symm h2 (fun _=>⟨rfl,rfl,hown,h3⟩) ?_ ?_ ?_
   ·intro x hx
    obtain ⟨n,-,rfl⟩:=List.mem_map.1 hx
    rfl
   ·intro i x j y e1 e2
    obtain ⟨b,-,-,e3⟩:=hel i x j y e1 e2
    exact ⟨_,e3⟩
   ·intro i x j y v e1 e2 e3
    obtain ⟨b,-,rfl,e4⟩:=hel i x j y e1 e2
    rw [e4] at e3;cases e3
    exact .pv _ rfl
  ·exact h.elim
 ·cases hk
theorem op_conv (hc:CfgOk P c) (hF:∀ f,F.fn f) (s:St P c.nt G own a w) {t t':TypeId} {x:Operand} (ho:o.op=.convert t t' x)
 (h:(rdO x fun p=>convRM c o.dst t t' p).wp CE G T (Kn P c.nt G own a w next)):o.wpIn F n P a w next Q:=by
 cases hk:cvKind c t t' with
 | other=>
   exact op_convert hc hF s ho (CE:=CE) (T:=T) (by simpa only [convRM,hk] using h)
 | str e=>
   obtain ⟨v,T1,h1,h2⟩:=zJ s h
   simp only [convRM,hk] at h2
   split at h2
   ·rename_i hu
    obtain ⟨r,w',r1,r2⟩:=toStr_sound hc s hk hu h1 h2
    refine zI hF (by simp [ho]) (u:=r) (w':=w') ?_ r2
    simp only [execOp,ho];rw [Sem.run_bind,r1];rfl
   ·exact h2.elim
 | bytes e=>
   obtain ⟨v,T1,h1,h2⟩:=zJ s h
   simp only [convRM,hk] at h2
   split at h2
   ·rename_i hu
    obtain ⟨r,w',r1,r2⟩:=toBytes_sound hc s hk hu h1 h2
    refine zI hF (by simp [ho]) (u:=r) (w':=w') ?_ r2
    simp only [execOp,ho];rw [Sem.run_bind,r1];rfl
   ·exact h2.elim
theorem op_make (hc:CfgOk P c) (hF:∀ f,F.fn f) (s:St P c.nt G own a w) {t:TypeId} {x y:Operand} (ho:o.op=.makeSlice t x y)
 (h:(rdO x fun p=>rdO y fun q=>makeRM c o.dst t p q).wp CE G T (Kn P c.nt G own a w next)):o.wpIn F n P a w next Q:=by
 by_cases hno:noElem c t=true
 ·simp only [makeRM,hno,if_true] at h
  obtain ⟨v,T1,h1,h2⟩:=zJ s h
  obtain ⟨v',T2,h3,h4⟩:=zJ s h2
  unfold make0RM at h4
  split at h4
  ·rename_i k1 l k2 m E sz0 by0 z0 hti
   have hx:=zbt h1
   have hy:=zbt h3
   split at h4
   ·rename_i D sz by_ z hE
    split at h4
    ·rename_i hcond
     obtain ⟨g1,g2,g3,g4,g5,g6⟩:=hcond
     subst g1
     obtain ⟨zv,z1,z2⟩:=(hc E _ hE).run_zero w rfl
     have hszE:(sizeOf E).run P w=.ok sz w:=(hc E _ hE).run_size w
     have hesz:esz P E=sz:=(hc E _ hE).cells
     obtain ⟨f,hin,_,hfb⟩:=(hc E _ hE).run_info w
     have hfb:f.bytes=by_:=hfb
     have hzs:zv.cells.size=sz:=by rw [← (zd5 (P:=P) (G:=G) (own:=own) (w:=w) (b:=0) z2).1];exact g6
     have hun:=(hc t _ hti).und
     obtain ⟨arr,harr⟩:∃ arr:Array Value,arr=if m.toNat * sz=0 then #[] else (Array.range (m.toNat * sz)).map (zv.cells[· % zv.cells.size]!):=⟨_,rfl⟩
     have hasz:arr.size=m.toNat * sz:=by rw [harr];split<;>simp_all
     have:=zdJ (G:=G) (own':=own) (U:=[]) (w':=w.alloc (.cells arr E)) (cap:=m.toNat) (arr:=arr) s (Tr.refl _ _) (n0:=w.heap.size) (Nat.le_refl _) (by simp) (fun k hk=>zaH _ _ hk) rfl rfl rfl (zaV _ _)
      (by simp) (by rw [hesz,hasz];exact Nat.le_refl _) (fun x hx=>by simp at hx) (fun i x j yy e1 e2=>by simp at e1) h4
     refine zI hF (by simp [ho]) ?_ this
     have w1:=zfb (Int.le_refl 0) (by omega)
     have w2:=zfb g2 g3
     simp only [execOp,ho]
     rw [Sem.run_bind]
     have hrun:(Instr.makeSlice t (a.eval x) (a.eval y)).run P w=.ok (.slice (some ⟨w.heap.size,0,none⟩) 0 m.toNat) (w.alloc (.cells arr E)):=by
      have n1:¬ m < 0:=by omega
      have n2:¬ ((f.bytes:Int) * m > 2 ^ 48):=by rw [hfb];omega
      have n3:¬ (0:Int) < 0:=by omega
      have n4:¬ (0:Int) > m:=by omega
      by_cases h0:m.toNat * sz=0
      ·rw [if_pos h0] at harr;subst harr
       have he:∀ g:Nat→Value,(Array.range (m.toNat * sz)).map g=#[]:=fun g=>Array.eq_empty_of_size_eq_zero (by simp [h0])
       simp only [Instr.makeSlice,hx,hy,Sem.run_bind,run_underlying hun,Result.andThen_ok,asInt,asIntOf,Sem.run_pure,hin,w1,w2,n1,n2,n3,n4,decide_false,Bool.or_false,Bool.false_eq_true,if_false,run_askRoom,hszE,Sem.run_ite,if_pos h0,he]
       simp [newRow]
      ·rw [if_neg h0] at harr;subst harr
       simp only [Instr.makeSlice,hx,hy,Sem.run_bind,run_underlying hun,Result.andThen_ok,asInt,asIntOf,Sem.run_pure,hin,w1,w2,n1,n2,n3,n4,decide_false,Bool.or_false,Bool.false_eq_true,if_false,run_askRoom,hszE,Sem.run_ite,if_neg h0,z1]
       simp [newRow]
     rw [hrun];rfl
    ·exact h4.elim
   ·exact h4.elim
  ·exact h4.elim
 ·simp only [makeRM,hno] at h
  exact op_makeSlice hc hF s ho h
end
end Go.Ev
namespace Go.Ev
open Go Go.RowKit
variable {P : Program}
theorem St.newmap {nt:Nat} {G:Sta} {own:Own} {a:Act} {w:World} (s:St P nt G own a w) {b:Nat} (hb2:b % 3=2) (hm:isMM b=true) :
 St P nt ((Up.newbox b (.f (.sl []))).app G) (ownBox own w.heap.size b) a (w.alloc (.map #[] 0)):=by
 have hlt:∀ k o,own k=some o→k≠w.heap.size:=fun k o h=>Nat.ne_of_lt (s.lt k o h)
 have K:=s.newobj_keep b hb2 (.f (.sl [])) (.map #[] 0)
 refine s.step K s.size ?_ ?_ ?_ ?_
 ·intro r v' hg
  have hrb:tb r≠b:=by intro e;subst e;simp [tb] at hb2
  simp only [Up.app,zaK,zab,if_neg hrb] at hg
  cases hx:get G (tb r) with
  | none=>rw [hx] at hg;cases hg
  | some x=>rw [hx] at hg;cases hg;exact .inr ⟨x,rfl,rfl,rfl,fun o=>zcG hrb⟩
 ·intro c v' hc hg
  by_cases hcb:c=b
  ·subst hcb
   simp only [Up.app,zaK,if_true] at hg
   cases hg
   exact .inr (.inl ⟨zew hm,fun _=>⟨w.heap.size,#[],0,by simp [ownBox],zaV _ _,.inr ⟨[],rfl,rfl,fun i x e h=>by simp at h⟩⟩,fun hg=>(isG_MM hm hg).elim⟩)
  ·simp only [Up.app,zaK,zab,if_neg hcb] at hg
   cases hx:get G c with
   | none=>rw [hx] at hg;cases hg
   | some x=>
     rw [hx] at hg;cases hg
     exact .inr (.inr ⟨x,rfl,rfl,fun o=>zcG hcb,fun k hk=>⟨by simp [ownBox,hlt k _ hk,hk,hcb],zaH _ _ (s.lt k _ hk)⟩⟩)
 ·intro k k' o h h'
  simp only [ownBox] at h h'
  by_cases e:k=w.heap.size<;>by_cases e':k'=w.heap.size
  ·omega
  ·rw [if_pos e] at h;rw [if_neg e'] at h'
   split at h'
   ·cases h'
   ·rename_i hn;cases h;exact absurd h' hn
  ·rw [if_neg e] at h;rw [if_pos e'] at h'
   split at h
   ·cases h
   ·rename_i hn;cases h';exact absurd h hn
  ·rw [if_neg e] at h;rw [if_neg e'] at h'
   split at h;cases h
   split at h';cases h'
   exact s.one k k' o h h'
 ·intro k o h
  simp only [ownBox] at h
  simp only [World.size_alloc]
  split at h
  ·omega
  ·split at h
   ·cases h
   ·have:=s.lt k o h;omega
theorem St.setmap {nt:Nat} {G:Sta} {own:Own} {a:Act} {w w':World} (s:St P nt G own a w) {b r:Nat} {es es':Array MapEntry} {ck ck':Nat} {L':List FV} (hm:isMM b=true) (hk:own r=some (.box b)) (hw:w.heap[r]?=some (.map es ck))
 (hw':w'={ w with heap:=w.heap.setIfInBounds r (.map es' ck') }) (hR:RMp own w (.f (.sl L')) es') :
 St P nt ((Up.set b (.f (.sl L'))).app G) own a w'∧Tr own w own w':=by
 obtain ⟨hn1,hn2⟩:=MapKept.heap_set (o':=.map es' ck') hw
 have hh:∀ k,k≠r→w'.heap[k]?=w.heap[k]?:=fun k h=>by rw [hw'];exact hn2 k h
 have hr:w'.heap[r]?=some (.map es' ck'):=by rw [hw'];exact hn1
 have hsz:w'.heap.size=w.heap.size:=by rw [hw'];simp
 have ht:Tr own w own w':=by
  refine ⟨by omega,fun k _ h=>⟨h,hh k (by rintro rfl;rw [hk] at h;cases h)⟩,by rw [hw'],by rw [hw'],by rw [hw'],fun k o h=>⟨h,hh k (by rintro rfl;rw [hk] at h;cases h)⟩,fun _ _ _ h=>h⟩
 have hb1:=zej (zew hm)
 have K:Keep P G own w ((Up.set b (.f (.sl L'))).app G) own w' (Up.set b (.f (.sl L'))).kill (live (Up.set b (.f (.sl L'))).kill):=by
  refine zbS (by intros;simp) (by intros;simp) ht (fun k b off h _=>h) ?_
  intro c o E l k cc hl hg h
  exact h.mono ht h.1 (hh k (by rintro rfl;have:=h.1;rw [hk] at this;cases this))
 refine ⟨s.step K s.size ?_ ?_ s.one (fun k o h=>by rw [hsz];exact s.lt k o h),ht⟩
 ·intro t v' hg
  have hrb:tb t≠b:=by intro e;subst e;simp [tb] at hb1
  simp only [Up.app,zaK,zab,if_neg hrb] at hg
  cases hx:get G (tb t) with
  | none=>rw [hx] at hg;cases hg
  | some x=>rw [hx] at hg;cases hg;exact .inr ⟨x,rfl,rfl,rfl,fun o=>zaf (fun e=>hrb e.1)⟩
 ·intro c v' hc hg
  by_cases hcb:c=b
  ·subst hcb
   simp only [Up.app,zaK,if_true] at hg
   cases hg
   exact .inr (.inl ⟨zew hm,fun _=>⟨r,es',ck',hk,hr,hR.mono ht⟩,fun hg=>(isG_MM hm hg).elim⟩)
  ·simp only [Up.app,zaK,zab,if_neg hcb] at hg
   cases hx:get G c with
   | none=>rw [hx] at hg;cases hg
   | some x=>
     rw [hx] at hg;cases hg
     exact .inr (.inr ⟨x,rfl,rfl,fun o=>zaf (fun e=>hcb e.1),fun k hk'=>⟨hk',hh k (by rintro rfl;rw [hk] at hk';cases hk';exact hcb rfl)⟩⟩)
theorem zj1 {d:TypeDesc} {v:Value} (h:keyV d v=true):MapKept.IsKey d v:=by
 cases d<;>cases v<;>simp_all [keyV,MapKept.IsKey]
theorem keyEq_iff {d:TypeDesc} {v u:Value} (h1:keyV d v=true) (h2:keyV d u=true):keyEq v u=true↔v=u:=by
 cases d<;>cases v<;>simp [keyV] at h1<;>cases u<;>simp [keyV] at h2<;>simp [keyEq]<;>(try (subst h1;subst h2;simp))
 all_goals (try (rename_i a b;constructor<;>intro h<;>simp_all [MapKept.bytes_beq]))
theorem putE_none {k:Value} {y:FV}:∀ {L:List FV},(∀ x∈L,entIs k x=false)→putE k y L=L++[.agg [.pv k,y]]
 | [],_=>rfl
 | x :: r,h=>by
   have hx:=h x (List.mem_cons_self ..)
   simp only [putE,hx,Bool.false_eq_true,if_false,List.cons_append]
   rw [putE_none fun z hz=>h z (List.mem_cons_of_mem _ hz)]
theorem putE_some {k:Value} {y:FV}:∀ {L:List FV} {j:Nat} {x:FV},L[j]?=some x→entIs k x=true→(∀ i,i < j→∀ z,L[i]?=some z→entIs k z=false)→putE k y L=L.set j (.agg [.pv k,y])
 | [],j,x,h,_,_=>by simp at h
 | z :: r,0,x,h,hx,_=>by
   simp at h;subst h
   simp [putE,hx]
 | z :: r,j+1,x,h,hx,hf=>by
   have hz:=hf 0 (by omega) z rfl
   simp only [putE,hz,Bool.false_eq_true,if_false,List.set_cons_succ]
   rw [putE_some (by simpa using h) hx fun i hi q hq=>hf (i+1) (by omega) q (by simpa using hq)]
theorem elem_rf {G:Sta} {own:Own} {w:World} {v:AV} {u:Value} {y:FV} (h:RV P G own w v u) (he:v.elem=some y):RF own w y u:=by
 cases v with
 | agg l=>
   simp only [AV.elem,Option.map_eq_some_iff] at he
   obtain ⟨fs,hfs,rfl⟩:=he
   obtain ⟨arr,rfl,h1,h2⟩:=h
   obtain ⟨h3,h4⟩:=zdw hfs
   refine .agg fs arr (by omega) fun j x v e1 e2=>?_
   obtain ⟨h5,_⟩:=h4 j x e1
   exact (show RC own w (.f x) v from h2 j (.f x) v h5 e2).2
 | f x=>
   simp only [AV.elem,AV.leafF] at he
   split at he
   ·cases he;exact h.2
   ·cases he
 | _=>simp [AV.elem,AV.leafF] at he
theorem find_spec {d:TypeDesc} {k:Value} (hk:MapKept.IsKey d k):∀ (l:List MapEntry) (i:Nat),(∀ x∈l,MapKept.IsKey d x.key)→
 (Instr.findNow d k l i=some none∧∀ x∈l,x.key≠k)∨∃ j e,Instr.findNow d k l i=some (some (i+j,e.val))∧l[j]?=some e∧e.key=k∧∀ j',j' < j→∀ e',l[j']?=some e'→e'.key≠k
 | [],_,_=>.inl ⟨rfl,by simp⟩
 | e :: es,i,h=>by
   obtain ⟨r,hr,hiff⟩:=MapKept.sameNow_of_keys hk (h e (.head _))
   cases r with
   | true=>exact .inr ⟨0,e,by simp [Instr.findNow,hr],rfl,(hiff.1 rfl).symm,fun j' hj=>by omega⟩
   | false=>
     have hne:e.key≠k:=fun h=>by have:=hiff.2 h.symm;cases this
     rcases find_spec hk es (i+1) fun x hx=>h x (List.mem_cons_of_mem _ hx) with ⟨h1,h2⟩ | ⟨j,e',h1,h2,h3,h4⟩
     ·refine .inl ⟨by simp [Instr.findNow,hr,h1],fun x hx=>?_⟩
      rcases List.mem_cons.1 hx with rfl | hx
      ·exact hne
      ·exact h2 x hx
     ·refine .inr ⟨j+1,e',by simp only [Instr.findNow,hr,h1];congr 3;omega,by simpa using h2,h3,fun j' hj e'' he=>?_⟩
      cases j' with
      | zero=>simp at he;subst he;exact hne
      | succ j'=>exact h4 j' (by omega) e'' (by simpa using he)
theorem put_sound {own:Own} {w:World} {L:List FV} {es:Array MapEntry} {ck r:Nat} {d:TypeDesc} {kv val:Value} {y:FV} {mty kt et:TypeId} (hm:P.underlying mty=some (.map kt et)) (hd:P.underlying kt=some d)
 (hb:w.heap[r]?=some (.map es ck)) (h1:L.length=es.size)
 (h2:∀ (i:Nat) x e,L[i]?=some x→es[i]?=some e→∃ k y,x=.agg [k,y]∧RF own w k e.key∧RF own w y e.val) (hks:L.all (keyIs d)=true) (hkv:keyV d kv=true) (hkr:RF own w (.pv kv) kv) (hy:RF own w y val) :
 ∃ es' ck',(Instr.mapUpdate mty (.map (some r)) kv val).run P w=.ok () { w with heap:=w.heap.setIfInBounds r (.map es' ck') }∧RMp own w (.f (.sl (putE kv y L))) es':=by
 have hk:=zj1 hkv
 have hent:∀ (i:Nat) e,es[i]?=some e→∃ y0,L[i]?=some (.agg [.pv e.key,y0])∧keyV d e.key=true∧RF own w y0 e.val:=by
  intro i e he
  have hi:i < L.length:=by have:=(Array.getElem?_eq_some_iff.1 he).1;omega
  have hx:L[i]?=some L[i]:=by simp
  obtain ⟨k,y0,e1,e2,e3⟩:=h2 i L[i] e hx he
  have hki:=List.all_eq_true.1 hks L[i] (List.getElem_mem hi)
  rw [e1] at hki hx
  cases k with
  | pv v=>
    have hv:e.key=v:=by cases e2;rfl
    simp only [keyIs] at hki
    exact ⟨y0,by rw [hv];exact hx,by rw [hv];exact hki,e3⟩
  | agg l=>simp [keyIs] at hki
  | sl l=>simp [keyIs] at hki
 have hkeys:∀ x∈es.toList,MapKept.IsKey d x.key:=by
  intro x hx
  obtain ⟨i,hi⟩:=List.mem_iff_getElem?.1 hx
  obtain ⟨_,_,q,_⟩:=hent i x (by simpa using hi)
  exact zj1 q
 have hnot:∀ (i:Nat) z,L[i]?=some z→(∀ e,es[i]?=some e→e.key≠kv)→entIs kv z=false:=by
  intro i z hz hne
  have hi:i < es.size:=by have:=(List.getElem?_eq_some_iff.1 hz).1;omega
  have he:es[i]?=some es[i]:=by simp
  obtain ⟨y0,q1,q2,_⟩:=hent i _ he
  rw [hz] at q1;cases q1
  simp only [entIs]
  cases hq:keyEq kv es[i].key with
  | false=>rfl
  | true=>exact absurd ((keyEq_iff hkv q2).1 hq).symm (hne _ he)
 rcases find_spec hk es.toList 0 hkeys with ⟨f1,f2⟩ | ⟨j,e,f1,f2,f3,f4⟩
 ·refine ⟨es.push { key:=kv,val,born:=ck },ck+1,?_,?_⟩
  ·simp [Instr.mapUpdate,run_underlying hm,MapKept.run_getObj_map hb,MapKept.run_checkKey hd hk,MapKept.run_findKey hd f1,MapKept.run_setObj_map _ hb,Result.andThen]
  ·rw [putE_none (fun x hx=>by
    obtain ⟨i,hi⟩:=List.mem_iff_getElem?.1 hx
    exact hnot i x hi fun e he=>f2 e (Array.mem_toList_iff.2 (Array.mem_of_getElem? he)))]
   refine .inr ⟨_,rfl,by simp [h1],fun i x e e1 e2=>?_⟩
   rw [Array.getElem?_push] at e2
   split at e2
   ·rename_i hi
    cases e2
    rw [List.getElem?_append_right (by omega),hi,h1,Nat.sub_self] at e1
    cases e1
    exact ⟨_,_,rfl,hkr,hy⟩
   ·have hi:i < L.length:=by have:=(Array.getElem?_eq_some_iff.1 e2).1;omega
    rw [List.getElem?_append_left hi] at e1
    exact h2 i x e e1 e2
 ·have hj:es[j]?=some e:=by simpa using f2
  have h0:Instr.findNow d kv es.toList 0=some (some (j,e.val)):=by rw [f1,Nat.zero_add]
  refine ⟨es.modify j fun e=>{ e with key:=kv,val },ck,?_,?_⟩
  ·simp [Instr.mapUpdate,run_underlying hm,MapKept.run_getObj_map hb,MapKept.run_checkKey hd hk,MapKept.run_findKey hd h0,hj,f3,MapKept.run_keyThatStays hk,MapKept.run_setObj_map _ hb,Result.andThen]
  ·obtain ⟨y0,q1,q2,q3⟩:=hent j e hj
   rw [putE_some q1 (by rw [f3];exact (keyEq_iff hkv hkv).2 rfl) (fun i hi z hz=>hnot i z hz fun e' he'=>f4 i hi e' (by simpa using he'))]
   refine .inr ⟨_,rfl,by simp [h1],fun i x e' e1 e2=>?_⟩
   rw [Array.getElem?_modify] at e2
   by_cases hij:j=i
   ·subst hij
    rw [if_pos rfl,hj] at e2
    cases e2
    have hjl:j < L.length:=(List.getElem?_eq_some_iff.1 q1).1
    rw [List.getElem?_set_self hjl] at e1
    cases e1
    exact ⟨_,_,rfl,hkr,hy⟩
   ·rw [if_neg hij] at e2
    rw [List.getElem?_set_ne hij] at e1
    exact h2 i x e' e1 e2
section
variable {CE : CEx} {c : Cfg} {G : Sta} {own : Own} {a : Act} {w : World} {T : List Acc} {next : Act → World → Prop}
variable {F : Fence} {n : Nat} {o : Oper} {Q : Exit → Act → World → Prop}
theorem op_makeMap (hF:∀ f,F.fn f) (s:St P c.nt G own a w) {t:TypeId} (ho:o.op=.makeMap t none)
 (h:(makeMapRM c o.dst).wp CE G T (Kn P c.nt G own a w next)):o.wpIn F n P a w next Q:=by
 unfold makeMapRM at h
 split at h
 ·rename_i r hd
  split at h
  ·rename_i hlt
   have hb2:mb r % 3=2:=by simp only [mb];omega
   have s1:=s.newmap hb2 (isMM_mb r)
   have s2:=s1.set_view (t:=r) hlt (v:=.ptr (mb r) 0) (u:=.map (some w.heap.size)) ⟨w.heap.size,by simp [ownBox],by rw [isM_mb];rfl⟩ rfl
   refine zI hF (by simp [ho]) (u:=.map (some w.heap.size)) (w':=w.alloc (.map #[] 0)) ?_ ?_
   ·simp only [execOp,ho,Instr.makeMap,newObj];simp [Sem.run]
   ·rw [hd]
    exact h _ _ _ s2 (s.newobj_keep (mb r) hb2 (.f (.sl [])) (.map #[] 0)).tr rfl
  ·exact h.elim
 ·exact h.elim
theorem op_mapUpdate (hc:CfgOk P c) (hF:∀ f,F.fn f) (s:St P c.nt G own a w) {t:TypeId} {m k x:Operand} (ho:o.op=.mapUpdate t m k x) (hd:o.dst=none)
 (h:(mapUpRM c t m k x).wp CE G T (Kn P c.nt G own a w next)):o.wpIn F n P a w next Q:=by
 unfold mapUpRM at h
 split at h
 ·rename_i K V sz by_ z ht
  split at h
  ·rename_i iK hK
   obtain ⟨vm,T1,h1,h2⟩:=zJ s h
   split at h2
   ·rename_i b q
    split at h2
    ·rename_i hm
     obtain ⟨r,hr,hu⟩:=h1
     rw [if_pos (zew hm)] at hu
     obtain ⟨vk,T2,h3,h4⟩:=zJ s h2
     split at h4
     ·rename_i kv
      split at h4
      ·rename_i hkv
       obtain ⟨vx,T3,h5,h6⟩:=zJ s h4
       split at h6
       ·rename_i y hy
        unfold mapUpGo at h6
        obtain ⟨zz,T4,h7,h8⟩:=zaM h6
        split at h8
        ·rename_i L
         split at h8
         ·rename_i hall
          obtain ⟨r',es,ck,e1,e2,e3⟩:=s.maps b _ hm h7
          have:=s.one _ _ _ e1 hr;subst this
          have hR:L.length=es.size∧∀ (i:Nat) x e,L[i]?=some x→es[i]?=some e→∃ k y,x=.agg [k,y]∧RF own w k e.key∧RF own w y e.val:=by
           rcases e3 with e | ⟨L',e,q1,q2⟩
           ·cases e
           ·cases e;exact ⟨q1,q2⟩
          have hk0:a.eval k=kv:=zbt h3
          have hkr:RF own w (.pv kv) kv:=by have:=h3.2;rwa [hk0] at this
          obtain ⟨es',ck',g1,g2⟩:=put_sound (own:=own) (w:=w) (hc t _ ht).und (hc K _ hK).und e2 hR.1 hR.2 hall hkv hkr (elem_rf h5 hy)
          obtain ⟨s2,t2⟩:=s.setmap hm hr e2 rfl g2
          refine zfc hF (by simp [ho]) (w':={ w with heap:=w.heap.setIfInBounds r' (.map es' ck') }) ?_ (by rw [hd];exact h8 _ _ _ s2 t2 rfl)
          simp [execOp,ho,hu,hk0,g1]
         ·exact h8.elim
        ·exact h8.elim
       ·exact h6.elim
      ·exact h4.elim
     ·exact h4.elim
    ·exact h2.elim
   ·exact h2.elim
  ·exact h.elim
 ·exact h.elim
end
end Go.Ev
namespace Go.Ev
open Go Go.RowKit
variable {P : Program}
section
variable {c : Cfg} {G : Sta} {own : Own} {a : Act} {w : World} {F : Fence} {n : Nat} {next : Act → World → Prop} {Q : Exit → Act → World → Prop} {o : Oper} {CE : CEx} {T : List Acc}
end
end Go.Ev
namespace Go.Ev
open Go Go.RowKit
variable {P : Program}
section
variable {CE : CEx} {c : Cfg} {G : Sta} {own : Own} {a : Act} {w : World} {T : List Acc} {next : Act → World → Prop}
variable {F : Fence} {n : Nat} {o : Oper} {Q : Exit → Act → World → Prop}
theorem toList2 {α:Type} {l:Array α} {x y:α} (h:l.toList=[x,y]):l=#[x,y]:=by
 cases l with | mk l=>simp at h;rw [h]
theorem toList1 {α:Type} {l:Array α} {x:α} (h:l.toList=[x]):l=#[x]:=by
 cases l with | mk l=>simp at h;rw [h]
theorem op_builtin (hc:CfgOk P c) (hF:WideF P F) (s:St P c.nt G own a w) {b:Builtin} {args:Array Operand} {ats:Array TypeId} (ho:o.op=.call { callee:=.builtin b,args,argTypes:=ats })
 (h:(builtinRM c o.dst b ats.toList args.toList).wp CE G T (Kn P c.nt G own a w next)):o.wpIn F n P a w next Q:=by
 unfold builtinRM at h
 split at h
 ·rename_i x t hx ht
  rw [toList1 hx,toList1 ht] at ho
  exact op_len hc hF.fn s ho h
 ·rename_i x y t t2 hx ht
  rw [toList2 hx,toList2 ht] at ho
  exact op_append hc hF.fn s ho h
 ·exact op_max (mx:=true) hF.fn s ho h
 ·exact op_max (mx:=false) hF.fn s ho h
 ·exact h.elim
theorem op_sound (hc:CfgOk P c) (hip:IpsOk P c) (hCE:∀ g args outs r outs',CE g args outs r outs'→CallE P g args outs r outs') (hF:WideF P F) (s:St P c.nt G own a w)
 (h:(opRM c o).wp CE G T (Kn P c.nt G own a w next)):o.wpIn F n P a w next Q:=by
 unfold opRM at h
 split at h
 ·exact op_move hF.fn s (by assumption) h
 ·split at h
  ·rename_i t hq
   unfold tkS at hq
   split at hq
   ·split at hq
    ·cases hq;exact op_tk hF.fn s (by assumption) h
    ·cases hq
   ·cases hq
  ·exact op_assign hc hF.fn s (by assumption) h
 ·exact op_pick hF.fn s (by assumption) h
 ·exact op_alloc hc hF.fn s (by assumption) h
 ·exact op_boxN hF.fn s (by assumption) h
 ·exact op_buildX hc hF.fn s (by assumption) h
 ·exact op_buildSlice hc hF.fn s (by assumption) h
 ·exact op_load hc hF.fn s (by assumption) h
 ·split at h
  ·rename_i hd
   exact op_storeX hc hF.fn s (by assumption) (by simpa using hd) h
  ·exact h.elim
 ·exact op_makeMap hF.fn s (by assumption) h
 ·split at h
  ·rename_i hd
   exact op_mapUpdate hc hF.fn s (by assumption) (by simpa using hd) h
  ·exact h.elim
 ·exact op_nilCheck hF.fn s (by assumption) h
 ·exact op_binOp hc hip.2.2.1 hF.fn s (by assumption) h
 ·exact op_unOp hF.fn s (by assumption) h
 ·exact op_conv hc hF.fn s (by assumption) h
 ·exact op_makeFunc hF.fn s (by assumption) h
 ·exact op_make hc hF.fn s (by assumption) h
 ·exact op_slice hc hF.fn s (by assumption) h
 ·exact op_fieldAddr hc hF.fn s (by assumption) h
 ·exact op_field hc hF.fn s (by assumption) h
 ·exact op_indexAddr hc hF.fn s (by assumption) h
 ·exact op_index hc hF.fn s (by assumption) h
 ·exact op_extract hF.fn s (by assumption) h
 ·exact op_builtin hc hF s (by assumption) h
 ·exact op_calls hip hCE hF s (by assumption) h
 ·exact h.elim
end
end Go.Ev
namespace Go.Ev
open Go Go.RowKit
variable {P : Program}
section
variable {CE : CEx} {c : Cfg} {G : Sta} {own : Own} {a : Act} {w : World} {T : List Acc} {next : Act → World → Prop}
variable {F : Fence} {n : Nat} {Q : Exit → Act → World → Prop} {ops : Array Oper}
theorem yielded_of {tmps:Array Value} {j:Nat} {t:Tmp} {u:Value} (hd:(ops[j]?).bind (·.dst)=some t) (hu:tmps[t]?=some u):(∀ b,u=.bool b→yielded ops tmps j=some b)∧((∀ b,u≠.bool b)→yielded ops tmps j=none):=by
 unfold yielded
 rw [hd,Option.bind_some,hu]
 constructor
 ·rintro b rfl;rfl
 ·intro h;cases u<;>first | rfl | exact absurd rfl (h _)
theorem fin_undef {own:Own} (s:St P c.nt G own a w) {d:Option Tmp} (h:(fin c d [] (.tup [])).wp CE G T (Kn P c.nt G own a w next)):next (a.put d undef) w:=by
 refine zM (U:=[]) s (Tr.refl _ _) (v:=.tup []) ?_ h
 exact ⟨#[],rfl,rfl,fun j x v h=>by simp at h⟩
theorem step_sound (hc:CfgOk P c) (hip:IpsOk P c) (hCE:∀ g args outs r outs',CE g args outs r outs'→CallE P g args outs r outs') (hF:WideF P F) (s:St P c.nt G own a w) {i:Nat}
 (h:(stepRM c ops i).wp CE G T (Kn P c.nt G own a w next)):wpOpIn F n P ops Q i next a w:=by
 unfold wpOpIn
 unfold stepRM at h
 split at h
 ·rename_i ho;rw [ho];exact h own a w s (Tr.refl _ _) rfl
 ·rename_i o ho
  rw [ho]
  simp only
  split at h
  ·rename_i hg
   rw [if_pos (by simp [Region.wanted,hg])]
   exact op_sound hc hip hCE hF s h
  ·rename_i j want hg
   split at h
   ·exact h.elim
   ·rename_i t hd
    obtain ⟨v,T1,h1,h2⟩:=zaM h
    obtain ⟨u,hu,hr⟩:=s.temps t v h1
    have hy:=yielded_of hd hu
    split at h2
    ·rename_i b
     have hub:u=.bool b:=zbt (P:=P) (G:=G) (own:=own) (w:=w) hr
     subst hub
     split at h2
     ·rename_i hb;subst hb
      rw [if_pos (by simp [Region.wanted,hg,hy.1 _ rfl])]
      exact op_sound hc hip hCE hF s h2
     ·rename_i hb
      rw [if_neg (by simp [Region.wanted,hg,hy.1 _ rfl,hb])]
      exact ⟨fun f _=>hF.fn f,fin_undef s h2⟩
    ·obtain ⟨arr,e1,e2,_⟩:=hr
     have:arr=#[]:=Array.eq_empty_of_size_eq_zero (by simpa using e2.symm)
     subst this;subst e1
     rw [if_neg (by simp [Region.wanted,hg,hy.2 (by simp)])]
     exact ⟨fun f _=>hF.fn f,fin_undef s h2⟩
    ·exact h2.elim
theorem zd6 (hc:CfgOk P c) (hip:IpsOk P c) (hCE:∀ g args outs r outs',CE g args outs r outs'→CallE P g args outs r outs') (hF:WideF P F) (s:St P c.nt G own a w) {y:Ent}
 (h:(stepRM c ops y.i).wp CE G [] (fun U' T'=>U'=y.U∧T'=y.T)) (hn:∀ own' a' w',St P c.nt (app y.U G) own' a' w'→Tr own w own' w'→a'.defers=a.defers→next a' w'):wpOpIn F n P ops Q y.i next a w:=by
 refine step_sound hc hip hCE hF s (RM.wp_mono ?_ _ _ h)
 rintro U T ⟨rfl,_⟩
 exact hn
theorem ziA (hc:CfgOk P c) (hip:IpsOk P c) (hCE:∀ g args outs r outs',CE g args outs r outs'→CallE P g args outs r outs') (hF:WideF P F):∀ (es:List Ent) {G G':Sta} {own:Own} {a:Act} {w:World},
 St P c.nt G own a w→Runs CE (stepRM c ops) es G G'→(∀ own' a' w',St P c.nt G' own' a' w'→Tr own w own' w'→a'.defers=a.defers→Q .normal a' w')→wpOpsIn F n P ops Q (es.map (·.i)) a w
 | [],G,G',own,a,w,s,h,hq=>by
   have:G=G':=h
   subst this
   exact hq own a w s (Tr.refl _ _) rfl
 | y :: es,G,G',own,a,w,s,h,hq=>by
   rw [List.map_cons,wpOpsIn_cons]
   refine zd6 hc hip hCE hF s h.1 fun own' a' w' s' t' d'=>?_
   exact ziA hc hip hCE hF es s' h.2 fun own2 a2 w2 s2 t2 d2=>hq own2 a2 w2 s2 (t'.trans t2) (d2.trans d')
def anc (ops:Array Oper):Nat→Nat→Nat→Bool
 | 0,_,_=>false
 | f+1,j,i=>match ops[i]? with
   | none=>false
   | some o=>o.after.toList.any fun e=>Region.binds .any e && (e.on == j || anc ops f j e.on)
def topo (ops:Array Oper):Bool:=
 (List.range ops.size).all fun i=>match ops[i]? with
   | none=>true
   | some o=>o.after.toList.all fun e=>!Region.binds .any e || decide (e.on < i)
theorem topo_spec (h:topo ops=true) {i:Nat} {o:Oper} (ho:ops[i]?=some o) {e:Edge} (he:e∈o.after) (hb:Region.binds .any e=true):e.on < i:=by
 have hx:i < ops.size:=(Array.getElem?_eq_some_iff.1 ho).1
 have h1:=List.all_eq_true.1 h i (List.mem_range.2 hx)
 rw [ho] at h1
 have h2:=List.all_eq_true.1 h1 e (Array.mem_toList_iff.2 he)
 simp only [hb,Bool.not_true,Bool.false_or,decide_eq_true_eq] at h2
 exact h2
def Closed (ops:Array Oper) (listed:Array Bool):Prop:=
 ∀ i o,ops[i]?=some o→listed.getD i true=true→∀ e∈o.after,Region.binds .any e=true→listed.getD e.on false=true
theorem zht {listed:Array Bool} (hsz:listed.size=ops.size) (hcl:Closed ops listed):∀ (f j i:Nat),anc ops f j i=true→(∀ o,ops[i]?=some o→∀ e∈o.after,Region.binds .any e=true→listed.getD e.on false=true)→listed.getD j false=true
 | 0,_,_,h,_=>by simp [anc] at h
 | f+1,j,i,h,hi=>by
   simp only [anc] at h
   split at h
   ·cases h
   ·rename_i o ho
    obtain ⟨e,he,hh⟩:=List.any_eq_true.1 h
    have he:=Array.mem_toList_iff.1 he
    simp only [Bool.and_eq_true,Bool.or_eq_true,beq_iff_eq] at hh
    obtain ⟨hb,hh⟩:=hh
    have hl:=hi o ho e he hb
    rcases hh with rfl | hh
    ·exact hl
    ·refine zht hsz hcl f j e.on hh fun o' ho' e' he' hb'=>hcl e.on o' ho' ?_ e' he' hb'
     have:e.on < listed.size:=by
      rcases Nat.lt_or_ge e.on listed.size with h | h
      ·exact h
      ·simp [Array.getElem?_eq_none h] at hl
     simpa [this] using hl
def entOk (ops:Array Oper):List Ent→Prop
 | []=>True
 | x :: r=>(∀ y∈r,anc ops ops.size x.i y.i=false→x.ind y)∧entOk ops r
theorem entOk.mid:∀ {p:List Ent} {y:Ent} {r:List Ent},entOk ops (p++y :: r)→(∀ x∈p,anc ops ops.size x.i y.i=false→x.ind y)∧entOk ops (p++r)
 | [],y,r,h=>⟨fun x hx=>by simp at hx,h.2⟩
 | x :: p,y,r,h=>by
   obtain ⟨h1,h2⟩:=h
   obtain ⟨h3,h4⟩:=entOk.mid h2
   refine ⟨fun z hz=>?_,fun z hz=>h1 z ?_,h4⟩
   ·rcases List.mem_cons.1 hz with rfl | hz
    ·exact h1 y (by simp)
    ·exact h3 z hz
   ·have hz:z∈p++r:=hz
    show z∈p++y :: r
    rcases List.mem_append.1 hz with hz | hz
    ·exact List.mem_append_left _ hz
    ·exact List.mem_append_right _ (List.mem_cons_of_mem _ hz)
theorem runs_any (hc:CfgOk P c) (hip:IpsOk P c) (hCE:∀ g args outs r outs',CE g args outs r outs'→CallE P g args outs r outs') (hF:WideF P F) (htopo:topo ops=true):∀ (fuel:Nat) (es:List Ent) {listed:Array Bool} {G G':Sta} {own:Own} {a:Act} {w:World},
 es.length≤fuel→listed.size=ops.size→Closed ops listed→(∀ i,i < ops.size→(listed.getD i true=false↔i∈es.map (·.i)))→(∀ x∈es,x.i < ops.size)→(es.map (·.i)).Pairwise (· < ·)→entOk ops es→
 St P c.nt G own a w→Runs CE (stepRM c ops) es G G'→(∀ own' a' w',St P c.nt G' own' a' w'→Tr own w own' w'→a'.defers=a.defers→Q .normal a' w')→wpAnyIn F n P .any ops Q fuel listed a w:=by
 have done:∀ {es:List Ent} {listed:Array Bool} {G G':Sta} {own:Own} {a:Act} {w:World},es=[]→St P c.nt G own a w→Runs CE (stepRM c ops) es G G'→
  (∀ own' a' w',St P c.nt G' own' a' w'→Tr own w own' w'→a'.defers=a.defers→Q .normal a' w')→Q .normal a w:=by
  intro es listed G G' own a w he s h hq
  subst he
  have:G=G':=h
  subst this
  exact hq own a w s (Tr.refl _ _) rfl
 have empty:∀ {es:List Ent} {listed:Array Bool},listed.size=ops.size→(∀ i,i < ops.size→(listed.getD i true=false↔i∈es.map (·.i)))→(∀ x∈es,x.i < ops.size)→(es.map (·.i)).Pairwise (· < ·)→Region.ready .any ops listed=[]→es=[]:=by
  intro es listed hsz hl hlt hs hr
  cases es with
  | nil=>rfl
  | cons x es=>
    exfalso
    have hx:=hlt x (List.mem_cons_self ..)
    have:x.i∈Region.ready .any ops listed:=by
     rw [mem_ready]
     refine ⟨(hl x.i hx).2 (by simp),ops[x.i],by simp [hx],fun e he hb=>?_⟩
     have h2:e.on < x.i:=topo_spec htopo (o:=ops[x.i]) (by simp [hx]) he hb
     cases hle:listed.getD e.on false with
     | true=>rfl
     | false=>
       have hlt2:e.on < ops.size:=by omega
       have:listed.getD e.on true=false:=by
        simp only [Array.getD_eq_getD_getElem?,Array.getElem?_eq_getElem (show e.on < listed.size by omega),Option.getD_some] at hle ⊢;exact hle
       have:=(hl e.on hlt2).1 this
       simp only [List.map_cons,List.mem_cons] at this
       rw [List.map_cons,List.pairwise_cons] at hs
       rcases this with h | h
       ·omega
       ·have:=hs.1 _ h;omega
    rw [hr] at this;cases this
 intro fuel
 induction fuel with
 | zero=>
   intro es listed G G' own a w hf hsz hcl hl hlt hs hok s h hq
   have he:es=[]:=List.length_eq_zero_iff.1 (by omega)
   refine ⟨?_,done (listed:=listed) he s h hq⟩
   subst he
   cases hr:Region.ready .any ops listed with
   | nil=>rfl
   | cons i r=>
     have:i∈Region.ready .any ops listed:=by rw [hr];exact List.mem_cons_self ..
     obtain ⟨h1,o,ho,_⟩:=mem_ready.1 this
     have hi:i < ops.size:=(Array.getElem?_eq_some_iff.1 ho).1
     have:=(hl i hi).1 h1
     simp at this
 | succ fuel ih=>
   intro es listed G G' own a w hf hsz hcl hl hlt hs hok s h hq
   refine ⟨fun hr=>done (listed:=listed) (empty hsz hl hlt hs hr) s h hq,fun i hi=>?_⟩
   obtain ⟨h1,o,ho,hready⟩:=mem_ready.1 hi
   have hilt:i < ops.size:=(Array.getElem?_eq_some_iff.1 ho).1
   have hmem:=(hl i hilt).1 h1
   obtain ⟨y,hy,rfl⟩:=List.mem_map.1 hmem
   obtain ⟨p,r,rfl⟩:=List.append_of_mem hy
   obtain ⟨hm1,hm2⟩:=entOk.mid hok
   have hpair:∀ x∈p,x.i < y.i:=by
    intro x hx
    rw [List.map_append,List.pairwise_append] at hs
    exact hs.2.2 x.i (List.mem_map.2 ⟨x,hx,rfl⟩) y.i (by simp)
   have hind:∀ x∈p,x.ind y:=by
    intro x hx
    refine hm1 x hx ?_
    cases ha:anc ops ops.size x.i y.i with
    | false=>rfl
    | true=>
      have hxl:=zht hsz hcl ops.size x.i y.i ha (fun o' ho' e he hb=>by rw [ho] at ho';cases ho';exact hready e he hb)
      have hxlt:=hlt x (List.mem_append_left _ hx)
      have:listed.getD x.i true=false:=(hl x.i hxlt).2 (by simp [List.mem_map];exact .inl ⟨x,hx,rfl⟩)
      simp only [Array.getD_eq_getD_getElem?,Array.getElem?_eq_getElem (show x.i < listed.size by omega),Option.getD_some] at hxl this
      rw [hxl] at this;cases this
   obtain ⟨r1,r2⟩:=Runs.front hind h
   refine zd6 hc hip hCE hF s r1 fun own' a' w' s' t' d'=>?_
   have hsub:(p++r).Sublist (p++y :: r):=List.Sublist.append (List.Sublist.refl _) (List.sublist_cons_self _ _)
   have hnotin:∀ z∈p++r,z.i≠y.i:=by
    intro z hz
    rw [List.map_append,List.map_cons,List.pairwise_append,List.pairwise_cons] at hs
    rcases List.mem_append.1 hz with h | h
    ·have:=hpair z h;omega
    ·have:=hs.2.1.1 z.i (List.mem_map.2 ⟨z,h,rfl⟩);omega
   refine ih (p++r) ?_ (by simpa using hsz) ?_ ?_ (fun x hx=>hlt x (hsub.mem hx)) (hs.sublist (hsub.map _)) hm2 s' r2 fun own2 a2 w2 s2 t2 d2=>hq own2 a2 w2 s2 (t'.trans t2) (d2.trans d')
   ·simp only [List.length_append,List.length_cons] at hf ⊢;omega
   ·intro j o' ho' hj e he hb
    have hlst:listed.getD e.on false=true→(listed.setIfInBounds y.i true).getD e.on false=true:=fun h=>getD_set_true h
    by_cases hjy:y.i=j
    ·subst hjy
     rw [ho] at ho';cases ho'
     exact hlst (hready e he hb)
    ·rw [getD_set_ne true hjy] at hj
     exact hlst (hcl j o' ho' hj e he hb)
   ·intro j hj
    by_cases hjy:y.i=j
    ·subst hjy
     have:(listed.setIfInBounds y.i true).getD y.i true=true:=by
      simp [Array.getD_eq_getD_getElem?,Array.getElem?_setIfInBounds,show y.i < listed.size by omega]
     rw [this]
     simp only [Bool.true_eq_false,false_iff]
     intro hmem
     obtain ⟨z,hz,e⟩:=List.mem_map.1 hmem
     exact hnotin z hz e
    ·rw [getD_set_ne true hjy,hl j hj]
     simp only [List.map_append,List.map_cons,List.mem_append,List.mem_cons]
     constructor
     ·rintro (h | h | h)
      ·exact .inl h
      ·exact absurd h.symm hjy
      ·exact .inr h
     ·rintro (h | h)
      ·exact .inl h
      ·exact .inr (.inr h)
end
end Go.Ev
