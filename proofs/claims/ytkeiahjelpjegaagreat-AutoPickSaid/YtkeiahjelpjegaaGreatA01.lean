import Derived.Test.YtkeiahjelpjegaaGreatA00
import Derived.MapKept
import Derived.Laws.Tables
import Derived.Laws.CopyRow
import Derived.Laws.Append
import Derived.Tactics
set_option linter.unusedVariables false
set_option linter.unusedSimpArgs false
namespace Go.Ev
open Go Go.RowKit
variable {P : Program}
section
variable {CE : CEx} {c : Cfg} {G : Sta} {own : Own} {a : Act} {w : World} {T : List Acc} {next : Act → World → Prop}
variable {F : Fence} {n : Nat} {o : Oper} {Q : Exit → Act → World → Prop}
theorem zho:∀ {l:List (Nat×Nat)},noDupB l=true→l.Nodup
 | [],_=>List.nodup_nil
 | (a,b) :: r,h=>by
   simp only [noDupB,Bool.and_eq_true] at h
   refine List.nodup_cons.2 ⟨fun hm=>?_,zho h.2⟩
   have:=List.all_eq_true.1 h.1 _ hm
   simp at this
def SrcM (P:Program) (G:Sta) (own:Own) (w:World) (ls:List LI) (us:List Value):Prop:=
 ls.length=us.length∧∀ (j:Nat) x u,ls[j]?=some x→us[j]?=some u→match x with
  | .pl v=>v.plain0=true∧R0 P G own w v u
  | .mv sb p E l=>look G sb (some p)=some (.own E l)∧OwnL P own w sb p E l u
theorem SrcM.tail {x:LI} {u:Value} {ls:List LI} {us:List Value} (h:SrcM P G own w (x :: ls) (u :: us)):SrcM P G own w ls us:=
 ⟨by have:=h.1;simpa using this,fun j y v h1 h2=>h.2 (j+1) y v (by simpa using h1) (by simpa using h2)⟩
theorem SrcM.keep {G':Sta} {own':Own} {w':World} {φ:AV→AV} {ov:Nat→Nat→Prop} (K:Keep P G own w G' own' w' φ ov) {ls:List LI} {us:List Value} (h:SrcM P G own w ls us)
 (hf:∀ x,AV.plain0 x=true→φ x=x) (hov:∀ sb j,(sb,j)∈ls.flatMap LI.src→ov sb j) (hlk:∀ sb j E l,(sb,j)∈ls.flatMap LI.src→look G sb (some j)=some (.own E l)→look G' sb (some j)=some (.own E l)):SrcM P G' own' w' ls us:=by
 refine ⟨h.1,fun j x u h1 h2=>?_⟩
 have h3:=h.2 j x u h1 h2
 cases x with
 | pl v=>
   refine ⟨h3.1,?_⟩
   have:=R0.keep K h3.2
   rw [hf v h3.1] at this
   exact this
 | mv sb p E l=>
   have hm:(sb,p)∈ls.flatMap LI.src:=List.mem_flatMap.2 ⟨_,List.mem_of_getElem? h1,by simp [LI.src]⟩
   exact ⟨hlk _ _ _ _ hm h3.1,K.ro _ _ _ _ _ (hov _ _ hm) h3.1 h3.2⟩
theorem zfV {b k m:Nat} (hb:b % 3≠1) (hmm:isM b=false):∀ (ls:List LI) (us:List Value) (G:Sta) (own:Own) (w:World) (q i:Nat),St P c.nt G own a w→own k=some (.box b)→lenOf G b=some m→q+i+ls.length≤m→
 (ls.flatMap LI.src).Nodup→(∀ p∈ls.flatMap LI.src,p.1≠b)→SrcM P G own w ls us→∃ own' w',(storeCells ⟨k,q,none⟩ us i).run P w=.ok () w'∧St P c.nt (app (stMv b (q+i) ls) G) own' a w'∧Tr own w own' w'∧own' k=some (.box b)
 | [],us,G,own,w,q,i,s,hk,hm,hlen,hnd,hne,hs=>by
   have:us=[]:=List.length_eq_zero_iff.1 (by have:=hs.1;simpa using this.symm)
   subst this
   exact ⟨own,w,by simp [storeCells],s,Tr.refl _ _,hk⟩
 | x :: ls,[],G,own,w,q,i,s,hk,hm,hlen,hnd,hne,hs=>by have:=hs.1;simp at this
 | x :: ls,u :: us,G,own,w,q,i,s,hk,hm,hlen,hnd,hne,hs=>by
   simp only [List.length_cons] at hlen
   have hls:∀ (v:AV) (H:Sta) (d p:Nat),lenOf ((Up.leaf d p v).app H) b=lenOf H b:=fun v H d p=>by
    rw [zhu]
    intro x hx y hy
    simp only [List.mem_singleton] at hx;subst hx
    simp only [Up.writes,List.mem_singleton] at hy;subst hy;rfl
   have h0:=hs.2 0 x u rfl rfl
   have hnd2:(ls.flatMap LI.src).Nodup:=by rw [List.flatMap_cons] at hnd;exact (List.nodup_append.1 hnd).2.1
   have hne2:∀ p∈ls.flatMap LI.src,p.1≠b:=fun p hp=>hne p (by rw [List.flatMap_cons];exact List.mem_append_right _ hp)
   cases x with
   | mv sb p E l=>
     obtain ⟨e1,e2⟩:=h0
     have hsb:sb≠b:=hne (sb,p) (by rw [List.flatMap_cons];exact List.mem_append_left _ (by simp [LI.src]))
     have hdj:∀ q'∈ls.flatMap LI.src,¬ (q'.1=sb∧q'.2=p):=fun q' hq' e=>by
      rw [List.flatMap_cons] at hnd
      exact (List.nodup_append.1 hnd).2.2 (sb,p) (by simp [LI.src]) q' hq' (by rw [← e.1,← e.2])
     obtain ⟨r1,s1,K1,K2⟩:=zff s hb hmm hk hm (show q+i < m by omega) e2
     have t1:SrcM P ((Up.leaf sb p .bad).app G) own w ls us:=by
      refine hs.tail.keep K1 (fun x hx=>zbY x hx) (fun sb' j' hj=>zas (by rintro ⟨h1,h2⟩;exact hdj _ hj ⟨h1,(by simpa using h2:p=j').symm⟩)) ?_
      exact fun sb' j' E l hj h=>zb0 (hdj _ hj) h
     have t2:=t1.keep K2 (fun x hx=>zbY x hx) (fun sb' j' hj=>zas (fun e=>hne2 _ hj e.1)) (fun sb' j' E l hj h=>zb0 (fun e=>hne2 _ hj e.1) h)
     obtain ⟨own',w',r2,s2,t,hk'⟩:=zfV hb hmm ls us _ _ _ q (i+1) s1 ((zc7 _ _ _ _ _ _ _).1 hk) (by simp only [app,hls];exact hm) (by omega) hnd2 hne2 t2
     refine ⟨own',w',?_,?_,?_,hk'⟩
     ·simp only [storeCells,za3,Sem.run_bind,r1,Result.andThen_ok];exact r2
     ·simp only [stMv];rw [show q+(i+1)=q+i+1 by omega] at s2;exact s2
     ·exact (K1.tr.trans K2.tr).trans t
   | pl v=>
     obtain ⟨e1,e2⟩:=h0
     obtain ⟨r1,s1,K1⟩:=zeS s hb hmm hk hm (show q+i < m by omega) e1 e2
     have t1:=hs.tail.keep K1 (fun x hx=>zbY x hx) (fun sb' j' hj=>zas (fun e=>hne2 _ hj e.1)) (fun sb' j' E l hj h=>zb0 (fun e=>hne2 _ hj e.1) h)
     obtain ⟨own',w',r2,s2,t,hk'⟩:=zfV hb hmm ls us _ _ _ q (i+1) s1 hk (by rw [hls];exact hm) (by omega) hnd2 hne2 t1
     refine ⟨own',w',?_,?_,K1.tr.trans t,hk'⟩
     ·simp only [storeCells,za3,Sem.run_bind,r1,Result.andThen_ok];exact r2
     ·simp only [stMv];rw [show q+(i+1)=q+i+1 by omega] at s2;exact s2
theorem zfn {K:List Up→List Acc→Prop} (s:St P c.nt G own a w):∀ {vs:List AV} {us:List Value} {k:List LI→RM} {T:List Acc},vs.length=us.length→
 (∀ (j:Nat) v u,vs[j]?=some v→us[j]?=some u→R0 P G own w v u)→(mvL vs k).wp CE G T K→∃ ls T',SrcM P G own w ls us∧(k ls).wp CE G T' K
 | [],us,k,T,hl,hr,h=>by
   have:us=[]:=List.length_eq_zero_iff.1 (by simpa using hl.symm)
   subst this
   exact ⟨[],T,⟨rfl,fun j x u h=>by simp at h⟩,h⟩
 | v :: vs,[],k,T,hl,hr,h=>by simp at hl
 | v :: vs,u :: us,k,T,hl,hr,h=>by
   have h0:=hr 0 v u rfl rfl
   have ht:∀ (j:Nat) x y,vs[j]?=some x→us[j]?=some y→R0 P G own w x y:=fun j x y e1 e2=>hr (j+1) x y (by simpa using e1) (by simpa using e2)
   have cons:∀ {x:LI} {ls:List LI},(match x with
    | .pl v=>v.plain0=true∧R0 P G own w v u
    | .mv sb p E l=>look G sb (some p)=some (.own E l)∧OwnL P own w sb p E l u)→SrcM P G own w ls us→SrcM P G own w (x :: ls) (u :: us):=fun {x ls} hx hs=>by
    refine ⟨by simp [hs.1],fun j y z e1 e2=>?_⟩
    cases j with
    | zero=>simp at e1 e2;subst e1 e2;exact hx
    | succ j=>exact hs.2 j y z (by simpa using e1) (by simpa using e2)
   cases v with
   | rf sb j i n=>
     obtain ⟨y,T2,h3,h4⟩:=za1 h
     have hrf:SlV P G own w sb j i n u:=h0
     cases y with
     | own E l=>
       dsimp only at h4
       split at h4
       ·rename_i hc
        obtain ⟨rfl,rfl⟩:=hc
        obtain ⟨ls,T3,k1,k2⟩:=zfn s (by simpa using hl) ht h4
        refine ⟨_,T3,cons ?_ k1,k2⟩
        refine ⟨h3,?_⟩
        have:=(zeT h3 hrf).2
        rw [List.take_length] at this;exact this
       ·exact h4.elim
     | f x=>cases x with
       | sl l=>
         obtain ⟨ls,T3,k1,k2⟩:=zfn s (by simpa using hl) ht h4
         refine ⟨_,T3,cons ?_ k1,k2⟩
         refine ⟨rfl,?_⟩
         unfold SlV at hrf
         rw [h3] at hrf
         exact ⟨rfl,hrf.2⟩
       | _=>exact h4.elim
     | _=>exact h4.elim
   | f x=>
     obtain ⟨ls,T3,k1,k2⟩:=zfn s (by simpa using hl) ht h
     exact ⟨.pl (.f x) :: ls,T3,cons (x:=.pl (.f x)) ⟨rfl,h0⟩ k1,k2⟩
   | _=>exact h.elim
theorem store_view (s:St P c.nt G own a w) {b q k:Nat} (hb:b % 3≠1) (hmm:isM b=false) (hk:own k=some (.box b)) {m:Nat} (hm:lenOf G b=some m) (hq:q < m) {sb p j n:Nat} {E:TypeId} {l:List FV} {u:Value} (hne:sb≠b)
 (hl:look G sb (some p)=some (.own E l)) (hx:SlV P G own w sb p j n u) :
 (store ⟨k,q,none⟩ u).run P w=.ok () (w.setCell ⟨k,q,none⟩ u)∧St P c.nt ((Up.leaf b q (.rf sb p j n)).app G) own a (w.setCell ⟨k,q,none⟩ u)∧
   Keep P G own w ((Up.leaf b q (.rf sb p j n)).app G) own (w.setCell ⟨k,q,none⟩ u) (killr b (some q)) (live (killr b (some q))):=by
 simp only [lenOf,Option.map_eq_some_iff] at hm
 obtain ⟨y,hg,hlen⟩:=hm
 obtain ⟨k',arr,TT,e1,e2,e3⟩:=s.boxes b y hb hmm hg
 have:=s.one _ _ _ e1 hk;subst this
 have hu:u.oneCell'=true:=by
  unfold SlV at hx
  rw [hl] at hx
  obtain ⟨_,a',c',rfl,_⟩:=hx
  rfl
 refine ⟨zcD (v:=undef) e2 (by rw [← e3.1];omega) hu,?_⟩
 refine s.leaf hb hmm hg (by omega) e1 rfl (fun _ _=>Iff.rfl) (fun _ h=>h) (fun _ _ h=>h) (fun _ _ _ _ _ _ _ _ h=>h.1) (fun ht=>?_) s.one s.lt
 have K:Keep P G own w ((Up.leaf b q (.rf sb p j n)).app G) own (w.setCell ⟨k',q,none⟩ u) (Up.leaf b q (.rf sb p j n)).kill (live (Up.leaf b q (.rf sb p j n)).kill):=by
  refine zcx (by intros;simp) (by intros;simp) ht (fun j c off h _=>h) ?_
  intro c' p E l j c'' hl hgl h
  refine h.mono ht h.1 (zZ _ _ _ ?_)
  intro e;simp only at e;rw [e] at h;have:=h.1;rw [e1] at this;cases this
 have h1:=R0.keep K (v:=.rf sb p j n) hx
 have h2:(Up.leaf b q (.rf sb p j n)).kill (.rf sb p j n)=.rf sb p j n:=by
  simp only [Up.kill,killr];rw [if_neg (fun e=>hne e.1)]
 rw [h2] at h1
 exact h1
theorem op_storeV (hc:CfgOk P c) (hF:∀ f,F.fn f) (s:St P c.nt G own a w) {t:TypeId} {x y:Operand} (ho:o.op=.store t x y) (hd:o.dst=none)
 (h:(rdO x fun p=>storeVw c t y p).wp CE G T (Kn P c.nt G own a w next)):o.wpIn F n P a w next Q:=by
 obtain ⟨v,T1,h1,h2⟩:=zA s h
 unfold storeVw at h2
 split at h2
 ·rename_i i b off hi
  obtain ⟨vb,hgb,h3⟩:=h2
  dsimp only at h3
  split at h3
  ·rename_i hcond
   obtain ⟨hle,⟨hb,hmm⟩,hb0,hsz⟩:=hcond
   obtain ⟨k,hk,hu⟩:=RC.ptr (w:=w) h1 hmm
   obtain ⟨v',T2,e1,e2⟩:=zA s h3
   split at e2
   ·rename_i sb q j m
    split at e2
    ·rename_i hne
     obtain ⟨z,T3,g1,g2⟩:=za1 e2
     split at g2
     ·rename_i E l
      have hx:SlV P G own w sb q j m (a.eval y):=e1
      obtain ⟨r1,s1,K1⟩:=store_view s hb hmm hk (show lenOf G b=some vb.leaves.length by simp [lenOf,hgb]) (show off < vb.leaves.length by omega) hne g1 hx
      have hone:(a.eval y).cells=#[a.eval y]:=by
       have hx':=hx
       unfold SlV at hx'
       rw [g1] at hx'
       obtain ⟨_,a',c',hu',_⟩:=hx'
       rw [hu'];rfl
      refine zej hF (by simp [ho]) (w':=w.setCell ⟨k,off,none⟩ (a.eval y)) ?_ (by rw [hd];exact g2 _ a _ s1 K1.tr rfl)
      have:=zdV hc hi (ad:=⟨k,off,none⟩) (v:=a.eval y) (w:=w) (w':=w.setCell ⟨k,off,none⟩ (a.eval y)) (by rw [hone,hsz];rfl) (by simp [hone,storeCells,Addr.add,r1])
      simp [execOp,ho,Instr.storeAt,hu,Instr.sureAddr,this]
     ·exact g2.elim
    ·exact e2.elim
   ·exact e2.elim
  ·exact h3.elim
 ·exact h2.elim
theorem op_storeX (hc:CfgOk P c) (hF:∀ f,F.fn f) (s:St P c.nt G own a w) {t:TypeId} {x y:Operand} (ho:o.op=.store t x y) (hd:o.dst=none)
 (h:(rdO x fun p=>storeX c t y p).wp CE G T (Kn P c.nt G own a w next)):o.wpIn F n P a w next Q:=by
 unfold storeX at h
 cases hm:mvS c y with
 | none=>
   simp only [hm] at h
   cases hv:vsS c y with
   | false=>simp only [hv] at h;exact op_store hc hF s ho hd h
   | true=>simp only [hv] at h;exact op_storeV hc hF s ho hd h
 | some tt=>
   simp only [hm] at h
   have hy:y=.tmp tt:=by
    unfold mvS at hm
    split at hm
    ·split at hm
     ·simp only [Option.some.injEq] at hm;subst hm;rfl
     ·cases hm
    ·cases hm
   subst hy
   obtain ⟨v,T1,h1,h2⟩:=zA s h
   unfold storeMv at h2
   split at h2
   ·rename_i i b off hi
    obtain ⟨vb,hgb,h3⟩:=h2
    dsimp only at h3
    split at h3
    ·rename_i hcond
     obtain ⟨hle,⟨hb,hmm⟩,hb0⟩:=hcond
     obtain ⟨k,hk,hu⟩:=RC.ptr (w:=w) h1 hmm
     obtain ⟨vt,g1,g2,g3⟩:=h3
     cases vt with
     | agg l=>
       have hr:=s.temp g1
       obtain ⟨arr,e1,e2,e3⟩:=hr
       have hall:∀ (j:Nat) v u,l[j]?=some v→(a.eval (.tmp tt)).cells.toList[j]?=some u→RO P G own w (tb tt) j v u:=fun j v u q1 q2=>e3 j v u q1 (by rw [e1] at q2;simpa [Value.cells] using q2)
       have hlen:l.length=(a.eval (.tmp tt)).cells.toList.length:=by rw [e1];simpa [Value.cells] using e2
       have hr0:∀ {K:List Up→List Acc→Prop} {vs:List AV} {k:List LI→RM} {T:List Acc},(mvL vs k).wp CE G T K→∀ v∈vs,∀ E l,v≠.own E l:=by
        intro K vs
        induction vs with
        | nil=>intro k T _ v hv;cases hv
        | cons x vs ih=>
          intro k T h v hv E l0 e
          rcases List.mem_cons.1 hv with rfl | hv2
          ·subst e;exact h.elim
          ·cases x with
           | rf sb j i n=>
             obtain ⟨y,T2,h3,h4⟩:=za1 h
             cases y with
             | own E l=>
               dsimp only at h4
               split at h4
               ·exact ih h4 v hv2 _ _ e
               ·exact h4.elim
             | f x=>cases x with
               | sl l=>exact ih h4 v hv2 _ _ e
               | _=>exact h4.elim
             | _=>exact h4.elim
           | f x=>exact ih h v hv2 _ _ e
           | _=>exact h.elim
       have hno:=hr0 g3
       obtain ⟨ls,T3,k1,k2⟩:=zfn s hlen (fun j v u q1 q2=>by
        have:=hall j v u q1 q2
        rwa [zeU (fun E l0 e=>hno v (List.mem_of_getElem? q1) E l0 e)] at this) g3
       split at k2
       ·rename_i hc2
        obtain ⟨c1,c2,c3⟩:=hc2
        obtain ⟨own3,w3,r1,r2,r3,_⟩:=zfV (k:=k) hb hmm ls (a.eval (.tmp tt)).cells.toList G own w off 0 s hk (show lenOf G b=some vb.leaves.length by simp [lenOf,hgb]) (by omega) (zho c2) (fun p hp=>by have:=List.all_eq_true.1 c3 p hp;simpa using this) k1
        refine zej hF (by simp [ho]) (w':=w3) ?_ (by rw [hd];exact k2 own3 a w3 r2 r3 rfl)
        have hsz:(a.eval (.tmp tt)).cells.size=i.size:=by rw [← c1,k1.1];simp
        have:=zdV hc hi hsz r1
        simp [execOp,ho,Instr.storeAt,hu,Instr.sureAddr,this]
       ·exact k2.elim
     | _=>exact g3.elim
    ·exact h3.elim
   ·exact h2.elim
theorem zgk {k q:Nat} {arr:Array Value} {TT:TypeId} {u:Value} (hw:w.heap[k]?=some (.cells arr TT (0,0))) (hu:arr[q]?=some u):w.setCell ⟨k,q,none⟩ u=w:=by
 have hlt:=(Array.getElem?_eq_some_iff.1 hu).1
 have he:=(Array.getElem?_eq_some_iff.1 hu).2
 have hk:=(Array.getElem?_eq_some_iff.1 hw).1
 have hke:=(Array.getElem?_eq_some_iff.1 hw).2
 have:(w.setCell ⟨k,q,none⟩ u).heap=w.heap:=by
  apply Array.ext_getElem?
  intro i
  simp only [World.setCell,Array.getElem?_modify]
  by_cases e:k=i
  ·subst e
   rw [if_pos rfl,hw]
   simp only [Option.map_some,Option.isSome_none,Bool.false_eq_true,if_false]
   congr 2
   apply Array.ext_getElem?
   intro j
   rw [Array.getElem?_setIfInBounds]
   by_cases e2:q=j
   ·subst e2;rw [if_pos rfl,if_pos hlt,hu]
   ·rw [if_neg e2]
  ·rw [if_neg e]
 cases w with
 | mk heap tape drawn os output=>
   simp only [World.setCell] at this ⊢
   simp only [this]
theorem zdR {k:Nat} {arr:Array Value} {TT:TypeId} (hw:w.heap[k]?=some (.cells arr TT (0,0))):∀ (us:List Value) (i:Nat),(∀ (j:Nat) u,us[j]?=some u→arr[i+j]?=some u∧u.oneCell'=true)→(storeCells ⟨k,0,none⟩ us i).run P w=.ok () w
 | [],i,h=>by simp [storeCells]
 | u :: us,i,h=>by
   obtain ⟨h1,h2⟩:=h 0 u rfl
   rw [Nat.add_zero] at h1
   have hlt:=(Array.getElem?_eq_some_iff.1 h1).1
   have r1:=zcD (P:=P) (w:=w) (v:=undef) (q:=i) (u:=u) hw hlt h2
   rw [zgk hw h1] at r1
   simp only [storeCells,za3,Nat.zero_add,Sem.run_bind,r1,Result.andThen_ok]
   exact zdR hw us (i+1) fun j v hv=>by
    have:=h (j+1) v (by simpa using hv)
    rw [show i+(j+1)=i+1+j by omega] at this;exact this
theorem op_boxO (hF:∀ f,F.fn f) (s:St P c.nt G own a w) {E:TypeId} {t r:Tmp} (ho:o.op=.box E (.tmp t)) (hd:o.dst=some r) {l:List AV} (hg:get G (tb t)=some (.agg l)) (hok:(AV.agg l).ok=true)
 (hfo:l.all isFO=true) (hlt:r < c.nt)
 (h:∀ T',Kn P c.nt G own a w next (.newbox (xb r) (.agg (l.map fun _=>.bad)) :: (stL (tb t) 0 (xb r) 0 l++[.set (tb r) (.ptr (xb r) 0)])) T'):o.wpIn F n P a w next Q:=by
 have hr:=zik s hg hok (by simp) (by simp) (by simp)
 simp only [AV.leaves] at hr
 have hb2:xb r % 3=2:=by simp only [xb];omega
 have hne:tb t≠xb r:=by simp only [tb,xb];omega
 let arr:=(a.eval (.tmp t)).cells
 have hsz:l.length=arr.size:=by have:=hr.1;simpa using this
 have s1:=s.newbox (b:=xb r) hb2 (isM_xb r) (z:=.agg (l.map fun _=>.bad)) (arr:=arr) (T:=E) ⟨by simpa [AV.leaves] using hsz,fun j x u e1 e2=>by
  simp only [AV.leaves,List.getElem?_map] at e1
  cases hj:l[j]? with
  | none=>rw [hj] at e1;cases e1
  | some y=>rw [hj] at e1;cases e1;trivial⟩
 have K1:=s.newbox_keep (xb r) hb2 (.agg (l.map fun _=>.bad)) arr E
 have hk1:ownBox own w.heap.size (xb r) w.heap.size=some (.box (xb r)):=by simp [ownBox]
 have hlook:∀ j E l',look G (tb t) (some j)=some (.own E l')→look ((Up.newbox (xb r) (.agg (l.map fun _=>.bad))).app G) (tb t) (some j)=some (.own E l'):=fun j E l' h=>by
  refine look_fwd h ?_
  intro x hx y hy
  simp only [AV.refs,AV.refs1,AV.refs0,List.mem_singleton] at hx
  simp only [Up.writes,List.mem_cons,List.not_mem_nil,or_false] at hy
  subst hx
  rcases hy with rfl | rfl
  ·simp only [accOf,Acc.meets,beq_eq_false_iff_ne];exact hne
  ·rfl
 have hsrc:Src P ((Up.newbox (xb r) (.agg (l.map fun _=>.bad))).app G) (ownBox own w.heap.size (xb r)) (w.alloc (.cells arr E)) (tb t) 0 l (a.eval (.tmp t)).cells.toList:=by
  refine ⟨hr.1,fun j x u e1 e2=>?_⟩
  have hxfo:=List.all_eq_true.1 hfo x (List.mem_of_getElem? e1)
  rcases hr.2 j x u e1 e2 with ⟨E',l',rfl,e3,e4⟩ | e3
  ·exact .inl ⟨E',l',rfl,hlook _ _ _ e3,K1.ro _ _ _ _ _ (zc9 hne) e3 e4⟩
  ·cases x with
   | f y=>
     have:=R0.keep K1 e3
     exact .inr ⟨rfl,this⟩
   | own E' l'=>exact e3.elim
   | _=>simp [isFO] at hxfo
 have hlen:lenOf ((Up.newbox (xb r) (.agg (l.map fun _=>.bad))).app G) (xb r)=some l.length:=by
  simp [lenOf,Up.app,zbr,AV.leaves]
 obtain ⟨own2,w2,r1,s2,t2,hk2⟩:=zdS (c:=c) (b:=xb r) (k:=w.heap.size) (m:=l.length) (by omega) (isM_xb r) hne l (a.eval (.tmp t)).cells.toList _ _ _ 0 0 0 s1 hk1 hlen (by omega) hsrc
 have hone:∀ (j:Nat) u,(a.eval (.tmp t)).cells.toList[j]?=some u→arr[0+j]?=some u∧u.oneCell'=true:=fun j u hu=>by
  have hj:arr[j]?=some u:=by simpa [arr] using hu
  refine ⟨by rw [Nat.zero_add];exact hj,?_⟩
  have hjl:j < l.length:=by rw [hsz];exact (Array.getElem?_eq_some_iff.1 hj).1
  have hxfo:=List.all_eq_true.1 hfo l[j] (by simp)
  rcases hr.2 j l[j] u (by simp [hjl]) hu with ⟨E',l',e0,e3,e4⟩ | e3
  ·rw [e0] at e4
   obtain ⟨a',c',rfl,_⟩:=e4;rfl
  ·refine za5 e3 ?_
   generalize l[j]=x at hxfo e3
   cases x with
   | f y=>rfl
   | own E' l'=>exact e3.elim
   | _=>simp [isFO] at hxfo
 have hself:=zdR (P:=P) (w:=w.alloc (.cells arr E)) (zaY w (.cells arr E)) (a.eval (.tmp t)).cells.toList 0 hone
 rw [hself] at r1
 have hw2:w.alloc (.cells arr E)=w2:=by simpa using r1
 subst hw2
 have s3:=s2.set_view (t:=r) hlt (v:=.ptr (xb r) 0) (u:=.pointer (some ⟨w.heap.size,0,none⟩)) ⟨w.heap.size,hk2,by rw [isM_xb];rfl⟩ rfl
 refine zD hF (by simp [ho]) (u:=.pointer (some ⟨w.heap.size,0,none⟩)) (w':=w.alloc (.cells (a.eval (.tmp t)).cells E)) ?_ ?_
 ·simp [execOp,ho,Instr.box,newVar,newRow]
 ·rw [hd]
  refine h [] _ _ _ ?_ (K1.tr.trans t2) rfl
  show St P c.nt (app (stL (tb t) 0 (xb r) 0 l++[.set (tb r) (.ptr (xb r) 0)]) ((Up.newbox (xb r) (.agg (l.map fun _=>.bad))).app G)) own2 _ _
  rw [zam];exact s3
theorem op_boxN (hF:∀ f,F.fn f) (s:St P c.nt G own a w) {E:TypeId} {x:Operand} (ho:o.op=.box E x)
 (h:(boxRM c o.dst x).wp CE G T (Kn P c.nt G own a w next)):o.wpIn F n P a w next Q:=by
 unfold boxRM at h
 split at h
 ·rename_i t r hd
  obtain ⟨v,h1,h2,h3⟩:=h
  have old:((cp (vw (tb t) v) fun v U=>newB c (some r) U v).wp CE G (T++accOf (tb t) none :: v.refs) (Kn P c.nt G own a w next))→o.wpIn F n P a w next Q:=fun h=>by
   refine op_box (CE:=CE) (T:=T) hF s ho ?_
   rw [hd];exact ⟨v,h1,h2,h⟩
  cases v with
  | agg l=>
    dsimp only at h3
    split at h3
    ·split at h3
     ·rename_i hc
      exact op_boxO hF s ho hd h1 h2 hc.1 hc.2 fun T' own' a' w' s' t' d'=>h3 own' a' w' s' t' d'
     ·exact h3.elim
    ·exact old h3
  | _=>exact old h3
 ·exact op_box (CE:=CE) (T:=T) hF s ho h
end
end Go.Ev
namespace Go.Ev
open Go Go.RowKit
variable {P : Program}
section
variable {CE : CEx} {c : Cfg} {G : Sta} {own : Own} {a : Act} {w : World} {T : List Acc} {next : Act → World → Prop}
variable {F : Fence} {n : Nat} {o : Oper} {Q : Exit → Act → World → Prop}
def RZ (P:Program) (G:Sta) (own:Own) (w:World) (x:AV) (u:Value):Prop:=zeroLeaf x u∨(x.plain0=true∧R0 P G own w x u)
theorem RZ.kp {G':Sta} {own':Own} {w':World} (K:Kp P G own w G' own' w') {x:AV} {u:Value} (h:RZ P G own w x u):RZ P G' own' w' x u:=h.imp id (fun h=>⟨h.1,K.r0 _ _ h.2⟩)
def RZs (P:Program) (G:Sta) (own:Own) (w:World) (l:List AV) (arr:Array Value):Prop:=l.length=arr.size∧∀ (j:Nat) x u,l[j]?=some x→arr[j]?=some u→RZ P G own w x u
theorem foldl_set (o:Nat):∀ (vs:List Value) (st:Nat) (arr:Array Value),((vs.zipIdx st).foldl (fun cs (p:Value×Nat)=>cs.setIfInBounds (o+p.2) p.1) arr).size=arr.size∧
 ∀ m,((vs.zipIdx st).foldl (fun cs (p:Value×Nat)=>cs.setIfInBounds (o+p.2) p.1) arr)[m]?=if o+st≤m∧m < o+st+vs.length∧m < arr.size then vs[m - (o+st)]? else arr[m]?
 | [],st,arr=>⟨rfl,fun m=>by simp;omega⟩
 | v :: vs,st,arr=>by
   obtain ⟨h1,h2⟩:=foldl_set o vs (st+1) (arr.setIfInBounds (o+st) v)
   simp only [List.zipIdx_cons,List.foldl_cons]
   refine ⟨by rw [h1,Array.size_setIfInBounds],fun m=>?_⟩
   rw [h2]
   simp only [Array.size_setIfInBounds,List.length_cons]
   by_cases hm:m=o+st
   ·subst hm
    rw [if_neg (by omega)]
    by_cases hlt:o+st < arr.size
    ·rw [Array.getElem?_setIfInBounds_self_of_lt hlt,if_pos ⟨by omega,by omega,hlt⟩];simp
    ·rw [if_neg (by omega),Array.getElem?_eq_none (by simp;omega),Array.getElem?_eq_none (by omega)]
   ·rw [Array.getElem?_setIfInBounds_ne (fun e=>hm e.symm)]
    by_cases hc:o+(st+1)≤m∧m < o+(st+1)+vs.length∧m < arr.size
    ·rw [if_pos hc,if_pos ⟨by omega,by omega,hc.2.2⟩]
     obtain ⟨d,hd⟩:∃ d,m - (o+st)=d+1:=⟨m - (o+st) - 1,by omega⟩
     rw [hd,List.getElem?_cons_succ,show m - (o+(st+1))=d by omega]
    ·rw [if_neg hc,if_neg (by omega)]
theorem fill_zip (o:Nat) (vs:Array Value) (arr:Array Value):(vs.zipIdx.foldl (fun cs (p:Value×Nat)=>cs.setIfInBounds (o+p.2) p.1) arr).size=arr.size∧
 ∀ m,(vs.zipIdx.foldl (fun cs (p:Value×Nat)=>cs.setIfInBounds (o+p.2) p.1) arr)[m]?=if o≤m∧m < o+vs.size∧m < arr.size then vs[m - o]? else arr[m]?:=by
 rw [← Array.foldl_toList,Array.toList_zipIdx]
 have:=foldl_set o vs.toList 0 arr
 simpa using this
theorem zhL:∀ (l:List AV) (z:List AV) (o m:Nat),(fillL z o l).length=z.length∧(fillL z o l)[m]?=if o≤m∧m < o+l.length∧m < z.length then l[m - o]? else z[m]?
 | [],z,o,m=>⟨rfl,by simp [fillL];omega⟩
 | x :: l,z,o,m=>by
   obtain ⟨h1,h2⟩:=zhL l (z.set o x) (o+1) m
   simp only [fillL]
   refine ⟨by rw [h1,List.length_set],?_⟩
   rw [h2]
   simp only [List.length_set,List.length_cons]
   by_cases hm:m=o
   ·subst hm
    rw [if_neg (by omega),List.getElem?_set,if_pos rfl]
    by_cases hlt:m < z.length
    ·rw [if_pos hlt,if_pos ⟨by omega,by omega,hlt⟩];simp
    ·rw [if_neg hlt,if_neg (by omega),List.getElem?_eq_none (by omega)]
   ·rw [List.getElem?_set_ne (fun e=>hm e.symm)]
    by_cases hc:o+1≤m∧m < o+1+l.length∧m < z.length
    ·rw [if_pos hc,if_pos ⟨by omega,by omega,hc.2.2⟩]
     obtain ⟨d,hd⟩:∃ d,m - o=d+1:=⟨m - o - 1,by omega⟩
     rw [hd,List.getElem?_cons_succ,show m - (o+1)=d by omega]
    ·rw [if_neg hc,if_neg (by omega)]
theorem RZs.fill {l z:List AV} {o:Nat} {vs arr:Array Value} (hz:RZs P G own w z arr) (hl:l.length=vs.size) (hr:∀ (j:Nat) x u,l[j]?=some x→vs[j]?=some u→RZ P G own w x u) :
 RZs P G own w (fillL z o l) (vs.zipIdx.foldl (fun cs (p:Value×Nat)=>cs.setIfInBounds (o+p.2) p.1) arr):=by
 obtain ⟨h1,h2⟩:=fill_zip o vs arr
 refine ⟨by rw [(zhL l z o 0).1,h1];exact hz.1,fun j x u e1 e2=>?_⟩
 rw [(zhL l z o j).2,hl,hz.1] at e1
 rw [h2] at e2
 split at e1
 ·rename_i hc
  rw [if_pos hc] at e2
  exact hr _ _ _ e1 e2
 ·rename_i hc
  rw [if_neg hc] at e2
  exact hz.2 _ _ _ e1 e2
theorem zgw {K:List Up→List Acc→Prop} {place:Nat→Option (Nat×Nat)} (s:St P c.nt G own a w):∀ {parts:List (Nat×Operand)} {z:List AV} {arr:Array Value} {U:List Up} {own1:Own} {k:List AV→List Up→RM} {T:List Acc},
 FrzOnly U→St P c.nt (app U G) own1 a w→Kp P G own w (app U G) own1 w→RZs P (app U G) own1 w z arr→(fillRM place z parts U k).wp CE G T K→
 ∃ z' arr' U' own' T',Instr.fill place arr (parts.map fun p=>(p.1,a.eval p.2))=some arr'∧St P c.nt (app U' G) own' a w∧Kp P G own w (app U' G) own' w∧RZs P (app U' G) own' w z' arr'∧(k z' U').wp CE G T' K
 | [],z,arr,U,own1,k,T,hU,s1,K1,hz,h=>⟨z,arr,U,own1,T,rfl,s1,K1,hz,h⟩
 | (i,x) :: r,z,arr,U,own1,k,T,hU,s1,K1,hz,h=>by
   obtain ⟨v,T1,h1,h2⟩:=zA s h
   obtain ⟨xs,W,T2,own2,k1,k2,k3,k4,k6⟩:=zd9 hU s1 (K1.rv h1) h2
   split at k6
   ·rename_i q m hp
    split at k6
    ·rename_i hc
     obtain ⟨hc1,hc2⟩:=hc
     have hlen:xs.length=(a.eval x).cells.size:=by rw [k4.1];simp
     have hz2:RZs P (app (U++W) G) own2 w z arr:=⟨hz.1,fun j x u e1 e2=>(hz.2 j x u e1 e2).kp k3⟩
     have hz3:=hz2.fill (o:=q) hlen (fun j x u e1 e2=>.inr (k4.2 j x u e1 (by simpa using e2)))
     obtain ⟨z',arr',U',own',T',r1,r2,r3,r4,r5⟩:=zgw s (hU.app k1) k2 (K1.trans k3) hz3 k6
     refine ⟨z',arr',U',own',T',?_,r2,r3,r4,r5⟩
     simp only [List.map_cons,Instr.fill,hp]
     rw [if_neg]
     ·exact r1
     ·have:=hz.1
      simp only [Bool.or_eq_true,bne_iff_ne,decide_eq_true_eq]
      omega
    ·exact k6.elim
   ·exact k6.elim
theorem zgr (hc:CfgOk P c):∀ {fs:List Field} {pl:List (Nat×Nat)},placesL c fs=some pl→fs.mapM (fun f=>(P.info? f.type).map fun i=>(f.offset,i.size))=some pl
 | [],pl,h=>by simp [placesL] at h;subst h;rfl
 | f :: r,pl,h=>by
   simp only [placesL] at h
   split at h
   ·rename_i t l ht hl
    cases h
    obtain ⟨inf,h1,h2,_⟩:=(hc f.type t ht).info
    rw [List.mapM_cons,zgr hc hl]
    simp [h1,h2]
   ·cases h
theorem finAgg_sound {U:List Up} {own':Own} {d:Option Tmp} {l:List AV} {arr:Array Value} (s:St P c.nt (app U G) own' a w) (ht:Tr own w own' w) (hz:RZs P (app U G) own' w l arr)
 (h:(finAgg c d U l).wp CE G T (Kn P c.nt G own a w next)):next (a.put d (.agg arr)) w:=by
 cases d with
 | none=>exact h.elim
 | some t=>
   simp only [finAgg] at h
   split at h
   ·rename_i hlt
    have hs:St P c.nt ((Up.set (tb t) (.agg l)).app (app U G)) own' (a.put (some t) (.agg arr)) w:=by
     refine s.set_pure hlt (u:=.agg arr) ⟨arr,rfl,hz.1,fun j x v e1 e2=>?_⟩
     rcases hz.2 j x v e1 e2 with h1 | ⟨h1,h2⟩
     ·exact zeP h1
     ·have K:Keep P (app U G) own' w ((Up.set (tb t) (.agg l)).app (app U G)) own' w (Up.set (tb t) (.agg l)).kill (live (Up.set (tb t) (.agg l)).kill):=
       zcx (by intros;simp) (by intros;simp) (Tr.refl _ _) (fun k b off h _=>h) (fun _ _ _ _ _ _ _ _ h=>h)
      have:=R0.keep K h2
      rw [show (Up.set (tb t) (.agg l)).kill x=x from zbY x h1] at this
      rw [zeU (by intro E l e;subst e;simp [AV.plain0] at h1)]
      exact this
    exact h own' _ w (by rw [zam];exact hs) ht rfl
   ·exact h.elim
theorem zeroFits_rzs {z:List AV} {zv:Value} (h:zeroFits (.agg z) zv):RZs P G own w z zv.cells:=by
 obtain ⟨arr,rfl,h1,h2⟩:=h
 exact ⟨h1,fun j x u e1 e2=>.inl (h2 j x u e1 e2)⟩
theorem op_build (hc:CfgOk P c) (hF:∀ f,F.fn f) (s:St P c.nt G own a w) {t:TypeId} {parts:Array (Nat×Operand)} (ho:o.op=.build t parts)
 (h:(buildRM c o.dst t parts.toList).wp CE G T (Kn P c.nt G own a w next)):o.wpIn F n P a w next Q:=by
 have go:∀ {place:Nat→Option (Nat×Nat)} {z:List AV} {zv:Value},zeroFits (.agg z) zv→(∀ ps cells,Instr.fill place zv.cells ps=some cells→P.built t ps=some cells)→
  (fillRM place z parts.toList [] fun l U=>finAgg c o.dst U l).wp CE G T (Kn P c.nt G own a w next)→o.wpIn F n P a w next Q:=by
  intro place z zv hz hb h
  obtain ⟨z',arr',U',own',T',r1,r2,r3,r4,r5⟩:=zgw (U:=[]) s FrzOnly.nil s (Kp.refl _ _ _) (zeroFits_rzs hz) h
  refine zD hF (by simp [ho]) (u:=.agg arr') (w':=w) ?_ (finAgg_sound r2 r3.tr r4 r5)
  have:=run_build (P:=P) w t (parts.map fun p=>(p.1,a.eval p.2)) arr' (hb _ _ (by simpa using r1))
  simp only [execOp,ho]
  rw [Sem.run_bind,this];rfl
 unfold buildRM at h
 split at h
 ·rename_i fs sz by_ z hti
  split at h
  ·rename_i pl hpl
   obtain ⟨f,h1,h2,h3,h4⟩:=(hc t _ hti).info
   obtain ⟨zv,h5,h6⟩:=h4 _ rfl
   refine go h6 ?_ h
   intro ps cells hfill
   unfold Program.built
   rw [h1,(hc t _ hti).und]
   simp only [h5,zgr hc hpl]
   simpa using hfill
  ·exact h.elim
 ·rename_i N E sz by_ z hti
  split at h
  ·rename_i i hi
   obtain ⟨f,h1,h2,h3,h4⟩:=(hc t _ hti).info
   obtain ⟨zv,h5,h6⟩:=h4 _ rfl
   obtain ⟨fE,g1,g2,_⟩:=(hc E _ hi).info
   refine go h6 ?_ h
   intro ps cells hfill
   unfold Program.built
   rw [h1,(hc t _ hti).und]
   simp only [h5,g1,g2]
   exact hfill
  ·exact h.elim
 ·exact h.elim
theorem op_len (hc:CfgOk P c) (hF:∀ f,F.fn f) (s:St P c.nt G own a w) {x:Operand} {t:TypeId} (ho:o.op=.call { callee:=.builtin .len,args:=#[x],argTypes:=#[t] })
 (h:(match c.ti t with
 | some { desc:=.slice _,.. }=>rdO x (lenRM c o.dst)
 | some { desc:=.string,.. }=>rdO x (lenSRM c o.dst)
 | some { desc:=.map _ _,.. }=>rdO x (lenMRM c o.dst)
 | _=>.fail:RM).wp CE G T (Kn P c.nt G own a w next)):o.wpIn F n P a w next Q:=by
 have exec:∀ {u},(Builtin.len_ #[t] o.type #[a.eval x]).run P w=.ok u w→(execOp a.eval o).run P w=.ok (.value u) w:=by
  intro u hu
  simp only [execOp,ho,resolve,Sem.run_bind]
  simp [invoke,builtin,hu]
 split at h
 ·rename_i hti
  have hun:=(hc t _ hti).und
  obtain ⟨v,T1,h1,h2⟩:=zA s h
  unfold lenRM at h2
  split at h2
  ·rename_i l
   obtain ⟨a',c',hu,_⟩:=rf_shape h1.2
   exact zD hF (by simp [ho]) (exec (u:=.int .i64 l.length) (by simp [Builtin.len_,run_underlying hun,hu,goInt])) (zK (U:=[]) s (Tr.refl _ _) (zax rfl) h2)
  ·rename_i b q i m
   obtain ⟨T2,h3,h4,_⟩:=zfW (v:=.rf b q i m) h1 h2
   obtain ⟨l,_,_,a',c',hu,_⟩:=h4 _ _ _ _ rfl
   exact zD hF (by simp [ho]) (exec (u:=.int .i64 m) (by simp [Builtin.len_,run_underlying hun,hu,goInt])) (zK (U:=[]) s (Tr.refl _ _) (zax rfl) h3)
  ·exact h2.elim
 ·rename_i hti
  have hun:=(hc t _ hti).und
  obtain ⟨v,T1,h1,h2⟩:=zA s h
  unfold lenSRM at h2
  split at h2
  ·rename_i str
   have hu:=zbn h1
   exact zD hF (by simp [ho]) (exec (u:=.int .i64 str.size) (by simp [Builtin.len_,run_underlying hun,hu,goInt])) (zK (U:=[]) s (Tr.refl _ _) (zax rfl) h2)
  ·exact h2.elim
 ·rename_i hti
  have hun:=(hc t _ hti).und
  obtain ⟨v,T1,h1,h2⟩:=zA s h
  unfold lenMRM at h2
  split at h2
  ·rename_i b q
   split at h2
   ·rename_i hm
    obtain ⟨k,hk,hu⟩:=h1
    rw [if_pos hm] at hu
    obtain ⟨z,T2,h3,h4⟩:=za1 h2
    split at h4
    ·rename_i L
     obtain ⟨k',es,ck,e1,e2,e3⟩:=s.maps b _ hm h3
     have:=s.one _ _ _ e1 hk;subst this
     have hlen:L.length=es.size:=by
      rcases e3 with e | ⟨L',e,h,_⟩
      ·cases e
      ·cases e;exact h
     exact zD hF (by simp [ho]) (exec (u:=.int .i64 L.length) (by simp [Builtin.len_,run_underlying hun,hu,goInt,MapKept.run_getObj_map e2,hlen])) (zK (U:=[]) s (Tr.refl _ _) (zax rfl) h4)
    ·exact h4.elim
   ·exact h2.elim
  ·exact h2.elim
 ·exact h.elim
theorem zhp {mx:Bool} {k:IntKind}:∀ {l:List AV} {us:List Value} {p:Int} {z:AV},maxGo mx k p l=some z→l.length=us.length→(∀ (j:Nat) x u,l[j]?=some x→us[j]?=some u→RV P G own w x u)→
 ∃ r,(us.foldlM (if mx=true then Builtin.max2 else Builtin.min2) (.int k p)).run P w=.ok r w∧RV P G own w z r
 | [],us,p,z,h,hl,hr=>by
   have:us=[]:=List.length_eq_zero_iff.1 (by simpa using hl.symm)
   subst this
   simp [maxGo] at h;subst h
   exact ⟨_,rfl,zax rfl⟩
 | x :: l,[],p,z,h,hl,hr=>by simp at hl
 | x :: l,u :: us,p,z,h,hl,hr=>by
   unfold maxGo at h
   split at h
   ·simp_all
   ·rename_i a1 a2
    injection a2 with a2 a3;subst a2 a3
    rename_i k' q _
    have hu:=zbn (hr 0 _ u rfl rfl);subst hu
    obtain ⟨r,h1,h2⟩:=zhp (us:=us) h (by simpa using hl) (fun j x u e1 e2=>hr (j+1) x u (by simpa using e1) (by simpa using e2))
    refine ⟨r,?_,h2⟩
    rw [List.foldlM_cons]
    cases mx<;>simp only [Bool.false_eq_true,if_true,if_false] at h1 ⊢
    ·rw [Sem.run_bind,Builtin.min2,Sem.run_pure,Result.andThen_ok];exact h1
    ·rw [Sem.run_bind,Builtin.max2,Sem.run_pure,Result.andThen_ok];exact h1
   ·cases h
theorem op_max (hF:∀ f,F.fn f) (s:St P c.nt G own a w) {xs:Array Operand} {ts:Array TypeId} {mx:Bool} (ho:o.op=.call { callee:=.builtin (if mx=true then .max else .min),args:=xs,argTypes:=ts })
 (h:(rdL xs.toList fun vs=>optRM c o.dst (maxAV mx vs)).wp CE G T (Kn P c.nt G own a w next)):o.wpIn F n P a w next Q:=by
 obtain ⟨vs,T',h1,h2,h3⟩:=zfi s h
 cases hm:maxAV mx vs with
 | none=>rw [hm] at h3;exact h3.elim
 | some z=>
   rw [hm] at h3
   unfold maxAV at hm
   split at hm
   ·rename_i k p r
    cases hxs:xs.toList with
    | nil=>rw [hxs] at h1;simp at h1
    | cons x0 xr=>
      rw [hxs] at h1 h2
      have hu:=zbn (h2 0 _ x0 rfl rfl)
      obtain ⟨r',h4,h5⟩:=zhp (P:=P) (G:=G) (own:=own) (w:=w) (us:=xr.map a.eval) hm (by simpa using h1) (fun j x u e1 e2=>by
       rw [List.getElem?_map] at e2
       cases hj:xr[j]? with
       | none=>rw [hj] at e2;cases e2
       | some y=>rw [hj] at e2;cases e2;exact h2 (j+1) x y (by simpa using e1) (by simpa using hj))
      refine zD hF (by simp [ho]) (u:=r') (w':=w) ?_ (zK (U:=[]) s (Tr.refl _ _) h5 h3)
      have hmap:(xs.map a.eval).toList=a.eval x0 :: xr.map a.eval:=by simp [hxs]
      cases mx<;>simp only [Bool.false_eq_true,if_true,if_false] at h4 ho ⊢
      ·simp only [execOp,ho,resolve,Sem.run_bind]
       simp only [Sem.run_pure,Result.andThen_ok,invoke,builtin,Builtin.min_,hmap,Sem.run_bind,hu,h4]
      ·simp only [execOp,ho,resolve,Sem.run_bind]
       simp only [Sem.run_pure,Result.andThen_ok,invoke,builtin,Builtin.max_,hmap,Sem.run_bind,hu,h4]
   ·cases hm
end
end Go.Ev
namespace Go.Ev
open Go Go.RowKit
variable {P : Program}
section
variable {CE : CEx} {c : Cfg} {G : Sta} {own : Own} {a : Act} {w : World} {T : List Acc} {next : Act → World → Prop}
variable {F : Fence} {n : Nat} {o : Oper} {Q : Exit → Act → World → Prop}
theorem elem_cells {v:AV} {u:Value} {e:FV} (h:RV P G own w v u) (he:v.elem=some e):e.cells.length=u.cells.size∧∀ (j:Nat) y z,e.cells[j]?=some y→u.cells[j]?=some z→RF own w y z:=by
 cases v with
 | agg l=>
   simp only [AV.elem,Option.map_eq_some_iff] at he
   obtain ⟨fs,h1,rfl⟩:=he
   obtain ⟨h2,h3⟩:=zcM h1
   obtain ⟨arr,rfl,h4,h5⟩:=h
   refine ⟨by simp only [FV.cells,Value.cells];omega,fun j y z e1 e2=>?_⟩
   exact (h5 j _ z (h3 j y e1).1 e2).2
 | f x=>
   simp only [AV.elem,AV.leafF] at he
   split at he
   ·rename_i hone
    cases he
    have hu:=za5 (P:=P) (G:=G) (v:=.f _) h rfl
    have e2:u.cells=#[u]:=by cases u<;>first | rfl | simp [Value.oneCell'] at hu
    rw [FV.one_cells hone,e2]
    refine ⟨rfl,fun j y z f1 f2=>?_⟩
    cases j with
    | zero=>simp at f1 f2;subst f1 f2;exact h.2
    | succ j=>simp at f1
   ·cases he
 | _=>simp [AV.elem,AV.leafF] at he
theorem zfA {K:List Up→List Acc→Prop} (s:St P c.nt G own a w):∀ {parts:List (Nat×Operand)} {i:Nat} {U:List Up} {own1:Own} {k:List FV→List Up→RM} {T:List Acc},
 FrzOnly U→St P c.nt (app U G) own1 a w→Kp P G own w (app U G) own1 w→(elemsRM i parts k).wp CE G T K→
 ∃ es W own' T',FrzOnly W∧St P c.nt (app (U++W) G) own' a w∧Kp P (app U G) own1 w (app (U++W) G) own' w∧es.length=parts.length∧
   (∀ (j:Nat) e p,es[j]?=some e→parts[j]?=some p→p.1=i+j∧e.cells.length=(a.eval p.2).cells.size∧∀ (q:Nat) y z,e.cells[q]?=some y→(a.eval p.2).cells[q]?=some z→RF own' w y z)∧(k es W).wp CE G T' K
 | [],i,U,own1,k,T,hU,s1,K1,h=>⟨[],[],own1,T,FrzOnly.nil,by simpa using s1,by simpa using Kp.refl _ _ _,rfl,fun j e p h=>by simp at h,h⟩
 | (j,x) :: r,i,U,own1,k,T,hU,s1,K1,h=>by
   simp only [elemsRM] at h
   split at h
   ·rename_i hij
    obtain ⟨v,T1,h1,h2⟩:=zA s h
    obtain ⟨v',W,T2,own2,k1,k2,k3,k4,k5,k6⟩:=zfC hU s1 (K1.rv h1) h2
    split at k6
    ·rename_i e he
     obtain ⟨es,W2,own3,T3,g1,g2,g3,g4,g5,g6⟩:=zfA s (hU.app k1) k2 (K1.trans k3) k6
     rw [List.append_assoc] at g2 g3
     obtain ⟨c1,c2⟩:=elem_cells k4 he
     refine ⟨e :: es,W++W2,own3,T3,k1.app g1,g2,k3.trans g3,by simp [g4],fun q e' p f1 f2=>?_,g6⟩
     cases q with
     | zero=>
       simp at f1 f2;subst f1 f2
       exact ⟨by simp [hij],c1,fun q y z p1 p2=>(c2 q y z p1 p2).mono g3.tr⟩
     | succ q=>
       simp at f1 f2
       obtain ⟨p1,p2,p3⟩:=g5 q e' p f1 f2
       exact ⟨by omega,p2,p3⟩
    ·exact k6.elim
   ·exact h.elim
theorem ziv (sz N:Nat):∀ (vals:List (Nat×Value)) (i0:Nat) (arr:Array Value),arr.size=N * sz→i0+vals.length≤N→(∀ (j:Nat) p,vals[j]?=some p→p.1=i0+j∧p.2.cells.size=sz)→
 ∃ arr',Instr.fill (fun i=>some (i * sz,sz)) arr vals=some arr'∧arr'.size=N * sz∧(∀ m,m < i0 * sz→arr'[m]?=arr[m]?)∧
   ∀ (j:Nat) p q,vals[j]?=some p→q < sz→arr'[(i0+j) * sz+q]?=p.2.cells[q]?
 | [],i0,arr,hs,_,_=>⟨arr,rfl,hs,fun _ _=>rfl,fun j p q h=>by simp at h⟩
 | (i,v) :: r,i0,arr,hs,hle,hv=>by
   obtain ⟨h1,h2⟩:=hv 0 _ rfl
   simp only [Nat.add_zero] at h1 h2
   subst h1
   simp only [List.length_cons] at hle
   obtain ⟨f1,f2⟩:=fill_zip (i * sz) v.cells arr
   have hroom:i * sz+sz≤N * sz:=by
    have:(i+1) * sz≤N * sz:=Nat.mul_le_mul_right _ (by omega)
    rw [Nat.add_mul] at this;omega
   obtain ⟨arr',g1,g2,g3,g4⟩:=ziv sz N r (i+1) _ (by rw [f1];exact hs) (by omega) (fun j p hj=>by
    obtain ⟨e1,e2⟩:=hv (j+1) p (by simpa using hj)
    exact ⟨by omega,e2⟩)
   refine ⟨arr',?_,g2,fun m hm=>?_,fun j p q hj hq=>?_⟩
   ·simp only [Instr.fill]
    rw [if_neg]
    ·exact g1
    ·simp only [Bool.or_eq_true,bne_iff_ne,decide_eq_true_eq];omega
   ·rw [g3 m (by rw [Nat.add_mul];omega),f2,if_neg (by omega)]
   ·cases j with
    | succ j=>
      rw [show i+(j+1)=i+1+j by omega]
      exact g4 j p q (by simpa using hj) hq
    | zero=>
      simp at hj;subst hj
      rw [Nat.add_zero,g3 _ (by rw [Nat.add_mul];omega),f2,if_pos ⟨by omega,by omega,by omega⟩]
      rw [show i * sz+q - i * sz=q by omega]
theorem zca {n:Nat} {e:FV} (h:e.fits n=true):e.size=n∧∀ y∈e.cells,y.one=true:=by
 simp only [FV.fits,Bool.and_eq_true,beq_iff_eq,List.all_eq_true] at h
 exact h
theorem zc0 {U:List Up} {own':Own} {w':World} {d:Option Tmp} {E:TypeId} {l:List FV} {cap:Nat} {arr:Array Value} (s:St P c.nt (app U G) own' a w) (ht:Tr own w own' w)
 {n0:Nat} (hn:w.heap.size≤n0) (hsz:n0 < w'.heap.size) (hkeep:∀ k,k < w.heap.size→w'.heap[k]?=w.heap[k]?) (hos:w'.os=w.os) (htp:w'.tape=w.tape) (hout:w'.output=w.output)
 (hw:w'.heap[n0]?=some (.cells arr E (0,0))) (hcap:l.length≤cap) (harr:cap * esz P E≤arr.size) (hs:∀ x∈l,x.size=esz P E)
 (hcells:∀ (i:Nat) x (j:Nat) y,l[i]?=some x→x.cells[j]?=some y→∃ v,arr[i * esz P E+j]?=some v∧RF own' w y v)
 (h:(finNew c d U E l).wp CE G T (Kn P c.nt G own a w next)):next (a.put d (.slice (some ⟨n0,0,none⟩) l.length cap)) w':=by
 cases d with
 | none=>exact h.elim
 | some t=>
   simp only [finNew] at h
   split at h
   ·rename_i hlt
    obtain ⟨s2,t2⟩:=s.set_new (E:=E) (l:=l) (u:=.slice (some ⟨n0,0,none⟩) l.length cap) hlt hn hsz hkeep hos htp hout (fun t2=>
     ⟨_,cap,rfl,hcap,.inr ⟨n0,rfl,by simp [ownSl],arr,hw,harr,hs,fun i x j y e1 e2=>let ⟨v,e3,e4⟩:=hcells i x j y e1 e2;⟨v,e3,e4.mono t2⟩⟩⟩)
    exact h _ _ w' (by rw [zam];exact s2) (ht.trans t2) rfl
   ·exact h.elim
theorem op_buildSlice (hc:CfgOk P c) (hF:∀ f,F.fn f) (s:St P c.nt G own a w) {t:TypeId} {m:Nat} {parts:Array (Nat×Operand)} (ho:o.op=.buildSlice t m parts)
 (h:(buildSliceRM c o.dst t m parts.toList).wp CE G T (Kn P c.nt G own a w next)):o.wpIn F n P a w next Q:=by
 unfold buildSliceRM at h
 split at h
 ·rename_i E sz0 by0 z0 hti
  split at h
  ·rename_i D sz by_ z hE
   obtain ⟨es,W,own2,T2,k1,k2,k3,k4,k5,k6⟩:=zfA (U:=[]) s FrzOnly.nil s (Kp.refl _ _ _) h
   simp only [List.nil_append] at k2 k3
   split at k6
   ·rename_i hcond
    obtain ⟨g1,g2,g3⟩:=hcond
    have hlen:parts.toList.length=m:=by omega
    obtain ⟨zv,z1,_⟩:=(hc E _ hE).run_zero w rfl
    have hszE:(sizeOf E).run P w=.ok sz w:=(hc E _ hE).run_size w
    have hesz:esz P E=sz:=(hc E _ hE).cells
    have hvals:∀ (j:Nat) p,(parts.toList.map fun p=>(p.1,a.eval p.2))[j]?=some p→p.1=0+j∧p.2.cells.size=sz:=by
     intro j p hp
     rw [List.getElem?_map] at hp
     cases hj:parts.toList[j]? with
     | none=>rw [hj] at hp;cases hp
     | some q=>
       rw [hj] at hp;cases hp
       have hlt:=(List.getElem?_eq_some_iff.1 hj).1
       obtain ⟨e,he⟩:∃ e,es[j]?=some e:=⟨es[j]'(by omega),by simp⟩
       obtain ⟨p1,p2,p3⟩:=k5 j e q he hj
       refine ⟨p1,?_⟩
       rw [← p2]
       exact (zca (List.all_eq_true.1 g3 e (List.mem_of_getElem? he))).1
    have main:∀ (init:Array Value),init.size=m * sz→∃ arr',Instr.fill (fun i=>some (i * sz,sz)) init (parts.toList.map fun p=>(p.1,a.eval p.2))=some arr'∧next (a.put o.dst (.slice (some ⟨w.heap.size,0,none⟩) m m)) (w.alloc (.cells arr' E)):=by
     intro init hi
     obtain ⟨arr',f1,f2,f3,f4⟩:=ziv sz m _ 0 init hi (by simp at hlen ⊢;omega) hvals
     refine ⟨arr',f1,?_⟩
     have:=zc0 (G:=G) (w':=w.alloc (.cells arr' E)) (cap:=m) (arr:=arr') k2 k3.tr (n0:=w.heap.size) (Nat.le_refl _) (by simp) (fun k hk=>zaI _ _ hk) rfl rfl rfl (zaY _ _) (by omega)
      (by rw [hesz,f2];exact Nat.le_refl _) (fun x hx=>by rw [hesz];exact (zca (List.all_eq_true.1 g3 x hx)).1) ?_ k6
     ·rw [g1] at this;exact this
     ·intro i x j y e1 e2
      have hil:=(List.getElem?_eq_some_iff.1 e1).1
      have hxs:=(zca (List.all_eq_true.1 g3 x (List.mem_of_getElem? e1))).1
      have hjl:=(List.getElem?_eq_some_iff.1 e2).1
      simp only [FV.size] at hxs
      obtain ⟨p,hp⟩:∃ p,parts.toList[i]?=some p:=⟨parts.toList[i]'(by omega),by simp⟩
      obtain ⟨p1,p2,p3⟩:=k5 i x p e1 hp
      have:=f4 i (p.1,a.eval p.2) j (by rw [List.getElem?_map,hp];rfl) (by omega)
      obtain ⟨zz,hz⟩:∃ zz,(a.eval p.2).cells[j]?=some zz:=⟨(a.eval p.2).cells[j]'(by omega),by simp⟩
      rw [hesz]
      refine ⟨zz,?_,p3 j y zz e2 hz⟩
      rw [Nat.zero_add] at this;rw [this];exact hz
    have hun:=(hc t _ hti).und
    by_cases h0:m * sz=0
    ·obtain ⟨arr',f1,f2⟩:=main #[] (by simp [h0])
     refine zD hF (by simp [ho]) ?_ f2
     simp only [execOp,ho]
     rw [Sem.run_bind]
     have:(Instr.buildSlice t m (parts.map fun p=>(p.1,a.eval p.2))).run P w=.ok (.slice (some ⟨w.heap.size,0,none⟩) m m) (w.alloc (.cells arr' E)):=by
      have g2':¬ m * sz > 2 ^ 24:=by omega
      have he:∀ g:Nat→Value,(Array.range (m * sz)).map g=#[]:=fun g=>Array.eq_empty_of_size_eq_zero (by simp [h0])
      simp only [Instr.buildSlice,Sem.run_bind,run_underlying hun,Result.andThen_ok,hszE,Sem.run_ite,if_neg g2',if_pos h0,Sem.run_pure,Array.toList_map,he,f1]
      simp [newRow]
     rw [this];rfl
    ·obtain ⟨arr',f1,f2⟩:=main ((Array.range (m * sz)).map (zv.cells[· % zv.cells.size]!)) (by simp)
     refine zD hF (by simp [ho]) ?_ f2
     simp only [execOp,ho]
     rw [Sem.run_bind]
     have:(Instr.buildSlice t m (parts.map fun p=>(p.1,a.eval p.2))).run P w=.ok (.slice (some ⟨w.heap.size,0,none⟩) m m) (w.alloc (.cells arr' E)):=by
      have g2':¬ m * sz > 2 ^ 24:=by omega
      simp only [Instr.buildSlice,Sem.run_bind,run_underlying hun,Result.andThen_ok,hszE,Sem.run_ite,if_neg g2',if_neg h0,z1,Array.toList_map,f1,Sem.run_pure]
      simp [newRow]
     rw [this];rfl
   ·exact k6.elim
  ·exact h.elim
 ·exact h.elim
end
end Go.Ev
namespace Go.Ev
open Go Go.RowKit
variable {P : Program}
section
variable {CE : CEx} {c : Cfg} {G : Sta} {own : Own} {a : Act} {w : World} {T : List Acc} {next : Act → World → Prop}
variable {F : Fence} {n : Nat} {o : Oper} {Q : Exit → Act → World → Prop}
theorem run_load_all {k q N:Nat} (h:∀ p,p < N→∃ v,w.cell? ⟨k,q+p,none⟩=some v) :
 ∃ us:List Value,us.length=N∧(∀ w',(∀ p,w'.cell? p=w.cell? p)→(loadCells ⟨k,q,none⟩ N).run P w'=.ok us.toArray w')∧∀ (p:Nat) v,us[p]?=some v→w.cell? ⟨k,q+p,none⟩=some v:=by
 refine ⟨(List.range N).map fun p=>(w.cell? ⟨k,q+p,none⟩).getD undef,by simp,?_,fun p v hp=>?_⟩
 ·exact fun w' hw'=>run_loadCells w' ⟨k,q,none⟩ N _ (fun j hj=>by
   rw [za3,hw'];obtain ⟨v,hv⟩:=h j hj;rw [hv];rfl)
 ·rw [List.getElem?_map] at hp
  by_cases hlt:p < N
  ·rw [List.getElem?_range hlt] at hp
   cases hp
   obtain ⟨v,hv⟩:=h p hlt;simp [hv]
  ·rw [List.getElem?_eq_none (by simpa using hlt)] at hp;cases hp
theorem divmod {p sz n:Nat} (hsz:0 < sz) (h:p < n * sz):p / sz < n∧p % sz < sz∧p=p / sz * sz+p % sz:=
 ⟨(Nat.div_lt_iff_lt_mul hsz).2 h,Nat.mod_lt _ hsz,(Nat.div_add_mod' p sz).symm⟩
theorem one_oneCell {y:FV} {v:Value} (h:RF own w y v) (hy:y.one=true):v.oneCell'=true:=by
 cases h with
 | pv _ h=>exact h
 | sl=>rfl
 | agg=>simp [FV.one] at hy
theorem zhe {m:List FV} {u:Value} {sz:Nat} (hsz:0 < sz) (h:RF own w (.sl m) u) (hf:m.all (FV.fits sz)=true) :
 ∃ (us:List Value) (a':Option Addr) (c':Nat),u=.slice a' m.length c'∧us.length=m.length * sz∧(∀ w',(∀ p,w'.cell? p=w.cell? p)→(Builtin.firstCells sz m.length u).run P w'=.ok us.toArray w')∧(∀ v∈us,v.oneCell'=true)∧
   ∀ (i:Nat) x (j:Nat) y,m[i]?=some x→x.cells[j]?=some y→∃ v,us[i * sz+j]?=some v∧RF own w y v:=by
 cases h with
 | sl l a' n c' ad s0 hn hc ha hsz0 hcell hv=>
   subst hn
   by_cases hm:m=[]
   ·subst hm
    refine ⟨[],a',c',rfl,by simp,fun w' _=>?_,by simp,fun i x j y h=>by simp at h⟩
    cases a'<;>simp [Builtin.firstCells,loadCells,loadCellsFrom]
   ·obtain ⟨rfl,h2,h3,h4⟩:=ha hm
    have hs:s0=sz:=by
     obtain ⟨x,hx⟩:=List.exists_mem_of_ne_nil m hm
     rw [← hsz0 x hx];exact (zca (List.all_eq_true.1 hf x hx)).1
    subst hs
    have hget:∀ p,p < m.length * s0→∃ x y,m[p / s0]?=some x∧x.cells[p % s0]?=some y∧y.one=true:=by
     intro p hp
     obtain ⟨d1,d2,d3⟩:=divmod hsz hp
     have hx:m[p / s0]?=some (m[p / s0]'d1):=by simp [d1]
     have hxs:=zca (List.all_eq_true.1 hf _ (List.mem_of_getElem? hx))
     have hlt:p % s0 < (m[p / s0]'d1).cells.length:=by have:=hxs.1;simp only [FV.size] at this;omega
     exact ⟨_,_,hx,by simp [hlt],hxs.2 _ (List.getElem_mem hlt)⟩
    obtain ⟨blk,off,sp⟩:=ad
    simp only at h2 h3 h4;subst h2
    obtain ⟨us,u1,u2,u3⟩:=run_load_all (P:=P) (w:=w) (k:=blk) (q:=off) (N:=m.length * s0) (fun p hp=>by
     obtain ⟨x,y,hx,hy,_⟩:=hget p hp
     obtain ⟨v,hv'⟩:=hcell _ x _ y hx hy
     obtain ⟨d1,d2,d3⟩:=divmod hsz hp
     exact ⟨v,by rw [d3];exact hv'⟩)
    refine ⟨us,_,c',rfl,u1,fun w' hw'=>by simpa [Builtin.firstCells] using u2 w' hw',?_,?_⟩
    ·intro v hv'
     obtain ⟨p,hp⟩:=List.mem_iff_getElem?.1 hv'
     have hlt:=(List.getElem?_eq_some_iff.1 hp).1
     obtain ⟨x,y,hx,hy,hone⟩:=hget p (by omega)
     obtain ⟨d1,d2,d3⟩:=divmod hsz (show p < m.length * s0 by omega)
     have hcl:=u3 p v hp
     rw [d3] at hcl
     exact one_oneCell (hv _ x _ y v hx hy hcl) hone
    ·intro i x j y hi hj
     have hjl:j < s0:=by have:=(List.getElem?_eq_some_iff.1 hj).1;have:=hsz0 x (List.mem_of_getElem? hi);simp only [FV.size] at this;omega
     have hil:=(List.getElem?_eq_some_iff.1 hi).1
     have hlt:i * s0+j < us.length:=by
      rw [u1]
      have:(i+1) * s0≤m.length * s0:=Nat.mul_le_mul_right _ hil
      rw [Nat.add_mul] at this;omega
     refine ⟨us[i * s0+j],by simp [hlt],?_⟩
     exact hv i x j y _ hi hj (u3 _ _ (by simp [hlt]))
theorem str_cells (s:ByteArray):(Builtin.firstCells 1 s.size (.string s)).run P w=.ok ((strElems s).map fun y=>match y with | .pv v=>v | _=>undef).toArray w:=by
 simp only [Builtin.firstCells,Sem.run_pure]
 congr 1
 apply Array.ext'
 simp only [Array.toList_map,strElems,List.map_map,ByteArray.toList_eq]
 have:(s.extract 0 s.size)=s:=by
  apply ByteArray.ext
  rw [ByteArray.data_extract]
  exact Array.extract_size
 rw [this]
 rfl
theorem zdW {E T1 T2:TypeId} {D2:TypeDesc} (hun1:P.underlying T1=some (.slice E)) (hun2:P.underlying T2=some D2) (hsrc:isSrcD D2=true) {sz len m cap:Nat} {base:Option Addr} {v:Value} {us:List Value} {ty:TypeId}
 (hszE:(sizeOf E).run P w=.ok sz w) (hl1:(Builtin.lenOf v).run P w=.ok m w) (hf1:(Builtin.firstCells sz m v).run P w=.ok us.toArray w) (hroom:len+m≤cap) :
 (Builtin.append_ #[T1,T2] ty #[.slice base len cap,v]).run P w=(match base with | some a=>((storeCells (a.add (len * sz)) us).run P w).andThen fun _ w=>.ok (.slice base (len+m) cap) w | none=>.ok (.slice base (len+m) cap) w):=by
 cases D2<;>simp [isSrcD] at hsrc
 all_goals cases base<;>simp [Builtin.append_,run_underlying hun1,run_underlying hun2,hszE,hl1,hf1,hroom]
theorem zhk {E T1 T2:TypeId} {D2:TypeDesc} (hun1:P.underlying T1=some (.slice E)) (hun2:P.underlying T2=some D2) (hsrc:isSrcD D2=true) {sz by_ len m cap:Nat} {base:Option Addr} {v zv:Value} {us os:List Value} {ty:TypeId} {f:TypeInfo}
 (hszE:(sizeOf E).run P w=.ok sz w) (hl1:(Builtin.lenOf v).run P w=.ok m w) (hin:∀ w,(typeInfo E).run P w=.ok f w) (hby:f.bytes=by_) (hb0:0 < by_) (hroom:¬ len+m≤cap) (hcap:len≤cap) (hfit:(len+m) * by_≤2 ^ 47)
 (hf1:∀ w',(∀ p,w'.cell? p=w.cell? p)→(Builtin.firstCells sz m v).run P w'=.ok us.toArray w') (hf0:∀ w',(∀ p,w'.cell? p=w.cell? p)→(Builtin.firstCells sz len (.slice base len cap)).run P w'=.ok os.toArray w') (hz:∀ w',(zeroValue E).run P w'=.ok zv w') :
 ∃ cap' rest,len+m≤cap'∧rest.size=(cap' - (len+m)) * zv.cells.size∧(Builtin.append_ #[T1,T2] ty #[.slice base len cap,v]).run P w=.ok (.slice (some ⟨w.heap.size,0,none⟩) (len+m) cap') (w.drew.alloc (.cells (os.toArray++us.toArray++rest) E)):=by
 subst hby
 refine ⟨(Question.appendCap (len+m) cap E).cut (w.tape w.drawn (.appendCap (len+m) cap E)),Builtin.zeroCells zv.cells ((Question.appendCap (len+m) cap E).cut (w.tape w.drawn (.appendCap (len+m) cap E)) - (len+m)),?_,?_,?_⟩
 ·simp only [Question.cut];omega
 ·simp [Builtin.zeroCells]
 ·have hn:¬ Builtin.nextslicecap (len+m) cap * f.bytes > 2 ^ 48:=by
   have h1:=nextslicecap_le (need:=len+m) (old:=cap) (by omega)
   have h2:Builtin.nextslicecap (len+m) cap * f.bytes≤2 * (len+m) * f.bytes:=Nat.mul_le_mul_right _ h1
   have h3:2 * (len+m) * f.bytes=2 * ((len+m) * f.bytes):=Nat.mul_assoc _ _ _
   omega
  have hb:¬ f.bytes=0:=by omega
  have hd:∀ p,w.drew.cell? p=w.cell? p:=fun p=>rfl
  have k1:=hf1 w.drew hd
  have k2:=hf0 w.drew hd
  have k3:=hz w.drew
  cases D2<;>simp [isSrcD] at hsrc
  all_goals
   have hn':¬ 2 ^ 48 < Builtin.nextslicecap (len+m) cap * f.bytes:=hn
   simp only [Builtin.append_,List.getElem?_toArray,List.getElem?_cons_zero,List.getElem?_cons_succ,Sem.run_bind,run_underlying hun1,run_underlying hun2,Result.andThen_ok,hszE,Sem.run_pure,hl1,Bool.false_eq_true,if_false,Sem.run_ite,if_neg hroom,hin,hb,false_or,or_false,and_false,if_neg hn,run_choose,Question.forced,World.drew_eq,run_askRoom,Bool.not_false,if_true]
   simp only [Result.andThen_ok,hin,k1,k2,k3,newRow,Sem.run_bind,run_newObj,Sem.run_pure,World.alloc_eq,World.size_drew]
theorem append_core (hc:CfgOk P c) {E T1 T2:TypeId} {i i1 i2:TI} (hE:c.ti E=some i) (h1:c.ti T1=some i1) (hd1:i1.desc=.slice E) (h2:c.ti T2=some i2) (hsrc:isSrcD i2.desc=true) {z:AV} (hz:i.zero=some z) (hby:0 < i.bytes) (hsz:0 < i.size) (hzl:z.leaves.length=i.size)
 {G2:Sta} {own1:Own} (s:St P c.nt G2 own1 a w) {b q:Nat} {l m:List FV} {u v:Value} (hdead:Dead G2 b q) (hu:OwnL P own1 w b q E l u) {us:List Value}
 (hl1:(Builtin.lenOf v).run P w=.ok m.length w) (hf1:∀ w',(∀ p,w'.cell? p=w.cell? p)→(Builtin.firstCells i.size m.length v).run P w'=.ok us.toArray w') (hus:us.length=m.length * i.size) (hone:∀ v∈us,v.oneCell'=true) (hms:∀ x∈m,x.size=i.size)
 (hcells:∀ (i':Nat) x (j:Nat) y,m[i']?=some x→x.cells[j]?=some y→∃ v,us[i' * i.size+j]?=some v∧RF own1 w y v) (hfit:(l.length+m.length) * i.bytes≤2 ^ 47) {t:Nat} (hlt:t < c.nt) (ty:TypeId) :
 ∃ r w' own',(Builtin.append_ #[T1,T2] ty #[u,v]).run P w=.ok r w'∧St P c.nt ((Up.set (tb t) (.own E (l++m))).app G2) own' (a.put (some t) r) w'∧Tr own1 w own' w':=by
 have hun1:P.underlying T1=some (.slice E):=by rw [← hd1];exact (hc T1 _ h1).und
 have hun2:=(hc T2 _ h2).und
 have hszE:(sizeOf E).run P w=.ok i.size w:=(hc E _ hE).run_size w
 have hesz:esz P E=i.size:=(hc E _ hE).cells
 obtain ⟨a',cap,rfl,hcap,hB⟩:=hu
 by_cases hroom:l.length+m.length≤cap
 ·-- there is room
  rcases hB with ⟨rfl,rfl,rfl⟩ | ⟨k,rfl,hB⟩
  ·have hm:m=[]:=by simpa using hroom
   subst hm
   have:us=[]:=List.length_eq_zero_iff.1 (by simpa using hus)
   subst this
   refine ⟨.slice none 0 0,w,own1,?_,?_,Tr.refl _ _⟩
   ·rw [zdW hun1 hun2 hsrc hszE hl1 (hf1 w (fun _=>rfl)) (by simp)];rfl
   ·exact s.set_pure hlt ⟨none,0,rfl,Nat.le_refl _,.inl ⟨rfl,rfl,rfl⟩⟩
  ·obtain ⟨hk,arr,e2,e3,e4,e5⟩:=hB
   have hin:l.length * i.size+us.length≤arr.size:=by
    rw [hus,← Nat.add_mul]
    refine Nat.le_trans (Nat.mul_le_mul_right _ hroom) ?_
    rw [← hesz];exact e3
   have hst:=run_storeCells_at (P:=P) k (l.length * i.size) E us 0 arr w e2 (by simpa using hin) hone
   rw [Nat.add_zero] at hst
   obtain ⟨arr2,harr2⟩:∃ arr2,arr2=(arr.toList.take (l.length * i.size)++us++arr.toList.drop (l.length * i.size+us.length)).toArray:=⟨_,rfl⟩
   rw [← harr2] at hst
   have hget:∀ p,arr2[p]?=if p < l.length * i.size then arr[p]? else if p < l.length * i.size+us.length then us[p - l.length * i.size]? else arr[p]?:=by
    intro p
    rw [harr2]
    simp only [List.getElem?_toArray,List.getElem?_append,List.length_append,List.length_take,Array.length_toList]
    have hmin:min (l.length * i.size) arr.size=l.length * i.size:=by omega
    rw [hmin]
    by_cases h1:p < l.length * i.size
    ·rw [if_pos (by omega),if_pos h1,if_pos h1,List.getElem?_take,if_pos h1];simp
    ·rw [if_neg h1]
     by_cases h2:p < l.length * i.size+us.length
     ·rw [if_pos h2,if_neg h1,if_pos h2]
     ·rw [if_neg h2,if_neg h2,List.getElem?_drop,show l.length * i.size+us.length+(p - (l.length * i.size+us.length))=p by omega];simp
   have hsize:arr2.size=arr.size:=by
    rw [harr2];simp;omega
   have hw2:=setRow_heap w k arr arr2 E (0,0) e2
   have hother:∀ j,j≠k→(w.setRow k arr2).heap[j]?=w.heap[j]?:=by
    intro j hj
    simp only [World.setRow,Array.getElem?_modify]
    rw [if_neg (fun e=>hj e.symm)]
   have hsz2:(w.setRow k arr2).heap.size=w.heap.size:=by simp [World.setRow]
   have ht:Tr own1 w (relab own1 b q (tb t) 0) (w.setRow k arr2):=by
    refine ⟨by rw [hsz2];exact Nat.le_refl _,fun j hj hn=>⟨by simp [relab,hn],hother j ?_⟩,rfl,rfl,rfl,fun j x hn=>⟨by simp [relab,hn],hother j ?_⟩,fun j x _ hn=>by simp [relab,hn]⟩
    all_goals (intro e;subst e;rw [hk] at hn;cases hn)
   refine ⟨.slice (some ⟨k,0,none⟩) (l.length+m.length) cap,w.setRow k arr2,relab own1 b q (tb t) 0,?_,?_,ht⟩
   ·have hadd:(Addr.add ⟨k,0,none⟩ (l.length * i.size))=⟨k,l.length * i.size,none⟩:=by rw [za3,Nat.zero_add]
    rw [zdW hun1 hun2 hsrc hszE hl1 (hf1 w (fun _=>rfl)) hroom]
    simp only [hadd,hst,Result.andThen_ok]
   ·refine s.set hlt ht (fun j b' hj=>⟨(zc7 _ _ _ _ _ _ _).1 hj,hother j ?_⟩) ?_ ?_ (zhl s.one) (fun j x hj=>by rw [hsz2];exact relab_lt s.lt j x hj)
    ·intro e;subst e;rw [hk] at hj;cases hj
    ·intro b' o' E' l' k' c' hb' hl' hB'
     have n1:¬ (b'=b∧o'=q):=by rintro ⟨rfl,rfl⟩;exact hdead _ _ hl'
     have n2:¬ (b'=tb t∧o'=0):=fun e=>hb' e.1
     refine hB'.mono ht (by simp only [relab,hB'.1,Option.some.injEq,Owner.sl.injEq,if_neg n1,if_neg n2]) (hother k' ?_)
     intro e;subst e
     have:=hB'.1;rw [hk] at this;injection this with this;injection this with p1 p2;exact n1 ⟨p1.symm,p2.symm⟩
    ·refine ⟨some ⟨k,0,none⟩,cap,by simp,by simpa using hroom,.inr ⟨k,rfl,by simp [relab,hk],arr2,hw2,by rw [hsize];exact e3,?_,?_⟩⟩
     ·intro x hx
      rcases List.mem_append.1 hx with hx | hx
      ·exact e4 x hx
      ·rw [hesz];exact hms x hx
     ·intro i' x j y g1 g2
      rw [hget]
      by_cases hi:i' < l.length
      ·rw [List.getElem?_append_left hi] at g1
       have hjl:j < esz P E:=by have:=(List.getElem?_eq_some_iff.1 g2).1;have:=e4 x (List.mem_of_getElem? g1);simp only [FV.size] at this;omega
       have hlt':i' * esz P E+j < l.length * i.size:=by
        rw [← hesz]
        have:(i'+1) * esz P E≤l.length * esz P E:=Nat.mul_le_mul_right _ hi
        rw [Nat.add_mul] at this;omega
       rw [if_pos hlt']
       obtain ⟨v',p1,p2⟩:=e5 i' x j y g1 g2
       exact ⟨v',p1,p2.mono ht⟩
      ·rw [List.getElem?_append_right (by omega)] at g1
       obtain ⟨v',p1,p2⟩:=hcells _ x j y g1 g2
       have hp:=(List.getElem?_eq_some_iff.1 p1).1
       have hidx:i' * esz P E+j=l.length * i.size+((i' - l.length) * i.size+j):=by
        rw [hesz,← Nat.add_assoc,← Nat.add_mul,show l.length+(i' - l.length)=i' by omega]
       rw [hidx,if_neg (by omega),if_pos (by omega),show l.length * i.size+((i' - l.length) * i.size+j) - l.length * i.size=(i' - l.length) * i.size+j by omega]
       exact ⟨v',p1,p2.mono ht⟩
 ·-- it grows
  obtain ⟨zv,hz1,hz2⟩:∃ zv,(∀ w',(zeroValue E).run P w'=.ok zv w')∧zeroFits z zv:=by
   obtain ⟨f,g1,g2,g3,g4⟩:=(hc E _ hE).info
   obtain ⟨zv,g5,g6⟩:=g4 z hz
   exact ⟨zv,fun w'=>by simp [zeroValue,typeInfo,g1,g5],g6⟩
  obtain ⟨f,hin,hfb⟩:∃ f,(∀ w',(typeInfo E).run P w'=.ok f w')∧f.bytes=i.bytes:=by
   obtain ⟨f,g1,g2,g3,g4⟩:=(hc E _ hE).info
   exact ⟨f,fun w'=>by simp [typeInfo,g1],g3⟩
  have hzs:zv.cells.size=i.size:=by
   rw [← hzl];exact (zdk (P:=P) (G:=G2) (own:=own1) (w:=w) (b:=0) hz2).1.symm
  have old:∃ os:List Value,os.length=l.length * i.size∧(∀ w',(∀ p,w'.cell? p=w.cell? p)→(Builtin.firstCells i.size l.length (.slice a' l.length cap)).run P w'=.ok os.toArray w')∧
   (∀ x∈l,x.size=i.size)∧∀ (i':Nat) x (j:Nat) y,l[i']?=some x→x.cells[j]?=some y→∃ v,os[i' * i.size+j]?=some v∧RF own1 w y v:=by
   rcases hB with ⟨rfl,rfl,rfl⟩ | ⟨k,rfl,hk,arr,e2,e3,e4,e5⟩
   ·exact ⟨[],by simp,fun w' _=>by simp [Builtin.firstCells],by simp,fun i' x j y h=>by simp at h⟩
   ·have hlen:l.length * i.size≤arr.size:=by
     refine Nat.le_trans (Nat.mul_le_mul_right _ hcap) ?_
     rw [← hesz];exact e3
    have hcl:∀ p,p < l.length * i.size→w.cell? ⟨k,0+p,none⟩=some (arr.getD p undef):=by
     intro p hp;simp [World.cell?,e2,show p < arr.size by omega]
    refine ⟨(List.range (l.length * i.size)).map fun p=>arr.getD p undef,by simp,fun w' hw'=>?_,fun x hx=>by rw [← hesz];exact e4 x hx,fun i' x j y g1 g2=>?_⟩
    ·simp only [Builtin.firstCells]
     exact run_loadCells w' ⟨k,0,none⟩ _ _ (fun j hj=>by rw [za3,hw'];exact hcl j hj)
    ·obtain ⟨v',p1,p2⟩:=e5 i' x j y g1 g2
     have hil:=(List.getElem?_eq_some_iff.1 g1).1
     have hjl:j < i.size:=by have:=(List.getElem?_eq_some_iff.1 g2).1;have:=e4 x (List.mem_of_getElem? g1);rw [hesz] at this;simp only [FV.size] at this;omega
     have hlt':i' * i.size+j < l.length * i.size:=by
      have:(i'+1) * i.size≤l.length * i.size:=Nat.mul_le_mul_right _ hil
      rw [Nat.add_mul] at this;omega
     rw [hesz] at p1
     refine ⟨v',?_,p2⟩
     rw [List.getElem?_map,List.getElem?_range hlt']
     simp [p1]
  obtain ⟨os,o1,o2,o3,o4⟩:=old
  obtain ⟨cap',rest,r1,r2,r3⟩:=zhk (P:=P) (w:=w) (E:=E) (base:=a') (zv:=zv) (ty:=ty) hun1 hun2 hsrc hszE hl1 hin hfb hby hroom hcap hfit hf1 o2 hz1
  have hsize:(os.toArray++us.toArray++rest).size=cap' * i.size:=by
   simp only [Array.size_append,List.size_toArray,o1,hus,r2,hzs]
   rw [← Nat.add_mul,← Nat.add_mul];congr 1;omega
  obtain ⟨s2,t2⟩:=s.set_new (t:=t) (E:=E) (l:=l++m) (u:=.slice (some ⟨w.heap.size,0,none⟩) (l.length+m.length) cap') (w':=w.drew.alloc (.cells (os.toArray++us.toArray++rest) E)) (n:=w.heap.size) hlt (Nat.le_refl _) (by simp) (fun k hk=>zaI w.drew _ hk) rfl rfl rfl
   (fun t2=>⟨some ⟨w.heap.size,0,none⟩,cap',by simp,by simpa using r1,.inr ⟨w.heap.size,rfl,by simp [ownSl],_,zaY w.drew _,by rw [hesz,hsize];exact Nat.le_refl _,(fun x hx=>by
     rw [hesz]
     rcases List.mem_append.1 hx with hx | hx
     ·exact o3 x hx
     ·exact hms x hx),(fun i' x j y g1 g2=>by
     rw [hesz]
     by_cases hi:i' < l.length
     ·rw [List.getElem?_append_left hi] at g1
      obtain ⟨v',p1,p2⟩:=o4 i' x j y g1 g2
      have hp:=(List.getElem?_eq_some_iff.1 p1).1
      exact ⟨v',by rw [Array.getElem?_append_left (by simp;omega),Array.getElem?_append_left (by simpa using hp)];simpa using p1,p2.mono t2⟩
     ·rw [List.getElem?_append_right (by omega)] at g1
      obtain ⟨v',p1,p2⟩:=hcells _ x j y g1 g2
      have hp:=(List.getElem?_eq_some_iff.1 p1).1
      have hidx:i' * i.size+j=os.length+((i' - l.length) * i.size+j):=by
       rw [o1,← Nat.add_assoc,← Nat.add_mul,show l.length+(i' - l.length)=i' by omega]
      refine ⟨v',?_,p2.mono t2⟩
      rw [Array.getElem?_append_left (by simp;omega),Array.getElem?_append_right (by simp;omega)]
      simp only [List.size_toArray,List.getElem?_toArray]
      rw [hidx,Nat.add_sub_cancel_left];exact p1)⟩⟩)
  exact ⟨_,_,_,r3,s2,t2⟩
end
end Go.Ev
namespace Go.Ev
open Go Go.RowKit
variable {P : Program}
section
variable {CE : CEx} {c : Cfg} {G : Sta} {own : Own} {a : Act} {w : World} {T : List Acc} {next : Act → World → Prop}
variable {F : Fence} {n : Nat} {o : Oper} {Q : Exit → Act → World → Prop}
theorem cp1_leaf {v:AV} {k:AV→List Up→RM} {K:List Up→List Acc→Prop} (h:(cp1 v k).wp CE G T K):v.isLeaf=true:=by
 cases v<;>first | rfl | exact h.elim
theorem frzs_ne {b q:Nat}:∀ {W:List Up},FrzOnly W→W.all (frzNe b q)=true→∀ {own:Own},(∀ E l u,OwnL P own w b q E l u→OwnL P (frzsOwn W own) w b q E l u)
 | [],_,_,own=>fun _ _ _ h=>h
 | x :: W,hW,hall,own=>by
   obtain ⟨d,p,rfl⟩:=hW x (List.mem_cons_self ..)
   simp only [List.all_cons,Bool.and_eq_true,frzNe,Bool.not_eq_true',Bool.and_eq_false_iff,beq_eq_false_iff_ne] at hall
   have ih:=frzs_ne (W:=W) (fun y hy=>hW y (List.mem_cons_of_mem _ hy)) hall.2 (own:=ownFrz own d p)
   intro E l u h
   refine ih E l u ?_
   obtain ⟨a',c',e1,e2,e3⟩:=h
   refine ⟨a',c',e1,e2,e3.imp id ?_⟩
   rintro ⟨k,e4,e5⟩
   refine ⟨k,e4,e5.mono' (frz_tr _ _ _ _) ?_⟩
   simp only [ownFrz,e5.1,Option.some.injEq,Owner.sl.injEq]
   rw [if_neg]
   rintro ⟨rfl,rfl⟩
   rcases hall.1 with h | h<;>exact h rfl
theorem fresh_key (G:Sta):∃ b,get G b=none:=by
 have:∀ G:Sta,∃ N,∀ b,N≤b→get G b=none:=by
  intro G
  induction G with
  | nil=>exact ⟨0,fun _ _=>rfl⟩
  | cons x G ih=>
    obtain ⟨k,v⟩:=x
    obtain ⟨N,hN⟩:=ih
    refine ⟨max N (k+1),fun b hb=>?_⟩
    simp only [get]
    rw [if_neg (by omega)]
    exact hN b (by omega)
 obtain ⟨N,hN⟩:=this G
 exact ⟨N,hN N (Nat.le_refl _)⟩
theorem zgc (hc:CfgOk P c) {E T1 T2:TypeId} {i i1 i2:TI} (hE:c.ti E=some i) (h1:c.ti T1=some i1) (hd1:i1.desc=.slice E) (h2:c.ti T2=some i2) (hsrc:isSrcD i2.desc=true) {z:AV} (hz:i.zero=some z) (hby:0 < i.bytes) (hsz:0 < i.size) (hzl:z.leaves.length=i.size)
 (s:St P c.nt G own a w) {d:Option Tmp} {ys:AV} {l:List FV} {bo:Option (Nat×Nat)} {u v:Value} (hu:bo.elim (l=[]∧u=.slice none 0 0) fun x=>OwnL P own w x.1 x.2 E l u) (hv:RV P G own w ys v) (ty:TypeId)
 (h:(apGo c d E i ys l bo).wp CE G T (Kn P c.nt G own a w next)):∃ r w',(Builtin.append_ #[T1,T2] ty #[u,v]).run P w=.ok r w'∧next (a.put d r) w':=by
 have hl:=cp1_leaf h
 obtain ⟨y,W,T2',own2,k1,k2,k3,k4,k5,k6,rfl⟩:=zcN (U:=[]) FrzOnly.nil s (zgU hv hl) h
 simp only [List.nil_append] at k2 k3 k4
 split at k6
 ·rename_i hall
  obtain ⟨b,q,G2,s2,hd,hown,happ⟩:∃ b q G2,St P c.nt G2 (frzsOwn W own) a w∧Dead G2 b q∧OwnL P (frzsOwn W own) w b q E l u∧(∀ x,app ((W++boUps bo)++[x]) G=x.app G2):=by
   cases bo with
   | none=>
     obtain ⟨rfl,rfl⟩:=hu
     obtain ⟨b,hb⟩:=fresh_key (app W G)
     exact ⟨b,0,app W G,k2,fun E' l' hl'=>by simp [look,hb] at hl',⟨none,0,rfl,Nat.le_refl _,.inl ⟨rfl,rfl,rfl⟩⟩,fun x=>by simp [zam,app,boUps]⟩
   | some bq=>
     obtain ⟨b,q⟩:=bq
     obtain ⟨s2,_⟩:=k2.bad b q
     exact ⟨b,q,_,s2,zfB _ b q,frzs_ne k1 hall _ _ _ hu,fun x=>by simp [zam,app,boUps]⟩
  have fin:∀ {m:List FV} {us:List Value},(finNew c d (W++boUps bo) E (l++m)).wp CE G T2' (Kn P c.nt G own a w next)→(Builtin.lenOf v).run P w=.ok m.length w→(∀ w',(∀ p,w'.cell? p=w.cell? p)→(Builtin.firstCells i.size m.length v).run P w'=.ok us.toArray w')→
   us.length=m.length * i.size→(∀ v∈us,v.oneCell'=true)→(∀ x∈m,x.size=i.size)→(∀ (i':Nat) x (j:Nat) y,m[i']?=some x→x.cells[j]?=some y→∃ v,us[i' * i.size+j]?=some v∧RF (frzsOwn W own) w y v)→(l.length+m.length) * i.bytes≤2 ^ 47→
   ∃ r w',(Builtin.append_ #[T1,T2] ty #[u,v]).run P w=.ok r w'∧next (a.put d r) w':=by
   intro m us hfin q1 q2 q3 q4 q5 q6 q7
   cases d with
   | none=>exact hfin.elim
   | some t=>
     simp only [finNew] at hfin
     split at hfin
     ·rename_i hlt
      obtain ⟨r,w',own',r1,r2,r3⟩:=append_core hc hE h1 hd1 h2 hsrc hz hby hsz hzl s2 hd hown q1 q2 q3 q4 q5 q6 q7 hlt ty
      exact ⟨r,w',r1,hfin own' _ w' (by rw [happ];exact r2) (k3.tr.trans r3) rfl⟩
     ·exact hfin.elim
  split at k6
  ·rename_i m
   split at k6
   ·rename_i hcond
    obtain ⟨c1,c2⟩:=hcond
    have hrf:=k4.2
    obtain ⟨us,a',c',rfl,g1,g2,g3,g4⟩:=zhe (P:=P) hsz hrf c2
    exact fin k6 rfl g2 g1 g3 (fun x hx=>(zca (List.all_eq_true.1 c2 x hx)).1) g4 c1
   ·exact k6.elim
  ·rename_i str
   split at k6
   ·rename_i hcond
    obtain ⟨c1,c2⟩:=hcond
    have hrf:v=.string str:=zbn (P:=P) (G:=app W G) k4
    subst hrf
    have hlen:(strElems str).length=str.size:=by simp [strElems,ByteArray.toList_eq]
    refine fin k6 (us:=(strElems str).map fun y=>match y with | .pv v=>v | _=>undef) (by rw [hlen];rfl) (fun w' _=>by rw [c2,hlen];exact str_cells str) (by simp [c2]) ?_ ?_ ?_ (by rw [hlen];exact c1)
    ·intro v hv
     simp only [strElems,List.map_map,List.mem_map] at hv
     obtain ⟨b,_,rfl⟩:=hv;rfl
    ·intro x hx
     simp only [strElems,List.mem_map] at hx
     obtain ⟨b,_,rfl⟩:=hx;rw [c2];rfl
    ·intro i' x j yy g1 g2
     simp only [strElems,List.getElem?_map] at g1
     cases hb:str.toList[i']? with
     | none=>rw [hb] at g1;cases g1
     | some b=>
       rw [hb] at g1;cases g1
       cases j with
       | succ j=>simp [FV.cells] at g2
       | zero=>
         simp [FV.cells] at g2;subst g2
         exact ⟨_,by rw [c2,Nat.mul_one,Nat.add_zero,List.getElem?_map,strElems,List.getElem?_map,hb];rfl,RF.pv _ rfl⟩
   ·exact k6.elim
  ·exact k6.elim
 ·exact k6.elim
theorem op_append (hc:CfgOk P c) (hF:∀ f,F.fn f) (s:St P c.nt G own a w) {x y:Operand} {t t2:TypeId} (ho:o.op=.call { callee:=.builtin .append,args:=#[x,y],argTypes:=#[t,t2] })
 (h:(rdO y fun v=>appendRM c o.dst t t2 x v).wp CE G T (Kn P c.nt G own a w next)):o.wpIn F n P a w next Q:=by
 obtain ⟨v,T1,h1,h2⟩:=zA s h
 have fin:(∃ r w',(Builtin.append_ #[t,t2] o.type #[a.eval x,a.eval y]).run P w=.ok r w'∧next (a.put o.dst r) w')→o.wpIn F n P a w next Q:=by
  rintro ⟨r,w',r1,r2⟩
  refine zD hF (by simp [ho]) (u:=r) (w':=w') ?_ r2
  simp only [execOp,ho,resolve,Sem.run_bind]
  simp [invoke,builtin,r1]
 unfold appendRM at h2
 split at h2
 ·rename_i E sz0 by0 z0 i2 hti hti2
  split at h2
  ·rename_i i hE
   split at h2
   ·rename_i z hz
    split at h2
    ·rename_i hcond
     obtain ⟨hsrc,hby,hsz,hzl⟩:=hcond
     unfold apBase at h2
     split at h2
     ·exact fin (zgc hc hE hti rfl hti2 hsrc hz hby hsz hzl s (bo:=none) ⟨rfl,rfl⟩ h1 o.type h2)
     ·rename_i tt
      obtain ⟨yy,T2,h3,h4⟩:=za1 h2
      have hr:=s.temp h3
      split at h4
      ·rename_i b q j m
       obtain ⟨yy,T3,h5,h6⟩:=za1 h4
       split at h6
       ·rename_i E' l
        split at h6
        ·rename_i hcond
         obtain ⟨rfl,rfl,rfl⟩:=hcond
         have hown:=(zeT h5 hr).2
         rw [List.take_length] at hown
         exact fin (zgc hc hE hti rfl hti2 hsrc hz hby hsz hzl s (bo:=some (b,q)) hown h1 o.type h6)
        ·exact h6.elim
       ·exact h6.elim
      ·rename_i E' l
       split at h4
       ·rename_i hEE;subst hEE
        exact fin (zgc hc hE hti rfl hti2 hsrc hz hby hsz hzl s (bo:=some (tb tt,0)) hr h1 o.type h4)
       ·exact h4.elim
      ·exact h4.elim
     ·exact h2.elim
    ·exact h2.elim
   ·exact h2.elim
  ·exact h2.elim
 ·exact h2.elim
theorem zei {m:Int} (h0:0≤m) (h:m < 2 ^ 40):IntKind.i64.wrap m=m:=by
 have h1:m % 2 ^ 64=m:=Int.emod_eq_of_lt h0 (by omega)
 simp [IntKind.wrap,IntKind.bits,IntKind.signed] at h1 ⊢
 omega
theorem elem_rv {z:AV} {zv:Value} {e:FV} (P:Program) (G:Sta) (hz:zeroFits z zv) (he:z.elem=some e):e.cells.length=zv.cells.size∧∀ (j:Nat) y u,e.cells[j]?=some y→zv.cells[j]?=some u→RF own w y u:=by
 have hrb:=zdk (P:=P) (G:=G) (own:=own) (w:=w) (b:=0) hz
 have key:e.cells.length=z.leaves.length∧∀ (j:Nat) y,e.cells[j]?=some y→z.leaves[j]?=some (.f y):=by
  cases z with
  | agg l=>
    simp only [AV.elem,Option.map_eq_some_iff] at he
    obtain ⟨fs,h1,rfl⟩:=he
    obtain ⟨h2,h3⟩:=zcM h1
    exact ⟨h2,fun j y hy=>(h3 j y hy).1⟩
  | f x=>
    simp only [AV.elem,AV.leafF] at he
    split at he
    ·rename_i hone
     cases he
     rw [FV.one_cells hone]
     refine ⟨rfl,fun j y hy=>?_⟩
     cases j with
     | zero=>simp at hy;subst hy;rfl
     | succ j=>simp at hy
    ·cases he
  | _=>simp [AV.elem,AV.leafF] at he
 refine ⟨by rw [key.1];exact hrb.1,fun j y u h1 h2=>?_⟩
 exact (hrb.2 j _ u (key.2 j y h1) h2).2
theorem op_makeSlice (hc:CfgOk P c) (hF:∀ f,F.fn f) (s:St P c.nt G own a w) {t:TypeId} {x y:Operand} (ho:o.op=.makeSlice t x y)
 (h:(rdO x fun p=>rdO y fun q=>makeSliceRM c o.dst t p q).wp CE G T (Kn P c.nt G own a w next)):o.wpIn F n P a w next Q:=by
 obtain ⟨v,T1,h1,h2⟩:=zA s h
 obtain ⟨v',T2,h3,h4⟩:=zA s h2
 unfold makeSliceRM at h4
 split at h4
 ·rename_i k1 l k2 m E sz0 by0 z0 hti
  have hx:=zbn h1
  have hy:=zbn h3
  split at h4
  ·rename_i D sz by_ z hE
   split at h4
   ·rename_i e he
    split at h4
    ·rename_i hcond
     obtain ⟨g1,g2,g3,g4,g5,g6⟩:=hcond
     obtain ⟨zv,z1,z2⟩:=(hc E _ hE).run_zero w rfl
     have hszE:(sizeOf E).run P w=.ok sz w:=(hc E _ hE).run_size w
     have hesz:esz P E=sz:=(hc E _ hE).cells
     obtain ⟨f,hin,_,hfb⟩:=(hc E _ hE).run_info w
     have hfb:f.bytes=by_:=hfb
     obtain ⟨fs1,fs2⟩:=zca g6
     obtain ⟨q1,q2⟩:=elem_rv (own:=own) (w:=w) P G z2 he
     have hzs:zv.cells.size=sz:=by rw [← q1];exact fs1
     have hm0:0≤m:=Int.le_trans g1 g2
     have hun:=(hc t _ hti).und
     obtain ⟨arr,harr⟩:∃ arr:Array Value,arr=if m.toNat * sz=0 then #[] else (Array.range (m.toNat * sz)).map (zv.cells[· % zv.cells.size]!):=⟨_,rfl⟩
     have hasz:arr.size=m.toNat * sz:=by rw [harr];split<;>simp_all
     have hget:∀ p,p < m.toNat * sz→arr[p]?=zv.cells[p % sz]?:=by
      intro p hp
      rw [harr,if_neg (by omega)]
      have hlt:p % sz < zv.cells.size:=by rw [hzs];exact Nat.mod_lt _ g5
      simp only [Array.getElem?_map,Array.getElem?_range,if_pos hp,Option.map_some,hzs]
      rw [getElem!_pos zv.cells _ hlt,Array.getElem?_eq_getElem hlt]
     have hrep:(List.replicate l.toNat e).length=l.toNat:=by simp
     have:=zc0 (G:=G) (own':=own) (U:=[]) (w':=w.alloc (.cells arr E)) (cap:=m.toNat) (arr:=arr) s (Tr.refl _ _) (n0:=w.heap.size) (Nat.le_refl _) (by simp) (fun k hk=>zaI _ _ hk) rfl rfl rfl (zaY _ _)
      (by rw [hrep];omega) (by rw [hesz,hasz];exact Nat.le_refl _) (fun x hx=>by rw [hesz,List.eq_of_mem_replicate hx];exact fs1) (fun i x j yy e1 e2=>by
        have hx:=List.eq_of_mem_replicate (List.mem_of_getElem? e1);subst hx
        have hi:=(List.getElem?_eq_some_iff.1 e1).1
        rw [hrep] at hi
        have hj:j < sz:=by have:=(List.getElem?_eq_some_iff.1 e2).1;simp only [FV.size] at fs1;omega
        have hlt:i * sz+j < m.toNat * sz:=by
         have:(i+1) * sz≤m.toNat * sz:=Nat.mul_le_mul_right _ (by omega)
         rw [Nat.add_mul] at this;omega
        obtain ⟨zz,hzz⟩:∃ zz,zv.cells[j]?=some zz:=⟨zv.cells[j]'(by omega),by simp⟩
        refine ⟨zz,?_,q2 j yy zz e2 hzz⟩
        rw [hesz,hget _ hlt,show (i * sz+j) % sz=j by rw [Nat.add_comm,Nat.add_mul_mod_self_right,Nat.mod_eq_of_lt hj]];exact hzz) h4
     rw [hrep] at this
     refine zD hF (by simp [ho]) ?_ this
     have w1:=zei g1 (by omega)
     have w2:=zei hm0 g3
     simp only [execOp,ho]
     rw [Sem.run_bind]
     have hrun:(Instr.makeSlice t (a.eval x) (a.eval y)).run P w=.ok (.slice (some ⟨w.heap.size,0,none⟩) l.toNat m.toNat) (w.alloc (.cells arr E)):=by
      have n1:¬ m < 0:=by omega
      have n2:¬ ((f.bytes:Int) * m > 2 ^ 48):=by rw [hfb];omega
      have n3:¬ l < 0:=by omega
      have n4:¬ l > m:=by omega
      by_cases h0:m.toNat * sz=0
      ·rw [if_pos h0] at harr;subst harr
       have he:∀ g:Nat→Value,(Array.range (m.toNat * sz)).map g=#[]:=fun g=>Array.eq_empty_of_size_eq_zero (by simp [h0])
       simp only [Instr.makeSlice,hx,hy,Sem.run_bind,run_underlying hun,Result.andThen_ok,asInt,asIntOf,Sem.run_pure,hin,w1,w2,n1,n2,n3,n4,decide_false,Bool.or_false,Bool.false_eq_true,if_false,run_askRoom,hszE,Sem.run_ite,if_pos h0,he]
       simp [newRow]
      ·rw [if_neg h0] at harr;subst harr
       simp only [Instr.makeSlice,hx,hy,Sem.run_bind,run_underlying hun,Result.andThen_ok,asInt,asIntOf,Sem.run_pure,hin,w1,w2,n1,n2,n3,n4,decide_false,Bool.or_false,Bool.false_eq_true,if_false,run_askRoom,hszE,Sem.run_ite,if_neg h0,z1]
       simp [newRow]
     rw [hrun];rfl
    ·exact h4.elim
   ·exact h4.elim
  ·exact h4.elim
 ·exact h4.elim
end
end Go.Ev
namespace Go.Ev
open Go Go.RowKit
variable {P : Program}
theorem rf_take {own:Own} {w:World} {es:List FV} {a:Option Addr} {n c h:Nat} (hr:RF own w (.sl es) (.slice a n c)) (hh:h≤es.length):RF own w (.sl (es.take h)) (.slice a h c):=by
 cases hr with
 | sl _ _ _ _ ad sz hn hc ha hsz hcell hv=>
   have hg:∀ (i:Nat) x,(es.take h)[i]?=some x→es[i]?=some x:=by
    intro i x hx
    rw [List.getElem?_take] at hx
    split at hx
    ·exact hx
    ·cases hx
   refine .sl _ a h c ad sz (by simp;omega) (by omega) (fun hne=>ha ?_) (fun x hx=>hsz x (List.mem_of_mem_take hx)) (fun i x j y h1 h2=>hcell i x j y (hg i x h1) h2) (fun i x j y v h1 h2 h3=>hv i x j y v (hg i x h1) h2 h3)
   intro e;subst e;simp at hne
theorem rf_drop {own:Own} {w:World} {es:List FV} {a:Option Addr} {n c lo hi size:Nat} (hr:RF own w (.sl es) (.slice a n c)) (hlo:lo≤hi) (hhi:hi≤es.length) (hs:∀ x∈es,x.size=size) :
 RF own w (.sl ((es.drop lo).take (hi - lo))) (.slice (if c=lo then a else a.map (·.add (lo * size))) (hi - lo) (c - lo)):=by
 by_cases hlt:lo=hi
 ·subst hlt
  simp only [Nat.sub_self,List.take_zero]
  exact RF.nil
 have hr':=hr
 cases hr with
 | sl _ _ _ _ ad sz hn hc ha hsz hcell hv=>
   have hne:es≠[]:=by intro e;subst e;simp at hhi;omega
   obtain ⟨h1,h2,h3,h4⟩:=ha hne
   have hszs:sz=size:=by
    cases es with
    | nil=>exact absurd rfl hne
    | cons x r=>rw [← hsz x (List.mem_cons_self ..),hs x (List.mem_cons_self ..)]
   subst hszs
   have hg:∀ (i:Nat) x,((es.drop lo).take (hi - lo))[i]?=some x→es[lo+i]?=some x:=by
    intro i x hx
    rw [List.getElem?_take] at hx
    split at hx
    ·rw [List.getElem?_drop] at hx;exact hx
    ·cases hx
   rw [if_neg (by omega),h1]
   refine .sl _ _ _ _ ⟨ad.block,ad.off+lo * sz,none⟩ sz (by simp;omega) (by omega) (fun _=>⟨?_,rfl,h3,h4⟩) (fun x hx=>hsz x (List.mem_of_mem_drop (List.mem_of_mem_take hx))) ?_ ?_
   ·simp only [Option.map_some,Option.some.injEq]
    have:ad=⟨ad.block,ad.off,none⟩:=by cases ad;simp at h2;subst h2;rfl
    rw [this,za3]
   ·intro i x j y e1 e2
    have:=hcell (lo+i) x j y (hg i x e1) e2
    rwa [Nat.add_mul,Nat.add_assoc,← Nat.add_assoc,← Nat.add_assoc,Nat.add_assoc (ad.off+lo * sz)] at this
   ·intro i x j y v e1 e2 e3
    refine hv (lo+i) x j y v (hg i x e1) e2 ?_
    rw [Nat.add_mul,Nat.add_assoc,← Nat.add_assoc,← Nat.add_assoc,Nat.add_assoc (ad.off+lo * sz)];exact e3
section
variable {CE : CEx} {c : Cfg} {G : Sta} {own : Own} {a : Act} {w : World} {T : List Acc} {next : Act → World → Prop}
variable {F : Fence} {n : Nat} {o : Oper} {Q : Exit → Act → World → Prop}
def bndAV (x:Option AV) (dflt:Nat):Option Nat:=match x with
    | none=>some dflt
    | some (.f (.pv (.int _ n)))=>if 0≤n then some n.toNat else none
    | _=>none
def RVo (P:Program) (G:Sta) (own:Own) (w:World):Option AV→Option Value→Prop
 | none,none=>True
 | some x,some v=>RV P G own w x v
 | _,_=>False
theorem zgb {x:Option AV} {v:Option Value} {d l:Nat} (hx:RVo P G own w x v) (h:bndAV x d=some l):(v=none∧l=d)∨∃ k,v=some (.int k l):=by
 cases x with
 | none=>cases v<;>simp_all [RVo,bndAV]
 | some x=>
   cases v with
   | none=>exact hx.elim
   | some v=>
     simp only [bndAV] at h
     split at h
     ·cases ‹some _=none›
     ·rename_i heq
      cases heq
      have:=zbn (P:=P) (G:=G) hx
      split at h
      ·rename_i k m hm
       cases h
       right;exact ⟨k,by rw [this,Int.toNat_of_nonneg hm]⟩
      ·cases h
     ·cases h
theorem zfZ {isSlice:Bool} {len cap l h:Nat} {low high:Option Value} (hl:(low=none∧l=0)∨∃ k,low=some (.int k l)) (hh:(high=none∧h=len)∨∃ k,high=some (.int k h))
 (h1:l≤h) (h2:h≤cap):(Instr.sliceBounds isSlice len cap low high none).run P w=.ok (l,h,cap) w:=by
 have b1:∀ (k:IntKind) (x y:Nat) (cd:BoundsCode),x≤y→(Instr.sliceBound (.int k x) y cd).run P w=.ok x w:=by
  intro k x y cd hxy
  have:(0:Int)≤x∧(x:Int)≤y:=⟨by omega,by omega⟩
  simp [Instr.sliceBound,asIntOf,this]
 unfold Instr.sliceBounds
 rcases hl with ⟨rfl,rfl⟩ | ⟨k,rfl⟩<;>rcases hh with ⟨rfl,rfl⟩ | ⟨k',rfl⟩<;>simp [Sem.run_bind,b1,h1,h2]
theorem zel {L H:Option Operand} {t:TypeId} {x:Operand} (hc:CfgOk P c) (hF:∀ f,F.fn f) (s:St P c.nt G own a w) (ho:o.op=.slice t x L H none) {v:AV} {lo hi:Option AV}
 (hx:RV P G own w v (a.eval x)) (hlo:RVo P G own w lo (L.map a.eval)) (hhi:RVo P G own w hi (H.map a.eval))
 (h:(sliceRM c o.dst t v lo hi).wp CE G T (Kn P c.nt G own a w next)):o.wpIn F n P a w next Q:=by
 have hexec:∀ {r},(∀ k,P.underlying t≠some (.array k r))→True:=fun _=>trivial
 have run:∀ {D r},P.underlying t=some D→(∀ k E,D≠.array k E)→(Instr.slice t (a.eval x) (L.map a.eval) (H.map a.eval) none).run P w=.ok r w→(execOp a.eval o).run P w=.ok (.value r) w:=by
  intro D r hun hD hr
  simp only [execOp,ho,Option.map_none,Sem.run_bind,Instr.sliceAt,run_underlying hun,Result.andThen_ok]
  cases D<;>first | exact absurd rfl (hD _ _) | simp [hr]
 unfold sliceRM at h
 dsimp only at h
 split at h
 ·rename_i str _ _ _ hti
  have hu:=zbn (P:=P) (G:=G) hx
  have hun:=(hc t _ hti).und
  split at h
  ·rename_i l hh e1 e2
   have g1:=zgb (d:=0) (l:=l) hlo e1
   have g2:=zgb (d:=str.size) (l:=hh) hhi e2
   split at h
   ·rename_i hcond
    refine zD hF (by simp [ho]) (u:=.string (str.extract l hh)) (w':=w) ?_ (zK (U:=[]) s (Tr.refl _ _) (zax rfl) h)
    refine run hun (by simp) ?_
    simp only [Instr.slice,hu,Sem.run_bind,run_underlying hun,Result.andThen_ok]
    simp [zfZ (isSlice:=false) g1 g2 hcond.1 hcond.2]
   ·exact h.elim
  ·exact h.elim
 ·rename_i es E _ _ _ hti
  have hun:=(hc t _ hti).und
  split at h
  ·rename_i l hh i e1 e2 hE
   have g1:=zgb (d:=0) (l:=l) hlo e1
   have g2:=zgb (d:=es.length) (l:=hh) hhi e2
   split at h
   ·rename_i hcond
    obtain ⟨c1,c2,c3⟩:=hcond
    have hr:RF own w (.sl es) (a.eval x):=hx.2
    have hs:∀ y∈es,y.size=i.size:=fun y hy=>(zca (List.all_eq_true.1 c3 y hy)).1
    generalize a.eval x=u at hr run
    obtain ⟨aa,nn,cc,rfl,hnn,hcc⟩:∃ aa nn cc,u=.slice aa nn cc∧nn=es.length∧nn≤cc:=by
     cases hr with
     | sl _ aa nn cc ad sz hn hc=>exact ⟨aa,nn,cc,rfl,hn,hc⟩
    have hd:=rf_drop (lo:=l) (hi:=hh) (size:=i.size) hr c1 c2 hs
    refine zD hF (by simp [ho]) (w':=w) ?_ (zK (U:=[]) s (Tr.refl _ _) (v:=.f (.sl ((es.drop l).take (hh - l)))) ⟨rfl,hd⟩ h)
    refine run hun (by simp) ?_
    simp only [Instr.slice,Sem.run_bind,run_underlying hun,Result.andThen_ok]
    subst hnn
    simp [zfZ (isSlice:=true) g1 g2 c1 (Nat.le_trans c2 hcc),(hc E _ hE).run_size w]
   ·exact h.elim
  ·exact h.elim
 ·rename_i b q j m E _ _ _ hti
  have hun:=(hc t _ hti).und
  split at h
  ·rename_i l hh i e1 e2 hE
   have g1:=zgb (d:=0) (l:=l) hlo e1
   have g2:=zgb (d:=m) (l:=hh) hhi e2
   split at h
   ·rename_i hcond
    split at h
    ·rename_i hl0
     subst hl0
     have hv:SlV P G own w b q j m (a.eval x):=hx
     generalize a.eval x=u at hv run
     obtain ⟨y,T1,h1,h2⟩:=za1 h
     have key:∃ aa cc,u=.slice aa m cc∧m≤cc∧R0 P G own w (.rf b q j hh) (.slice aa hh cc):=by
      show ∃ aa cc,u=.slice aa m cc∧m≤cc∧SlV P G own w b q j hh (.slice aa hh cc)
      unfold SlV at hv ⊢
      rw [h1] at hv ⊢
      cases y with
      | own E' l'=>
        obtain ⟨e3,aa,cc,rfl,e5,e6⟩:=hv
        exact ⟨aa,cc,rfl,e5,by omega,aa,cc,rfl,by omega,e6⟩
      | f y=>
        cases y with
        | sl l'=>
          obtain ⟨e3,e4⟩:=hv
          have e4':=e4
          cases e4 with
          | sl _ aa nn cc ad sz hn hc'=>
            have hn':nn=m:=by simp at hn;omega
            subst hn'
            refine ⟨aa,cc,rfl,hc',by omega,?_⟩
            have:=rf_take (h:=hh) e4' (by simp;omega)
            rwa [List.take_take,Nat.min_eq_left hcond.2] at this
        | _=>simp [sliceOf] at h2;exact h2.elim
      | _=>simp [sliceOf] at h2;exact h2.elim
     have h3:∃ T1,(fin c o.dst [] (.rf b q j hh)).wp CE G T1 (Kn P c.nt G own a w next):=by
      split at h2
      ·exact ⟨_,h2⟩
      ·exact h2.elim
     obtain ⟨T2,h3⟩:=h3
     obtain ⟨aa,cc,rfl,hcc,hr⟩:=key
     refine zD hF (by simp [ho]) (w':=w) ?_ (zK (U:=[]) s (Tr.refl _ _) (v:=.rf b q j hh) hr h3)
     refine run hun (by simp) ?_
     simp only [Instr.slice,Sem.run_bind,run_underlying hun,Result.andThen_ok]
     have hadd:∀ z:Addr,z.add 0=z:=fun z=>by cases z with | mk k o s=>cases s<;>simp [Addr.add]
     have ham:Option.map (fun z:Addr=>z.add 0) aa=aa:=by cases aa<;>simp [hadd]
     simp [zfZ (isSlice:=true) g1 g2 hcond.1 (Nat.le_trans hcond.2 hcc),(hc E _ hE).run_size w,ham]
    ·exact h.elim
   ·exact h.elim
  ·exact h.elim
 ·exact h.elim
theorem op_slice (hc:CfgOk P c) (hF:∀ f,F.fn f) (s:St P c.nt G own a w) {t:TypeId} {x:Operand} {L H:Option Operand} (ho:o.op=.slice t x L H none)
 (h:(sliceOpRM c o.dst t x L H).wp CE G T (Kn P c.nt G own a w next)):o.wpIn F n P a w next Q:=by
 obtain ⟨v,T1,h1,h2⟩:=zA s h
 cases L with
 | none=>cases H with
   | none=>exact zel hc hF s ho h1 (lo:=none) (hi:=none) trivial trivial h2
   | some y=>
     obtain ⟨v2,T2,h3,h4⟩:=zA s h2
     exact zel hc hF s ho h1 (lo:=none) (hi:=some v2) trivial h3 h4
 | some x=>cases H with
   | none=>
     obtain ⟨v2,T2,h3,h4⟩:=zA s h2
     exact zel hc hF s ho h1 (lo:=some v2) (hi:=none) h3 trivial h4
   | some y=>
     obtain ⟨v2,T2,h3,h4⟩:=zA s h2
     obtain ⟨v3,T3,h5,h6⟩:=zA s h4
     exact zel hc hF s ho h1 (lo:=some v2) (hi:=some v3) h3 h5 h6
end
end Go.Ev
namespace Go.Ev
open Go Go.RowKit
variable {P : Program}
def killS (S:Nat→Bool):AV→AV
 | .rf c p i n=>if S c=true then .bad else .rf c p i n
 | .ep c p i n=>if S c=true then .bad else .ep c p i n
 | v=>v
theorem zfq (S:Nat→Bool):Kl (killS S):=by
 refine ⟨rfl,fun v=>?_,fun _=>rfl,fun _=>rfl,fun v=>?_⟩
 ·cases v with
  | rf c p i n=>simp only [killS];split;exact .inr rfl;exact .inl rfl
  | ep c p i n=>simp only [killS];split;exact .inr rfl;exact .inl rfl
  | _=>exact .inl rfl
 ·cases v with
  | rf c p i n=>simp only [Ev.frz,killS];split<;>rfl
  | ep c p i n=>simp only [Ev.frz,killS];split<;>rfl
  | _=>rfl
theorem map2_comp {f g:AV→AV} (hf:Kl f) (hg:Kl g) (v:AV):AV.map2 f (AV.map2 g v)=AV.map2 (fun v=>f (g v)) v:=by
 have h1:∀ v:AV,AV.map1 f (AV.map1 g v)=AV.map1 (fun v=>f (g v)) v:=by
  intro v
  cases v with
  | agg l=>simp [AV.map1]
  | tup l=>simp only [AV.map1,hg.tup,hf.tup]
  | _=>
    simp only [AV.map1]
    rcases hg.or _ with e | e<;>rw [e]<;>rfl
 cases v with
 | agg l=>simp [AV.map2]
 | tup l=>simp only [AV.map2,List.map_map,AV.tup.injEq];exact List.map_congr_left (fun v _=>h1 v)
 | _=>
   simp only [AV.map2]
   rcases hg.or _ with e | e<;>rw [e]<;>rfl
theorem killr_eq (b:Nat):killr b none=killS (fun c=>c == b):=by
 funext v
 cases v<;>simp [killr,killS]
theorem killS_comp (S S':Nat→Bool) (v:AV):killS S (killS S' v)=killS (fun c=>S c || S' c) v:=by
 cases v with
 | rf c p i n=>simp only [killS];by_cases h:S' c=true<;>by_cases h2:S c=true<;>simp [h,h2,killS]
 | ep c p i n=>simp only [killS];by_cases h:S' c=true<;>by_cases h2:S c=true<;>simp [h,h2,killS]
 | _=>rfl
theorem zim (S S':Nat→Bool) (v:AV):AV.map2 (killS S) (AV.map2 (killS S') v)=AV.map2 (killS (fun c=>S c || S' c)) v:=by
 rw [map2_comp (zfq _) (zfq _)]
 congr 1;funext v;exact killS_comp S S' v
theorem zhq (v:AV):AV.map2 (killS (fun _=>false)) v=v:=by
 have:killS (fun _=>false)=fun v=>v:=by funext v;cases v<;>rfl
 rw [this];exact zct v
theorem zg4 (f:Nat→Nat):∀ (bs:List Nat) (vs:List AV) (G:Sta) (c:Nat),bs.length=vs.length→c∉bs→get (app (putsOf f bs vs) G) c=(get G c).map (AV.map2 (killS (fun x=>bs.contains x)))
 | [],[],G,c,_,_=>by
   simp only [putsOf,app,List.contains_nil]
   cases get G c<;>simp [zhq]
 | b :: bs,v :: vs,G,c,hl,hc=>by
   simp only [putsOf,app]
   rw [zg4 f bs vs _ c (by simpa using hl) (fun h=>hc (List.mem_cons_of_mem _ h))]
   have hcb:c≠b:=fun e=>hc (by rw [e];exact List.mem_cons_self ..)
   simp only [Up.app,zao,if_neg hcb,zar,Option.map_map]
   congr 1;funext x
   simp only [Function.comp,killr_eq,zim]
   congr 2;funext y;simp only [List.contains_cons,Bool.or_comm]
 | [],_ :: _,_,_,h,_=>by simp at h
 | _ :: _,[],_,_,h,_=>by simp at h
theorem zhD (f:Nat→Nat):∀ (bs:List Nat) (vs:List AV) (G:Sta) (i b:Nat) (v:AV),bs.length=vs.length→bs.Nodup→bs[i]?=some b→vs[i]?=some v→
 (∀ v∈vs,∀ S,AV.map2 (killS S) (ren1 f v)=ren1 f v)→(∃ x,get G b=some x∧(ren1 f v).leaves.length=x.leaves.length)→get (app (putsOf f bs vs) G) b=some (ren1 f v)
 | [],_,_,_,_,_,_,_,h,_,_,_=>by simp at h
 | _ :: _,[],_,_,_,_,h,_,_,_,_,_=>by simp at h
 | c :: bs,y :: vs,G,i,b,v,hl,hn,hb,hv,hk,hx=>by
   obtain ⟨x,hx1,hx2⟩:=hx
   rw [List.nodup_cons] at hn
   simp only [putsOf,app]
   cases i with
   | zero=>
     simp at hb hv;subst hb hv
     rw [zg4 f bs vs _ c (by simpa using hl) hn.1]
     simp only [Up.app,zao,if_true,zar,hx1,Option.map_some]
     have:(AV.map2 (killr c none) x).leaves.length=x.leaves.length:=zgV (zcw c none) x
     rw [putV,if_pos (by rw [this];exact hx2),hk _ (List.mem_cons_self ..)]
   | succ i=>
     simp at hb hv
     refine zhD f bs vs _ i b v (by simpa using hl) hn.2 hb hv (fun v hv=>hk v (List.mem_cons_of_mem _ hv)) ?_
     have hcb:b≠c:=fun e=>hn.1 (by rw [← e];exact List.mem_of_getElem? hb)
     refine ⟨AV.map2 (killr c none) x,by simp only [Up.app,zao,if_neg hcb,zar,hx1,Option.map_some],?_⟩
     rw [zgV (zcw c none) x];exact hx2
def dIs (d:Option Tmp) (c:Nat):Bool:=
 match d with
 | some t=>c == tb t
 | none=>false
def outS (bs:List Nat) (d:Option Tmp) (c:Nat):Bool:=bs.contains c || dIs d c
theorem get_out (f:Nat→Nat) {bs:List Nat} {vs:List AV} {d:Option Tmp} {r:AV} {G:Sta} {c:Nat} (hl:bs.length=vs.length) (hc:outS bs d c=false) :
 get (app (putsOf f bs vs++setD d r) G) c=(get G c).map (AV.map2 (killS (outS bs d))):=by
 simp only [outS,Bool.or_eq_false_iff] at hc
 have hcb:c∉bs:=by intro h;have:=hc.1;simp at this;exact this h
 rw [zam]
 cases d with
 | none=>
   simp only [setD,app]
   rw [zg4 f bs vs G c hl hcb]
   congr 2;unfold outS;simp [dIs]
 | some t=>
   have hct:c≠tb t:=by have:=hc.2;simpa [dIs] using this
   simp only [setD,app,Up.app,zbr,if_neg hct,zar]
   rw [zg4 f bs vs G c hl hcb,Option.map_map]
   congr 1;funext x
   simp only [Function.comp,killr_eq,zim]
   congr 2;funext y;simp only [outS,dIs,Bool.or_comm]
theorem zhF (f:Nat→Nat) {bs:List Nat} {vs:List AV} {d:Option Tmp} {r:AV} {G:Sta} {i b:Nat} {v:AV} (hl:bs.length=vs.length) (hn:bs.Nodup) (hb:bs[i]?=some b) (hv:vs[i]?=some v)
 (hb3:b % 3≠1) (hk:∀ v∈vs,∀ S,AV.map2 (killS S) (ren1 f v)=ren1 f v) (hx:∃ x,get G b=some x∧(ren1 f v).leaves.length=x.leaves.length) :
 get (app (putsOf f bs vs++setD d r) G) b=some (ren1 f v):=by
 rw [zam]
 have h1:=zhD f bs vs G i b v hl hn hb hv hk hx
 cases d with
 | none=>exact h1
 | some t=>
   have hct:b≠tb t:=by intro e;rw [e] at hb3;simp [tb] at hb3
   simp only [setD,app,Up.app,zbr,if_neg hct,zar,h1,Option.map_some,killr_eq]
   rw [hk v (List.mem_of_getElem? hv)]
theorem look_of_get {G G':Sta} {φ:AV→AV} (k:Kl φ) {b:Nat} (h:get G' b=(get G b).map (AV.map2 φ)) (o:Option Nat):look G' b o=(look G b o).map (AV.map2 φ):=by
 have:=zhs k G b o
 rw [← this]
 have e:get G' b=get (mapv (AV.map2 φ) G) b:=by rw [h,zar]
 cases o<;>simp only [look,e]
theorem ob_back (i:Nat):ob i / 3 - 1=i:=by simp only [ob];omega
theorem zg0 {n i:Nat} (h:i < n):isOut n (ob i)=true:=by
 have h1:ob i % 3=0:=by simp only [ob];omega
 have h2:ob i≠0:=by simp only [ob];omega
 have h3:ob i / 3≤n:=by simp only [ob];omega
 simp [isOut,h1,h2,h3]
theorem isOut_spec {n b:Nat} (h:isOut n b=true):∃ i,i < n∧b=ob i:=by
 simp only [isOut,Bool.and_eq_true,beq_iff_eq,bne_iff_ne,decide_eq_true_eq] at h
 exact ⟨b / 3 - 1,by omega,by simp only [ob];omega⟩
theorem back_ob {bs:List Nat} {i b:Nat} (h:bs[i]?=some b):back bs (ob i)=b:=by
 simp only [back,ob_back,List.getD_eq_getElem?_getD,h,Option.getD_some]
theorem zhB {bs:List Nat} (hn:bs.Nodup):∀ {i b:Nat},bs[i]?=some b→bs.idxOf b=i:=by
 induction bs with
 | nil=>intro i b h;simp at h
 | cons c bs ih=>
   intro i b h
   rw [List.nodup_cons] at hn
   cases i with
   | zero=>simp at h;subst h;simp
   | succ i=>
     simp at h
     have hcb:c≠b:=fun e=>hn.1 (by rw [e];exact List.mem_of_getElem? h)
     rw [List.idxOf_cons,show (c == b)=false by simpa using hcb];simp [ih hn.2 h]
theorem zc6 {bs:List Nat} (hn:bs.Nodup) {i b:Nat} (h:bs[i]?=some b):toOut bs b=ob i:=by rw [toOut,zhB hn h]
def toOwn (bs:List Nat) (o:Owner):Owner:=
 match o with
 | .box b=>if bs.contains b=true then .box (toOut bs b) else .al o
 | .sl b p=>if bs.contains b=true then .sl (toOut bs b) p else .al o
 | .al _=>.al o
def ownC (bs:List Nat) (own:Own):Own:=fun k=>(own k).map (toOwn bs)
def fromOwn (bs:List Nat) (d:Option Tmp) (o:Owner):Option Owner:=
 match o with
 | .box b=>if isOut bs.length b=true then some (.box (back bs b)) else none
 | .sl b p=>if isOut bs.length b=true then some (.sl (back bs b) p) else if b=0 then d.map (fun t=>.sl (tb t) p) else none
 | .al _=>none
def hid (bs:List Nat) (o:Owner):Bool:=
 match o with
 | .box b=>!bs.contains b
 | .sl b _=>!bs.contains b
 | .al _=>true
def lost (d:Option Tmp) (o:Owner):Bool:=
 match o with
 | .sl b _=>dIs d b
 | _=>false
def ownR (bs:List Nat) (d:Option Tmp) (own own':Own):Own:=fun k=>
 match own k with
 | some o=>if hid bs o=true then (if lost d o=true then none else some o) else (own' k).bind (fromOwn bs d)
 | none=>(own' k).bind (fromOwn bs d)
theorem toOwn_hid {bs:List Nat} {o:Owner} (h:hid bs o=true):toOwn bs o=.al o:=by
 cases o with
 | box b=>simp only [hid,Bool.not_eq_true'] at h;simp only [toOwn];rw [if_neg (by rw [h];simp)]
 | sl b p=>simp only [hid,Bool.not_eq_true'] at h;simp only [toOwn];rw [if_neg (by rw [h];simp)]
 | al x=>rfl
theorem ownR_hid {bs:List Nat} {d:Option Tmp} {own own':Own} {k:Nat} {o:Owner} (h:own k=some o) (hh:hid bs o=true):ownR bs d own own' k=if lost d o=true then none else some o:=by
 simp only [ownR,h,if_pos hh]
theorem zfk {bs:List Nat} {d:Option Tmp} {own own':Own} {k:Nat} (h:∀ o,own k=some o→hid bs o=false):ownR bs d own own' k=(own' k).bind (fromOwn bs d):=by
 simp only [ownR]
 cases e:own k with
 | none=>rfl
 | some o=>simp only;rw [if_neg (by rw [h o e];simp)]
end Go.Ev
namespace Go.Ev
open Go Go.RowKit
variable {P : Program}
theorem RF.mono0 {own own':Own} {w:World} (hn:∀ k,own k=none→own' k=none) {x:FV} {v:Value} (h:RF own w x v):RF own' w x v:=by
 induction h with
 | pv v h=>exact .pv v h
 | agg l arr hl _ ih=>exact .agg l arr hl ih
 | sl l a n c ad sz hn' hc ha hsz hcell _ ih=>exact .sl l a n c ad sz hn' hc (fun hne=>let ⟨h1,h2,h3,h4⟩:=ha hne;⟨h1,h2,hn _ h3,h4⟩) hsz hcell ih
section ren
variable {G G' : Sta} {own own' : Own} {w : World} {f : Nat → Nat} {p : Nat → Bool}
theorem zhW (hn:∀ k,own k=none→own' k=none) (hb:∀ k b,p b=true→own k=some (.box b)→own' k=some (.box (f b))) (hmf:∀ b,p b=true→isM b=false→isM (f b)=false) {v:AV} {u:Value} (h:RC own w v u) (hv:capIn p v=true):RC own' w (renC f v) u:=by
 cases v with
 | bad=>trivial
 | f x=>exact ⟨h.1,h.2.mono0 hn⟩
 | ptr b o=>
   simp only [capIn,Bool.and_eq_true,Bool.not_eq_true'] at hv
   obtain ⟨k,h1,h2⟩:=RC.ptr (w:=w) h hv.2
   exact ⟨k,hb k b hv.1 h1,by rw [hmf b hv.1 hv.2];exact h2⟩
 | fp x o=>
   obtain ⟨k,q,h1,h2,h3,h4⟩:=h
   exact ⟨k,q,h1,hn _ h2,h3,fun j y hy=>let ⟨z,e1,e2⟩:=h4 j y hy;⟨z,e1,e2.mono0 hn⟩⟩
 | _=>simp [capIn] at hv
theorem zgo (hn:∀ k,own k=none→own' k=none) (hb:∀ k b,p b=true→own k=some (.box b)→own' k=some (.box (f b))) (hmf:∀ b,p b=true→isM b=false→isM (f b)=false) {v:AV} {u:Value} (h:R0 P G own w v u) (hv:shut0 false p v=true):R0 P G' own' w (ren0 f v) u:=by
 cases v with
 | clo g caps=>
   obtain ⟨arr,h1,h2,h3⟩:=h
   refine ⟨arr,h1,by simpa using h2,fun j x y e1 e2=>?_⟩
   simp only [List.getElem?_map] at e1
   cases hj:caps[j]? with
   | none=>rw [hj] at e1;cases e1
   | some z=>
     rw [hj] at e1;cases e1
     exact zhW hn hb hmf (h3 j z y hj e2) (List.all_eq_true.1 hv z (List.mem_of_getElem? hj))
 | bad=>exact zhW (w:=w) (u:=u) hn hb hmf (v:=.bad) h hv
 | f x=>exact zhW (w:=w) (u:=u) hn hb hmf (v:=.f x) h hv
 | ptr b o=>exact zhW (w:=w) (u:=u) hn hb hmf (v:=.ptr b o) h hv
 | fp x o=>exact zhW (w:=w) (u:=u) hn hb hmf (v:=.fp x o) h hv
 | _=>simp [shut0,capIn] at hv
theorem ren_ro (hn:∀ k,own k=none→own' k=none) (hb:∀ k b,p b=true→own k=some (.box b)→own' k=some (.box (f b))) (hmf:∀ b,p b=true→isM b=false→isM (f b)=false) {b b' j:Nat} (hs:∀ k j,own k=some (.sl b j)→own' k=some (.sl b' j)) {v:AV} {u:Value}
 (h:RO P G own w b j v u) (hv:shut0 true p v=true):RO P G' own' w b' j (ren0 f v) u:=by
 cases v with
 | own E l=>
   obtain ⟨a,c,h1,h2,h3⟩:=h
   refine ⟨a,c,h1,h2,h3.imp id ?_⟩
   rintro ⟨k,e1,e2,arr,e3,e4,e5,e6⟩
   exact ⟨k,e1,hs _ _ e2,arr,e3,e4,e5,fun i x j y h1 h2=>let ⟨z,q1,q2⟩:=e6 i x j y h1 h2;⟨z,q1,q2.mono0 hn⟩⟩
 | clo g caps=>exact zgo (P:=P) (G:=G) (G':=G') (w:=w) (u:=u) hn hb hmf (v:=.clo g caps) h hv
 | bad=>exact zgo (P:=P) (G:=G) (G':=G') (w:=w) (u:=u) hn hb hmf (v:=.bad) h hv
 | f x=>exact zgo (P:=P) (G:=G) (G':=G') (w:=w) (u:=u) hn hb hmf (v:=.f x) h hv
 | ptr b o=>exact zgo (P:=P) (G:=G) (G':=G') (w:=w) (u:=u) hn hb hmf (v:=.ptr b o) h hv
 | fp x o=>exact zgo (P:=P) (G:=G) (G':=G') (w:=w) (u:=u) hn hb hmf (v:=.fp x o) h hv
 | _=>simp [shut0,capIn] at hv
theorem zid {o:Bool} {v:AV} (hv:shut0 o p v=true):v.isLeaf=true∧(ren0 f v).isLeaf=true:=by
 cases v<;>first | exact ⟨rfl,rfl⟩ | simp [shut0,capIn] at hv
theorem zdw {v:AV} (hv:v.isLeaf=true):v.leaves=[v]:=by cases v<;>first | rfl | simp [AV.isLeaf] at hv
theorem zbX {o:Bool} {v:AV} (hv:shut1 o p v=true):(∃ l,v=.agg l∧l.all (shut0 o p)=true)∨(shut0 o p v=true∧v.isLeaf=true∧ren1 f v=ren0 f v∧(ren0 f v).isLeaf=true):=by
 cases v with
 | agg l=>exact .inl ⟨l,rfl,hv⟩
 | _=>
   right
   have hv':=hv
   simp only [shut1] at hv'
   exact ⟨hv',(zid (f:=f) hv').1,rfl,(zid hv').2⟩
theorem zdp {o:Bool} {v:AV} (hv:shut1 o p v=true):(ren1 f v).leaves=v.leaves.map (ren0 f)∧∀ x∈v.leaves,shut0 o p x=true:=by
 rcases zbX (f:=f) hv with ⟨l,rfl,h⟩ | ⟨h1,h2,h3,h4⟩
 ·exact ⟨rfl,fun x hx=>List.all_eq_true.1 h x hx⟩
 ·rw [h3,zdw h2,zdw h4]
  exact ⟨rfl,fun x hx=>by simp at hx;rw [hx];exact h1⟩
theorem ren_rb (hn:∀ k,own k=none→own' k=none) (hb:∀ k b,p b=true→own k=some (.box b)→own' k=some (.box (f b))) (hmf:∀ b,p b=true→isM b=false→isM (f b)=false) {b b':Nat} (hs:∀ k j,own k=some (.sl b j)→own' k=some (.sl b' j)) {v:AV} {arr:Array Value}
 (h:RB P G own w b v arr) (hv:shut1 true p v=true):RB P G' own' w b' (ren1 f v) arr:=by
 obtain ⟨h1,h2⟩:=zdp (f:=f) hv
 refine ⟨by rw [h1,List.length_map];exact h.1,fun j x u e1 e2=>?_⟩
 rw [h1,List.getElem?_map] at e1
 cases hj:v.leaves[j]? with
 | none=>rw [hj] at e1;cases e1
 | some y=>rw [hj] at e1;cases e1;exact ren_ro hn hb hmf hs (h.2 j y u hj e2) (h2 y (List.mem_of_getElem? hj))
theorem r1_r0 {v:AV} {u:Value} (h1:∀ l,v≠.agg l):R1 P G own w v u=R0 P G own w v u:=by
 cases v<;>first | rfl | exact absurd rfl (h1 _)
theorem ren_r1 (hn:∀ k,own k=none→own' k=none) (hb:∀ k b,p b=true→own k=some (.box b)→own' k=some (.box (f b))) (hmf:∀ b,p b=true→isM b=false→isM (f b)=false) {v:AV} {u:Value} (h:R1 P G own w v u) (hv:shut1 false p v=true):R1 P G' own' w (ren1 f v) u:=by
 rcases zbX (f:=f) hv with ⟨l,rfl,h1⟩ | ⟨h1,h2,h3,h4⟩
 ·obtain ⟨arr,e1,e2,e3⟩:=h
  refine ⟨arr,e1,by simpa using e2,fun j x y q1 q2=>?_⟩
  rw [List.getElem?_map] at q1
  cases hj:l[j]? with
  | none=>rw [hj] at q1;cases q1
  | some z=>rw [hj] at q1;cases q1;exact zgo hn hb hmf (e3 j z y hj q2) (List.all_eq_true.1 h1 z (List.mem_of_getElem? hj))
 ·rw [h3,r1_r0 (zW h4).1]
  rw [r1_r0 (zW h2).1] at h
  exact zgo hn hb hmf h h1
theorem rl_ro {b:Nat} {v:AV} {u:Value} (h:v.isLeaf=true):RL P G own w b v u=RO P G own w b 0 v u:=by
 cases v<;>first | rfl | simp [AV.isLeaf] at h
theorem ren_rl (hn:∀ k,own k=none→own' k=none) (hb:∀ k b,p b=true→own k=some (.box b)→own' k=some (.box (f b))) (hmf:∀ b,p b=true→isM b=false→isM (f b)=false) {b b':Nat} (hs:∀ k j,own k=some (.sl b j)→own' k=some (.sl b' j)) {v:AV} {u:Value}
 (h:RL P G own w b v u) (hv:shut2 p v=true):RL P G' own' w b' (ren2 f v) u:=by
 have key:∀ v:AV,shut1 true p v=true→ren2 f v=ren1 f v→RL P G own w b v u→RL P G' own' w b' (ren2 f v) u:=by
  intro v hv he h
  rw [he]
  rcases zbX (f:=f) hv with ⟨l,rfl,h1⟩ | ⟨h1,h2,h3,h4⟩
  ·obtain ⟨arr,e1,e2,e3⟩:=h
   refine ⟨arr,e1,by simpa using e2,fun j x y q1 q2=>?_⟩
   rw [List.getElem?_map] at q1
   cases hj:l[j]? with
   | none=>rw [hj] at q1;cases q1
   | some z=>rw [hj] at q1;cases q1;exact ren_ro hn hb hmf hs (e3 j z y hj q2) (List.all_eq_true.1 h1 z (List.mem_of_getElem? hj))
  ·rw [h3,rl_ro h4]
   rw [rl_ro h2] at h
   exact ren_ro hn hb hmf hs h h1
 cases v with
 | tup l=>
   obtain ⟨arr,e1,e2,e3⟩:=h
   refine ⟨arr,e1,by simpa using e2,fun j x y q1 q2=>?_⟩
   rw [List.getElem?_map] at q1
   cases hj:l[j]? with
   | none=>rw [hj] at q1;cases q1
   | some z=>rw [hj] at q1;cases q1;exact ren_r1 hn hb hmf (e3 j z y hj q2) (List.all_eq_true.1 hv z (List.mem_of_getElem? hj))
 | agg l=>exact key _ hv rfl h
 | _=>exact key _ hv rfl h
theorem shut_kill {o:Bool} {v:AV} (hv:shut1 o p v=true) (S:Nat→Bool):AV.map2 (killS S) (ren1 f v)=ren1 f v:=by
 have h0:∀ v:AV,shut0 o p v=true→killS S (ren0 f v)=ren0 f v:=by
  intro v hv
  cases v<;>first | rfl | simp [shut0,capIn] at hv
 rcases zbX (f:=f) hv with ⟨l,rfl,h1⟩ | ⟨h1,h2,h3,h4⟩
 ·simp only [ren1,AV.map2,List.map_map,AV.agg.injEq]
  exact List.map_congr_left (fun x hx=>h0 x (List.all_eq_true.1 h1 x hx))
 ·rw [h3,zbH (zW h4).1 (zW h4).2];exact h0 v h1
end ren
theorem get_frzs (b:Nat):∀ {U:List Up} (hU:FrzOnly U) {G:Sta} {v:AV},get G b=some v→get (app U G) b=some (frzIn b U v)
 | [],_,G,v,h=>h
 | u :: U,hU,G,v,h=>by
   obtain ⟨c,o,rfl⟩:=hU u (List.mem_cons_self ..)
   simp only [app,frzIn]
   refine get_frzs b (fun u hu=>hU u (List.mem_cons_of_mem _ hu)) ?_
   simp only [Up.app,zao]
   by_cases e:b=c
   ·subst e;simp [h]
   ·rw [if_neg e,if_neg (fun e'=>e e'.symm)];exact h
theorem zhH (U:List Up):∀ (bs:List Nat) (vs:List AV),bs.length=vs.length→(frzAll U bs vs).length=bs.length∧∀ (i:Nat) b v,bs[i]?=some b→(frzAll U bs vs)[i]?=some v→∃ x,vs[i]?=some x∧v=frzIn b U x
 | [],[],_=>⟨rfl,fun i b v h=>by simp at h⟩
 | b :: bs,v :: vs,h=>by
   obtain ⟨h1,h2⟩:=zhH U bs vs (by simpa using h)
   refine ⟨by simp [frzAll,h1],fun i c x e1 e2=>?_⟩
   cases i with
   | zero=>simp [frzAll] at e1 e2;exact ⟨v,rfl,by rw [← e1,e2]⟩
   | succ i=>simp [frzAll] at e1 e2;obtain ⟨y,q1,q2⟩:=h2 i c x e1 e2;exact ⟨y,by simpa using q1,q2⟩
 | [],_ :: _,h=>by simp at h
 | _ :: _,[],h=>by simp at h
theorem zev:∀ (m l:List Nat) (i:Nat) (b:Nat),l[i]?=some b→(addNew l m)[i]?=some b
 | [],l,i,b,h=>h
 | x :: m,l,i,b,h=>by
   simp only [addNew]
   split
   ·exact zev m l i b h
   ·exact zev m _ i b (by rw [List.getElem?_append_left (List.getElem?_eq_some_iff.1 h).1];exact h)
theorem zgv {CE:CEx} {G:Sta} {K:List Up→List Acc→Prop}:∀ (n:Nat) {bs:List Nat} {cs:List AV} {k:List Nat→List AV→RM} {T:List Acc},(gather n bs cs k).wp CE G T K→
 (∀ (i:Nat) c,cs[i]?=some c→∃ b,bs[i]?=some b∧get G b=some c)→∃ bs' cs' T',bs'.length=cs'.length∧(∀ (i:Nat) c,cs'[i]?=some c→∃ b,bs'[i]?=some b∧get G b=some c)∧(k bs' cs').wp CE G T' K
 | 0,_,_,_,_,h,_=>h.elim
 | n+1,bs,cs,k,T,h,hc=>by
   simp only [gather] at h
   split at h
   ·rename_i hl;exact ⟨bs,cs,T,hl.symm,hc,h⟩
   ·split at h
    ·rename_i b hb
     obtain ⟨v,T1,h1,h2⟩:=za1 h
     refine zgv n h2 ?_
     intro i c hi
     by_cases hlt:i < cs.length
     ·rw [List.getElem?_append_left hlt] at hi
      obtain ⟨b',q1,q2⟩:=hc i c hi
      exact ⟨b',zev _ _ _ _ q1,q2⟩
     ·have hle:cs.length≤i:=by omega
      rw [List.getElem?_append_right hle] at hi
      have hi0:i=cs.length:=by
       have:=(List.getElem?_eq_some_iff.1 hi).1;simp at this;omega
      subst hi0
      simp at hi;subst hi
      exact ⟨b,zev _ _ _ _ hb,h1⟩
    ·exact h.elim
theorem zdU:∀ {cs os:List AV},sameLens cs os=true→∀ (i:Nat) c o,cs[i]?=some c→os[i]?=some o→o.leaves.length=c.leaves.length
 | [],_,_,i,c,o,h,_=>by simp at h
 | c :: cs,[],h,_,_,_,_,_=>by simp [sameLens] at h
 | c :: cs,o :: os,h,i,x,y,e1,e2=>by
   simp only [sameLens,Bool.and_eq_true,beq_iff_eq] at h
   cases i with
   | zero=>simp at e1 e2;subst e1 e2;exact h.1.symm
   | succ i=>simp at e1 e2;exact zdU h.2 i x y e1 e2
end Go.Ev
namespace Go.Ev
open Go Go.RowKit
variable {P : Program}
variable (P) in
structure Outs (own:Own) (w:World) (outs:List AV):Prop where
 boxes:∀ (i:Nat) v,outs[i]?=some v→∃ k arr T,own k=some (.box (ob i))∧w.heap[k]?=some (.cells arr T (0,0))∧RB P [] own w (ob i) v arr
 one:∀ k k' o,own k=some o→own k'=some o→k=k'
 lt:∀ k o,own k=some o→k < w.heap.size
variable (P) in
def Args (own:Own) (w:World) (args:List AV) (vs:Array Value):Prop:=
 args.length=vs.size∧∀ (j:Nat) x v,args[j]?=some x→vs[j]?=some v→R1 P [] own w x v
variable (P) in
def CallE:CEx:=fun g args outs r outs'=>
 (∃ fn,P.funcs[g]?=some fn∧(fn.name == "runtime.NumGoroutine")=false∧fn.body.isNone=false)∧
 ∀ own w (vs:Array Value),Outs P own w outs→Args P own w args vs→
   Calls P g vs w fun e w'=>∃ u own',e=.returned u∧Tr own w own' w'∧Outs P own' w' outs'∧RL P [] own' w' 0 r u
theorem toOwn_inj {bs:List Nat} (hn:bs.Nodup) {x y o:Owner} (hx:toOwn bs x=o) (hy:toOwn bs y=o):x=y:=by
 have hmem:∀ b,bs.contains b=true→∃ i,bs[i]?=some b:=fun b h=>List.mem_iff_getElem?.1 (by simpa using h)
 have hto:∀ {b c:Nat},bs.contains b=true→bs.contains c=true→toOut bs b=toOut bs c→b=c:=by
  intro b c h1 h2 e
  obtain ⟨i,hi⟩:=hmem b h1
  obtain ⟨j,hj⟩:=hmem c h2
  rw [zc6 hn hi,zc6 hn hj] at e
  have:i=j:=by simp only [ob] at e;omega
  subst this;rw [hi] at hj;exact Option.some.inj hj
 cases x with
 | box b=>
   simp only [toOwn] at hx
   split at hx
   ·rename_i h1;subst hx
    cases y with
    | box c=>
      simp only [toOwn] at hy
      split at hy
      ·rename_i h2;rw [hto h2 h1 (by simpa using hy)]
      ·cases hy
    | sl c q=>simp only [toOwn] at hy;split at hy<;>cases hy
    | al z=>simp [toOwn] at hy
   ·subst hx
    cases y with
    | box c=>simp only [toOwn] at hy;split at hy<;>cases hy;rfl
    | sl c q=>simp only [toOwn] at hy;split at hy<;>cases hy
    | al z=>simp [toOwn] at hy
 | sl b q=>
   simp only [toOwn] at hx
   split at hx
   ·rename_i h1;subst hx
    cases y with
    | sl c q'=>
      simp only [toOwn] at hy
      split at hy
      ·rename_i h2
       simp only [Owner.sl.injEq] at hy
       rw [hto h2 h1 hy.1,hy.2]
      ·cases hy
    | box c=>simp only [toOwn] at hy;split at hy<;>cases hy
    | al z=>simp [toOwn] at hy
   ·subst hx
    cases y with
    | sl c q=>simp only [toOwn] at hy;split at hy<;>cases hy;rfl
    | box c=>simp only [toOwn] at hy;split at hy<;>cases hy
    | al z=>simp [toOwn] at hy
 | al z=>
   simp only [toOwn] at hx;subst hx
   cases y with
   | box c=>simp only [toOwn] at hy;split at hy<;>cases hy
   | sl c q=>simp only [toOwn] at hy;split at hy<;>cases hy
   | al z'=>simp only [toOwn,Owner.al.injEq] at hy;rw [hy]
theorem zfF {bs:List Nat} {b:Nat} (h:isOut bs.length b=true):∃ i,bs[i]?=some (back bs b)∧b=ob i:=by
 obtain ⟨i,hi,rfl⟩:=isOut_spec h
 have:bs[i]?=some (bs[i]'hi):=by simp
 exact ⟨i,by rw [back_ob this];exact this,rfl⟩
theorem zit {bs:List Nat} {d:Option Tmp} {x o:Owner} (h:fromOwn bs d x=some o):hid bs o=false∨lost d o=true:=by
 cases x with
 | box b=>
   simp only [fromOwn] at h
   split at h
   ·rename_i h1;cases h
    obtain ⟨i,h2,_⟩:=zfF h1
    left;simp [hid,List.mem_of_getElem? h2]
   ·cases h
 | sl b q=>
   simp only [fromOwn] at h
   split at h
   ·rename_i h1;cases h
    obtain ⟨i,h2,_⟩:=zfF h1
    left;simp [hid,List.mem_of_getElem? h2]
   ·split at h
    ·cases d with
     | none=>cases h
     | some t=>cases h;right;simp [lost,dIs]
    ·cases h
 | al z=>simp [fromOwn] at h
theorem fromOwn_inj {bs:List Nat} {d:Option Tmp} (hn:bs.Nodup) (h3:∀ b∈bs,b % 3≠1) {x y o:Owner} (hx:fromOwn bs d x=some o) (hy:fromOwn bs d y=some o):x=y:=by
 have hbk:∀ {b c:Nat},isOut bs.length b=true→isOut bs.length c=true→back bs b=back bs c→b=c:=by
  intro b c h1 h2 e
  obtain ⟨i,e1,rfl⟩:=zfF h1
  obtain ⟨j,e2,rfl⟩:=zfF h2
  rw [e] at e1
  have a1:=zhB hn e1
  have a2:=zhB hn e2
  rw [← a1,a2]
 have htb:∀ {b t:Nat},isOut bs.length b=true→back bs b≠tb t:=by
  intro b t h1 e
  obtain ⟨i,e1,_⟩:=zfF h1
  have:=h3 _ (List.mem_of_getElem? e1)
  rw [e] at this;simp [tb] at this
 cases x with
 | box b=>
   simp only [fromOwn] at hx
   split at hx
   ·rename_i h1;cases hx
    cases y with
    | box c=>
      simp only [fromOwn] at hy
      split at hy
      ·rename_i h2;rw [hbk h2 h1 (by simpa using hy)]
      ·cases hy
    | sl c q=>
      simp only [fromOwn] at hy
      split at hy
      ·cases hy
      ·split at hy
       ·cases d<;>cases hy
       ·cases hy
    | al z=>simp [fromOwn] at hy
   ·cases hx
 | sl b q=>
   simp only [fromOwn] at hx
   split at hx
   ·rename_i h1;cases hx
    cases y with
    | sl c q'=>
      simp only [fromOwn] at hy
      split at hy
      ·rename_i h2
       simp only [Option.some.injEq,Owner.sl.injEq] at hy
       rw [hbk h2 h1 hy.1,hy.2]
      ·split at hy
       ·cases d with
        | none=>cases hy
        | some t=>simp only [Option.map_some,Option.some.injEq,Owner.sl.injEq] at hy;exact absurd hy.1.symm (htb h1)
       ·cases hy
    | box c=>simp only [fromOwn] at hy;split at hy<;>cases hy
    | al z=>simp [fromOwn] at hy
   ·split at hx
    ·rename_i hb0
     cases d with
     | none=>cases hx
     | some t=>
       cases hx
       cases y with
       | sl c q'=>
         simp only [fromOwn] at hy
         split at hy
         ·rename_i h2
          simp only [Option.some.injEq,Owner.sl.injEq] at hy
          exact absurd hy.1 (htb h2)
         ·split at hy
          ·rename_i hc0
           simp only [Option.map_some,Option.some.injEq,Owner.sl.injEq] at hy
           rw [hb0,hc0,hy.2]
          ·cases hy
       | box c=>simp only [fromOwn] at hy;split at hy<;>cases hy
       | al z=>simp [fromOwn] at hy
    ·cases hx
 | al z=>simp [fromOwn] at hx
section
variable {CE : CEx} {c : Cfg} {G : Sta} {own : Own} {a : Act} {w : World} {T : List Acc} {next : Act → World → Prop}
variable {F : Fence} {n : Nat} {o : Oper} {Q : Exit → Act → World → Prop}
theorem call_back {bs:List Nat} {cs outs:List AV} {d:Option Tmp} {own1 own':Own} {w':World} {G1:Sta} {r:AV} {u:Value} (s:St P c.nt G1 own1 a w)
 (hl:bs.length=cs.length) (hcs:∀ (i:Nat) b v,bs[i]?=some b→cs[i]?=some v→get G1 b=some v)
 (h3:∀ b∈bs,b % 3≠1) (h3m:∀ b∈bs,isM b=false) (hn:bs.Nodup) (h5:dIn d c.nt=true) (g1:outs.length=bs.length) (g2:sameLens cs outs=true)
 (g3:outs.all (shut1 true (isOut bs.length))=true) (g4:shut2 (isOut bs.length) r=true)
 (tr:Tr (ownC bs own1) w own' w') (ho:Outs P own' w' outs) (hr:RL P [] own' w' 0 r u) :
 St P c.nt (app (putsOf (back bs) bs outs++setD d (ren2 (back bs) r)) G1) (ownR bs d own1 own') (a.put d u) w'∧Tr own1 w (ownR bs d own1 own') w':=by
 have hal:∀ k o,own1 k=some o→hid bs o=true→own' k=some (.al o)∧w'.heap[k]?=w.heap[k]?:=fun k o h hh=>tr.al k o (by simp [ownC,h,toOwn_hid hh])
 have hnh:∀ {k o},own' k=some o→(∀ x,o≠.al x)→∀ x,own1 k=some x→hid bs x=false:=by
  intro k o h hne x hx
  cases hh:hid bs x with
  | false=>rfl
  | true=>rw [(hal k x hx hh).1] at h;cases h;exact absurd rfl (hne x)
 have hnn:∀ k,own' k=none→ownR bs d own1 own' k=none:=by
  intro k hk
  rw [zfk,hk];rfl
  intro x hx
  cases hh:hid bs x with
  | false=>rfl
  | true=>rw [(hal k x hx hh).1] at hk;cases hk
 have hin:∀ {b},b∈bs→∃ i,bs[i]?=some b∧toOut bs b=ob i:=by
  intro b hb
  obtain ⟨i,hi⟩:=List.mem_iff_getElem?.1 hb
  exact ⟨i,hi,zc6 hn hi⟩
 have hbox:∀ k b,own1 k=some (.box b)→ownR bs d own1 own' k=some (.box b):=by
  intro k b hk
  by_cases hb:b∈bs
  ·obtain ⟨i,hi,ht⟩:=hin hb
   have h1:own' k=some (.box (ob i)):=tr.bx k (ob i) (by simp only [ob];omega) (by simp [ownC,hk,toOwn,hb,ht])
   rw [zfk (hnh h1 (by simp)),h1]
   have hlt:i < bs.length:=(List.getElem?_eq_some_iff.1 hi).1
   simp [fromOwn,zg0 hlt,back_ob hi]
  ·rw [ownR_hid hk (by simp [hid,hb])];simp [lost]
 have hrb:∀ k b,isOut bs.length b=true→own' k=some (.box b)→ownR bs d own1 own' k=some (.box (back bs b)):=by
  intro k b hb hk
  rw [zfk (hnh hk (by simp)),hk];simp [fromOwn,hb]
 have hmf:∀ b,isOut bs.length b=true→isM b=false→isM (back bs b)=false:=by
  intro b _ _
  unfold back
  by_cases h:b / 3 - 1 < bs.length
  ·rw [List.getD_eq_getElem?_getD,List.getElem?_eq_getElem h];exact h3m _ (List.getElem_mem h)
  ·rw [List.getD_eq_getElem?_getD,List.getElem?_eq_none (by omega)];rfl
 have T1:Tr own1 w (ownR bs d own1 own') w':=by
  refine ⟨tr.size,fun k hk h=>?_,tr.os,tr.tape,tr.output,fun k o h=>?_,fun k b _ h=>hbox k b h⟩
  ·obtain ⟨e1,e2⟩:=tr.keep k hk (by simp [ownC,h])
   exact ⟨hnn k e1,e2⟩
  ·obtain ⟨e1,e2⟩:=hal k _ h rfl
   exact ⟨by rw [ownR_hid h rfl];simp [lost],e2⟩
 have hnb:∀ {b},b % 3=1→b∉bs:=fun h hb=>h3 _ hb h
 have hget:∀ {b},outS bs d b=false→get (app (putsOf (back bs) bs outs++setD d (ren2 (back bs) r)) G1) b=(get G1 b).map (AV.map2 (killS (outS bs d))):=fun h=>get_out (back bs) g1.symm h
 have hown:∀ b o E l k cap,outS bs d b=false→OwnB P own1 w b o E k l cap→OwnB P (ownR bs d own1 own') w' b o E k l cap:=by
  intro b o E l k cap hS hB
  simp only [outS,Bool.or_eq_false_iff] at hS
  have hb:b∉bs:=by have:=hS.1;simpa using this
  have hh:hid bs (.sl b o)=true:=by simp [hid,hb]
  refine hB.mono T1 ?_ (hal k _ hB.1 hh).2
  rw [ownR_hid hB.1 hh];simp [lost,hS.2]
 have K:Keep P G1 own1 w (app (putsOf (back bs) bs outs++setD d (ren2 (back bs) r)) G1) (ownR bs d own1 own') w' (killS (outS bs d)) (fun b _=>outS bs d b=false):=by
  have lk:∀ {b o x},outS bs d b=false→look (app (putsOf (back bs) bs outs++setD d (ren2 (back bs) r)) G1) b (some o)=some x→x≠.bad→look G1 b (some o)=some x:=by
   intro b o x hS hg hx
   rw [look_of_get (zfq _) (hget hS)] at hg
   cases hy:look G1 b (some o) with
   | none=>rw [hy] at hg;cases hg
   | some y=>
     rw [hy] at hg
     simp only [Option.map_some,Option.some.injEq] at hg
     have hlf:=(zc8 hy).1
     rw [zbH (zW hlf).1 (zW hlf).2] at hg
     rcases (zfq (outS bs d)).or y with e | e
     ·rw [e] at hg;rw [hg]
     ·rw [e] at hg;exact absurd hg.symm hx
  refine ⟨zfq _,fun _ _=>rfl,T1,fun k b off h _=>hbox k b h,fun _ _ _ _ _ _=>rfl,?_,?_,?_⟩
  ·intro b o i m v hk h
   have hS:outS bs d b=false:=by
    simp only [killS] at hk
    split at hk
    ·cases hk
    ·rename_i e;simpa using e
   unfold SlV at h ⊢
   cases hg:look (app (putsOf (back bs) bs outs++setD d (ren2 (back bs) r)) G1) b (some o) with
   | none=>trivial
   | some x=>
     cases x with
     | own E l=>
       rw [lk hS hg (by simp)] at h
       obtain ⟨e1,aa,cc,e2,e3,e4⟩:=h
       refine ⟨e1,aa,cc,e2,e3,e4.imp id ?_⟩
       rintro ⟨k,e5,e6⟩
       exact ⟨k,e5,hown b o E l k _ hS e6⟩
     | f x=>
       cases x with
       | sl l=>rw [lk hS hg (by simp)] at h;exact ⟨h.1,h.2.mono T1⟩
       | _=>trivial
     | _=>trivial
  ·intro b o i m v hk h
   have hS:outS bs d b=false:=by
    simp only [killS] at hk
    split at hk
    ·cases hk
    ·rename_i e;simpa using e
   unfold EpV at h ⊢
   cases hg:look (app (putsOf (back bs) bs outs++setD d (ren2 (back bs) r)) G1) b (some o) with
   | none=>trivial
   | some x=>
     cases x with
     | own E l=>
       rw [lk hS hg (by simp)] at h
       obtain ⟨e1,k,cap,e2,e3⟩:=h
       exact ⟨e1,k,cap,e2,hown b o E l k _ hS e3⟩
     | f x=>
       cases x with
       | sl l=>rw [lk hS hg (by simp)] at h;obtain ⟨x,e1,e2⟩:=h;exact ⟨x,e1,RC.fp_mono T1 e2⟩
       | _=>trivial
     | _=>trivial
  ·rintro b o E l v hS hg ⟨aa,cc,e1,e2,e3⟩
   refine ⟨aa,cc,e1,e2,e3.imp id ?_⟩
   rintro ⟨k,e4,e5⟩
   exact ⟨k,e4,hown b o E l k _ hS e5⟩
 have hshut:∀ {v},v∈outs→shut1 true (isOut bs.length) v=true:=fun h=>List.all_eq_true.1 g3 _ h
 have hsz:(a.put d u).tmps.size=c.nt:=by
  cases d with
  | none=>exact s.size
  | some t=>rw [zdq];simp [s.size]
 refine ⟨s.step K hsz ?_ ?_ ?_ ?_,T1⟩
 ·intro t v' hg
  cases hd:dIs d (tb t) with
  | true=>
    cases d with
    | none=>simp [dIs] at hd
    | some t0=>
      have:t=t0:=tb_inj (by simpa [dIs] using hd)
      subst this
      rw [zam] at hg
      simp only [setD,app,Up.app,zbr,if_true,Option.some.injEq] at hg
      subst hg
      have hlt:t < c.nt:=by simpa [dIn] using h5
      refine .inl ⟨u,by rw [zdq,Array.getElem?_setIfInBounds_self_of_lt (by rw [s.size];exact hlt)],?_⟩
      refine ren_rl hnn hrb hmf ?_ hr g4
      intro k j hk
      rw [zfk (hnh hk (by simp)),hk]
      simp [fromOwn,isOut]
  | false=>
    have hS:outS bs d (tb t)=false:=by
     have:tb t∉bs:=hnb (by simp [tb])
     simp [outS,hd,this]
    rw [hget hS] at hg
    cases hx:get G1 (tb t) with
    | none=>rw [hx] at hg;cases hg
    | some x=>
      rw [hx] at hg;cases hg
      refine .inr ⟨x,rfl,rfl,?_,fun _=>hS⟩
      cases d with
      | none=>rfl
      | some t0=>
        rw [zdq,Array.getElem?_setIfInBounds_ne]
        intro e;subst e;simp [dIs] at hd
 ·intro b v' hb3 hg
  by_cases hb:b∈bs
  ·obtain ⟨i,hi,_⟩:=hin hb
   have hlt:i < bs.length:=(List.getElem?_eq_some_iff.1 hi).1
   obtain ⟨v,hv⟩:∃ v,outs[i]?=some v:=⟨outs[i]'(by omega),by simp⟩
   obtain ⟨x,hx⟩:∃ x,cs[i]?=some x:=⟨cs[i]'(by omega),by simp⟩
   have hlen:(ren1 (back bs) v).leaves.length=x.leaves.length:=by
    rw [(zdp (f:=back bs) (hshut (List.mem_of_getElem? hv))).1,List.length_map]
    exact zdU g2 i x v hx hv
   rw [zhF (back bs) g1.symm hn hi hv hb3 (fun v hv S=>shut_kill (hshut hv) S) ⟨x,hcs i b x hi hx,hlen⟩] at hg
   cases hg
   obtain ⟨k,arr,TT,e1,e2,e3⟩:=ho.boxes i v hv
   have hbk:=back_ob hi
   refine .inl ⟨h3m b hb,k,arr,TT,by have:=hrb k _ (zg0 hlt) e1;rwa [hbk] at this,e2,?_⟩
   refine ren_rb hnn hrb hmf ?_ e3 (hshut (List.mem_of_getElem? hv))
   intro k j hk
   rw [zfk (hnh hk (by simp)),hk]
   simp [fromOwn,zg0 hlt,hbk]
  ·have hd:dIs d b=false:=by
    cases d with
    | none=>rfl
    | some t=>
      simp only [dIs,beq_eq_false_iff_ne]
      intro e;subst e;simp [tb] at hb3
   have hS:outS bs d b=false:=by simp [outS,hd,hb]
   rw [hget hS] at hg
   cases hx:get G1 b with
   | none=>rw [hx] at hg;cases hg
   | some x=>
     rw [hx] at hg;cases hg
     exact .inr (.inr ⟨x,rfl,rfl,fun _=>hS,fun k hk=>⟨hbox k b hk,(hal k _ hk (by simp [hid,hb])).2⟩⟩)
 ·have cases2:∀ {k o},ownR bs d own1 own' k=some o→(own1 k=some o∧hid bs o=true∧lost d o=false)∨∃ x,own' k=some x∧fromOwn bs d x=some o:=by
   intro k o h
   simp only [ownR] at h
   split at h
   ·rename_i x hx
    split at h
    ·rename_i hh
     split at h
     ·cases h
     ·rename_i hl;cases h;exact .inl ⟨hx,hh,by simpa using hl⟩
    ·right
     obtain ⟨y,e1,e2⟩:=Option.bind_eq_some_iff.1 h
     exact ⟨y,e1,e2⟩
   ·right
    obtain ⟨y,e1,e2⟩:=Option.bind_eq_some_iff.1 h
    exact ⟨y,e1,e2⟩
  intro k k' o h h'
  rcases cases2 h with ⟨q1,q2,q3⟩ | ⟨x,q1,q2⟩<;>rcases cases2 h' with ⟨q1',q2',q3'⟩ | ⟨x',q1',q2'⟩
  ·exact s.one k k' o q1 q1'
  ·rcases zit q2' with e | e
   ·rw [e] at q2;cases q2
   ·rw [e] at q3;cases q3
  ·rcases zit q2 with e | e
   ·rw [e] at q2';cases q2'
   ·rw [e] at q3';cases q3'
  ·have:=fromOwn_inj hn h3 q2 q2'
   subst this
   exact ho.one k k' x q1 q1'
 ·intro k o h
  simp only [ownR] at h
  split at h
  ·rename_i x hx
   exact Nat.lt_of_lt_of_le (s.lt k x hx) tr.size
  ·obtain ⟨y,e1,e2⟩:=Option.bind_eq_some_iff.1 h
   exact ho.lt k y e1
end
end Go.Ev
namespace Go.Ev
open Go Go.RowKit
variable {P : Program}
theorem St.upos {nt:Nat} {G:Sta} {own:Own} {a:Act} {w w':World} (s:St P nt G own a w) {b o:Nat} {E:TypeId} {l l':List FV}
 (hl:look G b (some o)=some (.own E l)) (hlen:l'.length=l.length) (hsz:w.heap.size≤w'.heap.size) (hot:∀ j,j < w.heap.size→own j≠some (.sl b o)→w'.heap[j]?=w.heap[j]?)
 (hos:w'.os=w.os) (htp:w'.tape=w.tape) (hou:w'.output=w.output) (hnew:∀ {k n},OwnB P own w b o E k l n→OwnB P own w' b o E k l' n) :
 St P nt ((Up.upo b o (.own E l')).app G) own a w'∧Kp P G own w ((Up.upo b o (.own E l')).app G) own w':=by
 have hnil:l=[]→l'=[]:=fun h=>List.length_eq_zero_iff.1 (by rw [hlen,h];rfl)
 have ht:Tr own w own w':=by
  exact ⟨hsz,fun j hj hn=>⟨hn,hot j hj (by rw [hn];simp)⟩,hos,htp,hou,fun j x hn=>⟨hn,hot j (s.lt _ _ hn) (by rw [hn];simp)⟩,fun _ _ _ h=>h⟩
 have hblk:∀ {d p E' k' l' n},¬ (d=b∧p=o)→OwnB P own w d p E' k' l' n→OwnB P own w' d p E' k' l' n:=by
  intro d p E' k' l' n hn h
  refine h.mono ht h.1 (hot _ (s.lt _ _ h.1) ?_)
  rw [h.1];intro e;simp only [Option.some.injEq,Owner.sl.injEq] at e;exact hn e
 have K:Keep P G own w ((Up.upo b o (.own E l')).app G) own w' (fun v=>v) (fun d p=>¬ (d=b∧p=o)):=by
  refine ⟨kl_id,fun _ _=>rfl,ht,fun k c off h _=>h,fun _ _ _ _ _ _=>rfl,?_,?_,?_⟩
  ·intro d p i' n v _ h
   by_cases hdp:d=b∧p=o
   ·obtain ⟨rfl,rfl⟩:=hdp
    unfold SlV at h ⊢
    rw [zcI (v:=.own E l') rfl hl]
    rw [hl] at h
    obtain ⟨h1,a',c',h2,h3,h4⟩:=h
    refine ⟨by rw [hlen];exact h1,a',c',h2,h3,?_⟩
    rcases h4 with ⟨h5,h6,h7⟩ | ⟨k',h5,h6⟩
    ·exact .inl ⟨h5,hnil h6,h7⟩
    ·right
     exact ⟨k',h5,hnew h6⟩
   ·unfold SlV at h ⊢
    rw [zdu hdp]
    cases hg:look G d (some p) with
    | none=>trivial
    | some z=>
      rw [hg] at h
      cases z with
      | own E l=>
        obtain ⟨e1,a',c',e2,e3,e4⟩:=h
        refine ⟨e1,a',c',e2,e3,e4.imp id ?_⟩
        rintro ⟨k,e5,e6⟩
        exact ⟨k,e5,hblk hdp e6⟩
      | f x=>
        cases x with
        | sl l=>exact ⟨h.1,h.2.mono ht⟩
        | _=>trivial
      | _=>trivial
  ·intro d p i' n v _ h
   by_cases hdp:d=b∧p=o
   ·obtain ⟨rfl,rfl⟩:=hdp
    unfold EpV at h ⊢
    rw [zcI (v:=.own E l') rfl hl]
    rw [hl] at h
    obtain ⟨h1,k',cap',h2,h3⟩:=h
    exact ⟨by rw [hlen];exact h1,k',cap',h2,hnew h3⟩
   ·unfold EpV at h ⊢
    rw [zdu hdp]
    cases hg:look G d (some p) with
    | none=>trivial
    | some z=>
      rw [hg] at h
      cases z with
      | own E l=>
        obtain ⟨e1,k,cap,e2,e3⟩:=h
        exact ⟨e1,k,cap,e2,hblk hdp e3⟩
      | f x=>
        cases x with
        | sl l=>obtain ⟨x,e1,e2⟩:=h;exact ⟨x,e1,RC.fp_mono ht e2⟩
        | _=>trivial
      | _=>trivial
  ·rintro d p E' l' v hdp hg ⟨a',c',e1,e2,e3⟩
   refine ⟨a',c',e1,e2,e3.imp id ?_⟩
   rintro ⟨k,e4,e5⟩
   exact ⟨k,e4,hblk hdp e5⟩
 have leafcase:∀ {v:Value},RO P G own w b o (.own E l) v→RO P ((Up.upo b o (.own E l')).app G) own w' b o (.own E l') v:=by
  rintro v ⟨a',c',e1,e2,e3⟩
  refine ⟨a',c',by rw [hlen];exact e1,by rw [hlen];exact e2,?_⟩
  rcases e3 with ⟨h5,h6,h7⟩ | ⟨k',h5,h6⟩
  ·exact .inl ⟨h5,hnil h6,h7⟩
  ·right
   exact ⟨k',h5,hnew h6⟩
 obtain ⟨_,vb,hgb,hyb,hfb⟩:=zc8 hl
 refine ⟨s.step K s.size ?_ ?_ s.one (fun k o h=>Nat.lt_of_lt_of_le (s.lt k o h) hsz),K.kp⟩
 ·intro r v' hg
  by_cases hr:tb r=b
  ·subst hr
   simp only [Up.app,zao,if_true,hgb,Option.map_some,Option.some.injEq] at hg
   subst hg
   obtain ⟨u',hu,hrl⟩:=s.temps r vb hgb
   refine .inl ⟨u',hu,?_⟩
   rcases hfb with ⟨q,rfl⟩ | hfb
   ·obtain ⟨arr,e1,e2,e3⟩:=hrl
    refine ⟨arr,e1,by simpa using e2,fun j z v h3 h4=>?_⟩
    simp only [AV.leaves] at hyb
    simp only [AV.toLeaf,List.getElem?_set] at h3
    by_cases hj:o=j
    ·subst hj
     rw [if_pos rfl,if_pos (List.getElem?_eq_some_iff.1 hyb).1] at h3;cases h3
     exact leafcase (e3 o _ v hyb h4)
    ·rw [if_neg hj] at h3
     have hro:=e3 j z v h3 h4
     exact RO.keep K hro (zcn hgb h3 (zbq hro)) (fun e=>hj e.2.symm)
   ·have ex:vb.leaves=[vb]:=by cases vb<;>first | rfl | simp [AV.isLeaf] at hfb
    rw [ex] at hyb
    cases o with
    | succ o=>simp at hyb
    | zero=>
      simp at hyb;subst hyb
      exact leafcase hrl
  ·simp only [Up.app,zao,if_neg hr] at hg
   exact .inr ⟨v',hg,(zct v').symm,rfl,fun o' e=>hr e.1⟩
 ·intro d v' hd hg
  by_cases hdb:d=b
  ·subst hdb
   simp only [Up.app,zao,if_true,hgb,Option.map_some,Option.some.injEq] at hg
   subst hg
   have hm:isM d=false:=by
    cases hm:isM d with
    | false=>rfl
    | true=>
      obtain ⟨k',es',ck,e1,e2,e3⟩:=s.maps d vb hm hgb
      rcases e3 with rfl | ⟨L,rfl,_⟩<;>(cases o<;>simp [AV.leaves] at hyb)
   obtain ⟨k',arr,T,e1,e2,e3⟩:=s.boxes d vb hd hm hgb
   refine .inl ⟨hm,k',arr,T,e1,?_,?_⟩
   ·rw [hot _ (s.lt _ _ e1) (by rw [e1];simp)];exact e2
   ·refine ⟨by rw [zdl rfl hfb];exact e3.1,fun j z v h3 h4=>?_⟩
    rw [zbv rfl hfb] at h3
    by_cases hj:j=o
    ·subst hj
     rw [if_pos ⟨rfl,(List.getElem?_eq_some_iff.1 hyb).1⟩] at h3;cases h3
     exact leafcase (e3.2 j _ v hyb h4)
    ·rw [if_neg (fun e=>hj e.1)] at h3
     have hro:=e3.2 j z v h3 h4
     exact RO.keep K hro (by simp [look,hgb,h3,zbq hro]) (fun e=>hj e.2)
  ·simp only [Up.app,zao,if_neg hdb] at hg
   refine .inr (.inr ⟨v',hg,(zct v').symm,fun o' e=>hdb e.1,fun k' hk=>⟨hk,hot _ (s.lt _ _ hk) (by rw [hk];simp)⟩⟩)
theorem St.world {nt:Nat} {G:Sta} {own:Own} {a:Act} {w w':World} (s:St P nt G own a w) {b o:Nat} (hd:Dead G b o) (hsz:w.heap.size≤w'.heap.size)
 (hot:∀ j,j < w.heap.size→own j≠some (.sl b o)→w'.heap[j]?=w.heap[j]?) (hos:w'.os=w.os) (htp:w'.tape=w.tape) (hou:w'.output=w.output):St P nt G own a w'∧Tr own w own w':=by
 have t:Tr own w own w':=⟨hsz,fun j hj hn=>⟨hn,hot j hj (by rw [hn];simp)⟩,hos,htp,hou,fun j x hn=>⟨hn,hot j (s.lt _ _ hn) (by rw [hn];simp)⟩,fun _ _ _ h=>h⟩
 have hB:∀ {d p E k l n},look G d (some p)=some (.own E l)→OwnB P own w d p E k l n→OwnB P own w' d p E k l n:=by
  intro d p E k l n hl h
  refine h.mono t h.1 (hot k (s.lt _ _ h.1) ?_)
  rw [h.1]
  intro e;simp only [Option.some.injEq,Owner.sl.injEq] at e
  obtain ⟨rfl,rfl⟩:=e
  exact hd _ _ hl
 have K:Keep P G own w G own w' (fun v=>v) (fun _ _=>True):=by
  refine ⟨kl_id,fun _ _=>rfl,t,fun _ _ _ h _=>h,fun _ _ _ _ _ _=>rfl,?_,?_,?_⟩
  ·intro b o i n u _ h
   unfold SlV at h ⊢
   cases hg:look G b (some o) with
   | none=>trivial
   | some x=>
     rw [hg] at h
     cases x with
     | own E l=>
       obtain ⟨e1,a,c,e2,e3,e4⟩:=h
       exact ⟨e1,a,c,e2,e3,e4.imp id fun ⟨k,e5,e6⟩=>⟨k,e5,hB hg e6⟩⟩
     | f x=>cases x with
       | sl l=>exact ⟨h.1,h.2.mono t⟩
       | _=>trivial
     | _=>trivial
  ·intro b o i n u _ h
   unfold EpV at h ⊢
   cases hg:look G b (some o) with
   | none=>trivial
   | some x=>
     rw [hg] at h
     cases x with
     | own E l=>obtain ⟨e1,k,c,e2,e3⟩:=h;exact ⟨e1,k,c,e2,hB hg e3⟩
     | f x=>cases x with
       | sl l=>obtain ⟨x,e1,e2⟩:=h;exact ⟨x,e1,RC.fp_mono t e2⟩
       | _=>trivial
     | _=>trivial
  ·rintro b o E l u _ hl ⟨a,c,e1,e2,e3⟩
   exact ⟨a,c,e1,e2,e3.imp id fun ⟨k,e4,e5⟩=>⟨k,e4,hB hl e5⟩⟩
 exact ⟨s.step K s.size (fun r v h=>.inr ⟨v,h,(zct v).symm,rfl,fun _=>trivial⟩) (fun b v _ h=>.inr (.inr ⟨v,h,(zct v).symm,fun _=>trivial,fun k hk=>⟨hk,hot k (s.lt _ _ hk) (by rw [hk];simp)⟩⟩)) s.one
  (fun k o h=>Nat.lt_of_lt_of_le (s.lt k o h) hsz),t⟩
end Go.Ev
namespace Go.Ev
open Go Go.RowKit
variable {P : Program}
section
variable {nt : Nat} {G : Sta} {own : Own} {a : Act} {w : World}
theorem St.drawn (s:St P nt G own a w) (m:Nat):St P nt G own a { w with drawn:=m }∧Tr own w own { w with drawn:=m }:=by
 have t:Tr own w own { w with drawn:=m }:=⟨Nat.le_refl _,fun _ _ h=>⟨h,rfl⟩,rfl,rfl,rfl,fun _ _ h=>⟨h,rfl⟩,fun _ _ _ h=>h⟩
 have K:Keep P G own w G own { w with drawn:=m } (fun v=>v) (fun _ _=>True):=by
  refine ⟨kl_id,fun _ _=>rfl,t,fun _ _ _ h _=>h,fun _ _ _ _ _ _=>rfl,?_,?_,?_⟩
  ·intro b o i n u _ h
   unfold SlV at h ⊢
   cases hg:look G b (some o) with
   | none=>trivial
   | some x=>
     rw [hg] at h
     cases x with
     | own E l=>
       obtain ⟨e1,a,c,e2,e3,e4⟩:=h
       exact ⟨e1,a,c,e2,e3,e4.imp id fun ⟨k,e5,e6⟩=>⟨k,e5,e6.mono t e6.1 rfl⟩⟩
     | f x=>cases x with
       | sl l=>exact ⟨h.1,h.2.mono t⟩
       | _=>trivial
     | _=>trivial
  ·intro b o i n u _ h
   unfold EpV at h ⊢
   cases hg:look G b (some o) with
   | none=>trivial
   | some x=>
     rw [hg] at h
     cases x with
     | own E l=>obtain ⟨e1,k,c,e2,e3⟩:=h;exact ⟨e1,k,c,e2,e3.mono t e3.1 rfl⟩
     | f x=>cases x with
       | sl l=>obtain ⟨x,e1,e2⟩:=h;exact ⟨x,e1,RC.fp_mono t e2⟩
       | _=>trivial
     | _=>trivial
  ·rintro b o E l u _ _ ⟨a,c,e1,e2,e3⟩
   exact ⟨a,c,e1,e2,e3.imp id fun ⟨k,e4,e5⟩=>⟨k,e4,e5.mono t e5.1 rfl⟩⟩
 exact ⟨s.step K s.size (fun r v h=>.inr ⟨v,h,(zct v).symm,rfl,fun _=>trivial⟩) (fun b v _ h=>.inr (.inr ⟨v,h,(zct v).symm,fun _=>trivial,fun k hk=>⟨hk,rfl⟩⟩)) s.one s.lt,t⟩
end
structure WideF (P:Program) (F:Fence):Prop where
 fn:∀ f,F.fn f
 deep:F.depth.isSome=false
 calls:∀ m g vs w R,Calls P g vs w R→CallsIn F m P g vs w R
section
variable {CE : CEx} {c : Cfg} {G : Sta} {own : Own} {a : Act} {w : World} {T : List Acc} {next : Act → World → Prop}
variable {F : Fence} {n : Nat} {o : Oper} {Q : Exit → Act → World → Prop}
theorem callGo_sound (hCE:∀ g args outs r outs',CE g args outs r outs'→CallE P g args outs r outs') {U:List Up} {own1:Own} (s:St P c.nt (app U G) own1 a w) (ht:Tr own w own1 w)
 {g:FuncId} {d:Option Tmp} {args:List AV} {us:Array Value} {bs:List Nat} {cs:List AV}
 (hargs:args.length=us.size∧∀ (j:Nat) x u,args[j]?=some x→us[j]?=some u→R1 P (app U G) own1 w x u)
 (hl:bs.length=cs.length) (hcs:∀ (i:Nat) b v,bs[i]?=some b→cs[i]?=some v→get (app U G) b=some v)
 (h:(callGo c d g args U bs cs).wp CE G T (Kn P c.nt G own a w next)) :
 (∃ fn,P.funcs[g]?=some fn∧(fn.name == "runtime.NumGoroutine")=false∧fn.body.isNone=false)∧Calls P g us w fun e w'=>∃ u,e=.returned u∧next (a.put d u) w':=by
 unfold callGo at h
 split at h
 ·rename_i hcond
  obtain ⟨h1,h2,h3,hn,h5⟩:=hcond
  obtain ⟨r,outs,hce,h6⟩:=h
  obtain ⟨hf,hcall⟩:=hCE _ _ _ _ _ hce
  refine ⟨hf,?_⟩
  have h3':∀ b∈bs,b % 3≠1:=fun b hb=>by have:=List.all_eq_true.1 h3 b hb;simp at this;exact this.1
  have h3m:∀ b∈bs,isM b=false:=fun b hb=>by have:=List.all_eq_true.1 h3 b hb;simp at this;exact this.2
  have hmf:∀ b,bs.contains b=true→isM b=false→isM (toOut bs b)=false:=fun b _ _=>zgu _
  have hnn:∀ k,own1 k=none→ownC bs own1 k=none:=fun k hk=>by simp [ownC,hk]
  have hbx:∀ k b,bs.contains b=true→own1 k=some (.box b)→ownC bs own1 k=some (.box (toOut bs b)):=fun k b hb hk=>by
   simp only [ownC,hk,Option.map_some,toOwn];rw [if_pos hb]
  have hO:Outs P (ownC bs own1) w (cs.map (ren1 (toOut bs))):=by
   refine ⟨fun i v hv=>?_,fun k k' x e e'=>?_,fun k x e=>?_⟩
   ·rw [List.getElem?_map] at hv
    cases hi:cs[i]? with
    | none=>rw [hi] at hv;cases hv
    | some y=>
      rw [hi] at hv;cases hv
      have hlt:i < bs.length:=by have:=(List.getElem?_eq_some_iff.1 hi).1;omega
      obtain ⟨b,hb⟩:∃ b,bs[i]?=some b:=⟨bs[i],by simp⟩
      have hmem:=List.mem_of_getElem? hb
      obtain ⟨k,arr,TT,e1,e2,e3⟩:=s.boxes b y (h3' b hmem) (h3m b hmem) (hcs i b y hb hi)
      have hto:=zc6 hn hb
      refine ⟨k,arr,TT,by rw [← hto];exact hbx k b (by simpa using hmem) e1,e2,?_⟩
      refine ren_rb hnn hbx hmf ?_ e3 (List.all_eq_true.1 h2 y (List.mem_of_getElem? hi))
      intro k j hk
      simp only [ownC,hk,Option.map_some,toOwn]
      rw [if_pos (by simpa using hmem),hto]
   ·simp only [ownC] at e e'
    cases q:own1 k with
    | none=>rw [q] at e;cases e
    | some y=>
      cases q':own1 k' with
      | none=>rw [q'] at e';cases e'
      | some y'=>
        rw [q] at e;rw [q'] at e'
        simp only [Option.map_some,Option.some.injEq] at e e'
        have:=toOwn_inj hn e e'
        subst this
        exact s.one k k' y q q'
   ·simp only [ownC] at e
    cases q:own1 k with
    | none=>rw [q] at e;cases e
    | some y=>exact s.lt k y q
  have hA:Args P (ownC bs own1) w (args.map (ren1 (toOut bs))) us:=by
   refine ⟨by simpa using hargs.1,fun j x v e1 e2=>?_⟩
   rw [List.getElem?_map] at e1
   cases hj:args[j]? with
   | none=>rw [hj] at e1;cases e1
   | some y=>rw [hj] at e1;cases e1;exact ren_r1 hnn hbx hmf (hargs.2 j y v hj e2) (List.all_eq_true.1 h1 y (List.mem_of_getElem? hj))
  refine (hcall _ w us hO hA).mono ?_
  rintro e w' ⟨u,own',rfl,tr,ho,hr⟩
  refine ⟨u,rfl,?_⟩
  dsimp only at h6
  split at h6
  ·rename_i hcond
   obtain ⟨g1,g2,g3,g4⟩:=hcond
   obtain ⟨s2,t2⟩:=call_back s hl hcs h3' h3m hn h5 g1 g2 g3 g4 tr ho hr
   exact h6 _ _ w' (by rw [zam];exact s2) (ht.trans t2) (put_defers _ _ _)
  ·exact h6.elim
 ·exact h.elim
theorem run_call {f:Operand} {args:Array Operand} {ats:Array TypeId} {g:FuncId} {caps:Array Value} {fn:Func} (ho:o.op=.call { callee:=.value f,args,argTypes:=ats })
 (hv:a.eval f=.func (.func g) #[] caps) (hf:P.funcs[g]?=some fn) (hname:(fn.name == "runtime.NumGoroutine")=false) (hb:fn.body.isNone=false) :
 (execOp a.eval o).run P w=.ok (.enter g (args.map a.eval++caps)) w:=by
 simp only [execOp,ho,resolve,hv,Deferred.ofValue,Sem.run_bind,Sem.run_pure,Result.andThen_ok,invoke,Array.empty_append]
 simp only [beq_eq_false_iff_ne,ne_eq] at hname
 simp only [Option.isNone_eq_false_iff] at hb
 simp [callFunc,hf,hname,Option.isSome_iff_ne_none.1 hb]
theorem op_call (hCE:∀ g args outs r outs',CE g args outs r outs'→CallE P g args outs r outs') (hF:WideF P F) (s:St P c.nt G own a w) {f:Operand} {args:Array Operand} {ats:Array TypeId} (ho:o.op=.call { callee:=.value f,args,argTypes:=ats })
 (h:(rdO f fun v=>match v with
 | .clo g caps=>rdL args.toList fun l=>cps l fun l U=>callRM c o.dst g (l++caps) U
 | _=>.fail:RM).wp CE G T (Kn P c.nt G own a w next)):o.wpIn F n P a w next Q:=by
 obtain ⟨v,T1,h1,h2⟩:=zA s h
 split at h2
 ·rename_i g caps
  obtain ⟨vs,T2,h3,h4,h5⟩:=zfi s h2
  obtain ⟨xs,W,T3,own1,k1,k2,k3,k4,k5,k6⟩:=zhS (U:=[]) FrzOnly.nil s (us:=args.toList.map a.eval) ⟨by simp [h3],fun j v u e1 e2=>by
   rw [List.getElem?_map] at e2
   cases hj:args.toList[j]? with
   | none=>rw [hj] at e2;cases e2
   | some x=>rw [hj] at e2;cases e2;exact h4 j v x e1 hj⟩ h5
  simp only [List.nil_append] at k2 k3 k4 k6
  have k6:(gather 32 (addNew [] ((xs++caps).flatMap AV.ptrs)) [] fun bs cs=>callGo c o.dst g (xs++caps) W bs (frzAll W bs cs)).wp CE G T3 (Kn P c.nt G own a w next):=k6
  obtain ⟨bs,cs,T4,g1,g2,g3⟩:=zgv 32 k6 (fun i c h=>by simp at h)
  obtain ⟨z1,z2⟩:=zhH W bs cs g1
  have hclo:R0 P (app W G) own1 w (.clo g caps) (a.eval f):=k3.r0 _ _ h1
  obtain ⟨arr,a1,a2,a3⟩:=hclo
  have hus:(args.map a.eval++arr).size=args.size+arr.size:=by simp
  have hxl:xs.length=args.size:=by have:=k4.1;simpa using this
  obtain ⟨hf,hcall⟩:=callGo_sound hCE k2 k3.tr (us:=args.map a.eval++arr) (args:=xs++caps) ⟨by simp [hxl,a2],fun j x u e1 e2=>by
   by_cases hj:j < xs.length
   ·rw [List.getElem?_append_left hj] at e1
    rw [Array.getElem?_append_left (by simpa [← hxl] using hj)] at e2
    have hr:=k4.2 j x u e1 (by simpa using e2)
    have hp:=k5 x (List.mem_of_getElem? e1)
    cases x<;>first | exact hr | simp [AV.plain1,AV.plain0] at hp
   ·have hle:xs.length≤j:=by omega
    rw [List.getElem?_append_right hle] at e1
    rw [Array.getElem?_append_right (by simpa [← hxl] using hle)] at e2
    have hr:=a3 (j - xs.length) x u e1 (by simpa [hxl] using e2)
    cases x<;>first | exact hr | exact hr.elim⟩ (by rw [z1]) (fun i b v e1 e2=>by
   obtain ⟨y,q1,rfl⟩:=z2 i b v e1 e2
   obtain ⟨b',q2,q3⟩:=g2 i y q1
   rw [e1] at q2;cases q2
   exact get_frzs b k1 q3) g3
  obtain ⟨fn,f1,f2,f3⟩:=hf
  refine zeR hF.fn (by simp [ho]) ?_
  rw [run_call ho a1 f1 f2 f3,Oper.uponIn_enter]
  refine ⟨fun e=>(by rw [hF.deep] at e;cases e),(hF.calls _ _ _ _ _ hcall).mono ?_⟩
  rintro e w' ⟨u,rfl,hn⟩
  exact hn
 ·exact h2.elim
variable (P) in
def IpOk (g:FuncId) (f:List FV→Option (List FV)) (back:Bool):Prop:=
 (∃ fn,P.funcs[g]?=some fn∧(fn.name == "runtime.NumGoroutine")=false∧fn.body.isNone=false)∧
 ∀ own w b o E l l' u,f l=some l'→(∀ k o',own k=some o'→k < w.heap.size)→(∀ k k' o,own k=some o→own k'=some o→k=k')→OwnL P own w b o E l u→
   Calls P g #[u] w fun e w'=>∃ r,e=.returned r∧w.heap.size≤w'.heap.size∧(∀ j,j < w.heap.size→own j≠some (.sl b o)→w'.heap[j]?=w.heap[j]?)∧w'.os=w.os∧w'.tape=w.tape∧w'.output=w.output∧
    (if back=true then OwnL P own w' b o E l' r else r=.tuple #[]∧∀ k n,OwnB P own w b o E k l n→OwnB P own w' b o E k l' n)
theorem zis (s:St P c.nt G own a w) {g:FuncId} {f:List FV→Option (List FV)} {back:Bool} (hip:IpOk P g f back) {d:Option Tmp} {b q:Nat} {E:TypeId} {l:List FV} {u:Value}
 (hl:look G b (some q)=some (.own E l)) (hv:OwnL P own w b q E l u) (h:(ipGo c d f back b q E l).wp CE G T (Kn P c.nt G own a w next)) :
 Calls P g #[u] w fun e w'=>∃ r,e=.returned r∧next (a.put d r) w':=by
 unfold ipGo at h
 split at h
 ·rename_i l' hf
  refine (hip.2 own w b q E l l' u hf s.lt s.one hv).mono ?_
  rintro e w' ⟨r,rfl,h1,h2,h3,h4,h5,h6⟩
  refine ⟨r,rfl,?_⟩
  split at h
  ·rename_i hback
   rw [if_pos hback] at h6
   split at h
   ·rename_i t
    split at h
    ·rename_i hlt
     obtain ⟨s1,_⟩:=s.bad b q
     obtain ⟨s2,t2⟩:=s1.world (zfB G b q) h1 h2 h3 h4 h5
     obtain ⟨s3,t3⟩:=s2.set_move hlt (zfB G b q) h6
     exact h _ _ w' s3 (t2.trans t3) rfl
    ·exact h.elim
   ·exact h.elim
  ·rename_i hback
   rw [if_neg hback] at h6
   obtain ⟨rfl,h7⟩:=h6
   split at h
   ·rename_i hlen
    obtain ⟨s1,K1⟩:=s.upos hl hlen h1 h2 h3 h4 h5 (fun h=>h7 _ _ h)
    exact zK (U:=[.upo b q (.own E l')]) s1 K1.tr (v:=.tup []) ⟨#[],rfl,rfl,fun j x v h=>by simp at h⟩ h
   ·exact h.elim
 ·exact h.elim
theorem op_ip (hF:WideF P F) (s:St P c.nt G own a w) {g:FuncId} {f:List FV→Option (List FV)} {back:Bool} (hip:IpOk P g f back) {t:Tmp} {ats:Array TypeId} (ho:o.op=.call { callee:=.value (.func g),args:=#[.tmp t],argTypes:=ats })
 (h:(ipRM c o.dst f back t).wp CE G T (Kn P c.nt G own a w next)):o.wpIn F n P a w next Q:=by
 obtain ⟨fn,f1,f2,f3⟩:=hip.1
 have fin:(Calls P g #[a.eval (.tmp t)] w fun e w'=>∃ r,e=.returned r∧next (a.put o.dst r) w')→o.wpIn F n P a w next Q:=by
  intro hc
  refine zeR hF.fn (by simp [ho]) ?_
  rw [run_call (caps:=#[]) ho rfl f1 f2 f3,Oper.uponIn_enter]
  refine ⟨fun e=>(by rw [hF.deep] at e;cases e),(hF.calls _ _ _ _ _ (by simpa using hc)).mono ?_⟩
  rintro e w' ⟨u,rfl,hn⟩
  exact hn
 obtain ⟨v,T1,h1,h2⟩:=za1 h
 have hr:=s.temp h1
 split at h2
 ·rename_i b q i m
  obtain ⟨y,T2,h3,h4⟩:=za1 h2
  split at h4
  ·rename_i E l
   split at h4
   ·rename_i hcond
    obtain ⟨rfl,rfl⟩:=hcond
    have hown:=(zeT h3 hr).2
    rw [List.take_length] at hown
    exact fin (zis s hip h3 hown h4)
   ·exact h4.elim
  ·exact h4.elim
 ·rename_i E l
  exact fin (zis s hip (zcU h1 rfl) hr h2)
 ·exact h2.elim
variable (P) in
def GrOk (g:FuncId) (E:TypeId):Prop:=
 (∃ fn,P.funcs[g]?=some fn∧(fn.name == "runtime.NumGoroutine")=false∧fn.body.isNone=false)∧
 ∀ w (n:Int),0≤n→n≤2 ^ 40→Calls P g #[.slice none 0 0,.int .i64 n] w fun e w'=>
   (e=.returned (.slice none 0 0)∧w'=w)∨∃ cap arr m,e=.returned (.slice (some ⟨w.heap.size,0,none⟩) 0 cap)∧w'=({ w with drawn:=m }:World).alloc (.cells arr E)∧cap * esz P E≤arr.size
variable (P) in
def IpsOk (c:Cfg):Prop:=(∀ g f back,c.ip g=some (f,back)→IpOk P g f back)∧(∀ g E,c.gr g=some E→GrOk P g E)∧EqsOk P c
theorem op_grow (hF:WideF P F) (s:St P c.nt G own a w) {g:FuncId} {E:TypeId} (hgr:GrOk P g E) {y:Operand} {ats:Array TypeId} (ho:o.op=.call { callee:=.value (.func g),args:=#[.const (.slice none 0 0),y],argTypes:=ats })
 (h:(rdO y (growRM c o.dst E)).wp CE G T (Kn P c.nt G own a w next)):o.wpIn F n P a w next Q:=by
 obtain ⟨fn,f1,f2,f3⟩:=hgr.1
 obtain ⟨v,T1,h1,h2⟩:=zA s h
 unfold growRM at h2
 split at h2
 ·rename_i n
  split at h2
  ·rename_i hn
   have hv:a.eval y=.int .i64 n:=zbn (P:=P) (G:=G) (own:=own) (w:=w) h1
   refine zeR hF.fn (by simp [ho]) ?_
   rw [run_call (caps:=#[]) ho rfl f1 f2 f3,Oper.uponIn_enter]
   refine ⟨fun e=>(by rw [hF.deep] at e;cases e),(hF.calls _ _ _ _ _ ?_)⟩
   have hargs:(#[Operand.const (.slice none 0 0),y].map a.eval++#[]:Array Value)=#[.slice none 0 0,.int .i64 n]:=by
    have e1:(#[Operand.const (.slice none 0 0),y].map a.eval:Array Value)=#[a.eval (.const (.slice none 0 0)),a.eval y]:=by simp
    rw [e1,hv];rfl
   rw [hargs]
   refine (hgr.2 w n hn.1 hn.2).mono ?_
   rintro e w' (⟨rfl,rfl⟩ | ⟨cap,arr,m,rfl,rfl,hcap⟩)
   ·cases hd:o.dst with
    | none=>rw [hd] at h2;exact h2.elim
    | some t=>
      rw [hd] at h2
      unfold finNew at h2
      dsimp only at h2
      by_cases hlt:t < c.nt
      ·rw [if_pos hlt] at h2
       refine (show Kn P c.nt G own a w' next [.set (tb t) (.own E [])] T1 from h2) own _ _ ?_ (Tr.refl _ _) rfl
       exact (s.set_pure hlt (show OwnL P own _ (tb t) 0 E [] _ from ⟨none,0,rfl,Nat.le_refl _,.inl ⟨rfl,rfl,rfl⟩⟩))
      ·rw [if_neg hlt] at h2;exact h2.elim
   ·obtain ⟨s1,t1⟩:=s.drawn m
    exact zc0 (c:=c) (w:={ w with drawn:=m }) (U:=[]) (l:=[]) (cap:=cap) (arr:=arr) (G:=G) (own:=own) (own':=own) s1 (Tr.refl _ _) (n0:=w.heap.size) (Nat.le_refl _) (by simp) (fun k hk=>zaI _ _ hk) rfl rfl rfl (zaY _ _) (Nat.zero_le _) hcap (fun x hx=>by cases hx) (fun i x j y h=>by simp at h)
     (show (finNew c o.dst [] E []).wp CE G T1 (Kn P c.nt G own a { w with drawn:=m } next) from RM.wp_mono (fun U' T' hk own' a' w' s' t' d'=>hk own' a' w' s' (t1.trans t') d') _ _ h2)
  ·exact h2.elim
 ·exact h2.elim
theorem op_calls (hip:IpsOk P c) (hCE:∀ g args outs r outs',CE g args outs r outs'→CallE P g args outs r outs') (hF:WideF P F) (s:St P c.nt G own a w) {f:Operand} {args:Array Operand} {ats:Array TypeId} (ho:o.op=.call { callee:=.value f,args,argTypes:=ats })
 (h:(match ipOf c f args.toList with
 | some (_,f,back,t)=>ipRM c o.dst f back t
 | none=>match grOf c f args.toList with
   | some (_,E,y)=>rdO y (growRM c o.dst E)
   | none=>rdO f fun v=>match v with
     | .clo g caps=>rdL args.toList fun l=>cps l fun l U=>callRM c o.dst g (l++caps) U
     | _=>.fail:RM).wp CE G T (Kn P c.nt G own a w next)):o.wpIn F n P a w next Q:=by
 split at h
 ·rename_i g f' back t hq
  unfold ipOf at hq
  split at hq
  ·rename_i g' t' hargs
   simp only [Option.map_eq_some_iff] at hq
   obtain ⟨⟨f2,b2⟩,h1,h2⟩:=hq
   simp only [Prod.mk.injEq] at h2
   obtain ⟨rfl,rfl,rfl,rfl⟩:=h2
   have:args=#[.tmp t']:=by cases args with | mk l=>simp at hargs;rw [hargs]
   rw [this] at ho
   exact op_ip hF s (hip.1 _ _ _ h1) ho h
  ·cases hq
 ·split at h
  ·rename_i x hq
   unfold grOf at hq
   split at hq
   ·rename_i y2 hargs hz
    simp only [Option.map_eq_some_iff] at hq
    obtain ⟨E',h1,h2⟩:=hq
    have hx:args=#[.const (.slice none 0 0),y2]:=by cases args with | mk l=>simp at hargs;rw [hargs]
    simp only [Prod.mk.injEq] at h2
    obtain ⟨e1,e2,e3⟩:=h2
    rw [hx] at ho
    rw [← e2,← e3] at h
    exact op_grow hF s (hip.2.1 _ _ h1) ho h
   ·cases hq
  ·exact op_call hCE hF s ho h
end
end Go.Ev
namespace Go.Ev
open Go Go.RowKit
variable {P : Program}
section
variable {CE : CEx} {c : Cfg} {G : Sta} {own : Own} {a : Act} {w : World} {T : List Acc} {next : Act → World → Prop}
variable {F : Fence} {n : Nat} {o : Oper} {Q : Exit → Act → World → Prop}
theorem run_copy {E T1 T2 ty:TypeId} {v:Value} {base:Option Addr} {len cap sz m:Nat} {us:List Value} (hun1:P.underlying T1=some (.slice E)) (hszE:(sizeOf E).run P w=.ok sz w)
 (hl:(Builtin.lenOf v).run P w=.ok m w) (hf:(Builtin.firstCells sz (Nat.min m len) v).run P w=.ok us.toArray w) :
 (Builtin.copy_ #[T1,T2] ty #[.slice base len cap,v]).run P w=(match base with | some a=>((storeCells a us).run P w).andThen fun _ w=>.ok (goInt (Nat.min m len)) w | none=>.ok (goInt (Nat.min m len)) w):=by
 cases base<;>simp [Builtin.copy_,run_underlying hun1,hszE,hl,hf]
theorem zgA (hc:CfgOk P c) {E T1 T2 ty:TypeId} {i i1:TI} (hE:c.ti E=some i) (h1:c.ti T1=some i1) (hd1:i1.desc=.slice E) (hsz:0 < i.size) (s:St P c.nt G own a w) {d:Option Tmp} {b q:Nat} {l:List FV} {v:AV} {u uv:Value}
 (hl:look G b (some q)=some (.own E l)) (hu:OwnL P own w b q E l u) (hv:RV P G own w v uv) (h:(copyGo c d E i b q l v).wp CE G T (Kn P c.nt G own a w next)) :
 ∃ r w',(Builtin.copy_ #[T1,T2] ty #[u,uv]).run P w=.ok r w'∧next (a.put d r) w':=by
 have hun1:P.underlying T1=some (.slice E):=by rw [← hd1];exact (hc T1 _ h1).und
 have hszE:(sizeOf E).run P w=.ok i.size w:=(hc E _ hE).run_size w
 have hesz:esz P E=i.size:=(hc E _ hE).cells
 unfold copyGo at h
 split at h
 ·rename_i m
  split at h
  ·rename_i hfit
   have hrf:RF own w (.sl m) uv:=hv.2
   obtain ⟨a0,c0,rfl⟩:∃ a0 c0,uv=.slice a0 m.length c0:=by
    cases hrf with
    | sl l a n c ad sz hn=>subst hn;exact ⟨_,_,rfl⟩
   obtain ⟨a',cap,rfl,hcap,hB⟩:=hu
   obtain ⟨N,hN⟩:∃ N,N=Nat.min m.length l.length:=⟨_,rfl⟩
   have hNm:N≤m.length:=by rw [hN];exact Nat.min_le_left _ _
   have hNl:N≤l.length:=by rw [hN];exact Nat.min_le_right _ _
   have htl:(m.take N).length=N:=by simp [hNm]
   obtain ⟨us,a2,c2,e0,hus,hf,hone,hcells⟩:=zhe (P:=P) hsz (rf_take hrf hNm) (List.all_eq_true.2 fun x hx=>List.all_eq_true.1 hfit x (List.mem_of_mem_take hx))
   rw [htl] at hus hf
   have hf1:(Builtin.firstCells i.size (Nat.min m.length l.length) (.slice a0 m.length c0)).run P w=.ok us.toArray w:=by
    rw [← hN]
    have:=hf w fun _=>rfl
    cases a0<;>exact this
   have hrun:=run_copy (P:=P) (T2:=T2) (ty:=ty) (base:=a') (cap:=cap) hun1 hszE (hl:=(show (Builtin.lenOf (.slice a0 m.length c0)).run P w=.ok m.length w from rfl)) hf1
   rw [hrun]
   have hlen:(m.take l.length++l.drop m.length).length=l.length:=by simp;omega
   have hget:∀ i:Nat,(m.take l.length++l.drop m.length)[i]?=if i < N then m[i]? else l[i]?:=by
    intro i
    rw [List.getElem?_append]
    simp only [List.length_take,List.getElem?_take,List.getElem?_drop]
    have hN2:N=min l.length m.length:=by rw [hN];exact Nat.min_comm _ _
    rw [← hN2]
    by_cases hi:i < N
    ·rw [if_pos hi,if_pos hi,if_pos (by omega)]
    ·rw [if_neg hi,if_neg hi]
     by_cases hml:m.length≤l.length
     ·have:N=m.length:=by omega
      rw [this,show m.length+(i - m.length)=i by omega]
     ·rw [List.getElem?_eq_none (by omega),List.getElem?_eq_none (by omega)]
   have hgo:goInt (Nat.min m.length l.length)=.int .i64 ((min m.length l.length:Nat):Int):=rfl
   rcases hB with ⟨rfl,rfl,rfl⟩ | ⟨k,rfl,hB⟩
   ·obtain ⟨s1,K1⟩:=s.upos (w':=w) (l':=m.take ([]:List FV).length++([]:List FV).drop m.length) hl hlen (Nat.le_refl _) (fun _ _ _=>rfl) rfl rfl rfl (fun h=>by simpa using h)
    refine ⟨_,w,rfl,?_⟩
    rw [hgo]
    exact zK (U:=[.upo b q _]) s1 K1.tr (v:=.f (.pv _)) ⟨rfl,.pv _ rfl⟩ h
   ·obtain ⟨hk,arr,e2,e3,e4,e5⟩:=hB
    have hin:us.length≤arr.size:=by
     rw [hus]
     refine Nat.le_trans (Nat.mul_le_mul_right _ (Nat.le_trans hNl hcap)) ?_
     rw [← hesz];exact e3
    have hst:=run_storeCells_at (P:=P) k 0 E us 0 arr w e2 (by simpa using hin) hone
    obtain ⟨arr2,harr2⟩:∃ arr2,arr2=(arr.toList.take 0++us++arr.toList.drop (0+us.length)).toArray:=⟨_,rfl⟩
    rw [show (0:Nat)+0=0 from rfl,← harr2] at hst
    have hga:∀ p,arr2[p]?=if p < us.length then us[p]? else arr[p]?:=by
     intro p
     rw [harr2]
     simp only [List.getElem?_toArray,List.take_zero,List.nil_append,List.getElem?_append,Nat.zero_add]
     by_cases h1:p < us.length
     ·rw [if_pos h1,if_pos h1]
     ·rw [if_neg h1,if_neg h1,List.getElem?_drop,show us.length+(p - us.length)=p by omega];simp
    have hsize:arr2.size=arr.size:=by
     rw [harr2];simp;omega
    have hw2:=setRow_heap w k arr arr2 E (0,0) e2
    have hother:∀ j,j≠k→(w.setRow k arr2).heap[j]?=w.heap[j]?:=by
     intro j hj
     simp only [World.setRow,Array.getElem?_modify]
     rw [if_neg (fun e=>hj e.symm)]
    have hsz2:(w.setRow k arr2).heap.size=w.heap.size:=by simp [World.setRow]
    have hot:∀ j,j < w.heap.size→own j≠some (.sl b q)→(w.setRow k arr2).heap[j]?=w.heap[j]?:=fun j _ hj=>hother j (fun e=>hj (by rw [e];exact hk))
    have ht:Tr own w own (w.setRow k arr2):=
     ⟨by rw [hsz2];exact Nat.le_refl _,fun j hj hn=>⟨hn,hot j hj (by rw [hn];simp)⟩,rfl,rfl,rfl,fun j x hn=>⟨hn,hot j (s.lt _ _ hn) (by rw [hn];simp)⟩,fun _ _ _ h=>h⟩
    obtain ⟨s1,K1⟩:=s.upos (w':=w.setRow k arr2) (l':=m.take l.length++l.drop m.length) hl hlen (by rw [hsz2];exact Nat.le_refl _) hot rfl rfl rfl (fun {k' n'} hB'=>by
     obtain ⟨hk',arr',f2,f3,f4,f5⟩:=hB'
     obtain rfl:=s.one k' k _ hk' hk
     rw [e2] at f2
     cases f2
     refine ⟨hk,arr2,hw2,by rw [hsize];exact f3,?_,?_⟩
     ·intro x hx
      rcases List.mem_append.1 hx with hx | hx
      ·rw [hesz];exact (zca (List.all_eq_true.1 hfit x (List.mem_of_mem_take hx))).1
      ·exact e4 x (List.mem_of_mem_drop hx)
     ·intro i' x j y g1 g2
      rw [hget] at g1
      split at g1
      ·rename_i hi
       have g1':(m.take N)[i']?=some x:=by rw [List.getElem?_take,if_pos hi];exact g1
       obtain ⟨v,q1,q2⟩:=hcells i' x j y g1' g2
       refine ⟨v,?_,q2.mono ht⟩
       rw [hga,hesz,if_pos (List.getElem?_eq_some_iff.1 q1).1];exact q1
      ·rename_i hi
       obtain ⟨v,q1,q2⟩:=e5 i' x j y g1 g2
       refine ⟨v,?_,q2.mono ht⟩
       rw [hga,if_neg,q1]
       rw [hesz,hus]
       have:N * i.size≤i' * i.size:=Nat.mul_le_mul_right _ (by omega)
       omega)
    refine ⟨goInt (Nat.min m.length l.length),w.setRow k arr2,by simp only [hst,Result.andThen_ok],?_⟩
    rw [hgo]
    exact zK (U:=[.upo b q _]) s1 K1.tr (v:=.f (.pv _)) ⟨rfl,.pv _ rfl⟩ h
  ·exact h.elim
 ·exact h.elim
theorem op_copy (hc:CfgOk P c) (hF:∀ f,F.fn f) (s:St P c.nt G own a w) {x y:Operand} {t t2:TypeId} (ho:o.op=.call { callee:=.builtin .copy,args:=#[x,y],argTypes:=#[t,t2] })
 (h:(rdO y fun v=>copyRM c o.dst t x v).wp CE G T (Kn P c.nt G own a w next)):o.wpIn F n P a w next Q:=by
 obtain ⟨v,T1,h1,h2⟩:=zA s h
 have fin:(∃ r w',(Builtin.copy_ #[t,t2] o.type #[a.eval x,a.eval y]).run P w=.ok r w'∧next (a.put o.dst r) w')→o.wpIn F n P a w next Q:=by
  rintro ⟨r,w',r1,r2⟩
  refine zD hF (by simp [ho]) (u:=r) (w':=w') ?_ r2
  simp only [execOp,ho,resolve,Sem.run_bind]
  simp [invoke,builtin,r1]
 unfold copyRM at h2
 split at h2
 ·rename_i E sz0 by0 z0 hti
  split at h2
  ·rename_i i hE
   split at h2
   ·rename_i hsz
    unfold copyTo at h2
    split at h2
    ·rename_i tt
     obtain ⟨yy,T2,h3,h4⟩:=za1 h2
     have hr:=s.temp h3
     split at h4
     ·rename_i b q j m
      obtain ⟨yy,T3,h5,h6⟩:=za1 h4
      split at h6
      ·rename_i E' l
       split at h6
       ·rename_i hcond
        obtain ⟨rfl,rfl,rfl⟩:=hcond
        have hown:=(zeT h5 hr).2
        rw [List.take_length] at hown
        exact fin (zgA hc hE hti rfl hsz s h5 hown h1 h6)
       ·exact h6.elim
      ·exact h6.elim
     ·rename_i E' l
      split at h4
      ·rename_i hEE;subst hEE
       exact fin (zgA hc hE hti rfl hsz s (zcU h3 rfl) hr h1 h4)
      ·exact h4.elim
     ·exact h4.elim
    ·exact h2.elim
   ·exact h2.elim
  ·exact h2.elim
 ·exact h2.elim
end
end Go.Ev
namespace Go.Ev
open Go Go.RowKit
variable {P : Program}
section
variable {CE : CEx} {c : Cfg} {G : Sta} {own : Own} {a : Act} {w : World} {T : List Acc} {next : Act → World → Prop}
variable {F : Fence} {n : Nat} {o : Oper} {Q : Exit → Act → World → Prop}
theorem zeG {α β:Type} {f:α→β→Sem (ForInStep β)} {g:β→α→β}:∀ (l:List α) (b:β),(∀ x∈l,∀ b,(f x b).run P w=.ok (.yield (g b x)) w)→(forIn l b f).run P w=.ok (l.foldl g b) w
 | [],b,_=>by rw [List.forIn_nil];rfl
 | x :: l,b,h=>by
   rw [List.forIn_cons,Sem.run_bind,h x (List.mem_cons_self ..) b]
   exact zeG l (g b x) fun y hy=>h y (List.mem_cons_of_mem _ hy)
def byteV:Value→UInt8
 | .int .u8 n=>UInt8.ofNat n.toNat
 | _=>0
theorem ziu:∀ (us:List Value) (s:ByteArray),us.foldl (fun s v=>s.push (byteV v)) s=⟨s.data++(us.map byteV).toArray⟩
 | [],s=>by simp
 | v :: us,s=>by
   rw [List.foldl_cons,ziu us]
   cases s
   simp [ByteArray.push]
theorem zfY {ad:Addr} {len cap:Nat} {us:List Value} (hl:(loadCells ad len).run P w=.ok us.toArray w) (hb:∀ v∈us,∃ n,v=.int .u8 n) :
 (Conv.bytesToString (.slice (some ad) len cap)).run P w=.ok (.string ⟨(us.map byteV).toArray⟩) w:=by
 unfold Conv.bytesToString
 simp only [Sem.run_bind,hl,Result.andThen_ok]
 rw [← Array.forIn_toList,zeG (g:=fun s v=>s.push (byteV v))]
 ·simp only [Result.andThen_ok,ziu]
  simp
 ·intro x hx b
  obtain ⟨n,rfl⟩:=hb x (by simpa using hx)
  rfl
theorem zfX (e:TypeId) (s:ByteArray):∃ cap w',(Conv.stringToBytes e s).run P w=.ok (.slice (some ⟨w.heap.size,0,none⟩) s.size cap) w'∧s.size≤cap∧w.heap.size < w'.heap.size∧(∀ j,j < w.heap.size→w'.heap[j]?=w.heap[j]?)∧
 w'.os=w.os∧w'.tape=w.tape∧w'.output=w.output∧∃ arr fr,w'.heap[w.heap.size]?=some (.cells arr e fr)∧∀ (j:Nat) b,s.data.toList[j]?=some b→arr[j]?=some (.int .u8 b.toNat):=by
 unfold Conv.stringToBytes markStringish
 simp only [Sem.run_bind,run_choose,Question.forced,World.drew_eq,newRow,run_newObj,Sem.run_pure,Result.andThen_ok,World.alloc_eq,World.size_drew]
 have hsh:∀ (r:Nat) (w:World),(shape r).run P w=.ok (w.shape? r) w:=fun _ _=>rfl
 have hfr:∀ (x:Addr) (n:Nat) (w:World),(freeze x n).run P w=.ok () (w.freeze x n):=fun _ _ _=>rfl
 simp only [Bool.false_eq_true,if_false,Result.andThen_ok,World.size_drew,hsh]
 obtain ⟨cap,hcap⟩:∃ cap,cap=(Question.appendCap s.size 0 e).cut (w.tape w.drawn (Question.appendCap s.size 0 e)):=⟨_,rfl⟩
 rw [← hcap]
 obtain ⟨arr,harr⟩:∃ arr,arr=Array.map (fun b:UInt8=>Value.int IntKind.u8 ↑b.toNat) s.data++Array.replicate (cap - s.size) (Value.int IntKind.u8 0):=⟨_,rfl⟩
 rw [← harr]
 have hheap:(w.drew.alloc (Obj.cells arr e)).heap=w.heap.push (Obj.cells arr e):=rfl
 have hshape:(w.drew.alloc (Obj.cells arr e)).shape? w.heap.size=some (e,arr.size):=by
  simp [World.shape?,hheap]
 rw [hshape]
 simp only [hfr,Result.andThen_ok]
 have hf:((w.drew.alloc (Obj.cells arr e)).freeze ⟨w.heap.size,arr.size,none⟩ 1).heap=(w.heap.push (Obj.cells arr e)).modify w.heap.size fun
  | .cells c elem (lo,hi)=>.cells c elem (if lo == hi then (arr.size,arr.size+1) else (min lo arr.size,max hi (arr.size+1)))
  | o=>o:=rfl
 refine ⟨cap,_,rfl,?_,?_,fun j hj=>?_,rfl,rfl,rfl,arr,(arr.size,arr.size+1),?_,fun j b hb=>?_⟩
 ·rw [hcap];simp only [Question.cut];omega
 ·rw [hf];simp
 ·rw [hf,Array.getElem?_modify,if_neg (by omega),Array.getElem?_push,if_neg (by omega)]
 ·rw [hf,Array.getElem?_modify,if_pos rfl,Array.getElem?_push,if_pos rfl];rfl
 ·have hj:j < s.data.size:=by have:=(List.getElem?_eq_some_iff.1 hb).1;simpa using this
  rw [harr,Array.getElem?_append_left (by simpa using hj),Array.getElem?_map]
  have:s.data[j]?=some b:=by simpa using hb
  rw [this];rfl
theorem toStr_sound (hc:CfgOk P c) (s:St P c.nt G own a w) {t t' e:TypeId} {d:Option Tmp} {v:AV} {u:Value} (hk:cvKind c t t'=.str e) (hu:isU8 c e=true) (hv:RV P G own w v u)
 (h:(toStrGo c d v).wp CE G T (Kn P c.nt G own a w next)):∃ r w',(convert t t' u).run P w=.ok r w'∧next (a.put d r) w':=by
 have hl:=cp1_leaf h
 obtain ⟨y,W,T2',own2,k1,k2,k3,k4,k5,k6,rfl⟩:=zcN (U:=[]) FrzOnly.nil s (zgU hv hl) h
 simp only [List.nil_append] at k2 k3 k4
 unfold cvKind at hk
 split at hk
 ·rename_i hs ht
  cases hk
  have hue:∀ w,(underlying e).run P w=.ok (.int .u8) w:=by
   unfold isU8 at hu
   split at hu
   ·rename_i he
    exact (hc e _ he).run_und
   ·cases hu
  split at k6
  ·rename_i m
   split at k6
   ·rename_i hall
    have hrf:RF (frzsOwn W own) w (.sl m) u:=k4.2
    have hfit:m.all (FV.fits 1)=true:=List.all_eq_true.2 fun x hx=>by
     have:=List.all_eq_true.1 hall x hx
     unfold isByteF at this
     split at this
     ·rfl
     ·cases this
    have hnil:∀ c',u=.slice none m.length c'→m=[]:=by
     intro c' e'
     subst e'
     cases hrf with
     | sl l a n c ad sz hn hc ha=>
       refine Classical.byContradiction fun hne=>?_
       have:=(ha hne).1
       cases this
    obtain ⟨us,a',c',rfl,hus,hf,hone,hcells⟩:=zhe (P:=P) (Nat.lt_succ_self 0) hrf hfit
    have hrun:(convert t t' (.slice a' m.length c')).run P w=.ok (.string (bytesT m)) w:=by
     simp only [convert,Sem.run_bind,(hc t _ hs).run_und,(hc t' _ ht).run_und,Result.andThen_ok,hue]
     cases a' with
     | none=>
       have:=hnil c' rfl
       subst this
       rfl
     | some ad=>
       have hld:(loadCells ad m.length).run P w=.ok us.toArray w:=by
        have:=hf w fun _=>rfl
        simpa [Builtin.firstCells] using this
       have hval:∀ (i:Nat) x,us[i]?=some x→∃ n,x=.int .u8 n∧m[i]?=some (.pv (.int .u8 n)):=by
        intro i x hx
        have hi:i < m.length:=by have:=(List.getElem?_eq_some_iff.1 hx).1;omega
        have hb:=List.all_eq_true.1 hall m[i] (List.getElem_mem hi)
        have hmi:m[i]?=some m[i]:=List.getElem?_eq_getElem hi
        unfold isByteF at hb
        split at hb
        ·rename_i n hn
         rw [hn] at hmi
         obtain ⟨v,h1,h2⟩:=hcells i _ 0 (.pv (.int .u8 n)) hmi rfl
         rw [Nat.mul_one,Nat.add_zero,hx] at h1
         cases h1
         cases h2
         exact ⟨n,rfl,hmi⟩
        ·cases hb
       rw [zfY hld fun x hx=>by
        obtain ⟨i,hi,rfl⟩:=List.mem_iff_getElem.1 hx
        obtain ⟨n,h1,_⟩:=hval i _ (List.getElem?_eq_getElem hi)
        exact ⟨n,h1⟩]
       congr 2
       unfold bytesT
       congr 2
       refine List.ext_getElem? fun i=>?_
       rw [List.getElem?_map,List.getElem?_map]
       cases hx:us[i]? with
       | none=>
         have:m.length≤i:=by have:=List.getElem?_eq_none_iff.1 hx;omega
         rw [List.getElem?_eq_none this];rfl
       | some x=>
         obtain ⟨n,rfl,h2⟩:=hval i x hx
         rw [h2];rfl
    exact ⟨_,w,hrun,zK k2 k3.tr (zax rfl) k6⟩
   ·exact k6.elim
  ·exact k6.elim
 ·cases hk
 ·cases hk
theorem toBytes_sound (hc:CfgOk P c) (s:St P c.nt G own a w) {t t' e:TypeId} {d:Option Tmp} {v:AV} {u:Value} (hk:cvKind c t t'=.bytes e) (hu:isU8 c e=true) (hv:RV P G own w v u)
 (h:(toBytesGo c d v).wp CE G T (Kn P c.nt G own a w next)):∃ r w',(convert t t' u).run P w=.ok r w'∧next (a.put d r) w':=by
 unfold cvKind at hk
 split at hk
 ·cases hk
 ·rename_i hs ht
  cases hk
  have hue:∀ w,(underlying e).run P w=.ok (.int .u8) w:=by
   unfold isU8 at hu
   split at hu
   ·rename_i he
    exact (hc e _ he).run_und
   ·cases hu
  unfold toBytesGo at h
  split at h
  ·rename_i str
   have:=zbn hv
   subst this
   obtain ⟨cap,w',h1,h2,h3,h4,h5,h6,h7,arr,fr,h8,h9⟩:=zfX (P:=P) (w:=w) e str
   have hrun:(convert t t' (.string str)).run P w=.ok (.slice (some ⟨w.heap.size,0,none⟩) str.size cap) w':=by
    simp only [convert,Sem.run_bind,(hc t _ hs).run_und,(hc t' _ ht).run_und,Result.andThen_ok,hue]
    exact h1
   obtain ⟨b,hb⟩:=fresh_key G
   obtain ⟨s2,t2⟩:=s.world (b:=b) (o:=0) (fun E l hl=>by simp [look,hb] at hl) (Nat.le_of_lt h3) (fun j hj _=>h4 j hj) h5 h6 h7
   suffices hR:RV P G own w' (.f (.sl (List.map zae (bytesOf str)))) (.slice (some ⟨w.heap.size,0,none⟩) str.size cap) from ⟨_,w',hrun,zK (U:=[]) s2 t2 hR h⟩
   refine ⟨rfl,?_⟩
   have hlen:(List.map zae (bytesOf str)).length=str.size:=by simp [bytesOf]
   have hown:own w.heap.size=none:=by
    cases ho:own w.heap.size with
    | none=>rfl
    | some x=>exact absurd (s.lt _ _ ho) (Nat.lt_irrefl _)
   have hel:∀ (i:Nat) x (j:Nat) y,(List.map zae (bytesOf str))[i]?=some x→x.cells[j]?=some y→∃ b:UInt8,j=0∧y=.pv (.int .u8 b.toNat)∧w'.cell? ⟨w.heap.size,0+(i * 1+j),none⟩=some (.int .u8 b.toNat):=by
    intro i x j y e1 e2
    rw [bytesOf,List.map_map,List.getElem?_map] at e1
    cases hb:str.data.toList[i]? with
    | none=>rw [hb] at e1;cases e1
    | some b=>
      rw [hb] at e1;cases e1
      cases j with
      | succ j=>simp [zae,FV.cells] at e2
      | zero=>
        simp [zae,FV.cells] at e2
        refine ⟨b,rfl,e2.symm,?_⟩
        simp only [World.cell?,h8,Nat.mul_one,Nat.add_zero,Nat.zero_add]
        exact h9 i b hb
   refine RF.sl _ _ _ _ ⟨w.heap.size,0,none⟩ 1 hlen.symm h2 (fun _=>⟨rfl,rfl,hown,h3⟩) ?_ ?_ ?_
   ·intro x hx
    obtain ⟨n,-,rfl⟩:=List.mem_map.1 hx
    rfl
   ·intro i x j y e1 e2
    obtain ⟨b,-,-,e3⟩:=hel i x j y e1 e2
    exact ⟨_,e3⟩
   ·intro i x j y v e1 e2 e3
    obtain ⟨b,-,rfl,e4⟩:=hel i x j y e1 e2
    rw [e4] at e3;cases e3
    exact .pv _ rfl
  ·exact h.elim
 ·cases hk
theorem op_conv (hc:CfgOk P c) (hF:∀ f,F.fn f) (s:St P c.nt G own a w) {t t':TypeId} {x:Operand} (ho:o.op=.convert t t' x)
 (h:(rdO x fun p=>convRM c o.dst t t' p).wp CE G T (Kn P c.nt G own a w next)):o.wpIn F n P a w next Q:=by
 cases hk:cvKind c t t' with
 | other=>
   exact op_convert hc hF s ho (CE:=CE) (T:=T) (by simpa only [convRM,hk] using h)
 | str e=>
   obtain ⟨v,T1,h1,h2⟩:=zA s h
   simp only [convRM,hk] at h2
   split at h2
   ·rename_i hu
    obtain ⟨r,w',r1,r2⟩:=toStr_sound hc s hk hu h1 h2
    refine zD hF (by simp [ho]) (u:=r) (w':=w') ?_ r2
    simp only [execOp,ho];rw [Sem.run_bind,r1];rfl
   ·exact h2.elim
 | bytes e=>
   obtain ⟨v,T1,h1,h2⟩:=zA s h
   simp only [convRM,hk] at h2
   split at h2
   ·rename_i hu
    obtain ⟨r,w',r1,r2⟩:=toBytes_sound hc s hk hu h1 h2
    refine zD hF (by simp [ho]) (u:=r) (w':=w') ?_ r2
    simp only [execOp,ho];rw [Sem.run_bind,r1];rfl
   ·exact h2.elim
theorem op_make (hc:CfgOk P c) (hF:∀ f,F.fn f) (s:St P c.nt G own a w) {t:TypeId} {x y:Operand} (ho:o.op=.makeSlice t x y)
 (h:(rdO x fun p=>rdO y fun q=>makeRM c o.dst t p q).wp CE G T (Kn P c.nt G own a w next)):o.wpIn F n P a w next Q:=by
 by_cases hno:noElem c t=true
 ·simp only [makeRM,hno,if_true] at h
  obtain ⟨v,T1,h1,h2⟩:=zA s h
  obtain ⟨v',T2,h3,h4⟩:=zA s h2
  unfold make0RM at h4
  split at h4
  ·rename_i k1 l k2 m E sz0 by0 z0 hti
   have hx:=zbn h1
   have hy:=zbn h3
   split at h4
   ·rename_i D sz by_ z hE
    split at h4
    ·rename_i hcond
     obtain ⟨g1,g2,g3,g4,g5,g6⟩:=hcond
     subst g1
     obtain ⟨zv,z1,z2⟩:=(hc E _ hE).run_zero w rfl
     have hszE:(sizeOf E).run P w=.ok sz w:=(hc E _ hE).run_size w
     have hesz:esz P E=sz:=(hc E _ hE).cells
     obtain ⟨f,hin,_,hfb⟩:=(hc E _ hE).run_info w
     have hfb:f.bytes=by_:=hfb
     have hzs:zv.cells.size=sz:=by rw [← (zdk (P:=P) (G:=G) (own:=own) (w:=w) (b:=0) z2).1];exact g6
     have hun:=(hc t _ hti).und
     obtain ⟨arr,harr⟩:∃ arr:Array Value,arr=if m.toNat * sz=0 then #[] else (Array.range (m.toNat * sz)).map (zv.cells[· % zv.cells.size]!):=⟨_,rfl⟩
     have hasz:arr.size=m.toNat * sz:=by rw [harr];split<;>simp_all
     have:=zc0 (G:=G) (own':=own) (U:=[]) (w':=w.alloc (.cells arr E)) (cap:=m.toNat) (arr:=arr) s (Tr.refl _ _) (n0:=w.heap.size) (Nat.le_refl _) (by simp) (fun k hk=>zaI _ _ hk) rfl rfl rfl (zaY _ _)
      (by simp) (by rw [hesz,hasz];exact Nat.le_refl _) (fun x hx=>by simp at hx) (fun i x j yy e1 e2=>by simp at e1) h4
     refine zD hF (by simp [ho]) ?_ this
     have w1:=zei (Int.le_refl 0) (by omega)
     have w2:=zei g2 g3
     simp only [execOp,ho]
     rw [Sem.run_bind]
     have hrun:(Instr.makeSlice t (a.eval x) (a.eval y)).run P w=.ok (.slice (some ⟨w.heap.size,0,none⟩) 0 m.toNat) (w.alloc (.cells arr E)):=by
      have n1:¬ m < 0:=by omega
      have n2:¬ ((f.bytes:Int) * m > 2 ^ 48):=by rw [hfb];omega
      have n3:¬ (0:Int) < 0:=by omega
      have n4:¬ (0:Int) > m:=by omega
      by_cases h0:m.toNat * sz=0
      ·rw [if_pos h0] at harr;subst harr
       have he:∀ g:Nat→Value,(Array.range (m.toNat * sz)).map g=#[]:=fun g=>Array.eq_empty_of_size_eq_zero (by simp [h0])
       simp only [Instr.makeSlice,hx,hy,Sem.run_bind,run_underlying hun,Result.andThen_ok,asInt,asIntOf,Sem.run_pure,hin,w1,w2,n1,n2,n3,n4,decide_false,Bool.or_false,Bool.false_eq_true,if_false,run_askRoom,hszE,Sem.run_ite,if_pos h0,he]
       simp [newRow]
      ·rw [if_neg h0] at harr;subst harr
       simp only [Instr.makeSlice,hx,hy,Sem.run_bind,run_underlying hun,Result.andThen_ok,asInt,asIntOf,Sem.run_pure,hin,w1,w2,n1,n2,n3,n4,decide_false,Bool.or_false,Bool.false_eq_true,if_false,run_askRoom,hszE,Sem.run_ite,if_neg h0,z1]
       simp [newRow]
     rw [hrun];rfl
    ·exact h4.elim
   ·exact h4.elim
  ·exact h4.elim
 ·simp only [makeRM,hno] at h
  exact op_makeSlice hc hF s ho h
end
end Go.Ev
namespace Go.Ev
open Go Go.RowKit
variable {P : Program}
theorem St.newmap {nt:Nat} {G:Sta} {own:Own} {a:Act} {w:World} (s:St P nt G own a w) {b:Nat} (hb2:b % 3=2) (hm:isM b=true) :
 St P nt ((Up.newbox b (.f (.sl []))).app G) (ownBox own w.heap.size b) a (w.alloc (.map #[] 0)):=by
 have hlt:∀ k o,own k=some o→k≠w.heap.size:=fun k o h=>Nat.ne_of_lt (s.lt k o h)
 have K:=s.newobj_keep b hb2 (.f (.sl [])) (.map #[] 0)
 refine s.step K s.size ?_ ?_ ?_ ?_
 ·intro r v' hg
  have hrb:tb r≠b:=by intro e;subst e;simp [tb] at hb2
  simp only [Up.app,zbr,zar,if_neg hrb] at hg
  cases hx:get G (tb r) with
  | none=>rw [hx] at hg;cases hg
  | some x=>rw [hx] at hg;cases hg;exact .inr ⟨x,rfl,rfl,rfl,fun o=>zc9 hrb⟩
 ·intro c v' hc hg
  by_cases hcb:c=b
  ·subst hcb
   simp only [Up.app,zbr,if_true] at hg
   cases hg
   exact .inr (.inl ⟨hm,w.heap.size,#[],0,by simp [ownBox],zaY _ _,.inr ⟨[],rfl,rfl,fun i x e h=>by simp at h⟩⟩)
  ·simp only [Up.app,zbr,zar,if_neg hcb] at hg
   cases hx:get G c with
   | none=>rw [hx] at hg;cases hg
   | some x=>
     rw [hx] at hg;cases hg
     exact .inr (.inr ⟨x,rfl,rfl,fun o=>zc9 hcb,fun k hk=>⟨by simp [ownBox,hlt k _ hk,hk,hcb],zaI _ _ (s.lt k _ hk)⟩⟩)
 ·intro k k' o h h'
  simp only [ownBox] at h h'
  by_cases e:k=w.heap.size<;>by_cases e':k'=w.heap.size
  ·omega
  ·rw [if_pos e] at h;rw [if_neg e'] at h'
   split at h'
   ·cases h'
   ·rename_i hn;cases h;exact absurd h' hn
  ·rw [if_neg e] at h;rw [if_pos e'] at h'
   split at h
   ·cases h
   ·rename_i hn;cases h';exact absurd h hn
  ·rw [if_neg e] at h;rw [if_neg e'] at h'
   split at h;cases h
   split at h';cases h'
   exact s.one k k' o h h'
 ·intro k o h
  simp only [ownBox] at h
  simp only [World.size_alloc]
  split at h
  ·omega
  ·split at h
   ·cases h
   ·have:=s.lt k o h;omega
theorem St.setmap {nt:Nat} {G:Sta} {own:Own} {a:Act} {w w':World} (s:St P nt G own a w) {b r:Nat} {es es':Array MapEntry} {ck ck':Nat} {L':List FV} (hm:isM b=true) (hk:own r=some (.box b)) (hw:w.heap[r]?=some (.map es ck))
 (hw':w'={ w with heap:=w.heap.setIfInBounds r (.map es' ck') }) (hR:RMp own w (.f (.sl L')) es') :
 St P nt ((Up.set b (.f (.sl L'))).app G) own a w'∧Tr own w own w':=by
 obtain ⟨hn1,hn2⟩:=MapKept.heap_set (o':=.map es' ck') hw
 have hh:∀ k,k≠r→w'.heap[k]?=w.heap[k]?:=fun k h=>by rw [hw'];exact hn2 k h
 have hr:w'.heap[r]?=some (.map es' ck'):=by rw [hw'];exact hn1
 have hsz:w'.heap.size=w.heap.size:=by rw [hw'];simp
 have ht:Tr own w own w':=by
  refine ⟨by omega,fun k _ h=>⟨h,hh k (by rintro rfl;rw [hk] at h;cases h)⟩,by rw [hw'],by rw [hw'],by rw [hw'],fun k o h=>⟨h,hh k (by rintro rfl;rw [hk] at h;cases h)⟩,fun _ _ _ h=>h⟩
 have hb1:=zd2 hm
 have K:Keep P G own w ((Up.set b (.f (.sl L'))).app G) own w' (Up.set b (.f (.sl L'))).kill (live (Up.set b (.f (.sl L'))).kill):=by
  refine zcx (by intros;simp) (by intros;simp) ht (fun k b off h _=>h) ?_
  intro c o E l k cc hl hg h
  exact h.mono ht h.1 (hh k (by rintro rfl;have:=h.1;rw [hk] at this;cases this))
 refine ⟨s.step K s.size ?_ ?_ s.one (fun k o h=>by rw [hsz];exact s.lt k o h),ht⟩
 ·intro t v' hg
  have hrb:tb t≠b:=by intro e;subst e;simp [tb] at hb1
  simp only [Up.app,zbr,zar,if_neg hrb] at hg
  cases hx:get G (tb t) with
  | none=>rw [hx] at hg;cases hg
  | some x=>rw [hx] at hg;cases hg;exact .inr ⟨x,rfl,rfl,rfl,fun o=>zas (fun e=>hrb e.1)⟩
 ·intro c v' hc hg
  by_cases hcb:c=b
  ·subst hcb
   simp only [Up.app,zbr,if_true] at hg
   cases hg
   exact .inr (.inl ⟨hm,r,es',ck',hk,hr,hR.mono ht⟩)
  ·simp only [Up.app,zbr,zar,if_neg hcb] at hg
   cases hx:get G c with
   | none=>rw [hx] at hg;cases hg
   | some x=>
     rw [hx] at hg;cases hg
     exact .inr (.inr ⟨x,rfl,rfl,fun o=>zas (fun e=>hcb e.1),fun k hk'=>⟨hk',hh k (by rintro rfl;rw [hk] at hk';cases hk';exact hcb rfl)⟩⟩)
theorem ziq {d:TypeDesc} {v:Value} (h:keyV d v=true):MapKept.IsKey d v:=by
 cases d<;>cases v<;>simp_all [keyV,MapKept.IsKey]
theorem keyEq_iff {d:TypeDesc} {v u:Value} (h1:keyV d v=true) (h2:keyV d u=true):keyEq v u=true↔v=u:=by
 cases d<;>cases v<;>simp [keyV] at h1<;>cases u<;>simp [keyV] at h2<;>simp [keyEq]<;>(try (subst h1;subst h2;simp))
 all_goals (try (rename_i a b;constructor<;>intro h<;>simp_all [MapKept.bytes_beq]))
theorem putE_none {k:Value} {y:FV}:∀ {L:List FV},(∀ x∈L,entIs k x=false)→putE k y L=L++[.agg [.pv k,y]]
 | [],_=>rfl
 | x :: r,h=>by
   have hx:=h x (List.mem_cons_self ..)
   simp only [putE,hx,Bool.false_eq_true,if_false,List.cons_append]
   rw [putE_none fun z hz=>h z (List.mem_cons_of_mem _ hz)]
theorem putE_some {k:Value} {y:FV}:∀ {L:List FV} {j:Nat} {x:FV},L[j]?=some x→entIs k x=true→(∀ i,i < j→∀ z,L[i]?=some z→entIs k z=false)→putE k y L=L.set j (.agg [.pv k,y])
 | [],j,x,h,_,_=>by simp at h
 | z :: r,0,x,h,hx,_=>by
   simp at h;subst h
   simp [putE,hx]
 | z :: r,j+1,x,h,hx,hf=>by
   have hz:=hf 0 (by omega) z rfl
   simp only [putE,hz,Bool.false_eq_true,if_false,List.set_cons_succ]
   rw [putE_some (by simpa using h) hx fun i hi q hq=>hf (i+1) (by omega) q (by simpa using hq)]
theorem elem_rf {G:Sta} {own:Own} {w:World} {v:AV} {u:Value} {y:FV} (h:RV P G own w v u) (he:v.elem=some y):RF own w y u:=by
 cases v with
 | agg l=>
   simp only [AV.elem,Option.map_eq_some_iff] at he
   obtain ⟨fs,hfs,rfl⟩:=he
   obtain ⟨arr,rfl,h1,h2⟩:=h
   obtain ⟨h3,h4⟩:=zcM hfs
   refine .agg fs arr (by omega) fun j x v e1 e2=>?_
   obtain ⟨h5,_⟩:=h4 j x e1
   exact (show RC own w (.f x) v from h2 j (.f x) v h5 e2).2
 | f x=>
   simp only [AV.elem,AV.leafF] at he
   split at he
   ·cases he;exact h.2
   ·cases he
 | _=>simp [AV.elem,AV.leafF] at he
theorem find_spec {d:TypeDesc} {k:Value} (hk:MapKept.IsKey d k):∀ (l:List MapEntry) (i:Nat),(∀ x∈l,MapKept.IsKey d x.key)→
 (Instr.findNow d k l i=some none∧∀ x∈l,x.key≠k)∨∃ j e,Instr.findNow d k l i=some (some (i+j,e.val))∧l[j]?=some e∧e.key=k∧∀ j',j' < j→∀ e',l[j']?=some e'→e'.key≠k
 | [],_,_=>.inl ⟨rfl,by simp⟩
 | e :: es,i,h=>by
   obtain ⟨r,hr,hiff⟩:=MapKept.sameNow_of_keys hk (h e (.head _))
   cases r with
   | true=>exact .inr ⟨0,e,by simp [Instr.findNow,hr],rfl,(hiff.1 rfl).symm,fun j' hj=>by omega⟩
   | false=>
     have hne:e.key≠k:=fun h=>by have:=hiff.2 h.symm;cases this
     rcases find_spec hk es (i+1) fun x hx=>h x (List.mem_cons_of_mem _ hx) with ⟨h1,h2⟩ | ⟨j,e',h1,h2,h3,h4⟩
     ·refine .inl ⟨by simp [Instr.findNow,hr,h1],fun x hx=>?_⟩
      rcases List.mem_cons.1 hx with rfl | hx
      ·exact hne
      ·exact h2 x hx
     ·refine .inr ⟨j+1,e',by simp only [Instr.findNow,hr,h1];congr 3;omega,by simpa using h2,h3,fun j' hj e'' he=>?_⟩
      cases j' with
      | zero=>simp at he;subst he;exact hne
      | succ j'=>exact h4 j' (by omega) e'' (by simpa using he)
theorem put_sound {own:Own} {w:World} {L:List FV} {es:Array MapEntry} {ck r:Nat} {d:TypeDesc} {kv val:Value} {y:FV} {mty kt et:TypeId} (hm:P.underlying mty=some (.map kt et)) (hd:P.underlying kt=some d)
 (hb:w.heap[r]?=some (.map es ck)) (h1:L.length=es.size)
 (h2:∀ (i:Nat) x e,L[i]?=some x→es[i]?=some e→∃ k y,x=.agg [k,y]∧RF own w k e.key∧RF own w y e.val) (hks:L.all (keyIs d)=true) (hkv:keyV d kv=true) (hkr:RF own w (.pv kv) kv) (hy:RF own w y val) :
 ∃ es' ck',(Instr.mapUpdate mty (.map (some r)) kv val).run P w=.ok () { w with heap:=w.heap.setIfInBounds r (.map es' ck') }∧RMp own w (.f (.sl (putE kv y L))) es':=by
 have hk:=ziq hkv
 have hent:∀ (i:Nat) e,es[i]?=some e→∃ y0,L[i]?=some (.agg [.pv e.key,y0])∧keyV d e.key=true∧RF own w y0 e.val:=by
  intro i e he
  have hi:i < L.length:=by have:=(Array.getElem?_eq_some_iff.1 he).1;omega
  have hx:L[i]?=some L[i]:=by simp
  obtain ⟨k,y0,e1,e2,e3⟩:=h2 i L[i] e hx he
  have hki:=List.all_eq_true.1 hks L[i] (List.getElem_mem hi)
  rw [e1] at hki hx
  cases k with
  | pv v=>
    have hv:e.key=v:=by cases e2;rfl
    simp only [keyIs] at hki
    exact ⟨y0,by rw [hv];exact hx,by rw [hv];exact hki,e3⟩
  | agg l=>simp [keyIs] at hki
  | sl l=>simp [keyIs] at hki
 have hkeys:∀ x∈es.toList,MapKept.IsKey d x.key:=by
  intro x hx
  obtain ⟨i,hi⟩:=List.mem_iff_getElem?.1 hx
  obtain ⟨_,_,q,_⟩:=hent i x (by simpa using hi)
  exact ziq q
 have hnot:∀ (i:Nat) z,L[i]?=some z→(∀ e,es[i]?=some e→e.key≠kv)→entIs kv z=false:=by
  intro i z hz hne
  have hi:i < es.size:=by have:=(List.getElem?_eq_some_iff.1 hz).1;omega
  have he:es[i]?=some es[i]:=by simp
  obtain ⟨y0,q1,q2,_⟩:=hent i _ he
  rw [hz] at q1;cases q1
  simp only [entIs]
  cases hq:keyEq kv es[i].key with
  | false=>rfl
  | true=>exact absurd ((keyEq_iff hkv q2).1 hq).symm (hne _ he)
 rcases find_spec hk es.toList 0 hkeys with ⟨f1,f2⟩ | ⟨j,e,f1,f2,f3,f4⟩
 ·refine ⟨es.push { key:=kv,val,born:=ck },ck+1,?_,?_⟩
  ·simp [Instr.mapUpdate,run_underlying hm,MapKept.run_getObj_map hb,MapKept.run_checkKey hd hk,MapKept.run_findKey hd f1,MapKept.run_setObj_map _ hb,Result.andThen]
  ·rw [putE_none (fun x hx=>by
    obtain ⟨i,hi⟩:=List.mem_iff_getElem?.1 hx
    exact hnot i x hi fun e he=>f2 e (Array.mem_toList_iff.2 (Array.mem_of_getElem? he)))]
   refine .inr ⟨_,rfl,by simp [h1],fun i x e e1 e2=>?_⟩
   rw [Array.getElem?_push] at e2
   split at e2
   ·rename_i hi
    cases e2
    rw [List.getElem?_append_right (by omega),hi,h1,Nat.sub_self] at e1
    cases e1
    exact ⟨_,_,rfl,hkr,hy⟩
   ·have hi:i < L.length:=by have:=(Array.getElem?_eq_some_iff.1 e2).1;omega
    rw [List.getElem?_append_left hi] at e1
    exact h2 i x e e1 e2
 ·have hj:es[j]?=some e:=by simpa using f2
  have h0:Instr.findNow d kv es.toList 0=some (some (j,e.val)):=by rw [f1,Nat.zero_add]
  refine ⟨es.modify j fun e=>{ e with key:=kv,val },ck,?_,?_⟩
  ·simp [Instr.mapUpdate,run_underlying hm,MapKept.run_getObj_map hb,MapKept.run_checkKey hd hk,MapKept.run_findKey hd h0,hj,f3,MapKept.run_keyThatStays hk,MapKept.run_setObj_map _ hb,Result.andThen]
  ·obtain ⟨y0,q1,q2,q3⟩:=hent j e hj
   rw [putE_some q1 (by rw [f3];exact (keyEq_iff hkv hkv).2 rfl) (fun i hi z hz=>hnot i z hz fun e' he'=>f4 i hi e' (by simpa using he'))]
   refine .inr ⟨_,rfl,by simp [h1],fun i x e' e1 e2=>?_⟩
   rw [Array.getElem?_modify] at e2
   by_cases hij:j=i
   ·subst hij
    rw [if_pos rfl,hj] at e2
    cases e2
    have hjl:j < L.length:=(List.getElem?_eq_some_iff.1 q1).1
    rw [List.getElem?_set_self hjl] at e1
    cases e1
    exact ⟨_,_,rfl,hkr,hy⟩
   ·rw [if_neg hij] at e2
    rw [List.getElem?_set_ne hij] at e1
    exact h2 i x e' e1 e2
section
variable {CE : CEx} {c : Cfg} {G : Sta} {own : Own} {a : Act} {w : World} {T : List Acc} {next : Act → World → Prop}
variable {F : Fence} {n : Nat} {o : Oper} {Q : Exit → Act → World → Prop}
theorem op_makeMap (hF:∀ f,F.fn f) (s:St P c.nt G own a w) {t:TypeId} (ho:o.op=.makeMap t none)
 (h:(makeMapRM c o.dst).wp CE G T (Kn P c.nt G own a w next)):o.wpIn F n P a w next Q:=by
 unfold makeMapRM at h
 split at h
 ·rename_i r hd
  split at h
  ·rename_i hlt
   have hb2:mb r % 3=2:=by simp only [mb];omega
   have s1:=s.newmap hb2 (isM_mb r)
   have s2:=s1.set_view (t:=r) hlt (v:=.ptr (mb r) 0) (u:=.map (some w.heap.size)) ⟨w.heap.size,by simp [ownBox],by rw [isM_mb];rfl⟩ rfl
   refine zD hF (by simp [ho]) (u:=.map (some w.heap.size)) (w':=w.alloc (.map #[] 0)) ?_ ?_
   ·simp only [execOp,ho,Instr.makeMap,newObj];simp [Sem.run]
   ·rw [hd]
    exact h _ _ _ s2 (s.newobj_keep (mb r) hb2 (.f (.sl [])) (.map #[] 0)).tr rfl
  ·exact h.elim
 ·exact h.elim
theorem op_mapUpdate (hc:CfgOk P c) (hF:∀ f,F.fn f) (s:St P c.nt G own a w) {t:TypeId} {m k x:Operand} (ho:o.op=.mapUpdate t m k x) (hd:o.dst=none)
 (h:(mapUpRM c t m k x).wp CE G T (Kn P c.nt G own a w next)):o.wpIn F n P a w next Q:=by
 unfold mapUpRM at h
 split at h
 ·rename_i K V sz by_ z ht
  split at h
  ·rename_i iK hK
   obtain ⟨vm,T1,h1,h2⟩:=zA s h
   split at h2
   ·rename_i b q
    split at h2
    ·rename_i hm
     obtain ⟨r,hr,hu⟩:=h1
     rw [if_pos hm] at hu
     obtain ⟨vk,T2,h3,h4⟩:=zA s h2
     split at h4
     ·rename_i kv
      split at h4
      ·rename_i hkv
       obtain ⟨vx,T3,h5,h6⟩:=zA s h4
       split at h6
       ·rename_i y hy
        unfold mapUpGo at h6
        obtain ⟨zz,T4,h7,h8⟩:=za1 h6
        split at h8
        ·rename_i L
         split at h8
         ·rename_i hall
          obtain ⟨r',es,ck,e1,e2,e3⟩:=s.maps b _ hm h7
          have:=s.one _ _ _ e1 hr;subst this
          have hR:L.length=es.size∧∀ (i:Nat) x e,L[i]?=some x→es[i]?=some e→∃ k y,x=.agg [k,y]∧RF own w k e.key∧RF own w y e.val:=by
           rcases e3 with e | ⟨L',e,q1,q2⟩
           ·cases e
           ·cases e;exact ⟨q1,q2⟩
          have hk0:a.eval k=kv:=zbn h3
          have hkr:RF own w (.pv kv) kv:=by have:=h3.2;rwa [hk0] at this
          obtain ⟨es',ck',g1,g2⟩:=put_sound (own:=own) (w:=w) (hc t _ ht).und (hc K _ hK).und e2 hR.1 hR.2 hall hkv hkr (elem_rf h5 hy)
          obtain ⟨s2,t2⟩:=s.setmap hm hr e2 rfl g2
          refine zej hF (by simp [ho]) (w':={ w with heap:=w.heap.setIfInBounds r' (.map es' ck') }) ?_ (by rw [hd];exact h8 _ _ _ s2 t2 rfl)
          simp [execOp,ho,hu,hk0,g1]
         ·exact h8.elim
        ·exact h8.elim
       ·exact h6.elim
      ·exact h4.elim
     ·exact h4.elim
    ·exact h2.elim
   ·exact h2.elim
  ·exact h.elim
 ·exact h.elim
end
end Go.Ev
namespace Go.Ev
open Go Go.RowKit
variable {P : Program}
section
variable {CE : CEx} {c : Cfg} {G : Sta} {own : Own} {a : Act} {w : World} {T : List Acc} {next : Act → World → Prop}
variable {F : Fence} {n : Nat} {o : Oper} {Q : Exit → Act → World → Prop}
theorem toList2 {α:Type} {l:Array α} {x y:α} (h:l.toList=[x,y]):l=#[x,y]:=by
 cases l with | mk l=>simp at h;rw [h]
theorem toList1 {α:Type} {l:Array α} {x:α} (h:l.toList=[x]):l=#[x]:=by
 cases l with | mk l=>simp at h;rw [h]
theorem op_builtin (hc:CfgOk P c) (hF:WideF P F) (s:St P c.nt G own a w) {b:Builtin} {args:Array Operand} {ats:Array TypeId} (ho:o.op=.call { callee:=.builtin b,args,argTypes:=ats })
 (h:(builtinRM c o.dst b ats.toList args.toList).wp CE G T (Kn P c.nt G own a w next)):o.wpIn F n P a w next Q:=by
 unfold builtinRM at h
 split at h
 ·rename_i x t hx ht
  rw [toList1 hx,toList1 ht] at ho
  exact op_len hc hF.fn s ho h
 ·rename_i x y t t2 hx ht
  rw [toList2 hx,toList2 ht] at ho
  exact op_append hc hF.fn s ho h
 ·rename_i x y t t2 hx ht
  rw [toList2 hx,toList2 ht] at ho
  exact op_copy hc hF.fn s ho h
 ·exact op_max (mx:=true) hF.fn s ho h
 ·exact op_max (mx:=false) hF.fn s ho h
 ·exact h.elim
theorem op_sound (hc:CfgOk P c) (hip:IpsOk P c) (hCE:∀ g args outs r outs',CE g args outs r outs'→CallE P g args outs r outs') (hF:WideF P F) (s:St P c.nt G own a w)
 (h:(opRM c o).wp CE G T (Kn P c.nt G own a w next)):o.wpIn F n P a w next Q:=by
 unfold opRM at h
 split at h
 ·exact op_move hF.fn s (by assumption) h
 ·exact op_assign hc hF.fn s (by assumption) h
 ·exact op_pick hF.fn s (by assumption) h
 ·exact op_alloc hc hF.fn s (by assumption) h
 ·exact op_boxN hF.fn s (by assumption) h
 ·exact op_build hc hF.fn s (by assumption) h
 ·exact op_buildSlice hc hF.fn s (by assumption) h
 ·exact op_load hc hF.fn s (by assumption) h
 ·split at h
  ·rename_i hd
   exact op_storeX hc hF.fn s (by assumption) (by simpa using hd) h
  ·exact h.elim
 ·exact op_makeMap hF.fn s (by assumption) h
 ·split at h
  ·rename_i hd
   exact op_mapUpdate hc hF.fn s (by assumption) (by simpa using hd) h
  ·exact h.elim
 ·exact op_nilCheck hF.fn s (by assumption) h
 ·exact op_binOp hc hip.2.2 hF.fn s (by assumption) h
 ·exact op_unOp hF.fn s (by assumption) h
 ·exact op_conv hc hF.fn s (by assumption) h
 ·exact op_makeFunc hF.fn s (by assumption) h
 ·exact op_make hc hF.fn s (by assumption) h
 ·exact op_slice hc hF.fn s (by assumption) h
 ·exact op_fieldAddr hc hF.fn s (by assumption) h
 ·exact op_field hc hF.fn s (by assumption) h
 ·exact op_indexAddr hc hF.fn s (by assumption) h
 ·exact op_index hc hF.fn s (by assumption) h
 ·exact op_extract hF.fn s (by assumption) h
 ·exact op_builtin hc hF s (by assumption) h
 ·exact op_calls hip hCE hF s (by assumption) h
 ·exact h.elim
end
end Go.Ev
namespace Go.Ev
open Go Go.RowKit
variable {P : Program}
section
variable {CE : CEx} {c : Cfg} {G : Sta} {own : Own} {a : Act} {w : World} {T : List Acc} {next : Act → World → Prop}
variable {F : Fence} {n : Nat} {Q : Exit → Act → World → Prop} {ops : Array Oper}
theorem yielded_of {tmps:Array Value} {j:Nat} {t:Tmp} {u:Value} (hd:(ops[j]?).bind (·.dst)=some t) (hu:tmps[t]?=some u):(∀ b,u=.bool b→yielded ops tmps j=some b)∧((∀ b,u≠.bool b)→yielded ops tmps j=none):=by
 unfold yielded
 rw [hd,Option.bind_some,hu]
 constructor
 ·rintro b rfl;rfl
 ·intro h;cases u<;>first | rfl | exact absurd rfl (h _)
theorem fin_undef {own:Own} (s:St P c.nt G own a w) {d:Option Tmp} (h:(fin c d [] (.tup [])).wp CE G T (Kn P c.nt G own a w next)):next (a.put d undef) w:=by
 refine zK (U:=[]) s (Tr.refl _ _) (v:=.tup []) ?_ h
 exact ⟨#[],rfl,rfl,fun j x v h=>by simp at h⟩
theorem step_sound (hc:CfgOk P c) (hip:IpsOk P c) (hCE:∀ g args outs r outs',CE g args outs r outs'→CallE P g args outs r outs') (hF:WideF P F) (s:St P c.nt G own a w) {i:Nat}
 (h:(stepRM c ops i).wp CE G T (Kn P c.nt G own a w next)):wpOpIn F n P ops Q i next a w:=by
 unfold wpOpIn
 unfold stepRM at h
 split at h
 ·rename_i ho;rw [ho];exact h own a w s (Tr.refl _ _) rfl
 ·rename_i o ho
  rw [ho]
  simp only
  split at h
  ·rename_i hg
   rw [if_pos (by simp [Region.wanted,hg])]
   exact op_sound hc hip hCE hF s h
  ·rename_i j want hg
   split at h
   ·exact h.elim
   ·rename_i t hd
    obtain ⟨v,T1,h1,h2⟩:=za1 h
    obtain ⟨u,hu,hr⟩:=s.temps t v h1
    have hy:=yielded_of hd hu
    split at h2
    ·rename_i b
     have hub:u=.bool b:=zbn (P:=P) (G:=G) (own:=own) (w:=w) hr
     subst hub
     split at h2
     ·rename_i hb;subst hb
      rw [if_pos (by simp [Region.wanted,hg,hy.1 _ rfl])]
      exact op_sound hc hip hCE hF s h2
     ·rename_i hb
      rw [if_neg (by simp [Region.wanted,hg,hy.1 _ rfl,hb])]
      exact ⟨fun f _=>hF.fn f,fin_undef s h2⟩
    ·obtain ⟨arr,e1,e2,_⟩:=hr
     have:arr=#[]:=Array.eq_empty_of_size_eq_zero (by simpa using e2.symm)
     subst this;subst e1
     rw [if_neg (by simp [Region.wanted,hg,hy.2 (by simp)])]
     exact ⟨fun f _=>hF.fn f,fin_undef s h2⟩
    ·exact h2.elim
theorem step_ent (hc:CfgOk P c) (hip:IpsOk P c) (hCE:∀ g args outs r outs',CE g args outs r outs'→CallE P g args outs r outs') (hF:WideF P F) (s:St P c.nt G own a w) {y:Ent}
 (h:(stepRM c ops y.i).wp CE G [] (fun U' T'=>U'=y.U∧T'=y.T)) (hn:∀ own' a' w',St P c.nt (app y.U G) own' a' w'→Tr own w own' w'→a'.defers=a.defers→next a' w'):wpOpIn F n P ops Q y.i next a w:=by
 refine step_sound hc hip hCE hF s (RM.wp_mono ?_ _ _ h)
 rintro U T ⟨rfl,_⟩
 exact hn
theorem zhi (hc:CfgOk P c) (hip:IpsOk P c) (hCE:∀ g args outs r outs',CE g args outs r outs'→CallE P g args outs r outs') (hF:WideF P F):∀ (es:List Ent) {G G':Sta} {own:Own} {a:Act} {w:World},
 St P c.nt G own a w→Runs CE (stepRM c ops) es G G'→(∀ own' a' w',St P c.nt G' own' a' w'→Tr own w own' w'→a'.defers=a.defers→Q .normal a' w')→wpOpsIn F n P ops Q (es.map (·.i)) a w
 | [],G,G',own,a,w,s,h,hq=>by
   have:G=G':=h
   subst this
   exact hq own a w s (Tr.refl _ _) rfl
 | y :: es,G,G',own,a,w,s,h,hq=>by
   rw [List.map_cons,wpOpsIn_cons]
   refine step_ent hc hip hCE hF s h.1 fun own' a' w' s' t' d'=>?_
   exact zhi hc hip hCE hF es s' h.2 fun own2 a2 w2 s2 t2 d2=>hq own2 a2 w2 s2 (t'.trans t2) (d2.trans d')
def anc (ops:Array Oper):Nat→Nat→Nat→Bool
 | 0,_,_=>false
 | f+1,j,i=>match ops[i]? with
   | none=>false
   | some o=>o.after.toList.any fun e=>Region.binds .any e && (e.on == j || anc ops f j e.on)
def topo (ops:Array Oper):Bool:=
 (List.range ops.size).all fun i=>match ops[i]? with
   | none=>true
   | some o=>o.after.toList.all fun e=>!Region.binds .any e || decide (e.on < i)
theorem topo_spec (h:topo ops=true) {i:Nat} {o:Oper} (ho:ops[i]?=some o) {e:Edge} (he:e∈o.after) (hb:Region.binds .any e=true):e.on < i:=by
 have hx:i < ops.size:=(Array.getElem?_eq_some_iff.1 ho).1
 have h1:=List.all_eq_true.1 h i (List.mem_range.2 hx)
 rw [ho] at h1
 have h2:=List.all_eq_true.1 h1 e (Array.mem_toList_iff.2 he)
 simp only [hb,Bool.not_true,Bool.false_or,decide_eq_true_eq] at h2
 exact h2
def Closed (ops:Array Oper) (listed:Array Bool):Prop:=
 ∀ i o,ops[i]?=some o→listed.getD i true=true→∀ e∈o.after,Region.binds .any e=true→listed.getD e.on false=true
theorem ziB {listed:Array Bool} (hsz:listed.size=ops.size) (hcl:Closed ops listed):∀ (f j i:Nat),anc ops f j i=true→(∀ o,ops[i]?=some o→∀ e∈o.after,Region.binds .any e=true→listed.getD e.on false=true)→listed.getD j false=true
 | 0,_,_,h,_=>by simp [anc] at h
 | f+1,j,i,h,hi=>by
   simp only [anc] at h
   split at h
   ·cases h
   ·rename_i o ho
    obtain ⟨e,he,hh⟩:=List.any_eq_true.1 h
    have he:=Array.mem_toList_iff.1 he
    simp only [Bool.and_eq_true,Bool.or_eq_true,beq_iff_eq] at hh
    obtain ⟨hb,hh⟩:=hh
    have hl:=hi o ho e he hb
    rcases hh with rfl | hh
    ·exact hl
    ·refine ziB hsz hcl f j e.on hh fun o' ho' e' he' hb'=>hcl e.on o' ho' ?_ e' he' hb'
     have:e.on < listed.size:=by
      rcases Nat.lt_or_ge e.on listed.size with h | h
      ·exact h
      ·simp [Array.getElem?_eq_none h] at hl
     simpa [this] using hl
def entOk (ops:Array Oper):List Ent→Prop
 | []=>True
 | x :: r=>(∀ y∈r,anc ops ops.size x.i y.i=false→x.ind y)∧entOk ops r
theorem entOk.mid:∀ {p:List Ent} {y:Ent} {r:List Ent},entOk ops (p++y :: r)→(∀ x∈p,anc ops ops.size x.i y.i=false→x.ind y)∧entOk ops (p++r)
 | [],y,r,h=>⟨fun x hx=>by simp at hx,h.2⟩
 | x :: p,y,r,h=>by
   obtain ⟨h1,h2⟩:=h
   obtain ⟨h3,h4⟩:=entOk.mid h2
   refine ⟨fun z hz=>?_,fun z hz=>h1 z ?_,h4⟩
   ·rcases List.mem_cons.1 hz with rfl | hz
    ·exact h1 y (by simp)
    ·exact h3 z hz
   ·have hz:z∈p++r:=hz
    show z∈p++y :: r
    rcases List.mem_append.1 hz with hz | hz
    ·exact List.mem_append_left _ hz
    ·exact List.mem_append_right _ (List.mem_cons_of_mem _ hz)
theorem runs_any (hc:CfgOk P c) (hip:IpsOk P c) (hCE:∀ g args outs r outs',CE g args outs r outs'→CallE P g args outs r outs') (hF:WideF P F) (htopo:topo ops=true):∀ (fuel:Nat) (es:List Ent) {listed:Array Bool} {G G':Sta} {own:Own} {a:Act} {w:World},
 es.length≤fuel→listed.size=ops.size→Closed ops listed→(∀ i,i < ops.size→(listed.getD i true=false↔i∈es.map (·.i)))→(∀ x∈es,x.i < ops.size)→(es.map (·.i)).Pairwise (· < ·)→entOk ops es→
 St P c.nt G own a w→Runs CE (stepRM c ops) es G G'→(∀ own' a' w',St P c.nt G' own' a' w'→Tr own w own' w'→a'.defers=a.defers→Q .normal a' w')→wpAnyIn F n P .any ops Q fuel listed a w:=by
 have done:∀ {es:List Ent} {listed:Array Bool} {G G':Sta} {own:Own} {a:Act} {w:World},es=[]→St P c.nt G own a w→Runs CE (stepRM c ops) es G G'→
  (∀ own' a' w',St P c.nt G' own' a' w'→Tr own w own' w'→a'.defers=a.defers→Q .normal a' w')→Q .normal a w:=by
  intro es listed G G' own a w he s h hq
  subst he
  have:G=G':=h
  subst this
  exact hq own a w s (Tr.refl _ _) rfl
 have empty:∀ {es:List Ent} {listed:Array Bool},listed.size=ops.size→(∀ i,i < ops.size→(listed.getD i true=false↔i∈es.map (·.i)))→(∀ x∈es,x.i < ops.size)→(es.map (·.i)).Pairwise (· < ·)→Region.ready .any ops listed=[]→es=[]:=by
  intro es listed hsz hl hlt hs hr
  cases es with
  | nil=>rfl
  | cons x es=>
    exfalso
    have hx:=hlt x (List.mem_cons_self ..)
    have:x.i∈Region.ready .any ops listed:=by
     rw [mem_ready]
     refine ⟨(hl x.i hx).2 (by simp),ops[x.i],by simp [hx],fun e he hb=>?_⟩
     have h2:e.on < x.i:=topo_spec htopo (o:=ops[x.i]) (by simp [hx]) he hb
     cases hle:listed.getD e.on false with
     | true=>rfl
     | false=>
       have hlt2:e.on < ops.size:=by omega
       have:listed.getD e.on true=false:=by
        simp only [Array.getD_eq_getD_getElem?,Array.getElem?_eq_getElem (show e.on < listed.size by omega),Option.getD_some] at hle ⊢;exact hle
       have:=(hl e.on hlt2).1 this
       simp only [List.map_cons,List.mem_cons] at this
       rw [List.map_cons,List.pairwise_cons] at hs
       rcases this with h | h
       ·omega
       ·have:=hs.1 _ h;omega
    rw [hr] at this;cases this
 intro fuel
 induction fuel with
 | zero=>
   intro es listed G G' own a w hf hsz hcl hl hlt hs hok s h hq
   have he:es=[]:=List.length_eq_zero_iff.1 (by omega)
   refine ⟨?_,done (listed:=listed) he s h hq⟩
   subst he
   cases hr:Region.ready .any ops listed with
   | nil=>rfl
   | cons i r=>
     have:i∈Region.ready .any ops listed:=by rw [hr];exact List.mem_cons_self ..
     obtain ⟨h1,o,ho,_⟩:=mem_ready.1 this
     have hi:i < ops.size:=(Array.getElem?_eq_some_iff.1 ho).1
     have:=(hl i hi).1 h1
     simp at this
 | succ fuel ih=>
   intro es listed G G' own a w hf hsz hcl hl hlt hs hok s h hq
   refine ⟨fun hr=>done (listed:=listed) (empty hsz hl hlt hs hr) s h hq,fun i hi=>?_⟩
   obtain ⟨h1,o,ho,hready⟩:=mem_ready.1 hi
   have hilt:i < ops.size:=(Array.getElem?_eq_some_iff.1 ho).1
   have hmem:=(hl i hilt).1 h1
   obtain ⟨y,hy,rfl⟩:=List.mem_map.1 hmem
   obtain ⟨p,r,rfl⟩:=List.append_of_mem hy
   obtain ⟨hm1,hm2⟩:=entOk.mid hok
   have hpair:∀ x∈p,x.i < y.i:=by
    intro x hx
    rw [List.map_append,List.pairwise_append] at hs
    exact hs.2.2 x.i (List.mem_map.2 ⟨x,hx,rfl⟩) y.i (by simp)
   have hind:∀ x∈p,x.ind y:=by
    intro x hx
    refine hm1 x hx ?_
    cases ha:anc ops ops.size x.i y.i with
    | false=>rfl
    | true=>
      have hxl:=ziB hsz hcl ops.size x.i y.i ha (fun o' ho' e he hb=>by rw [ho] at ho';cases ho';exact hready e he hb)
      have hxlt:=hlt x (List.mem_append_left _ hx)
      have:listed.getD x.i true=false:=(hl x.i hxlt).2 (by simp [List.mem_map];exact .inl ⟨x,hx,rfl⟩)
      simp only [Array.getD_eq_getD_getElem?,Array.getElem?_eq_getElem (show x.i < listed.size by omega),Option.getD_some] at hxl this
      rw [hxl] at this;cases this
   obtain ⟨r1,r2⟩:=Runs.front hind h
   refine step_ent hc hip hCE hF s r1 fun own' a' w' s' t' d'=>?_
   have hsub:(p++r).Sublist (p++y :: r):=List.Sublist.append (List.Sublist.refl _) (List.sublist_cons_self _ _)
   have hnotin:∀ z∈p++r,z.i≠y.i:=by
    intro z hz
    rw [List.map_append,List.map_cons,List.pairwise_append,List.pairwise_cons] at hs
    rcases List.mem_append.1 hz with h | h
    ·have:=hpair z h;omega
    ·have:=hs.2.1.1 z.i (List.mem_map.2 ⟨z,h,rfl⟩);omega
   refine ih (p++r) ?_ (by simpa using hsz) ?_ ?_ (fun x hx=>hlt x (hsub.mem hx)) (hs.sublist (hsub.map _)) hm2 s' r2 fun own2 a2 w2 s2 t2 d2=>hq own2 a2 w2 s2 (t'.trans t2) (d2.trans d')
   ·simp only [List.length_append,List.length_cons] at hf ⊢;omega
   ·intro j o' ho' hj e he hb
    have hlst:listed.getD e.on false=true→(listed.setIfInBounds y.i true).getD e.on false=true:=fun h=>getD_set_true h
    by_cases hjy:y.i=j
    ·subst hjy
     rw [ho] at ho';cases ho'
     exact hlst (hready e he hb)
    ·rw [getD_set_ne true hjy] at hj
     exact hlst (hcl j o' ho' hj e he hb)
   ·intro j hj
    by_cases hjy:y.i=j
    ·subst hjy
     have:(listed.setIfInBounds y.i true).getD y.i true=true:=by
      simp [Array.getD_eq_getD_getElem?,Array.getElem?_setIfInBounds,show y.i < listed.size by omega]
     rw [this]
     simp only [Bool.true_eq_false,false_iff]
     intro hmem
     obtain ⟨z,hz,e⟩:=List.mem_map.1 hmem
     exact hnotin z hz e
    ·rw [getD_set_ne true hjy,hl j hj]
     simp only [List.map_append,List.map_cons,List.mem_append,List.mem_cons]
     constructor
     ·rintro (h | h | h)
      ·exact .inl h
      ·exact absurd h.symm hjy
      ·exact .inr h
     ·rintro (h | h)
      ·exact .inl h
      ·exact .inr (.inr h)
end
end Go.Ev
namespace Go.Ev
open Go Go.RowKit
variable {P : Program}
def RM.wq (CE:CEx) (G:Sta):RM→(List Up→Prop)→Prop
 | .ret U,K=>K U
 | .fail,_=>False
 | .ask b o k,K=>match look G b o with
   | some v=>v.ok=true∧(k v).wq CE G K
   | none=>False
 | .peek b k,K=>match get G b with
   | some v=>(k v.leaves.length).wq CE G K
   | none=>False
 | .call g args outs k,K=>∃ r outs',CE g args outs r outs'∧(k r outs').wq CE G K
theorem RM.wq_wp {CE:CEx} {G:Sta} {K:List Up→Prop}:∀ (m:RM) (T:List Acc),m.wq CE G K→m.wp CE G T fun U _=>K U
 | .ret U,T,h=>h
 | .fail,T,h=>h
 | .ask b o k,T,h=>by
   simp only [RM.wq] at h
   split at h
   ·rename_i v hv;exact ⟨v,hv,h.1,RM.wq_wp _ _ h.2⟩
   ·exact h.elim
 | .peek b k,T,h=>by
   simp only [RM.wq] at h
   split at h
   ·rename_i v hv;exact ⟨v,hv,RM.wq_wp _ _ h⟩
   ·exact h.elim
 | .call g args outs k,T,h=>by
   obtain ⟨r,o,h1,h2⟩:=h
   exact ⟨r,o,h1,RM.wq_wp _ _ h2⟩
def guardRM (c:Cfg) (ops:Array Oper) (o:Oper):RM:=
 match o.guard with
 | none=>opRM c o
 | some (j,want)=>match (ops[j]?).bind (·.dst) with
   | none=>.fail
   | some t=>.ask (tb t) none fun v=>match v with
     | .f (.pv (.bool b))=>if b=want then opRM c o else fin c o.dst [] (.tup [])
     | .tup []=>fin c o.dst [] (.tup [])
     | _=>.fail
theorem zfU {c:Cfg} {ops:Array Oper} {i:Nat} {o:Oper} (h:ops[i]?=some o):stepRM c ops i=guardRM c ops o:=by
 simp only [stepRM,h];rfl
structure Lg where
 i:Nat
 R:List Acc
 W:List Acc
def Ent.lg (x:Ent):Lg:=⟨x.i,x.reads,Ups.writes x.U⟩
section
variable {CE : CEx} {c : Cfg} {ops : Array Oper}
end
def apartB (A B:List Acc):Bool:=A.all fun a=>B.all fun b=>!a.meets b
theorem zh0 {A B:List Acc} (h:apartB A B=true):Apart A B:=by
 intro a ha b hb
 have:=List.all_eq_true.1 (List.all_eq_true.1 h a ha) b hb
 simpa using this
def indB (x y:Ent):Bool:=apartB (x.reads++Ups.writes x.U) (Ups.writes y.U) && apartB y.reads (Ups.writes x.U)
theorem indB_spec {x y:Ent} (h:indB x y=true):x.ind y:=by
 simp only [indB,Bool.and_eq_true] at h
 exact ⟨zh0 h.1,zh0 h.2⟩
def ancOk (ops:Array Oper) (tab:List (List Nat)):Bool:=
 (List.range ops.size).all fun i=>(tab.getD i []).all fun j=>match ops[i]? with
   | none=>false
   | some o=>o.after.toList.any fun e=>Region.binds .any e && (e.on == j || (tab.getD e.on []).contains j)
def ancT (tab:List (List Nat)) (j i:Nat):Bool:=(tab.getD i []).contains j
theorem ziC {ops:Array Oper} {tab:List (List Nat)} (htopo:topo ops=true) (h:ancOk ops tab=true):∀ (f i j:Nat),i < f→i < ops.size→ancT tab j i=true→anc ops f j i=true
 | 0,i,j,hf,_,_=>absurd hf (Nat.not_lt_zero _)
 | f+1,i,j,hf,hi,ht=>by
   have h1:=List.all_eq_true.1 h i (List.mem_range.2 hi)
   have h2:=List.all_eq_true.1 h1 j (by simpa [ancT] using ht)
   obtain ⟨o,ho⟩:∃ o,ops[i]?=some o:=⟨ops[i],by simp [hi]⟩
   rw [ho] at h2
   simp only [anc,ho]
   obtain ⟨e,he',hh⟩:=List.any_eq_true.1 h2
   have he:=Array.mem_toList_iff.1 he'
   simp only [Bool.and_eq_true,Bool.or_eq_true,beq_iff_eq] at hh
   refine List.any_eq_true.2 ⟨e,he',?_⟩
   simp only [Bool.and_eq_true,Bool.or_eq_true,beq_iff_eq]
   have hlt:=topo_spec htopo ho he hh.1
   exact ⟨hh.1,hh.2.imp id fun h3=>ziC htopo h f e.on j (by omega) (by omega) h3⟩
def lgOk (x y:Lg):Bool:=apartB (x.R++x.W) y.W && apartB y.R x.W
def logOk (tab:List (List Nat)):List Lg→Bool
 | []=>true
 | x :: r=>r.all (fun y=>ancT tab x.i y.i || lgOk x y) && logOk tab r
def entOkB (tab:List (List Nat)) (es:List Ent):Bool:=logOk tab (es.map Ent.lg)
theorem ze1 {ops:Array Oper} {tab:List (List Nat)} (htopo:topo ops=true) (h:ancOk ops tab=true):∀ {es:List Ent},(∀ x∈es,x.i < ops.size)→entOkB tab es=true→entOk ops es
 | [],_,_=>trivial
 | x :: r,hlt,hes=>by
   simp only [entOkB,List.map_cons,logOk,Bool.and_eq_true] at hes
   refine ⟨fun y hy hn=>?_,ze1 htopo h (fun z hz=>hlt z (List.mem_cons_of_mem _ hz)) hes.2⟩
   have:=List.all_eq_true.1 hes.1 y.lg (List.mem_map.2 ⟨y,hy,rfl⟩)
   simp only [Bool.or_eq_true] at this
   rcases this with h1 | h1
   ·have hy:=hlt y (List.mem_cons_of_mem _ hy)
    rw [ziC htopo h ops.size y.i x.i hy hy h1] at hn;cases hn
   ·exact indB_spec h1
def dropN (dead:Nat→Bool):Sta→Sta
 | []=>[]
 | (b,v) :: r=>if dead b=true then dropN dead r else (b,v) :: dropN dead r
theorem zdb {dead:Nat→Bool} {b:Nat}:∀ {G:Sta},get (dropN dead G) b=if dead b=true then none else get G b
 | []=>by simp [dropN,get]
 | (c,v) :: r=>by
   have ih:=zdb (dead:=dead) (b:=b) (G:=r)
   simp only [dropN]
   by_cases hc:dead c=true
   ·rw [if_pos hc,ih]
    by_cases hb:dead b=true
    ·rw [if_pos hb,if_pos hb]
    ·rw [if_neg hb,if_neg hb]
     have:b≠c:=fun e=>hb (by rw [e];exact hc)
     simp [get,this]
   ·rw [if_neg hc]
    simp only [get]
    by_cases hbc:b=c
    ·subst hbc;rw [if_pos rfl,if_neg hc,if_pos rfl]
    ·rw [if_neg hbc,ih,if_neg hbc]
theorem zio {dead:Nat→Bool} {b:Nat} {o:Option Nat} {G:Sta}:look (dropN dead G) b o=if dead b=true then none else look G b o:=by
 cases o with
 | none=>exact zdb
 | some o=>
   simp only [look,zdb]
   split<;>rfl
section
variable {nt : Nat} {G : Sta} {own : Own} {a : Act} {w : World}
theorem zgR {dead:Nat→Bool} {b o i n:Nat} {u:Value} (h:SlV P G own w b o i n u):SlV P (dropN dead G) own w b o i n u:=by
 unfold SlV at h ⊢
 rw [zio]
 by_cases hd:dead b=true
 ·rw [if_pos hd];trivial
 ·rw [if_neg hd];exact h
theorem zg6 {dead:Nat→Bool} {b o i n:Nat} {u:Value} (h:EpV P G own w b o i n u):EpV P (dropN dead G) own w b o i n u:=by
 unfold EpV at h ⊢
 rw [zio]
 by_cases hd:dead b=true
 ·rw [if_pos hd];trivial
 ·rw [if_neg hd];exact h
theorem r0_drop {dead:Nat→Bool} {v:AV} {u:Value} (h:R0 P G own w v u):R0 P (dropN dead G) own w v u:=by
 cases v with
 | rf b o i n=>exact zgR h
 | ep b o i n=>exact zg6 h
 | _=>exact h
theorem ro_drop {dead:Nat→Bool} {b o:Nat} {v:AV} {u:Value} (h:RO P G own w b o v u):RO P (dropN dead G) own w b o v u:=by
 cases v with
 | rf b o i n=>exact zgR h
 | ep b o i n=>exact zg6 h
 | _=>exact h
theorem r1_drop {dead:Nat→Bool} {v:AV} {u:Value} (h:R1 P G own w v u):R1 P (dropN dead G) own w v u:=by
 cases v with
 | agg l=>obtain ⟨arr,e1,e2,e3⟩:=h;exact ⟨arr,e1,e2,fun j x y h1 h2=>r0_drop (e3 j x y h1 h2)⟩
 | rf b o i n=>exact zgR h
 | ep b o i n=>exact zg6 h
 | _=>exact h
theorem rl_drop {dead:Nat→Bool} {b:Nat} {v:AV} {u:Value} (h:RL P G own w b v u):RL P (dropN dead G) own w b v u:=by
 cases v with
 | agg l=>obtain ⟨arr,e1,e2,e3⟩:=h;exact ⟨arr,e1,e2,fun j x y h1 h2=>ro_drop (e3 j x y h1 h2)⟩
 | tup l=>obtain ⟨arr,e1,e2,e3⟩:=h;exact ⟨arr,e1,e2,fun j x y h1 h2=>r1_drop (e3 j x y h1 h2)⟩
 | rf b o i n=>exact zgR h
 | ep b o i n=>exact zg6 h
 | _=>exact h
theorem rb_drop {dead:Nat→Bool} {b:Nat} {v:AV} {arr:Array Value} (h:RB P G own w b v arr):RB P (dropN dead G) own w b v arr:=
 ⟨h.1,fun j x u h1 h2=>ro_drop (h.2 j x u h1 h2)⟩
theorem St.drop (s:St P nt G own a w) (dead:Nat→Bool):St P nt (dropN dead G) own a w:=by
 refine ⟨s.size,fun t v h=>?_,fun b v hb hm h=>?_,fun b v hm h=>?_,s.one,s.lt⟩
 ·rw [zdb] at h
  split at h
  ·cases h
  ·obtain ⟨u,h1,h2⟩:=s.temps t v h;exact ⟨u,h1,rl_drop h2⟩
 ·rw [zdb] at h
  split at h
  ·cases h
  ·obtain ⟨k,arr,T,h1,h2,h3⟩:=s.boxes b v hb hm h;exact ⟨k,arr,T,h1,h2,rb_drop h3⟩
 ·rw [zdb] at h
  split at h
  ·cases h
  ·exact s.maps b v hm h
end
inductive Ex where
 | normal
 | exit (id:Nat)
 | ret
def Ex.to:Ex→Exit
 | .normal=>.normal
 | .exit id=>.exit id
 | .ret=>.ret
def seqK (K:Ex→Sta→Prop) (N:Sta→Prop):Ex→Sta→Prop
 | .normal,G=>N G
 | e,G=>K e G
def blockK (id:Nat) (K:Ex→Sta→Prop):Ex→Sta→Prop
 | .exit j,G=>if j=id then K .normal G else K (.exit j) G
 | e,G=>K e G
end Go.Ev
namespace Go.Ev
open Go Go.RowKit
variable {P : Program}
def entry:Nat→List AV→List AV→Sta
 | i,x :: xs,v :: vs=>(tb i,x) :: (ob i,v) :: entry (i+1) xs vs
 | i,x :: xs,[]=>(tb i,x) :: entry (i+1) xs []
 | i,[],v :: vs=>(ob i,v) :: entry (i+1) [] vs
 | _,[],[]=>[]
theorem zda (b:Nat):∀ (i:Nat) (xs vs:List AV) (v:AV),get (entry i xs vs) b=some v→(∃ j,b=tb (i+j)∧xs[j]?=some v)∨(∃ j,b=ob (i+j)∧vs[j]?=some v)
 | i,x :: xs,y :: vs,v,h=>by
   simp only [entry,get] at h
   split at h
   ·rename_i e;cases h;exact .inl ⟨0,e,rfl⟩
   ·split at h
    ·rename_i e;cases h;exact .inr ⟨0,e,rfl⟩
    ·rcases zda b (i+1) xs vs v h with ⟨j,e1,e2⟩ | ⟨j,e1,e2⟩
     ·exact .inl ⟨j+1,by rw [e1];congr 1;omega,by simpa using e2⟩
     ·exact .inr ⟨j+1,by rw [e1];congr 1;omega,by simpa using e2⟩
 | i,x :: xs,[],v,h=>by
   simp only [entry,get] at h
   split at h
   ·rename_i e;cases h;exact .inl ⟨0,e,rfl⟩
   ·rcases zda b (i+1) xs [] v h with ⟨j,e1,e2⟩ | ⟨j,e1,e2⟩
    ·exact .inl ⟨j+1,by rw [e1];congr 1;omega,by simpa using e2⟩
    ·simp at e2
 | i,[],y :: vs,v,h=>by
   simp only [entry,get] at h
   split at h
   ·rename_i e;cases h;exact .inr ⟨0,e,rfl⟩
   ·rcases zda b (i+1) [] vs v h with ⟨j,e1,e2⟩ | ⟨j,e1,e2⟩
    ·simp at e2
    ·exact .inr ⟨j+1,by rw [e1];congr 1;omega,by simpa using e2⟩
 | _,[],[],v,h=>by simp [entry,get] at h
section
variable {G G' : Sta} {own own' : Own} {w : World}
theorem shut0_r0 {v:AV} {u:Value} (hv:shut0 false (fun _=>true) v=true) (h:R0 P G own w v u):R0 P G' own w v u:=by
 cases v<;>first | exact h | simp [shut0,capIn] at hv
theorem shut1_r1 {v:AV} {u:Value} (hv:shut1 false (fun _=>true) v=true) (h:R1 P G own w v u):R1 P G' own w v u:=by
 rcases zbX (f:=id) hv with ⟨l,rfl,h1⟩ | ⟨h1,h2,_,_⟩
 ·obtain ⟨arr,e1,e2,e3⟩:=h
  exact ⟨arr,e1,e2,fun j x y q1 q2=>shut0_r0 (List.all_eq_true.1 h1 x (List.mem_of_getElem? q1)) (e3 j x y q1 q2)⟩
 ·rw [r1_r0 (zW h2).1] at h ⊢
  exact shut0_r0 h1 h
theorem shut0_ro {b o:Nat} {v:AV} {u:Value} (hv:shut0 true (fun _=>true) v=true) (h:RO P G own w b o v u):RO P G' own w b o v u:=by
 cases v<;>first | exact h | simp [shut0,capIn] at hv
theorem r1_rl {b:Nat} {v:AV} {u:Value} (h:R1 P G own w v u) (hv:∀ l,v≠.tup l):RL P G own w b v u:=by
 refine RV.at ?_
 cases v<;>first | exact h | exact absurd rfl (hv _)
end
theorem st_entry {nt:Nat} {own:Own} {w:World} {args outs:List AV} {vs:Array Value} (hlen:args.length≤nt) (ha:args.all (shut1 false fun _=>true)=true) (ho:outs.all (shut1 true fun _=>true)=true)
 (hO:Outs P own w outs) (hA:Args P own w args vs):St P nt (entry 0 args outs) own { tmps:=vs++Array.replicate (nt - vs.size) undef,defers:=[] } w:=by
 have hsz:=hA.1
 refine ⟨by simp;omega,fun t v h=>?_,fun b v hb _ h=>?_,fun b v hm h=>?_,hO.one,hO.lt⟩
 ·rcases zda _ _ _ _ _ h with ⟨j,e1,e2⟩ | ⟨j,e1,e2⟩
  ·have:t=j:=by have:=tb_inj e1;omega
   subst this
   have hlt:t < vs.size:=by have:=(List.getElem?_eq_some_iff.1 e2).1;omega
   have hs:=List.all_eq_true.1 ha v (List.mem_of_getElem? e2)
   refine ⟨vs[t],by rw [Array.getElem?_append_left hlt];simp [hlt],r1_rl (shut1_r1 hs (hA.2 t v _ e2 (by simp [hlt]))) ?_⟩
   intro l e;subst e;simp [shut1,shut0,capIn] at hs
  ·exfalso;simp only [tb,ob] at e1;omega
 ·rcases zda _ _ _ _ _ h with ⟨j,e1,e2⟩ | ⟨j,e1,e2⟩
  ·subst e1;simp [tb] at hb
  ·rw [Nat.zero_add] at e1;subst e1
   obtain ⟨k,arr,T,h1,h2,h3⟩:=hO.boxes j v e2
   have hs:=List.all_eq_true.1 ho v (List.mem_of_getElem? e2)
   exact ⟨k,arr,T,h1,h2,h3.1,fun i x u q1 q2=>shut0_ro ((zdp (f:=id) hs).2 x (List.mem_of_getElem? q1)) (h3.2 i x u q1 q2)⟩
 ·exfalso
  rcases zda _ _ _ _ _ h with ⟨j,e1,e2⟩ | ⟨j,e1,e2⟩
  ·subst e1;exact zd2 hm (by simp only [tb];omega)
  ·rw [Nat.zero_add] at e1;subst e1;rw [zgu] at hm;cases hm
def res1 (q:Nat) (v:AV):RM:=
 match v with
 | .own E l=>.ret [.set 0 (.own E l)]
 | .agg l=>cpoL l fun l U=>if U.all (frzOff q)=true then .ret (.set 0 (.agg l) :: U) else .fail
 | v=>cp v fun x U=>.ret (.set 0 x :: U)
def cellFits (i:TI):AV→Bool
 | .agg l=>isAggD i.desc && l.length == i.size
 | .tup _=>false
 | _=>!isAggD i.desc
def cellR (c:Cfg) (a:Tmp) (T:TypeId) (k:Nat→AV→RM):RM:=
 .ask (tb a) none fun p=>match p,c.ti T with
  | .ptr b 0,some i=>if b % 3=2∧isM b=false then .ask b none fun v=>if cellFits i v=true then k b v else .fail else .fail
  | _,_=>.fail
def rdR (c:Cfg) (r:ResultVar) (k:AV→RM):RM:=
 match r with
 | .tmp t=>.ask (tb t) none fun v=>k (vw (tb t) v)
 | .cell a T=>cellR c a T fun b v=>k (vw b v)
def rdRs (c:Cfg):List ResultVar→(List AV→RM)→RM
 | [],k=>k []
 | r :: rs,k=>rdR c r fun v=>rdRs c rs fun l=>k (v :: l)
def resRM (c:Cfg):List ResultVar→RM
 | [.tmp t]=>.ask (tb t) none (res1 (tb t))
 | [.cell a T]=>cellR c a T res1
 | rs=>rdRs c rs fun vs=>cps vs fun xs U=>.ret (.set 0 (.tup xs) :: U)
def outsOf:Nat→Nat→Sta→(List AV→Prop)→Prop
 | 0,_,_,K=>K []
 | n+1,i,G,K=>∃ v,get G (ob i)=some v∧outsOf n (i+1) G fun l=>K (v :: l)
theorem zds {G:Sta}:∀ {n i:Nat} {K:List AV→Prop},outsOf n i G K→∃ l,K l∧∀ (j:Nat) v,l[j]?=some v→get G (ob (i+j))=some v
 | 0,i,K,h=>⟨[],h,fun j v h=>by simp at h⟩
 | n+1,i,K,h=>by
   obtain ⟨v,h1,h2⟩:=h
   obtain ⟨l,h3,h4⟩:=zds h2
   refine ⟨v :: l,h3,fun j x hx=>?_⟩
   cases j with
   | zero=>simp at hx;subst hx;exact h1
   | succ j=>simp at hx;rw [← h4 j x hx];congr 2;omega
def endU (n:Nat) (R:AV→List AV→Prop) (G:Sta):List Up→Prop
 | .set _ x :: W=>outsOf n 0 (app W G) (R x)
 | _=>False
def endK (CE:CEx) (c:Cfg) (rs:List ResultVar) (n:Nat) (R:AV→List AV→Prop):Ex→Sta→Prop
 | .exit _,_=>False
 | _,G=>(resRM c rs).wq CE G (endU n R G)
def resOwn (b:Nat) (own:Own):Own:=fun k=>
 match own k with
 | some (.sl c j)=>if c=b then some (.sl 0 j) else if c=0 then none else some (.sl c j)
 | x=>x
section
variable {own : Own} {w : World} {b : Nat}
theorem zem {k c:Nat}:own k=some (.box c)→resOwn b own k=some (.box c):=by intro h;simp only [resOwn,h]
theorem zdo {k:Nat} (h:own k=none):resOwn b own k=none:=by simp only [resOwn,h]
theorem resOwn_sl {k c j:Nat} (h:own k=some (.sl c j)) (h1:c≠b) (h2:c≠0):resOwn b own k=some (.sl c j):=by simp only [resOwn,h,if_neg h1,if_neg h2]
theorem resOwn_at {k j:Nat} (h:own k=some (.sl b j)):resOwn b own k=some (.sl 0 j):=by simp only [resOwn,h,if_true]
theorem resOwn_tr:Tr own w (resOwn b own) w:=
 ⟨Nat.le_refl _,fun k _ h=>⟨zdo h,rfl⟩,rfl,rfl,rfl,fun k o h=>⟨by simp only [resOwn,h],rfl⟩,fun k c _ h=>zem h⟩
theorem resOwn_lt {n:Nat} (h2:∀ k o,own k=some o→k < n) (k:Nat) (o:Owner) (h:resOwn b own k=some o):k < n:=by
 simp only [resOwn] at h
 split at h
 ·rename_i hk;exact h2 k _ hk
 ·exact h2 k o h
theorem resOwn_one (h1:∀ k k' o,own k=some o→own k'=some o→k=k') (k k':Nat) (o:Owner) (h:resOwn b own k=some o) (h':resOwn b own k'=some o):k=k':=by
 simp only [resOwn] at h h'
 split at h
 ·rename_i c j hk
  split at h
  ·rename_i e;subst e;cases h
   split at h'
   ·rename_i c' j' hk'
    split at h'
    ·rename_i e;subst e;cases h';exact h1 _ _ _ hk hk'
    ·split at h'
     ·cases h'
     ·rename_i e1 e2;cases h';exact absurd rfl e2
   ·rename_i hne;exact absurd h' (hne 0 j)
  ·split at h
   ·cases h
   ·rename_i e1 e2;cases h
    split at h'
    ·rename_i c' j' hk'
     split at h'
     ·cases h';exact absurd rfl e2
     ·split at h'
      ·cases h'
      ·cases h';exact h1 _ _ _ hk hk'
    ·exact h1 _ _ _ hk h'
 ·rename_i hne
  split at h'
  ·rename_i c' j' hk'
   split at h'
   ·cases h';exact absurd h (hne 0 j')
   ·split at h'
    ·cases h'
    ·cases h';exact absurd h (hne c' j')
  ·exact h1 _ _ _ h h'
end
section
variable {G : Sta} {own own' : Own} {w : World}
theorem slv_nil {b o i n:Nat} {u:Value}:SlV P [] own w b o i n u:=by unfold SlV;simp [look,get]
theorem epv_nil {b o i n:Nat} {u:Value}:EpV P [] own w b o i n u:=by unfold EpV;simp [look,get]
theorem zcf (hn:∀ k,own k=none→own' k=none) (hb:∀ k b,own k=some (.box b)→own' k=some (.box b)) {v:AV} {u:Value} (h:RC own w v u):RC own' w v u:=by
 cases v with
 | bad=>trivial
 | f x=>exact ⟨h.1,h.2.mono0 hn⟩
 | ptr b o=>obtain ⟨k,h1,h2⟩:=h;exact ⟨k,hb k b h1,h2⟩
 | fp x o=>
   obtain ⟨k,q,h1,h2,h3,h4⟩:=h
   exact ⟨k,q,h1,hn _ h2,h3,fun j y hy=>let ⟨z,e1,e2⟩:=h4 j y hy;⟨z,e1,e2.mono0 hn⟩⟩
 | _=>exact h.elim
theorem r0_weak (hn:∀ k,own k=none→own' k=none) (hb:∀ k b,own k=some (.box b)→own' k=some (.box b)) {v:AV} {u:Value} (h:R0 P G own w v u):R0 P [] own' w v u:=by
 cases v with
 | rf b o i n=>exact slv_nil (P:=P) (own:=own') (w:=w) (b:=b) (o:=o) (i:=i) (n:=n) (u:=u)
 | ep b o i n=>exact epv_nil (P:=P) (own:=own') (w:=w) (b:=b) (o:=o) (i:=i) (n:=n) (u:=u)
 | clo g caps=>obtain ⟨arr,e1,e2,e3⟩:=h;exact ⟨arr,e1,e2,fun j x y h1 h2=>zcf hn hb (e3 j x y h1 h2)⟩
 | bad=>trivial
 | f x=>exact zcf (w:=w) (u:=u) (v:=.f x) hn hb h
 | ptr b o=>exact zcf (w:=w) (u:=u) (v:=.ptr b o) hn hb h
 | fp x o=>exact zcf (w:=w) (u:=u) (v:=.fp x o) hn hb h
 | _=>exact h.elim
theorem ownl_weak {b b' o:Nat} (hn:∀ k,own k=none→own' k=none) (hs:∀ k j,own k=some (.sl b j)→own' k=some (.sl b' j)) {E:TypeId} {l:List FV} {u:Value} (h:OwnL P own w b o E l u):OwnL P own' w b' o E l u:=by
 obtain ⟨a,c,e1,e2,e3⟩:=h
 refine ⟨a,c,e1,e2,e3.imp id ?_⟩
 rintro ⟨k,e4,e5,arr,e6,e7,e8,e9⟩
 exact ⟨k,e4,hs _ _ e5,arr,e6,e7,e8,fun i x j y h1 h2=>let ⟨z,q1,q2⟩:=e9 i x j y h1 h2;⟨z,q1,q2.mono0 hn⟩⟩
theorem ro_weak {b b' o:Nat} (hn:∀ k,own k=none→own' k=none) (hb:∀ k b,own k=some (.box b)→own' k=some (.box b)) (hs:∀ k j,own k=some (.sl b j)→own' k=some (.sl b' j)) {v:AV} {u:Value} (h:RO P G own w b o v u):RO P [] own' w b' o v u:=by
 cases v with
 | own E l=>exact ownl_weak hn hs h
 | rf b o i n=>exact slv_nil (P:=P) (own:=own') (w:=w) (b:=b) (o:=o) (i:=i) (n:=n) (u:=u)
 | ep b o i n=>exact epv_nil (P:=P) (own:=own') (w:=w) (b:=b) (o:=o) (i:=i) (n:=n) (u:=u)
 | clo g caps=>exact r0_weak (P:=P) (G:=G) (w:=w) (u:=u) (v:=.clo g caps) hn hb h
 | bad=>trivial
 | f x=>exact zcf (w:=w) (u:=u) (v:=.f x) hn hb h
 | ptr b o=>exact zcf (w:=w) (u:=u) (v:=.ptr b o) hn hb h
 | fp x o=>exact zcf (w:=w) (u:=u) (v:=.fp x o) hn hb h
 | _=>exact h.elim
theorem r1_weak (hn:∀ k,own k=none→own' k=none) (hb:∀ k b,own k=some (.box b)→own' k=some (.box b)) {v:AV} {u:Value} (h:R1 P G own w v u):R1 P [] own' w v u:=by
 cases v with
 | agg l=>obtain ⟨arr,e1,e2,e3⟩:=h;exact ⟨arr,e1,e2,fun j x y h1 h2=>r0_weak hn hb (e3 j x y h1 h2)⟩
 | rf b o i n=>exact slv_nil (P:=P) (own:=own') (w:=w) (b:=b) (o:=o) (i:=i) (n:=n) (u:=u)
 | ep b o i n=>exact epv_nil (P:=P) (own:=own') (w:=w) (b:=b) (o:=o) (i:=i) (n:=n) (u:=u)
 | clo g caps=>exact r0_weak (P:=P) (G:=G) (w:=w) (u:=u) (v:=.clo g caps) hn hb h
 | bad=>trivial
 | f x=>exact zcf (w:=w) (u:=u) (v:=.f x) hn hb h
 | ptr b o=>exact zcf (w:=w) (u:=u) (v:=.ptr b o) hn hb h
 | fp x o=>exact zcf (w:=w) (u:=u) (v:=.fp x o) hn hb h
 | _=>exact h.elim
theorem rv_rl_weak {b:Nat} (hn:∀ k,own k=none→own' k=none) (hb:∀ k b,own k=some (.box b)→own' k=some (.box b)) {v:AV} {u:Value} (h:RV P G own w v u):RL P [] own' w b v u:=by
 refine RV.at ?_
 cases v with
 | tup l=>obtain ⟨arr,e1,e2,e3⟩:=h;exact ⟨arr,e1,e2,fun j x y h1 h2=>r1_weak hn hb (e3 j x y h1 h2)⟩
 | agg l=>exact r1_weak (P:=P) (G:=G) (w:=w) (u:=u) (v:=.agg l) hn hb h
 | rf b o i n=>exact slv_nil (P:=P) (own:=own') (w:=w) (b:=b) (o:=o) (i:=i) (n:=n) (u:=u)
 | ep b o i n=>exact epv_nil (P:=P) (own:=own') (w:=w) (b:=b) (o:=o) (i:=i) (n:=n) (u:=u)
 | clo g caps=>exact r0_weak (P:=P) (G:=G) (w:=w) (u:=u) (v:=.clo g caps) hn hb h
 | bad=>trivial
 | f x=>exact zcf (w:=w) (u:=u) (v:=.f x) hn hb h
 | ptr b o=>exact zcf (w:=w) (u:=u) (v:=.ptr b o) hn hb h
 | fp x o=>exact zcf (w:=w) (u:=u) (v:=.fp x o) hn hb h
 | _=>exact h.elim
theorem outs_weak {nt:Nat} {a:Act} (s:St P nt G own a w) {l:List AV} (hl:∀ (j:Nat) v,l[j]?=some v→get G (ob j)=some v) (hn:∀ k,own k=none→own' k=none) (hb:∀ k b,own k=some (.box b)→own' k=some (.box b))
 (hs:∀ i k j,own k=some (.sl (ob i) j)→own' k=some (.sl (ob i) j)) (h1:∀ k k' o,own' k=some o→own' k'=some o→k=k') (h2:∀ k o,own' k=some o→k < w.heap.size):Outs P own' w l:=by
 refine ⟨fun i v hv=>?_,h1,h2⟩
 obtain ⟨k,arr,T,e1,e2,e3⟩:=s.boxes (ob i) v (by simp only [ob];omega) (zgu i) (hl i v hv)
 exact ⟨k,arr,T,hb _ _ e1,e2,e3.1,fun j x u q1 q2=>ro_weak hn hb (hs i) (e3.2 j x u q1 q2)⟩
end
section
variable {CE : CEx} {G : Sta} {own : Own} {a : Act} {w : World} {nt n : Nat} {R : AV → List AV → Prop}
def Ends (P:Program) (R:AV→List AV→Prop) (own:Own) (w:World) (u:Value):Prop:=
 ∃ own' r outs',R r outs'∧Tr own w own' w∧Outs P own' w outs'∧RL P [] own' w 0 r u
theorem zhG (s:St P nt G own a w) {t:Nat} {v:AV} (h:get G (tb t)=some v):RL P G own w (tb t) v (a.tmps.getD t undef):=by
 obtain ⟨u,h1,h2⟩:=s.temps t v h
 rw [Array.getD_eq_getD_getElem?,h1];exact h2
theorem ziy {W:List Up} {own1:Own} {x:AV} {u:Value} (s:St P nt (app W G) own1 a w) (ht:Tr own w own1 w) (hx:RV P (app W G) own1 w x u) (h:outsOf n 0 (app W G) (R x)):Ends P R own w u:=by
 obtain ⟨l,h1,h2⟩:=zds h
 refine ⟨own1,x,l,h1,ht,outs_weak s (fun j v hv=>by have:=h2 j v hv;rwa [Nat.zero_add] at this) (fun _ h=>h) (fun _ _ h=>h) (fun _ _ _ h=>h) s.one s.lt,rv_rl_weak (fun _ h=>h) (fun _ _ h=>h) hx⟩
theorem zhV {c:Cfg} (hc:CfgOk P c) (s:St P nt G own a w) {x:Tmp} {t:TypeId} {k:Nat→AV→RM} {T:List Acc} {K:List Up→List Acc→Prop} (h:(cellR c x t k).wp CE G T K) :
 ∃ b v u T',b % 3=2∧get G b=some v∧RL P G own w b v u∧(∀ ad,asAddr (a.tmps.getD x undef)=Pure.pure ad→(loadVar t ad).run P w=.ok u w)∧(∃ ad,asAddr (a.tmps.getD x undef)=Pure.pure ad)∧(k b v).wp CE G T' K:=by
 obtain ⟨p,T1,h1,h2⟩:=za1 h
 have hr:=zhG s h1
 split at h2
 ·rename_i b i hi
  split at h2
  ·rename_i hb'
   obtain ⟨hb,hmm⟩:=hb'
   obtain ⟨k',hk,hu⟩:=RC.ptr (w:=w) hr hmm
   obtain ⟨v,T2,h3,h4⟩:=za1 h2
   split at h4
   ·rename_i hfit
    obtain ⟨kk,arr,TT,e1,e2,e3⟩:=s.boxes b v (by omega) hmm h3
    have:=s.one _ _ _ e1 hk;subst this
    have hcell:∀ (j:Nat) y,arr[j]?=some y→w.cell? ⟨kk,j,none⟩=some y:=fun j y hy=>by simp [World.cell?,e2,hy]
    have hasa:∀ ad,asAddr (a.tmps.getD x undef)=Pure.pure ad→ad=⟨kk,0,none⟩:=by
     intro ad had
     rw [hu] at had
     have:=congrArg (fun m=>m.run P w) had
     simp [asAddr] at this
     exact this.symm
    have hex:∃ ad,asAddr (a.tmps.getD x undef)=Pure.pure ad:=⟨⟨kk,0,none⟩,by rw [hu];rfl⟩
    have one:isAggD i.desc=false→(∀ l,v≠.agg l)→(∀ l,v≠.tup l)→∃ u,RL P G own w b v u∧(loadVar t ⟨kk,0,none⟩).run P w=.ok u w:=by
     intro hag n1 n2
     have hlf:v.isLeaf=true:=by cases v<;>first | rfl | exact absurd rfl (n1 _) | exact absurd rfl (n2 _)
     have hlen:=e3.1
     rw [zdw hlf] at hlen
     obtain ⟨y,hy⟩:∃ y,arr[0]?=some y:=⟨arr[0]'(by simp at hlen;omega),by simp⟩
     refine ⟨y,?_,zb4 hc hi hag (hcell 0 y hy)⟩
     rw [rl_ro hlf]
     exact e3.2 0 v y (by rw [zdw hlf];rfl) hy
    have key:∃ u,RL P G own w b v u∧(loadVar t ⟨kk,0,none⟩).run P w=.ok u w:=by
     cases v with
     | agg l=>
       simp only [cellFits,Bool.and_eq_true,beq_iff_eq] at hfit
       have hlen:=e3.1
       simp only [AV.leaves] at hlen
       refine ⟨.agg arr.toList.toArray,⟨arr,by simp,hlen,fun j y u f1 f2=>e3.2 j y u f1 f2⟩,?_⟩
       refine zcG hc hi hfit.1 (by simp;omega) (fun j u hu=>?_)
       rw [Nat.zero_add];exact hcell j u (by simpa using hu)
     | tup l=>simp [cellFits] at hfit
     | _=>exact one (by simpa [cellFits] using hfit) (by simp) (by simp)
    obtain ⟨u,k1,k2⟩:=key
    exact ⟨b,v,u,T2,hb,h3,k1,fun ad had=>by rw [hasa ad had];exact k2,hex,h4⟩
   ·exact h4.elim
  ·exact h2.elim
 ·exact h2.elim
def resVal (r:ResultVar) (tmps:Array Value):Sem Value:=
 match r with
 | .tmp t=>pure (tmps.getD t undef)
 | .cell a t=>do loadVar t (← asAddr (tmps.getD a undef))
theorem rdR_sound {c:Cfg} (hc:CfgOk P c) (s:St P nt G own a w) {r:ResultVar} {k:AV→RM} {T:List Acc} {K:List Up→List Acc→Prop} (h:(rdR c r k).wp CE G T K) :
 ∃ v u T',RV P G own w v u∧(resVal r a.tmps).run P w=.ok u w∧(k v).wp CE G T' K:=by
 cases r with
 | tmp t=>
   obtain ⟨v,T',h1,h2⟩:=za1 h
   exact ⟨_,_,T',RL.view (zhG s h1) h1,rfl,h2⟩
 | cell x t=>
   obtain ⟨b,v,u,T',h1,h2,h3,h4,⟨ad,h5⟩,h6⟩:=zhV hc s h
   refine ⟨_,u,T',RL.view h3 h2,?_,h6⟩
   simp only [resVal,h5]
   simpa using h4 ad h5
theorem zij {c:Cfg} (hc:CfgOk P c) (s:St P nt G own a w):∀ {rs:List ResultVar} {k:List AV→RM} {T:List Acc} {K:List Up→List Acc→Prop},(rdRs c rs k).wp CE G T K→
 ∃ (vs:List AV) (us:List Value) (T':List Acc),vs.length=us.length∧rs.length=us.length∧(∀ (j:Nat) v u,vs[j]?=some v→us[j]?=some u→RV P G own w v u)∧
   (∀ (j:Nat) r u,rs[j]?=some r→us[j]?=some u→(resVal r a.tmps).run P w=.ok u w)∧(k vs).wp CE G T' K
 | [],k,T,K,h=>⟨[],[],T,rfl,rfl,fun j v u h=>by simp at h,fun j v u h=>by simp at h,h⟩
 | r :: rs,k,T,K,h=>by
   obtain ⟨v,u,T1,h1,h2,h3⟩:=rdR_sound hc s h
   obtain ⟨vs,us,T2,k1,k2,k3,k4,k5⟩:=zij hc s h3
   refine ⟨v :: vs,u :: us,T2,by simp [k1],by simp [k2],fun j x y e1 e2=>?_,fun j x y e1 e2=>?_,k5⟩
   ·cases j with
    | zero=>simp at e1 e2;subst e1 e2;exact h1
    | succ j=>simp at e1 e2;exact k3 j x y e1 e2
   ·cases j with
    | zero=>simp at e1 e2;subst e1 e2;exact h2
    | succ j=>simp at e1 e2;exact k4 j x y e1 e2
theorem run_mapM {α:Type} (f:α→Sem Value):∀ (l:List α) (us:List Value),l.length=us.length→(∀ (j:Nat) x u,l[j]?=some x→us[j]?=some u→(f x).run P w=.ok u w)→(l.mapM f).run P w=.ok us w
 | [],[],_,_=>by simp
 | x :: l,u :: us,hl,h=>by
   have ih:=run_mapM f l us (by simpa using hl) (fun j x u e1 e2=>h (j+1) x u (by simpa using e1) (by simpa using e2))
   have h0:=h 0 x u rfl rfl
   simp [List.mapM_cons,h0,ih]
 | [],_ :: _,h,_=>by simp at h
 | _ :: _,[],h,_=>by simp at h
theorem zhj {fn:Func} {tmps:Array Value} {us:List Value} (hl:fn.results.toList.length=us.length) (h:∀ (j:Nat) r u,fn.results.toList[j]?=some r→us[j]?=some u→(resVal r tmps).run P w=.ok u w) :
 (results fn tmps).run P w=.ok (if h:us.toArray.size=1 then us.toArray[0] else .tuple us.toArray) w:=by
 have e:results fn tmps=(do let vs ← fn.results.mapM fun r=>resVal r tmps;pure (if h:vs.size=1 then vs[0] else .tuple vs)):=by
  unfold results
  congr 1
 rw [e,Array.mapM_eq_mapM_toList]
 simp [run_mapM (P:=P) (w:=w) (fun r=>resVal r tmps) _ _ hl h]
theorem zii {q:Nat} (hq:∀ i,ob i≠q) {v:AV} {u:Value} {T:List Acc} (s:St P nt G own a w) (hr:RL P G own w q v u) (h:(res1 q v).wp CE G T fun U _=>endU n R G U):Ends P R own w u:=by
 have key:∀ {W:List Up} {own1:Own} {x:AV},FrzOnly W→St P nt (app W G) own1 a w→Tr own w own1 w→(x.isLeaf=true→RO P (app W G) own1 w q 0 x u)→(∀ l,x=.agg l→RL P (app W G) own1 w q x u)→
  (x.isLeaf=true∨∃ l,x=.agg l)→outsOf n 0 (app W G) (R x)→Ends P R own w u:=by
  intro W own1 x hW s1 ht hx1 hx2 hx3 ho
  obtain ⟨l,h1,h2⟩:=zds ho
  refine ⟨resOwn q own1,x,l,h1,ht.trans resOwn_tr,outs_weak s1 (fun j v hv=>by have:=h2 j v hv;rwa [Nat.zero_add] at this) (fun _ h=>zdo h) (fun _ _ h=>zem h)
   (fun i k j h=>resOwn_sl h (hq i) (by simp only [ob];omega)) (resOwn_one s1.one) (resOwn_lt s1.lt),?_⟩
  rcases hx3 with hl | ⟨m,rfl⟩
  ·rw [rl_ro hl]
   exact ro_weak (fun _ h=>zdo h) (fun _ _ h=>zem h) (fun _ _ h=>resOwn_at h) (hx1 hl)
  ·obtain ⟨arr,e1,e2,e3⟩:=hx2 m rfl
   exact ⟨arr,e1,e2,fun j x y q1 q2=>ro_weak (fun _ h=>zdo h) (fun _ _ h=>zem h) (fun _ _ h=>resOwn_at h) (e3 j x y q1 q2)⟩
 have plain:(∀ E l,v≠.own E l)→(∀ l,v≠.agg l)→(∀ l,v≠.tup l)→(cp v fun x U=>.ret (.set 0 x :: U)).wp CE G T (fun U _=>endU n R G U)→Ends P R own w u:=by
  intro n1 n2 n3 h
  have hlf:v.isLeaf=true:=by cases v<;>first | rfl | exact absurd rfl (n2 _) | exact absurd rfl (n3 _)
  have hrv:RV P G own w v u:=by
   rw [rv_r0 n2 n3]
   rw [rl_ro hlf,zeU n1] at hr
   exact hr
  obtain ⟨x,W,T2,own1,k1,k2,k3,k4,k5,k6⟩:=zfC (U:=[]) FrzOnly.nil s hrv h
  simp only [List.nil_append] at k2 k3 k4
  exact ziy k2 k3.tr k4 k6
 cases v with
 | own E l=>
   refine key (W:=[]) (x:=.own E l) FrzOnly.nil s (Tr.refl _ _) (fun _=>hr) (fun l e=>by cases e) (.inl rfl) h
 | agg l=>
   obtain ⟨arr,e1,e2,e3⟩:=hr
   obtain ⟨xs,W,T2,k1,k2,k3,k4,k6⟩:=zeq (U:=[]) (j0:=0) (ow:=fun j v u=>RO P G own w q j v u) FrzOnly.nil s (us:=arr.toList) ⟨by simpa using e2,fun j v u q1 q2=>by
    have:=e3 j v u q1 (by simpa using q2)
    cases v with
    | own E l=>exact .inl ⟨E,l,rfl,by rw [Nat.zero_add];exact this⟩
    | _=>exact .inr this⟩ h
   simp only [List.nil_append] at k2 k3 k4
   split at k6
   ·rename_i hoff
    refine key (x:=.agg xs) k1 k2 k3.tr (fun h=>by simp [AV.isLeaf] at h) (fun m hm=>?_) (.inr ⟨_,rfl⟩) k6
    refine ⟨arr,e1,by simpa using k4.1,fun j x y q1 q2=>?_⟩
    rcases k4.2 j x y q1 (by simpa using q2) with ⟨E,l,rfl,h1⟩ | ⟨h1,h2⟩
    ·rw [Nat.zero_add] at h1
     exact (zfu (sb:=q) k1 hoff (G:=G) (own:=own)).2 j E l y h1
    ·cases x<;>first | exact h2 | simp [AV.plain0] at h1
   ·exact k6.elim
 | tup l=>exact h.elim
 | _=>exact plain (by simp) (by simp) (by simp) h
theorem end_sound {c:Cfg} (hc:CfgOk P c) {fn:Func} (s:St P nt G own a w) (h:(resRM c fn.results.toList).wp CE G [] fun U _=>endU n R G U):∃ u,(results fn a.tmps).run P w=.ok u w∧Ends P R own w u:=by
 have one:∀ {r:ResultVar} {u:Value},fn.results.toList=[r]→(resVal r a.tmps).run P w=.ok u w→(results fn a.tmps).run P w=.ok u w:=by
  intro r u e hr
  rw [zhj (us:=[u]) (by rw [e];rfl) (fun j x y e1 e2=>by
   rw [e] at e1
   cases j with
   | zero=>simp at e1 e2;subst e1 e2;exact hr
   | succ j=>simp at e1)]
  rfl
 unfold resRM at h
 split at h
 ·rename_i t e
  obtain ⟨v,T',h1,h2⟩:=za1 h
  exact ⟨_,one e rfl,zii (fun i=>by simp only [ob,tb];omega) s (zhG s h1) h2⟩
 ·rename_i x t e
  obtain ⟨b,v,u,T',h1,h2,h3,h4,⟨ad,h5⟩,h6⟩:=zhV hc s h
  refine ⟨u,one e ?_,zii (fun i=>by intro e;rw [← e] at h1;simp only [ob] at h1;omega) s h3 h6⟩
  simp only [resVal,h5]
  simpa using h4 ad h5
 ·rename_i hn1 hn2
  obtain ⟨vs,us,T1,h1,h2,h3,h4,h5⟩:=zij hc s h
  have hlen:¬ us.toArray.size=1:=by
   intro e
   simp only [List.size_toArray] at e
   rw [e] at h2
   match hrs:fn.results.toList,h2 with
   | [r],_=>cases r with
     | tmp t=>exact hn1 t hrs
     | cell x t=>exact hn2 x t hrs
  refine ⟨_,zhj h2 h4,?_⟩
  rw [dif_neg hlen]
  obtain ⟨xs,W,T2,own1,k1,k2,k3,k4,k5,k6⟩:=zhS (U:=[]) FrzOnly.nil s (us:=us) ⟨h1,h3⟩ h5
  simp only [List.nil_append] at k2 k3 k4
  refine ziy k2 k3.tr (x:=.tup xs) ⟨_,rfl,by simpa using k4.1,fun j x v e1 e2=>?_⟩ k6
  have hr:=k4.2 j x v e1 (by simpa using e2)
  have hp:=k5 x (List.mem_of_getElem? e1)
  cases x<;>first | exact hr | simp [AV.plain1,AV.plain0] at hp
end
theorem wideF:WideF P Fence.wide:=⟨fun _=>trivial,rfl,fun _ _ _ _ _ h=>callsIn_wide.2 h⟩
end Go.Ev
namespace Go.Ev
open Go Go.RowKit
def zcells (P:Program):Nat→TypeId→List AV
 | 0,_=>[]
 | n+1,t=>match P.underlying t with
   | some (.struct fs)=>fs.toList.flatMap fun f=>zcells P n f.type
   | some (.array m E)=>(List.replicate m (zcells P n E)).flatten
   | some (.slice E)=>[.own E []]
   | _=>match (P.info? t).bind (·.zero) with
     | some v=>[.f (.pv v)]
     | none=>[]
def zeroLeafB:AV→Value→Bool
 | .f (.pv v),u=>v.oneCell' && sameV v u
 | .own _ [],.slice none 0 0=>true
 | _,_=>false
 where sameV:Value→Value→Bool
 | .bool a,.bool b=>a == b
 | .int k a,.int l b=>k == l && a == b
 | .string a,.string b=>a.toList == b.toList && a.size == 0 && b.size == 0
 | .pointer none,.pointer none=>true
 | .nilIface,.nilIface=>true
 | .nilFunc,.nilFunc=>true
 | .map none,.map none=>true
 | _,_=>false
def zeroLs:List AV→List Value→Bool
 | [],[]=>true
 | x :: l,v :: m=>zeroLeafB x v && zeroLs l m
 | _,_=>false
def zeroFitsB:AV→Value→Bool
 | .agg l,.agg a=>zeroLs l a.toList
 | .agg _,_=>false
 | v,u=>zeroLeafB v u
theorem sameV_eq {u v:Value} (h:zeroLeafB.sameV u v=true):v=u:=by
 unfold zeroLeafB.sameV at h
 split at h<;>simp_all
theorem zeF {x:AV} {v:Value} (h:zeroLeafB x v=true):zeroLeaf x v:=by
 unfold zeroLeafB at h
 split at h
 ·simp only [Bool.and_eq_true] at h;exact ⟨sameV_eq h.2,h.1⟩
 ·rfl
 ·cases h
theorem zg9:∀ {l:List AV} {m:List Value},zeroLs l m=true→l.length=m.length∧∀ (j:Nat) x v,l[j]?=some x→m[j]?=some v→zeroLeaf x v
 | [],[],_=>⟨rfl,fun j x v h=>by simp at h⟩
 | x :: l,v :: m,h=>by
   simp only [zeroLs,Bool.and_eq_true] at h
   obtain ⟨h1,h2⟩:=zg9 h.2
   refine ⟨by simp [h1],fun j y u e1 e2=>?_⟩
   cases j with
   | zero=>simp at e1 e2;subst e1 e2;exact zeF h.1
   | succ j=>simp at e1 e2;exact h2 j y u e1 e2
 | [],_ :: _,h=>by simp [zeroLs] at h
 | _ :: _,[],h=>by simp [zeroLs] at h
theorem zh7 {z:AV} {v:Value} (h:zeroFitsB z v=true):zeroFits z v:=by
 unfold zeroFitsB at h
 split at h
 ·rename_i l a
  obtain ⟨h1,h2⟩:=zg9 h
  exact ⟨a,rfl,by simpa using h1,fun j x u e1 e2=>h2 j x u e1 (by simpa using e2)⟩
 ·cases h
 ·rename_i hn
  have:=zeF h
  cases z<;>first | exact this | exact this.elim
def zeroOf (P:Program) (d:TypeDesc) (t:TypeId) (f:TypeInfo):Option AV:=
 let z:=if isAggD d=true then some (AV.agg (zcells P 8 t)) else (zcells P 8 t)[0]?
 match z,f.zero with
 | some z,some v=>if zeroFitsB z v=true then some z else none
 | _,_=>none
def tiOf (P:Program) (t:TypeId):Option TI:=
 match P.underlying t,P.info? t with
 | some d,some f=>some ⟨d,f.size,f.bytes,zeroOf P d t f⟩
 | _,_=>none
theorem tiOf_ok {P:Program} {t:TypeId} {i:TI} (h:tiOf P t=some i):TiOk P t i:=by
 unfold tiOf at h
 split at h
 ·rename_i d f hd hf
  cases h
  refine ⟨hd,f,hf,rfl,rfl,fun z hz=>?_⟩
  simp only [zeroOf] at hz
  split at hz
  ·rename_i z' v h1 h2
   split at hz
   ·rename_i h3;cases hz;exact ⟨v,h2,zh7 h3⟩
   ·cases hz
  ·cases hz
 ·cases h
theorem zE {P:Program} {t:TypeId} {d:TypeDesc} {f:TypeInfo} {z:Option AV} (h1:P.underlying t=some d) (h2:P.info? t=some f) (h3:zeroOf P d t f=z):tiOf P t=some ⟨d,f.size,f.bytes,z⟩:=by
 simp only [tiOf,h1,h2,h3]
section
variable {CE : CEx} {c : Cfg} {ops : Array Oper} {G : Sta}
end
def tabGo:List Oper→List (List Nat)→List (List Nat)
 | [],t=>t
 | o :: r,t=>
   let ps:=(o.after.toList.filter (Region.binds .any)).map (·.on)
   tabGo r (t++[addNew [] (ps++ps.flatMap fun p=>t.getD p [])])
def tabOf (ops:Array Oper):List (List Nat):=tabGo ops.toList []
theorem wrap64 {m:Int} (h0:-9223372036854775808≤m) (h:m < 9223372036854775808):IntKind.i64.wrap m=m:=by
 simp [IntKind.wrap,IntKind.bits,IntKind.signed]
 omega
end Go.Ev
