import Derived.Test.YtdjaimobmmgobaaGreatA05
set_option linter.unusedSimpArgs false
set_option linter.unusedVariables false
namespace Go.Ev.Pl
set_option maxRecDepth 8000
open Go Go.Ev
theorem zgH (a:Int):∀ {l:List Int},l.Nodup→l.length≤(l.filter fun x=>x != a).length+1
 | [],_=>by simp
 | b :: r,h=>by
   rw [List.nodup_cons] at h
   by_cases e:b=a
   ·subst e
    have:(b :: r).filter (fun x=>x != b)=r:=by
     rw [List.filter_cons_of_neg (by simp),List.filter_eq_self]
     intro x hx
     have:x≠b:=fun e=>h.1 (e▸hx)
     simpa using this
    rw [this];simp
   ·have ih:=zgH a h.2
    rw [List.filter_cons_of_pos (by simpa using e)]
    simp;omega
theorem nodup_len:∀ (N:Nat) {l:List Int},l.Nodup→(∀ x∈l,0≤x∧x < N)→l.length≤N
 | 0,[],_,_=>Nat.le_refl _
 | 0,x :: r,_,h=>by have:=h x (List.mem_cons_self ..);omega
 | N+1,l,hn,h=>by
   have h1:=zgH (N:Int) hn
   have h2:=nodup_len N (l:=l.filter fun x=>x != (N:Int)) (hn.filter _) (fun x hx=>by
    rw [List.mem_filter] at hx
    have:=h x hx.1
    have hx2:x≠(N:Int):=by simpa using hx.2
    omega)
   omega
structure OI (d:zZ) (g:List Int) (o:zx):Prop where
 g:o.G=g
 l:o.L.length=o.State.length
 nd:o.L.Nodup
 lr:∀ x∈o.L,0≤x∧x < (500:Nat)
 sr:∀ k∈o.State,0≤k∧k < d.Rows.length
theorem OI.len {d:zZ} {g:List Int} {o:zx} (h:OI d g o):o.L.length≤500∧o.State.length≤500:=by
 have:=nodup_len 500 h.nd h.lr
 exact ⟨this,by rw [← h.l];exact this⟩
theorem ixL_lt {x:Int}:∀ {l:List Int},¬ ixL x l < l.length→x∉l
 | [],_=>by simp
 | a :: r,h=>by
   rw [ixL] at h
   split at h
   ·simp at h
   ·rename_i hne
    have:=ixL_lt (l:=r) (x:=x) (by simpa using h)
    simp only [List.mem_cons,not_or]
    exact ⟨fun e=>hne e.symm,this⟩
theorem num_oi {d:zZ} {g:List Int} (gl:g.length=d.Rows.length) (gr:∀ x∈g,x < (500:Nat)) {o:zx} (h:OI d g o) {k:Int} (hk:k < d.Rows.length):OI d g (numM o k).2∧∃ m,(numM o k).2.State=o.State++m:=by
 unfold numM
 split
 ·exact ⟨h,[],by simp⟩
 ·rename_i hn
  split
  ·exact ⟨h,[],by simp⟩
  ·rename_i hx
   have hk0:¬ k < 0:=by
    intro e;rw [groupM,if_pos e] at hn;omega
   refine ⟨⟨h.g,by simp [h.l],?_,?_,?_⟩,[k],rfl⟩
   ·rw [List.nodup_append]
    exact ⟨h.nd,by simp,fun a ha b hb=>by simp at hb;subst hb;intro e;subst e;exact ixL_lt hx ha⟩
   ·intro x hx
    rcases List.mem_append.1 hx with hx | hx
    ·exact h.lr x hx
    ·simp at hx;subst hx
     refine ⟨by omega,?_⟩
     rw [groupM,if_neg hk0,h.g]
     exact gr _ (zaQ (by omega) (by omega))
   ·intro x hx
    rcases List.mem_append.1 hx with hx | hx
    ·exact h.sr x hx
    ·simp at hx;subst hx;omega
def stF (d:zZ) (g:List Int):Nat→List Int×zx
 | 0=>([],{ G:=g,L:=[],State:=[] })
 | i+1=>((stF d g i).1++[(numM (stF d g i).2 (gd d.Start (i:Int))).1],(numM (stF d g i).2 (gd d.Start (i:Int))).2)
def rwF (d:zZ) (o:zx) (k:Int):Nat→List Int×zx
 | 0=>([],o)
 | b+1=>((rwF d o k b).1++[(numM (rwF d o k b).2 (gd (gd d.Rows k) (gd d.Map (b:Int)))).1],(numM (rwF d o k b).2 (gd (gd d.Rows k) (gd d.Map (b:Int)))).2)
structure Wd where
 acc:List Int
 wide:List (List Int)
 o:zx
def wdF (d:zZ):Nat→Nat→Wd→Wd
 | 0,_,s=>s
 | f+1,i,s=>if i < s.o.State.length then wdF d f (i+1) { acc:=s.acc++[gd d.Accept (gd s.o.State (i:Int))],wide:=s.wide++[(rwF d s.o (gd s.o.State (i:Int)) 256).1],o:=(rwF d s.o (gd s.o.State (i:Int)) 256).2 } else s
def wdM (d:zZ) (g:List Int):Wd:=wdF d 600 0 { acc:=[],wide:=[],o:=(stF d g d.Start.length).2 }
def colF (wide:List (List Int)) (b:Int):List Int→Nat
 | []=>0
 | x :: r=>if columnM wide x b=true then 0 else colF wide b r+1
def mlF (wide:List (List Int)):Nat→List Int×List Int
 | 0=>([],[])
 | b+1=>((mlF wide b).1++[(colF wide (b:Int) (mlF wide b).2:Int)],if colF wide (b:Int) (mlF wide b).2=(mlF wide b).2.length then (mlF wide b).2++[(b:Int)] else (mlF wide b).2)
def smallM (d:zZ) (g:List Int):zZ:=
 { Map:=(mlF (wdM d g).wide 256).1,Rows:=(wdM d g).wide.map fun r=>(mlF (wdM d g).wide 256).2.map fun b=>gd r b,Accept:=(wdM d g).acc,Start:=(stF d g d.Start.length).1 }
theorem stF_oi {d:zZ} (h:DB d) {g:List Int} (gl:g.length=d.Rows.length) (gr:∀ x∈g,x < (500:Nat)):∀ i,i≤d.Start.length→OI d g (stF d g i).2∧(stF d g i).1.length=i
 | 0,_=>⟨⟨rfl,rfl,List.nodup_nil,fun x h=>by simp [stF] at h,fun x h=>by simp [stF] at h⟩,rfl⟩
 | i+1,hi=>by
   obtain ⟨h1,h2⟩:=stF_oi h gl gr i (by omega)
   have:=h.start _ (zaQ (l:=d.Start) (i:=(i:Int)) (by omega) (by omega))
   exact ⟨(num_oi gl gr h1 this.2).1,by simp [stF,h2]⟩
theorem cell_ok {d:zZ} (h:DB d) {k:Int} (k0:0≤k) (k1:k < d.Rows.length) {b:Nat} (hb:b < 256) :
 0≤gd d.Map (b:Int)∧gd d.Map (b:Int) < (gd d.Rows k).length∧gd (gd d.Rows k) (gd d.Map (b:Int)) < d.Rows.length:=by
 have hm:gd d.Map (b:Int)∈d.Map:=zaQ (by omega) (by rw [h.ml];omega)
 have h1:=h.mapr _ hm
 have h2:=widM_lt _ hm
 obtain ⟨r1,r2⟩:=h.rows _ (zaQ (l:=d.Rows) k0 k1)
 have h3:gd d.Map (b:Int) < (gd d.Rows k).length:=by omega
 exact ⟨h1.1,h3,(r2 _ (zaQ h1.1 h3)).2⟩
theorem rwF_oi {d:zZ} (h:DB d) {g:List Int} (gl:g.length=d.Rows.length) (gr:∀ x∈g,x < (500:Nat)) {o:zx} (ho:OI d g o) {k:Int} (k0:0≤k) (k1:k < d.Rows.length):∀ b,b≤256→OI d g (rwF d o k b).2∧(rwF d o k b).1.length=b∧∃ m,(rwF d o k b).2.State=o.State++m
 | 0,_=>⟨ho,rfl,[],by simp [rwF]⟩
 | b+1,hb=>by
   obtain ⟨h1,h2,m,h3⟩:=rwF_oi h gl gr ho k0 k1 b (by omega)
   obtain ⟨n1,m2,n2⟩:=num_oi gl gr h1 (cell_ok h k0 k1 (b:=b) (by omega)).2.2
   exact ⟨n1,by simp [rwF,h2],m++m2,by rw [← List.append_assoc,← h3];exact n2⟩
theorem gd_app {l m:List Int} {i:Nat} (h:i < l.length):gd (l++m) (i:Int)=gd l (i:Int):=by
 show List.getD _ i default=List.getD l i default
 rw [List.getD_eq_getElem?_getD,List.getD_eq_getElem?_getD,List.getElem?_append_left h]
theorem colF_at {wide:List (List Int)} {b:Int}:∀ {l:List Int} {j:Nat},(∀ i,i < j→columnM wide (gd l (i:Int)) b=false)→j < l.length→columnM wide (gd l (j:Int)) b=true→colF wide b l=j
 | [],j,_,h,_=>by simp at h
 | a :: r,0,_,_,h=>by rw [colF,if_pos (show columnM wide a b=true from h)]
 | a :: r,j+1,h1,h2,h3=>by
   rw [colF,if_neg (by rw [show columnM wide a b=false from h1 0 (by omega)];simp),colF_at (l:=r) (j:=j) (fun i hi=>h1 (i+1) (by omega)) (by simpa using h2) h3]
theorem colF_none {wide:List (List Int)} {b:Int}:∀ {l:List Int},(∀ i,i < l.length→columnM wide (gd l (i:Int)) b=false)→colF wide b l=l.length
 | [],_=>rfl
 | a :: r,h=>by
   rw [colF,if_neg (by rw [show columnM wide a b=false from h 0 (by simp)];simp),colF_none (l:=r) (fun i hi=>h (i+1) (by simpa using hi))];rfl
theorem mlF_ok (wide:List (List Int)):∀ b,(mlF wide b).1.length=b∧(mlF wide b).2.length≤b∧∀ x∈(mlF wide b).2,0≤x∧x < b
 | 0=>⟨rfl,Nat.le_refl _,fun x h=>by simp [mlF] at h⟩
 | b+1=>by
   obtain ⟨h1,h2,h3⟩:=mlF_ok wide b
   refine ⟨by simp [mlF,h1],?_,?_⟩
   ·rw [mlF];dsimp only;split
    ·simp;omega
    ·omega
   ·intro x hx
    rw [mlF] at hx;dsimp only at hx
    split at hx
    ·rcases List.mem_append.1 hx with hx | hx
     ·have:=h3 x hx;omega
     ·simp at hx;omega
    ·have:=h3 x hx;omega
theorem wdF_wide {d:zZ} (h:DB d) {g:List Int} (gl:g.length=d.Rows.length) (gr:∀ x∈g,x < (500:Nat)):∀ (f i:Nat) (s:Wd),OI d g s.o→(∀ r∈s.wide,r.length=256)→s.wide.length=i→i≤s.o.State.length→(∀ r∈(wdF d f i s).wide,r.length=256)∧(wdF d f i s).wide.length≤500
 | 0,i,s,ho,hw,hl,hi=>⟨hw,by show s.wide.length≤500;have:=ho.len.2;omega⟩
 | f+1,i,s,ho,hw,hl,hi=>by
   rw [wdF]
   split
   ·rename_i hlt
    have hk:=ho.sr _ (zaQ (l:=s.o.State) (i:=(i:Int)) (by omega) (by omega))
    obtain ⟨r1,r2,m,r3⟩:=rwF_oi h gl gr ho hk.1 hk.2 256 (Nat.le_refl _)
    refine wdF_wide h gl gr f (i+1) _ r1 (fun r hr=>?_) (by simp [hl]) (by dsimp only;rw [r3,List.length_append];omega)
    rcases List.mem_append.1 hr with hr | hr
    ·exact hw r hr
    ·rw [List.mem_singleton.1 hr];exact r2
   ·exact ⟨hw,by have:=ho.len.2;omega⟩
theorem small12_ok {d:zZ} (h:DB d) {g:List Int} (hg:zbY d g) (gl:g.length=d.Rows.length) (gr:∀ x∈g,x < (500:Nat)):zbB d (smallM d g) 0:=by
 have hsl:=h.sl
 have hst:=stF_oi h gl gr
 have hwd:=wdF_wide h gl gr 600 0 { acc:=[],wide:=[],o:=(stF d g d.Start.length).2 } (hst _ (Nat.le_refl _)).1 (fun r hr=>by simp at hr) rfl (by omega)
 refine zf8 _ _ _ ⟨_,right11_ok h,fun hb=>(by simp at hb),fun _=>⟨g,hg,fun os i G L S=>∃ j:Nat,i=j∧j≤d.Start.length∧os=(stF d g j).1∧(⟨G,L,S⟩:zx)=(stF d g j).2,fun _ i _ _ _=>(d.Start.length - i).toNat,⟨0,rfl,by omega,rfl,rfl⟩,?_⟩⟩
 rintro _ _ G L S ⟨i,rfl,hi,rfl,ho⟩
 obtain ⟨oi,ol⟩:=hst i hi
 obtain ⟨q1,q2⟩:=oi.len
 refine ⟨fun hb=>?_,fun hb=>?_⟩
 ·have hlt:i < d.Start.length:=by have:=of_decide_eq_true hb;omega
  have hs:=h.start _ (zaQ (l:=d.Start) (i:=(i:Int)) (by omega) (by omega))
  have e2:w64 ((i:Int)+1)=((i+1:Nat):Int):=by rw [zN (by omega) (by omega)];omega
  rw [ho,e2]
  refine ⟨by omega,by omega,_,_,number_ok (by rw [oi.g,gl];exact hs.2) (by omega) (by omega),by rw [ol];omega,⟨i+1,rfl,by omega,rfl,rfl⟩,by dsimp only;omega⟩
 have hie:i=d.Start.length:=by have:=of_decide_eq_false hb;omega
 subst hie
 clear hb
 refine ⟨fun ac wd i G L S=>∃ (j f:Nat),i=j∧j≤S.length∧wd.length=j∧ac.length=j∧550≤f+j∧OI d g ⟨G,L,S⟩∧wdF d f j ⟨ac,wd,⟨G,L,S⟩⟩=wdM d g,fun _ _ i _ _ _=>(501 - i).toNat,⟨0,600,rfl,by omega,rfl,rfl,by omega,by rw [ho];exact oi,by rw [ho];rfl⟩,?_⟩
 clear ho oi ol q1 q2 G L S hi
 rintro ac wd _ G L S ⟨j,f,rfl,hj,hwl,hal,hf,oi,he⟩
 obtain ⟨q1,q2⟩:=oi.len
 have q2:S.length≤500:=q2
 obtain ⟨f,rfl⟩:∃ f',f=f'+1:=⟨f - 1,by omega⟩
 refine ⟨fun hb=>?_,fun hb=>?_⟩
 ·have hlt:j < S.length:=by have:=of_decide_eq_true hb;omega
  have hk:0≤gd S (j:Int)∧gd S (j:Int) < d.Rows.length:=oi.sr _ (zaQ (l:=S) (i:=(j:Int)) (by omega) (by omega))
  have hrw:=rwF_oi h gl gr oi hk.1 hk.2
  rw [wdF,if_pos hlt] at he
  refine ⟨fun row b G' L' S'=>∃ t:Nat,b=t∧t≤256∧row=(rwF d ⟨G,L,S⟩ (gd S (j:Int)) t).1∧(⟨G',L',S'⟩:zx)=(rwF d ⟨G,L,S⟩ (gd S (j:Int)) t).2,fun _ b _ _ _=>(256 - b).toNat,⟨0,rfl,by omega,rfl,rfl⟩,?_⟩
  rintro _ _ G' L' S' ⟨t,rfl,ht,rfl,ho⟩
  obtain ⟨o1,o2,m,o3⟩:=hrw t ht
  have hS:S'=S++m:=by rw [← ho] at o3;exact o3
  have hG:gd S' (j:Int)=gd S (j:Int):=by rw [hS];exact gd_app hlt
  have hSl:j < S'.length:=by rw [hS,List.length_append];omega
  obtain ⟨p1,p2⟩:=o1.len
  rw [hG]
  refine ⟨fun hb=>?_,fun hb=>?_⟩
  ·have htl:t < 256:=by have:=of_decide_eq_true hb;omega
   obtain ⟨c1,c2,c3⟩:=cell_ok h hk.1 hk.2 htl
   have e2:w64 ((t:Int)+1)=((t+1:Nat):Int):=by rw [zN (by omega) (by omega)];omega
   rw [ho,e2]
   refine ⟨by omega,by omega,by omega,hk.1,hk.2,by omega,by rw [h.ml];omega,c1,c2,_,_,number_ok (by rw [o1.g,gl];exact c3) (by omega) (by omega),by rw [o2];omega,⟨t+1,rfl,by omega,rfl,rfl⟩,by dsimp only;omega⟩
  ·have hte:t=256:=by
    have:¬ (t:Int) < 256:=of_decide_eq_false hb
    omega
   subst hte
   have e2:w64 ((j:Int)+1)=((j+1:Nat):Int):=by rw [zN (by omega) (by omega)];omega
   rw [e2]
   refine ⟨by omega,by omega,by omega,by omega,hk.1,by rw [h.al];exact hk.2,by omega,⟨j+1,f,rfl,by omega,by simp [hwl],by simp [hal],by omega,by rw [ho];exact o1,?_⟩,by dsimp only;omega⟩
   rw [ho];exact he
 have hje:j=S.length:=by have:=of_decide_eq_false hb;omega
 rw [wdF,if_neg (by show ¬ j < S.length;omega)] at he
 have hw1:wd=(wdM d g).wide:=by rw [← he]
 have ha1:ac=(wdM d g).acc:=by rw [← he]
 have hwide:∀ r∈wd,r.length=256:=by rw [hw1];exact hwd.1
 have hwlen:wd.length≤500:=by rw [hw1];exact hwd.2
 clear hb
 refine ⟨fun mp le b=>∃ t:Nat,b=t∧t≤256∧mp=(mlF wd t).1∧le=(mlF wd t).2,fun _ _ b=>(256 - b).toNat,⟨0,rfl,by omega,rfl,rfl⟩,?_⟩
 rintro _ _ _ ⟨t,rfl,ht,rfl,rfl⟩
 obtain ⟨m1,m2,m3⟩:=mlF_ok wd t
 refine ⟨fun hb=>?_,fun hb=>?_⟩
 ·have htl:t < 256:=by have:=of_decide_eq_true hb;omega
  have e2:w64 ((t:Int)+1)=((t+1:Nat):Int):=by rw [zN (by omega) (by omega)];omega
  simp only [List.length_map]
  rw [e2,m1]
  have fin:∀ {c:Nat},colF wd (t:Int) (mlF wd t).2=c→∃ J:List Int→Prop,(∀ le,J le→((t+1) * 8≤2 ^ 47)∧((∃ t':Nat,((t+1:Nat):Int)=t'∧t'≤256∧(mlF wd t).1++[(c:Int)]=(mlF wd t').1∧le=(mlF wd t').2)∧(256 - ((t+1:Nat):Int)).toNat < (256 - (t:Int)).toNat))∧
   ((((c:Int) == ((mlF wd t).2.length:Int))=true→((mlF wd t).2.length+1) * 8≤2 ^ 47∧J ((mlF wd t).2++[(t:Int)]))∧(((c:Int) == ((mlF wd t).2.length:Int))=false→J (mlF wd t).2)):=by
   intro c hc
   refine ⟨fun le=>le=(mlF wd (t+1)).2,?_,fun hb=>⟨by omega,?_⟩,fun hb=>?_⟩
   ·rintro _ rfl
    exact ⟨by omega,⟨t+1,rfl,by omega,by rw [mlF,hc],rfl⟩,by omega⟩
   ·have:c=(mlF wd t).2.length:=by have:=beq_iff_eq.1 hb;omega
    rw [mlF];dsimp only;rw [hc,if_pos this]
   ·have:¬ c=(mlF wd t).2.length:=by have:=beq_eq_false_iff_ne.1 hb;omega
    rw [mlF];dsimp only;rw [hc,if_neg this]
  refine ⟨fun c=>∃ q:Nat,c=q∧q≤(mlF wd t).2.length∧∀ i:Nat,i < q→columnM wd (gd (mlF wd t).2 (i:Int)) (t:Int)=false,fun c=>((mlF wd t).2.length - c).toNat,⟨0,rfl,by omega,fun i h=>by omega⟩,?_⟩
  rintro _ ⟨q,rfl,hq,hne⟩
  refine ⟨fun hc=>?_,fun hc=>?_⟩
  ·have hql:q < (mlF wd t).2.length:=by have:=of_decide_eq_true hc;omega
   have hx:=m3 _ (zaQ (l:=(mlF wd t).2) (i:=(q:Int)) (by omega) (by omega))
   have e3:w64 ((q:Int)+1)=((q+1:Nat):Int):=by rw [zN (by omega) (by omega)];omega
   rw [e3]
   refine ⟨fun _=>by omega,fun _=>by omega,fun _=>by omega,_,column_ok (by omega) hwide hx.1 (by omega) (by omega) (by omega),fun he=>?_,fun he=>?_⟩
   ·refine ⟨⟨q+1,rfl,by omega,fun i hi=>?_⟩,by first | omega | (dsimp only;omega)⟩
    by_cases e:i=q
    ·subst e;simpa using he
    ·exact hne i (by omega)
   ·exact fin (colF_at hne hql (by simpa using he))
  ·have hqe:q=(mlF wd t).2.length:=by have:=of_decide_eq_false hc;omega
   subst hqe
   exact fin (colF_none hne)
 have hte:t=256:=by
  have:¬ (t:Int) < 256:=of_decide_eq_false hb
  omega
 subst hte
 clear hb
 generalize hML:mlF wd 256=ML at m1 m2 m3 ⊢
 refine ⟨fun rs i=>∃ q:Nat,i=q∧q≤wd.length∧rs=(wd.take q).map fun r=>(ML).2.map fun b=>gd r b,fun _ i=>(wd.length - i).toNat,⟨0,rfl,by omega,rfl⟩,?_⟩
 rintro _ _ ⟨q,rfl,hq,rfl⟩
 refine ⟨fun hb=>?_,fun hb=>?_⟩
 ·have hql:q < wd.length:=by have:=of_decide_eq_true hb;omega
  have hwq:=hwide _ (zaQ (l:=wd) (i:=(q:Int)) (by omega) (by omega))
  refine ⟨fun row c=>∃ u:Nat,c=u∧u≤(ML).2.length∧row=((ML).2.take u).map fun b=>gd (gd wd (q:Int)) b,fun _ c=>((ML).2.length - c).toNat,⟨0,rfl,by omega,rfl⟩,?_⟩
  rintro _ _ ⟨u,rfl,hu,rfl⟩
  refine ⟨fun hc=>?_,fun hc=>?_⟩
  ·have hul:u < (ML).2.length:=by have:=of_decide_eq_true hc;omega
   have hx:=m3 _ (zaQ (l:=(ML).2) (i:=(u:Int)) (by omega) (by omega))
   have e3:w64 ((u:Int)+1)=((u+1:Nat):Int):=by rw [zN (by omega) (by omega)];omega
   rw [e3]
   refine ⟨by omega,by omega,by omega,by omega,by omega,hx.1,by rw [hwq];omega,by simp;omega,⟨u+1,rfl,by omega,?_⟩,by dsimp only;omega⟩
   rw [← zgi hul,List.map_append];rfl
  ·have hue:u=(ML).2.length:=by have:=of_decide_eq_false hc;omega
   subst hue
   have e3:w64 ((q:Int)+1)=((q+1:Nat):Int):=by rw [zN (by omega) (by omega)];omega
   rw [e3,List.take_length]
   refine ⟨by simp;omega,⟨q+1,rfl,by omega,?_⟩,by dsimp only;omega⟩
   rw [List.take_add_one,List.getElem?_eq_getElem hql,Option.toList_some,List.map_append,za7 hql];rfl
 ·have hqe:q=wd.length:=by have:=of_decide_eq_false hb;omega
  subst hqe
  rw [List.take_length]
  refine ⟨?_,rfl⟩
  unfold smallM
  rw [← hw1,← ha1,hML]
end Go.Ev.Pl
