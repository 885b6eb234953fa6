import Derived.Test.YtkeiahjelpjegaaA04
set_option linter.unusedSimpArgs false
set_option linter.unusedVariables false
namespace Go.Ev.Pl
open Go Go.Ev
theorem rev_set (x:api_Rx):(rev x).Set=x.Set:=by rw [rev_eq]
theorem rev_lo (x:api_Rx):(rev x).Lo=x.Lo:=by rw [rev_eq]
theorem rev_hi (x:api_Rx):(rev x).Hi=x.Hi:=by rw [rev_eq]
theorem rev_len (x:api_Rx):(rev x).Kids.length=x.Kids.length:=by rw [rev_kids];split<;>simp
theorem rev_mem {x y:api_Rx}:y∈(rev x).Kids↔∃ z,z∈x.Kids∧rev z=y:=by rw [rev_kids];split<;>simp
theorem rev_sum (f:api_Rx→Nat) (x:api_Rx) (h:∀ y∈x.Kids,f (rev y)=f y):((rev x).Kids.map f).sum=(x.Kids.map f).sum:=by
 have e:(x.Kids.map rev).map f=x.Kids.map f:=by
  rw [List.map_map];exact List.map_congr_left h
 rw [rev_kids]
 split
 ·rw [List.map_reverse,List.sum_reverse,e]
 ·rw [e]
theorem rev_rev:∀ x,rev (rev x)=x:=by
 refine rxInd fun x ih=>?_
 have e:(x.Kids.map rev).map rev=x.Kids:=by
  rw [List.map_map]
  conv=>rhs;rw [← List.map_id x.Kids]
  exact List.map_congr_left ih
 rw [rev_eq (rev x),rev_kind,rev_kids]
 have e2:(if x.Kind=3 then ((if x.Kind=3 then (x.Kids.map rev).reverse else x.Kids.map rev).map rev).reverse else (if x.Kind=3 then (x.Kids.map rev).reverse else x.Kids.map rev).map rev)=x.Kids:=by
  split
  ·rw [List.map_reverse,List.reverse_reverse,e]
  ·exact e
 rw [e2,rev_set,rev_lo,rev_hi]
 clear e2 e ih
 cases x;rfl
theorem rev_wf:∀ x,Wf x→Wf (rev x):=by
 refine rxInd fun x ih h=>?_
 obtain ⟨h1,h2⟩:=(wf_eq x).1 h
 refine (wf_eq _).2 ⟨by rw [rev_len];exact h1,fun y hy=>?_⟩
 obtain ⟨z,hz,rfl⟩:=rev_mem.1 hy
 exact ih z hz (h2 z hz)
theorem rev_size:∀ x,sizeN (rev x)=sizeN x:=by
 refine rxInd fun x ih=>?_
 rw [sizeN_eq,sizeN_eq x,rev_sum sizeN x ih,rev_kind]
 have:timesN (rev x)=timesN x:=by simp [timesN,rev_lo,rev_hi]
 rw [this]
theorem rev_cnt:∀ x,cnt (rev x)=cnt x:=by
 refine rxInd fun x ih=>?_
 rw [cnt_eq,cnt_eq x,rev_sum cnt x ih]
theorem nodesZ_ge:∀ x (most:Int),0≤nodesZ x most→nodesZ x most=most - cnt x:=by
 refine rxInd fun x ih most h=>?_
 rw [nodesZ_eq] at h ⊢
 rw [cnt_eq]
 have hstay:∀ (l:List api_Rx) (m:Int),m < 0→l.foldl (fun m y=>if m≥0 then nodesZ y m else m) m=m:=by
  intro l
  induction l with
  | nil=>intro m _;rfl
  | cons y r ih2=>intro m h;rw [List.foldl_cons,if_neg (by omega)];exact ih2 m h
 have key:∀ (l:List api_Rx) (m:Int),(∀ y∈l,y∈x.Kids)→0≤l.foldl (fun m y=>if m≥0 then nodesZ y m else m) m→l.foldl (fun m y=>if m≥0 then nodesZ y m else m) m=m - ((l.map cnt).sum:Nat):=by
  intro l
  induction l with
  | nil=>intro m _ _;simp
  | cons y r ih2=>
    intro m hl h
    simp only [List.foldl_cons,List.map_cons,List.sum_cons] at h ⊢
    rcases (show m < 0∨m≥0 by omega) with hn | hp
    ·rw [if_neg (by omega),hstay _ _ hn] at h;omega
    ·rw [if_pos hp] at h ⊢
     rcases (show nodesZ y m < 0∨0≤nodesZ y m by omega) with hn | hp2
     ·rw [hstay _ _ hn] at h;omega
     ·rw [ih2 _ (fun z hz=>hl z (List.mem_cons_of_mem _ hz)) h,ih y (hl y (List.mem_cons_self ..)) m hp2];omega
 rw [key x.Kids (most - 1) (fun _ h=>h) h]
 omega
theorem nodes_rev (x:api_Rx) (most:Int) (h:0≤nodesZ x most):nodesZ (rev x) most=nodesZ x most:=by
 have h1:=nodesZ_ge x most h
 rw [h1,nodesZ_cnt (rev x) most (by rw [rev_cnt];omega),rev_cnt]
theorem rev_ownB (x:api_Rx):ownB (rev x)=ownB x:=by
 simp only [ownB,rev_kind,rev_set,rev_lo,rev_hi,rev_len]
theorem rev_rgt:∀ x d,rgt (rev x) d=rgt x d:=by
 refine rxInd fun x ih d=>?_
 rw [rgt_eq,rgt_eq x,rev_ownB]
 congr 1
 have e:(x.Kids.map rev).all (fun k=>!oddK (rev x) k && rgt k (d - 1))=x.Kids.all fun k=>!oddK x k && rgt k (d - 1):=by
  rw [List.all_map]
  rw [Bool.eq_iff_iff,List.all_eq_true,List.all_eq_true]
  refine forall_congr' fun y=>forall_congr' fun hy=>?_
  simp only [Function.comp_apply,oddK,rev_kind,ih y hy]
 rw [rev_kids]
 split
 ·rw [List.all_reverse,e]
 ·exact e
theorem rev_right (x:api_Rx):rightB (rev x)=rightB x:=by
 have key:∀ x,rightB x=true→rightB (rev x)=true:=by
  intro x h
  simp only [rightB,Bool.and_eq_true,decide_eq_true_eq] at h ⊢
  refine ⟨by rw [rev_rgt];exact h.1,?_,?_⟩
  ·have:sizeZ (rev x)=sizeZ x:=by simp only [sizeZ,rev_size]
   omega
  ·have:=nodes_rev x 1000 h.2.2
   omega
 rw [Bool.eq_iff_iff]
 constructor
 ·intro h;have:=key _ h;rwa [rev_rev] at this
 ·exact key x
end Go.Ev.Pl
set_option linter.unusedSimpArgs false
set_option linter.unusedVariables false
namespace Go.Ev.Pl
open Go Go.Ev
theorem turnedRx_ok (l:List api_Rx) (hl:l.length < 1099511627776):C_split_turned_api_Rx l l.reverse:=by
 refine W_split_turned_api_Rx l _ ⟨⟨by omega,by omega,by omega⟩,backward_95 l,by omega,fun i out=>out=l.reverse.take i,by simp,?_,?_⟩
 ·rintro i y hi hy out rfl
  have hlt:(l.reverse.take i).length=i:=by rw [List.length_take,List.length_reverse];omega
  refine ⟨by omega,by omega,by omega,by simp,?_⟩
  show _=List.take (i+1) l.reverse
  rw [List.take_succ_eq_append_getElem (by rw [List.length_reverse];exact hi),List.set_append_right _ _ (by omega),Nat.sub_self,List.set_cons_zero]
  congr 2
  rw [List.getElem_reverse]
  rw [List.getElem?_eq_getElem (by omega)] at hy
  exact (Option.some.inj hy).symm
 ·rintro out rfl
  rw [List.take_of_length_le (by simp)]
theorem reverse_ok:∀ x,Wf x→C_split_reverse x (rev x):=by
 refine rxInd fun x ih hw=>?_
 obtain ⟨hl,hk⟩:=(wf_eq x).1 hw
 refine W_split_reverse x _ ⟨fun l=>l.map rev=(rev x).Kids∧l.length=x.Kids.length∧∀ y∈l,y∈x.Kids,?_,fun h=>⟨_,turnedRx_ok _ (by omega),?_⟩,fun h=>?_⟩
 ·rintro l ⟨e,hle,hm⟩
  refine ⟨fun k t=>∃ i:Nat,t=i∧i≤l.length∧k=(l.take i).map rev,fun _ t=>(l.length - t).toNat,⟨0,rfl,by omega,by simp⟩,?_⟩
  rintro k t ⟨i,rfl,hi,rfl⟩
  refine ⟨fun ht=>?_,fun ht=>?_⟩
  ·have ht:i < l.length:=by have:=of_decide_eq_true ht;omega
   have hw2:w64 ((i:Int)+1)=((i+1:Nat):Int):=w64_id (by omega) (by omega)
   have hlen:((l.take i).map rev).length=i:=by rw [List.length_map,List.length_take];omega
   rw [gd_nat ht,hw2]
   refine ⟨by omega,by omega,_,ih _ (hm _ (List.getElem_mem ht)) (hk _ (hm _ (List.getElem_mem ht))),by omega,⟨i+1,rfl,by omega,?_⟩,by first | omega | (dsimp only;omega)⟩
   rw [List.take_succ_eq_append_getElem ht,List.map_append];rfl
  ·have ht:i=l.length:=by have:=of_decide_eq_false ht;omega
   subst ht
   rw [List.take_of_length_le (Nat.le_refl _),e,rev_eq]
 ·have h:x.Kind=3:=by simpa using h
  exact ⟨by rw [rev_kids,if_pos h,List.map_reverse],by simp,fun y hy=>by simpa using hy⟩
 ·have h:¬ x.Kind=3:=by simpa using h
  exact ⟨by rw [rev_kids,if_neg h],rfl,fun y hy=>hy⟩
theorem mem_take_succ {α:Type} {l:List α} {i:Nat} (h:i < l.length) (v:α):v∈l.take (i+1)↔v∈l.take i∨v=l[i]:=by
 rw [List.take_succ_eq_append_getElem h,List.mem_append,List.mem_singleton]
end Go.Ev.Pl
set_option linter.unusedSimpArgs false
set_option linter.unusedVariables false
namespace Go.Ev.Pl
open Go Go.Ev
theorem ahead_ok (x:api_Rx) (s:ByteArray) (hw:Wf x) (hr:rightB x=true) (hs:s.size≤100000):C_split_ahead x s (ahd x s):=by
 have hP:=placeOf_ok x hw
 rw [if_pos hr,if_pos hr] at hP
 obtain ⟨hr2,hs200⟩:=size_of_right hr
 have hn:=gof_n x hr2
 have hca:=canon_gof x
 obtain ⟨g,hg⟩:∃ g,g=gof x:=⟨_,rfl⟩
 have hah:ahd x s=(List.range (s.size+1)).map (accB s g):=by rw [hg];rfl
 rw [hah]
 rw [← hg] at hP hn hca
 have hS:(plc g).Sets.length=g.n:=hca.sets
 have hF:(plc g).Follow.length=g.n:=flw_len _ _
 refine W_split_ahead x s _ ⟨_,_,hP,fun s' pS pF pL pFo pN out next t=>(s'=s∧pS=(plc g).Sets∧pF=(plc g).First∧pL=(plc g).Last∧pFo=(plc g).Follow∧pN=(plc g).Null)∧∃ m:Nat,t=m∧m≤s.size∧out=(List.range (m+1)).map (accB s g)∧
  ∃ q:Nat→Bool,(∀ p,p < g.n→(q p=true↔Rch s.size (bt s) g m p))∧next=lst g.n q 0,
  fun _ _ _ _ _ _ _ _ t=>(s.size - t).toNat,⟨⟨rfl,rfl,rfl,rfl,rfl,rfl⟩,0,rfl,by omega,?_,g.first,fun p _=>Iff.rfl,rfl⟩,?_⟩
 ·show [g.null]=[accB s g 0]
  have:g.null=accB s g 0:=by rw [Bool.eq_iff_iff,accB_iff,acc_zero]
  rw [this]
 rintro s' pS pF pL pFo pN out next t ⟨⟨e1,e2,e3,e4,e5,e6⟩,m,rfl,hm,rfl,q,hq,hnext⟩
 refine ⟨fun ht=>?_,fun ht=>?_⟩
 rotate_left
 ·have ht:m=s.size:=by have:=of_decide_eq_false ht;omega
  subst ht;rfl
 have ht:m < s.size:=by have:=of_decide_eq_true ht;omega
 have hll:=lst_len g.n q 0
 rw [← hnext] at hll
 have hel:∀ (k:Nat) (hk:k < next.length),∃ p,p < g.n∧next[k]=((p:Nat):Int)∧Rch s.size (bt s) g m p:=by
  intro k hk
  have hm1:∀ v,v∈next→v∈lst g.n q 0:=fun v hv=>by rw [← hnext];exact hv
  obtain ⟨p,hp,hq2,e⟩:=lst_mem.1 (hm1 _ (List.getElem_mem hk))
  exact ⟨p,hp,e,(hq p hp).1 hq2⟩
 have hmem:∀ p,p < g.n→(((p:Nat):Int)∈next↔Rch s.size (bt s) g m p):=by
  intro p hp
  rw [hnext,lst_mem,← hq p hp]
  constructor
  ·rintro ⟨i,hi,hqi,e⟩
   obtain rfl:i=p:=by omega
   exact hqi
  ·exact fun h=>⟨p,hp,h,by omega⟩
 have hw2:w64 ((m:Int)+1)=((m+1:Nat):Int):=w64_id (by omega) (by omega)
 refine ⟨fun s'' pS' pF' pL' pFo' pN' i thn is k=>(s''=s∧pS'=(plc g).Sets∧pF'=(plc g).First∧pL'=(plc g).Last∧pFo'=(plc g).Follow∧pN'=(plc g).Null∧i=(m:Int))∧∃ c:Nat,k=c∧c≤next.length∧thn.length≤c * g.n∧
  (is=true↔∃ p:Nat,((p:Nat):Int)∈next.take c∧hdS s.size (bt s) g.sets p m∧g.last p=true)∧
  (∀ v,v∈thn↔∃ p r:Nat,((p:Nat):Int)∈next.take c∧hdS s.size (bt s) g.sets p m∧r < g.n∧g.follow p r=true∧v=r),
  fun _ _ _ _ _ _ _ _ _ k=>(next.length - k).toNat,⟨⟨e1,e2,e3,e4,e5,e6,rfl⟩,0,rfl,by omega,by simp,by simp,fun v=>by simp⟩,?_⟩
 rintro s'' pS' pF' pL' pFo' pN' i thn is k ⟨⟨f1,f2,f3,f4,f5,f6,f7⟩,c,rfl,hc,hlen,hi,hthn⟩
 have hcn:c * g.n≤200 * 200:=Nat.mul_le_mul (by omega) (by omega)
 refine ⟨fun hk=>?_,fun hk=>?_⟩
 ·have hk:c < next.length:=by have:=of_decide_eq_true hk;omega
  have hw3:w64 ((c:Int)+1)=((c+1:Nat):Int):=w64_id (by omega) (by omega)
  obtain ⟨p,hp,ep,hR⟩:=hel c hk
  have hpS:p < (plc g).Sets.length:=by rw [hS];exact hp
  have hdp:hdS s.size (bt s) g.sets p m↔setHas (plc g).Sets[p] (bt s m)=true:=by
   constructor
   ·rintro ⟨_,st,h1,h2⟩
    rw [List.getElem?_eq_getElem (show p < g.sets.length from hpS)] at h1
    cases h1;exact h2
   ·exact fun h=>⟨ht,_,List.getElem?_eq_getElem (show p < g.sets.length from hpS),h⟩
  have hgf:gd (plc g).Follow ((p:Nat):Int)=lst g.n (g.follow p) 0:=(gd_nat (l:=flw g 0) (by rw [flw_len];exact hp)).trans (flw_get g 0 hp)
  have hfl:=lst_len g.n (g.follow p) 0
  rw [gd_nat hk,ep,hw3,f1,f2,f3,f4,f5,f6,f7]
  have hmc:c * g.n+g.n=(c+1) * g.n:=by rw [Nat.add_mul,Nat.one_mul]
  have fin:∀ (thn':List Int) (is':Bool),thn'.length≤(c+1) * g.n→(is'=true↔∃ p:Nat,((p:Nat):Int)∈next.take (c+1)∧hdS s.size (bt s) g.sets p m∧g.last p=true)→
   (∀ v,v∈thn'↔∃ p r:Nat,((p:Nat):Int)∈next.take (c+1)∧hdS s.size (bt s) g.sets p m∧r < g.n∧g.follow p r=true∧v=r)→
   ∃ c':Nat,((c+1:Nat):Int)=c'∧c'≤next.length∧thn'.length≤c' * g.n∧(is'=true↔∃ p:Nat,((p:Nat):Int)∈next.take c'∧hdS s.size (bt s) g.sets p m∧g.last p=true)∧
     (∀ v,v∈thn'↔∃ p r:Nat,((p:Nat):Int)∈next.take c'∧hdS s.size (bt s) g.sets p m∧r < g.n∧g.follow p r=true∧v=r):=
   fun thn' is' h1 h2 h3=>⟨c+1,rfl,by omega,h1,h2,h3⟩
  have h1n:hdS s.size (bt s) g.sets p m→∀ v,v∈thn++lst g.n (g.follow p) 0↔∃ p r:Nat,((p:Nat):Int)∈next.take (c+1)∧hdS s.size (bt s) g.sets p m∧r < g.n∧g.follow p r=true∧v=r:=by
   intro hd v
   rw [List.mem_append,hthn,lst_mem]
   constructor
   ·rintro (⟨p',r,h1,h2⟩ | ⟨r,h1,h2,h3⟩)
    ·exact ⟨p',r,(mem_take_succ hk _).2 (.inl h1),h2⟩
    ·exact ⟨p,r,(mem_take_succ hk _).2 (.inr ep.symm),hd,h1,h2,by omega⟩
   ·rintro ⟨p',r,h1,h2,h3,h4,h5⟩
    rcases (mem_take_succ hk _).1 h1 with h1 | h1
    ·exact .inl ⟨p',r,h1,h2,h3,h4,h5⟩
    ·rw [ep] at h1
     obtain rfl:p'=p:=by omega
     exact .inr ⟨r,h3,h4,by omega⟩
  have h0n:¬ hdS s.size (bt s) g.sets p m→(∀ v,v∈thn↔∃ p r:Nat,((p:Nat):Int)∈next.take (c+1)∧hdS s.size (bt s) g.sets p m∧r < g.n∧g.follow p r=true∧v=r):=by
   intro hd v
   rw [hthn]
   constructor
   ·rintro ⟨p',r,h1,h2⟩
    exact ⟨p',r,(mem_take_succ hk _).2 (.inl h1),h2⟩
   ·rintro ⟨p',r,h1,h2,h3⟩
    rcases (mem_take_succ hk _).1 h1 with h1 | h1
    ·exact ⟨p',r,h1,h2,h3⟩
    ·rw [ep] at h1
     obtain rfl:p'=p:=by omega
     exact absurd h2 hd
  have his:∀ b:Bool,(b=true↔is=true∨(hdS s.size (bt s) g.sets p m∧g.last p=true))→(b=true↔∃ p:Nat,((p:Nat):Int)∈next.take (c+1)∧hdS s.size (bt s) g.sets p m∧g.last p=true):=by
   intro b hb
   rw [hb,hi]
   constructor
   ·rintro (⟨p',h1,h2⟩ | h)
    ·exact ⟨p',(mem_take_succ hk _).2 (.inl h1),h2⟩
    ·exact ⟨p,(mem_take_succ hk _).2 (.inr ep.symm),h⟩
   ·rintro ⟨p',h1,h2⟩
    rcases (mem_take_succ hk _).1 h1 with h1 | h1
    ·exact .inl ⟨p',h1,h2⟩
    ·rw [ep] at h1
     obtain rfl:p'=p:=by omega
     exact .inr h2
  refine ⟨fun a1 a2 a3 a4 a5 a6 a7 thn' is'=>(a1=s∧a2=(plc g).Sets∧a3=(plc g).First∧a4=(plc g).Last∧a5=(plc g).Follow∧a6=(plc g).Null∧a7=(m:Int))∧thn'.length≤(c+1) * g.n∧(is'=true↔∃ p:Nat,((p:Nat):Int)∈next.take (c+1)∧hdS s.size (bt s) g.sets p m∧g.last p=true)∧
   (∀ v,v∈thn'↔∃ p r:Nat,((p:Nat):Int)∈next.take (c+1)∧hdS s.size (bt s) g.sets p m∧r < g.n∧g.follow p r=true∧v=r),
   fun a1 a2 a3 a4 a5 a6 a7 thn' is' h=>⟨⟨h.1,fin _ _ h.2.1 h.2.2.1 h.2.2.2⟩,by first | omega | (dsimp only;omega)⟩,by omega,by omega,
   _,_,_,_,aheadL1_ok (plc g) s p m hpS ht,fun hh=>?_,fun hh=>?_⟩
  ·have hd:=hdp.2 hh
   rw [hgf]
   have hA:=h1n hd
   refine ⟨by omega,by omega,by omega,fun hi'=>⟨⟨rfl,rfl,rfl,rfl,rfl,rfl,rfl⟩,by rw [List.length_append];omega,his _ (by simp [hi']),hA⟩,fun hi'=>?_⟩
   refine ⟨g.last p,contains_ok _ _ (by have:=lst_len g.n g.last 0;show (lst g.n g.last 0).length < _;omega) _ ?_,⟨rfl,rfl,rfl,rfl,rfl,rfl,rfl⟩,by rw [List.length_append];omega,his _ (by simp [hi',hd]),hA⟩
   show _↔_∈lst g.n g.last 0
   rw [lst_mem]
   constructor
   ·exact fun h=>⟨p,hp,h,by omega⟩
   ·rintro ⟨i,_,h,e⟩
    obtain rfl:i=p:=by omega
    exact h
  ·have hd:¬ hdS s.size (bt s) g.sets p m:=fun h=>by rw [hdp.1 h] at hh;cases hh
   exact ⟨⟨rfl,rfl,rfl,rfl,rfl,rfl,rfl⟩,by omega,his _ (by simp [hd]),h0n hd⟩
 ·have hk:c=next.length:=by have:=of_decide_eq_false hk;omega
  subst hk
  rw [List.take_of_length_le (Nat.le_refl _)] at hi hthn
  have hlt:∀ p:Nat,hdS s.size (bt s) g.sets p m→p < g.n:=fun p h=>by rw [← hca.sets];exact hd_lt h
  have hacc:is=accB s g (m+1):=by
   rw [Bool.eq_iff_iff,hi,accB_iff,rch_last]
   constructor
   ·rintro ⟨p,h1,h2,h3⟩;exact ⟨p,(hmem p (hlt p h2)).1 h1,h2,h3⟩
   ·rintro ⟨p,h1,h2,h3⟩;exact ⟨p,(hmem p (hlt p h2)).2 h1,h2,h3⟩
  rw [hw2]
  refine ⟨join thn [],join_ok thn [] (by omega) (by simp),by simp;omega,⟨⟨f1,f2,f3,f4,f5,f6⟩,m+1,rfl,by omega,?_,fun r=>@decide (Rch s.size (bt s) g (m+1) r) (Classical.propDecidable _),fun r hr=>by simp,?_⟩,by first | omega | (dsimp only;omega)⟩
  ·rw [hacc,List.range_succ (n:=m+1),List.map_append];rfl
  ·refine ss_ext (join_spec _ _).1 (lst_ss _ _ _) fun v=>?_
   rw [(join_spec _ _).2,hthn,lst_mem]
   constructor
   ·rintro (⟨p,r,h1,h2,h3,h4,rfl⟩ | h)
    ·exact ⟨r,h3,by simp only [decide_eq_true_eq];exact ⟨p,(hmem p (hlt p h2)).1 h1,h2,h4⟩,by omega⟩
    ·simp at h
   ·rintro ⟨r,h1,h2,e⟩
    simp only [decide_eq_true_eq] at h2
    obtain ⟨p,h3,h4,h5⟩:=h2
    exact .inl ⟨p,r,(hmem p (hlt p h4)).2 h3,h4,h1,h5,by omega⟩
end Go.Ev.Pl
set_option linter.unusedSimpArgs false
set_option linter.unusedVariables false
namespace Go.Ev.Pl
open Go Go.Ev
theorem Ahead_ok (x:api_Rx) (s:ByteArray) (hw:Wf x) (hs:(s.size:Int) < 2 ^ 60):C_split_Ahead x s (if rightB x=true∧s.size≤10000 then ahd x s else []):=by
 refine W_split_Ahead x s _ ⟨_,rxRightAll_ok x hw,fun h=>?_,fun h=>?_⟩
 ·have h':¬ (rightB x=true∧s.size≤10000):=by
   rintro ⟨h1,h2⟩
   simp only [h1,Bool.not_true,Bool.false_or,decide_eq_true_eq] at h;omega
  rw [if_neg h']
 ·simp only [Bool.or_eq_false_iff,Bool.not_eq_false',decide_eq_false_iff_not] at h
  have h':rightB x=true∧s.size≤10000:=⟨h.1,by omega⟩
  rw [if_pos h']
  exact ⟨_,ahead_ok x s hw h.1 (by omega),rfl⟩
abbrev zRx:api_Rx:={ Kind:=(0:Int),Set:={ e0:=(0:Int),e1:=(0:Int),e2:=(0:Int),e3:=(0:Int) },Lo:=(0:Int),Hi:=(0:Int),Kids:=[] }
theorem Reverse_ok (x:api_Rx) (hw:Wf x):C_split_Reverse x (if rightB x=true then rev x else zRx) (if rightB x=true then 0 else 1):=by
 refine W_split_Reverse x _ _ ⟨_,rxRightAll_ok x hw,fun h=>?_,fun h=>?_⟩
 ·have h:¬ rightB x=true:=by simpa using h
  rw [if_neg h,if_neg h];exact ⟨rfl,rfl⟩
 ·have h:rightB x=true:=by simpa using h
  rw [if_pos h,if_pos h]
  exact ⟨_,reverse_ok x hw,rfl,rfl⟩
def Rvd (s t:ByteArray):Prop:=t.size=s.size∧∀ i,i < s.size→bt t i=bt s (s.size - 1 - i)
theorem acc_rvd {s t:ByteArray} (h:Rvd s t) (x:api_Rx) (hr:Rgt x) {k:Nat} (hk:k≤s.size):accB t (gof (rev x)) k=true↔acc s.size (bt s) (gof x) (s.size - k) s.size:=by
 rw [accB_iff,h.1]
 have h1:=acc_rev (N:=s.size) (B:=bt s) x hr 0 k (by omega) hk
 rw [Nat.sub_zero] at h1
 rw [← h1]
 have h2:=acc_sub (N:=s.size) (M:=s.size) (h:=0) (B:=bkw s.size (bt s)) (B':=bt t) (by omega) (fun i hi=>by rw [h.2 i hi,Nat.zero_add]) (g:=gof (rev x)) (i:=0) (j:=k) hk
 rw [h2,Nat.zero_add,Nat.zero_add]
noncomputable def lastN (p:Nat→Prop):Nat→Nat
 | 0=>0
 | n+1=>@ite _ (p (n+1)) (Classical.propDecidable _) (n+1) (lastN p n)
theorem lastN_pos {p:Nat→Prop} {n:Nat} (h:p (n+1)):lastN p (n+1)=n+1:=by simp [lastN,h]
theorem lastN_neg {p:Nat→Prop} {n:Nat} (h:¬ p (n+1)):lastN p (n+1)=lastN p n:=by simp [lastN,h]
noncomputable def prt (r:api_Rule) (s:ByteArray):Nat:=
 if rightB (api_Rule.Rx r)=true∧s.size≤10000 then
  if (api_Rule.Trail r).Kind=0 then (if accB s (gof (api_Rule.Rx r)) s.size=true then s.size else 0)
  else if rightB (api_Rule.Trail r)=true then lastN (fun h=>acc s.size (bt s) (gof (api_Rule.Rx r)) 0 h∧acc s.size (bt s) (gof (api_Rule.Trail r)) h s.size) s.size
  else 0
 else 0
end Go.Ev.Pl
set_option linter.unusedSimpArgs false
set_option linter.unusedVariables false
namespace Go.Ev.Pl
open Go Go.Ev
theorem byteAt_of {s:ByteArray} {i:Nat} (h:i < s.size):byteAt s (i:Int)=s.data[i]'h:=by
 have h1:s[i]?=some (s.data[i]'h):=by
  rw [getElem?_pos s i h];rfl
 simp only [byteAt,Int.toNat_natCast,h1,Option.getD_some]
theorem rvd_list {s t:ByteArray} (h:t.data.toList=s.data.toList.reverse):Rvd s t:=by
 have hsz:t.size=s.size:=by
  have:=congrArg List.length h
  simpa using this
 refine ⟨hsz,fun i hi=>?_⟩
 have h1:i < t.size:=by omega
 have h2:s.size - 1 - i < s.size:=by omega
 unfold bt
 rw [byteAt_of h1,byteAt_of h2]
 have e:t.data[i]'h1=s.data[s.size - 1 - i]'h2:=by
  have g1:t.data[i]'h1=t.data.toList[i]'(by simpa using h1):=by simp
  have g2:t.data.toList[i]'(by simpa using h1)=s.data.toList.reverse[i]'(by rw [← h];simpa using h1):=by simp only [h]
  rw [g1,g2,List.getElem_reverse]
  simp
 rw [e]
theorem rvd_bytes (s:ByteArray):Rvd s (bytesT (List.map enc_u8 (bytesOf s).reverse)):=by
 refine rvd_list ?_
 simp only [bytesT,bytesOf,List.map_map,← List.map_reverse]
 have e:toU8∘enc_u8∘(fun b:UInt8=>(b.toNat:Int))=id:=by
  funext b
  simp [toU8,enc_u8]
 rw [e]
 simp
theorem Split_ok (r:api_Rule) (s:ByteArray) (hw1:Wf (api_Rule.Rx r)) (hw2:Wf (api_Rule.Trail r)) (hs:(s.size:Int) < 2 ^ 60):C_split_Split r s (prt r s:Nat):=by
 refine W_split_Split r s _ ⟨_,Ahead_ok _ s hw1 hs,fun h=>?_,fun h=>?_⟩
 ·have:¬ (rightB (api_Rule.Rx r)=true∧s.size≤10000):=by
   intro hh
   rw [if_pos hh,ahd_len] at h
   simp at h;omega
  simp [prt,this]
 ·have hh:rightB (api_Rule.Rx r)=true∧s.size≤10000:=by
   by_cases hh:rightB (api_Rule.Rx r)=true∧s.size≤10000
   ·exact hh
   ·rw [if_neg hh] at h;simp at h
  rw [if_pos hh,ahd_len]
  refine ⟨fun ht=>?_,fun ht=>?_⟩
  ·have ht:(api_Rule.Trail r).Kind=0:=by simpa using ht
   have hg:=ahd_get (api_Rule.Rx r) s (i:=s.size) (by omega)
   rw [gd,Int.toNat_natCast] at hg
   refine ⟨by omega,by omega,by omega,fun ha=>?_,fun ha=>?_⟩
   ·rw [hg] at ha;simp [prt,hh,ht,ha]
   ·rw [hg] at ha;simp [prt,hh,ht,ha]
  ·have ht:¬ (api_Rule.Trail r).Kind=0:=by simpa using ht
   refine ⟨_,rxRightAll_ok _ hw2,fun hr=>?_,fun hr=>?_⟩
   ·have hr:¬ rightB (api_Rule.Trail r)=true:=by simpa using hr
    simp [prt,hh,ht,hr]
   ·have hr:rightB (api_Rule.Trail r)=true:=by simpa using hr
    have hbl:(bytesOf s).length=s.size:=by simp [bytesOf]
    have hrv:=rvd_bytes s
    obtain ⟨t,ht2⟩:∃ t,t=bytesT (List.map enc_u8 (bytesOf s).reverse):=⟨_,rfl⟩
    rw [← ht2] at hrv
    have hts:t.size=s.size:=hrv.1
    have hrr:rightB (rev (api_Rule.Trail r))=true:=by rw [rev_right];exact hr
    have hR:=(size_of_right hr).1
    refine ⟨_,reverse_ok _ hw2,_,turnedByte_ok _ (by omega),ahd (rev (api_Rule.Trail r)) t,?_,?_⟩
    ·rw [← ht2];exact ahead_ok _ t (rev_wf _ hw2) hrr (by omega)
    obtain ⟨p,hp⟩:∃ p:Nat→Prop,p=fun h=>acc s.size (bt s) (gof (api_Rule.Rx r)) 0 h∧acc s.size (bt s) (gof (api_Rule.Trail r)) h s.size:=⟨_,rfl⟩
    have hprt:prt r s=lastN p s.size:=by simp [prt,hh,ht,hr,hp]
    rw [hprt,ahd_len,hts]
    refine ⟨fun h=>∃ i:Nat,h=i∧i≤s.size∧lastN p i=lastN p s.size,fun h=>h.toNat,⟨s.size,rfl,Nat.le_refl _,rfl⟩,?_⟩
    rintro _ ⟨i,rfl,hi,hl⟩
    have hwN:w64 ((s.size:Int) - i)=((s.size - i:Nat):Int):=(w64_id (by omega) (by omega)).trans (by omega)
    have hw1:0 < i→w64 ((i:Int) - 1)=((i - 1:Nat):Int):=fun h=>(w64_id (by omega) (by omega)).trans (by omega)
    have hA:(gd (ahd (api_Rule.Rx r) s) (i:Int) && gd (ahd (rev (api_Rule.Trail r)) t) (w64 ((s.size:Int) - i)))=true↔p i:=by
     rw [hwN,ahd_get _ s (by omega),ahd_get _ t (by omega),Bool.and_eq_true,accB_iff,acc_rvd hrv _ hR (by omega),hp,show s.size - (s.size - i)=i by omega]
    refine ⟨fun h0=>?_,fun h0=>?_⟩
    ·have h0:0 < i:=by have:=of_decide_eq_true h0;omega
     obtain ⟨k,rfl⟩:∃ k,i=k+1:=⟨i - 1,by omega⟩
     refine ⟨by omega,by omega,by omega,fun _=>by rw [hwN];omega,fun _=>by rw [hwN,Int.toNat_natCast];omega,fun _=>by rw [hwN];omega,fun ha=>?_,fun ha=>?_⟩
     ·rw [← hl,lastN_pos (hA.1 ha)]
     ·have hn:¬ p (k+1):=fun h=>by rw [hA.2 h] at ha;cases ha
      rw [lastN_neg hn] at hl
      rw [hw1 h0]
      exact ⟨⟨k,by omega,by omega,hl⟩,by first | omega | (dsimp only;omega)⟩
    ·have h0:i=0:=by have:=of_decide_eq_false h0;omega
     subst h0
     rw [← hl];rfl
end Go.Ev.Pl
set_option linter.unusedSimpArgs false
set_option linter.unusedVariables false
namespace Go.Ev.Pl
open Go Go.Ev
def runsN (a:arr4_uint64):Nat→List arr2_int
 | 0=>[]
 | n+1=>
   if setHas a n=true then
    if 0 < n∧setHas a ((n:Int) - 1)=true then List.set (runsN a n) ((runsN a n).length - 1) { e0:=arr2_int.e0 ((runsN a n).getD ((runsN a n).length - 1) default),e1:=n }
    else runsN a n++[{ e0:=n,e1:=n }]
   else runsN a n
theorem runsN_len (a:arr4_uint64):∀ n,(runsN a n).length≤n
 | 0=>by simp [runsN]
 | n+1=>by
   have:=runsN_len a n
   unfold runsN
   split
   ·split
    ·rw [List.length_set];omega
    ·rw [List.length_append];simp;omega
   ·omega
theorem runsN_pos (a:arr4_uint64):∀ n:Nat,setHas a n=true→0 < (runsN a (n+1)).length
 | n,h=>by
   unfold runsN
   rw [if_pos h]
   split
   ·rename_i hc
    rw [List.length_set]
    obtain ⟨k,rfl⟩:∃ k,n=k+1:=⟨n - 1,by omega⟩
    exact runsN_pos a k (by have:=hc.2;rwa [show (((k+1:Nat):Int) - 1)=(k:Int) by omega] at this)
   ·rw [List.length_append];simp
theorem runs_ok (a:arr4_uint64):C_heckleref01_Runs a (runsN a 256):=by
 refine W_heckleref01_Runs a _ ⟨fun o i=>∃ n:Nat,i=n∧n≤256∧o=runsN a n,fun _ i=>(256 - i).toNat,⟨0,rfl,by omega,rfl⟩,?_⟩
 rintro o i ⟨n,rfl,hn,rfl⟩
 have hlen:=runsN_len a n
 have hw2:w64 ((n:Int)+1)=((n+1:Nat):Int):=w64_id (by omega) (by omega)
 refine ⟨fun ht=>?_,fun ht=>?_⟩
 ·have ht:n < 256:=by have:=of_decide_eq_true ht;omega
  have hstep:∀ o',o'=runsN a (n+1)→(∃ m:Nat,w64 ((n:Int)+1)=m∧m≤256∧o'=runsN a m)∧(256 - w64 ((n:Int)+1)).toNat < (256 - (n:Int)).toNat:=fun o' h=>by
   rw [hw2];exact ⟨⟨n+1,rfl,by omega,h⟩,by omega⟩
  refine ⟨fun o'=>o'=runsN a (n+1),hstep,_,has_ok a n,fun h=>?_,fun h=>?_⟩
  ·have h:¬ setHas a n=true:=by simpa using h
   rw [runsN,if_neg h]
  ·have h:setHas a n=true:=by simpa using h
   refine ⟨fun h0=>?_,fun h0=>?_⟩
   ·have h0:0 < n:=by have:=of_decide_eq_true h0;omega
    have hw1:w64 ((n:Int) - 1)=(n:Int) - 1:=w64_id (by omega) (by omega)
    rw [hw1]
    refine ⟨_,has_ok a _,fun h1=>?_,fun h1=>⟨by omega,?_⟩⟩
    ·have hp:0 < (runsN a n).length:=by
      have:=runsN_pos a (n - 1) (by rw [show (((n - 1:Nat)):Int)=(n:Int) - 1 by omega];exact h1)
      rwa [show n - 1+1=n by omega] at this
     have hwl:w64 (((runsN a n).length:Int) - 1)=(((runsN a n).length - 1:Nat):Int):=(w64_id (by omega) (by omega)).trans (by omega)
     rw [hwl]
     refine ⟨by omega,by rw [Int.toNat_natCast];omega,by omega,?_⟩
     rw [runsN,if_pos h,if_pos ⟨h0,h1⟩,Int.toNat_natCast,gd,Int.toNat_natCast]
    ·rw [runsN,if_pos h,if_neg (by rintro ⟨_,h2⟩;rw [h2] at h1;cases h1)]
   ·have h0:n=0:=by have:=of_decide_eq_false h0;omega
    refine ⟨by omega,?_⟩
    rw [runsN,if_pos h,if_neg (by omega)]
 ·have ht:n=256:=by have:=of_decide_eq_false ht;omega
  subst ht;rfl
theorem textChr_ok (b:Int) (t:ByteArray) (hr:runsN (setOf b b) 256=[{ e0:=b,e1:=b }]) (hp:C_heckleref03_char b t):C_heckleref03_Text (chr b) t:=by
 have h:=runs_ok (setOf b b)
 rw [hr] at h
 have hb:C_heckleref03_bytes (setOf b b) t:=by
  refine W_heckleref03_bytes _ _ ⟨_,h,fun _=>(by simp),fun _=>by simp,fun _=>(by simp),fun _=>by simp,fun _=>⟨by simp,by simp,t,hp,rfl⟩,fun h=>by simp at h⟩
 exact W_heckleref03_Text _ _ ⟨fun h=>(by simp [chr] at h),fun _=>⟨fun _=>⟨t,hb,rfl⟩,fun h=>by simp [chr] at h⟩⟩
theorem charPlain_ok (b:Int) (t:ByteArray) (hp:97≤b∧b≤122) (ht:bytesT [FV.pv (Value.int IntKind.u8 (IntKind.wrap IntKind.u8 b))]=t):C_heckleref03_char b t:=
 W_heckleref03_char b _ ⟨true,W_heckleref03_Plain b _ (by simp [hp.1,hp.2]),fun _=>ht.symm,fun h=>(by cases h)⟩
theorem text_a:C_heckleref03_Text (chr 97) ⟨#[97]⟩:=textChr_ok 97 _ (by kernel_rfl) (charPlain_ok 97 _ (by omega) (by kernel_rfl))
theorem text_b:C_heckleref03_Text (chr 98) ⟨#[98]⟩:=textChr_ok 98 _ (by kernel_rfl) (charPlain_ok 98 _ (by omega) (by kernel_rfl))
abbrev rpB:api_Rx:=⟨5,zset,0,-1,[chr 98]⟩
abbrev aw15:api_Rx:=⟨3,zset,0,0,[chr 97,rpB]⟩
abbrev aw15r:api_Rx:=⟨3,zset,0,0,[rpB,chr 97]⟩
theorem text_in (x:api_Rx) (t:ByteArray) (h:C_heckleref03_Text x t):C_heckleref03_in x false t:=W_heckleref03_in x false _ ⟨fun h=>(by cases h),fun _=>⟨t,h,rfl⟩⟩
theorem digit0:C_heckleref03_Digits 0 ⟨#[48]⟩:=W_heckleref03_Digits 0 _ ⟨fun _=>(by kernel_rfl),fun h=>by simp at h⟩
theorem text_rp:C_heckleref03_Text rpB ⟨#[98,123,48,44,125]⟩:=by
 refine W_heckleref03_Text _ _ ⟨fun h=>(by simp at h),fun _=>⟨fun h=>(by simp at h),fun _=>⟨fun _=>⟨by simp,by simp,_,text_in (chr 98) _ text_b,by decide,_,digit0,by decide,by decide,fun s=>s=⟨#[98,123,48,44]⟩,fun s hs=>⟨by subst hs;decide,by subst hs;decide⟩,fun h=>(by simp at h),fun _=>by decide⟩,fun h=>by simp at h⟩⟩⟩
end Go.Ev.Pl
set_option linter.unusedSimpArgs false
set_option linter.unusedVariables false
namespace Go.Ev.Pl
open Go Go.Ev
abbrev bra:ByteArray:=⟨#[98,123,48,44,125,97]⟩
theorem text_aw:C_heckleref03_Text aw15r bra:=by
 refine W_heckleref03_Text _ _ ⟨fun h=>(by simp at h),fun _=>⟨fun h=>(by simp at h),fun _=>⟨fun h=>(by simp at h),fun _=>?_⟩⟩⟩
 refine ⟨fun s i=>(i=0∧s=⟨#[]⟩)∨(i=1∧s=⟨#[98,123,48,44,125]⟩)∨(i=2∧s=bra),fun _ i=>(2 - i).toNat,.inl ⟨rfl,rfl⟩,?_⟩
 rintro s i (⟨rfl,rfl⟩ | ⟨rfl,rfl⟩ | ⟨rfl,rfl⟩)
 ·refine ⟨fun _=>⟨fun s=>s=⟨#[]⟩,fun s hs=>?_,fun h=>(by simp at h),fun _=>rfl⟩,fun h=>(by simp at h)⟩
  subst hs
  refine ⟨by omega,by simp,fun _=>⟨fun _=>by omega,fun _=>by simp,_,text_in rpB _ text_rp,fun _=>by decide,.inr (.inl ⟨by decide,by decide⟩),by decide⟩,fun h=>(by simp at h)⟩
 ·refine ⟨fun _=>⟨fun s=>s=⟨#[98,123,48,44,125]⟩,fun s hs=>?_,fun h=>(by simp at h),fun _=>rfl⟩,fun h=>(by simp at h)⟩
  subst hs
  refine ⟨by omega,by simp,fun _=>⟨fun _=>by omega,fun _=>by simp,_,text_in (chr 97) _ text_a,fun _=>by decide,.inr (.inr ⟨by decide,by decide⟩),by decide⟩,fun h=>(by simp at h)⟩
 ·exact ⟨fun h=>(by simp at h),fun _=>rfl⟩
theorem wf_rpB:Wf rpB:=(wf_eq _).2 ⟨by simp,fun y hy=>by
 simp only [List.mem_cons,List.not_mem_nil,or_false] at hy
 subst hy;exact wf_leaf _ _ _ _⟩
theorem wf_aw15:Wf aw15:=(wf_eq _).2 ⟨by simp,fun y hy=>by
 simp only [List.mem_cons,List.not_mem_nil,or_false] at hy
 rcases hy with rfl | rfl
 ·exact wf_leaf _ _ _ _
 ·exact wf_rpB⟩
theorem right_aw15:rightB aw15=true:=by kernel_rfl
theorem rev_aw15:rev aw15=aw15r:=by kernel_rfl
theorem right_zRx:rightB zRx=false:=by kernel_rfl
theorem right_b:rightB (chr 98)=true:=by kernel_rfl
abbrev abb:ByteArray:={ data:=#[(97:UInt8),(98:UInt8),(98:UInt8)] }
theorem acc_b (i j:Nat):acc 3 (bt abb) (gof (chr 98)) i j↔i < 3∧setHas (chr 98).Set (bt abb i)=true∧j=i+1:=by
 rw [gof_k2 (x:=chr 98) rfl];exact acc_byte
theorem sb1:setHas (chr 98).Set (bt abb 1)=true:=by kernel_rfl
theorem sb2:setHas (chr 98).Set (bt abb 2)=true:=by kernel_rfl
theorem sa0:setHas (chr 97).Set (bt abb 0)=true:=by kernel_rfl
theorem acc_rpB (i j:Nat):acc 3 (bt abb) (gof rpB) i j↔∃ q,pow (acc 3 (bt abb) (gof (chr 98))) q i j:=by
 rw [gof_k5 (x:=rpB) (k:=chr 98) rfl rfl,acc_rep (canon_gof _) (by decide) (.inl rfl)]
 constructor
 ·rintro ⟨q,_,h⟩;exact ⟨_,h⟩
 ·rintro ⟨q,h⟩;exact ⟨q,.inl (by decide),by simpa using h⟩
theorem acc_aw15 (j:Nat) (hj:j≤3):acc 3 (bt abb) (gof aw15) 0 j↔1≤j:=by
 rw [gof_k3 (x:=aw15) rfl,acc_catF _ canon_empty]
 constructor
 ·rintro ⟨k,h1,k2,h2,k3,h3,h4⟩
  cases acc_empty.1 h1
  rw [gof_k2 (x:=chr 97) rfl,acc_byte] at h2
  have:=acc_le h3 (by omega)
  cases h4
  omega
 ·intro h
  refine ⟨0,acc_empty.2 rfl,1,by rw [gof_k2 (x:=chr 97) rfl,acc_byte];exact ⟨by omega,sa0,rfl⟩,j,?_,rfl⟩
  rw [acc_rpB]
  rcases (show j=1∨j=2∨j=3 by omega) with rfl | rfl | rfl
  ·exact ⟨0,rfl⟩
  ·exact ⟨1,1,rfl,(acc_b 1 2).2 ⟨by omega,sb1,rfl⟩⟩
  ·exact ⟨2,2,⟨1,rfl,(acc_b 1 2).2 ⟨by omega,sb1,rfl⟩⟩,(acc_b 2 3).2 ⟨by omega,sb2,rfl⟩⟩
theorem accB_aw15 (j:Nat) (hj:j≤3):accB abb (gof aw15) j=decide (1≤j):=by
 rw [Bool.eq_iff_iff,accB_iff,decide_eq_true_eq];exact acc_aw15 j hj
theorem ahd_aw15:ahd aw15 abb=[false,true,true,true]:=by
 show (List.range 4).map _=_
 simp only [List.range,List.range.loop,List.map_cons,List.map_nil]
 rw [accB_aw15 0 (by omega),accB_aw15 1 (by omega),accB_aw15 2 (by omega),accB_aw15 3 (by omega)]
 rfl
theorem prt_aw1:prt { Conds:=[],All:=false,Bol:=false,Rx:=aw15,Trail:=chr 98,Eof:=false,Act:=0,To:=0 } abb=2:=by
 have h1:rightB aw15=true∧abb.size≤10000:=⟨right_aw15,by decide⟩
 unfold prt
 rw [if_pos h1,if_neg (show ¬ (chr 98).Kind=0 by decide),if_pos right_b]
 show lastN _ 3=2
 rw [lastN_neg (by rintro ⟨_,h⟩;have:=(acc_b 3 3).1 h;omega),lastN_pos ⟨(acc_aw15 2 (by omega)).2 (by omega),(acc_b 2 3).2 ⟨by omega,sb2,rfl⟩⟩]
theorem prt_aw2:prt { Conds:=[],All:=false,Bol:=false,Rx:=aw15,Trail:=zRx,Eof:=false,Act:=0,To:=0 } abb=3:=by
 have h1:rightB aw15=true∧abb.size≤10000:=⟨right_aw15,by decide⟩
 unfold prt
 rw [if_pos h1,if_pos rfl]
 show (if accB abb (gof aw15) 3=true then _ else _)=3
 rw [accB_aw15 3 (by omega)];rfl
theorem char15_ok (b:Int):C_hecklelaw15_char b (chr b):=W_hecklelaw15_char b _ ⟨_,setOf_ok b b,rfl⟩
theorem awake15_ok:C_hecklelaw15_awake true:=by
 have hR:=Reverse_ok aw15 wf_aw15
 rw [if_pos right_aw15,if_pos right_aw15,rev_aw15] at hR
 have hZ:=Reverse_ok zRx (wf_leaf _ _ _ _)
 rw [if_neg (by rw [right_zRx];simp),if_neg (by rw [right_zRx];simp)] at hZ
 have hA:=Ahead_ok aw15 abb wf_aw15 (by decide)
 rw [if_pos ⟨right_aw15,by decide⟩,ahd_aw15] at hA
 have hS1:=Split_ok { Conds:=[],All:=false,Bol:=false,Rx:=aw15,Trail:=chr 98,Eof:=false,Act:=0,To:=0 } abb wf_aw15 (wf_leaf _ _ _ _) (by decide)
 rw [prt_aw1] at hS1
 have hS2:=Split_ok { Conds:=[],All:=false,Bol:=false,Rx:=aw15,Trail:=zRx,Eof:=false,Act:=0,To:=0 } abb wf_aw15 (wf_leaf _ _ _ _) (by decide)
 rw [prt_aw2] at hS2
 refine W_hecklelaw15_awake _ ⟨chr 97,char15_ok 97,chr 98,char15_ok 98,_,_,hR,_,_,hZ,_,hA,fun _=>⟨_,text_aw,fun _=>⟨fun _=>⟨_,boolsRefl_ok _ (by simp),fun _=>⟨chr 98,char15_ok 98,_,hS1,fun _=>⟨_,hS2,by decide⟩,fun h=>(by simp at h)⟩,fun h=>(by cases h)⟩,fun h=>(by simp at h)⟩,fun h=>(by simp at h)⟩,fun h=>(by simp at h)⟩
def tn (s:ByteArray) (i:Nat):ByteArray:=⟨(s.data.toList.take i).reverse.toArray⟩
theorem tn_size (s:ByteArray) {i:Nat} (h:i≤s.size):(tn s i).size=i:=by
 have h':i≤s.data.toList.length:=by simpa using h
 show ((s.data.toList.take i).reverse.toArray).size=i
 simp only [List.size_toArray,List.length_reverse,List.length_take]
 omega
theorem tn_succ (s:ByteArray) {i:Nat} (h:i < s.size):s.extract i (i+1)++tn s i=tn s (i+1):=by
 have h':i < s.data.toList.length:=by simpa using h
 apply ByteArray.ext
 rw [ByteArray.data_append,ByteArray.data_extract]
 apply Array.toList_inj.1
 simp only [tn,Array.toList_append,Array.toList_extract]
 rw [List.take_succ_eq_append_getElem h',List.reverse_append]
 simp [List.extract,List.drop_eq_getElem_cons h']
theorem turned15_ok (s:ByteArray) (hs:s.size≤100000):∃ t,C_hecklelaw15_turned s t∧Rvd s t:=by
 refine ⟨tn s s.size,?_,?_⟩
 ·refine W_hecklelaw15_turned s _ ⟨fun t i=>∃ n:Nat,i=n∧n≤s.size∧t=tn s n,fun _ i=>(s.size - i).toNat,⟨0,rfl,by omega,by simp [tn]⟩,?_⟩
  rintro t i ⟨n,rfl,hn,rfl⟩
  have hw2:w64 ((n:Int)+1)=((n+1:Nat):Int):=w64_id (by omega) (by omega)
  refine ⟨fun ht=>?_,fun ht=>?_⟩
  ·have ht:n < s.size:=by have:=of_decide_eq_true ht;omega
   have e1:(s.extract n (n+1)).size=1:=by rw [ByteArray.size_extract];omega
   rw [hw2,Int.toNat_natCast,Int.toNat_natCast,tn_succ s ht,e1,tn_size s hn]
   refine ⟨⟨by omega,by omega,by omega,by omega⟩,?_,⟨n+1,rfl,by omega,rfl⟩,by first | omega | (dsimp only;omega)⟩
   rw [show IntKind.max IntKind.i64=9223372036854775807 by decide];omega
  ·have ht:n=s.size:=by have:=of_decide_eq_false ht;omega
   rw [ht]
 ·refine rvd_list ?_
  show (List.take s.size s.data.toList).reverse=_
  rw [List.take_of_length_le (by simp)]
end Go.Ev.Pl
set_option linter.unusedSimpArgs false
set_option linter.unusedVariables false
namespace Go.Ev.Pl
open Go Go.Ev
theorem reverseRight_ok (x:api_Rx) (hw:Wf x) (hr:rightB x=true):C_split_Reverse x (rev x) 0:=by
 have h:=Reverse_ok x hw
 rwa [if_pos hr,if_pos hr] at h
theorem aheadRight_ok (x:api_Rx) (s:ByteArray) (hw:Wf x) (hr:rightB x=true) (hs:s.size≤10000):C_split_Ahead x s (ahd x s):=by
 have h:=Ahead_ok x s hw (by omega)
 rwa [if_pos ⟨hr,hs⟩] at h
theorem splitPlace_ok (l m t:List Int) (hb:Bytes l) (hb1:Bytes m) (hb2:Bytes t):C_hecklelaw15_SplitPlace l m t true:=by
 obtain ⟨x,hx,hf⟩:=made_ok l hb
 obtain ⟨y,hy,hg⟩:=made_ok m hb1
 obtain ⟨s,hs,hsz⟩:=text_ok t hb2
 obtain ⟨u,hu,hv⟩:=turned15_ok s (by omega)
 have hwr:=rev_wf y hg.wf
 have hrr:rightB (rev y)=true:=by rw [rev_right];exact hg.right
 have hA:=aheadRight_ok x s hf.wf hf.right (by omega)
 have hB:=aheadRight_ok (rev y) u hwr hrr (by have:=hv.1;omega)
 have hS:=Split_ok { Conds:=[],All:=false,Bol:=false,Rx:=x,Trail:=y,Eof:=false,Act:=0,To:=0 } s hf.wf hg.wf (by omega)
 have hR:=(size_of_right hg.right).1
 have hk:¬ y.Kind=0:=by
  rcases own_kind (rgt_own hR).1 with h | h | h | h | h<;>omega
 obtain ⟨p,hp⟩:∃ p:Nat→Prop,p=fun h=>acc s.size (bt s) (gof x) 0 h∧acc s.size (bt s) (gof y) h s.size:=⟨_,rfl⟩
 have hprt:prt { Conds:=[],All:=false,Bol:=false,Rx:=x,Trail:=y,Eof:=false,Act:=0,To:=0 } s=lastN p s.size:=by
  unfold prt
  rw [if_pos ⟨hf.right,by omega⟩,if_neg hk,if_pos hg.right,hp]
 rw [hprt] at hS
 have hw2:w64 ((s.size:Int)+1)=((s.size+1:Nat):Int):=w64_id (by omega) (by omega)
 have hts:u.size=s.size:=hv.1
 refine W_hecklelaw15_SplitPlace l m t _ ⟨true,awake15_ok,fun h=>(by cases h),fun _=>⟨x,hx,y,hy,s,hs,_,_,reverseRight_ok y hg.wf hg.right,_,hA,u,hu,_,hB,fun h=>?_,fun _=>?_⟩⟩
 ·rw [List.length_map,ahd_len,ahd_len,hts,hw2] at h;simp at h
 rw [ahd_len,ahd_len,hts]
 refine ⟨fun want h=>∃ i:Nat,h=((i+1:Nat):Int)∧i≤s.size∧want=(lastN p i:Nat),fun _ h=>(s.size+1 - h).toNat,⟨0,rfl,by omega,rfl⟩,?_⟩
 rintro want _ ⟨i,rfl,hi,rfl⟩
 refine ⟨fun h0=>?_,fun h0=>?_⟩
 ·have h0:i+1≤s.size:=by have:=of_decide_eq_true h0;omega
  have hwN:w64 ((s.size:Int) - ((i+1:Nat):Int))=((s.size - (i+1):Nat):Int):=(w64_id (by omega) (by omega)).trans (by omega)
  have hw1:w64 (((i+1:Nat):Int)+1)=((i+1+1:Nat):Int):=w64_id (by omega) (by omega)
  have hAc:(gd (ahd x s) ((i+1:Nat):Int) && gd (ahd (rev y) u) (w64 ((s.size:Int) - ((i+1:Nat):Int))))=true↔p (i+1):=by
   rw [hwN,ahd_get _ s (by omega),ahd_get _ u (by omega),Bool.and_eq_true,accB_iff,acc_rvd hv _ hR (by omega),hp,show s.size - (s.size - (i+1))=i+1 by omega]
  refine ⟨fun w=>w=(lastN p (i+1):Nat),fun w hw=>⟨by rw [hw1];exact ⟨i+1,rfl,h0,hw⟩,by rw [hw1];first | omega | (dsimp only;omega)⟩,by omega,by omega,by omega,fun _=>by rw [hwN];omega,fun _=>by rw [hwN,Int.toNat_natCast];omega,fun _=>by rw [hwN];omega,fun ha=>?_,fun ha=>?_⟩
  ·rw [lastN_pos (hAc.1 ha)]
  ·rw [lastN_neg fun h=>by rw [hAc.2 h] at ha;cases ha]
 ·have h0:i=s.size:=by have:=of_decide_eq_false h0;omega
  subst h0
  exact ⟨fun _=>⟨_,hS,by simp⟩,fun h=>(by cases h)⟩
end Go.Ev.Pl
