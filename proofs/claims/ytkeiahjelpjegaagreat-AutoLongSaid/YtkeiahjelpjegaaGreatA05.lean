import Derived.Test.YtkeiahjelpjegaaGreatA04
set_option linter.unusedSimpArgs false
set_option linter.unusedVariables false
namespace Go.Ev.Pl
open Go Go.Ev
theorem zT {x:Int} (h0:-9223372036854775808≤x) (h1:x≤9223372036854775807):w64 x=x:=wrap64 h0 (by omega)
theorem rx_sizeOf {x y:ze} (h:y∈x.Kids):SizeOf.sizeOf y < SizeOf.sizeOf x:=by
 cases x with
 | mk k s lo hi kids=>
   have:=List.sizeOf_lt_of_mem h
   simp only [ze.mk.sizeOf_spec]
   simp at this
   omega
theorem rxInd {P:ze→Prop} (h:∀ x,(∀ y∈x.Kids,P y)→P x) (x:ze):P x:=
 h x fun y hy=>rxInd h y
 termination_by SizeOf.sizeOf x
 decreasing_by exact rx_sizeOf hy
mutual
def cata {α:Type} (f:ze→List α→α):ze→α
 | ⟨k,s,lo,hi,kids⟩=>f ⟨k,s,lo,hi,kids⟩ (cataL f kids)
def cataL {α:Type} (f:ze→List α→α):List ze→List α
 | []=>[]
 | x :: r=>cata f x :: cataL f r
end
theorem cataL_map {α:Type} (f:ze→List α→α):∀ l,cataL f l=l.map (cata f)
 | []=>rfl
 | x :: r=>by rw [cataL,cataL_map f r];rfl
theorem zeu {α:Type} (f:ze→List α→α) (x:ze):cata f x=f x (x.Kids.map (cata f)):=by
 cases x;rw [cata,cataL_map]
def Wf (x:ze):Prop:=cata (α:=Prop) (fun x l=>x.Kids.length < 1099511627776∧∀ p∈l,p) x
theorem zhw (x:ze):Wf x↔x.Kids.length < 1099511627776∧∀ y∈x.Kids,Wf y:=by
 show cata (α:=Prop) _ x↔_
 rw [zeu]
 constructor
 ·rintro ⟨h1,h2⟩;exact ⟨h1,fun y hy=>h2 _ (List.mem_map.2 ⟨y,hy,rfl⟩)⟩
 ·rintro ⟨h1,h2⟩
  refine ⟨h1,fun p hp=>?_⟩
  obtain ⟨y,hy,rfl⟩:=List.mem_map.1 hp
  exact h2 y hy
theorem z7 {α:Type} [Inhabited α] {l:List α} {i:Nat} (h:i < l.length):gd l (i:Int)=l[i]:=by
 simp [gd,List.getD,h]
def timesN (x:ze):Nat:=(max 1 (min 1000 (max x.Lo x.Hi))).toNat
def sizeN:ze→Nat:=cata fun x l=>if x.Kind=2 then 1 else if 3≤x.Kind∧x.Kind≤5 then l.sum * (if x.Kind=5 then timesN x else 1) else 0
theorem zbW (x:ze):sizeN x=if x.Kind=2 then 1 else if 3≤x.Kind∧x.Kind≤5 then (x.Kids.map sizeN).sum * (if x.Kind=5 then timesN x else 1) else 0:=zeu _ x
def sizeZ (x:ze):Int:=min (sizeN x:Int) (1000000:Int)
theorem zeL {l:List Nat} {i:Nat} (h:i < l.length):(l.take (i+1)).sum=(l.take i).sum+l[i]:=by
 rw [List.take_succ_eq_append_getElem h,List.sum_append];simp
theorem rxSize_ok:∀ x,Wf x→zc2 x (sizeZ x):=by
 refine rxInd fun x ih hw=>?_
 obtain ⟨hl,hk⟩:=(zhw x).1 hw
 refine W_rx_Size x _ ⟨fun h=>?_,fun h=>⟨fun h2=>?_,fun h2=>?_⟩⟩
 ·have h:x.Kind=2:=by simpa using h
  simp [sizeZ,zbW,h];omega
 ·have:x.Kind < 3∨x.Kind > 5:=by simpa using h2
  have h:x.Kind≠2:=by simpa using h
  rw [sizeZ,zbW,if_neg h,if_neg (by omega)];omega
 ·have h:x.Kind≠2:=by simpa using h
  have h2:3≤x.Kind∧x.Kind≤5:=by simp at h2;omega
  have hT:(timesN x:Int)=max 1 (min 1000 (max x.Lo x.Hi)):=by simp only [timesN];omega
  refine ⟨fun n t=>∃ i:Nat,t=i∧i≤x.Kids.length∧n=min (((x.Kids.map sizeN).take i).sum:Int) 1000000,fun n t=>(x.Kids.length - t).toNat,⟨0,rfl,by omega,by simp;omega⟩,?_⟩
  rintro n t ⟨i,rfl,hi,hn⟩
  refine ⟨fun ht=>?_,fun ht=>?_⟩
  ·have ht:i < x.Kids.length:=by simpa using ht
   refine ⟨by omega,by omega,sizeZ x.Kids[i],by rw [z7 ht];exact ih _ (List.getElem_mem ht) (hk _ (List.getElem_mem ht)),?_⟩
   have hs:=zeL (l:=x.Kids.map sizeN) (i:=i) (by simpa using ht)
   rw [List.getElem_map] at hs
   have hz:sizeZ x.Kids[i]=min (sizeN x.Kids[i]:Int) (1000000:Int):=rfl
   have hw1:w64 (n+sizeZ x.Kids[i])=n+sizeZ x.Kids[i]:=zT (by omega) (by omega)
   have hw2:w64 ((i:Int)+1)=((i+1:Nat):Int):=zT (by omega) (by omega)
   rw [hw1,hw2]
   refine ⟨⟨i+1,rfl,by omega,?_⟩,by dsimp only;omega⟩
   rw [hs];simp;omega
  ·have ht:i=x.Kids.length:=by have:¬ i < x.Kids.length:=by simpa using ht
                               omega
   subst ht
   rw [List.take_of_length_le (by simp)] at hn
   refine ⟨fun m=>m=n * (if x.Kind=5 then (timesN x:Int) else 1),fun m hm=>?_,fun h5=>?_,fun h5=>?_⟩
   ·subst hm
    rw [sizeZ,zbW,if_neg h,if_pos h2]
    by_cases h5:x.Kind=5
    ·simp only [if_pos h5]
     have hp:(1:Int)≤timesN x:=by omega
     have hp2:(timesN x:Int)≤1000:=by omega
     generalize (x.Kids.map sizeN).sum=S at hn ⊢
     subst hn
     rw [Int.natCast_mul]
     generalize (timesN x:Int)=T at hp hp2 ⊢
     simp
     rcases Int.le_total (S:Int) 1000000 with hS | hS
     ·rw [Int.min_eq_left hS];omega
     ·rw [Int.min_eq_right hS]
      have h1:(1000000:Int) * 1≤1000000 * T:=Int.mul_le_mul_of_nonneg_left hp (by omega)
      have h2:(1000000:Int) * T≤S * T:=Int.mul_le_mul_of_nonneg_right hS (by omega)
      omega
    ·simp only [if_neg h5];simp;omega
   ·have h5:x.Kind=5:=by simpa using h5
    rw [if_pos h5,hT]
    have:∀ a:Int,0≤a→a≤1000000→w64 (a * max 1 (min 1000 (max x.Lo x.Hi)))=a * max 1 (min 1000 (max x.Lo x.Hi)):=fun a h1 h2=>by
     have e1:0≤a * max 1 (min 1000 (max x.Lo x.Hi)):=Int.mul_nonneg h1 (by omega)
     have e2:a * max 1 (min 1000 (max x.Lo x.Hi))≤1000000 * 1000:=Int.mul_le_mul h2 (by omega) (by omega) (by omega)
     exact zT (by omega) (by omega)
    rw [← this n (by omega) (by omega)]
    congr 1;congr 1
    simp;omega
   ·have h5:x.Kind≠5:=by simpa using h5
    rw [if_neg h5];omega
theorem refSize_ok:∀ x,Wf x→zba x (sizeZ x):=by
 refine rxInd fun x ih hw=>?_
 obtain ⟨hl,hk⟩:=(zhw x).1 hw
 refine zfg x _ ⟨fun h=>?_,fun h=>?_⟩
 ·have h:x.Kind=2:=by simpa using h
  simp [sizeZ,zbW,h];omega
 have h:x.Kind≠2:=by simpa using h
 refine ⟨fun b=>b=decide (3≤x.Kind∧x.Kind≤5),fun b hb=>⟨fun hbt=>?_,fun hbf=>?_⟩,fun h3=>?_,fun h3=>⟨fun h4=>?_,fun h4=>?_⟩⟩
 ·have h2:3≤x.Kind∧x.Kind≤5:=by rw [hbt] at hb;simpa using hb.symm
  have hT:(timesN x:Int)=max 1 (min 1000 (max x.Lo x.Hi)):=by simp only [timesN];omega
  have hp:(1:Int)≤timesN x:=by omega
  have hp2:(timesN x:Int)≤1000:=by omega
  refine ⟨fun n t=>∃ i:Nat,t=i∧i≤x.Kids.length∧n=min (((x.Kids.map sizeN).take i).sum:Int) 1000000,fun n t=>(x.Kids.length - t).toNat,⟨0,rfl,by omega,by simp;omega⟩,?_⟩
  rintro n t ⟨i,rfl,hi,hn⟩
  refine ⟨fun ht=>?_,fun ht=>?_⟩
  ·have ht:i < x.Kids.length:=by simpa using ht
   refine ⟨by omega,by omega,sizeZ x.Kids[i],by rw [z7 ht];exact ih _ (List.getElem_mem ht) (hk _ (List.getElem_mem ht)),?_⟩
   have hs:=zeL (l:=x.Kids.map sizeN) (i:=i) (by simpa using ht)
   rw [List.getElem_map] at hs
   have hz:sizeZ x.Kids[i]=min (sizeN x.Kids[i]:Int) (1000000:Int):=rfl
   have hw1:w64 (n+sizeZ x.Kids[i])=n+sizeZ x.Kids[i]:=zT (by omega) (by omega)
   have hw2:w64 ((i:Int)+1)=((i+1:Nat):Int):=zT (by omega) (by omega)
   rw [hw1,hw2]
   refine ⟨fun hg=>?_,fun hg=>?_⟩
   ·have hg:n+sizeZ x.Kids[i] > 1000000:=by simpa using hg
    have hsum:(x.Kids.map sizeN).sum≥((x.Kids.map sizeN).take (i+1)).sum:=by
     conv=>lhs;rw [← List.take_append_drop (i+1) (x.Kids.map sizeN),List.sum_append]
     omega
    rw [sizeZ,zbW,if_neg h,if_pos h2]
    have:(1000001:Int)≤(((x.Kids.map sizeN).sum * (if x.Kind=5 then timesN x else 1):Nat):Int):=by
     split
     ·have h3:(x.Kids.map sizeN).sum * 1≤(x.Kids.map sizeN).sum * timesN x:=Nat.mul_le_mul_left _ (by omega)
      omega
     ·omega
    omega
   ·have hg:¬ n+sizeZ x.Kids[i] > 1000000:=by simpa using hg
    exact ⟨⟨i+1,rfl,by omega,by rw [hs];simp;omega⟩,by dsimp only;omega⟩
  ·have ht:i=x.Kids.length:=by have:¬ i < x.Kids.length:=by simpa using ht
                               omega
   subst ht
   rw [List.take_of_length_le (by simp)] at hn
   refine ⟨fun m=>m=n * (if x.Kind=5 then (timesN x:Int) else 1),fun m hm=>?_,fun h5=>?_,fun h5=>?_⟩
   ·subst hm
    rw [sizeZ,zbW,if_neg h,if_pos h2]
    by_cases h5:x.Kind=5
    ·simp only [if_pos h5]
     generalize (x.Kids.map sizeN).sum=S at hn ⊢
     subst hn
     rw [Int.natCast_mul]
     generalize (timesN x:Int)=T at hp hp2 ⊢
     simp
     rcases Int.le_total (S:Int) 1000000 with hS | hS
     ·rw [Int.min_eq_left hS];omega
     ·rw [Int.min_eq_right hS]
      have h1:(1000000:Int) * 1≤1000000 * T:=Int.mul_le_mul_of_nonneg_left hp (by omega)
      have h2:(1000000:Int) * T≤S * T:=Int.mul_le_mul_of_nonneg_right hS (by omega)
      omega
    ·simp only [if_neg h5];simp;omega
   ·have h5:x.Kind=5:=by simpa using h5
    rw [if_pos h5,hT]
    have:∀ a:Int,0≤a→a≤1000000→w64 (a * max 1 (min 1000 (max x.Lo x.Hi)))=a * max 1 (min 1000 (max x.Lo x.Hi)):=fun a h1 h2=>by
     have e1:0≤a * max 1 (min 1000 (max x.Lo x.Hi)):=Int.mul_nonneg h1 (by omega)
     have e2:a * max 1 (min 1000 (max x.Lo x.Hi))≤1000000 * 1000:=Int.mul_le_mul h2 (by omega) (by omega) (by omega)
     exact zT (by omega) (by omega)
    rw [← this n (by omega) (by omega)]
    congr 1;congr 1
    simp;omega
   ·have h5:x.Kind≠5:=by simpa using h5
    rw [if_neg h5];omega
 ·have h2:¬ (3≤x.Kind∧x.Kind≤5):=by rw [hbf] at hb;simpa using hb.symm
  rw [sizeZ,zbW,if_neg h,if_neg h2];omega
 ·have h3':x.Kind=3:=by simpa using h3
  simp [h3']
 ·have h4':x.Kind=4:=by simpa using h4
  simp [h4']
 ·have h3':x.Kind≠3:=by simpa using h3
  have h4':x.Kind≠4:=by simpa using h4
  show decide (x.Kind=5)=decide (3≤x.Kind∧x.Kind≤5)
  rw [decide_eq_decide];omega
def nodesZ:ze→Int→Int:=cata fun x l most=>l.foldl (fun m g=>if m≥0 then g m else m) (most - 1)
theorem zdA (x:ze) (most:Int):nodesZ x most=x.Kids.foldl (fun m y=>if m≥0 then nodesZ y m else m) (most - 1):=by
 unfold nodesZ
 rw [zeu,List.foldl_map]
theorem nodesZ_le:∀ x most,0≤most→nodesZ x most≤most - 1∧-1≤nodesZ x most:=by
 refine rxInd fun x ih most hm=>?_
 rw [zdA]
 have key:∀ (l:List ze) (m:Int),(∀ y∈l,y∈x.Kids)→-1≤m→(l.foldl (fun m y=>if m≥0 then nodesZ y m else m) m)≤m∧-1≤l.foldl (fun m y=>if m≥0 then nodesZ y m else m) m:=by
  intro l
  induction l with
  | nil=>intro m _ h;exact ⟨Int.le_refl _,h⟩
  | cons y r ih2=>
    intro m hl h
    simp only [List.foldl_cons]
    split
    ·rename_i h0
     obtain ⟨h1,h2⟩:=ih y (hl y (List.mem_cons_self ..)) m h0
     obtain ⟨h3,h4⟩:=ih2 _ (fun z hz=>hl z (List.mem_cons_of_mem _ hz)) h2
     exact ⟨by omega,h4⟩
    ·exact ih2 m (fun z hz=>hl z (List.mem_cons_of_mem _ hz)) h
 exact key x.Kids (most - 1) (fun _ h=>h) (by omega)
theorem zay {α β:Type} {f:β→α→β} {b:β} {l:List α} {i:Nat} (h:i < l.length):(l.take (i+1)).foldl f b=f ((l.take i).foldl f b) l[i]:=by
 rw [List.take_succ_eq_append_getElem h,List.foldl_append];rfl
theorem nodes_pre {x:ze} {most:Int} (hm:0≤most) (i:Nat):-1≤(x.Kids.take i).foldl (fun m y=>if m≥0 then nodesZ y m else m) (most - 1)∧(x.Kids.take i).foldl (fun m y=>if m≥0 then nodesZ y m else m) (most - 1) < most:=by
 induction i with
 | zero=>simp;omega
 | succ i ih=>
   by_cases h:i < x.Kids.length
   ·rw [zay h]
    split
    ·rename_i h0
     have:=nodesZ_le x.Kids[i] _ h0
     omega
    ·exact ih
   ·rw [List.take_of_length_le (by omega)] at ih ⊢;exact ih
theorem rxNodes_ok:∀ x,Wf x→∀ most,0≤most→most≤1000000→zc1 x most (nodesZ x most):=by
 refine rxInd fun x ih hw most hm0 hm1=>?_
 obtain ⟨hl,hk⟩:=(zhw x).1 hw
 rw [zdA]
 have hw0:w64 (most - 1)=most - 1:=zT (by omega) (by omega)
 refine W_rx_nodes x most _ ⟨fun m t=>∃ i:Nat,t=i∧i≤x.Kids.length∧m=(x.Kids.take i).foldl (fun m y=>if m≥0 then nodesZ y m else m) (most - 1),fun m t=>(x.Kids.length - t).toNat,⟨0,rfl,by omega,by rw [hw0];rfl⟩,?_⟩
 rintro m t ⟨i,rfl,hi,hm⟩
 have hb:=nodes_pre (x:=x) hm0 i
 rw [← hm] at hb
 refine ⟨fun ht=>?_,fun ht=>?_⟩
 ·have ht:i < x.Kids.length:=by simpa using ht
  have hw2:w64 ((i:Int)+1)=((i+1:Nat):Int):=zT (by omega) (by omega)
  have hs:=zay (f:=fun m y=>if m≥0 then nodesZ y m else m) (b:=most - 1) ht
  rw [← hm] at hs
  refine ⟨fun m'=>m'=if m≥0 then nodesZ x.Kids[i] m else m,fun m' hm'=>?_,by omega,by omega,fun hg=>?_,fun hg=>?_⟩
  ·rw [hw2]
   exact ⟨⟨i+1,rfl,by omega,by rw [hs,hm']⟩,by dsimp only;omega⟩
  ·have hg:m≥0:=by simpa using hg
   refine ⟨nodesZ x.Kids[i] m,?_,by rw [if_pos hg]⟩
   rw [z7 ht]
   exact ih _ (List.getElem_mem ht) (hk _ (List.getElem_mem ht)) _ hg (by omega)
  ·have hg:¬ m≥0:=by simpa using hg
   rw [if_neg hg]
 ·have ht:i=x.Kids.length:=by have:¬ i < x.Kids.length:=by simpa using ht
                              omega
  subst ht
  rw [hm,List.take_of_length_le (Nat.le_refl _)]
def WfB (x:ze):Prop:=cata (α:=Prop) (fun x l=>x.Kids.length < 9223372036854775808∧∀ p∈l,p) x
theorem wfB_eq (x:ze):WfB x↔x.Kids.length < 9223372036854775808∧∀ y∈x.Kids,WfB y:=by
 unfold WfB
 rw [zeu]
 simp only [List.mem_map,forall_exists_index,and_imp,forall_apply_eq_imp_iff₂]
theorem wfB_of_wf:∀ x,Wf x→WfB x:=by
 refine rxInd fun x ih hw=>?_
 obtain ⟨hl,hk⟩:=(zhw x).1 hw
 exact (wfB_eq x).2 ⟨by omega,fun y hy=>ih y hy (hk y hy)⟩
theorem refNodesB_ok:∀ x,WfB x→∀ most,0≤most→most≤1000000→zaO x most (nodesZ x most):=by
 refine rxInd fun x ih hw most hm0 hm1=>?_
 obtain ⟨hl,hk⟩:=(wfB_eq x).1 hw
 rw [zdA]
 have hw0:w64 (most - 1)=most - 1:=zT (by omega) (by omega)
 refine zeI x most _ ⟨fun m t=>∃ i:Nat,t=i∧i≤x.Kids.length∧m=(x.Kids.take i).foldl (fun m y=>if m≥0 then nodesZ y m else m) (most - 1),fun m t=>(x.Kids.length - t).toNat,⟨0,rfl,by omega,by rw [hw0];rfl⟩,?_⟩
 rintro m t ⟨i,rfl,hi,hm⟩
 have hb:=nodes_pre (x:=x) hm0 i
 rw [← hm] at hb
 have hstay:∀ (l:List ze) (m:Int),m < 0→l.foldl (fun m y=>if m≥0 then nodesZ y m else m) m=m:=by
  intro l
  induction l with
  | nil=>intro m _;rfl
  | cons y r ih2=>intro m h;rw [List.foldl_cons,if_neg (by omega)];exact ih2 m h
 refine ⟨fun ht=>?_,fun ht=>?_⟩
 ·simp only [List.length_map,Bool.and_eq_true,decide_eq_true_eq] at ht
  obtain ⟨ht,hg⟩:=ht
  have ht:i < x.Kids.length:=by omega
  have hw2:w64 ((i:Int)+1)=((i+1:Nat):Int):=zT (by omega) (by omega)
  have hs:=zay (f:=fun m y=>if m≥0 then nodesZ y m else m) (b:=most - 1) ht
  rw [← hm,if_pos hg] at hs
  refine ⟨by omega,by omega,nodesZ x.Kids[i] m,?_,?_⟩
  ·rw [z7 ht]
   exact ih _ (List.getElem_mem ht) (hk _ (List.getElem_mem ht)) _ hg (by omega)
  ·rw [hw2]
   exact ⟨⟨i+1,rfl,by omega,hs.symm⟩,by dsimp only;omega⟩
 ·simp only [List.length_map,Bool.and_eq_false_iff,decide_eq_false_iff_not] at ht
  rcases Nat.lt_or_ge i x.Kids.length with hlt | hge
  ·have hneg:m < 0:=by omega
   have e:=List.foldl_append (f:=fun m y=>if m≥0 then nodesZ y m else m) (b:=most - 1) (l:=x.Kids.take i) (l':=x.Kids.drop i)
   rw [List.take_append_drop,← hm,hstay _ _ hneg] at e
   exact e
  ·rw [hm,List.take_of_length_le hge]
theorem refNodes_ok (x:ze) (hw:Wf x) (most:Int) (h0:0≤most) (h1:most≤1000000):zaO x most (nodesZ x most):=refNodesB_ok x (wfB_of_wf x hw) most h0 h1
def noSet (s:zb):Bool:=s.e0 == 0 && (s.e1 == 0 && (s.e2 == 0 && (s.e3 == 0 && true)))
def timesB (lo hi:Int):Bool:=decide (0≤lo) && (decide (lo≤20) && (hi == -1 || decide (hi≥max 1 lo) && decide (hi≤20)))
def ownB (x:ze):Bool:=
 if x.Kind=5 then noSet x.Set && (decide (x.Kids.length=1) && timesB x.Lo x.Hi)
 else if x.Kind=1 then noSet x.Set && (x.Lo == 0 && x.Hi == 0 && decide (x.Kids.length=0))
 else if x.Kind=2 then !noSet x.Set && (x.Lo == 0 && x.Hi == 0 && decide (x.Kids.length=0))
 else if x.Kind=3∨x.Kind=4 then noSet x.Set && (x.Lo == 0 && x.Hi == 0 && decide (x.Kids.length≥2))
 else false
def oddK (x k:ze):Bool:=k.Kind == x.Kind && x.Kind != 5
def rgt:ze→Int→Bool:=cata fun x l deep=>decide (deep > 0) && ownB x && (x.Kids.zip l).all fun (k,g)=>!oddK x k && g (deep - 1)
theorem rgt_eq (x:ze) (deep:Int):rgt x deep=(decide (deep > 0) && ownB x && x.Kids.all fun k=>!oddK x k && rgt k (deep - 1)):=by
 unfold rgt
 rw [zeu]
 congr 1
 rw [List.zip_map_right,List.all_map]
 generalize x.Kids=l
 induction l with
 | nil=>rfl
 | cons y r ih=>simp only [List.zip_cons_cons,List.all_cons,Function.comp] at ih ⊢;rw [ih];rfl
def pat (x:ze):zk:={ Kind:=x.Kind,Set:=x.Set,Lo:=x.Lo,Hi:=x.Hi,Kids:=x.Kids }
theorem times_ok (x:zk):zby x (timesB x.Lo x.Hi):=by
 refine zfb x _ ⟨fun h=>?_,fun h=>?_⟩
 ·simp only [Bool.or_eq_true,decide_eq_true_eq] at h
  simp only [timesB,Bool.and_eq_false_iff,decide_eq_false_iff_not];omega
 ·simp only [Bool.or_eq_false_iff,decide_eq_false_iff_not] at h
  have h1:decide (0≤x.Lo)=true:=by simp;omega
  have h2:decide (x.Lo≤20)=true:=by simp;omega
  simp only [timesB,h1,h2,Bool.true_and]
  congr 2
  have:(if x.Lo > 1 then x.Lo else 1)=max 1 x.Lo:=by omega
  rw [this]
theorem len0 (l:List ze):decide (l=[])=(decide ((2:Int)≤(l.length:Int)+2) && (l.length:Int)+2 == 2):=by
 cases l with
 | nil=>rfl
 | cons a r=>
   have:((((a :: r).length:Nat):Int)+2 == 2)=false:=by
    show decide _=false
    simp only [decide_eq_false_iff_not,List.length_cons];omega
   rw [this];simp
theorem own_ok (x:ze) (hl:x.Kids.length < 1099511627776):zbL (pat x) (ownB x):=by
 refine zf8 (pat x) _ ⟨fun many=>many=(if x.Kind=1∨x.Kind=2 then (x.Kids.length:Int)+2 else x.Kids.length)∧(x.Kind=1∨x.Kind=2∨x.Kind=3∨x.Kind=4),?_,fun h5=>?_,fun h5=>?_⟩
 ·rintro many ⟨rfl,hk⟩
  show ownB x=((!noSet x.Set) == (x.Kind == 2) && (x.Lo == 0 && (x.Hi == 0 && (decide (_≥2) && (!decide (x.Kind < 3) || _ == 2)))))
  rcases hk with h | h | h | h
  all_goals simp only [ownB,h]
  ·cases noSet x.Set<;>cases hlo:(x.Lo == 0)<;>cases hhi:(x.Hi == 0)<;>simp [len0]
  ·cases noSet x.Set<;>cases hlo:(x.Lo == 0)<;>cases hhi:(x.Hi == 0)<;>simp [len0]
  ·cases noSet x.Set<;>cases hlo:(x.Lo == 0)<;>cases hhi:(x.Hi == 0)<;>simp<;>omega
  ·cases noSet x.Set<;>cases hlo:(x.Lo == 0)<;>cases hhi:(x.Hi == 0)<;>simp<;>omega
 ·have h5:x.Kind=5:=by simpa [pat] using h5
  refine ⟨fun hs=>⟨fun h1=>⟨_,times_ok (pat x),?_⟩,fun h1=>?_⟩,fun hs=>?_⟩
  ·have h1:x.Kids.length=1:=by simp [pat] at h1;omega
   have hs:noSet x.Set=true:=by rw [Bool.not_not] at hs;exact hs
   simp only [ownB,if_pos h5,hs,h1];rfl
  ·have h1:x.Kids.length≠1:=by simp [pat] at h1;omega
   simp [ownB,if_pos h5,h1]
  ·have hs:noSet x.Set=false:=by rw [Bool.not_not] at hs;exact hs
   simp [ownB,if_pos h5,hs]
 ·have h5:x.Kind≠5:=by simpa [pat] using h5
  refine ⟨fun b=>b=decide (x.Kind=1∨x.Kind=2),fun b hb=>⟨fun h=>?_,fun h=>?_⟩,fun h=>?_,fun h=>?_⟩
  ·have h12:x.Kind=1∨x.Kind=2:=by rw [h] at hb;simpa using hb.symm
   refine ⟨?_,by omega⟩
   rw [if_pos h12];exact zT (by show _≤(x.Kids.length:Int)+2;omega) (by show (x.Kids.length:Int)+2≤_;omega)
  ·have h12:¬ (x.Kind=1∨x.Kind=2):=by rw [h] at hb;simpa using hb.symm
   refine ⟨fun b=>b=decide (x.Kind=3∨x.Kind=4),fun b' hb'=>⟨fun h'=>?_,fun h'=>?_⟩,fun h'=>?_,fun h'=>?_⟩
   ·have h34:x.Kind=3∨x.Kind=4:=by rw [h'] at hb';simpa using hb'.symm
    exact ⟨by rw [if_neg h12];rfl,by omega⟩
   ·have h34:¬ (x.Kind=3∨x.Kind=4):=by rw [h'] at hb';simpa using hb'.symm
    simp only [ownB];rw [if_neg h5,if_neg (by omega),if_neg (by omega),if_neg h34]
   ·have:x.Kind=3:=by simpa [pat] using h'
    simp [pat,this]
   ·have:x.Kind≠3:=by simpa [pat] using h'
    simp [pat,this];rfl
  ·have:x.Kind=1:=by simpa [pat] using h
   simp [pat,this]
  ·have:x.Kind≠1:=by simpa [pat] using h
   simp [pat,this];rfl
theorem rxRight_ok:∀ x,Wf x→∀ deep,-1000≤deep→deep≤1000→zaB (pat x) deep (rgt x deep):=by
 refine rxInd fun x ih hw deep hd0 hd1=>?_
 obtain ⟨hl,hk⟩:=(zhw x).1 hw
 have hodd:∀ k∈x.Kids,0 < deep→za9 k (pat x) deep (oddK x k || !rgt k (deep - 1)) (pat x) deep:=by
  intro k hkm hpos
  have hw1:w64 (deep - 1)=deep - 1:=zT (by omega) (by omega)
  have hrec:zaB ({ Kind:=ze.Kind k,Set:=ze.Set k,Lo:=ze.Lo k,Hi:=ze.Hi k,Kids:=ze.Kids k }) (w64 (deep - 1)) (rgt k (deep - 1)):=by
   rw [hw1];exact ih k hkm (hk k hkm) _ (by omega) (by omega)
  refine zdL k (pat x) deep _ _ _ ⟨fun h1=>⟨fun h2=>?_,fun h2=>⟨_,hrec,?_,rfl,rfl⟩⟩,fun h1=>⟨_,hrec,?_,rfl,rfl⟩⟩
  ·have h1:(k.Kind == x.Kind)=true:=h1
   have h2:(x.Kind != 5)=true:=h2
   simp [oddK,h1,h2]
  ·have h2:(x.Kind != 5)=false:=h2
   simp [oddK,h2]
  ·have h1:(k.Kind == x.Kind)=false:=h1
   simp [oddK,h1]
 have hall:∀ l:List ze,l.length < 1099511627776→(∀ k∈l,k∈x.Kids)→0 < deep→zK l (pat x) deep (l.any fun k=>oddK x k || !rgt k (deep - 1)) (pat x) deep:=by
  intro l hll hlm hpos
  obtain ⟨z,hz,hz2⟩:∃ z:Int,(decide (z≥0)=l.any fun k=>oddK x k || !rgt k (deep - 1))∧zM l (pat x) deep z (pat x) deep:=by
   have hfind:∀ i:Nat,(∀ (j:Nat) (hj:j < l.length),j < i→(oddK x l[j] || !rgt l[j] (deep - 1))=false)→(i=l.length→(l.any fun k=>oddK x k || !rgt k (deep - 1))=false):=by
    intro i h e
    subst e
    rw [List.any_eq_false]
    intro k hkm
    obtain ⟨j,hj,rfl⟩:=List.mem_iff_getElem.1 hkm
    rw [h j hj hj];simp
   cases hany:l.any fun k=>oddK x k || !rgt k (deep - 1) with
   | false=>
     refine ⟨-1,by simp,?_⟩
     refine zaf l (pat x) deep _ _ _ ⟨fun a b c d e f g h o t=>(⟨a,⟨b,c,d,e⟩,f,g,h⟩:zk)=pat x∧o=deep∧∃ i:Nat,t=i∧i≤l.length,fun _ _ _ _ _ _ _ _ _ t=>(l.length - t).toNat,⟨rfl,rfl,0,rfl,by omega⟩,?_⟩
     rintro a b c d e f g h o t ⟨hp,rfl,i,rfl,hi⟩
     refine ⟨fun ht=>?_,fun ht=>⟨rfl,hp.symm,rfl⟩⟩
     have ht:i < l.length:=by simpa using ht
     have hw2:w64 ((i:Int)+1)=((i+1:Nat):Int):=zT (by omega) (by omega)
     refine ⟨by omega,by omega,_,pat x,o,by rw [z7 ht,hp];exact hodd l[i] (hlm _ (List.getElem_mem ht)) hpos,fun hb=>?_,fun hb=>?_⟩
     ·rw [List.any_eq_false] at hany
      exact absurd hb (hany _ (List.getElem_mem ht))
     ·rw [hw2]
      exact ⟨⟨rfl,rfl,i+1,rfl,by omega⟩,by dsimp only;omega⟩
   | true=>
     obtain ⟨k0,hk0,hk1⟩:=List.any_eq_true.1 hany
     have hex:∃ i:Nat,∃ hi:i < l.length,(oddK x l[i] || !rgt l[i] (deep - 1))=true∧∀ (j:Nat) (hj:j < i),(oddK x (l[j]'(by omega)) || !rgt (l[j]'(by omega)) (deep - 1))=false:=by
      obtain ⟨j0,hj0,rfl⟩:=List.mem_iff_getElem.1 hk0
      induction j0 using Nat.strongRecOn with
      | _ j0 ihj=>
        by_cases hex:∃ j:Nat,∃ hj:j < j0,(oddK x (l[j]'(by omega)) || !rgt (l[j]'(by omega)) (deep - 1))=true
        ·obtain ⟨j,hj,hj1⟩:=hex
         exact ihj j hj (by omega) (List.getElem_mem _) hj1
        ·refine ⟨j0,hj0,hk1,fun j hj=>?_⟩
         cases hb:(oddK x (l[j]'(by omega)) || !rgt (l[j]'(by omega)) (deep - 1)) with
         | false=>rfl
         | true=>exact absurd ⟨j,hj,hb⟩ hex
     obtain ⟨n,hn,hn1,hn2⟩:=hex
     refine ⟨n,by simp,?_⟩
     refine zaf l (pat x) deep _ _ _ ⟨fun a b c d e f g h o t=>(⟨a,⟨b,c,d,e⟩,f,g,h⟩:zk)=pat x∧o=deep∧∃ i:Nat,t=i∧i≤n,fun _ _ _ _ _ _ _ _ _ t=>(l.length - t).toNat,⟨rfl,rfl,0,rfl,by omega⟩,?_⟩
     rintro a b c d e f g h o t ⟨hp,rfl,i,rfl,hi⟩
     refine ⟨fun ht=>?_,fun ht=>?_⟩
     ·have ht:i < l.length:=by simpa using ht
      have hw2:w64 ((i:Int)+1)=((i+1:Nat):Int):=zT (by omega) (by omega)
      refine ⟨by omega,by omega,_,pat x,o,by rw [z7 ht,hp];exact hodd l[i] (hlm _ (List.getElem_mem ht)) hpos,fun hb=>⟨?_,rfl,rfl⟩,fun hb=>?_⟩
      ·rcases Nat.lt_or_ge i n with hlt | hge
       ·rw [hn2 i hlt] at hb;cases hb
       ·have:i=n:=by omega
        rw [this]
      ·rcases Nat.lt_or_ge i n with hlt | hge
       ·rw [hw2]
        exact ⟨⟨rfl,rfl,i+1,rfl,by omega⟩,by dsimp only;omega⟩
       ·have:i=n:=by omega
        subst this
        rw [hn1] at hb;cases hb
     ·have:¬ i < l.length:=by simpa using ht
      omega
  refine zaI l (pat x) deep _ _ _ ⟨z,_,_,hz2,hz.symm,rfl,rfl⟩
 rw [rgt_eq]
 refine zfc (pat x) deep _ ⟨fun hd=>⟨_,own_ok x hl,fun ho=>⟨_,_,_,hall x.Kids hl (fun _ h=>h) (by simpa using hd),?_⟩,fun ho=>?_⟩,fun hd=>?_⟩
 ·rw [hd,ho]
  simp only [Bool.true_and]
  rw [List.any_eq_not_all_not,Bool.not_not]
  congr 1
  funext k
  cases oddK x k<;>cases rgt k (deep - 1)<;>rfl
 ·rw [ho];simp
 ·rw [hd];simp
def rightB (x:ze):Bool:=rgt x 20 && (decide (sizeZ x≤200) && decide (nodesZ x 1000≥0))
theorem zeM (x:ze) (hw:Wf x):zcx x (rightB x):=by
 refine W_rx_Right x _ ⟨_,rxRight_ok x hw 20 (by omega) (by omega),fun h=>⟨_,rxSize_ok x hw,fun h2=>⟨_,rxNodes_ok x hw 1000 (by omega) (by omega),?_⟩,fun h2=>?_⟩,fun h=>?_⟩
 ·rw [rightB,h,h2];rfl
 ·rw [rightB,h2];simp
 ·rw [rightB,h];simp
end Go.Ev.Pl
set_option linter.unusedSimpArgs false
set_option linter.unusedVariables false
namespace Go.Ev.Pl
open Go Go.Ev
theorem noSet_eq (s:zb):(s.e0 == 0 && (s.e1 == 0 && (s.e2 == 0 && (s.e3 == 0 && true))))=noSet s:=rfl
theorem zgj (l:List ze):((l.length:Int) == 0)=decide (l.length=0):=by
 show decide _=decide _
 simp only [decide_eq_decide];omega
theorem refRight_ok:∀ x,Wf x→∀ deep,-1000≤deep→deep≤1000→zaM x deep (rgt x deep):=by
 refine rxInd fun x ih hw deep hd0 hd1=>?_
 obtain ⟨hl,hk⟩:=(zhw x).1 hw
 have hw1:w64 (deep - 1)=deep - 1:=zT (by omega) (by omega)
 rw [rgt_eq]
 refine zeG x deep _ ⟨fun h=>?_,fun h=>?_⟩
 ·have:¬ deep > 0:=by have:deep < 1:=by simpa using h
                      omega
  simp [this]
 have hd:decide (deep > 0)=true:=by have:¬ deep < 1:=by simpa using h
                                    simp;omega
 have hpos:0 < deep:=by simpa using hd
 rw [hd,Bool.true_and]
 simp only [noSet_eq,Bool.not_not]
 refine ⟨fun h1=>?_,fun h1=>⟨fun h2=>?_,fun h2=>⟨fun h5=>?_,fun h5=>?_⟩⟩⟩
 ·have h1:x.Kind=1:=by simpa using h1
  have:x.Kids.all (fun k=>!oddK x k && rgt k (deep - 1))=true∨¬ x.Kids.length=0:=by
   cases x.Kids with
   | nil=>exact .inl rfl
   | cons a r=>right;simp
  simp only [ownB,h1]
  rcases this with h | h
  ·rw [h,zgj];simp
  ·rw [zgj];simp [h]
 ·have h2:x.Kind=2:=by simpa using h2
  have:x.Kids.all (fun k=>!oddK x k && rgt k (deep - 1))=true∨¬ x.Kids.length=0:=by
   cases x.Kids with
   | nil=>exact .inl rfl
   | cons a r=>right;simp
  simp only [ownB,h2]
  rcases this with h | h
  ·rw [h,zgj];simp
  ·rw [zgj];simp [h]
 ·have h5:x.Kind=5:=by simpa using h5
  have hmax:(if true=true then if x.Lo > 1 then x.Lo else 1 else if x.Lo < 1 then x.Lo else 1)=max 1 x.Lo:=by simp;omega
  have hmax2:(if x.Lo > 1 then x.Lo else 1)=max 1 x.Lo:=by omega
  simp only [eq_self,if_true,hmax2]
  have hown:ownB x=(noSet x.Set && (decide (x.Kids.length=1) && timesB x.Lo x.Hi)):=by simp only [ownB,if_pos h5]
  refine ⟨fun hs=>⟨fun hlo=>⟨fun hlo2=>⟨fun hhi=>⟨fun h1=>⟨fun _ _ _ _ _=>?_,_,ih _ ?_ (hk _ ?_) _ (by omega) (by omega),?_⟩,fun h1=>?_⟩,fun hhi=>?_⟩,fun hlo2=>?_⟩,fun hlo=>?_⟩,fun hs=>?_⟩
  ·have h1':x.Kids.length=1:=by (rw [List.length_map] at h1;have:(x.Kids.length:Int)=1:=by simpa using h1);omega
   omega
  ·have h1':x.Kids.length=1:=by (rw [List.length_map] at h1;have:(x.Kids.length:Int)=1:=by simpa using h1);omega
   match hq:x.Kids,h1' with
   | [a],_=>simp
  ·have h1':x.Kids.length=1:=by (rw [List.length_map] at h1;have:(x.Kids.length:Int)=1:=by simpa using h1);omega
   match hq:x.Kids,h1' with
   | [a],_=>simp
  ·-- the kid's word
   have h1':x.Kids.length=1:=by (rw [List.length_map] at h1;have:(x.Kids.length:Int)=1:=by simpa using h1);omega
   match hq:x.Kids,h1' with
   | [a],_=>
     have ht:timesB x.Lo x.Hi=true:=by
      have a1:decide (0≤x.Lo)=true:=by have:x.Lo≥0:=by simpa using hlo
                                       simp;omega
      simp only [timesB,a1,hlo2,hhi,Bool.true_and]
     rw [hown,hs,hq,ht,hw1]
     have ho:oddK x a=false:=by simp [oddK,h5]
     simp [ho]
  ·have h1':x.Kids.length≠1:=by intro e;rw [List.length_map,e] at h1;simp at h1
   rw [hown];simp [h1']
  ·rw [hown];simp only [timesB];rw [hhi];simp
  ·rw [hown];simp only [timesB];rw [hlo2];simp
  ·have:decide (0≤x.Lo)=false:=by have:¬ x.Lo≥0:=by simpa using hlo
                                  simp;omega
   rw [hown];simp only [timesB];rw [this];simp
  ·rw [hown,hs];simp
 ·have h1:x.Kind≠1:=by simpa using h1
  have h2:x.Kind≠2:=by simpa using h2
  have h5:x.Kind≠5:=by simpa using h5
  have hodd:∀ k,oddK x k=(k.Kind == x.Kind):=fun k=>by simp [oddK,h5]
  refine ⟨fun b=>b=decide (x.Kind=3∨x.Kind=4),fun b hb=>⟨fun hbt=>⟨fun hg=>?_,fun hg=>?_⟩,fun hbf=>?_⟩,fun h3=>?_,fun h3=>?_⟩
  ·have h34:x.Kind=3∨x.Kind=4:=by rw [hbt] at hb;simpa using hb.symm
   have:ownB x=false:=by
    simp only [ownB,if_neg h5,if_neg h1,if_neg h2,if_pos h34]
    simp only [Bool.or_eq_true,decide_eq_true_eq,Bool.not_eq_true',Bool.and_eq_false_iff] at hg ⊢
    rcases hg with hg | hg | hg
    ·exact .inl hg
    ·exact .inr (.inl (hg.imp id id))
    ·right;right;simp;omega
   rw [this];simp
  ·have h34:x.Kind=3∨x.Kind=4:=by rw [hbt] at hb;simpa using hb.symm
   have hown:ownB x=true:=by
    simp only [ownB,if_neg h5,if_neg h1,if_neg h2,if_pos h34]
    simp only [Bool.or_eq_false_iff,decide_eq_false_iff_not,Bool.not_eq_false',Bool.and_eq_true,decide_eq_true_eq] at hg ⊢
    obtain ⟨g1,g2,g3⟩:=hg
    exact ⟨g1,g2,by omega⟩
   rw [hown,Bool.true_and]
   refine ⟨fun t=>∃ i:Nat,t=i∧i≤x.Kids.length∧(x.Kids.take i).all (fun k=>!oddK x k && rgt k (deep - 1))=true,fun t=>(x.Kids.length - t).toNat,⟨0,rfl,by omega,rfl⟩,?_⟩
   rintro t ⟨i,rfl,hi,hall⟩
   refine ⟨fun ht=>?_,fun ht=>?_⟩
   ·have ht:i < x.Kids.length:=by simpa using ht
    have hw2:w64 ((i:Int)+1)=((i+1:Nat):Int):=zT (by omega) (by omega)
    have hm:=List.getElem_mem ht
    have hfail:∀ {b:Bool},(!oddK x x.Kids[i] && rgt x.Kids[i] (deep - 1))=false→(x.Kids.all fun k=>!oddK x k && rgt k (deep - 1))=false:=fun h=>by
     rw [List.all_eq_false];exact ⟨_,hm,by rw [h];simp⟩
    refine ⟨by omega,by omega,fun ho=>?_,fun ho=>⟨fun _=>by omega,fun _=>by omega,_,by rw [z7 ht,hw1];exact ih _ hm (hk _ hm) _ (by omega) (by omega),fun hr=>?_,fun hr=>?_⟩⟩
    ·rw [z7 ht] at ho
     exact (hfail (b:=true) (by rw [hodd,ho];rfl)).symm▸rfl
    ·have hr:rgt x.Kids[i] (deep - 1)=false:=by simpa using hr
     exact hfail (b:=true) (by rw [hr];simp)
    ·have hr:rgt x.Kids[i] (deep - 1)=true:=by simpa using hr
     rw [z7 ht] at ho
     rw [hw2]
     refine ⟨⟨i+1,rfl,by omega,?_⟩,by dsimp only;omega⟩
     rw [List.take_succ_eq_append_getElem ht,List.all_append,hall]
     simp [hodd,ho,hr]
   ·have ht:i=x.Kids.length:=by have:¬ i < x.Kids.length:=by simpa using ht
                                omega
    subst ht
    rw [List.take_of_length_le (Nat.le_refl _)] at hall
    exact hall
  ·have h34:¬ (x.Kind=3∨x.Kind=4):=by rw [hbf] at hb;simpa using hb.symm
   have:ownB x=false:=by simp only [ownB,if_neg h5,if_neg h1,if_neg h2,if_neg h34]
   rw [this];simp
  ·have:x.Kind=3:=by simpa using h3
   simp [this]
  ·have:x.Kind≠3:=by simpa using h3
   simp [this];rfl
theorem zea (x:ze) (hw:Wf x):zaN x (rightB x):=by
 refine zeH x _ ⟨_,refRight_ok x hw 20 (by omega) (by omega),fun h=>⟨_,refSize_ok x hw,fun h2=>⟨_,refNodes_ok x hw 1000 (by omega) (by omega),?_⟩,fun h2=>?_⟩,fun h=>?_⟩
 ·rw [rightB,h,h2];rfl
 ·rw [rightB,h2];simp
 ·rw [rightB,h];simp
def nullB:ze→Bool:=cata fun x l=>if x.Kind=1 then true else if x.Kind=3 then l.all id else if x.Kind=4 then l.any id else if x.Kind=5 then decide (x.Lo≤0) || l.all id else false
theorem nullB_eq (x:ze):nullB x=if x.Kind=1 then true else if x.Kind=3 then x.Kids.all nullB else if x.Kind=4 then x.Kids.any nullB else if x.Kind=5 then decide (x.Lo≤0) || x.Kids.all nullB else false:=by
 unfold nullB;rw [zeu];simp only [List.all_map,List.any_map];rfl
end Go.Ev.Pl
set_option linter.unusedSimpArgs false
set_option linter.unusedVariables false
namespace Go.Ev.Pl
open Go Go.Ev
structure GA where
 n:Nat
 sets:List zb
 null:Bool
 first:Nat→Bool
 last:Nat→Bool
 follow:Nat→Nat→Bool
def gEmpty:GA:=⟨0,[],true,fun _=>false,fun _=>false,fun _ _=>false⟩
def gNone:GA:=⟨0,[],false,fun _=>false,fun _=>false,fun _ _=>false⟩
def gByte (s:zb):GA:=⟨1,[s],false,fun i=>i == 0,fun i=>i == 0,fun _ _=>false⟩
def blk (n:Nat) (p q:Nat→Nat→Bool) (r:Nat→Nat→Bool) (i j:Nat):Bool:=
 if i < n then (if j < n then p i j else r i (j - n)) else (if j < n then false else q (i - n) (j - n))
def gCat (a b:GA):GA:=
 ⟨a.n+b.n,a.sets++b.sets,a.null && b.null,fun i=>if i < a.n then a.first i else a.null && b.first (i - a.n),
   fun i=>if i < a.n then b.null && a.last i else b.last (i - a.n),blk a.n a.follow b.follow fun i j=>a.last i && b.first j⟩
def gAlt (a b:GA):GA:=
 ⟨a.n+b.n,a.sets++b.sets,a.null || b.null,fun i=>if i < a.n then a.first i else b.first (i - a.n),
   fun i=>if i < a.n then a.last i else b.last (i - a.n),blk a.n a.follow b.follow fun _ _=>false⟩
def gAgain (a:GA):GA:={ a with follow:=fun i j=>a.follow i j || a.last i && a.first j }
def gMaybe (a:GA):GA:={ a with null:=true }
theorem cat_empty_l (a:GA):gCat gEmpty a=a:=by
 cases a;simp [gCat,gEmpty];funext i j;simp [blk]
theorem alt_none_l (a:GA):gAlt gNone a=a:=by
 cases a;simp [gAlt,gNone];funext i j;simp [blk]
theorem cat_assoc (a b c:GA):gCat (gCat a b) c=gCat a (gCat b c):=by
 obtain ⟨an,asx,au,af,al,ao⟩:=a
 obtain ⟨bn,bs,bu,bf,bl,bo⟩:=b
 obtain ⟨cn,cs,cu,cf,cl,co⟩:=c
 simp only [gCat,GA.mk.injEq,List.append_assoc,Nat.add_assoc,true_and,Bool.and_assoc]
 refine ⟨?_,?_,?_⟩
 ·funext i
  have e:i - (an+bn)=i - an - bn:=by omega
  rw [e]
  by_cases h1:i < an
  ·simp [h1,show i < an+bn by omega]
  ·by_cases h2:i < an+bn
   ·simp [h1,h2,show i - an < bn by omega]
   ·simp [h1,h2,show ¬ i - an < bn by omega]
 ·funext i
  have e:i - (an+bn)=i - an - bn:=by omega
  rw [e]
  by_cases h1:i < an
  ·simp only [h1,show i < an+bn by omega,if_true]
   cases bu<;>cases cu<;>simp
  ·by_cases h2:i < an+bn
   ·simp [h1,h2,show i - an < bn by omega]
   ·simp [h1,h2,show ¬ i - an < bn by omega]
 ·funext i j
  simp only [blk]
  have e:i - (an+bn)=i - an - bn:=by omega
  have e':j - (an+bn)=j - an - bn:=by omega
  rw [e,e']
  by_cases h1:i < an<;>by_cases h2:i < an+bn<;>by_cases h3:j < an<;>by_cases h4:j < an+bn
  all_goals first | omega | skip
  ·simp [h1,h2,h3,h4]
  ·simp [h1,h2,h3,h4,show j - an < bn by omega]
  ·simp [h1,h2,h3,h4,show ¬ j - an < bn by omega]
   cases bu<;>simp
  ·simp [h1,h2,h3,h4,show i - an < bn by omega]
  ·simp [h1,h2,h3,h4,show i - an < bn by omega,show j - an < bn by omega]
  ·simp [h1,h2,h3,h4,show i - an < bn by omega,show ¬ j - an < bn by omega]
  ·simp [h1,h2,h3,h4,show ¬ i - an < bn by omega]
  ·simp [h1,h2,h3,h4,show ¬ i - an < bn by omega,show j - an < bn by omega]
  ·simp [h1,h2,h3,h4,show ¬ i - an < bn by omega,show ¬ j - an < bn by omega]
structure Canon (a:GA):Prop where
 sets:a.sets.length=a.n
 first:∀ i,a.n≤i→a.first i=false
 last:∀ i,a.n≤i→a.last i=false
 follow:∀ i j,a.n≤i∨a.n≤j→a.follow i j=false
theorem cat_empty_r {a:GA} (h:Canon a):gCat a gEmpty=a:=by
 obtain ⟨n,sets,null,f,l,fo⟩:=a
 simp only [gCat,gEmpty,GA.mk.injEq,Nat.add_zero,List.append_nil,Bool.and_true,Bool.and_false,true_and]
 refine ⟨?_,?_,?_⟩
 ·funext i;split
  ·rfl
  ·rename_i hi;exact (h.first i (by show n≤i;omega)).symm
 ·funext i;split
  ·rfl
  ·rename_i hi;exact (h.last i (by show n≤i;omega)).symm
 ·funext i j
  simp only [blk]
  split<;>split
  ·rfl
  ·rename_i h1 h2;exact (h.follow i j (by show n≤i∨n≤j;omega)).symm
  ·rename_i h1 h2;exact (h.follow i j (by show n≤i∨n≤j;omega)).symm
  ·rename_i h1 h2;exact (h.follow i j (by show n≤i∨n≤j;omega)).symm
theorem canon_zero {a:GA} (h:Canon a) (hn:a.n=0) (hnull:a.null=true):a=gEmpty:=by
 obtain ⟨n,sets,null,f,l,fo⟩:=a
 simp only at hn hnull;subst hn hnull
 have hs:sets=[]:=List.length_eq_zero_iff.1 h.sets
 subst hs
 simp only [gEmpty,GA.mk.injEq,true_and]
 exact ⟨funext fun i=>h.first i (Nat.zero_le _),funext fun i=>h.last i (Nat.zero_le _),funext fun i=>funext fun j=>h.follow i j (.inl (Nat.zero_le _))⟩
theorem zbn:Canon gEmpty:=⟨rfl,fun _ _=>rfl,fun _ _=>rfl,fun _ _ _=>rfl⟩
theorem zdX:Canon gNone:=⟨rfl,fun _ _=>rfl,fun _ _=>rfl,fun _ _ _=>rfl⟩
theorem canon_byte (s:zb):Canon (gByte s):=⟨rfl,fun i h=>by simp [gByte] at h ⊢;omega,fun i h=>by simp [gByte] at h ⊢;omega,fun _ _ _=>rfl⟩
theorem zbJ {a b:GA} (ha:Canon a) (hb:Canon b):Canon (gCat a b):=by
 refine ⟨by simp [gCat,ha.sets,hb.sets],fun i h=>?_,fun i h=>?_,fun i j h=>?_⟩
 ·simp only [gCat] at h ⊢;rw [if_neg (by omega),hb.first _ (by omega)];simp
 ·simp only [gCat] at h ⊢;rw [if_neg (by omega),hb.last _ (by omega)]
 ·simp only [gCat,blk] at h ⊢
  split<;>split
  ·omega
  ·rw [hb.first _ (by omega)];simp
  ·rfl
  ·exact hb.follow _ _ (by omega)
theorem zhk {a b:GA} (ha:Canon a) (hb:Canon b):Canon (gAlt a b):=by
 refine ⟨by simp [gAlt,ha.sets,hb.sets],fun i h=>?_,fun i h=>?_,fun i j h=>?_⟩
 ·simp only [gAlt] at h ⊢;rw [if_neg (by omega),hb.first _ (by omega)]
 ·simp only [gAlt] at h ⊢;rw [if_neg (by omega),hb.last _ (by omega)]
 ·simp only [gAlt,blk] at h ⊢
  split<;>split
  ·omega
  ·rfl
  ·rfl
  ·exact hb.follow _ _ (by omega)
theorem zcd {a:GA} (h:Canon a):Canon (gAgain a):=
 ⟨h.sets,h.first,h.last,fun i j hij=>by
   simp only [gAgain] at hij ⊢
   rw [h.follow i j hij]
   rcases hij with hi | hj
   ·rw [h.last i hi];rfl
   ·rw [h.first j hj];simp⟩
theorem zcE {a:GA} (h:Canon a):Canon (gMaybe a):=⟨h.sets,h.first,h.last,h.follow⟩
def iter (f:GA→GA):Nat→GA→GA
 | 0,z=>z
 | k+1,z=>f (iter f k z)
theorem iter_in (f:GA→GA):∀ k z,iter f (k+1) z=iter f k (f z)
 | 0,_=>rfl
 | k+1,z=>by rw [iter,iter_in f k];rfl
def leftp (a:GA) (k:Nat):GA:=iter (fun o=>gCat o a) k gEmpty
theorem leftp_cat (a:GA):∀ k z,gCat (leftp a k) z=iter (gCat a) k z
 | 0,z=>cat_empty_l z
 | k+1,z=>by
   show gCat (gCat (leftp a k) a) z=_
   rw [cat_assoc,leftp_cat a k,← iter_in]
theorem zcc {f:GA→GA} (hf:∀ a,Canon a→Canon (f a)):∀ k {z},Canon z→Canon (iter f k z)
 | 0,_,h=>h
 | k+1,_,h=>hf _ (zcc hf k h)
def gRep (a:GA) (lo hi:Int):GA:=
 if hi < 0 then iter (gCat a) (max lo 1 - 1).toNat (if lo=0 then gMaybe (gAgain a) else gAgain a)
 else iter (gCat a) lo.toNat (iter (fun o=>gMaybe (gCat a o)) (hi - lo).toNat gEmpty)
theorem canon_rep {a:GA} (h:Canon a) (lo hi:Int):Canon (gRep a lo hi):=by
 unfold gRep
 split
 ·refine zcc (fun b hb=>zbJ h hb) _ ?_
  split
  ·exact zcE (zcd h)
  ·exact zcd h
 ·exact zcc (fun b hb=>zbJ h hb) _ (zcc (fun b hb=>zcE (zbJ h hb)) _ zbn)
def gof:ze→GA:=cata fun x l=>
 if x.Kind=2 then gByte x.Set else if x.Kind=3 then l.foldl gCat gEmpty else if x.Kind=4 then l.foldl gAlt gNone
 else if x.Kind=5 then gRep (l.headD gEmpty) x.Lo x.Hi else gEmpty
theorem zcT (x:ze):gof x=if x.Kind=2 then gByte x.Set else if x.Kind=3 then x.Kids.foldl (fun o y=>gCat o (gof y)) gEmpty else if x.Kind=4 then x.Kids.foldl (fun o y=>gAlt o (gof y)) gNone
 else if x.Kind=5 then gRep ((x.Kids.map gof).headD gEmpty) x.Lo x.Hi else gEmpty:=by
 unfold gof;rw [zeu];simp only [List.foldl_map]
theorem zaA:∀ x,Canon (gof x):=by
 refine rxInd fun x ih=>?_
 have key:∀ (f:GA→GA→GA),(∀ a b,Canon a→Canon b→Canon (f a b))→∀ (l:List ze) (z:GA),(∀ y∈l,y∈x.Kids)→Canon z→Canon (l.foldl (fun o y=>f o (gof y)) z):=by
  intro f hf l
  induction l with
  | nil=>intro z _ h;exact h
  | cons y r ih2=>intro z hl h;exact ih2 _ (fun a ha=>hl a (List.mem_cons_of_mem _ ha)) (hf _ _ h (ih y (hl y (List.mem_cons_self ..))))
 rw [zcT]
 split
 ·exact canon_byte _
 ·split
  ·exact key gCat (fun a b=>zbJ) _ _ (fun _ h=>h) zbn
  ·split
   ·exact key gAlt (fun a b=>zhk) _ _ (fun _ h=>h) zdX
   ·split
    ·refine canon_rep ?_ _ _
     cases hq:x.Kids with
     | nil=>exact zbn
     | cons y r=>exact ih y (by rw [hq];exact List.mem_cons_self ..)
    ·exact zbn
end Go.Ev.Pl
set_option linter.unusedSimpArgs false
set_option linter.unusedVariables false
namespace Go.Ev.Pl
open Go Go.Ev
def lst (n:Nat) (p:Nat→Bool) (off:Nat):List Int:=((List.range n).filter p).map fun i=>((i+off:Nat):Int)
theorem za4 {n:Nat} {p:Nat→Bool} {off:Nat} {x:Int}:x∈lst n p off↔∃ i,i < n∧p i=true∧x=((i+off:Nat):Int):=by
 simp only [lst,List.mem_map,List.mem_filter,List.mem_range]
 constructor
 ·rintro ⟨i,⟨h1,h2⟩,rfl⟩;exact ⟨i,h1,h2,rfl⟩
 ·rintro ⟨i,h1,h2,rfl⟩;exact ⟨i,⟨h1,h2⟩,rfl⟩
theorem zbi (n:Nat) (p:Nat→Bool) (off:Nat):SS (lst n p off):=by
 unfold lst SS
 rw [List.pairwise_map]
 refine List.Pairwise.filter _ ?_
 exact List.pairwise_lt_range.imp fun h=>by omega
theorem zaj (n:Nat) (p:Nat→Bool) (off:Nat):(lst n p off).length≤n:=by
 unfold lst
 rw [List.length_map]
 exact Nat.le_trans (List.length_filter_le _ _) (by simp)
theorem lst_congr {n:Nat} {p q:Nat→Bool} {off:Nat} (h:∀ i,i < n→p i=q i):lst n p off=lst n q off:=by
 unfold lst
 rw [List.filter_congr fun i hi=>h i (List.mem_range.1 hi)]
theorem lst_left {n m:Nat} {p:Nat→Bool} {off:Nat} {q:Nat→Bool} (h1:∀ i,i < n→q i=p i) (h2:∀ i,n≤i→i < n+m→q i=false):lst n p off=lst (n+m) q off:=by
 refine zhC (zbi _ _ _) (zbi _ _ _) fun x=>?_
 rw [za4,za4]
 constructor
 ·rintro ⟨i,hi,hp,rfl⟩;exact ⟨i,by omega,by rw [h1 i hi];exact hp,rfl⟩
 ·rintro ⟨i,hi,hp,rfl⟩
  rcases Nat.lt_or_ge i n with h | h
  ·exact ⟨i,h,by rw [← h1 i h];exact hp,rfl⟩
  ·rw [h2 i h hi] at hp;cases hp
theorem zgL {n m:Nat} {p:Nat→Bool} {off:Nat} {q:Nat→Bool} (h1:∀ i,i < n→q i=false) (h2:∀ i,i < m→q (n+i)=p i):lst m p (off+n)=lst (n+m) q off:=by
 refine zhC (zbi _ _ _) (zbi _ _ _) fun x=>?_
 rw [za4,za4]
 constructor
 ·rintro ⟨i,hi,hp,rfl⟩;exact ⟨n+i,by omega,by rw [h2 i hi];exact hp,by omega⟩
 ·rintro ⟨i,hi,hp,rfl⟩
  rcases Nat.lt_or_ge i n with h | h
  ·rw [h1 i h] at hp;cases hp
  ·exact ⟨i - n,by omega,by rw [← h2 _ (by omega),show n+(i - n)=i by omega];exact hp,by omega⟩
theorem zeW {n m:Nat} {p p':Nat→Bool} {off:Nat} {q:Nat→Bool} {l:List Int} (hs:SS l) (hm:∀ x,x∈l↔x∈lst n p off∨x∈lst m p' (off+n)) (h1:∀ i,i < n→q i=p i) (h2:∀ i,i < m→q (n+i)=p' i):l=lst (n+m) q off:=by
 refine zhC hs (zbi _ _ _) fun x=>?_
 rw [hm,za4,za4,za4]
 constructor
 ·rintro (⟨i,hi,hp,rfl⟩ | ⟨i,hi,hp,rfl⟩)
  ·exact ⟨i,by omega,by rw [h1 i hi];exact hp,rfl⟩
  ·exact ⟨n+i,by omega,by rw [h2 i hi];exact hp,by omega⟩
 ·rintro ⟨i,hi,hp,rfl⟩
  rcases Nat.lt_or_ge i n with h | h
  ·exact .inl ⟨i,h,by rw [← h1 i h];exact hp,rfl⟩
  ·exact .inr ⟨i - n,by omega,by rw [← h2 _ (by omega),show n+(i - n)=i by omega];exact hp,by omega⟩
def flw (g:GA) (off:Nat):List (List Int):=(List.range g.n).map fun i=>lst g.n (g.follow i) off
theorem zY (g:GA) (off:Nat):(flw g off).length=g.n:=by simp [flw]
theorem zbO (g:GA) (off:Nat) {i:Nat} (h:i < g.n):(flw g off)[i]'(by rw [zY];exact h)=lst g.n (g.follow i) off:=by simp [flw]
theorem flw_ext {g:GA} {off:Nat} {l:List (List Int)} (hl:l.length=g.n) (h:∀ (i:Nat) (hi:i < l.length),l[i]=lst g.n (g.follow i) off):l=flw g off:=by
 apply List.ext_getElem
 ·rw [hl,zY]
 ·intro i h1 h2
  rw [h i h1,zbO g off (by rw [hl] at h1;exact h1)]
def leadF (F:List (List Int)) (fr to:List Int):List (List Int):=F.mapIdx fun i f=>if (i:Int)∈fr then join f to else f
theorem zax (F:List (List Int)) (fr to:List Int):(leadF F fr to).length=F.length:=by simp [leadF]
theorem zaU (F:List (List Int)) (fr to:List Int) {i:Nat} (h:i < F.length):(leadF F fr to)[i]'(by rw [zax];exact h)=if (i:Int)∈fr then join F[i] to else F[i]:=by simp [leadF]
theorem zgk (F0:List (List Int)) (a b:GA):leadF (F0++flw a F0.length++flw b (F0.length+a.n)) (lst a.n a.last F0.length) (lst b.n b.first (F0.length+a.n))=F0++flw (gCat a b) F0.length:=by
 apply List.ext_getElem
 ·rw [zax];simp only [List.length_append,zY];simp only [gCat];omega
 ·intro i h1 h2
  rw [zax] at h1
  rw [zaU _ _ _ h1]
  simp only [List.length_append,zY] at h1
  have hin:(i:Int)∈lst a.n a.last F0.length↔F0.length≤i∧i < F0.length+a.n∧a.last (i - F0.length)=true:=by
   rw [za4]
   constructor
   ·rintro ⟨j,hj,hp,e⟩
    have:i=j+F0.length:=by omega
    subst this
    exact ⟨by omega,by omega,by rw [Nat.add_sub_cancel];exact hp⟩
   ·rintro ⟨q1,q2,q3⟩
    exact ⟨i - F0.length,by omega,q3,by omega⟩
  rcases Nat.lt_or_ge i F0.length with hi | hi
  ·rw [if_neg (by rw [hin];omega),List.getElem_append_left (by simp only [List.length_append,zY];omega),List.getElem_append_left hi,List.getElem_append_left hi]
  ·have hr:(F0++flw (gCat a b) F0.length)[i]'h2=lst (a.n+b.n) ((gCat a b).follow (i - F0.length)) F0.length:=by
    rw [List.getElem_append_right hi,zbO _ _ (by show _ < a.n+b.n;omega)];rfl
   rw [hr]
   rcases Nat.lt_or_ge i (F0.length+a.n) with hi2 | hi2
   ·have hl:(F0++flw a F0.length++flw b (F0.length+a.n))[i]'(by simp only [List.length_append,zY];omega)=lst a.n (a.follow (i - F0.length)) F0.length:=by
     rw [List.getElem_append_left (by simp only [List.length_append,zY];omega),List.getElem_append_right hi,zbO _ _ (by omega)]
    rw [hl]
    by_cases hla:a.last (i - F0.length)=true
    ·rw [if_pos (hin.2 ⟨hi,hi2,hla⟩)]
     obtain ⟨j1,j2⟩:=zci (lst a.n (a.follow (i - F0.length)) F0.length) (lst b.n b.first (F0.length+a.n))
     refine zeW j1 j2 (fun j hj=>?_) (fun j hj=>?_)
     ·simp only [gCat,blk];rw [if_pos (by omega),if_pos hj]
     ·simp only [gCat,blk];rw [if_pos (by omega),if_neg (by omega),hla,Nat.add_sub_cancel_left];rfl
    ·rw [if_neg (fun h=>hla (hin.1 h).2.2)]
     have hla:a.last (i - F0.length)=false:=by simpa using hla
     refine lst_left (fun j hj=>?_) (fun j h1 h2=>?_)
     ·simp only [gCat,blk];rw [if_pos (by omega),if_pos hj]
     ·simp only [gCat,blk];rw [if_pos (by omega),if_neg (by omega),hla];rfl
   ·rw [if_neg (by rw [hin];omega)]
    have hl:(F0++flw a F0.length++flw b (F0.length+a.n))[i]'(by simp only [List.length_append,zY];omega)=lst b.n (b.follow (i - (F0.length+a.n))) (F0.length+a.n):=by
     rw [List.getElem_append_right (by simp only [List.length_append,zY];omega)]
     simp only [List.length_append,zY]
     rw [zbO _ _ (by omega)]
    rw [hl]
    refine zgL (fun j hj=>?_) (fun j hj=>?_)
    ·simp only [gCat,blk];rw [if_neg (by omega),if_pos hj]
    ·simp only [gCat,blk];rw [if_neg (by omega),if_neg (by omega),show i - F0.length - a.n=i - (F0.length+a.n) by omega,Nat.add_sub_cancel_left]
theorem zhQ (F0:List (List Int)) (a:GA):leadF (F0++flw a F0.length) (lst a.n a.last F0.length) (lst a.n a.first F0.length)=F0++flw (gAgain a) F0.length:=by
 apply List.ext_getElem
 ·rw [zax];simp only [List.length_append,zY];rfl
 ·intro i h1 h2
  rw [zax] at h1
  rw [zaU _ _ _ h1]
  simp only [List.length_append,zY] at h1
  have hin:(i:Int)∈lst a.n a.last F0.length↔F0.length≤i∧i < F0.length+a.n∧a.last (i - F0.length)=true:=by
   rw [za4]
   constructor
   ·rintro ⟨j,hj,hp,e⟩
    have:i=j+F0.length:=by omega
    subst this
    exact ⟨by omega,by omega,by rw [Nat.add_sub_cancel];exact hp⟩
   ·rintro ⟨q1,q2,q3⟩
    exact ⟨i - F0.length,by omega,q3,by omega⟩
  rcases Nat.lt_or_ge i F0.length with hi | hi
  ·rw [if_neg (by rw [hin];omega),List.getElem_append_left hi,List.getElem_append_left hi]
  ·have hr:(F0++flw (gAgain a) F0.length)[i]'h2=lst a.n ((gAgain a).follow (i - F0.length)) F0.length:=by
    rw [List.getElem_append_right hi,zbO _ _ (by show _ < a.n;omega)];rfl
   have hl:(F0++flw a F0.length)[i]'(by simp only [List.length_append,zY];omega)=lst a.n (a.follow (i - F0.length)) F0.length:=by
    rw [List.getElem_append_right hi,zbO _ _ (by omega)]
   rw [hr,hl]
   by_cases hla:a.last (i - F0.length)=true
   ·rw [if_pos (hin.2 ⟨hi,by omega,hla⟩)]
    obtain ⟨j1,j2⟩:=zci (lst a.n (a.follow (i - F0.length)) F0.length) (lst a.n a.first F0.length)
    refine zhC j1 (zbi _ _ _) fun x=>?_
    rw [j2,za4,za4,za4]
    simp only [gAgain,hla,Bool.true_and,Bool.or_eq_true]
    constructor
    ·rintro (⟨j,q1,q2,rfl⟩ | ⟨j,q1,q2,rfl⟩)
     ·exact ⟨j,q1,.inl q2,rfl⟩
     ·exact ⟨j,q1,.inr q2,rfl⟩
    ·rintro ⟨j,q1,q2 | q2,rfl⟩
     ·exact .inl ⟨j,q1,q2,rfl⟩
     ·exact .inr ⟨j,q1,q2,rfl⟩
   ·rw [if_neg (fun h=>hla (hin.1 h).2.2)]
    have hla:a.last (i - F0.length)=false:=by simpa using hla
    exact lst_congr fun j hj=>by simp [gAgain,hla]
theorem flw_alt (a b:GA) (off:Nat):flw a off++flw b (off+a.n)=flw (gAlt a b) off:=by
 refine flw_ext (by simp [zY,gAlt]) fun i hi=>?_
 simp only [List.length_append,zY] at hi
 show _=lst (a.n+b.n) _ off
 rcases Nat.lt_or_ge i a.n with h | h
 ·rw [List.getElem_append_left (by rw [zY];exact h),zbO _ _ h]
  refine lst_left (fun j hj=>?_) (fun j h1 h2=>?_)
  ·simp only [gAlt,blk];rw [if_pos h,if_pos hj]
  ·simp only [gAlt,blk];rw [if_pos h,if_neg (by omega)]
 ·rw [List.getElem_append_right (by rw [zY];exact h)]
  simp only [zY]
  rw [zbO _ _ (by omega)]
  refine zgL (fun j hj=>?_) (fun j hj=>?_)
  ·simp only [gAlt,blk];rw [if_neg (by omega),if_pos hj]
  ·simp only [gAlt,blk];rw [if_neg (by omega),if_neg (by omega),Nat.add_sub_cancel_left]
def pc (g:GA) (off:Nat):zi:=⟨lst g.n g.first off,lst g.n g.last off,g.null⟩
theorem zhi (a b:GA) (off:Nat):(if a.null=true then join (lst a.n a.first off) (lst b.n b.first (off+a.n)) else lst a.n a.first off)=lst (a.n+b.n) (gCat a b).first off:=by
 split
 ·rename_i h
  obtain ⟨j1,j2⟩:=zci (lst a.n a.first off) (lst b.n b.first (off+a.n))
  exact zeW j1 j2 (fun j hj=>by simp only [gCat];rw [if_pos hj]) (fun j hj=>by simp only [gCat];rw [if_neg (by omega),h,Nat.add_sub_cancel_left];rfl)
 ·rename_i h
  have h:a.null=false:=by simpa using h
  exact lst_left (fun j hj=>by simp only [gCat];rw [if_pos hj]) (fun j h1 h2=>by simp only [gCat];rw [if_neg (by omega),h];rfl)
theorem ze8 (a b:GA) (off:Nat):(if b.null=true then join (lst a.n a.last off) (lst b.n b.last (off+a.n)) else lst b.n b.last (off+a.n))=lst (a.n+b.n) (gCat a b).last off:=by
 split
 ·rename_i h
  obtain ⟨j1,j2⟩:=zci (lst a.n a.last off) (lst b.n b.last (off+a.n))
  exact zeW j1 j2 (fun j hj=>by simp only [gCat];rw [if_pos hj,h];rfl) (fun j hj=>by simp only [gCat];rw [if_neg (by omega),Nat.add_sub_cancel_left])
 ·rename_i h
  have h:b.null=false:=by simpa using h
  exact zgL (fun j hj=>by simp only [gCat];rw [if_pos hj,h];rfl) (fun j hj=>by simp only [gCat];rw [if_neg (by omega),Nat.add_sub_cancel_left])
theorem alt_first (a b:GA) (off:Nat):join (lst a.n a.first off) (lst b.n b.first (off+a.n))=lst (a.n+b.n) (gAlt a b).first off:=by
 obtain ⟨j1,j2⟩:=zci (lst a.n a.first off) (lst b.n b.first (off+a.n))
 exact zeW j1 j2 (fun j hj=>by simp only [gAlt];rw [if_pos hj]) (fun j hj=>by simp only [gAlt];rw [if_neg (by omega),Nat.add_sub_cancel_left])
theorem alt_last (a b:GA) (off:Nat):join (lst a.n a.last off) (lst b.n b.last (off+a.n))=lst (a.n+b.n) (gAlt a b).last off:=by
 obtain ⟨j1,j2⟩:=zci (lst a.n a.last off) (lst b.n b.last (off+a.n))
 exact zeW j1 j2 (fun j hj=>by simp only [gAlt];rw [if_pos hj]) (fun j hj=>by simp only [gAlt];rw [if_neg (by omega),Nat.add_sub_cancel_left])
end Go.Ev.Pl
set_option linter.unusedSimpArgs false
set_option linter.unusedVariables false
namespace Go.Ev.Pl
open Go Go.Ev
theorem set_eq {α:Type} {l:List α} {i:Nat} {x:α} {m:List α} (hl:m.length=l.length) (h1:∀ (j:Nat) (h:j < l.length),j≠i→m[j]'(by omega)=l[j]) (h2:∀ h:i < l.length,m[i]'(by omega)=x):l.set i x=m:=by
 apply List.ext_getElem
 ·simp [hl]
 ·intro j a b
  rw [List.getElem_set]
  split
  ·rename_i e;subst e;exact (h2 (by simpa using a)).symm
  ·rename_i e;exact (h1 j (by simpa using a) (fun h=>e h.symm)).symm
theorem zcW {α:Type} {L:List (List α)} {i:Nat} (h:i < L.length):(L.take (i+1)).flatten=(L.take i).flatten++L[i]:=by
 rw [List.take_succ_eq_append_getElem h,List.flatten_append];simp
theorem zbZ {α:Type} (L:List (List α)) (i:Nat):(L.take i).flatten.length≤L.flatten.length:=by
 conv=>rhs;rw [← List.take_append_drop i L]
 rw [List.flatten_append,List.length_append];omega
theorem concat_ok (L:List (List Int)) (hL:L.length < 1099511627776) (hT:L.flatten.length < 1000000000):zal L L.flatten:=by
 refine zc0 L _ ⟨fun s t=>∃ i:Nat,t=i∧i≤L.length∧s=(L.take i).flatten.length,fun s t=>(L.length - t).toNat,⟨0,rfl,by omega,by simp⟩,?_⟩
 rintro s t ⟨i,rfl,hi,rfl⟩
 have hb:=zbZ L i
 refine ⟨fun ht=>?_,fun ht=>?_⟩
 ·have ht:i < L.length:=by simpa using ht
  have hs:=congrArg List.length (zcW ht)
  rw [List.length_append] at hs
  have hb2:=zbZ L (i+1)
  have hg:gd L (i:Int)=L[i]:=z7 ht
  have hw1:w64 (((L.take i).flatten.length:Int)+(gd L (i:Int)).length)=((L.take (i+1)).flatten.length:Int):=by
   rw [hg,hs];exact (zT (by omega) (by omega)).trans (by omega)
  have hw2:w64 ((i:Int)+1)=((i+1:Nat):Int):=zT (by omega) (by omega)
  rw [hw1,hw2]
  exact ⟨True,fun _=>⟨⟨i+1,rfl,by omega,rfl⟩,by dsimp only;omega⟩,by omega,by omega,fun h=>absurd (of_decide_eq_true h) (by omega),fun _=>trivial⟩
 ·refine ⟨⟨by omega,by omega⟩,fun l t=>∃ i:Nat,t=i∧i≤L.length∧l=(L.take i).flatten,fun l t=>(L.length - t).toNat,⟨0,rfl,by omega,rfl⟩,?_⟩
  rintro l t ⟨j,rfl,hj,rfl⟩
  have hb3:=zbZ L j
  refine ⟨fun ht=>?_,fun ht=>?_⟩
  ·have ht:j < L.length:=by simpa using ht
   have hg:gd L (j:Int)=L[j]:=z7 ht
   have hs:=zcW ht
   have hs2:=congrArg List.length hs
   rw [List.length_append] at hs2
   have hb2:=zbZ L (j+1)
   have hw2:w64 ((j:Int)+1)=((j+1:Nat):Int):=zT (by omega) (by omega)
   rw [hw2,hg]
   exact ⟨by omega,by omega,by omega,⟨j+1,rfl,by omega,hs.symm⟩,by dsimp only;omega⟩
  ·have:j=L.length:=by have:¬ j < L.length:=by simpa using ht
                       omega
   subst this
   rw [List.take_of_length_le (Nat.le_refl _)]
theorem zdC (a b:List Int) (ha:a.length < 100000000) (hb:b.length < 100000000):zah a b (join a b):=by
 have h:=concat_ok [a,b] (by simp) (by simp;omega)
 have e:[a,b].flatten=a++b:=by simp
 rw [e] at h
 exact zf9 a b _ ⟨_,h,by simp;omega,sort_len _,by rw [sort_len];simp;omega,rfl⟩
theorem lead_ok (fr to:List Int) (b:zm) (hfr:SS fr) (hin:∀ x∈fr,0≤x∧x < b.follow.length) (hto:to.length < 10000000) (hF:∀ f∈b.follow,f.length < 10000000) (hlen:fr.length < 10000000):zaW fr to b { sets:=b.sets,follow:=leadF b.follow fr to }:=by
 refine zd5 fr to b _ ⟨fun F t=>∃ i:Nat,t=i∧i≤fr.length∧F=leadF b.follow (fr.take i) to,fun F t=>(fr.length - t).toNat,⟨0,rfl,by omega,by simp [leadF];exact (List.ext_getElem (by simp) (fun j h1 h2=>by simp))⟩,?_⟩
 rintro F t ⟨i,rfl,hi,rfl⟩
 refine ⟨fun ht=>?_,fun ht=>?_⟩
 ·have ht:i < fr.length:=by simpa using ht
  have hg:gd fr (i:Int)=fr[i]:=z7 ht
  rw [hg]
  obtain ⟨q0,q1⟩:=hin _ (List.getElem_mem ht)
  obtain ⟨e,he⟩:∃ e:Nat,fr[i]=e:=⟨fr[i].toNat,by omega⟩
  rw [he] at q1 ⊢
  have he2:e < b.follow.length:=by omega
  have hl:(leadF b.follow (fr.take i) to).length=b.follow.length:=zax _ _ _
  have hnot:∀ j:Nat,(hj:j < b.follow.length)→j=e→¬ ((j:Int)∈fr.take i):=by
   rintro j hj rfl hm
   obtain ⟨k,hk,hk2⟩:=List.mem_iff_getElem.1 hm
   simp only [List.length_take] at hk
   rw [List.getElem_take] at hk2
   have:=List.pairwise_iff_getElem.1 hfr k i (by omega) ht (by omega)
   omega
  have hge:gd (leadF b.follow (fr.take i) to) (e:Int)=b.follow[e]:=by
   rw [z7 (by rw [hl];exact he2),zaU _ _ _ he2,if_neg (hnot e he2 rfl)]
  have hw2:w64 ((i:Int)+1)=((i+1:Nat):Int):=zT (by omega) (by omega)
  refine ⟨by omega,by omega,by omega,by rw [hl];omega,by rw [hl];omega,join b.follow[e] to,?_,by omega,by rw [hl];omega,by rw [hl];omega,?_⟩
  ·rw [hge];exact zdC _ _ (by have:=hF _ (List.getElem_mem he2);omega) (by omega)
  ·rw [hw2]
   refine ⟨⟨i+1,rfl,by omega,?_⟩,by dsimp only;omega⟩
   show List.set _ e _=_
   refine set_eq (by rw [zax,zax]) (fun j hj hne=>?_) (fun hj=>?_)
   ·rw [hl] at hj
    rw [zaU _ _ _ hj,zaU _ _ _ hj,List.take_succ_eq_append_getElem ht,he]
    have:((j:Int)∈fr.take i++[(e:Int)])↔(j:Int)∈fr.take i:=by
     rw [List.mem_append,List.mem_singleton]
     constructor
     ·rintro (h | h)
      ·exact h
      ·exact absurd (by omega) hne
     ·exact .inl
    simp only [this]
   ·rw [zaU _ _ _ he2,List.take_succ_eq_append_getElem ht,he,if_pos (by simp)]
 ·have:i=fr.length:=by have:¬ i < fr.length:=by simpa using ht
                       omega
  subst this
  rw [List.take_of_length_le (Nat.le_refl _)]
theorem zdG (g:GA) (off:Nat) (h:g.n < 10000000):∀ f∈flw g off,f.length < 10000000:=by
 intro f hf
 simp only [flw,List.mem_map,List.mem_range] at hf
 obtain ⟨i,_,rfl⟩:=hf
 have:=zaj g.n (g.follow i) off
 omega
theorem cat_ok (F0:List (List Int)) (S:List zb) (a b:GA) (hF:∀ f∈F0,f.length < 10000000) (hab:a.n+b.n < 1000000) (hF2:F0.length < 1000000) :
 zaK (pc a F0.length) (pc b (F0.length+a.n)) { sets:=S,follow:=F0++flw a F0.length++flw b (F0.length+a.n) } (pc (gCat a b) F0.length) { sets:=S,follow:=F0++flw (gCat a b) F0.length }:=by
 have hla:=zaj a.n a.last F0.length
 have hlb:=zaj b.n b.first (F0.length+a.n)
 have hlb2:=zaj b.n b.last (F0.length+a.n)
 have hla2:=zaj a.n a.first F0.length
 have hlead:=lead_ok (lst a.n a.last F0.length) (lst b.n b.first (F0.length+a.n)) { sets:=S,follow:=F0++flw a F0.length++flw b (F0.length+a.n) } (zbi _ _ _) (fun x hx=>by
  obtain ⟨i,hi,_,rfl⟩:=za4.1 hx
  simp only [List.length_append,zY];omega) (by omega) (fun f hf=>by
  rcases List.mem_append.1 hf with hf | hf
  ·rcases List.mem_append.1 hf with hf | hf
   ·exact hF f hf
   ·exact zdG a _ (by omega) f hf
  ·exact zdG b _ (by omega) f hf) (by omega)
 simp only [zgk] at hlead
 refine zey _ _ _ _ _ ⟨_,hlead,fun l=>l=lst (a.n+b.n) (gCat a b).first F0.length,?_,fun hn=>⟨_,zdC _ _ (by show (lst _ _ _).length < _;omega) (by show (lst _ _ _).length < _;omega),?_⟩,fun hn=>?_⟩
 ·rintro l rfl
  refine ⟨fun l=>l=lst (a.n+b.n) (gCat a b).last F0.length,?_,fun hn=>⟨_,zdC _ _ (by show (lst _ _ _).length < _;omega) (by show (lst _ _ _).length < _;omega),?_⟩,fun hn=>?_⟩
  ·rintro l rfl;exact ⟨rfl,rfl⟩
  ·have:=ze8 a b F0.length
   rw [if_pos (show b.null=true from hn)] at this;exact this
  ·have:=ze8 a b F0.length
   rw [if_neg (by show ¬ (b.null=true);have:b.null=false:=hn;simp [this])] at this;exact this
 ·have:=zhi a b F0.length
  rw [if_pos (show a.null=true from hn)] at this;exact this
 ·have:=zhi a b F0.length
  rw [if_neg (by show ¬ (a.null=true);have:a.null=false:=hn;simp [this])] at this;exact this
end Go.Ev.Pl
set_option linter.unusedSimpArgs false
set_option linter.unusedVariables false
namespace Go.Ev.Pl
open Go Go.Ev
def Rgt (x:ze):Prop:=∃ d,rgt x d=true
theorem zfq {x:ze} (h:Rgt x):ownB x=true∧∀ k∈x.Kids,Rgt k:=by
 obtain ⟨d,h⟩:=h
 rw [rgt_eq] at h
 simp only [Bool.and_eq_true,List.all_eq_true] at h
 exact ⟨h.1.2,fun k hk=>⟨d - 1,(h.2 k hk).2⟩⟩
theorem zgG {x:ze} (h:ownB x=true) (h5:x.Kind=5):(∃ k,x.Kids=[k])∧0≤x.Lo∧x.Lo≤20∧(x.Hi = -1∨1≤x.Hi∧x.Lo≤x.Hi∧x.Hi≤20):=by
 simp only [ownB,if_pos h5,timesB,Bool.and_eq_true,decide_eq_true_eq,Bool.or_eq_true,beq_iff_eq] at h
 obtain ⟨_,h1,h2,h3,h4⟩:=h
 refine ⟨?_,h2,h3,?_⟩
 ·match hq:x.Kids,h1 with
  | [k],_=>exact ⟨k,rfl⟩
 ·rcases h4 with h4 | ⟨h4,h5⟩
  ·exact .inl h4
  ·exact .inr (by omega)
theorem own_kids {x:ze} (h:ownB x=true) (h34:x.Kind=3∨x.Kind=4):2≤x.Kids.length:=by
 simp only [ownB] at h
 rw [if_neg (by omega),if_neg (by omega),if_neg (by omega),if_pos h34] at h
 simp only [Bool.and_eq_true,decide_eq_true_eq] at h
 exact h.2.2
theorem zeR {x:ze} (h:ownB x=true):x.Kind=1∨x.Kind=2∨x.Kind=3∨x.Kind=4∨x.Kind=5:=by
 simp only [ownB] at h
 split at h
 ·omega
 ·split at h
  ·omega
  ·split at h
   ·omega
   ·split at h
    ·omega
    ·cases h
theorem zgS {f:GA→GA} {a:GA} (hf:∀ o,(f o).n=a.n+o.n):∀ k z,(iter f k z).n=k * a.n+z.n
 | 0,z=>by simp [iter]
 | k+1,z=>by rw [iter,hf,zgS hf k,Nat.succ_mul];omega
def cpS (a:GA) (k:Nat):List zb:=(List.replicate k a.sets).flatten
theorem zeY {f:GA→GA} {a:GA} (hf:∀ o,(f o).sets=a.sets++o.sets):∀ k z,(iter f k z).sets=cpS a k++z.sets
 | 0,z=>by simp [iter,cpS]
 | k+1,z=>by rw [iter,hf,zeY hf k];simp [cpS,List.replicate_succ]
theorem zgR (a:GA):∀ k z,(iter (gCat a) k z).null=(z.null && (decide (k=0) || a.null))
 | 0,z=>by simp [iter]
 | k+1,z=>by
   rw [iter]
   show (a.null && (iter (gCat a) k z).null)=_
   rw [zgR a k z]
   cases a.null<;>cases z.null<;>simp
theorem rep_n (a:GA) {lo hi:Int} (h1:0≤lo) (h2:hi = -1∨1≤hi∧lo≤hi):(gRep a lo hi).n=(max 1 (max lo hi)).toNat * a.n:=by
 unfold gRep
 split
 ·rw [zgS (f:=gCat a) (a:=a) (fun _=>rfl)]
  have:(if lo=0 then gMaybe (gAgain a) else gAgain a).n=a.n:=by split<;>rfl
  rw [this,← Nat.succ_mul]
  congr 1
  omega
 ·rw [zgS (f:=gCat a) (a:=a) (fun _=>rfl),zgS (f:=fun o=>gMaybe (gCat a o)) (a:=a) (fun _=>rfl)]
  show _+(_+0)=_
  rw [Nat.add_zero,← Nat.add_mul]
  congr 1
  omega
theorem rep_sets (a:GA) {lo hi:Int} (h1:0≤lo) (h2:hi = -1∨1≤hi∧lo≤hi):(gRep a lo hi).sets=cpS a (max 1 (max lo hi)).toNat:=by
 have key:∀ j k,cpS a j++cpS a k=cpS a (j+k):=fun j k=>by
  simp only [cpS];rw [← List.flatten_append,List.replicate_append_replicate]
 unfold gRep
 split
 ·rw [zeY (f:=gCat a) (a:=a) (fun _=>rfl)]
  have:(if lo=0 then gMaybe (gAgain a) else gAgain a).sets=cpS a 1:=by split<;>simp [cpS,gMaybe,gAgain]
  rw [this,key]
  congr 1
  omega
 ·rw [zeY (f:=gCat a) (a:=a) (fun _=>rfl),zeY (f:=fun o=>gMaybe (gCat a o)) (a:=a) (fun _=>rfl)]
  show _++(_++[])=_
  rw [List.append_nil,key]
  congr 1
  omega
theorem rep_null (a:GA) {lo hi:Int} (h1:0≤lo) (h2:hi = -1∨1≤hi∧lo≤hi):(gRep a lo hi).null=(decide (lo≤0) || a.null):=by
 unfold gRep
 split
 ·rw [zgR]
  by_cases h:lo=0
  ·subst h;simp [gMaybe,gAgain];left;rfl
  ·have:¬ lo≤0:=by omega
   simp only [if_neg h,gAgain,this,decide_false,Bool.false_or]
   cases a.null<;>simp
 ·rw [zgR]
  have hin:∀ k,(iter (fun o=>gMaybe (gCat a o)) k gEmpty).null=true:=by
   intro k;cases k<;>rfl
  rw [hin,Bool.true_and]
  congr 1
  simp only [decide_eq_decide];omega
theorem zg5 {f:GA→GA→GA} (hf:∀ a b,(f a b).n=a.n+b.n):∀ (l:List ze) (z:GA),(l.foldl (fun o y=>f o (gof y)) z).n=z.n+(l.map fun y=>(gof y).n).sum
 | [],z=>by simp
 | y :: r,z=>by rw [List.foldl_cons,zg5 hf r,hf];simp;omega
theorem gof_n:∀ x,Rgt x→(gof x).n=sizeN x:=by
 refine rxInd fun x ih hr=>?_
 obtain ⟨ho,hk⟩:=zfq hr
 have hkn:(x.Kids.map fun y=>(gof y).n)=x.Kids.map sizeN:=List.map_congr_left fun y hy=>ih y hy (hk y hy)
 rw [zcT,zbW]
 rcases zeR ho with h | h | h | h | h
 ·simp [h,gEmpty]
 ·simp [h,gByte]
 ·simp only [h]
  simp only [show ¬ ((3:Int)=2) by omega,if_false,if_true,show (3:Int)≤3∧(3:Int)≤5 from ⟨by omega,by omega⟩,show ¬ ((3:Int)=5) by omega]
  rw [zg5 (f:=gCat) (fun _ _=>rfl),hkn]
  show 0+_=_;simp
 ·simp only [h]
  simp only [show ¬ ((4:Int)=2) by omega,show ¬ ((4:Int)=3) by omega,if_false,if_true,show (3:Int)≤4∧(4:Int)≤5 from ⟨by omega,by omega⟩,show ¬ ((4:Int)=5) by omega]
  rw [zg5 (f:=gAlt) (fun _ _=>rfl),hkn]
  show 0+_=_;simp
 ·obtain ⟨⟨k,hq⟩,h1,h2,h3⟩:=zgG ho h
  simp only [h]
  simp only [show ¬ ((5:Int)=2) by omega,show ¬ ((5:Int)=3) by omega,show ¬ ((5:Int)=4) by omega,if_false,if_true,show (3:Int)≤5∧(5:Int)≤5 from ⟨by omega,by omega⟩]
  rw [hq]
  simp only [List.map_cons,List.map_nil,List.headD_cons,List.sum_cons,List.sum_nil,Nat.add_zero]
  rw [rep_n _ h1 (by omega),ih k (by rw [hq];simp) (hk k (by rw [hq];simp)),Nat.mul_comm]
  congr 1
  simp only [timesN];omega
theorem zec:∀ (l:List ze) (z:GA),(l.foldl (fun o y=>gCat o (gof y)) z).null=(z.null && l.all fun y=>(gof y).null)
 | [],z=>by simp
 | y :: r,z=>by rw [List.foldl_cons,zec r];simp [gCat,Bool.and_assoc]
theorem zed:∀ (l:List ze) (z:GA),(l.foldl (fun o y=>gAlt o (gof y)) z).null=(z.null || l.any fun y=>(gof y).null)
 | [],z=>by simp
 | y :: r,z=>by rw [List.foldl_cons,zed r];simp [gAlt,Bool.or_assoc]
theorem all_congr' {l:List ze} {p q:ze→Bool} (h:∀ y∈l,p y=q y):l.all p=l.all q:=by
 induction l with
 | nil=>rfl
 | cons y r ih=>simp only [List.all_cons];rw [h y (List.mem_cons_self ..),ih fun z hz=>h z (List.mem_cons_of_mem _ hz)]
theorem any_congr' {l:List ze} {p q:ze→Bool} (h:∀ y∈l,p y=q y):l.any p=l.any q:=by
 induction l with
 | nil=>rfl
 | cons y r ih=>simp only [List.any_cons];rw [h y (List.mem_cons_self ..),ih fun z hz=>h z (List.mem_cons_of_mem _ hz)]
theorem gof_null:∀ x,Rgt x→(gof x).null=nullB x:=by
 refine rxInd fun x ih hr=>?_
 obtain ⟨ho,hk⟩:=zfq hr
 rw [zcT,nullB_eq]
 rcases zeR ho with h | h | h | h | h
 ·simp [h,gEmpty]
 ·simp [h,gByte]
 ·simp only [h]
  simp only [show ¬ ((3:Int)=2) by omega,show ¬ ((3:Int)=1) by omega,if_false,if_true]
  rw [zec,all_congr' fun y hy=>ih y hy (hk y hy)];rfl
 ·simp only [h]
  simp only [show ¬ ((4:Int)=2) by omega,show ¬ ((4:Int)=3) by omega,show ¬ ((4:Int)=1) by omega,if_false,if_true]
  rw [zed,any_congr' fun y hy=>ih y hy (hk y hy)];rfl
 ·obtain ⟨⟨k,hq⟩,h1,h2,h3⟩:=zgG ho h
  simp only [h]
  simp only [show ¬ ((5:Int)=2) by omega,show ¬ ((5:Int)=3) by omega,show ¬ ((5:Int)=4) by omega,show ¬ ((5:Int)=1) by omega,if_false,if_true]
  rw [hq]
  simp only [List.map_cons,List.map_nil,List.headD_cons,List.all_cons,List.all_nil,Bool.and_true]
  rw [rep_null _ h1 (by omega),ih k (by rw [hq];simp) (hk k (by rw [hq];simp))]
theorem zero_null:∀ x,Rgt x→sizeN x=0→nullB x=true:=by
 refine rxInd fun x ih hr h0=>?_
 obtain ⟨ho,hk⟩:=zfq hr
 rw [zbW] at h0
 rw [nullB_eq]
 have hsum:(x.Kids.map sizeN).sum=0→∀ y∈x.Kids,nullB y=true:=fun h y hy=>ih y hy (hk y hy) (by
  have:=List.sum_eq_zero_iff_forall_eq_nat.1 h (sizeN y) (List.mem_map.2 ⟨y,hy,rfl⟩);exact this)
 rcases zeR ho with h | h | h | h | h
 ·simp [h]
 ·simp [h] at h0
 ·simp only [h] at h0 ⊢
  simp at h0
  simp only [show ¬ ((3:Int)=1) by omega,if_false,if_true,List.all_eq_true]
  exact hsum h0
 ·simp only [h] at h0 ⊢
  simp at h0
  have h2:=own_kids ho (.inr h)
  simp only [show ¬ ((4:Int)=1) by omega,show ¬ ((4:Int)=3) by omega,if_false,if_true]
  have hm:x.Kids[0]'(by omega)∈x.Kids:=List.getElem_mem _
  exact List.any_eq_true.2 ⟨_,hm,hsum h0 _ hm⟩
 ·obtain ⟨⟨k,hq⟩,h1,h2,h3⟩:=zgG ho h
  simp only [h] at h0 ⊢
  simp only [show ¬ ((5:Int)=2) by omega,if_false,if_true,show (3:Int)≤5∧(5:Int)≤5 from ⟨by omega,by omega⟩] at h0
  have ht:1≤timesN x:=by simp only [timesN];omega
  have hs:(x.Kids.map sizeN).sum=0:=by
   rcases Nat.mul_eq_zero.1 h0 with h | h
   ·exact h
   ·omega
  simp only [show ¬ ((5:Int)=3) by omega,show ¬ ((5:Int)=4) by omega,show ¬ ((5:Int)=1) by omega,if_false,if_true]
  have:x.Kids.all nullB=true:=List.all_eq_true.2 (hsum hs)
  rw [this];simp
theorem gof_zero {x:ze} (hr:Rgt x) (h0:sizeN x=0):gof x=gEmpty:=
 canon_zero (zaA x) ((gof_n x hr).trans h0) ((gof_null x hr).trans (zero_null x hr h0))
end Go.Ev.Pl
set_option linter.unusedSimpArgs false
set_option linter.unusedVariables false
namespace Go.Ev.Pl
open Go Go.Ev
def hF (h:Nat→GA) (m n:Nat):Nat→List (List Int)
 | 0=>[]
 | N+1=>hF h m n N++flw (h N) (m+N * n)
theorem hF_len {h:Nat→GA} {m n:Nat} (hn:∀ j,(h j).n=n):∀ N,(hF h m n N).length=N * n
 | 0=>by simp [hF]
 | N+1=>by rw [hF,List.length_append,hF_len hn N,zY,hn,Nat.succ_mul]
theorem hF_congr {h h':Nat→GA} {m n:Nat}:∀ N,(∀ j,j < N→h j=h' j)→hF h m n N=hF h' m n N
 | 0,_=>rfl
 | N+1,e=>by rw [hF,hF,hF_congr N (fun j hj=>e j (by omega)),e N (by omega)]
theorem zgn {h:Nat→GA} {m n:Nat} (hs:∀ j,(h j).n < 10000000):∀ N,∀ f∈hF h m n N,f.length < 10000000
 | 0,f,hf=>by simp [hF] at hf
 | N+1,f,hf=>by
   rw [hF,List.mem_append] at hf
   rcases hf with hf | hf
   ·exact zgn hs N f hf
   ·exact zdG _ _ (hs N) f hf
theorem cpS_succ (a:GA) (k:Nat):cpS a (k+1)=cpS a k++a.sets:=by
 simp only [cpS,List.replicate_succ',List.flatten_append];simp
structure Room (F0:List (List Int)) (S:List zb) (n:Nat):Prop where
 same:S.length=F0.length
 small:∀ f∈F0,f.length < 10000000
 room:F0.length+n < 1000000
def PieceOk (x:ze):Prop:=∀ F0 S,Room F0 S (gof x).n→zam x { sets:=S,follow:=F0 } (pc (gof x) F0.length) { sets:=S++(gof x).sets,follow:=F0++flw (gof x) F0.length }
theorem copies_ok {k:ze} (hp:PieceOk k) (N:Nat) (hN:N≤1000) (F0:List (List Int)) (S:List zb) (hr:Room F0 S (N * (gof k).n)) :
 zar k N { sets:=S,follow:=F0 } ((List.range N).map fun i=>pc (gof k) (F0.length+i * (gof k).n)) { sets:=S++cpS (gof k) N,follow:=F0++hF (fun _=>gof k) F0.length (gof k).n N }:=by
 have hc:=zaA k
 refine zdo k N _ _ _ ⟨fun s f o t=>∃ i:Nat,t=i∧i≤N∧s=S++cpS (gof k) i∧f=F0++hF (fun _=>gof k) F0.length (gof k).n i∧o=(List.range i).map fun i=>pc (gof k) (F0.length+i * (gof k).n),
  fun _ _ _ t=>(N - t).toNat,⟨0,rfl,by omega,by simp [cpS],by simp [hF],rfl⟩,?_⟩
 rintro s f o t ⟨i,rfl,hi,rfl,rfl,rfl⟩
 refine ⟨fun ht=>?_,fun ht=>?_⟩
 ·have ht:i < N:=by simpa using ht
  have hle:(i+1) * (gof k).n≤N * (gof k).n:=Nat.mul_le_mul_right _ ht
  rw [Nat.add_mul,Nat.one_mul] at hle
  have hlen:(F0++hF (fun _=>gof k) F0.length (gof k).n i).length=F0.length+i * (gof k).n:=by rw [List.length_append,hF_len fun _=>rfl]
  have hroom:=hr.room
  have hsl:∀ j,(cpS (gof k) j).length=j * (gof k).n:=fun j=>by simp [cpS,hc.sets]
  have:=hp (F0++hF (fun _=>gof k) F0.length (gof k).n i) (S++cpS (gof k) i) ⟨by rw [hlen,List.length_append,hr.same,hsl],fun f hf=>by
   rcases List.mem_append.1 hf with hf | hf
   ·exact hr.small f hf
   ·exact zgn (fun _=>by omega) i f hf,by rw [hlen];omega⟩
  rw [hlen,List.append_assoc,List.append_assoc,← cpS_succ] at this
  have hw2:w64 ((i:Int)+1)=((i+1:Nat):Int):=zT (by omega) (by omega)
  refine ⟨_,_,this,by simp;omega,?_⟩
  rw [hw2]
  exact ⟨⟨i+1,rfl,by omega,rfl,rfl,by rw [List.range_succ,List.map_append];rfl⟩,by dsimp only;omega⟩
 ·have:i=N:=by have:¬ i < N:=by simpa using ht
               omega
  subst this
  exact ⟨rfl,rfl⟩
def fromEnd (h:Nat→GA) (mb:Nat→Bool) (N:Nat):Nat→GA
 | 0=>gEmpty
 | i+1=>let o:=gCat (h (N - 1 - i)) (fromEnd h mb N i);if mb (N - 1 - i)=true then gMaybe o else o
theorem fromEnd_n {h:Nat→GA} {mb:Nat→Bool} {N n:Nat} (hn:∀ j,(h j).n=n):∀ i,(fromEnd h mb N i).n=i * n
 | 0=>by simp [fromEnd,gEmpty]
 | i+1=>by
   simp only [fromEnd]
   have:(gCat (h (N - 1 - i)) (fromEnd h mb N i)).n=(i+1) * n:=by
    show (h (N - 1 - i)).n+(fromEnd h mb N i).n=_
    rw [hn,fromEnd_n hn i,Nat.succ_mul];omega
   split
   ·exact this
   ·exact this
theorem rep_loop {x:ze} {h:Nat→GA} {N n:Nat} {F0:List (List Int)} {S S':List zb} (hn:∀ j,(h j).n=n) (hr:Room F0 S (N * n)) (hN:N≤1000) {l:List zi} (hl:l=(List.range N).map fun j=>pc (h j) (F0.length+j * n))
 {res:zi} {fin:zm} (hres:res=pc (fromEnd h (fun j=>decide (x.Hi≥0) && decide ((j:Int)≥x.Lo)) N N) F0.length)
 (hfin:fin={ sets:=S',follow:=F0++flw (fromEnd h (fun j=>decide (x.Hi≥0) && decide ((j:Int)≥x.Lo)) N N) F0.length }) :
 (List.length l < 1099511627776∧∃ (Inv24:Nat→List zb→List (List Int)→List Int→List Int→Bool→Prop),Inv24 0 S' (F0++hF h F0.length n N) [] [] Bool.true∧
   (∀ (i:Nat) (y:zi),i < List.length l→l[List.length l - 1 - i]?=some y→∀ (s:List zb) (f:List (List Int)) (o1 o2:List Int) (o3:Bool),Inv24 i s f o1 o2 o3→
     (∃ r0_6:zi,∃ o_4:zm,zaK y { first:=o1,last:=o2,null:=o3 } { sets:=s,follow:=f } r0_6 o_4∧
       (((decide (x.Hi≥0) && decide ((List.length l:Int) - 1 - i≥x.Lo))=true→(∃ r0_7:zi,zcu r0_6 r0_7∧Inv24 (i+1) o_4.sets o_4.follow r0_7.first r0_7.last r0_7.null))∧
         ((decide (x.Hi≥0) && decide ((List.length l:Int) - 1 - i≥x.Lo))=false→Inv24 (i+1) o_4.sets o_4.follow r0_6.first r0_6.last r0_6.null))))∧
   (∀ (s:List zb) (f:List (List Int)) (o1 o2:List Int) (o3:Bool),Inv24 (List.length l) s f o1 o2 o3→(res={ first:=o1,last:=o2,null:=o3 }∧fin={ sets:=s,follow:=f }))):=by
 have hll:l.length=N:=by rw [hl];simp
 obtain ⟨mb,hmb⟩:∃ mb:Nat→Bool,mb=fun j:Nat=>decide (x.Hi≥0) && decide ((j:Int)≥x.Lo):=⟨_,rfl⟩
 rw [← hmb] at hres hfin
 have hroom:=hr.room
 rw [hll]
 refine ⟨by omega,fun i s f o1 o2 o3=>i≤N∧s=S'∧f=F0++hF h F0.length n (N - i)++flw (fromEnd h mb N i) (F0.length+(N - i) * n)∧(⟨o1,o2,o3⟩:zi)=pc (fromEnd h mb N i) (F0.length+(N - i) * n),⟨by omega,rfl,by simp [fromEnd,flw,gEmpty],rfl⟩,?_,?_⟩
 ·rintro i y hi hy s f o1 o2 o3 ⟨_,rfl,rfl,hp⟩
  have hy:y=pc (h (N - 1 - i)) (F0.length+(N - 1 - i) * n):=by
   rw [hl,List.getElem?_map,List.getElem?_range (by omega)] at hy
   simpa using hy.symm
  have e1:N - i=(N - 1 - i)+1:=by omega
  have hlen:(F0++hF h F0.length n (N - 1 - i)).length=F0.length+(N - 1 - i) * n:=by rw [List.length_append,hF_len hn]
  have hmul:(N - 1 - i) * n+(n+i * n)=N * n:=by
   have:N=(N - 1 - i)+(1+i):=by omega
   conv=>rhs;rw [this,Nat.add_mul,Nat.add_mul,Nat.one_mul]
  have hcat:=cat_ok (F0++hF h F0.length n (N - 1 - i)) s (h (N - 1 - i)) (fromEnd h mb N i) (fun f hf=>by
   rcases List.mem_append.1 hf with hf | hf
   ·exact hr.small f hf
   ·exact zgn (fun j=>by have:=hn j;omega) _ f hf) (by rw [hn,fromEnd_n hn];omega) (by rw [hlen];omega)
  rw [hlen,hn] at hcat
  have hpos:F0.length+(N - 1 - i) * n+n=F0.length+(N - i) * n:=by rw [e1,Nat.succ_mul];omega
  rw [hpos] at hcat
  have hfl:F0++hF h F0.length n (N - i)=F0++hF h F0.length n (N - 1 - i)++flw (h (N - 1 - i)) (F0.length+(N - 1 - i) * n):=by
   rw [e1,hF,List.append_assoc]
  rw [hfl,hp,hy]
  refine ⟨_,_,hcat,fun hm=>⟨_,W_place_maybe _ _ rfl,?_⟩,fun hm=>?_⟩
  all_goals have hidx:((N:Int) - 1 - i)=((N - 1 - i:Nat):Int):=by omega
  all_goals rw [hidx] at hm
  all_goals have e2:N - (i+1)=N - 1 - i:=by omega
  ·have hf:fromEnd h mb N (i+1)=gMaybe (gCat (h (N - 1 - i)) (fromEnd h mb N i)):=by
    simp only [fromEnd];rw [if_pos];rw [hmb];exact hm
   dsimp only;rw [hf,e2]
   exact ⟨by omega,rfl,rfl,rfl⟩
  ·have hf:fromEnd h mb N (i+1)=gCat (h (N - 1 - i)) (fromEnd h mb N i):=by
    simp only [fromEnd];rw [if_neg];rw [hmb];simpa using hm
   dsimp only;rw [hf,e2]
   exact ⟨by omega,rfl,rfl,rfl⟩
 ·rintro s f o1 o2 o3 ⟨_,rfl,rfl,hp⟩
  rw [Nat.sub_self,Nat.zero_mul,Nat.add_zero] at hp
  refine ⟨by rw [hres,hp],?_⟩
  rw [hfin]
  simp [hF]
end Go.Ev.Pl
set_option linter.unusedSimpArgs false
set_option linter.unusedVariables false
namespace Go.Ev.Pl
open Go Go.Ev
theorem zg4 {g z:GA} {h:Nat→GA} {mb:Nat→Bool} {N:Nat} (hz:Canon z) (hN:1≤N) (hh:∀ j,j < N - 1→h j=g) (hl:h (N - 1)=z) (hm:∀ j,mb j=false):∀ i,i < N→fromEnd h mb N (i+1)=iter (gCat g) i z
 | 0,hi=>by
   simp only [fromEnd,hm]
   rw [if_neg (by simp),Nat.sub_zero,hl,cat_empty_r hz];rfl
 | i+1,hi=>by
   have ih:=zg4 hz hN hh hl hm i (by omega)
   rw [fromEnd]
   simp only [hm]
   rw [if_neg (by simp),ih,hh _ (by omega)];rfl
theorem zg3 {g:GA} {h:Nat→GA} {mb:Nat→Bool} {N L:Nat} (hL:L≤N) (hh:∀ j,h j=g) (hm:∀ j,j < N→mb j=decide (L≤j)):∀ i,i≤N→
 fromEnd h mb N i=iter (gCat g) (i - (N - L)) (iter (fun o=>gMaybe (gCat g o)) (min i (N - L)) gEmpty)
 | 0,_=>by simp [fromEnd,iter]
 | i+1,hi=>by
   have ih:=zg3 hL hh hm i (by omega)
   rw [fromEnd]
   simp only [hh,ih]
   rw [hm _ (by omega)]
   by_cases hc:L≤N - 1 - i
   ·rw [if_pos (by simpa using hc),show i - (N - L)=0 by omega,show i+1 - (N - L)=0 by omega,show min i (N - L)=i by omega,show min (i+1) (N - L)=i+1 by omega];rfl
   ·rw [if_neg (by simpa using hc),show i+1 - (N - L)=(i - (N - L))+1 by omega,show min i (N - L)=N - L by omega,show min (i+1) (N - L)=N - L by omega];rfl
theorem flw_again (g:GA) (b:Prop) [Decidable b] (off:Nat):flw (if b then gMaybe (gAgain g) else gAgain g) off=flw (gAgain g) off:=by split<;>rfl
theorem map_range_set {α:Type} {f:Nat→α} {N i:Nat} {v:α} (h:i < N):((List.range N).map f).set i v=(List.range N).map fun j=>if j=i then v else f j:=by
 refine set_eq (by simp) (fun j hj hne=>?_) (fun hj=>?_)
 ·simp only [List.getElem_map,List.getElem_range];rw [if_neg hne]
 ·simp only [List.getElem_map,List.getElem_range,if_true]
theorem rep_ok {x:ze} (hr:Rgt x) (h5:x.Kind=5) (hw:Wf x) (hp:∀ k∈x.Kids,PieceOk k) (F0:List (List Int)) (S:List zb) (hroom:Room F0 S (gof x).n) :
 zbq x { sets:=S,follow:=F0 } (pc (gof x) F0.length) { sets:=S++(gof x).sets,follow:=F0++flw (gof x) F0.length }:=by
 obtain ⟨ho,hk⟩:=zfq hr
 obtain ⟨⟨k,hq⟩,h1,h2,h3⟩:=zgG ho h5
 have hkm:k∈x.Kids:=by rw [hq];simp
 have hgn:=gof_n x hr
 have hgof:gof x=gRep (gof k) x.Lo x.Hi:=by
  rw [zcT,h5,hq];simp
 refine zex x _ _ _ ⟨_,rxSize_ok x hw,fun h0=>?_,fun h0=>?_⟩
 ·have h0:sizeN x=0:=by
   have:sizeZ x=0:=by simpa using h0
   simp only [sizeZ] at this;omega
  rw [gof_zero hr h0]
  exact ⟨rfl,by simp [gEmpty,flw]⟩
 obtain ⟨N,hN⟩:∃ N:Nat,N=(max 1 (max x.Lo x.Hi)).toNat:=⟨_,rfl⟩
 have hN1:1≤N:=by omega
 have hN2:N≤20:=by omega
 have hNi:(N:Int)=max 1 (max x.Lo x.Hi):=by omega
 have hn:(gof x).n=N * (gof k).n:=by rw [hgof,rep_n _ h1 (by omega),hN]
 have hs:(gof x).sets=cpS (gof k) N:=by rw [hgof,rep_sets _ h1 (by omega),hN]
 have hroom2:Room F0 S (N * (gof k).n):=by rw [← hn];exact hroom
 have hcp:=copies_ok (hp k hkm) N (by omega) F0 S hroom2
 have hlen2:F0.length+N * (gof k).n < 1000000:=hroom2.room
 have hcnt:(if (1:Int) > if x.Hi > x.Lo then x.Hi else x.Lo then (1:Int) else if x.Hi > x.Lo then x.Hi else x.Lo)=(N:Int):=by rw [hNi];split<;>omega
 rw [hcnt,hq]
 simp only [List.length_cons,List.length_nil,List.getD_cons_zero]
 refine ⟨by omega,_,_,hcp,?_⟩
 rw [← hs]
 by_cases hneg:x.Hi < 0
 ·-- from some times on
  obtain ⟨z,hz⟩:∃ z:GA,z=if x.Lo=0 then gMaybe (gAgain (gof k)) else gAgain (gof k):=⟨_,rfl⟩
  have hzc:Canon z:=by rw [hz];split;exact zcE (zcd (zaA k));exact zcd (zaA k)
  have hzn:z.n=(gof k).n:=by rw [hz];split<;>rfl
  obtain ⟨h,hh⟩:∃ h:Nat→GA,h=fun j=>if j=N - 1 then z else gof k:=⟨_,rfl⟩
  have hhn:∀ j,(h j).n=(gof k).n:=fun j=>by rw [hh];dsimp only;split;exact hzn;rfl
  have hfe:fromEnd h (fun j:Nat=>decide (x.Hi≥0) && decide ((j:Int)≥x.Lo)) N N=gof x:=by
   have:=zg4 (mb:=fun j:Nat=>decide (x.Hi≥0) && decide ((j:Int)≥x.Lo)) hzc hN1 (h:=h) (g:=gof k) (fun j hj=>by rw [hh];dsimp only;rw [if_neg (by omega)]) (by rw [hh];simp) (fun j=>by simp;omega) (N - 1) (by omega)
   rw [show N - 1+1=N by omega] at this
   rw [this,hgof]
   unfold gRep
   rw [if_pos hneg,← hz]
   congr 1;omega
  obtain ⟨N1,rfl⟩:∃ N1,N=N1+1:=⟨N - 1,by omega⟩
  have hF1:hF h F0.length (gof k).n (N1+1)=hF (fun _=>gof k) F0.length (gof k).n N1++flw (gAgain (gof k)) (F0.length+N1 * (gof k).n):=by
   rw [hF,hF_congr N1 (h':=fun _=>gof k) (fun j hj=>by rw [hh];dsimp only;rw [if_neg (by omega)])]
   congr 1
   rw [hh];dsimp only;rw [if_pos (by omega),hz,flw_again]
  refine ⟨fun s f l=>s=S++(gof x).sets∧f=F0++hF h F0.length (gof k).n (N1+1)∧l=(List.range (N1+1)).map fun j=>pc (h j) (F0.length+j * (gof k).n),?_,fun _=>?_,fun hc=>absurd (of_decide_eq_false hc) (by omega)⟩
  ·rintro s f l ⟨rfl,rfl,hl⟩
   exact ⟨zeh l,rep_loop (x:=x) (h:=h) (N:=N1+1) (S:=S) hhn hroom2 (by omega) hl (by rw [hfe]) (by rw [hfe])⟩
  ·have hwl:w64 ((((List.range (N1+1)).map fun i=>pc (gof k) (F0.length+i * (gof k).n)).length:Int) - 1)=(N1:Int):=by
    rw [List.length_map,List.length_range];exact (zT (by omega) (by omega)).trans (by omega)
   have hgl:gd ((List.range (N1+1)).map fun i=>pc (gof k) (F0.length+i * (gof k).n)) (N1:Int)=pc (gof k) (F0.length+N1 * (gof k).n):=by
    rw [z7 (by simp)];simp
   rw [hwl,hgl]
   have hlen:(F0++hF (fun _=>gof k) F0.length (gof k).n N1).length=F0.length+N1 * (gof k).n:=by rw [List.length_append,hF_len fun _=>rfl]
   have hmul:(N1+1) * (gof k).n=N1 * (gof k).n+(gof k).n:=Nat.succ_mul _ _
   have hla:=zaj (gof k).n (gof k).last (F0.length+N1 * (gof k).n)
   have hlf:=zaj (gof k).n (gof k).first (F0.length+N1 * (gof k).n)
   have hlead:=lead_ok (lst (gof k).n (gof k).last (F0.length+N1 * (gof k).n)) (lst (gof k).n (gof k).first (F0.length+N1 * (gof k).n)) { sets:=S++(gof x).sets,follow:=F0++hF (fun _=>gof k) F0.length (gof k).n (N1+1) } (zbi _ _ _) (fun y hy=>by
    obtain ⟨i,hi,_,rfl⟩:=za4.1 hy
    simp only [List.length_append,hF_len fun _=>rfl];omega) (by omega) (fun f hf=>by
    rcases List.mem_append.1 hf with hf | hf
    ·exact hroom.small f hf
    ·exact zgn (fun _=>by omega) _ f hf) (by omega)
   have hag:=zhQ (F0++hF (fun _=>gof k) F0.length (gof k).n N1) (gof k)
   rw [hlen,List.append_assoc,List.append_assoc] at hag
   have hag2:leadF (F0++hF (fun _=>gof k) F0.length (gof k).n (N1+1)) (lst (gof k).n (gof k).last (F0.length+N1 * (gof k).n)) (lst (gof k).n (gof k).first (F0.length+N1 * (gof k).n))=F0++hF h F0.length (gof k).n (N1+1):=by
    rw [hF1];exact hag
   simp only [hag2] at hlead
   have hset:∀ b:Bool,b=z.null→List.set ((List.range (N1+1)).map fun i=>pc (gof k) (F0.length+i * (gof k).n)) (Int.toNat (N1:Int)) { first:=(pc (gof k) (F0.length+N1 * (gof k).n)).first,last:=(pc (gof k) (F0.length+N1 * (gof k).n)).last,null:=b }=(List.range (N1+1)).map fun j=>pc (h j) (F0.length+j * (gof k).n):=by
    intro b hb
    rw [Int.toNat_natCast,map_range_set (by omega)]
    refine List.map_congr_left fun j hj=>?_
    rw [hh];dsimp only
    by_cases e:j=N1
    ·subst e
     rw [if_pos rfl,if_pos (by omega)]
     have e1:z.first=(gof k).first:=by rw [hz];split<;>rfl
     have e2:z.last=(gof k).last:=by rw [hz];split<;>rfl
     rw [hb]
     simp only [pc,hzn,e1,e2]
    ·rw [if_neg e,if_neg (by omega)]
   have hll:((List.range (N1+1)).map fun i=>pc (gof k) (F0.length+i * (gof k).n)).length=N1+1:=by simp
   rw [hll]
   refine ⟨by omega,by omega,by omega,by omega,_,hlead,by omega,fun hn=>⟨fun _=>by omega,rfl,rfl,hset _ ?_⟩,fun hn=>⟨fun _=>by omega,rfl,rfl,hset _ ?_⟩⟩
   ·have hn:(gof k).null=true:=hn
    rw [hz];split<;>simp [gMaybe,gAgain,hn]
   ·have hn:(gof k).null=false:=hn
    rw [hz]
    by_cases e:x.Lo=0
    ·rw [if_pos e,e];rfl
    ·rw [if_neg e]
     show (x.Lo == 0)=(gof k).null
     rw [hn];simpa using e
 ·-- from some times to others
  have hhi:1≤x.Hi∧x.Lo≤x.Hi:=by omega
  have hfe:fromEnd (fun _=>gof k) (fun j:Nat=>decide (x.Hi≥0) && decide ((j:Int)≥x.Lo)) N N=gof x:=by
   have:=zg3 (h:=fun _=>gof k) (g:=gof k) (mb:=fun j:Nat=>decide (x.Hi≥0) && decide ((j:Int)≥x.Lo)) (N:=N) (L:=x.Lo.toNat) (by omega) (fun _=>rfl) (fun j hj=>by
    have:decide (x.Hi≥0)=true:=by simp;omega
    simp only [this,Bool.true_and,decide_eq_decide];omega) N (Nat.le_refl _)
   rw [this,hgof]
   unfold gRep
   rw [if_neg hneg]
   congr 1
   ·omega
   ·congr 1;omega
  refine ⟨fun s f l=>s=S++(gof x).sets∧f=F0++hF (fun _=>gof k) F0.length (gof k).n N∧l=(List.range N).map fun j=>pc (gof k) (F0.length+j * (gof k).n),?_,fun hc=>absurd (of_decide_eq_true hc) hneg,fun _=>⟨rfl,rfl,rfl⟩⟩
  rintro s f l ⟨rfl,rfl,hl⟩
  exact ⟨zeh l,rep_loop (x:=x) (h:=fun _=>gof k) (N:=N) (S:=S) (fun _=>rfl) hroom2 (by omega) hl (by rw [hfe]) (by rw [hfe])⟩
end Go.Ev.Pl
set_option linter.unusedSimpArgs false
set_option linter.unusedVariables false
namespace Go.Ev.Pl
open Go Go.Ev
theorem pc_first (g:GA) (off:Nat):(pc g off).first=lst g.n g.first off:=rfl
theorem pc_last (g:GA) (off:Nat):(pc g off).last=lst g.n g.last off:=rfl
theorem pc_null (g:GA) (off:Nat):(pc g off).null=g.null:=rfl
theorem pre_n {f:GA→GA→GA} (hf:∀ a b,(f a b).n=a.n+b.n) {z:GA} (hz:z.n=0) {l:List ze} {i:Nat} (h:i < l.length) :
 ((l.take i).foldl (fun o y=>f o (gof y)) z).n+(gof l[i]).n≤(l.foldl (fun o y=>f o (gof y)) z).n:=by
 have e:=zg5 hf (l.take (i+1)) z
 rw [zay h,hf] at e
 rw [e,zg5 hf]
 have:(l.map fun y=>(gof y).n).sum=((l.take (i+1)).map fun y=>(gof y).n).sum+((l.drop (i+1)).map fun y=>(gof y).n).sum:=by
  rw [← List.sum_append,← List.map_append,List.take_append_drop]
 omega
theorem piece_ok:∀ x,Wf x→Rgt x→PieceOk x:=by
 refine rxInd fun x ih hw hr=>?_
 obtain ⟨hl,hkw⟩:=(zhw x).1 hw
 obtain ⟨ho,hk⟩:=zfq hr
 intro F0 S hroom
 have hrm:=hroom.room
 refine zdN x _ _ _ ⟨fun h=>?_,fun h2=>⟨fun h=>?_,fun h3=>⟨fun h=>?_,fun h4=>⟨fun h=>?_,fun h5=>?_⟩⟩⟩⟩
 ·have h:x.Kind=2:=by simpa using h
  have hg:gof x=gByte x.Set:=by rw [zcT,if_pos h]
  rw [hg] at hrm ⊢
  have hrm:F0.length+1 < 1000000:=hrm
  refine ⟨_,_,zdM _ _ _ _ ⟨?_,?_,rfl,rfl⟩,?_,?_⟩
  ·have:=hroom.same;simp only;omega
  ·simp only;omega
  ·have:lst 1 (fun i=>i == 0) F0.length=[(S.length:Int)]:=by
    rw [hroom.same];simp [lst,List.range_succ]
   simp only [pc,gByte,this]
  ·rfl
 ·have h:x.Kind=3:=by simpa using h
  have hg:gof x=x.Kids.foldl (fun o y=>gCat o (gof y)) gEmpty:=by rw [zcT];simp [h]
  refine ⟨fun s f a b c t=>∃ i:Nat,t=i∧i≤x.Kids.length∧s=S++((x.Kids.take i).foldl (fun o y=>gCat o (gof y)) gEmpty).sets∧f=F0++flw ((x.Kids.take i).foldl (fun o y=>gCat o (gof y)) gEmpty) F0.length∧(⟨a,b,c⟩:zi)=pc ((x.Kids.take i).foldl (fun o y=>gCat o (gof y)) gEmpty) F0.length,
   fun _ _ _ _ _ t=>(x.Kids.length - t).toNat,⟨0,rfl,by omega,by simp [gEmpty],by simp [gEmpty,flw],rfl⟩,?_⟩
  rintro s f a b c t ⟨i,rfl,hi,rfl,rfl,hp⟩
  refine ⟨fun ht=>?_,fun ht=>?_⟩
  ·have ht:i < x.Kids.length:=by simpa using ht
   have hm:=List.getElem_mem ht
   obtain ⟨o,ho'⟩:∃ o,o=(x.Kids.take i).foldl (fun o y=>gCat o (gof y)) gEmpty:=⟨_,rfl⟩
   have hn:=pre_n (f:=gCat) (fun _ _=>rfl) (z:=gEmpty) rfl ht
   rw [← hg,← ho'] at hn
   have hsucc:=zay (f:=fun o y=>gCat o (gof y)) (b:=gEmpty) ht
   rw [← ho'] at hsucc hp ⊢
   have hoc:Canon o:=by
    rw [ho']
    have:∀ (l:List ze) (z:GA),Canon z→Canon (l.foldl (fun o y=>gCat o (gof y)) z):=by
     intro l
     induction l with
     | nil=>intro z h;exact h
     | cons y r ih2=>intro z h;exact ih2 _ (zbJ h (zaA y))
    exact this _ _ zbn
   have hlen:(F0++flw o F0.length).length=F0.length+o.n:=by rw [List.length_append,zY]
   have hpk:=ih _ hm (hkw _ hm) (hk _ hm) (F0++flw o F0.length) (S++o.sets) ⟨by rw [hlen,List.length_append,hroom.same,hoc.sets],fun f hf=>by
    rcases List.mem_append.1 hf with hf | hf
    ·exact hroom.small f hf
    ·exact zdG _ _ (by omega) f hf,by rw [hlen];omega⟩
   rw [hlen] at hpk
   have hcat:=cat_ok F0 ((S++o.sets)++(gof x.Kids[i]).sets) o (gof x.Kids[i]) hroom.small (by omega) (by omega)
   have hw2:w64 ((i:Int)+1)=((i+1:Nat):Int):=zT (by omega) (by omega)
   rw [z7 ht,hp]
   refine ⟨by omega,by omega,_,_,hpk,_,_,hcat,?_⟩
   rw [hw2]
   exact ⟨⟨i+1,rfl,by omega,by rw [hsucc];simp [gCat],by rw [hsucc],by rw [hsucc]⟩,by dsimp only;omega⟩
  ·have:i=x.Kids.length:=by have:¬ i < x.Kids.length:=by simpa using ht
                            omega
   subst this
   rw [List.take_of_length_le (Nat.le_refl _),← hg] at hp ⊢
   exact ⟨hp.symm,rfl⟩
 ·have h:x.Kind=4:=by simpa using h
  have hg:gof x=x.Kids.foldl (fun o y=>gAlt o (gof y)) gNone:=by rw [zcT];simp [h]
  refine ⟨fun s f a b c t=>∃ i:Nat,t=i∧i≤x.Kids.length∧s=S++((x.Kids.take i).foldl (fun o y=>gAlt o (gof y)) gNone).sets∧f=F0++flw ((x.Kids.take i).foldl (fun o y=>gAlt o (gof y)) gNone) F0.length∧(⟨a,b,c⟩:zi)=pc ((x.Kids.take i).foldl (fun o y=>gAlt o (gof y)) gNone) F0.length,
   fun _ _ _ _ _ t=>(x.Kids.length - t).toNat,⟨0,rfl,by omega,by simp [gNone],by simp [gNone,flw],rfl⟩,?_⟩
  rintro s f a b c t ⟨i,rfl,hi,rfl,rfl,hp⟩
  refine ⟨fun ht=>?_,fun ht=>?_⟩
  ·have ht:i < x.Kids.length:=by simpa using ht
   have hm:=List.getElem_mem ht
   obtain ⟨o,ho'⟩:∃ o,o=(x.Kids.take i).foldl (fun o y=>gAlt o (gof y)) gNone:=⟨_,rfl⟩
   have hn:=pre_n (f:=gAlt) (fun _ _=>rfl) (z:=gNone) rfl ht
   rw [← hg,← ho'] at hn
   have hsucc:=zay (f:=fun o y=>gAlt o (gof y)) (b:=gNone) ht
   rw [← ho'] at hsucc hp ⊢
   have hoc:Canon o:=by
    rw [ho']
    have:∀ (l:List ze) (z:GA),Canon z→Canon (l.foldl (fun o y=>gAlt o (gof y)) z):=by
     intro l
     induction l with
     | nil=>intro z h;exact h
     | cons y r ih2=>intro z h;exact ih2 _ (zhk h (zaA y))
    exact this _ _ zdX
   have hlen:(F0++flw o F0.length).length=F0.length+o.n:=by rw [List.length_append,zY]
   have hpk:=ih _ hm (hkw _ hm) (hk _ hm) (F0++flw o F0.length) (S++o.sets) ⟨by rw [hlen,List.length_append,hroom.same,hoc.sets],fun f hf=>by
    rcases List.mem_append.1 hf with hf | hf
    ·exact hroom.small f hf
    ·exact zdG _ _ (by omega) f hf,by rw [hlen];omega⟩
   rw [hlen] at hpk
   have hw2:w64 ((i:Int)+1)=((i+1:Nat):Int):=zT (by omega) (by omega)
   rw [z7 ht]
   have hpa:a=lst o.n o.first F0.length:=congrArg zi.first hp
   have hpb:b=lst o.n o.last F0.length:=congrArg zi.last hp
   have hpc:c=o.null:=congrArg zi.null hp
   have l1:=zaj o.n o.first F0.length
   have l2:=zaj o.n o.last F0.length
   have l3:=zaj (gof x.Kids[i]).n (gof x.Kids[i]).first (F0.length+o.n)
   have l4:=zaj (gof x.Kids[i]).n (gof x.Kids[i]).last (F0.length+o.n)
   refine ⟨by omega,by omega,_,_,hpk,_,zdC _ _ (by rw [hpa];omega) (by rw [pc_first];omega),_,zdC _ _ (by rw [hpb];omega) (by rw [pc_last];omega),?_⟩
   rw [hw2]
   refine ⟨⟨i+1,rfl,by omega,by rw [hsucc];simp [gAlt],?_,?_⟩,by dsimp only;omega⟩
   ·rw [hsucc,← flw_alt,← List.append_assoc]
   ·rw [hsucc,hpa,hpb,hpc,pc_first,pc_last,pc_null,alt_first,alt_last];rfl
  ·have:i=x.Kids.length:=by have:¬ i < x.Kids.length:=by simpa using ht
                            omega
   subst this
   rw [List.take_of_length_le (Nat.le_refl _),← hg] at hp ⊢
   exact ⟨hp.symm,rfl⟩
 ·have h:x.Kind=5:=by simpa using h
  exact ⟨_,_,rep_ok hr h hw (fun k hkm=>ih k hkm (hkw k hkm) (hk k hkm)) F0 S hroom,rfl,rfl⟩
 ·have h1:x.Kind=1:=by
   simp only [beq_eq_false_iff_ne,ne_eq] at h2 h3 h4 h5
   have:=zeR ho;omega
  have hg:gof x=gEmpty:=by rw [zcT];simp [h1]
  rw [hg]
  exact ⟨rfl,by simp [gEmpty,flw]⟩
def plc (g:GA):za:=⟨g.sets,lst g.n g.first 0,lst g.n g.last 0,flw g 0,g.null⟩
def noPl:za:=⟨[],[],[],[],false⟩
theorem zc4 {x:ze} (h:rightB x=true):Rgt x∧sizeN x≤200:=by
 simp only [rightB,Bool.and_eq_true,decide_eq_true_eq] at h
 refine ⟨⟨20,h.1⟩,?_⟩
 have:=h.2.1
 simp only [sizeZ] at this;omega
theorem placeOf_ok (x:ze) (hw:Wf x):zd0 x (if rightB x=true then plc (gof x) else noPl) (if rightB x=true then 0 else 1):=by
 refine W_place_Of x _ _ ⟨_,zeM x hw,fun h=>?_,fun h=>?_⟩
 ·have h:rightB x=false:=by simpa using h
  rw [h];exact ⟨rfl,rfl⟩
 ·have h:rightB x=true:=by simpa using h
  obtain ⟨hr,hs⟩:=zc4 h
  have hn:=gof_n x hr
  have:=piece_ok x hw hr [] [] ⟨rfl,fun f hf=>by simp at hf,by simp;omega⟩
  refine ⟨_,_,this,?_,?_⟩
  ·rw [if_pos h];simp [plc,pc]
  ·rw [if_pos h]
end Go.Ev.Pl
set_option linter.unusedSimpArgs false
set_option linter.unusedVariables false
namespace Go.Ev.Pl
open Go Go.Ev
theorem zeU (n:Nat) (p:Nat→Bool) (off d:Nat) (h:n+off+d < 1000000):zan (lst n p off) d (lst n p (off+d)):=by
 have hl:=zaj n p off
 have he:lst n p (off+d)=(lst n p off).map (·+(d:Int)):=by
  simp only [lst,List.map_map]
  refine List.map_congr_left fun i _=>?_
  simp only [Function.comp];omega
 rw [he]
 refine zeB _ _ _ ⟨fun o t=>∃ i:Nat,t=i∧i≤(lst n p off).length∧o=((lst n p off).take i).map (·+(d:Int)),fun o t=>((lst n p off).length - t).toNat,⟨0,rfl,by omega,rfl⟩,?_⟩
 rintro o t ⟨i,rfl,hi,rfl⟩
 refine ⟨fun ht=>?_,fun ht=>?_⟩
 ·have ht:i < (lst n p off).length:=by simpa using ht
  have hm:=za4.1 (List.getElem_mem ht)
  obtain ⟨j,hj,_,hv⟩:=hm
  have hw:w64 (gd (lst n p off) (i:Int)+d)=(lst n p off)[i]+d:=by rw [z7 ht];exact zT (by omega) (by omega)
  have hw2:w64 ((i:Int)+1)=((i+1:Nat):Int):=zT (by omega) (by omega)
  rw [hw,hw2]
  refine ⟨by omega,by omega,by simp;omega,⟨i+1,rfl,by omega,?_⟩,by first | omega | (dsimp only;omega)⟩
  rw [List.take_succ_eq_append_getElem ht,List.map_append];rfl
 ·have:i=(lst n p off).length:=by have:¬ i < (lst n p off).length:=by simpa using ht
                                  omega
  subst this
  rw [List.take_of_length_le (Nat.le_refl _)]
theorem zh4:∀ a,addL a []=a
 | []=>by rw [addL]
 | x :: a=>by rw [addL];simp
theorem zhp {a b:List Int} {i k:Nat} (hk:k=b.length) (hi:i < a.length):addL (a.drop i) (b.drop k)=a[i] :: addL (a.drop (i+1)) (b.drop k):=by
 subst hk
 rw [List.drop_length,zh4,zh4,List.drop_eq_getElem_cons hi]
theorem addL_drop_l {a b:List Int} {i k:Nat} (hi:i=a.length) (hk:k < b.length):addL (a.drop i) (b.drop k)=b[k] :: addL (a.drop i) (b.drop (k+1)):=by
 subst hi
 rw [List.drop_length,addL,addL,List.drop_eq_getElem_cons hk]
theorem zhq {a b:List Int} {i k:Nat} (hi:i < a.length) (hk:k < b.length):addL (a.drop i) (b.drop k)=if a[i] < b[k] then a[i] :: addL (a.drop (i+1)) (b.drop k) else if b[k] < a[i] then b[k] :: addL (a.drop i) (b.drop (k+1)) else a[i] :: addL (a.drop (i+1)) (b.drop (k+1)):=by
 conv=>lhs;rw [List.drop_eq_getElem_cons hi,List.drop_eq_getElem_cons hk,addL]
 rw [← List.drop_eq_getElem_cons hi,← List.drop_eq_getElem_cons hk]
theorem zfa (a b:List Int) (ha:a.length < 10000000) (hb:b.length < 10000000):zF a b (addL a b):=by
 refine zfG a b _ ⟨fun o s t=>∃ i k:Nat,s=i∧t=k∧i≤a.length∧k≤b.length∧o.length≤i+k∧o++addL (a.drop i) (b.drop k)=addL a b,fun o s t=>(a.length - s).toNat+(b.length - t).toNat,⟨0,0,rfl,rfl,by omega,by omega,by simp,rfl⟩,?_⟩
 rintro o s t ⟨i,k,rfl,rfl,hi,hk,hol,ho⟩
 have hwi:w64 ((i:Int)+1)=((i+1:Nat):Int):=zT (by omega) (by omega)
 have hwk:w64 ((k:Int)+1)=((k+1:Nat):Int):=zT (by omega) (by omega)
 simp only [List.length_map]
 refine ⟨fun ht=>?_,fun ht=>?_⟩
 ·simp only [Bool.or_eq_true,decide_eq_true_eq] at ht
  have hkb:((k:Int) == (b.length:Int))=decide (k=b.length):=by show decide _=decide _;simp only [decide_eq_decide];omega
  have hib:((i:Int) == (a.length:Int))=decide (i=a.length):=by show decide _=decide _;simp only [decide_eq_decide];omega
  have hia:decide ((i:Int) < (a.length:Int))=decide (i < a.length):=by simp only [decide_eq_decide];omega
  rw [hkb,hib,hia]
  refine ⟨fun h1 h2=>by omega,fun h1 h2=>by have:=of_decide_eq_true h2;omega,fun h1 h2=>by omega,fun h1 h2=>by have:=of_decide_eq_false h1;omega,fun h=>?_,fun h=>⟨fun h1=>by omega,fun h1=>?_,fun h1=>by omega,fun h1=>?_,fun h2=>?_,fun h2=>?_⟩⟩
  ·simp only [Bool.or_eq_true,Bool.and_eq_true,decide_eq_true_eq] at h
   have hil:i < a.length:=by omega
   rw [z7 hil,hwi]
   refine ⟨by omega,by omega,by omega,⟨i+1,k,rfl,rfl,by omega,hk,by simp;omega,?_⟩,by first | omega | (dsimp only;omega)⟩
   rw [← ho,List.append_assoc]
   congr 1
   rcases h with h | ⟨_,h⟩
   ·rw [zhp h hil];rfl
   ·by_cases hkl:k < b.length
    ·rw [z7 hil,z7 hkl] at h
     rw [zhq hil hkl,if_pos h];rfl
    ·rw [zhp (by omega) hil];rfl
  ·simp only [Bool.or_eq_false_iff,decide_eq_false_iff_not] at h;omega
  ·have:=of_decide_eq_false h1;omega
  ·simp only [Bool.or_eq_false_iff,decide_eq_false_iff_not] at h
   have hkl:k < b.length:=by omega
   rw [z7 hkl,hwk]
   refine ⟨by omega,by omega,by omega,⟨i,k+1,rfl,rfl,hi,by omega,by simp;omega,?_⟩,by first | omega | (dsimp only;omega)⟩
   rw [← ho,List.append_assoc]
   congr 1
   simp only [Bool.or_eq_true,decide_eq_true_eq] at h2
   by_cases hia2:i=a.length
   ·rw [addL_drop_l hia2 hkl];rfl
   ·have hil:i < a.length:=by omega
    have h2:b[k] < a[i]:=by
     rcases h2 with h2 | h2
     ·exact absurd h2 hia2
     ·rw [z7 hkl,z7 hil] at h2;exact h2
    rw [zhq hil hkl,if_neg (by omega),if_pos h2];rfl
  ·simp only [Bool.or_eq_false_iff,decide_eq_false_iff_not,Bool.and_eq_false_iff] at h h2
   have hkl:k < b.length:=by omega
   have hil:i < a.length:=by omega
   rw [z7 hkl,z7 hil] at h h2
   rw [z7 hil,hwi,hwk]
   refine ⟨by omega,by omega,by omega,⟨i+1,k+1,rfl,rfl,by omega,by omega,by simp;omega,?_⟩,by first | omega | (dsimp only;omega)⟩
   rw [← ho,List.append_assoc]
   congr 1
   rw [zhq hil hkl,if_neg (by rcases h.2 with h | h<;>omega),if_neg h2.2];rfl
 ·simp only [Bool.or_eq_false_iff,decide_eq_false_iff_not] at ht
  have e1:i=a.length:=by omega
  have e2:k=b.length:=by omega
  rw [← ho,e1,e2,List.drop_length,List.drop_length,addL,List.append_nil]
theorem flw_mem {g:GA} {off i:Nat} (h:i < g.n):gd (flw g off) (i:Int)=lst g.n (g.follow i) off:=by rw [z7 (by rw [zY];exact h),zbO _ _ h]
theorem both_ok (a b:GA) (ha:Canon a) (hb:Canon b) (hn:a.n+b.n < 1000) (nb:Bool) (f l:List Int):zap (plc a) { Sets:=b.sets,First:=f,Last:=l,Follow:=flw b 0,Null:=nb } ⟨a.sets++b.sets,[],[],flw a 0++flw b a.n,false⟩:=by
 have has:=ha.sets
 have hbs:=hb.sets
 refine zfd _ _ _ ⟨by show a.sets.length * 32≤_;omega,by show (a.sets.length+b.sets.length) * 32≤_;omega,fun o t=>∃ i:Nat,t=i∧i≤a.n∧o=(flw a 0).take i,fun o t=>(a.n - t).toNat,⟨0,rfl,by omega,rfl⟩,?_⟩
 rintro o t ⟨i,rfl,hi,rfl⟩
 have hfa:(plc a).Follow=flw a 0:=rfl
 simp only [hfa]
 refine ⟨fun ht=>?_,fun ht=>?_⟩
 ·have ht:i < a.n:=by rw [zY] at ht;simpa using ht
  have hw2:w64 ((i:Int)+1)=((i+1:Nat):Int):=zT (by omega) (by omega)
  have hfl:=zY a 0
  rw [hw2,z7 (by rw [zY];exact ht)]
  refine ⟨by omega,by omega,by simp [zY];omega,⟨i+1,rfl,by omega,?_⟩,by first | omega | (dsimp only;omega)⟩
  rw [List.take_succ_eq_append_getElem (by rw [zY];exact ht)]
 ·have:i=a.n:=by rw [zY] at ht;have:¬ i < a.n:=by simpa using ht
                 omega
  subst this
  rw [List.take_of_length_le (by rw [zY];exact Nat.le_refl _)]
  refine ⟨fun o t=>∃ i:Nat,t=i∧i≤b.n∧o=flw a 0++(flw b a.n).take i,fun o t=>(b.n - t).toNat,⟨0,rfl,by omega,by simp⟩,?_⟩
  rintro o t ⟨i,rfl,hi,rfl⟩
  simp only [zY]
  refine ⟨fun ht=>?_,fun ht=>?_⟩
  ·have ht:i < b.n:=by simpa using ht
   have hw2:w64 ((i:Int)+1)=((i+1:Nat):Int):=zT (by omega) (by omega)
   have hmv:=zeU b.n (b.follow i) 0 a.n (by omega)
   rw [Nat.zero_add] at hmv
   rw [flw_mem ht,hw2]
   have:((plc a).Sets.length:Int)=a.n:=by show (a.sets.length:Int)=_;rw [has]
   rw [this]
   refine ⟨by omega,by omega,_,hmv,by simp [zY];omega,⟨i+1,rfl,by omega,?_⟩,by first | omega | (dsimp only;omega)⟩
   rw [List.take_succ_eq_append_getElem (by rw [zY];exact ht),zbO _ _ ht,List.append_assoc]
  ·have:i=b.n:=by have:¬ i < b.n:=by simpa using ht
                  omega
   subst this
   rw [List.take_of_length_le (by rw [zY];exact Nat.le_refl _)];rfl
theorem leadA_ok {fr to:List Int} {F:List (List Int)} (hfr:SS fr) (hto:SS to) (hF:∀ f∈F,SS f) (hin:∀ x∈fr,0≤x∧x < F.length) (hsm:∀ f∈F,f.length < 1000000) (hts:to.length < 1000000) (hfs:fr.length < 1000000)
 {Q:List (List Int)→Prop} (hQ:Q (leadF F fr to)) :
 ∃ (Inv:List (List Int)→Int→Prop) (mu:List (List Int)→Int→Nat),Inv F 0∧∀ (o:List (List Int)) (i:Int),Inv o i→
   (decide (i < (fr.length:Int))=true→0≤i∧i < (fr.length:Int)∧0≤i∧i < (fr.length:Int)∧0≤gd fr i∧(Int.toNat (gd fr i) < o.length)∧gd fr i < (o.length:Int)∧
     (∃ r,zF (gd o (gd fr i)) to r∧0≤gd fr i∧(Int.toNat (gd fr i) < o.length)∧gd fr i < (o.length:Int)∧(Inv (List.set o (Int.toNat (gd fr i)) r) (w64 (i+1))∧mu (List.set o (Int.toNat (gd fr i)) r) (w64 (i+1)) < mu o i)))∧
   (decide (i < (fr.length:Int))=false→Q o):=by
 refine ⟨fun o t=>∃ i:Nat,t=i∧i≤fr.length∧o=leadF F (fr.take i) to,fun o t=>(fr.length - t).toNat,⟨0,rfl,by omega,by simp [leadF];exact (List.ext_getElem (by simp) (fun j h1 h2=>by simp))⟩,?_⟩
 rintro o t ⟨i,rfl,hi,rfl⟩
 refine ⟨fun ht=>?_,fun ht=>?_⟩
 ·have ht:i < fr.length:=by simpa using ht
  have hg:gd fr (i:Int)=fr[i]:=z7 ht
  rw [hg]
  obtain ⟨q0,q1⟩:=hin _ (List.getElem_mem ht)
  obtain ⟨e,he⟩:∃ e:Nat,fr[i]=e:=⟨fr[i].toNat,by omega⟩
  rw [he] at q1 ⊢
  have he2:e < F.length:=by omega
  have hl:(leadF F (fr.take i) to).length=F.length:=zax _ _ _
  have hnot:¬ ((e:Int)∈fr.take i):=by
   intro hm
   obtain ⟨k,hk,hk2⟩:=List.mem_iff_getElem.1 hm
   simp only [List.length_take] at hk
   rw [List.getElem_take] at hk2
   have:=List.pairwise_iff_getElem.1 hfr k i (by omega) ht (by omega)
   omega
  have hge:gd (leadF F (fr.take i) to) (e:Int)=F[e]:=by
   rw [z7 (by rw [hl];exact he2),zaU _ _ _ he2,if_neg hnot]
  have hw2:w64 ((i:Int)+1)=((i+1:Nat):Int):=zT (by omega) (by omega)
  have hFe:=hF _ (List.getElem_mem he2)
  refine ⟨by omega,by omega,by omega,by omega,by omega,by rw [hl];omega,by rw [hl];omega,addL F[e] to,?_,by omega,by rw [hl];omega,by rw [hl];omega,?_⟩
  ·rw [hge];exact zfa _ _ (by have:=hsm _ (List.getElem_mem he2);omega) (by omega)
  ·rw [hw2,← zdD hFe hto]
   refine ⟨⟨i+1,rfl,by omega,?_⟩,by first | omega | (dsimp only;omega)⟩
   show List.set _ e _=_
   refine set_eq (by rw [zax,zax]) (fun j hj hne=>?_) (fun hj=>?_)
   ·rw [hl] at hj
    rw [zaU _ _ _ hj,zaU _ _ _ hj,List.take_succ_eq_append_getElem ht,he]
    have:((j:Int)∈fr.take i++[(e:Int)])↔(j:Int)∈fr.take i:=by
     rw [List.mem_append,List.mem_singleton]
     constructor
     ·rintro (h | h)
      ·exact h
      ·exact absurd (by omega) hne
     ·exact .inl
    simp only [this]
   ·rw [zaU _ _ _ he2,List.take_succ_eq_append_getElem ht,he,if_pos (by simp)]
 ·have:i=fr.length:=by have:¬ i < fr.length:=by simpa using ht
                       omega
  subst this
  rw [List.take_of_length_le (Nat.le_refl _)];exact hQ
theorem flw_ss (g:GA) (off:Nat):∀ f∈flw g off,SS f:=by
 intro f hf
 simp only [flw,List.mem_map] at hf
 obtain ⟨i,_,rfl⟩:=hf
 exact zbi _ _ _
theorem zdx (a b:GA) (ha:Canon a) (hb:Canon b) (hn:a.n+b.n < 1000):zU (plc a) (plc b) (plc (gCat a b)):=by
 have has:=ha.sets
 have l1:=zaj a.n a.first 0
 have l2:=zaj a.n a.last 0
 have l3:=zaj b.n b.first a.n
 have l4:=zaj b.n b.last a.n
 have m1:=zeU b.n b.first 0 a.n (by omega)
 have m2:=zeU b.n b.last 0 a.n (by omega)
 rw [Nat.zero_add] at m1 m2
 have hsz:((plc a).Sets.length:Int)=a.n:=by show (a.sets.length:Int)=_;rw [has]
 refine zfE _ _ _ ⟨_,both_ok a b ha hb hn b.null _ _,_,by rw [hsz];exact m1,_,by rw [hsz];exact m2,?_⟩
 have hlead:=zgk [] a b
 simp only [List.nil_append,List.length_nil,Nat.zero_add] at hlead
 refine leadA_ok (fr:=lst a.n a.last 0) (to:=lst b.n b.first a.n) (F:=flw a 0++flw b a.n) (zbi _ _ _) (zbi _ _ _) (fun f hf=>?_) (fun x hx=>?_) (fun f hf=>?_) (by omega) (by omega) ?_
 ·rcases List.mem_append.1 hf with hf | hf
  ·exact flw_ss _ _ f hf
  ·exact flw_ss _ _ f hf
 ·obtain ⟨i,hi,_,rfl⟩:=za4.1 hx
  simp only [List.length_append,zY];omega
 ·rcases List.mem_append.1 hf with hf | hf
  ·simp only [flw,List.mem_map] at hf
   obtain ⟨i,_,rfl⟩:=hf
   have:=zaj a.n (a.follow i) 0;omega
  ·simp only [flw,List.mem_map] at hf
   obtain ⟨i,_,rfl⟩:=hf
   have:=zaj b.n (b.follow i) a.n;omega
 ·rw [hlead]
  have c1:=zhi a b 0
  have c2:=ze8 a b 0
  rw [Nat.zero_add] at c1 c2
  refine ⟨fun l=>l=lst (a.n+b.n) (gCat a b).first 0,?_,fun hnn=>⟨_,zfa _ _ (by show (lst _ _ _).length < _;omega) (by omega),?_⟩,fun hnn=>?_⟩
  ·rintro l rfl
   refine ⟨fun l=>l=lst (a.n+b.n) (gCat a b).last 0,?_,fun hnn=>⟨_,zfa _ _ (by show (lst _ _ _).length < _;omega) (by omega),?_⟩,fun hnn=>?_⟩
   ·rintro l rfl;rfl
   ·rw [if_pos (show b.null=true from hnn),zdD (zbi _ _ _) (zbi _ _ _)] at c2;exact c2
   ·rw [if_neg (by show ¬ (b.null=true);have:b.null=false:=hnn;simp [this])] at c2;exact c2
  ·rw [if_pos (show a.null=true from hnn),zdD (zbi _ _ _) (zbi _ _ _)] at c1;exact c1
  ·rw [if_neg (by show ¬ (a.null=true);have:a.null=false:=hnn;simp [this])] at c1;exact c1
theorem refAlt_ok (a b:GA) (ha:Canon a) (hb:Canon b) (hn:a.n+b.n < 1000):zbI (plc a) (plc b) (plc (gAlt a b)):=by
 have has:=ha.sets
 have l1:=zaj a.n a.first 0
 have l2:=zaj a.n a.last 0
 have l3:=zaj b.n b.first a.n
 have l4:=zaj b.n b.last a.n
 have m1:=zeU b.n b.first 0 a.n (by omega)
 have m2:=zeU b.n b.last 0 a.n (by omega)
 rw [Nat.zero_add] at m1 m2
 have hsz:((plc a).Sets.length:Int)=a.n:=by show (a.sets.length:Int)=_;rw [has]
 have c1:=alt_first a b 0
 have c2:=alt_last a b 0
 have c3:=flw_alt a b 0
 rw [Nat.zero_add] at c1 c2 c3
 rw [zdD (zbi _ _ _) (zbi _ _ _)] at c1 c2
 refine zfF _ _ _ ⟨_,both_ok a b ha hb hn b.null _ _,_,by rw [hsz];exact m1,_,zfa _ _ (by show (lst _ _ _).length < _;omega) (by omega),_,by rw [hsz];exact m2,_,zfa _ _ (by show (lst _ _ _).length < _;omega) (by omega),?_⟩
 show plc (gAlt a b)=⟨_,addL (lst a.n a.first 0) (lst b.n b.first a.n),addL (lst a.n a.last 0) (lst b.n b.last a.n),_,_⟩
 rw [c1,c2]
 show _=(⟨a.sets++b.sets,_,_,flw a 0++flw b a.n,a.null || b.null⟩:za)
 rw [c3];rfl
theorem refAgain_ok (a:GA) (ha:Canon a) (hn:a.n < 1000):zbs (plc a) (plc (gAgain a)):=by
 have l1:=zaj a.n a.first 0
 have l2:=zaj a.n a.last 0
 have hb:=both_ok a gNone ha zdX (by show a.n+0 < 1000;omega) false [] []
 have e1:a.sets++gNone.sets=a.sets:=List.append_nil _
 have e2:flw a 0++flw gNone a.n=flw a 0:=List.append_nil _
 rw [e1,e2] at hb
 have hlead:=zhQ [] a
 simp only [List.nil_append,List.length_nil] at hlead
 refine zeE _ _ ⟨_,hb,?_⟩
 refine leadA_ok (fr:=lst a.n a.last 0) (to:=lst a.n a.first 0) (F:=flw a 0) (zbi _ _ _) (zbi _ _ _) (flw_ss _ _) (fun x hx=>?_) (fun f hf=>?_) (by omega) (by omega) ?_
 ·obtain ⟨i,hi,_,rfl⟩:=za4.1 hx
  simp only [zY];omega
 ·simp only [flw,List.mem_map] at hf
  obtain ⟨i,_,rfl⟩:=hf
  have:=zaj a.n (a.follow i) 0;omega
 ·rw [hlead];rfl
theorem zgF (a:GA):zae (plc a) (plc (gMaybe a)):=zeC _ _ rfl
end Go.Ev.Pl
set_option linter.unusedSimpArgs false
set_option linter.unusedVariables false
namespace Go.Ev.Pl
open Go Go.Ev
theorem eta_pl (p:za):(⟨p.Sets,p.First,p.Last,p.Follow,p.Null⟩:za)=p:=rfl
theorem empty_ok:zaL (plc gEmpty):=zeD _ rfl
theorem zhx {a:GA} (h:Canon a) (k:Nat) {z:GA} (hz:Canon z):Canon (iter (gCat a) k z):=zcc (fun b hb=>zbJ h hb) k hz
theorem refOf_ok:∀ x,Wf x→Rgt x→sizeN x≤200→zaC x (plc (gof x)):=by
 refine rxInd fun x ih hw hr hs=>?_
 obtain ⟨hl,hkw⟩:=(zhw x).1 hw
 obtain ⟨ho,hk⟩:=zfq hr
 have hgn:=gof_n x hr
 refine zga x _ ⟨fun h=>?_,fun h2=>⟨fun h=>?_,fun h3=>⟨fun h=>?_,fun h4=>⟨fun h=>?_,fun h5=>?_⟩⟩⟩⟩
 ·have h:x.Kind=2:=by simpa using h
  have hg:gof x=gByte x.Set:=by rw [zcT,if_pos h]
  rw [hg];rfl
 ·have h:x.Kind=3:=by simpa using h
  have hg:gof x=x.Kids.foldl (fun o y=>gCat o (gof y)) gEmpty:=by rw [zcT];simp [h]
  refine ⟨_,empty_ok,fun s f a b c t=>∃ i:Nat,t=i∧i≤x.Kids.length∧(⟨s,f,a,b,c⟩:za)=plc ((x.Kids.take i).foldl (fun o y=>gCat o (gof y)) gEmpty),
   fun _ _ _ _ _ t=>(x.Kids.length - t).toNat,⟨0,rfl,by omega,rfl⟩,?_⟩
  rintro s f a b c t ⟨i,rfl,hi,hp⟩
  refine ⟨fun ht=>?_,fun ht=>?_⟩
  ·have ht:i < x.Kids.length:=by simpa using ht
   have hm:=List.getElem_mem ht
   obtain ⟨o,ho'⟩:∃ o,o=(x.Kids.take i).foldl (fun o y=>gCat o (gof y)) gEmpty:=⟨_,rfl⟩
   have hn:=pre_n (f:=gCat) (fun _ _=>rfl) (z:=gEmpty) rfl ht
   rw [← hg,← ho'] at hn
   have hsucc:=zay (f:=fun o y=>gCat o (gof y)) (b:=gEmpty) ht
   rw [← ho'] at hsucc hp
   have hoc:Canon o:=by
    rw [ho']
    have:∀ (l:List ze) (z:GA),Canon z→Canon (l.foldl (fun o y=>gCat o (gof y)) z):=by
     intro l
     induction l with
     | nil=>intro z h;exact h
     | cons y r ih2=>intro z h;exact ih2 _ (zbJ h (zaA y))
    exact this _ _ zbn
   have hkn:=gof_n _ (hk _ hm)
   have hw2:w64 ((i:Int)+1)=((i+1:Nat):Int):=zT (by omega) (by omega)
   rw [z7 ht,hp]
   refine ⟨by omega,by omega,_,ih _ hm (hkw _ hm) (hk _ hm) (by omega),_,zdx o (gof x.Kids[i]) hoc (zaA _) (by omega),?_⟩
   rw [hw2]
   exact ⟨⟨i+1,rfl,by omega,by rw [hsucc]⟩,by first | omega | (dsimp only;omega)⟩
  ·have:i=x.Kids.length:=by have:¬ i < x.Kids.length:=by simpa using ht
                            omega
   subst this
   rw [List.take_of_length_le (Nat.le_refl _),← hg] at hp
   exact hp.symm
 ·have h:x.Kind=4:=by simpa using h
  have hg:gof x=x.Kids.foldl (fun o y=>gAlt o (gof y)) gNone:=by rw [zcT];simp [h]
  have h2k:=own_kids ho (.inr h)
  have hm0:x.Kids[0]'(by omega)∈x.Kids:=List.getElem_mem _
  have hg0:List.getD x.Kids 0 default=x.Kids[0]'(by omega):=by simp [List.getD,show 0 < x.Kids.length by omega]
  have hn0:=pre_n (f:=gAlt) (fun _ _=>rfl) (z:=gNone) rfl (l:=x.Kids) (i:=0) (by omega)
  rw [← hg] at hn0
  have hkn0:=gof_n _ (hk _ hm0)
  refine ⟨by omega,_,by rw [hg0];exact ih _ hm0 (hkw _ hm0) (hk _ hm0) (by omega),fun s f a b c t=>∃ i:Nat,t=i∧1≤i∧i≤x.Kids.length∧(⟨s,f,a,b,c⟩:za)=plc ((x.Kids.take i).foldl (fun o y=>gAlt o (gof y)) gNone),
   fun _ _ _ _ _ t=>(x.Kids.length - t).toNat,⟨1,rfl,by omega,by omega,?_⟩,?_⟩
  ·rw [eta_pl,zay (by omega)]
   show _=plc (gAlt gNone _)
   rw [alt_none_l]
  rintro s f a b c t ⟨i,rfl,hi1,hi,hp⟩
  refine ⟨fun ht=>?_,fun ht=>?_⟩
  ·have ht:i < x.Kids.length:=by simpa using ht
   have hm:=List.getElem_mem ht
   obtain ⟨o,ho'⟩:∃ o,o=(x.Kids.take i).foldl (fun o y=>gAlt o (gof y)) gNone:=⟨_,rfl⟩
   have hn:=pre_n (f:=gAlt) (fun _ _=>rfl) (z:=gNone) rfl ht
   rw [← hg,← ho'] at hn
   have hsucc:=zay (f:=fun o y=>gAlt o (gof y)) (b:=gNone) ht
   rw [← ho'] at hsucc hp
   have hoc:Canon o:=by
    rw [ho']
    have:∀ (l:List ze) (z:GA),Canon z→Canon (l.foldl (fun o y=>gAlt o (gof y)) z):=by
     intro l
     induction l with
     | nil=>intro z h;exact h
     | cons y r ih2=>intro z h;exact ih2 _ (zhk h (zaA y))
    exact this _ _ zdX
   have hkn:=gof_n _ (hk _ hm)
   have hw2:w64 ((i:Int)+1)=((i+1:Nat):Int):=zT (by omega) (by omega)
   rw [z7 ht,hp]
   refine ⟨by omega,by omega,_,ih _ hm (hkw _ hm) (hk _ hm) (by omega),_,refAlt_ok o (gof x.Kids[i]) hoc (zaA _) (by omega),?_⟩
   rw [hw2]
   exact ⟨⟨i+1,rfl,by omega,by omega,by rw [hsucc]⟩,by first | omega | (dsimp only;omega)⟩
  ·have:i=x.Kids.length:=by have:¬ i < x.Kids.length:=by simpa using ht
                            omega
   subst this
   rw [List.take_of_length_le (Nat.le_refl _),← hg] at hp
   exact hp.symm
 ·have h:x.Kind=5:=by simpa using h
  obtain ⟨⟨k,hq⟩,h1,h2',h3'⟩:=zgG ho h
  have hkm:k∈x.Kids:=by rw [hq];simp
  have hgof:gof x=gRep (gof k) x.Lo x.Hi:=by rw [zcT,h,hq];simp
  have hn:(gof x).n=(max 1 (max x.Lo x.Hi)).toNat * (gof k).n:=by rw [hgof,rep_n _ h1 (by omega)]
  have hkn:=gof_n k (hk k hkm)
  have hkle:(gof k).n≤(gof x).n:=by
   rw [hn];exact Nat.le_mul_of_pos_left _ (by omega)
  have hkc:=zaA k
  have hkd:List.getD x.Kids 0 default=k:=by rw [hq];rfl
  rw [hkd]
  have hbound:∀ j:Nat,j≤(max 1 (max x.Lo x.Hi)).toNat→j * (gof k).n≤200:=fun j hj=>by
   have:=Nat.mul_le_mul_right (gof k).n hj
   omega
  refine ⟨by rw [hq];simp,_,ih k hkm (hkw k hkm) (hk k hkm) (by omega),_,empty_ok,fun hneg=>?_,fun hpos=>?_⟩
  ·have hneg:x.Hi < 0:=of_decide_eq_true hneg
   have hmx:max 1 (max x.Lo x.Hi)=max x.Lo 1:=by omega
   refine ⟨fun s f a b c t=>∃ i:Nat,t=i+1∧(i:Int)≤max x.Lo 1 - 1∧(⟨s,f,a,b,c⟩:za)=plc (leftp (gof k) i),fun _ _ _ _ _ t=>(x.Lo - t).toNat,⟨0,rfl,by omega,rfl⟩,?_⟩
   rintro s f a b c t ⟨i,rfl,hi,hp⟩
   have hln:(leftp (gof k) i).n=i * (gof k).n:=by
    have:=zgS (f:=fun o=>gCat o (gof k)) (a:=gof k) (fun o=>by show o.n+(gof k).n=_;omega) i gEmpty
    rw [show leftp (gof k) i=iter (fun o=>gCat o (gof k)) i gEmpty from rfl,this];rfl
   have hlc:Canon (leftp (gof k) i):=zcc (fun b hb=>zbJ hb hkc) i zbn
   have hb1:=hbound (i+1) (by omega)
   rw [Nat.succ_mul] at hb1
   refine ⟨fun ht=>?_,fun ht=>?_⟩
   ·have ht:(i:Int)+1 < x.Lo:=of_decide_eq_true ht
    have hw2:w64 ((i:Int)+1+1)=((i+1:Nat):Int)+1:=(zT (by omega) (by omega)).trans (by omega)
    rw [hp]
    refine ⟨_,zdx _ _ hlc hkc (by omega),?_⟩
    rw [hw2]
    exact ⟨⟨i+1,rfl,by omega,rfl⟩,by first | omega | (dsimp only;omega)⟩
   ·have ht:¬ (i:Int)+1 < x.Lo:=of_decide_eq_false ht
    have hii:i=(max x.Lo 1 - 1).toNat:=by omega
    have hfin:∀ z:GA,z=(if x.Lo=0 then gMaybe (gAgain (gof k)) else gAgain (gof k))→gCat (leftp (gof k) i) z=gof x:=by
     rintro z rfl
     rw [leftp_cat,hgof]
     unfold gRep
     rw [if_pos hneg,hii]
    refine ⟨_,refAgain_ok (gof k) hkc (by omega),fun s f a b c=>∃ z:GA,Canon z∧z.n=(gof k).n∧z=(if x.Lo=0 then gMaybe (gAgain (gof k)) else gAgain (gof k))∧(⟨s,f,a,b,c⟩:za)=plc z,?_,fun h0=>?_,fun h0=>?_⟩
    ·rintro s f a b c ⟨z,hzc,hzn,hz,hpz⟩
     rw [hp,hpz]
     exact ⟨_,zdx _ _ hlc hzc (by omega),by rw [hfin z hz]⟩
    ·have h0:x.Lo=0:=by simpa using h0
     exact ⟨_,zgF _,gMaybe (gAgain (gof k)),zcE (zcd hkc),rfl,by rw [if_pos h0],rfl⟩
    ·have h0:x.Lo≠0:=by simpa using h0
     exact ⟨gAgain (gof k),zcd hkc,rfl,by rw [if_neg h0],rfl⟩
  ·have hpos:¬ x.Hi < 0:=of_decide_eq_false hpos
   have hmx:max 1 (max x.Lo x.Hi)=x.Hi:=by omega
   refine ⟨fun s f a b c t=>∃ i:Nat,t=x.Lo+i∧x.Lo+i≤x.Hi∧(⟨s,f,a,b,c⟩:za)=plc (iter (fun o=>gMaybe (gCat (gof k) o)) i gEmpty),fun _ _ _ _ _ t=>(x.Hi - t).toNat,⟨0,by simp,by omega,rfl⟩,?_⟩
   rintro s f a b c t ⟨i,rfl,hi,hp⟩
   have hin:=zgS (f:=fun o=>gMaybe (gCat (gof k) o)) (a:=gof k) (fun _=>rfl) i gEmpty
   have hin:(iter (fun o=>gMaybe (gCat (gof k) o)) i gEmpty).n=i * (gof k).n:=hin
   have hic:Canon (iter (fun o=>gMaybe (gCat (gof k) o)) i gEmpty):=zcc (fun b hb=>zcE (zbJ hkc hb)) i zbn
   refine ⟨fun ht=>?_,fun ht=>?_⟩
   ·have ht:x.Lo+i < x.Hi:=of_decide_eq_true ht
    have hb1:=hbound (i+1) (by omega)
    rw [Nat.succ_mul] at hb1
    have hw2:w64 (x.Lo+(i:Int)+1)=x.Lo+((i+1:Nat):Int):=(zT (by omega) (by omega)).trans (by omega)
    rw [hp]
    refine ⟨_,zdx _ _ hkc hic (by omega),_,zgF _,?_⟩
    rw [hw2]
    exact ⟨⟨i+1,rfl,by omega,rfl⟩,by first | omega | (dsimp only;omega)⟩
   ·have ht:¬ x.Lo+i < x.Hi:=of_decide_eq_false ht
    have hii:i=(x.Hi - x.Lo).toNat:=by omega
    refine ⟨fun s f a b c t=>∃ j:Nat,t=j∧(j:Int)≤x.Lo∧(⟨s,f,a,b,c⟩:za)=plc (iter (gCat (gof k)) j (iter (fun o=>gMaybe (gCat (gof k) o)) i gEmpty)),fun _ _ _ _ _ t=>(x.Lo - t).toNat,⟨0,rfl,by omega,hp⟩,?_⟩
    rintro s f a b c t ⟨j,rfl,hj,hp⟩
    have hjn:=zgS (f:=gCat (gof k)) (a:=gof k) (fun _=>rfl) j (iter (fun o=>gMaybe (gCat (gof k) o)) i gEmpty)
    rw [hin,← Nat.add_mul] at hjn
    have hjc:=zhx hkc j hic
    refine ⟨fun ht=>?_,fun ht=>?_⟩
    ·have ht:(j:Int) < x.Lo:=of_decide_eq_true ht
     have hb1:=hbound (j+i+1) (by omega)
     rw [Nat.succ_mul] at hb1
     have hw2:w64 ((j:Int)+1)=((j+1:Nat):Int):=zT (by omega) (by omega)
     rw [hp]
     refine ⟨_,zdx _ _ hkc hjc (by omega),?_⟩
     rw [hw2]
     exact ⟨⟨j+1,rfl,by omega,rfl⟩,by first | omega | (dsimp only;omega)⟩
    ·have ht:¬ (j:Int) < x.Lo:=of_decide_eq_false ht
     rw [hp,hgof]
     unfold gRep
     rw [if_neg hpos,← hii,show j=x.Lo.toNat by omega]
 ·have h1:x.Kind=1:=by
   simp only [beq_eq_false_iff_ne,ne_eq] at h2 h3 h4 h5
   have:=zeR ho;omega
  have hg:gof x=gEmpty:=by rw [zcT];simp [h1]
  rw [hg]
  exact ⟨_,empty_ok,rfl⟩
theorem zgE (x:ze) (hw:Wf x):zbv x (if rightB x=true then plc (gof x) else noPl) (if rightB x=true then 0 else 1):=by
 refine zgb x _ _ ⟨_,zea x hw,fun h=>?_,fun h=>?_⟩
 ·have h:rightB x=false:=by simpa using h
  rw [h];exact ⟨rfl,rfl⟩
 ·have h:rightB x=true:=by simpa using h
  obtain ⟨hr,hs⟩:=zc4 h
  exact ⟨_,refOf_ok x hw hr hs,by rw [if_pos h],by rw [if_pos h]⟩
end Go.Ev.Pl
set_option linter.unusedSimpArgs false
set_option linter.unusedVariables false
namespace Go.Ev.Pl
open Go Go.Ev
end Go.Ev.Pl
set_option linter.unusedSimpArgs false
set_option linter.unusedVariables false
namespace Go.Ev.Pl
open Go Go.Ev
end Go.Ev.Pl
set_option linter.unusedSimpArgs false
set_option linter.unusedVariables false
namespace Go.Ev.Pl
open Go Go.Ev
section
variable (N : Nat) (B : Nat → Int)
def hdS (sets:List zb) (p i:Nat):Prop:=i < N∧∃ s,sets[p]?=some s∧setHas s (B i)=true
inductive Pth (sets:List zb) (last:Nat→Bool) (fo:Nat→Nat→Bool):Nat→Nat→Nat→Prop where
 | last {p i:Nat} (h:hdS N B sets p i) (hl:last p=true):Pth sets last fo p i (i+1)
 | step {p q i j:Nat} (h:hdS N B sets p i) (hf:fo p q=true) (hp:Pth sets last fo q (i+1) j):Pth sets last fo p i j
def one (g:GA) (i j:Nat):Prop:=∃ p,g.first p=true∧Pth N B g.sets g.last g.follow p i j
variable {N B}
variable {a b : GA}
end
end Go.Ev.Pl
set_option linter.unusedSimpArgs false
set_option linter.unusedVariables false
namespace Go.Ev.Pl
open Go Go.Ev
end Go.Ev.Pl
set_option linter.unusedSimpArgs false
set_option linter.unusedVariables false
namespace Go.Ev.Pl
open Go Go.Ev
def clo (k:ze):Bool:=k.Kind == 5 && (decide (k.Hi < 0) && decide (k.Lo≤1))
end Go.Ev.Pl
set_option linter.unusedSimpArgs false
set_option linter.unusedVariables false
namespace Go.Ev.Pl
open Go Go.Ev
end Go.Ev.Pl
set_option linter.unusedSimpArgs false
set_option linter.unusedVariables false
namespace Go.Ev.Pl
open Go Go.Ev
section
variable {N : Nat} {B : Nat → Int}
end
end Go.Ev.Pl
set_option linter.unusedSimpArgs false
set_option linter.unusedVariables false
namespace Go.Ev.Pl
open Go Go.Ev
theorem index_ok (l:List Int) (v:Int) (hl:l.length < 1000000):∃ r,zaZ l v r∧(r≥0↔v∈l):=by
 by_cases hv:v∈l
 ·obtain ⟨n,hn,hnv,hmin⟩:∃ n,n < l.length∧l[n]?=some v∧∀ m,m < n→l[m]?≠some v:=by
   have hex:∃ n,l[n]?=some v:=List.mem_iff_getElem?.1 hv
   induction l with
   | nil=>simp at hv
   | cons x l ih=>
     by_cases hx:x=v
     ·exact ⟨0,by simp,by simp [hx],fun m hm=>by omega⟩
     ·have hv':v∈l:=by
       rcases List.mem_cons.1 hv with e | e
       ·exact absurd e.symm hx
       ·exact e
      obtain ⟨n,h1,h2,h3⟩:=ih (by simp at hl;omega) hv' (List.mem_iff_getElem?.1 hv')
      refine ⟨n+1,by simp;omega,by simpa using h2,fun m hm=>?_⟩
      cases m with
      | zero=>simp [hx]
      | succ m=>simpa using h3 m (by omega)
  refine ⟨n,?_,⟨fun _=>hv,fun _=>by omega⟩⟩
  refine zb4 l v _ ⟨fun t=>∃ i:Nat,t=i∧i≤n,fun t=>(l.length - t).toNat,⟨0,rfl,by omega⟩,?_⟩
  rintro t ⟨i,rfl,hi⟩
  have hw2:w64 ((i:Int)+1)=((i+1:Nat):Int):=zT (by omega) (by omega)
  have hil:i < l.length:=by omega
  refine ⟨fun ht=>⟨by omega,by omega,fun he=>?_,fun he=>?_⟩,fun ht=>?_⟩
  ·rw [z7 hil,beq_iff_eq] at he
   by_cases hin:i=n
   ·subst hin;rfl
   ·exact absurd (by rw [List.getElem?_eq_getElem hil,he]) (hmin i (by omega))
  ·rw [z7 hil,beq_eq_false_iff_ne] at he
   have hin:i≠n:=fun e=>by
    subst e
    rw [List.getElem?_eq_getElem hil] at hnv
    exact he (Option.some.inj hnv).symm
   rw [hw2]
   exact ⟨⟨i+1,rfl,by omega⟩,by first | omega | (dsimp only;omega)⟩
  ·have:=of_decide_eq_false ht;omega
 ·refine ⟨-1,?_,⟨fun h=>by omega,fun h=>absurd h hv⟩⟩
  refine zb4 l v _ ⟨fun t=>∃ i:Nat,t=i∧i≤l.length,fun t=>(l.length - t).toNat,⟨0,rfl,by omega⟩,?_⟩
  rintro t ⟨i,rfl,hi⟩
  refine ⟨fun ht=>?_,fun ht=>rfl⟩
  have hil:i < l.length:=by have:=of_decide_eq_true ht;omega
  have hw2:w64 ((i:Int)+1)=((i+1:Nat):Int):=zT (by omega) (by omega)
  refine ⟨by omega,by omega,fun he=>?_,fun he=>?_⟩
  ·rw [z7 hil,beq_iff_eq] at he
   exact absurd (he▸List.getElem_mem hil) hv
  ·rw [hw2]
   exact ⟨⟨i+1,rfl,by omega⟩,by first | omega | (dsimp only;omega)⟩
theorem contains_ok (l:List Int) (v:Int) (hl:l.length < 1000000) (b:Bool) (hb:b=true↔v∈l):zaE l v b:=by
 obtain ⟨r,h1,h2⟩:=index_ok l v hl
 refine zcH l v _ ⟨r,h1,?_⟩
 rw [Bool.eq_iff_iff,hb,decide_eq_true_eq,h2]
end Go.Ev.Pl
set_option linter.unusedSimpArgs false
set_option linter.unusedVariables false
namespace Go.Ev
open Go Go.Proofs
end Go.Ev
set_option linter.unusedSimpArgs false
set_option linter.unusedVariables false
namespace Go.Ev.Pl
open Go Go.Ev
end Go.Ev.Pl
set_option linter.unusedSimpArgs false
set_option linter.unusedVariables false
namespace Go.Ev.Pl
open Go Go.Ev
def ixF {α:Type} (p:α→Bool):List α→Int→Int
 | [],_=>-1
 | x :: r,i=>if p x=true then i else ixF p r (i+1)
theorem ixF_any {α:Type} (p:α→Bool):∀ (l:List α) (i:Int),0≤i→decide (ixF p l i≥0)=l.any p
 | [],i,h=>by simp [ixF]
 | x :: r,i,h=>by
   unfold ixF
   cases hp:p x with
   | true=>simp [hp,h]
   | false=>simp [hp];have:=ixF_any p r (i+1) (by omega);simpa using this
theorem zb8 {i n:Nat}:decide ((i:Int) < (n:Int))=decide (i < n):=by simp only [decide_eq_decide];omega
theorem ix_walk {α:Type} [Inhabited α] (p:α→Bool) (l:List α) (hl:l.length < 1099511627776) (res:Int) (hres:res=ixF p l 0) :
 ∃ (Inv:Int→Prop) (mu:Int→Nat),Inv 0∧∀ t:Int,Inv t→(decide (t < (l.length:Int))=true→0≤t∧t < (l.length:Int)∧(p (gd l t)=true→res=t)∧(p (gd l t)=false→Inv (w64 (t+1))∧mu (w64 (t+1)) < mu t))∧(decide (t < (l.length:Int))=false→res = -1):=by
 refine ⟨fun t=>∃ i:Nat,t=i∧i≤l.length∧ixF p (l.drop i) i=res,fun t=>(l.length - t).toNat,⟨0,rfl,by omega,by rw [hres];rfl⟩,?_⟩
 rintro t ⟨i,rfl,hi,he⟩
 rw [zb8]
 refine ⟨fun ht=>?_,fun ht=>?_⟩
 ·have ht:=of_decide_eq_true ht
  rw [List.drop_eq_getElem_cons ht,ixF] at he
  rw [z7 ht,show w64 ((i:Int)+1)=((i+1:Nat):Int) from zT (by omega) (by omega)]
  refine ⟨by omega,by omega,fun h=>?_,fun h=>?_⟩
  ·rw [if_pos h] at he;exact he.symm
  ·rw [if_neg (by rw [h];simp)] at he
   exact ⟨⟨i+1,rfl,by omega,by rw [← he];rfl⟩,by first | omega | (dsimp only;omega)⟩
 ·have ht:=of_decide_eq_false ht
  rw [List.drop_of_length_le (by omega)] at he
  exact he.symm
def risesB (m:Int):Int→List Int→Bool
 | _,[]=>true
 | last,x :: r=>if (decide (x≤last) || decide (x≥m))=true then false else risesB m x r
theorem places_ok (l:List Int) (m:Int) (hl:l.length≤9223372036854775807):zcv l m (risesB m (-1) l):=by
 refine W_auto_places l m _ ⟨fun s t=>∃ i:Nat,t=i∧i≤l.length∧risesB m s (l.drop i)=risesB m (-1) l,fun s t=>(l.length - t).toNat,⟨0,rfl,by omega,rfl⟩,?_⟩
 rintro s t ⟨i,rfl,hi,he⟩
 rw [zb8]
 refine ⟨fun ht=>?_,fun ht=>?_⟩
 ·have ht:=of_decide_eq_true ht
  rw [List.drop_eq_getElem_cons ht,risesB] at he
  rw [z7 ht,show w64 ((i:Int)+1)=((i+1:Nat):Int) from zT (by omega) (by omega)]
  refine ⟨by omega,by omega,fun h=>?_,fun h=>?_⟩
  ·rw [if_pos h] at he;exact he.symm
  ·rw [if_neg (by rw [h];simp)] at he
   exact ⟨⟨i+1,rfl,by omega,he⟩,by first | omega | (dsimp only;omega)⟩
 ·have ht:=of_decide_eq_false ht
  rw [List.drop_of_length_le (by omega)] at he
  exact he.symm
def oddB (i:Int):Bool:=decide (i < 0) || decide (i≥40)
def zeroB (s:zb):Bool:=(0:Int) == s.e0 && ((0:Int) == s.e1 && ((0:Int) == s.e2 && ((0:Int) == s.e3 && true)))
def lensB (a:zl):Bool:=decide ((a.Sets.length:Int) > 600) || ((a.Owner.length:Int) != (a.Sets.length:Int) || ((a.Follow.length:Int) != (a.Sets.length:Int) || ((a.Ends.length:Int) != (a.Sets.length:Int) || decide ((a.Starts.length:Int) > 16))))
def rightA (a:zl):Bool:=if lensB a=true then false else if a.Owner.any oddB=true then false else if a.Sets.any zeroB=true then false else (a.Follow++a.Starts).all (risesB a.Sets.length (-1))
theorem odd_ok (l:List Int) (hl:l.length < 1099511627776):zS l (l.any oddB):=by
 obtain ⟨Inv,mu,h0,hs⟩:=ix_walk oddB l hl _ rfl
 rw [← ixF_any oddB l 0 (by omega)]
 exact zbe l _ ⟨_,zbh l _ ⟨Inv,mu,h0,fun t ht=>⟨fun h=>let ⟨a,b,c,d⟩:=(hs t ht).1 h;⟨a,b,_,zht _ _ rfl,c,d⟩,(hs t ht).2⟩⟩,rfl⟩
theorem zero_ok (l:List zb) (hl:l.length < 1099511627776):zai l { e0:=0,e1:=0,e2:=0,e3:=0 } (l.any zeroB):=by
 obtain ⟨Inv,mu,h0,hs⟩:=ix_walk zeroB l hl _ rfl
 rw [← ixF_any zeroB l 0 (by omega)]
 exact zbV l _ _ ⟨_,zce l _ _ ⟨Inv,mu,h0,fun t ht=>⟨fun h=>(hs t ht).1 h,(hs t ht).2⟩⟩,rfl⟩
theorem lens_of {a:zl} (h:lensB a=false):a.Sets.length≤600∧a.Owner.length=a.Sets.length∧a.Follow.length=a.Sets.length∧a.Ends.length=a.Sets.length∧a.Starts.length≤16:=by
 simp only [lensB,Bool.or_eq_false_iff,decide_eq_false_iff_not,bne_eq_false_iff_eq] at h
 omega
def Small (a:zl):Prop:=∀ l∈a.Follow++a.Starts,l.length≤9223372036854775807
theorem right_ok (a:zl) (hsm:Small a):zdO a (rightA a):=by
 refine W_auto_Right a _ ?_
 simp only [List.length_map]
 refine ⟨fun h=>by unfold rightA;rw [if_pos (show lensB a=true from h)],fun h=>?_⟩
 have hlens:=h
 obtain ⟨l1,l2,l3,l4,l5⟩:=lens_of (a:=a) h
 refine ⟨_,odd_ok a.Owner (by omega),fun h1=>by unfold rightA;rw [if_neg (by rw [show lensB a=false from h];simp),if_pos h1],fun h1=>⟨_,zero_ok a.Sets (by omega),fun h2=>by unfold rightA;rw [if_neg (by rw [show lensB a=false from h];simp),if_neg (by rw [h1];simp),if_pos h2],fun h2=>⟨auto_lists_ok a,⟨by omega,by omega⟩,?_⟩⟩⟩
 have hr:rightA a=(a.Follow++a.Starts).all (risesB a.Sets.length (-1)):=by
  unfold rightA;rw [if_neg (by rw [show lensB a=false from h];simp),if_neg (by rw [h1];simp),if_neg (by rw [h2];simp)]
 refine ⟨fun i=>((a.Follow++a.Starts).take i).all (risesB a.Sets.length (-1))=true,rightA a=false,by simp,fun i y hi hy hI=>?_,fun hI=>?_,fun hS=>hS⟩
 ·have hlen:i < (a.Follow++a.Starts).length:=by rw [List.length_append];exact hi
  have hy':y=(a.Follow++a.Starts)[i]:=by rw [hy,List.getD_eq_getElem?_getD,List.getElem?_eq_getElem hlen];rfl
  refine ⟨_,places_ok y _ (by rw [hy'];exact hsm _ (List.getElem_mem hlen)),fun hb=>?_,fun hb=>?_⟩
  ·rw [hr,List.all_eq_false]
   refine ⟨y,by rw [hy'];exact List.getElem_mem hlen,?_⟩
   simpa using hb
  ·show ((a.Follow++a.Starts).take (i+1)).all _=true
   have hI:((a.Follow++a.Starts).take i).all (risesB a.Sets.length (-1))=true:=hI
   rw [List.take_succ_eq_append_getElem hlen,List.all_append,hI]
   rw [hy'] at hb
   simpa using hb
 ·rw [hr,List.take_of_length_le (by rw [List.length_append];omega)] at *;exact hI
end Go.Ev.Pl
set_option linter.unusedSimpArgs false
set_option linter.unusedVariables false
namespace Go.Ev.Pl
open Go Go.Ev
theorem zhr (n:Nat) (p:Nat→Bool) (off d:Nat) (h:n+off+d < 1000000):zbT (lst n p off) d (lst n p (off+d)):=by
 have hl:=zaj n p off
 have he:lst n p (off+d)=(lst n p off).map (·+(d:Int)):=by
  simp only [lst,List.map_map]
  refine List.map_congr_left fun i _=>?_
  simp only [Function.comp];omega
 rw [he]
 refine W_auto_moved _ _ _ ⟨fun o t=>∃ i:Nat,t=i∧i≤(lst n p off).length∧o=((lst n p off).take i).map (·+(d:Int)),fun o t=>((lst n p off).length - t).toNat,⟨0,rfl,by omega,rfl⟩,?_⟩
 rintro o t ⟨i,rfl,hi,rfl⟩
 refine ⟨fun ht=>?_,fun ht=>?_⟩
 ·have ht:i < (lst n p off).length:=by simpa using ht
  have hm:=za4.1 (List.getElem_mem ht)
  obtain ⟨j,hj,_,hv⟩:=hm
  have hw:w64 (gd (lst n p off) (i:Int)+d)=(lst n p off)[i]+d:=by rw [z7 ht];exact zT (by omega) (by omega)
  have hw2:w64 ((i:Int)+1)=((i+1:Nat):Int):=zT (by omega) (by omega)
  rw [hw,hw2]
  refine ⟨by omega,by omega,by simp;omega,⟨i+1,rfl,by omega,?_⟩,by first | omega | (dsimp only;omega)⟩
  rw [List.take_succ_eq_append_getElem ht,List.map_append];rfl
 ·have:i=(lst n p off).length:=by have:¬ i < (lst n p off).length:=by simpa using ht
                                  omega
  subst this
  rw [List.take_of_length_le (Nat.le_refl _)]
structure Bd (a:zl) (m:Nat):Prop where
 own:a.Owner.length=a.Sets.length
 fol:a.Follow.length=a.Sets.length
 ends:a.Ends.length=a.Sets.length
 small:∀ f∈a.Follow,f.length < 10000
 room:a.Sets.length≤m
def putM (g:GA) (rule:Int) (a:zl):zl:=
 { Sets:=a.Sets++g.sets,Owner:=a.Owner++List.replicate g.n rule,Follow:=a.Follow++flw g a.Sets.length,Ends:=a.Ends++List.replicate g.n false,Starts:=a.Starts }
theorem zdU (g:GA) (off:Nat) {f:List Int} (hf:f∈flw g off):f.length≤g.n:=by
 simp only [flw,List.mem_map,List.mem_range] at hf
 obtain ⟨i,_,rfl⟩:=hf
 exact zaj g.n (g.follow i) off
theorem Bd.put {a:zl} {m:Nat} (h:Bd a m) {g:GA} (hc:Canon g) (hg:g.n < 10000) (rule:Int):Bd (putM g rule a) (m+g.n):=
 ⟨by simp [putM,h.own,hc.sets],by simp [putM,h.fol,zY,hc.sets],by simp [putM,h.ends,hc.sets],fun f hf=>by
   rcases List.mem_append.1 hf with hf | hf
   ·exact h.small f hf
   ·have:=zdU g _ hf;omega,by simp only [putM,List.length_append,hc.sets];have:=h.room;omega⟩
theorem put_ok (x:ze) (hw:Wf x) (hr:rightB x=true) (rule:Int) (a:zl) (hb:Bd a 100000) (hn:(gof x).n < 10000) :
 zbc x rule ⟨a⟩ (lst (gof x).n (gof x).first a.Sets.length) (lst (gof x).n (gof x).last a.Sets.length) (gof x).null ⟨putM (gof x) rule a⟩:=by
 have hp:=placeOf_ok x hw
 rw [hr] at hp
 simp only [if_true] at hp
 have hc:=zaA x
 have h1:=hb.own;have h2:=hb.fol;have h3:=hb.ends;have h4:=hb.room
 refine zfi x rule ⟨a⟩ _ _ _ _ ⟨_,_,hp,by simp only [plc,hc.sets];omega,fun O F E t=>∃ i:Nat,t=i∧i≤(gof x).n∧O=a.Owner++List.replicate i rule∧F=a.Follow++(flw (gof x) a.Sets.length).take i∧E=a.Ends++List.replicate i false,
  fun O F E t=>((gof x).n - t).toNat,⟨0,rfl,by omega,by simp,by simp,by simp⟩,?_⟩
 rintro O F E t ⟨i,rfl,hi,rfl,rfl,rfl⟩
 have hlen:(plc (gof x)).Follow.length=(gof x).n:=zY _ _
 rw [hlen]
 refine ⟨fun ht=>?_,fun ht=>?_⟩
 ·have ht:i < (gof x).n:=by simpa using ht
  have hw2:w64 ((i:Int)+1)=((i+1:Nat):Int):=zT (by omega) (by omega)
  have hgd:gd (plc (gof x)).Follow (i:Int)=lst (gof x).n ((gof x).follow i) 0:=by
   rw [z7 (by rw [hlen];exact ht)];exact zbO _ _ ht
  have hf:i < (flw (gof x) a.Sets.length).length:=by rw [zY];exact ht
  rw [hgd,hw2]
  refine ⟨by omega,by omega,by simp;omega,by simp;omega,_,zhr _ _ 0 a.Sets.length (by omega),by simp;omega,⟨i+1,rfl,by omega,?_,?_,?_⟩,by first | omega | (dsimp only;omega)⟩
  ·rw [List.append_assoc,← List.replicate_succ']
  ·rw [List.take_succ_eq_append_getElem hf,zbO _ _ ht,Nat.zero_add,List.append_assoc]
  ·rw [List.append_assoc,← List.replicate_succ']
 ·have ht:i=(gof x).n:=by have:¬ i < (gof x).n:=by simpa using ht
                          omega
  subst ht
  have e1:=zhr (gof x).n (gof x).first 0 a.Sets.length (by omega)
  have e2:=zhr (gof x).n (gof x).last 0 a.Sets.length (by omega)
  rw [Nat.zero_add] at e1 e2
  refine ⟨_,e1,_,e2,rfl,rfl,rfl,?_⟩
  rw [List.take_of_length_le (by rw [zY];omega)];rfl
def gHT (a b:GA):GA:={ gCat a b with first:=a.first }
def gR (r:zj):GA:=if r.Eof=true then gEmpty else if r.Trail.Kind=0 then gof r.Rx else gHT (gof r.Rx) (gof r.Trail)
theorem canon_gHT {a b:GA} (ha:Canon a) (hb:Canon b):Canon (gHT a b):=by
 have h:=zbJ ha hb
 exact ⟨h.sets,fun i hi=>ha.first i (by have:a.n+b.n≤i:=hi;omega),h.last,h.follow⟩
theorem canon_gR (r:zj):Canon (gR r):=by
 unfold gR
 split
 ·exact zbn
 ·split
  ·exact zaA _
  ·exact canon_gHT (zaA _) (zaA _)
def addM (r:zj) (i:Int) (a:zl):zl:=
 { Sets:=a.Sets++(gR r).sets,Owner:=a.Owner++List.replicate (gR r).n i,Follow:=a.Follow++flw (gR r) a.Sets.length,Ends:=a.Ends++(List.range (gR r).n).map (gR r).last,Starts:=a.Starts }
def begM (r:zj) (a:zl):List Int:=if r.Eof=true then [] else lst (gof r.Rx).n (gof r.Rx).first a.Sets.length
def markF (E:List Bool) (l:List Int):List Bool:=E.mapIdx fun i b=>if (i:Int)∈l then true else b
theorem zbY (E:List Bool) (l:List Int):(markF E l).length=E.length:=by simp [markF]
theorem zdB (E:List Bool) (l:List Int) {i:Nat} (h:i < E.length):(markF E l)[i]'(by rw [zbY];exact h)=if (i:Int)∈l then true else E[i]:=by simp [markF]
theorem mark_step {E:List Bool} {l:List Int} {i e:Nat} (ht:i < l.length) (he:l[i]=(e:Int)) (hE:e < E.length):(markF E (l.take i)).set e true=markF E (l.take (i+1)):=by
 refine set_eq (by rw [zbY,zbY]) (fun j hj hne=>?_) (fun hj=>?_)
 ·rw [zbY] at hj
  rw [zdB _ _ hj,zdB _ _ hj,List.take_succ_eq_append_getElem ht,he]
  have:((j:Int)∈l.take i++[(e:Int)])↔(j:Int)∈l.take i:=by
   rw [List.mem_append,List.mem_singleton]
   constructor
   ·rintro (h | h)
    ·exact h
    ·exact absurd (by omega) hne
   ·exact .inl
  simp only [this]
 ·rw [zdB _ _ hE,List.take_succ_eq_append_getElem ht,he,if_pos (by simp)]
theorem mark_lst (E0:List Bool) (g:GA) {off:Nat} (hE:E0.length=off):markF (E0++List.replicate g.n false) (lst g.n g.last off)=E0++(List.range g.n).map g.last:=by
 apply List.ext_getElem
 ·rw [zbY];simp
 ·intro i h1 h2
  rw [zbY] at h1
  rw [zdB _ _ h1]
  simp only [List.length_append,List.length_replicate] at h1
  have hin:(i:Int)∈lst g.n g.last off↔off≤i∧i < off+g.n∧g.last (i - off)=true:=by
   rw [za4]
   constructor
   ·rintro ⟨j,hj,hp,e⟩
    have:i=j+off:=by omega
    subst this
    exact ⟨by omega,by omega,by rw [Nat.add_sub_cancel];exact hp⟩
   ·rintro ⟨q1,q2,q3⟩
    exact ⟨i - off,by omega,q3,by omega⟩
  rcases Nat.lt_or_ge i off with hi | hi
  ·rw [if_neg (by rw [hin];omega),List.getElem_append_left (by omega),List.getElem_append_left (by omega)]
  ·rw [List.getElem_append_right (by omega),List.getElem_append_right (by omega)]
   simp only [List.getElem_replicate,List.getElem_map,List.getElem_range,hE]
   by_cases hl:g.last (i - off)=true
   ·rw [if_pos (hin.2 ⟨hi,by omega,hl⟩),hl]
   ·rw [if_neg (fun h=>hl (hin.1 h).2.2)];simpa using hl
theorem lead_step {F:List (List Int)} {fr to:List Int} {i e:Nat} (hs:SS fr) (ht:i < fr.length) (he:fr[i]=(e:Int)) (hF:e < F.length) :
 gd (leadF F (fr.take i) to) (e:Int)=F[e]∧(leadF F (fr.take i) to).set e (join F[e] to)=leadF F (fr.take (i+1)) to:=by
 have hl:(leadF F (fr.take i) to).length=F.length:=zax _ _ _
 have hnot:¬ ((e:Int)∈fr.take i):=by
  intro hm
  obtain ⟨k,hk,hk2⟩:=List.mem_iff_getElem.1 hm
  simp only [List.length_take] at hk
  rw [List.getElem_take] at hk2
  have:=List.pairwise_iff_getElem.1 hs k i (by omega) ht (by omega)
  omega
 refine ⟨by rw [z7 (by rw [hl];exact hF),zaU _ _ _ hF,if_neg hnot],?_⟩
 refine set_eq (by rw [zax,zax]) (fun j hj hne=>?_) (fun hj=>?_)
 ·rw [hl] at hj
  rw [zaU _ _ _ hj,zaU _ _ _ hj,List.take_succ_eq_append_getElem ht,he]
  have:((j:Int)∈fr.take i++[(e:Int)])↔(j:Int)∈fr.take i:=by
   rw [List.mem_append,List.mem_singleton]
   constructor
   ·rintro (h | h)
    ·exact h
    ·exact absurd (by omega) hne
   ·exact .inl
  simp only [this]
 ·rw [zaU _ _ _ hF,List.take_succ_eq_append_getElem ht,he,if_pos (by simp)]
end Go.Ev.Pl
set_option linter.unusedSimpArgs false
set_option linter.unusedVariables false
namespace Go.Ev.Pl
open Go Go.Ev
def RBody (r:zj):Prop:=r.Eof=true∨(r.Eof=false∧(Wf r.Rx∧rightB r.Rx=true)∧(r.Trail.Kind=0∨(r.Trail.Kind≠0∧Wf r.Trail∧rightB r.Trail=true)))
theorem zcB {x:ze} (h:rightB x=true):(gof x).n≤200:=by
 obtain ⟨h1,h2⟩:=zc4 h
 rw [gof_n x h1];exact h2
theorem gR_n {r:zj} (h:RBody r):(gR r).n≤400:=by
 unfold gR
 rcases h with h | ⟨h0,h1,h2⟩
 ·rw [if_pos h];show (0:Nat)≤400;omega
 ·rw [if_neg (by rw [h0];simp)]
  have:=zcB h1.2
  rcases h2 with h2 | ⟨h2,h3,h4⟩
  ·rw [if_pos h2];omega
  ·rw [if_neg h2]
   have:=zcB h4
   show (gof r.Rx).n+(gof r.Trail).n≤400;omega
theorem addM_eof {r:zj} (h:r.Eof=true) (i:Int) (a:zl):addM r i a=a:=by
 cases a
 simp [addM,gR,h,gEmpty,flw]
theorem ruleEnd {g:GA} {i:Int} {a:zl} {r0:List Int} {res:List Int} {fin:zp} (hb:Bd a 50000) (hg:g.n≤400) (hres:res=r0)
 (hfin:fin=⟨{ Sets:=a.Sets++g.sets,Owner:=a.Owner++List.replicate g.n i,Follow:=a.Follow++flw g a.Sets.length,Ends:=a.Ends++(List.range g.n).map g.last,Starts:=a.Starts }⟩) :
 ∀ S O F E St (e:List Int),(S=a.Sets++g.sets∧O=a.Owner++List.replicate g.n i∧F=a.Follow++flw g a.Sets.length∧E=a.Ends++List.replicate g.n false∧St=a.Starts∧e=lst g.n g.last a.Sets.length)→
   ∃ (Inv:List Bool→Int→Prop) (mu:List Bool→Int→Nat),Inv E 0∧∀ (E':List Bool) (t:Int),Inv E' t→
     (decide (t < (e.length:Int))=true→0≤t∧t < (e.length:Int)∧0≤gd e t∧(gd e t).toNat < E'.length∧gd e t < (E'.length:Int)∧(Inv (E'.set (gd e t).toNat true) (w64 (t+1))∧mu (E'.set (gd e t).toNat true) (w64 (t+1)) < mu E' t))∧
     (decide (t < (e.length:Int))=false→res=r0∧fin=⟨{ Sets:=S,Owner:=O,Follow:=F,Ends:=E',Starts:=St }⟩):=by
 rintro S O F E St e ⟨rfl,rfl,rfl,rfl,rfl,rfl⟩
 have hl:=zaj g.n g.last a.Sets.length
 have h3:=hb.ends
 refine ⟨fun E' t=>∃ j:Nat,t=j∧j≤(lst g.n g.last a.Sets.length).length∧E'=markF (a.Ends++List.replicate g.n false) ((lst g.n g.last a.Sets.length).take j),fun E' t=>((lst g.n g.last a.Sets.length).length - t).toNat,⟨0,rfl,by omega,?_⟩,?_⟩
 ·exact (List.ext_getElem (by rw [zbY]) (fun j h1 h2=>by rw [zdB _ _ (by rw [zbY] at h1;exact h1)];simp)).symm
 rintro E' t ⟨j,rfl,hj,rfl⟩
 rw [zb8]
 refine ⟨fun ht=>?_,fun ht=>?_⟩
 ·have ht:=of_decide_eq_true ht
  obtain ⟨k,hk,_,he⟩:=za4.1 (List.getElem_mem ht)
  have hel:(a.Ends++List.replicate g.n false).length=a.Sets.length+g.n:=by simp [h3]
  rw [z7 ht,show w64 ((j:Int)+1)=((j+1:Nat):Int) from zT (by omega) (by omega),zbY,hel,he,Int.toNat_natCast]
  refine ⟨by omega,by omega,by omega,by omega,by omega,⟨j+1,rfl,by omega,?_⟩,by first | omega | (dsimp only;omega)⟩
  exact mark_step ht he (by omega)
 ·have ht:=of_decide_eq_false ht
  refine ⟨hres,?_⟩
  rw [List.take_of_length_le (by omega),mark_lst _ _ h3,hfin]
theorem aRule_ok (r:zj) (hr:RBody r) (i:Int) (a:zl) (hb:Bd a 50000):zbt r i ⟨a⟩ (begM r a) ⟨addM r i a⟩:=by
 have hb':Bd a 100000:=⟨hb.own,hb.fol,hb.ends,hb.small,by have:=hb.room;omega⟩
 have hroom:=hb.room
 refine zeJ r i ⟨a⟩ _ _ ⟨fun h=>?_,fun h=>?_⟩
 ·rw [addM_eof h];unfold begM;rw [if_pos h];exact ⟨rfl,rfl⟩
 ·have hne:¬ r.Eof=true:=by rw [h];simp
  rcases hr with hr | ⟨-,⟨w1,q1⟩,hT⟩
  ·exact absurd hr hne
  have n1:=zcB q1
  have hc1:=zaA r.Rx
  have hbeg:begM r a=lst (gof r.Rx).n (gof r.Rx).first a.Sets.length:=by unfold begM;rw [if_neg hne]
  refine ⟨_,_,_,_,put_ok r.Rx w1 q1 i a hb' (by omega),?_⟩
  rcases hT with hT | ⟨hT,w2,q2⟩
  ·have hg:gR r=gof r.Rx:=by unfold gR;rw [if_neg hne,if_pos hT]
   refine ⟨fun S O F E St e=>S=a.Sets++(gof r.Rx).sets∧O=a.Owner++List.replicate (gof r.Rx).n i∧F=a.Follow++flw (gof r.Rx) a.Sets.length∧E=a.Ends++List.replicate (gof r.Rx).n false∧St=a.Starts∧e=lst (gof r.Rx).n (gof r.Rx).last a.Sets.length,
    ruleEnd hb (by omega) hbeg (by unfold addM;rw [hg]),fun h=>by rw [hT] at h;simp at h,fun _=>⟨rfl,rfl,rfl,rfl,rfl,rfl⟩⟩
  ·have hg:gR r=gHT (gof r.Rx) (gof r.Trail):=by unfold gR;rw [if_neg hne,if_neg hT]
   have n2:=zcB q2
   have hc2:=zaA r.Trail
   obtain ⟨A,hA⟩:∃ A,A=gof r.Rx:=⟨_,rfl⟩
   obtain ⟨B,hB⟩:∃ B,B=gof r.Trail:=⟨_,rfl⟩
   rw [← hA] at n1 hc1 hbeg ⊢
   rw [← hB] at n2 hc2
   rw [← hA,← hB] at hg
   have hb1:Bd (putM A i a) 100000:=by
    have:=hb.put hc1 (by omega) i
    exact ⟨this.own,this.fol,this.ends,this.small,by have:=this.room;omega⟩
   have hp:=put_ok r.Trail w2 q2 i (putM A i a) hb1 (by rw [← hB];omega)
   rw [← hB] at hp
   have hs1:(putM A i a).Sets.length=a.Sets.length+A.n:=by simp [putM,hc1.sets]
   rw [hs1] at hp
   have hF:(putM B i (putM A i a)).Follow=a.Follow++flw A a.Sets.length++flw B (a.Sets.length+A.n):=by
    show (a.Follow++flw A a.Sets.length)++flw B (putM A i a).Sets.length=_
    rw [hs1]
   have hfl:=hb.fol
   have hla:=zaj A.n A.last a.Sets.length
   have hlb:=zaj B.n B.first (a.Sets.length+A.n)
   have hlb2:=zaj B.n B.last (a.Sets.length+A.n)
   have hcat:=zgk a.Follow A B
   rw [hfl] at hcat
   have hFl:(a.Follow++flw A a.Sets.length++flw B (a.Sets.length+A.n)).length=a.Sets.length+A.n+B.n:=by simp [zY,hfl];omega
   refine ⟨fun S O F E St e=>S=a.Sets++(gHT A B).sets∧O=a.Owner++List.replicate (gHT A B).n i∧F=a.Follow++flw (gHT A B) a.Sets.length∧E=a.Ends++List.replicate (gHT A B).n false∧St=a.Starts∧e=lst (gHT A B).n (gHT A B).last a.Sets.length,
    ruleEnd hb (show A.n+B.n≤400 by omega) hbeg (by unfold addM;rw [hg]),fun _=>⟨_,_,_,_,hp,?_⟩,fun h=>by exact absurd (by simpa using h) hT⟩
   refine ⟨fun F t=>∃ j:Nat,t=j∧j≤(lst A.n A.last a.Sets.length).length∧F=leadF (a.Follow++flw A a.Sets.length++flw B (a.Sets.length+A.n)) ((lst A.n A.last a.Sets.length).take j) (lst B.n B.first (a.Sets.length+A.n)),
    fun F t=>((lst A.n A.last a.Sets.length).length - t).toNat,⟨0,rfl,by omega,?_⟩,?_⟩
   ·rw [hF];exact (List.ext_getElem (by rw [zax]) (fun j h1 h2=>by rw [zaU _ _ _ (by rw [zax] at h1;exact h1)];simp)).symm
   rintro F t ⟨j,rfl,hj,rfl⟩
   simp only [zb8]
   refine ⟨fun ht=>?_,fun ht=>?_⟩
   ·have ht:=of_decide_eq_true ht
    obtain ⟨k,hk,_,he⟩:=za4.1 (List.getElem_mem ht)
    have hkl:k+a.Sets.length < (a.Follow++flw A a.Sets.length++flw B (a.Sets.length+A.n)).length:=by rw [hFl];omega
    obtain ⟨g1,g2⟩:=lead_step (to:=lst B.n B.first (a.Sets.length+A.n)) (zbi _ _ _) ht he hkl
    rw [z7 ht,show w64 ((j:Int)+1)=((j+1:Nat):Int) from zT (by omega) (by omega),zax,he,Int.toNat_natCast,g1]
    have hsm:((a.Follow++flw A a.Sets.length++flw B (a.Sets.length+A.n))[k+a.Sets.length]).length < 10000:=by
     have hm:=List.getElem_mem hkl
     rcases List.mem_append.1 hm with hm | hm
     ·rcases List.mem_append.1 hm with hm | hm
      ·exact hb.small _ hm
      ·have:=zdU A _ hm;omega
     ·have:=zdU B _ hm;omega
    exact ⟨by omega,by omega,by omega,by omega,by omega,_,zdC _ _ (by omega) (by omega),by omega,by omega,by omega,⟨j+1,rfl,by omega,g2⟩,by first | omega | (dsimp only;omega)⟩
   ·have ht:=of_decide_eq_false ht
    rw [List.take_of_length_le (by omega),hcat]
    have hlast:=ze8 A B a.Sets.length
    refine ⟨fun e=>e=lst (gHT A B).n (gHT A B).last a.Sets.length,?_,fun hn=>?_,fun hn=>?_⟩
    ·rintro e rfl
     refine ⟨?_,?_,rfl,?_,rfl,rfl⟩
     ·show (a.Sets++A.sets)++B.sets=a.Sets++(A.sets++B.sets);rw [List.append_assoc]
     ·show (a.Owner++List.replicate A.n i)++List.replicate B.n i=a.Owner++List.replicate (A.n+B.n) i
      rw [List.append_assoc,List.replicate_append_replicate]
     ·show (a.Ends++List.replicate A.n false)++List.replicate B.n false=a.Ends++List.replicate (A.n+B.n) false
      rw [List.append_assoc,List.replicate_append_replicate]
    ·rw [if_pos hn] at hlast
     exact ⟨_,zdC _ _ (by omega) (by omega),hlast⟩
    ·rw [if_neg (by rw [hn];simp)] at hlast
     exact hlast
end Go.Ev.Pl
set_option linter.unusedSimpArgs false
set_option linter.unusedVariables false
namespace Go.Ev.Pl
open Go Go.Ev
def activeB (s:zh) (i c:Nat):Bool:=
 if (s.Rules.getD i default).All=true then true else if (s.Rules.getD i default).Conds.contains (c:Int)=true then true else
  if (s.Rules.getD i default).Conds.length=0 then !(s.Conds.getD c default).Exclusive else false
theorem active_ok (s:zh) {i c:Nat} (hi:i < s.Rules.length) (hc:c < s.Conds.length) (hr:s.Rules.length < 1000000) (hcl:s.Conds.length < 1000000) (hl:(s.Rules.getD i default).Conds.length < 1000000):zct s i c (activeB s i c):=by
 refine W_spec_Active s i c _ ?_
 simp only [List.length_map]
 have hg:gd s.Rules (i:Int)=s.Rules.getD i default:=by rw [z7 hi];simp [List.getD,hi]
 have hgc:gd s.Conds (c:Int)=s.Conds.getD c default:=by rw [z7 hc];simp [List.getD,hc]
 rw [hg,hgc]
 refine ⟨fun h=>?_,fun _=>⟨by omega,by omega,fun h=>?_,fun h=>⟨_,contains_ok _ _ (by omega) _ List.contains_iff_mem,fun h2=>?_,fun h2=>⟨fun h3=>⟨fun _ _ _=>by omega,fun _ _ _=>by omega,?_⟩,fun h3=>?_⟩⟩⟩⟩
 ·simp only [Bool.or_eq_true,decide_eq_true_eq] at h;omega
 ·unfold activeB;rw [if_pos h]
 ·unfold activeB;rw [if_neg (by rw [h];simp),if_pos h2]
 ·unfold activeB;rw [if_neg (by rw [h];simp),if_neg (by rw [h2];simp)]
  have:(s.Rules.getD i default).Conds.length=0:=by simpa using h3
  rw [if_pos this]
 ·unfold activeB;rw [if_neg (by rw [h];simp),if_neg (by rw [h2];simp)]
  have:¬ (s.Rules.getD i default).Conds.length=0:=by simpa using h3
  rw [if_neg this]
def takB (s:zh) (c:Nat) (bol:Bool) (k:Nat):Bool:=activeB s k c && (bol || !(s.Rules.getD k default).Bol)
def stM (s:zh) (bs:List (List Int)) (c:Nat) (bol:Bool):Nat→List Int
 | 0=>[]
 | k+1=>if takB s c bol k=true then join (stM s bs c bol k) (bs.getD k []) else stM s bs c bol k
theorem stM_len {s:zh} {bs:List (List Int)} (hb:∀ b∈bs,b.length≤400) (c:Nat) (bol:Bool):∀ k,k≤bs.length→(stM s bs c bol k).length≤400 * k
 | 0,_=>by simp [stM]
 | k+1,hk=>by
   have ih:=stM_len (s:=s) hb c bol k (by omega)
   have hbk:(bs.getD k []).length≤400:=by
    rw [List.getD_eq_getElem?_getD,List.getElem?_eq_getElem (by omega)];exact hb _ (List.getElem_mem _)
   unfold stM
   split
   ·have:=join_len (stM s bs c bol k) (bs.getD k []);omega
   ·omega
theorem start_ok (s:zh) (bs:List (List Int)) (hbs:bs.length=s.Rules.length) (hb:∀ b∈bs,b.length≤400) {c:Nat} (hc:c < s.Conds.length) (hr:s.Rules.length≤100) (hcl:s.Conds.length < 1000000) (hl:∀ r∈s.Rules,r.Conds.length < 1000000) (bol:Bool) :
 zcN s bs c bol (stM s bs c bol bs.length):=by
 refine W_auto_start s bs c bol _ ⟨fun o t=>∃ k:Nat,t=k∧k≤bs.length∧o=stM s bs c bol k,fun o t=>(bs.length - t).toNat,⟨0,rfl,by omega,rfl⟩,?_⟩
 rintro o t ⟨k,rfl,hk,rfl⟩
 rw [zb8]
 refine ⟨fun ht=>?_,fun ht=>?_⟩
 ·have ht:=of_decide_eq_true ht
  have hkr:k < s.Rules.length:=by omega
  have hg:gd s.Rules (k:Int)=s.Rules.getD k default:=by rw [z7 hkr];simp [List.getD,hkr]
  have hgb:gd bs (k:Int)=bs.getD k []:=by rw [z7 ht];simp [List.getD,ht]
  have hs:=stM_len hb c bol (s:=s) k (by omega)
  have hbk:(bs.getD k []).length≤400:=by
   rw [List.getD_eq_getElem?_getD,List.getElem?_eq_getElem ht];exact hb _ (List.getElem_mem _)
  rw [hg,hgb,show w64 ((k:Int)+1)=((k+1:Nat):Int) from zT (by omega) (by omega)]
  refine ⟨fun o=>o=stM s bs c bol (k+1),fun o h=>⟨⟨k+1,rfl,by omega,h⟩,by first | omega | (dsimp only;omega)⟩,by omega,by omega,_,active_ok s hkr hc (by omega) hcl ?_,fun _ _=>by omega,fun _ _=>by omega,fun h=>⟨_,zdC _ _ (by omega) (by omega),?_⟩,fun h=>?_⟩
  ·rw [List.getD_eq_getElem?_getD,List.getElem?_eq_getElem hkr];exact hl _ (List.getElem_mem _)
  ·rw [stM,if_pos (show takB s c bol k=true from h)]
  ·rw [stM,if_neg (by rw [show takB s c bol k=false from h];simp)]
 ·have ht:=of_decide_eq_false ht
  rw [show k=bs.length by omega]
def zAuto:zl:=⟨[],[],[],[],[]⟩
def accM (rs:List zj):Nat→zl×List (List Int)
 | 0=>(zAuto,[])
 | k+1=>(addM (rs.getD k default) k (accM rs k).1,(accM rs k).2++[begM (rs.getD k default) (accM rs k).1])
theorem begM_len {r:zj} (h:RBody r) (a:zl):(begM r a).length≤400:=by
 unfold begM
 split
 ·simp
 ·rename_i hne
  rcases h with h | ⟨-,⟨_,q⟩,_⟩
  ·exact absurd h hne
  ·have:=zcB q;have:=zaj (gof r.Rx).n (gof r.Rx).first a.Sets.length;omega
theorem acc_bd {rs:List zj} (hr:∀ r∈rs,RBody r):∀ k,k≤rs.length→Bd (accM rs k).1 (400 * k)∧(accM rs k).2.length=k∧(∀ b∈(accM rs k).2,b.length≤400)∧(accM rs k).1.Starts=[]
 | 0,_=>⟨⟨rfl,rfl,rfl,fun f hf=>by simp [accM,zAuto] at hf,by simp [accM,zAuto]⟩,rfl,fun b hb=>by simp [accM] at hb,rfl⟩
 | k+1,hk=>by
   obtain ⟨h1,h2,h3,h4⟩:=acc_bd hr k (by omega)
   have hm:rs.getD k default∈rs:=by rw [List.getD_eq_getElem?_getD,List.getElem?_eq_getElem (by omega)];exact List.getElem_mem _
   have hn:=gR_n (hr _ hm)
   have hc:=canon_gR (rs.getD k default)
   refine ⟨⟨by simp only [accM,addM,List.length_append,List.length_replicate,h1.own,hc.sets],by simp only [accM,addM,List.length_append,h1.fol,zY,hc.sets],by simp only [accM,addM,List.length_append,List.length_map,List.length_range,h1.ends,hc.sets],fun f hf=>?_,by simp only [accM,addM,List.length_append,hc.sets];have:=h1.room;omega⟩,by simp [accM,h2],fun b hb=>?_,h4⟩
   ·rcases List.mem_append.1 hf with hf | hf
    ·exact h1.small f hf
    ·have:=zdU _ _ hf;omega
   ·rcases List.mem_append.1 hb with hb | hb
    ·exact h3 b hb
    ·rw [List.mem_singleton.1 hb];exact begM_len (hr _ hm) _
def buildM (s:zh):zl:={ (accM s.Rules s.Rules.length).1 with Starts:=(List.range (2 * s.Conds.length)).map fun c=>stM s (accM s.Rules s.Rules.length).2 (c / 2) (c % 2 == 1) s.Rules.length }
theorem build_ok (s:zh) (hR:zck s true) (hr:∀ r∈s.Rules,RBody r) (hn:s.Rules.length≤100) (hc:s.Conds.length≤100) (hl:∀ r∈s.Rules,r.Conds.length < 1000000) :
 zbU s (if (accM s.Rules s.Rules.length).1.Sets.length > 600 then zAuto else buildM s) (if (accM s.Rules s.Rules.length).1.Sets.length > 600 then 2 else 0):=by
 refine W_auto_Build s _ _ ⟨true,hR,(fun h=>by cases h),fun _=>⟨fun bs S O F E T t=>∃ k:Nat,t=k∧k≤s.Rules.length∧bs=(accM s.Rules k).2∧zl.mk S O F E T=(accM s.Rules k).1,fun _ _ _ _ _ _ t=>(s.Rules.length - t).toNat,⟨0,rfl,by omega,rfl,rfl⟩,?_⟩⟩
 rintro bs S O F E T t ⟨k,rfl,hk,rfl,ha⟩
 simp only [zb8]
 obtain ⟨b1,b2,b3,b4⟩:=acc_bd hr k hk
 refine ⟨fun ht=>?_,fun ht=>?_⟩
 ·have ht:=of_decide_eq_true ht
  have hg:gd s.Rules (k:Int)=s.Rules.getD k default:=by rw [z7 ht];simp [List.getD,ht]
  have hm:s.Rules.getD k default∈s.Rules:=by rw [List.getD_eq_getElem?_getD,List.getElem?_eq_getElem ht];exact List.getElem_mem _
  rw [hg,ha,show w64 ((k:Int)+1)=((k+1:Nat):Int) from zT (by omega) (by omega)]
  exact ⟨by omega,by omega,_,_,aRule_ok _ (hr _ hm) k _ ⟨b1.own,b1.fol,b1.ends,b1.small,by have:=b1.room;omega⟩,by rw [b2];omega,⟨k+1,rfl,by omega,rfl,rfl⟩,by first | omega | (dsimp only;omega)⟩
 ·have ht:=of_decide_eq_false ht
  have hk':k=s.Rules.length:=by omega
  subst hk'
  have hS:(accM s.Rules s.Rules.length).1.Sets=S:=by rw [← ha]
  rw [hS]
  refine ⟨fun h=>?_,fun h=>?_⟩
  ·have h:=of_decide_eq_true h
   rw [if_pos (by omega),if_pos (by omega)];exact ⟨rfl,rfl⟩
  ·have h:=of_decide_eq_false h
   have h:¬ S.length > 600:=by omega
   rw [if_neg h,if_neg h]
   have hT:T=[]:=by rw [← ha] at b4;exact b4
   have hw:w64 (2 * (s.Conds.length:Int))=((2 * s.Conds.length:Nat):Int):=(zT (by omega) (by omega)).trans (by omega)
   rw [hw]
   refine ⟨fun T t=>∃ j:Nat,t=j∧j≤2 * s.Conds.length∧T=(List.range j).map fun c=>stM s (accM s.Rules s.Rules.length).2 (c / 2) (c % 2 == 1) s.Rules.length,fun T t=>(2 * s.Conds.length - t).toNat,⟨0,rfl,by omega,by rw [hT];rfl⟩,?_⟩
   rintro T' t ⟨j,rfl,hj,rfl⟩
   rw [zb8]
   refine ⟨fun ht=>?_,fun ht=>?_⟩
   ·have ht:=of_decide_eq_true ht
    have e1:w64 (Int.tdiv (j:Int) 2)=((j / 2:Nat):Int):=by
     rw [Int.tdiv_eq_ediv_of_nonneg (by omega)];exact (zT (by omega) (by omega)).trans (by omega)
    have e2:(Int.tmod (j:Int) 2 == 1)=(j % 2 == 1):=by
     rw [Int.tmod_eq_emod_of_nonneg (by omega),Bool.eq_iff_iff];simp only [beq_iff_eq];omega
    rw [e1,e2,show w64 ((j:Int)+1)=((j+1:Nat):Int) from zT (by omega) (by omega)]
    have hst:=start_ok s (accM s.Rules s.Rules.length).2 b2 b3 (c:=j / 2) (by omega) hn (by omega) hl (j % 2 == 1)
    rw [b2] at hst
    exact ⟨_,hst,by simp;omega,⟨j+1,rfl,by omega,by rw [List.range_succ,List.map_append];rfl⟩,by first | omega | (dsimp only;omega)⟩
   ·have ht:=of_decide_eq_false ht
    rw [show j=2 * s.Conds.length by omega]
    refine ⟨?_,rfl⟩
    unfold buildM
    rw [← ha]
end Go.Ev.Pl
set_option linter.unusedSimpArgs false
set_option linter.unusedVariables false
namespace Go.Ev.Pl
open Go Go.Ev
theorem zdy (n:Nat) (p:Nat→Bool) (off d:Nat) (h:n+off+d < 1000000):z8 (lst n p off) d (lst n p (off+d)):=by
 have hl:=zaj n p off
 have he:lst n p (off+d)=(lst n p off).map (·+(d:Int)):=by
  simp only [lst,List.map_map]
  refine List.map_congr_left fun i _=>?_
  simp only [Function.comp];omega
 rw [he]
 refine zez _ _ _ ⟨fun o t=>∃ i:Nat,t=i∧i≤(lst n p off).length∧o=((lst n p off).take i).map (·+(d:Int)),fun o t=>((lst n p off).length - t).toNat,⟨0,rfl,by omega,rfl⟩,?_⟩
 rintro o t ⟨i,rfl,hi,rfl⟩
 refine ⟨fun ht=>?_,fun ht=>?_⟩
 ·have ht:i < (lst n p off).length:=by simpa using ht
  have hm:=za4.1 (List.getElem_mem ht)
  obtain ⟨j,hj,_,hv⟩:=hm
  have hw:w64 (gd (lst n p off) (i:Int)+d)=(lst n p off)[i]+d:=by rw [z7 ht];exact zT (by omega) (by omega)
  have hw2:w64 ((i:Int)+1)=((i+1:Nat):Int):=zT (by omega) (by omega)
  rw [hw,hw2]
  refine ⟨by omega,by omega,by simp;omega,⟨i+1,rfl,by omega,?_⟩,by first | omega | (dsimp only;omega)⟩
  rw [List.take_succ_eq_append_getElem ht,List.map_append];rfl
 ·have:i=(lst n p off).length:=by have:¬ i < (lst n p off).length:=by simpa using ht
                                  omega
  subst this
  rw [List.take_of_length_le (Nat.le_refl _)]
theorem rPut_ok {g:GA} (hc:Canon g) (hn:g.n < 10000) (rule:Int) (a:zl) (hb:Bd a 100000):zbf (plc g) rule a (putM g rule a):=by
 have h1:=hb.own;have h2:=hb.fol;have h3:=hb.ends;have h4:=hb.room
 have hs:=hc.sets
 refine zfC (plc g) rule a _ ⟨fun S O F E t=>∃ i:Nat,t=i∧i≤g.n∧S=a.Sets++g.sets.take i∧O=a.Owner++List.replicate i rule∧F=a.Follow++(flw g a.Sets.length).take i∧E=a.Ends++List.replicate i false,
  fun S O F E t=>(g.n - t).toNat,⟨0,rfl,by omega,by simp,by simp,by simp,by simp⟩,?_⟩
 rintro S O F E t ⟨i,rfl,hi,rfl,rfl,rfl,rfl⟩
 have hlen:(plc g).Sets.length=g.n:=hs
 have hlenF:(plc g).Follow.length=g.n:=zY _ _
 rw [hlen,hlenF]
 refine ⟨fun ht=>?_,fun ht=>?_⟩
 ·have ht:i < g.n:=by simpa using ht
  have hw2:w64 ((i:Int)+1)=((i+1:Nat):Int):=zT (by omega) (by omega)
  have hgd:gd (plc g).Follow (i:Int)=lst g.n (g.follow i) 0:=by
   rw [z7 (by rw [hlenF];exact ht)];exact zbO _ _ ht
  have hgs:gd (plc g).Sets (i:Int)=g.sets[i]'(by omega):=z7 (by rw [hlen];exact ht)
  have hf:i < (flw g a.Sets.length).length:=by rw [zY];exact ht
  rw [hgd,hgs,hw2]
  refine ⟨by omega,by omega,by simp;omega,by simp;omega,by simp;omega,by omega,by omega,_,zdy _ _ 0 a.Sets.length (by omega),by simp;omega,⟨i+1,rfl,by omega,?_,?_,?_,?_⟩,by first | omega | (dsimp only;omega)⟩
  ·rw [List.take_succ_eq_append_getElem (by omega),List.append_assoc]
  ·rw [List.append_assoc,← List.replicate_succ']
  ·rw [List.take_succ_eq_append_getElem hf,zbO _ _ ht,Nat.zero_add,List.append_assoc]
  ·rw [List.append_assoc,← List.replicate_succ']
 ·have ht:i=g.n:=by have:¬ i < g.n:=by simpa using ht
                    omega
  subst ht
  rw [List.take_of_length_le (show g.sets.length≤g.n by omega),List.take_of_length_le (show (flw g a.Sets.length).length≤g.n by rw [zY];exact Nat.le_refl _)];rfl
theorem rAdd_ok (r:zj) (hr:RBody r) (hE:r.Eof=false) (i:Int) (a:zl) (hb:Bd a 50000):zbH r i a (begM r a) (addM r i a):=by
 have hb':Bd a 100000:=⟨hb.own,hb.fol,hb.ends,hb.small,by have:=hb.room;omega⟩
 have hroom:=hb.room
 have hne:¬ r.Eof=true:=by rw [hE];simp
 rcases hr with hr | ⟨-,⟨w1,q1⟩,hT⟩
 ·exact absurd hr hne
 have n1:=zcB q1
 have hc1:=zaA r.Rx
 have hbeg:begM r a=lst (gof r.Rx).n (gof r.Rx).first a.Sets.length:=by unfold begM;rw [if_neg hne]
 have hOf:=zgE r.Rx w1
 rw [q1] at hOf
 simp only [if_true] at hOf
 have e1:=zdy (gof r.Rx).n (gof r.Rx).first 0 a.Sets.length (by omega)
 have e2:=zdy (gof r.Rx).n (gof r.Rx).last 0 a.Sets.length (by omega)
 rw [Nat.zero_add] at e1 e2
 refine zfD r i a _ _ ⟨_,_,hOf,_,rPut_ok hc1 (by omega) i a hb',_,e2,?_⟩
 have fin:∀ {g:GA},g.n≤400→addM r i a=({ Sets:=a.Sets++g.sets,Owner:=a.Owner++List.replicate g.n i,Follow:=a.Follow++flw g a.Sets.length,Ends:=a.Ends++(List.range g.n).map g.last,Starts:=a.Starts }:zl)→
  ∀ S O F E St (e:List Int),(S=a.Sets++g.sets∧O=a.Owner++List.replicate g.n i∧F=a.Follow++flw g a.Sets.length∧E=a.Ends++List.replicate g.n false∧St=a.Starts∧e=lst g.n g.last a.Sets.length)→_:=fun {g} hg ha S O F E St e h=>
  let ⟨Inv,mu,h0,hs⟩:=ruleEnd (g:=g) (i:=i) (res:=begM r a) (fin:=⟨addM r i a⟩) hb hg hbeg (congrArg zp.mk ha) S O F E St e h
  (⟨Inv,mu,h0,fun E' t hI=>⟨(hs E' t hI).1,fun h2=>⟨_,e1,((hs E' t hI).2 h2).1,zp.mk.inj ((hs E' t hI).2 h2).2⟩⟩⟩:∃ (Inv:List Bool→Int→Prop) (mu:List Bool→Int→Nat),Inv E 0∧∀ (E':List Bool) (t:Int),Inv E' t→
     (decide (t < (e.length:Int))=true→0≤t∧t < (e.length:Int)∧0≤gd e t∧(gd e t).toNat < E'.length∧gd e t < (E'.length:Int)∧(Inv (E'.set (gd e t).toNat true) (w64 (t+1))∧mu (E'.set (gd e t).toNat true) (w64 (t+1)) < mu E' t))∧
     (decide (t < (e.length:Int))=false→∃ q,z8 (plc (gof r.Rx)).First a.Sets.length q∧begM r a=q∧addM r i a=({ Sets:=S,Owner:=O,Follow:=F,Ends:=E',Starts:=St }:zl)))
 rcases hT with hT | ⟨hT,w2,q2⟩
 ·have hg:gR r=gof r.Rx:=by unfold gR;rw [if_neg hne,if_pos hT]
  exact ⟨fun S O F E St e=>S=a.Sets++(gof r.Rx).sets∧O=a.Owner++List.replicate (gof r.Rx).n i∧F=a.Follow++flw (gof r.Rx) a.Sets.length∧E=a.Ends++List.replicate (gof r.Rx).n false∧St=a.Starts∧e=lst (gof r.Rx).n (gof r.Rx).last a.Sets.length,
   fin (g:=gof r.Rx) (by omega) (by unfold addM;rw [hg]),fun h=>by rw [hT] at h;simp at h,fun _=>⟨rfl,rfl,rfl,rfl,rfl,rfl⟩⟩
 ·have hg:gR r=gHT (gof r.Rx) (gof r.Trail):=by unfold gR;rw [if_neg hne,if_neg hT]
  have n2:=zcB q2
  have hc2:=zaA r.Trail
  have hOf2:=zgE r.Trail w2
  rw [q2] at hOf2
  simp only [if_true] at hOf2
  obtain ⟨A,hA⟩:∃ A,A=gof r.Rx:=⟨_,rfl⟩
  obtain ⟨B,hB⟩:∃ B,B=gof r.Trail:=⟨_,rfl⟩
  rw [← hA] at n1 hc1 hbeg e1 e2 fin ⊢
  rw [← hB] at n2 hc2 hOf2
  rw [← hA,← hB] at hg
  have hb1:Bd (putM A i a) 100000:=by
   have:=hb.put hc1 (by omega) i
   exact ⟨this.own,this.fol,this.ends,this.small,by have:=this.room;omega⟩
  have hs1:(putM A i a).Sets.length=a.Sets.length+A.n:=by simp [putM,hc1.sets]
  have hp:=rPut_ok hc2 (by omega) i (putM A i a) hb1
  have f1:=zdy B.n B.first 0 (a.Sets.length+A.n) (by omega)
  have f2:=zdy B.n B.last 0 (a.Sets.length+A.n) (by omega)
  rw [Nat.zero_add] at f1 f2
  have hF:(putM B i (putM A i a)).Follow=a.Follow++flw A a.Sets.length++flw B (a.Sets.length+A.n):=by
   show (a.Follow++flw A a.Sets.length)++flw B (putM A i a).Sets.length=_
   rw [hs1]
  have hfl:=hb.fol
  have hla:=zaj A.n A.last a.Sets.length
  have hlb:=zaj B.n B.first (a.Sets.length+A.n)
  have hlb2:=zaj B.n B.last (a.Sets.length+A.n)
  have hcat:=zgk a.Follow A B
  rw [hfl] at hcat
  have hFl:(a.Follow++flw A a.Sets.length++flw B (a.Sets.length+A.n)).length=a.Sets.length+A.n+B.n:=by simp [zY,hfl];omega
  refine ⟨fun S O F E St e=>S=a.Sets++(gHT A B).sets∧O=a.Owner++List.replicate (gHT A B).n i∧F=a.Follow++flw (gHT A B) a.Sets.length∧E=a.Ends++List.replicate (gHT A B).n false∧St=a.Starts∧e=lst (gHT A B).n (gHT A B).last a.Sets.length,
   fin (g:=gHT A B) (show A.n+B.n≤400 by omega) (by unfold addM;rw [hg]),fun _=>⟨_,_,hOf2,_,hp,?_⟩,fun h=>by exact absurd (by simpa using h) hT⟩
  rw [hs1]
  refine ⟨fun F t=>∃ j:Nat,t=j∧j≤(lst A.n A.last a.Sets.length).length∧F=leadF (a.Follow++flw A a.Sets.length++flw B (a.Sets.length+A.n)) ((lst A.n A.last a.Sets.length).take j) (lst B.n B.first (a.Sets.length+A.n)),
   fun F t=>((lst A.n A.last a.Sets.length).length - t).toNat,⟨0,rfl,by omega,?_⟩,?_⟩
  ·rw [hF];exact (List.ext_getElem (by rw [zax]) (fun j h1 h2=>by rw [zaU _ _ _ (by rw [zax] at h1;exact h1)];simp)).symm
  rintro F t ⟨j,rfl,hj,rfl⟩
  simp only [zb8]
  refine ⟨fun ht=>?_,fun ht=>?_⟩
  ·have ht:=of_decide_eq_true ht
   obtain ⟨k,hk,_,he⟩:=za4.1 (List.getElem_mem ht)
   have hkl:k+a.Sets.length < (a.Follow++flw A a.Sets.length++flw B (a.Sets.length+A.n)).length:=by rw [hFl];omega
   obtain ⟨g1,g2⟩:=lead_step (to:=lst B.n B.first (a.Sets.length+A.n)) (zbi _ _ _) ht he hkl
   have hval:(a.Follow++flw A a.Sets.length++flw B (a.Sets.length+A.n))[k+a.Sets.length]=lst A.n (A.follow k) a.Sets.length:=by
    rw [List.getElem_append_left (by simp only [List.length_append,zY];omega),List.getElem_append_right (by omega)]
    simp only [hfl,Nat.add_sub_cancel]
    exact zbO _ _ hk
   rw [hval] at g1 g2
   have hsm:=zaj A.n (A.follow k) a.Sets.length
   rw [zdD (zbi _ _ _) (zbi _ _ _)] at g2
   rw [z7 ht,show w64 ((j:Int)+1)=((j+1:Nat):Int) from zT (by omega) (by omega),zax,he,Int.toNat_natCast,Int.toNat_natCast,g1]
   exact ⟨by omega,by omega,by omega,by omega,by omega,by omega,by omega,by omega,by omega,_,f1,_,zfa _ _ (by omega) (by omega),by omega,by omega,by omega,⟨j+1,rfl,by omega,g2⟩,by first | omega | (dsimp only;omega)⟩
  ·have ht:=of_decide_eq_false ht
   rw [List.take_of_length_le (by omega),hcat]
   have hlast:=ze8 A B a.Sets.length
   have hJ:∀ e,e=lst (gHT A B).n (gHT A B).last a.Sets.length→((putM B i (putM A i a)).Sets=a.Sets++(gHT A B).sets∧(putM B i (putM A i a)).Owner=a.Owner++List.replicate (gHT A B).n i∧a.Follow++flw (gCat A B) a.Sets.length=a.Follow++flw (gHT A B) a.Sets.length∧(putM B i (putM A i a)).Ends=a.Ends++List.replicate (gHT A B).n false∧(putM B i (putM A i a)).Starts=a.Starts∧e=lst (gHT A B).n (gHT A B).last a.Sets.length):=by
    rintro e rfl
    refine ⟨?_,?_,rfl,?_,rfl,rfl⟩
    ·show (a.Sets++A.sets)++B.sets=a.Sets++(A.sets++B.sets);rw [List.append_assoc]
    ·show (a.Owner++List.replicate A.n i)++List.replicate B.n i=a.Owner++List.replicate (A.n+B.n) i
     rw [List.append_assoc,List.replicate_append_replicate]
    ·show (a.Ends++List.replicate A.n false)++List.replicate B.n false=a.Ends++List.replicate (A.n+B.n) false
     rw [List.append_assoc,List.replicate_append_replicate]
   refine ⟨fun hn=>⟨_,f2,_,zfa _ _ (by omega) (by omega),hJ _ ?_⟩,fun hn=>⟨_,f2,hJ _ ?_⟩⟩
   ·have hn:B.null=true:=by rw [hB];simpa [plc,← hB] using hn
    rw [if_pos hn,zdD (zbi _ _ _) (zbi _ _ _)] at hlast
    exact hlast
   ·have hn:B.null=false:=by rw [hB];simpa [plc,← hB] using hn
    rw [if_neg (by rw [hn];simp)] at hlast
    exact hlast
end Go.Ev.Pl
set_option linter.unusedSimpArgs false
set_option linter.unusedVariables false
namespace Go.Ev.Pl
open Go Go.Ev
theorem rActive_ok (s:zh) {i c:Nat} (hi:i < s.Rules.length) (hc:c < s.Conds.length) (hr:s.Rules.length < 1000000) (hcl:s.Conds.length < 1000000) (hl:(s.Rules.getD i default).Conds.length < 1000000):zaX s i c (activeB s i c):=by
 refine zd6 s i c _ ?_
 simp only [List.length_map]
 have hg:gd s.Rules (i:Int)=s.Rules.getD i default:=by rw [z7 hi];simp [List.getD,hi]
 have hgc:gd s.Conds (c:Int)=s.Conds.getD c default:=by rw [z7 hc];simp [List.getD,hc]
 rw [hg,hgc]
 obtain ⟨L,hL⟩:∃ L,L=(s.Rules.getD i default).Conds:=⟨_,rfl⟩
 refine ⟨fun h=>?_,fun _=>⟨by omega,by omega,fun h=>?_,fun h=>?_⟩⟩
 ·simp only [Bool.or_eq_true,decide_eq_true_eq] at h;omega
 ·unfold activeB;rw [if_pos h]
 have hB:activeB s i c=if L.contains (c:Int)=true then true else if L.length=0 then !(s.Conds.getD c default).Exclusive else false:=by
  unfold activeB;rw [if_neg (by rw [h];simp),hL]
 rw [hB,← hL]
 rw [← hL] at hl
 refine ⟨fun t=>∃ k:Nat,t=k∧k≤L.length∧∀ j,∀ h:j < L.length,j < k→L[j]≠(c:Int),fun t=>(L.length - t).toNat,⟨0,rfl,by omega,fun j _ h=>by omega⟩,?_⟩
 rintro t ⟨k,rfl,hk,hno⟩
 rw [zb8]
 refine ⟨fun ht=>?_,fun ht=>?_⟩
 ·have ht:=of_decide_eq_true ht
  rw [z7 ht,show w64 ((k:Int)+1)=((k+1:Nat):Int) from zT (by omega) (by omega)]
  refine ⟨by omega,by omega,fun h=>?_,fun h=>⟨⟨k+1,rfl,by omega,fun j hj hjk=>?_⟩,by first | omega | (dsimp only;omega)⟩⟩
  ·have he:L[k]=(c:Int):=by simpa using h
   rw [if_pos (List.contains_iff_mem.2 (he▸List.getElem_mem ht))]
  ·rcases Nat.lt_or_ge j k with h2 | h2
   ·exact hno j hj h2
   ·have:j=k:=by omega
    subst this
    simpa using h
 ·have ht:=of_decide_eq_false ht
  have hnc:¬ L.contains (c:Int)=true:=fun h=>by
   obtain ⟨j,hj,he⟩:=List.getElem_of_mem (List.contains_iff_mem.1 h)
   exact hno j hj (by omega) he
  rw [if_neg hnc]
  refine ⟨fun _=>by omega,fun _=>by omega,?_⟩
  by_cases h0:L.length=0
  ·rw [if_pos h0,h0];rfl
  ·rw [if_neg h0,show ((L.length:Int) == 0)=false from by simpa using h0];rfl
theorem begM_ss (r:zj) (a:zl):SS (begM r a):=by
 unfold begM
 split
 ·simp [SS]
 ·exact zbi _ _ _
theorem acc_ss (rs:List zj):∀ k,∀ b∈(accM rs k).2,SS b
 | 0,b,hb=>by simp [accM] at hb
 | k+1,b,hb=>by
   rcases List.mem_append.1 hb with hb | hb
   ·exact acc_ss rs k b hb
   ·rw [List.mem_singleton.1 hb];exact begM_ss _ _
theorem stM_ss {s:zh} {bs:List (List Int)} (hb:∀ b∈bs,SS b) (c:Nat) (bol:Bool):∀ k,k≤bs.length→SS (stM s bs c bol k)
 | 0,_=>by simp [stM,SS]
 | k+1,hk=>by
   have ih:=stM_ss (s:=s) hb c bol k (by omega)
   have hbk:SS (bs.getD k []):=by
    rw [List.getD_eq_getElem?_getD,List.getElem?_eq_getElem (by omega)];exact hb _ (List.getElem_mem _)
   unfold stM
   split
   ·rw [zdD ih hbk];exact zho ih hbk
   ·exact ih
theorem rStart (s:zh) (bs:List (List Int)) (hbs:bs.length=s.Rules.length) (hb:∀ b∈bs,b.length≤400) (hss:∀ b∈bs,SS b) {c:Nat} (hc:c < s.Conds.length) (hr:s.Rules.length≤100) (hcl:s.Conds.length < 1000000) (hl:∀ r∈s.Rules,r.Conds.length < 1000000) (bol:Bool) (ci:Int) (hci:ci=c) (P:List Int→Prop) (hP:P (stM s bs c bol bs.length)) :
 (∃ (Inv214:List Int→Int→Prop) (mu215:List Int→Int→Nat),Inv214 ([]) 0∧(∀ (start_9:List Int) (i_3:Int),Inv214 start_9 i_3→(((decide (i_3 < (↑(List.length (zh.Rules s)):Int)))=true→(∃ J227:List Int→Prop,(∀ (start_11:List Int),J227 start_11→(Inv214 start_11 (w64 (i_3+1))∧mu215 start_11 (w64 (i_3+1)) < mu215 start_9 i_3))∧(∃ r0_41:Bool,zaX s i_3 ci r0_41∧((r0_41)=true→(bol=false→((0:Int)≤i_3)))∧((r0_41)=true→(bol=false→i_3 < ↑(List.length (zh.Rules s))))∧(((r0_41 && (bol || !zj.Bol (gd (zh.Rules s) i_3)))=true→((0:Int)≤i_3)∧(Int.toNat i_3 < List.length bs)∧i_3 < ↑(List.length bs)∧(∃ r0_42:List Int,zF start_9 (gd bs i_3) r0_42∧J227 r0_42))∧((r0_41 && (bol || !zj.Bol (gd (zh.Rules s) i_3)))=false→J227 start_9)))))∧((decide (i_3 < (↑(List.length (zh.Rules s)):Int)))=false→P start_9)))):=by
 subst hci
 refine ⟨fun o t=>∃ k:Nat,t=k∧k≤bs.length∧o=stM s bs c bol k,fun o t=>(bs.length - t).toNat,⟨0,rfl,by omega,rfl⟩,?_⟩
 rintro o t ⟨k,rfl,hk,rfl⟩
 rw [zb8]
 refine ⟨fun ht=>?_,fun ht=>?_⟩
 ·have hkr:=of_decide_eq_true ht
  have ht:k < bs.length:=by omega
  have hg:gd s.Rules (k:Int)=s.Rules.getD k default:=by rw [z7 hkr];simp [List.getD,hkr]
  have hgb:gd bs (k:Int)=bs.getD k []:=by rw [z7 ht];simp [List.getD,ht]
  have hs:=stM_len hb c bol (s:=s) k (by omega)
  have hbk:(bs.getD k []).length≤400:=by
   rw [List.getD_eq_getElem?_getD,List.getElem?_eq_getElem ht];exact hb _ (List.getElem_mem _)
  have hbs2:SS (bs.getD k []):=by
   rw [List.getD_eq_getElem?_getD,List.getElem?_eq_getElem ht];exact hss _ (List.getElem_mem _)
  rw [hg,hgb,show w64 ((k:Int)+1)=((k+1:Nat):Int) from zT (by omega) (by omega)]
  refine ⟨fun o=>o=stM s bs c bol (k+1),fun o h=>⟨⟨k+1,rfl,by omega,h⟩,by first | omega | (dsimp only;omega)⟩,_,rActive_ok s hkr hc (by omega) hcl ?_,fun _ _=>by omega,fun _ _=>by omega,fun h=>⟨by omega,by omega,by omega,_,zfa _ _ (by omega) (by omega),?_⟩,fun h=>?_⟩
  ·rw [List.getD_eq_getElem?_getD,List.getElem?_eq_getElem hkr];exact hl _ (List.getElem_mem _)
  ·rw [stM,if_pos (show takB s c bol k=true from h),zdD (stM_ss hss c bol k (by omega)) hbs2]
  ·rw [stM,if_neg (by rw [show takB s c bol k=false from h];simp)]
 ·have ht:=of_decide_eq_false ht
  have:k=bs.length:=by omega
  rw [this];exact hP
theorem begM_eof {r:zj} (h:r.Eof=true) (a:zl):begM r a=[]:=by unfold begM;rw [if_pos h]
theorem rBuild_ok (s:zh) (hR:za5 s true) (hr:∀ r∈s.Rules,RBody r) (hn:s.Rules.length≤100) (hc:s.Conds.length≤100) (hl:∀ r∈s.Rules,r.Conds.length < 1000000) :
 zbr s (if (accM s.Rules s.Rules.length).1.Sets.length > 600 then zAuto else buildM s) (if (accM s.Rules s.Rules.length).1.Sets.length > 600 then 2 else 0):=by
 refine zeA s _ _ ⟨true,hR,(fun h=>by cases h),fun _=>⟨fun S O F E T bs t=>∃ k:Nat,t=k∧k≤s.Rules.length∧bs=(accM s.Rules k).2∧zl.mk S O F E T=(accM s.Rules k).1,fun _ _ _ _ _ _ t=>(s.Rules.length - t).toNat,⟨0,rfl,by omega,rfl,rfl⟩,?_⟩⟩
 rintro S O F E T bs t ⟨k,rfl,hk,rfl,ha⟩
 simp only [zb8]
 obtain ⟨b1,b2,b3,b4⟩:=acc_bd hr k hk
 refine ⟨fun ht=>?_,fun ht=>?_⟩
 ·have ht:=of_decide_eq_true ht
  have hg:gd s.Rules (k:Int)=s.Rules.getD k default:=by rw [z7 ht];simp [List.getD,ht]
  have hm:s.Rules.getD k default∈s.Rules:=by rw [List.getD_eq_getElem?_getD,List.getElem?_eq_getElem ht];exact List.getElem_mem _
  obtain ⟨r,hrr⟩:∃ r,r=s.Rules.getD k default:=⟨_,rfl⟩
  have hacc:accM s.Rules (k+1)=(addM r k (accM s.Rules k).1,(accM s.Rules k).2++[begM r (accM s.Rules k).1]):=by rw [hrr];rfl
  rw [hg,ha,show w64 ((k:Int)+1)=((k+1:Nat):Int) from zT (by omega) (by omega),← hrr]
  rw [← hrr] at hm
  refine ⟨fun S O F E T f=>zl.mk S O F E T=addM r k (accM s.Rules k).1∧f=begM r (accM s.Rules k).1,fun S O F E T f h=>⟨by rw [b2];omega,⟨k+1,rfl,by omega,by rw [hacc,h.2],by rw [hacc];exact h.1⟩,by first | omega | (dsimp only;omega)⟩,by omega,by omega,fun h=>⟨by omega,by omega,_,_,rAdd_ok r (hr _ hm) (by simpa using h) k _ ⟨b1.own,b1.fol,b1.ends,b1.small,by have:=b1.room;omega⟩,rfl,rfl⟩,fun h=>?_⟩
  have h:r.Eof=true:=by simpa using h
  exact ⟨by rw [addM_eof h,ha],(begM_eof h _).symm⟩
 ·have ht:=of_decide_eq_false ht
  have hk':k=s.Rules.length:=by omega
  subst hk'
  have hS:(accM s.Rules s.Rules.length).1.Sets=S:=by rw [← ha]
  rw [hS]
  refine ⟨fun h=>?_,fun h=>?_⟩
  ·have h:=of_decide_eq_true h
   rw [if_pos (by omega),if_pos (by omega)];exact ⟨rfl,rfl⟩
  ·have h:=of_decide_eq_false h
   have h:¬ S.length > 600:=by omega
   rw [if_neg h,if_neg h]
   have hT:T=[]:=by rw [← ha] at b4;exact b4
   have hw:w64 (2 * (s.Conds.length:Int))=((2 * s.Conds.length:Nat):Int):=(zT (by omega) (by omega)).trans (by omega)
   rw [hw]
   refine ⟨fun T t=>∃ j:Nat,t=j∧j≤2 * s.Conds.length∧T=(List.range j).map fun c=>stM s (accM s.Rules s.Rules.length).2 (c / 2) (c % 2 == 1) s.Rules.length,fun T t=>(2 * s.Conds.length - t).toNat,⟨0,rfl,by omega,by rw [hT];rfl⟩,?_⟩
   rintro T' t ⟨j,rfl,hj,rfl⟩
   refine ⟨fun ht=>?_,fun ht=>?_⟩
   ·have ht:=of_decide_eq_true ht
    have e1:w64 (Int.tdiv (j:Int) 2)=((j / 2:Nat):Int):=by
     rw [Int.tdiv_eq_ediv_of_nonneg (by omega)];exact (zT (by omega) (by omega)).trans (by omega)
    have e2:(Int.tmod (j:Int) 2 == 1)=(j % 2 == 1):=by
     rw [Int.tmod_eq_emod_of_nonneg (by omega),Bool.eq_iff_iff];simp only [beq_iff_eq];omega
    rw [e2,show w64 ((j:Int)+1)=((j+1:Nat):Int) from zT (by omega) (by omega)]
    refine rStart s (accM s.Rules s.Rules.length).2 b2 b3 (acc_ss _ _) (c:=j / 2) (by omega) hn (by omega) hl (j % 2 == 1) _ e1 _ ?_
    rw [b2]
    exact ⟨by simp;omega,⟨j+1,rfl,by omega,by rw [List.range_succ,List.map_append];rfl⟩,by first | omega | (dsimp only;omega)⟩
   ·have ht:=of_decide_eq_false ht
    rw [show j=2 * s.Conds.length by omega]
    refine ⟨?_,rfl⟩
    unfold buildM
    rw [← ha]
end Go.Ev.Pl
set_option linter.unusedVariables false
set_option linter.unusedSimpArgs false
namespace Go.Ev
open Go Go.RowKit
variable {P : Program}
section
variable {R : Type}
def fNat (n:Nat) (k:Nat→R):R:=match n with
 | .zero=>k 0
 | .succ n=>k (.succ n)
theorem zer (n:Nat) (k:Nat→R):fNat n k=k n:=by cases n<;>rfl
def fInt (n:Int) (k:Int→R):R:=match n with
 | .ofNat n=>fNat n fun n=>k (.ofNat n)
 | .negSucc n=>fNat n fun n=>k (.negSucc n)
theorem fInt_eq (n:Int) (k:Int→R):fInt n k=k n:=by cases n<;>simp [fInt,zer]
def fBo (b:Bool) (k:Bool→R):R:=match b with
 | true=>k true
 | false=>k false
theorem fBo_eq (b:Bool) (k:Bool→R):fBo b k=k b:=by cases b<;>rfl
def fVal (v:Value) (k:Value→R):R:=match v with
 | .int q n=>fInt n fun n=>k (.int q n)
 | .bool b=>fBo b fun b=>k (.bool b)
 | v=>k v
theorem fVal_eq (v:Value) (k:Value→R):fVal v k=k v:=by
 unfold fVal
 split
 ·exact fInt_eq _ _
 ·exact fBo_eq _ _
 ·rfl
def fList {α:Type} (f:α→(α→R)→R):List α→(List α→R)→R
 | [],k=>k []
 | a :: l,k=>f a fun a=>fList f l fun l=>k (a :: l)
theorem zcg {α:Type} {f:α→(α→R)→R} (h:∀ a k,f a k=k a):∀ (l:List α) (k:List α→R),fList f l k=k l
 | [],k=>rfl
 | a :: l,k=>by rw [fList,h,zcg h l]
def fFV:Nat→FV→(FV→R)→R
 | 0,x,k=>k x
 | n+1,x,k=>match x with
   | .pv v=>fVal v fun v=>k (.pv v)
   | .agg l=>fList (fFV n) l fun l=>k (.agg l)
   | .sl l=>fList (fFV n) l fun l=>k (.sl l)
theorem fFV_eq:∀ (n:Nat) (x:FV) (k:FV→R),fFV n x k=k x
 | 0,x,k=>rfl
 | n+1,x,k=>by
   unfold fFV
   cases x with
   | pv v=>exact fVal_eq _ _
   | agg l=>exact zcg (fFV_eq n) _ _
   | sl l=>exact zcg (fFV_eq n) _ _
def fAV:Nat→AV→(AV→R)→R
 | 0,x,k=>k x
 | n+1,x,k=>match x with
   | .bad=>k .bad
   | .f x=>fFV 1 x fun x=>k (.f x)
   | .ptr b o=>fNat b fun b=>fNat o fun o=>k (.ptr b o)
   | .fp x o=>fNat o fun o=>k (.fp x o)
   | .ep b o i c=>fNat b fun b=>fNat o fun o=>fNat i fun i=>fNat c fun c=>k (.ep b o i c)
   | .rf b o i c=>fNat b fun b=>fNat o fun o=>fNat i fun i=>fNat c fun c=>k (.rf b o i c)
   | .own E l=>fList (fFV 1) l fun l=>k (.own E l)
   | .clo g l=>fList (fAV n) l fun l=>k (.clo g l)
   | .agg l=>fList (fAV n) l fun l=>k (.agg l)
   | .tup l=>fList (fAV n) l fun l=>k (.tup l)
theorem zfV:∀ (n:Nat) (x:AV) (k:AV→R),fAV n x k=k x
 | 0,x,k=>rfl
 | n+1,x,k=>by
   unfold fAV
   cases x with
   | bad=>rfl
   | f x=>exact fFV_eq _ _ _
   | ptr b o=>simp only [zer]
   | fp x o=>simp only [zer,fFV_eq]
   | ep b o i c=>simp only [zer]
   | rf b o i c=>simp only [zer]
   | own E l=>exact zcg (fFV_eq _) _ _
   | clo g l=>exact zcg (zfV n) _ _
   | agg l=>exact zcg (zfV n) _ _
   | tup l=>exact zcg (zfV n) _ _
def sLf (x:AV) (k:AV→R):R:=match x with
 | .bad=>k .bad
 | .f x=>k (.f x)
 | .ptr b o=>k (.ptr b o)
 | .fp x o=>k (.fp x o)
 | .ep b o i c=>k (.ep b o i c)
 | .rf b o i c=>k (.rf b o i c)
 | .own E l=>k (.own E l)
 | .clo g l=>k (.clo g l)
 | .agg l=>k (.agg l)
 | .tup l=>k (.tup l)
theorem sLf_eq (x:AV) (k:AV→R):sLf x k=k x:=by cases x<;>rfl
def sAV (x:AV) (k:AV→R):R:=match x with
 | .bad=>k .bad
 | .f x=>k (.f x)
 | .ptr b o=>k (.ptr b o)
 | .fp x o=>k (.fp x o)
 | .ep b o i c=>k (.ep b o i c)
 | .rf b o i c=>k (.rf b o i c)
 | .own E l=>k (.own E l)
 | .clo g l=>k (.clo g l)
 | .agg l=>fList sLf l fun l=>k (.agg l)
 | .tup l=>fList (fAV 5) l fun l=>k (.tup l)
theorem sAV_eq (x:AV) (k:AV→R):sAV x k=k x:=by
 cases x with
 | agg l=>exact zcg sLf_eq _ _
 | tup l=>exact zcg (zfV 5) _ _
 | _=>rfl
def fSta (f:AV→(AV→R)→R):Sta→(Sta→R)→R
 | [],k=>k []
 | (b,v) :: r,k=>fNat b fun b=>f v fun v=>fSta f r fun r=>k ((b,v) :: r)
theorem zfu {f:AV→(AV→R)→R} (h:∀ a k,f a k=k a):∀ (G:Sta) (k:Sta→R),fSta f G k=k G
 | [],k=>rfl
 | (b,v) :: r,k=>by rw [fSta,zer,h,zfu h r]
def fUp (u:Up) (k:Up→R):R:=match u with
 | .set b v=>fNat b fun b=>fAV 5 v fun v=>k (.set b v)
 | .put b v=>fNat b fun b=>fAV 5 v fun v=>k (.put b v)
 | .leaf b o v=>fNat b fun b=>fNat o fun o=>fAV 5 v fun v=>k (.leaf b o v)
 | .upo b o v=>fNat b fun b=>fNat o fun o=>fAV 5 v fun v=>k (.upo b o v)
 | .frz b o=>fNat b fun b=>fNat o fun o=>k (.frz b o)
 | .newbox b v=>fNat b fun b=>fAV 5 v fun v=>k (.newbox b v)
theorem fUp_eq (u:Up) (k:Up→R):fUp u k=k u:=by
 cases u<;>simp only [fUp,zer,zfV]
end
section
variable {R : Type}
noncomputable def getX (G:Sta) (b:Nat):Option AV:=List.rec none (fun p _ ih=>match p with
 | (a,x)=>match Nat.beq a b with
   | true=>some x
   | false=>ih) G
theorem zfs (b:Nat):∀ G:Sta,getX G b=get G b
 | []=>rfl
 | (a,x) :: r=>by
   change (match Nat.beq a b with
    | true=>some x
    | false=>getX r b)=if b=a then some x else get r b
   rw [zfs b r]
   cases h:Nat.beq a b with
   | true=>rw [if_pos (Nat.eq_of_beq_eq_true h).symm]
   | false=>rw [if_neg (fun e=>by rw [e] at h;simp at h)]
noncomputable def lookX (G:Sta) (b:Nat):Option Nat→Option AV
 | none=>getX G b
 | some o=>match getX G b with
   | some v=>(v.leaves[o]?).filter AV.isLeaf
   | none=>none
theorem lookX_eq (b:Nat) (o:Option Nat) (G:Sta):lookX G b o=look G b o:=by
 cases o with
 | none=>exact zfs b G
 | some o=>
   simp only [lookX,look,zfs]
   cases get G b<;>rfl
def nv0 (b:Nat) (x:AV):Bool:=match x with
 | .rf c _ _ _=>!Nat.beq c b
 | .ep c _ _ _=>!Nat.beq c b
 | .agg _=>false
 | .tup _=>false
 | _=>true
noncomputable def nvL (b:Nat) (l:List AV):Bool:=List.rec true (fun x _ ih=>match nv0 b x with
 | true=>ih
 | false=>false) l
noncomputable def nv1 (b:Nat) (x:AV):Bool:=match x with
 | .agg l=>nvL b l
 | .tup _=>false
 | x=>nv0 b x
noncomputable def noV (b:Nat) (G:Sta):Bool:=List.rec true (fun p _ ih=>match nv1 b p.2 with
 | true=>ih
 | false=>false) G
theorem nv0_eq {b:Nat} {x:AV} (h:nv0 b x=true) (o:Option Nat):killr b o x=x:=by
 cases x with
 | rf c _ _ _=>
   simp only [nv0,Bool.not_eq_true'] at h
   simp only [killr];rw [if_neg];rintro ⟨e,_⟩;rw [e] at h;simp at h
 | ep c _ _ _=>
   simp only [nv0,Bool.not_eq_true'] at h
   simp only [killr];rw [if_neg];rintro ⟨e,_⟩;rw [e] at h;simp at h
 | _=>rfl
theorem nvL_eq {b:Nat} (o:Option Nat):∀ {l:List AV},nvL b l=true→l.map (killr b o)=l
 | [],_=>rfl
 | x :: r,h=>by
   change (match nv0 b x with
    | true=>nvL b r
    | false=>false)=true at h
   split at h
   ·rename_i hx;rw [List.map_cons,nv0_eq hx,nvL_eq o h]
   ·cases h
theorem nv1_eq {b:Nat} {x:AV} (h:nv1 b x=true) (o:Option Nat):AV.map2 (killr b o) x=x:=by
 cases x with
 | agg l=>show AV.agg (l.map _)=_;rw [nvL_eq o h]
 | tup l=>cases h
 | bad=>rfl
 | f x=>rfl
 | ptr c p=>rfl
 | fp x p=>rfl
 | ep c p i d=>exact nv0_eq (x:=.ep c p i d) h o
 | rf c p i d=>exact nv0_eq (x:=.rf c p i d) h o
 | own E l=>rfl
 | clo g l=>rfl
theorem noV_eq {b:Nat} (o:Option Nat):∀ {G:Sta},noV b G=true→mapv (AV.map2 (killr b o)) G=G
 | [],_=>rfl
 | (a,x) :: r,h=>by
   change (match nv1 b x with
    | true=>noV b r
    | false=>false)=true at h
   split at h
   ·rename_i hx;rw [mapv,nv1_eq hx,noV_eq o h]
   ·cases h
noncomputable def insX (b:Nat) (v:AV) (G:Sta):(Sta→R)→R:=List.rec (fun k=>k [(b,v)]) (fun p r ih k=>match Nat.beq p.1 b with
 | true=>k ((b,v) :: r)
 | false=>match Nat.blt b p.1 with
   | true=>k ((b,v) :: p :: r)
   | false=>ih fun m=>k (p :: m)) G
theorem insX_eq (b:Nat) (v:AV):∀ (G:Sta) (k:Sta→R),insX b v G k=k (ins b v G)
 | [],k=>rfl
 | (a,x) :: r,k=>by
   change (match Nat.beq a b with
    | true=>k ((b,v) :: r)
    | false=>match Nat.blt b a with
      | true=>k ((b,v) :: (a,x) :: r)
      | false=>insX b v r fun m=>k ((a,x) :: m))=k (if b < a then (b,v) :: (a,x) :: r else if b=a then (b,v) :: r else (a,x) :: ins b v r)
   rw [insX_eq b v r]
   cases h:Nat.beq a b with
   | true=>
     have:=Nat.eq_of_beq_eq_true h
     rw [if_neg (by omega),if_pos this.symm]
   | false=>
     have hne:b≠a:=fun e=>by rw [e] at h;simp at h
     cases h2:Nat.blt b a with
     | true=>
       rw [if_pos (by simpa [Nat.blt_eq] using h2)]
     | false=>
       rw [if_neg (fun e=>by rw [show Nat.blt b a=true from by simpa [Nat.blt_eq] using e] at h2;cases h2),if_neg hne]
noncomputable def updX (b:Nat) (g:AV→AV) (G:Sta):(Sta→R)→R:=List.rec (fun k=>k []) (fun p r ih k=>match Nat.beq p.1 b with
 | true=>sAV (g p.2) fun x=>k ((p.1,x) :: r)
 | false=>ih fun m=>k (p :: m)) G
theorem zgu (b:Nat) (g:AV→AV):∀ (G:Sta) (k:Sta→R),updX b g G k=k (upd b g G)
 | [],k=>rfl
 | (a,x) :: r,k=>by
   change (match Nat.beq a b with
    | true=>sAV (g x) fun x=>k ((a,x) :: r)
    | false=>updX b g r fun m=>k ((a,x) :: m))=k (if b=a then (a,g x) :: r else (a,x) :: upd b g r)
   rw [zgu b g r,sAV_eq]
   cases h:Nat.beq a b with
   | true=>rw [if_pos (Nat.eq_of_beq_eq_true h).symm]
   | false=>rw [if_neg (fun e=>by rw [e] at h;simp at h)]
noncomputable def appX (u:Up) (G:Sta) (k:Sta→R):R:=match u with
 | .set b v=>match noV b G with
   | true=>insX b v G k
   | false=>fSta sAV ((Up.set b v).app G) k
 | .put b v=>match noV b G with
   | true=>updX b (putV v) G k
   | false=>fSta sAV ((Up.put b v).app G) k
 | .leaf b o v=>match noV b G with
   | true=>updX b (setLeaf o v) G k
   | false=>fSta sAV ((Up.leaf b o v).app G) k
 | .upo b o v=>updX b (setLeaf o v) G k
 | .frz b o=>updX b (mapLeaf o Ev.frz) G k
 | .newbox b v=>fSta sAV ((Up.newbox b v).app G) k
theorem appX_eq (u:Up) (G:Sta) (k:Sta→R):appX u G k=k (u.app G):=by
 cases u with
 | set b v=>
   simp only [appX]
   split
   ·rename_i h;rw [insX_eq,Up.app,noV_eq none h]
   ·rw [zfu sAV_eq]
 | put b v=>
   simp only [appX]
   split
   ·rename_i h;rw [zgu,Up.app,noV_eq none h]
   ·rw [zfu sAV_eq]
 | leaf b o v=>
   simp only [appX]
   split
   ·rename_i h;rw [zgu,Up.app,noV_eq (some o) h]
   ·rw [zfu sAV_eq]
 | upo b o v=>simp only [appX,zgu,Up.app]
 | frz b o=>simp only [appX,zgu,Up.app]
 | newbox b v=>simp only [appX,zfu sAV_eq]
noncomputable def appsX (U:List Up) (G:Sta) (k:List Up→Sta→R):R:=List.rec (fun G k=>k [] G) (fun u _ ih G k=>fUp u fun u=>appX u G fun G=>ih G fun U G=>k (u :: U) G) U G k
theorem appsX_eq:∀ (U:List Up) (G:Sta) (k:List Up→Sta→R),appsX U G k=k U (app U G)
 | [],G,k=>rfl
 | u :: r,G,k=>by
   change (fUp u fun u=>appX u G fun G=>appsX r G fun U G=>k (u :: U) G)=_
   rw [fUp_eq,appX_eq,appsX_eq r];rfl
noncomputable def dropX (mask:Nat) (G:Sta):(Sta→R)→R:=List.rec (fun k=>k []) (fun p _ ih k=>match Nat.beq (Nat.mod p.1 3) 1 with
 | false=>ih fun m=>k (p :: m)
 | true=>match Nat.beq (Nat.land (Nat.shiftRight mask (Nat.div p.1 3)) 1) 0 with
   | true=>ih k
   | false=>ih fun m=>k (p :: m)) G
def deadB (mask:Nat) (b:Nat):Bool:=match Nat.beq (Nat.mod b 3) 1 with
 | false=>false
 | true=>Nat.beq (Nat.land (Nat.shiftRight mask (Nat.div b 3)) 1) 0
theorem dropX_eq (mask:Nat):∀ (G:Sta) (k:Sta→R),dropX mask G k=k (dropN (deadB mask) G)
 | [],k=>rfl
 | (a,x) :: r,k=>by
   change (match Nat.beq (Nat.mod a 3) 1 with
    | false=>dropX mask r fun m=>k ((a,x) :: m)
    | true=>match Nat.beq (Nat.land (Nat.shiftRight mask (Nat.div a 3)) 1) 0 with
      | true=>dropX mask r k
      | false=>dropX mask r fun m=>k ((a,x) :: m))=_
   simp only [dropX_eq mask r,dropN]
   cases h1:Nat.beq (Nat.mod a 3) 1 with
   | false=>
     rw [if_neg (by simp [deadB,h1])]
   | true=>
     cases h2:Nat.beq (Nat.land (Nat.shiftRight mask (Nat.div a 3)) 1) 0 with
     | true=>rw [if_pos (by simp only [deadB,h1,h2])]
     | false=>rw [if_neg (by simp only [deadB,h1,h2];simp)]
end
abbrev Kw:=FuncId→List AV→List AV→Option (AV×List AV)
abbrev ExR:=Option (Ex×Sta)
noncomputable def RM.ex (C:Kw) (G:Sta) (m:RM):List Acc→Option (List Up×List Acc):=
 RM.rec (motive:=fun _=>List Acc→Option (List Up×List Acc)) (fun U T=>some (U,T)) (fun _=>none)
  (fun b o _ ih T=>match lookX G b o with
    | some v=>match v.ok with
      | true=>ih v (T++accOf b o :: v.refs)
      | false=>none
    | none=>none)
  (fun b _ ih T=>match getX G b with
    | some v=>ih v.leaves.length (T++[.id b])
    | none=>none)
  (fun g args outs _ ih T=>match C g args outs with
    | some (r,o)=>ih r o T
    | none=>none) m
theorem ex_ret {C:Kw} {G:Sta} {U:List Up} {T:List Acc}:RM.ex C G (.ret U) T=some (U,T):=rfl
theorem ex_ask {C:Kw} {G:Sta} {b:Nat} {o:Option Nat} {k:AV→RM} {T:List Acc}:RM.ex C G (.ask b o k) T=match look G b o with
 | some v=>match v.ok with
   | true=>(k v).ex C G (T++accOf b o :: v.refs)
   | false=>none
 | none=>none:=by rw [← lookX_eq];rfl
theorem zg7 {C:Kw} {G:Sta} {b:Nat} {k:Nat→RM} {T:List Acc}:RM.ex C G (.peek b k) T=match get G b with
 | some v=>(k v.leaves.length).ex C G (T++[.id b])
 | none=>none:=by rw [← zfs];rfl
theorem zg8 {C:Kw} {G:Sta} {g:FuncId} {args outs:List AV} {k:AV→List AV→RM} {T:List Acc}:RM.ex C G (.call g args outs k) T=match C g args outs with
 | some (r,o)=>(k r o).ex C G T
 | none=>none:=rfl
def KwOk (P:Program) (C:Kw):Prop:=∀ g args outs r o,C g args outs=some (r,o)→CallE P g args outs r o
theorem RM.ex_wp {C:Kw} {G:Sta} (hC:KwOk P C):∀ (m:RM) {T:List Acc} {U:List Up} {T':List Acc} {K:List Up→List Acc→Prop},m.ex C G T=some (U,T')→K U T'→m.wp (CallE P) G T K
 | .ret U,T,U',T',K,h,hk=>by simp only [ex_ret,Option.some.injEq,Prod.mk.injEq] at h;obtain ⟨rfl,rfl⟩:=h;exact hk
 | .fail,T,U',T',K,h,hk=>by cases h
 | .ask b o k,T,U',T',K,h,hk=>by
   simp only [ex_ask,zg7,zg8] at h
   split at h
   ·rename_i v hv
    split at h
    ·rename_i hok;exact ⟨v,hv,hok,RM.ex_wp hC _ h hk⟩
    ·cases h
   ·cases h
 | .peek b k,T,U',T',K,h,hk=>by
   simp only [ex_ask,zg7,zg8] at h
   split at h
   ·rename_i v hv;exact ⟨v,hv,RM.ex_wp hC _ h hk⟩
   ·cases h
 | .call g args outs k,T,U',T',K,h,hk=>by
   simp only [ex_ask,zg7,zg8] at h
   split at h
   ·rename_i r o hr;exact ⟨r,o,hC _ _ _ _ _ hr,RM.ex_wp hC _ h hk⟩
   ·cases h
noncomputable def exOps (C:Kw) (c:Cfg) (ops:Array Oper) (draw:Bool) (K:List Lg→Sta→ExR):List Oper→Nat→List Lg→Sta→ExR
 | [],_,log,G=>K log G
 | o :: r,i,log,G=>match (guardRM c ops o).ex C G [] with
   | some (U,T)=>appsX U G fun U G'=>exOps C c ops draw K r (i+1) (match draw with | true=>log++[⟨i,T++Ups.refs U,Ups.writes U⟩] | false=>[]) G'
   | none=>none
theorem zhX {C:Kw} {c:Cfg} {ops:Array Oper} {draw:Bool} {K:List Lg→Sta→ExR} (hC:KwOk P C):∀ (r:List Oper) {p:List Oper} {log:List Lg} {G:Sta} {z:Ex×Sta},ops.toList=p++r→exOps C c ops draw K r p.length log G=some z→
 ∃ es G' log',es.map (·.i)=List.range' p.length r.length∧Runs (CallE P) (stepRM c ops) es G G'∧K log' G'=some z∧(draw=true→log'=log++es.map Ent.lg)
 | [],p,log,G,z,hp,h=>⟨[],G,log,rfl,rfl,h,fun _=>by simp⟩
 | o :: r,p,log,G,z,hp,h=>by
   have hop:ops[p.length]?=some o:=by
    rw [← Array.getElem?_toList,hp,List.getElem?_append_right (Nat.le_refl _)];simp
   unfold exOps at h
   split at h
   ·rename_i U T h1
    rw [appsX_eq] at h
    have hl:(p++[o]).length=p.length+1:=by simp
    rw [← hl] at h
    obtain ⟨es,G',log',e1,e2,e3,e4⟩:=zhX hC r (p:=p++[o]) (by rw [hp];simp) h
    refine ⟨⟨p.length,U,T⟩ :: es,G',log',by simp [e1,List.range'_succ],⟨?_,e2⟩,e3,fun hd=>?_⟩
    ·rw [zfj hop]
     exact RM.ex_wp hC _ h1 ⟨rfl,rfl⟩
    ·rw [e4 hd];subst hd;simp [Ent.lg,Ent.reads]
   ·cases h
noncomputable def exReg (C:Kw) (c:Cfg) (mk:Nat) (ops:Array Oper) (draw:Bool) (G:Sta):ExR:=
 exOps C c ops draw (fun log G'=>match draw with
  | true=>match topo ops && (ancOk ops (tabOf ops) && logOk (tabOf ops) log) with
    | true=>dropX mk G' fun G'=>some (.normal,G')
    | false=>none
  | false=>dropX mk G' fun G'=>some (.normal,G')) ops.toList 0 [] G
theorem exReg_sem {C:Kw} {c:Cfg} (hc:COk P c) (hC:KwOk P C) {id:Nat} {ops:Array Oper} {draw:Bool} {G:Sta} {e:Ex} {G':Sta} {K:Ex→Sta→Prop} {mk:Nat} (h:exReg C c mk ops draw G=some (e,G')) (hk:K e G'):Sem P c (.region id ops draw) G K:=by
 intro own a w F n Q hF s hQ
 obtain ⟨es,G1,log,e1,e2,e3,e4⟩:=zhX (P:=P) hC (p:=[]) _ rfl h
 have hd:e=.normal∧dropN (deadB mk) G1=G'∧(draw=true→topo ops=true∧ancOk ops (tabOf ops)=true∧logOk (tabOf ops) log=true):=by
  cases draw with
  | true=>
    dsimp only at e3
    split at e3
    ·rename_i hb
     simp only [Bool.and_eq_true] at hb
     simp only [dropX_eq,Option.some.injEq,Prod.mk.injEq] at e3
     exact ⟨e3.1.symm,e3.2,fun _=>hb⟩
    ·cases e3
  | false=>
    simp only [dropX_eq,Option.some.injEq,Prod.mk.injEq] at e3
    exact ⟨e3.1.symm,e3.2,fun h=>by cases h⟩
 obtain ⟨rfl,rfl,hd⟩:=hd
 have e1:es.map (·.i)=List.range ops.size:=by rw [e1,List.range_eq_range'];simp
 have hlt:∀ x∈es,x.i < ops.size:=fun x hx=>by
  have:x.i∈es.map (·.i):=List.mem_map.2 ⟨x,hx,rfl⟩
  rw [e1] at this;exact List.mem_range.1 this
 have fin:∀ own' a' w',St P c.nt G1 own' a' w'→Tr own w own' w'→a'.defers=a.defers→Q .normal a' w':=fun own' a' w' s' t' d'=>hQ .normal _ own' a' w' hk (s'.drop _) t' (.same d')
 cases draw with
 | true=>
   obtain ⟨htopo,htab,hlog⟩:=hd rfl
   obtain ⟨s1,t1⟩:=s.drawn (w.drawn+1)
   refine wpIn_region_any hc.ro ?_
   refine runs_any hc.cfg hc.ip (fun _ _ _ _ _ h=>h) hF.1 htopo ops.size es (by have:=congrArg List.length e1;simp at this;omega) (by simp) ?_ ?_ hlt (by rw [e1];exact List.pairwise_lt_range) (zes htopo htab hlt (by rw [e4 rfl,List.nil_append] at hlog;exact hlog)) s1 e2
    (fun own' a' w' s' t' d'=>fin own' a' w' s' (t1.trans t') d')
   ·intro i o ho hl
    have hi:=(Array.getElem?_eq_some_iff.1 ho).1
    simp [Array.getD_eq_getD_getElem?,hi] at hl
   ·intro i hi
    rw [e1];simp [Array.getD_eq_getD_getElem?,hi]
 | false=>
   refine wpIn_region ?_
   rw [← e1]
   exact zgz hc.cfg hc.ip (fun _ _ _ _ _ h=>h) hF.1 es s e2 fin
noncomputable def condB (x:Operand) (G:Sta):Option Bool:=match x with
 | .tmp t=>match getX G (tb t) with
   | some (.f (.pv (.bool b)))=>some b
   | _=>none
 | .const (.bool b)=>some b
 | _=>none
noncomputable def exStep (c:Cfg) (mk:Nat) (C:Kw) (ih:Code→Sta→ExR) (x:Code) (G:Sta):ExR:=
 match x with
 | .skip=>some (.normal,G)
 | .region _ ops draw=>exReg C c mk ops draw G
 | .seq x y=>match ih x G with
   | some (.normal,G')=>ih y G'
   | r=>r
 | .cond b x y=>match condB b G with
   | some true=>ih x G
   | some false=>ih y G
   | none=>none
 | .block id x=>match ih x G with
   | some (.exit j,G')=>match Nat.beq j id with
     | true=>some (.normal,G')
     | false=>some (.exit j,G')
   | r=>r
 | .loop x=>match ih x G with
   | some (.normal,G')=>ih (.loop x) G'
   | r=>r
 | .exit id=>some (.exit id,G)
 | .ret=>some (.ret,G)
 | .label _=>some (.normal,G)
 | _=>none
noncomputable def exC (c:Cfg) (mk:Nat) (C:Kw) (n:Nat):Code→Sta→ExR:=Nat.rec (fun _ _=>none) (fun _ ih=>exStep c mk C ih) n
theorem exC_sem {C:Kw} {c:Cfg} {mk:Nat} (hc:COk P c) (hC:KwOk P C):∀ (n:Nat) (m:Nat) (x:Code) {G:Sta} {e:Ex} {G':Sta} {K:Ex→Sta→Prop},m≤n→exC c mk C m x G=some (e,G')→K e G'→Sem P c x G K
 | _,0,_,_,_,_,_,_,h,_=>by cases h
 | 0,m+1,_,_,_,_,_,hm,_,_=>absurd hm (by omega)
 | n+1,m+1,x,G,e,G',K,hm,h,hk=>by
   have ih:=fun (x:Code) {G:Sta} {e:Ex} {G':Sta} {K:Ex→Sta→Prop} (h:exC c mk C m x G=some (e,G')) (hk:K e G')=>exC_sem hc hC n m x (by omega) h hk
   change exStep c mk C (exC c mk C m) x G=some (e,G') at h
   unfold exStep at h
   split at h
   ·simp only [Option.some.injEq,Prod.mk.injEq] at h;obtain ⟨rfl,rfl⟩:=h;exact Sem.skip Wk.refl hk
   ·exact exReg_sem hc hC h hk
   ·rename_i x y
    split at h
    ·rename_i G1 h1
     exact Sem.seq (ih x h1 (ih y h hk))
    ·rename_i h1
     refine Sem.seq (ih x h ?_)
     cases e with
     | normal=>exact absurd h (h1 _)
     | _=>exact hk
   ·rename_i b x y
    split at h
    ·rename_i hb
     unfold condB at hb
     simp only [zfs] at hb
     split at hb
     ·split at hb
      ·rename_i hg;cases hb
       exact Sem.cond hg (fun _=>ih x h hk) (fun e=>by cases e)
      ·cases hb
     ·cases hb;exact Sem.condc (fun _=>ih x h hk) (fun e=>by cases e)
     ·cases hb
    ·rename_i hb
     unfold condB at hb
     simp only [zfs] at hb
     split at hb
     ·split at hb
      ·rename_i hg;cases hb
       exact Sem.cond hg (fun e=>by cases e) (fun _=>ih y h hk)
      ·cases hb
     ·cases hb;exact Sem.condc (fun e=>by cases e) (fun _=>ih y h hk)
     ·cases hb
    ·cases h
   ·rename_i id x
    refine Sem.block ?_
    split at h
    ·rename_i j G1 h1
     refine ih x h1 ?_
     simp only [blockK]
     split at h
     ·rename_i hj
      simp only [Option.some.injEq,Prod.mk.injEq] at h;obtain ⟨rfl,rfl⟩:=h
      rw [if_pos (Nat.eq_of_beq_eq_true hj)];exact hk
     ·rename_i hj
      simp only [Option.some.injEq,Prod.mk.injEq] at h;obtain ⟨rfl,rfl⟩:=h
      rw [if_neg (fun e=>by rw [e] at hj;simp at hj)];exact hk
    ·rename_i h1
     refine ih x h ?_
     cases e with
     | exit j=>exact absurd h (h1 _ _)
     | _=>exact hk
   ·rename_i x
    refine Sem.loop (σ:=Nat×Sta) (fun s=>s.2) (fun s=>s.1≤m+1∧exC c mk C s.1 (.loop x) s.2=some (e,G')) (fun s=>s.1) (m+1,G) Wk.refl ⟨Nat.le_refl _,h⟩ ?_
    rintro ⟨k,S⟩ ⟨hk1,hk2⟩
    cases k with
    | zero=>cases hk2
    | succ k=>
      dsimp only at hk1 hk2 ⊢
      change (match exC c mk C k x S with
       | some (.normal,G')=>exC c mk C k (.loop x) G'
       | r=>r)=some (e,G') at hk2
      split at hk2
      ·rename_i G1 h1
       exact exC_sem hc hC n k x (by omega) h1 ⟨(k,G1),Wk.refl,⟨by show k≤m+1;omega,hk2⟩,Nat.lt_succ_self _⟩
      ·rename_i h1
       refine exC_sem hc hC n k x (by omega) hk2 ?_
       cases e with
       | normal=>exact absurd hk2 (h1 _)
       | _=>exact hk
   ·simp only [Option.some.injEq,Prod.mk.injEq] at h;obtain ⟨rfl,rfl⟩:=h;exact Sem.exit Wk.refl hk
   ·simp only [Option.some.injEq,Prod.mk.injEq] at h;obtain ⟨rfl,rfl⟩:=h;exact Sem.ret Wk.refl hk
   ·simp only [Option.some.injEq,Prod.mk.injEq] at h;obtain ⟨rfl,rfl⟩:=h;exact Sem.label Wk.refl hk
   ·cases h
def noK:Kw:=fun _ _ _=>none
theorem zhL:KwOk P noK:=fun _ _ _ _ _ h=>by cases h
noncomputable def exEnd (c:Cfg) (rs:List ResultVar) (n:Nat) (e:Ex) (G:Sta):Option (AV×List AV):=
 match e with
 | .exit _=>none
 | _=>match (resRM c rs).ex noK G [] with
   | some (.set _ x :: W,_)=>match evOuts n 0 (app W G) with
     | some l=>fAV 5 x fun x=>fList (fAV 5) l fun l=>some (x,l)
     | none=>none
   | _=>none
theorem RM.ex_wq {CE:CEx} {G:Sta}:∀ (m:RM) {T:List Acc} {U:List Up} {T':List Acc} {K:List Up→Prop},m.ex noK G T=some (U,T')→K U→m.wq CE G K
 | .ret U,T,U',T',K,h,hk=>by simp only [ex_ret,Option.some.injEq,Prod.mk.injEq] at h;obtain ⟨rfl,rfl⟩:=h;exact hk
 | .fail,T,U',T',K,h,hk=>by cases h
 | .ask b o k,T,U',T',K,h,hk=>by
   simp only [ex_ask,zg7,zg8] at h
   split at h
   ·rename_i v hv
    split at h
    ·rename_i hok
     simp only [RM.wq,hv];exact ⟨hok,RM.ex_wq _ h hk⟩
    ·cases h
   ·cases h
 | .peek b k,T,U',T',K,h,hk=>by
   simp only [ex_ask,zg7,zg8] at h
   split at h
   ·rename_i v hv;simp only [RM.wq,hv];exact RM.ex_wq _ h hk
   ·cases h
 | .call g args outs k,T,U',T',K,h,hk=>by cases h
theorem exEnd_endK {c:Cfg} {rs:List ResultVar} {n:Nat} {e:Ex} {G:Sta} {x:AV} {l:List AV} {R:AV→List AV→Prop} {CE:CEx} (h:exEnd c rs n e G=some (x,l)) (hR:R x l):endK CE c rs n R e G:=by
 unfold exEnd at h
 split at h
 ·cases h
 ·rename_i he
  split at h
  ·rename_i b x1 W T h1
   split at h
   ·rename_i l1 hl
    rw [zfV,zcg (zfV 5)] at h
    simp only [Option.some.injEq,Prod.mk.injEq] at h;obtain ⟨rfl,rfl⟩:=h
    have:=RM.ex_wq (CE:=CE) (K:=endU n R G) _ h1 (zdh hl hR)
    cases e with
    | exit id=>exact absurd rfl (he id)
    | normal=>exact this
    | ret=>exact this
   ·cases h
  ·cases h
structure XOk (P:Program) (cfg:FuncId→Nat→Cfg):Prop where
 ok:∀ g nt,COk P (cfg g nt)
 nt:∀ g nt,(cfg g nt).nt=nt
noncomputable def exF (P:Program) (cfg:FuncId→Nat→Cfg) (mks:FuncId→Nat) (K0:Kw) (m:Nat) (n:Nat):Kw:=
 Nat.rec (fun _ _ _=>none) (fun _ ih g args outs=>match K0 g args outs with
  | some r=>some r
  | none=>match P.funcs[g]? with
    | none=>none
    | some fn=>match fn.body with
      | none=>none
      | some x=>match !(fn.name == "runtime.NumGoroutine") && (Nat.ble args.length fn.ntmps && (args.all (shut1 false fun _=>true) && (outs.all (shut1 true fun _=>true) && Nat.ble (args.length+outs.length) 64))) with
        | false=>none
        | true=>fSta (fAV 5) (entryF 64 0 args outs) fun G=>match exC (cfg g fn.ntmps) (mks g) ih m x G with
          | some (e,G')=>exEnd (cfg g fn.ntmps) fn.results.toList outs.length e G'
          | none=>none) n
theorem zg9 {cfg:FuncId→Nat→Cfg} {mks:FuncId→Nat} {K0:Kw} (hx:XOk P cfg) (h0:KwOk P K0) (m:Nat):∀ n,KwOk P (exF P cfg mks K0 m n)
 | 0=>zhL
 | n+1=>fun g args outs r o h=>by
   change (match K0 g args outs with
    | some r=>some r
    | none=>match P.funcs[g]? with
      | none=>none
      | some fn=>match fn.body with
        | none=>none
        | some x=>match !(fn.name == "runtime.NumGoroutine") && (Nat.ble args.length fn.ntmps && (args.all (shut1 false fun _=>true) && (outs.all (shut1 true fun _=>true) && Nat.ble (args.length+outs.length) 64))) with
          | false=>none
          | true=>fSta (fAV 5) (entryF 64 0 args outs) fun G=>match exC (cfg g fn.ntmps) (mks g) (exF P cfg mks K0 m n) m x G with
            | some (e,G')=>exEnd (cfg g fn.ntmps) fn.results.toList outs.length e G'
            | none=>none)=some (r,o) at h
   split at h
   ·rename_i hk;cases h;exact h0 _ _ _ _ _ hk
   ·split at h
    ·cases h
    ·rename_i fn hfn
     split at h
     ·cases h
     ·rename_i x hx1
      split at h
      ·cases h
      ·rename_i hb
       rw [zfu (zfV 5)] at h
       simp only [Bool.and_eq_true,Bool.not_eq_true'] at hb
       obtain ⟨b1,b2,b3,b4,b5⟩:=hb
       split at h
       ·rename_i e G' he
        refine zdY (hx.ok g fn.ntmps) hfn b1 hx1 (hx.nt g _) (Nat.le_of_ble_eq_true b2) b3 b4 (Nat.le_of_ble_eq_true b5) ?_
        refine exC_sem (hx.ok g _) (zg9 hx h0 m n) m m x (Nat.le_refl _) he ⟨G',Wk.refl,exEnd_endK h ⟨rfl,rfl⟩⟩
       ·cases h
end Go.Ev
set_option linter.unusedVariables false
namespace Go.Ev
open Go
def insI (x:Int):List Int→List Int
 | []=>[x]
 | y :: r=>match decide (x≤y) with
   | true=>x :: y :: r
   | false=>y :: insI x r
def isort:List Int→List Int
 | []=>[]
 | x :: r=>insI x (isort r)
theorem zgU (x:Int):∀ l,List.Perm (insI x l) (x :: l)
 | []=>.refl _
 | y :: r=>by
   unfold insI
   split
   ·exact .refl _
   ·exact ((zgU x r).cons y).trans (.swap x y r)
theorem zhS:∀ l,List.Perm (isort l) l
 | []=>.refl _
 | x :: r=>(zgU x _).trans ((zhS r).cons x)
theorem zgT (x:Int):∀ l,l.Pairwise (·≤·)→(insI x l).Pairwise (·≤·)
 | [],_=>by simp [insI]
 | y :: r,h=>by
   rw [List.pairwise_cons] at h
   unfold insI
   split
   ·rename_i hxy
    have hxy:=of_decide_eq_true hxy
    refine List.pairwise_cons.2 ⟨fun z hz=>?_,List.pairwise_cons.2 h⟩
    rcases List.mem_cons.1 hz with rfl | hz
    ·exact hxy
    ·exact Int.le_trans hxy (h.1 z hz)
   ·rename_i hxy
    have hxy:=of_decide_eq_false hxy
    refine List.pairwise_cons.2 ⟨fun z hz=>?_,zgT x r h.2⟩
    rcases List.mem_cons.1 ((zgU x r).mem_iff.1 hz) with rfl | hz
    ·omega
    ·exact h.1 z hz
theorem zfQ:∀ l,(isort l).Pairwise (·≤·)
 | []=>.nil
 | x :: r=>zgT x _ (zfQ r)
theorem isort_eq (l:List Int):isort l=sortInts l:=by
 refine List.Perm.eq_of_pairwise (le:=(·≤·)) (fun a b _ _ h1 h2=>Int.le_antisymm h1 h2) (zfQ l) ?_ ((zhS l).trans (List.mergeSort_perm l _).symm)
 have:=List.pairwise_mergeSort (le:=fun x y:Int=>decide (x≤y)) (fun a b c h1 h2=>by simp at *;omega) (fun a b=>by simp;omega) l
 exact this.imp fun h=>of_decide_eq_true h
def sortF2 (l:List FV):Option (List FV):=match fvInts l with
 | some zs=>match Nat.blt zs.length (2 ^ 40) with
   | true=>some ((isort zs).map fun n=>.pv (.int .i64 n))
   | false=>none
 | none=>none
theorem sortF2_eq:sortF2=sortF:=by
 funext l
 unfold sortF2 sortF
 cases fvInts l with
 | none=>rfl
 | some zs=>
   dsimp only
   by_cases h:zs.length < 2 ^ 40
   ·rw [if_pos h,show Nat.blt zs.length (2 ^ 40)=true from by simp [Nat.blt_eq,h],isort_eq]
   ·rw [if_neg h,show Nat.blt zs.length (2 ^ 40)=false from by rw [Bool.eq_false_iff];simpa [Nat.blt_eq] using h]
def cfgX (c:Cfg) (g0:FuncId):Cfg:={ c with ip:=fun g=>match Nat.beq g g0 with
 | true=>some (sortF2,false)
 | false=>c.ip g }
theorem cfgX_ok {P:Program} {c:Cfg} {g0:FuncId} (hc:COk P c) (h:c.ip g0=some (sortF,false)):COk P (cfgX c g0):=by
 have:cfgX c g0=c:=by
  unfold cfgX
  cases c
  simp only [Cfg.mk.injEq,true_and,and_true] at h ⊢
  funext g
  split
  ·rename_i e
   rw [Nat.eq_of_beq_eq_true e,h,sortF2_eq]
  ·rfl
 rw [this];exact hc
def mvT:List (Nat×List Nat)→Nat→List Nat
 | [],_=>[]
 | (a,l) :: r,g=>match Nat.beq a g with
   | true=>l
   | false=>mvT r g
def mkT:List (Nat×Nat)→Nat→Nat
 | [],_=>2 ^ 300 - 1
 | (a,l) :: r,g=>match Nat.beq a g with
   | true=>l
   | false=>mkT r g
def eqL {α:Type} (f:α→α→Bool):List α→List α→Bool
 | [],[]=>true
 | x :: r,y :: s=>match f x y with
   | true=>eqL f r s
   | false=>false
 | _,_=>false
theorem zha {α:Type} {f:α→α→Bool} (h:∀ x y,f x y=true→x=y):∀ {l m:List α},eqL f l m=true→l=m
 | [],[],_=>rfl
 | x :: r,y :: s,e=>by
   unfold eqL at e
   split at e
   ·rename_i hx;rw [h x y hx,zha h e]
   ·cases e
 | [],_ :: _,e=>by cases e
 | _ :: _,[],e=>by cases e
def eqI (a b:Int):Bool:=match a,b with
 | .ofNat a,.ofNat b=>Nat.beq a b
 | .negSucc a,.negSucc b=>Nat.beq a b
 | _,_=>false
theorem eqI_eq {a b:Int} (h:eqI a b=true):a=b:=by
 unfold eqI at h
 split at h
 ·rw [Nat.eq_of_beq_eq_true h]
 ·rw [Nat.eq_of_beq_eq_true h]
 ·cases h
def eqVal (x y:Value):Bool:=match x,y with
 | .int k a,.int k' b=>decide (k=k') && eqI a b
 | .bool true,.bool true=>true
 | .bool false,.bool false=>true
 | .string a,.string b=>eqL (fun (x y:UInt8)=>Nat.beq x.toNat y.toNat) a.data.toList b.data.toList
 | _,_=>false
theorem eqVal_eq {x y:Value} (h:eqVal x y=true):x=y:=by
 unfold eqVal at h
 split at h
 ·simp only [Bool.and_eq_true,decide_eq_true_eq] at h;rw [h.1,eqI_eq h.2]
 ·rfl
 ·rfl
 ·rename_i a b
  have:=zha (fun x y e=>UInt8.toNat_inj.1 (Nat.eq_of_beq_eq_true e)) h
  obtain ⟨⟨a⟩⟩:=a
  obtain ⟨⟨b⟩⟩:=b
  simp only at this
  rw [this]
 ·cases h
def eqFV:Nat→FV→FV→Bool
 | 0,_,_=>false
 | n+1,x,y=>match x,y with
   | .pv a,.pv b=>eqVal a b
   | .agg l,.agg m=>eqL (eqFV n) l m
   | .sl l,.sl m=>eqL (eqFV n) l m
   | _,_=>false
theorem eqFV_eq:∀ (n:Nat) (x y:FV),eqFV n x y=true→x=y
 | 0,_,_,h=>by cases h
 | n+1,x,y,h=>by
   unfold eqFV at h
   split at h
   ·rw [eqVal_eq h]
   ·rw [zha (eqFV_eq n) h]
   ·rw [zha (eqFV_eq n) h]
   ·cases h
def eqAV:Nat→AV→AV→Bool
 | 0,_,_=>false
 | n+1,x,y=>match x,y with
   | .f a,.f b=>eqFV 60 a b
   | .agg l,.agg m=>eqL (eqAV n) l m
   | .tup l,.tup m=>eqL (eqAV n) l m
   | _,_=>false
theorem eqAV_eq:∀ (n:Nat) (x y:AV),eqAV n x y=true→x=y
 | 0,_,_,h=>by cases h
 | n+1,x,y,h=>by
   unfold eqAV at h
   split at h
   ·rw [eqFV_eq _ _ _ h]
   ·rw [zha (eqAV_eq n) h]
   ·rw [zha (eqAV_eq n) h]
   ·cases h
def addK (C:Kw) (g0:FuncId) (a0:List AV) (r0:AV):Kw:=fun g args outs=>match Nat.beq g g0 with
 | false=>C g args outs
 | true=>match outs with
   | []=>match eqL (eqAV 3) args a0 with
     | true=>some (r0,[])
     | false=>C g args outs
   | _=>C g args outs
theorem addK_ok {P:Program} {C:Kw} {g0:FuncId} {a0:List AV} {r0:AV} (hC:KwOk P C) (h0:CallE P g0 a0 [] r0 []):KwOk P (addK C g0 a0 r0):=by
 intro g args outs r o h
 unfold addK at h
 split at h
 ·exact hC _ _ _ _ _ h
 ·rename_i hg
  split at h
  ·split at h
   ·rename_i he
    simp only [Option.some.injEq,Prod.mk.injEq] at h
    obtain ⟨rfl,rfl⟩:=h
    rw [Nat.eq_of_beq_eq_true hg,zha (eqAV_eq 3) he];exact h0
   ·exact hC _ _ _ _ _ h
  ·exact hC _ _ _ _ _ h
end Go.Ev
set_option linter.unusedSimpArgs false
set_option linter.unusedVariables false
namespace Go.Ev
open Go Go.Proofs
def mvTab:List (Nat×List Nat):=[(9,[19]),(10,[31]),(16,[91]),(18,[49]),(20,[21,39,47,48]),(21,[85,86]),(24,[40,41,87,88]),(25,[74]),(31,[80]),(33,[28,59]),(36,[92]),(38,[26]),(42,[84]),(43,[38]),(47,[85]),(50,[45,61]),(57,[60]),(59,[22]),(61,[64]),(63,[40]),(65,[28]),(66,[62]),(69,[12]),(72,[43]),(74,[40]),(87,[22]),(89,[11]),(90,[17]),(91,[17]),(94,[35]),(95,[16]),(96,[50]),(97,[16]),(100,[22]),(105,[34]),(109,[42,65,117]),(114,[17]),(115,[20]),(117,[9,60]),(119,[26]),(121,[99,159]),(126,[37,68]),(127,[17]),(131,[76]),(132,[36]),(133,[44]),(134,[4]),(137,[26]),(141,[17]),(144,[41]),(145,[75]),(146,[55]),(147,[22]),(151,[53,56,50]),(155,[83]),(156,[80,167]),(160,[17]),(162,[4]),(167,[35]),(170,[24,25,26,27])]
def mkTab:List (Nat×Nat):=[(0,0),(1,0),(2,1),(3,51150847),(4,26180351),(5,20311114336839225606048738967551),(6,103676184045524862859273305087),(7,8919376833460436991),(8,169911889778823454311579647),(9,970687),(10,21303391),(11,1720048800366591),(12,79938063368191),(13,16615140451519999),(14,1246180066586631010303),(15,1069352461359706520575),(16,4949071951373595215252910079),(17,799652870357495316479),(18,1094156190546943),(19,22440920856670463),(20,48705928839167),(21,20769374479943885436092415),(22,182519825271200419703983765723122025471),(23,103),(24,19796178920360271631417343),(25,35568957268767864651903),(26,91861730047),(27,103),(28,103),(29,991),(30,45119),(31,32012181013889739044351),(32,44717439),(33,365515997340883455),(34,991),(35,827304666842329471),(36,9452216576849685421410746367),(37,415),(38,14222911),(39,32767),(40,44717439),(41,2033016789861426175),(42,26483012487235437344062975),(43,404633387007),(44,749885181142786709002495),(45,30333194644781450604232866942414591),(46,976816504391623167),(47,46776595544969660462940927),(48,6939940625324713458896383),(49,2611899615),(50,4198966582730863103),(51,7),(52,127),(53,127),(54,15),(55,2105343),(56,783),(57,1034750495697600511),(58,16415),(59,7078271),(60,63),(61,697315381217042431),(62,290184631),(63,2181808166271),(64,2127),(65,503316351),(66,6595090301555572669),(67,237382586126004735),(68,1151),(69,2319),(70,245631),(71,2127),(72,17519415613311),(73,991),(74,575735489279),(75,1073742063),(76,33311),(77,6771418607615),(78,69341631),(79,214746687),(80,127),(81,2144634104195964678593313791),(82,16383),(83,3813328480645375),(84,9223372036854810655),(85,1038451245142597451828003408537023),(86,579892441841488023295),(87,7431551),(88,44717439),(89,3951),(90,89087),(91,121855),(92,804978687),(93,16415),(94,51526074367),(95,98847),(96,2098614184710143),(97,111199),(98,115837),(99,45659165119),(100,458367),(101,1015679),(102,796878719),(103,1791),(104,63),(105,32689427039),(106,32919),(107,15),(108,366884988728372564664010998062997922430463),(109,647397559094766186389539901497343999),(110,156543),(111,7),(112,7),(113,25437071),(114,121855),(115,1454079),(116,1071),(117,1966582826695732095),(118,25437071),(119,114756319),(120,63),(121,1459996639440916079562133290943170518297767444479),(122,67775),(123,581127330000383),(124,127),(125,15),(126,34027325145605147099135),(127,87039),(128,7),(129,305439),(130,3),(131,119239753670294744330239),(132,108414238207),(133,34084522268415),(134,31),(135,5617494048973968087432204999419197128703),(136,7),(137,120153471),(138,4239),(139,4870847),(140,4361359),(141,121855),(142,370975),(143,17177742271),(144,4398032355071),(145,71461516959638126311422),(146,70783739968878591),(147,7431551),(148,468711010996479),(149,40154758497437695),(150,30706254751536809979),(151,20849270198378495),(152,223699197),(153,9066260874307452476066618962120827488255),(154,31),(155,503725912592557376450559),(156,155890296682650809670969036044288494793371396956159),(157,279),(158,16663),(159,527671295),(160,194559),(161,15),(162,31),(163,30882313655943784629245),(164,7),(165,2723227799),(166,255),(167,4716044287),(168,7),(169,370975),(170,9787391)]
noncomputable def cfx (g:FuncId) (nt:Nat):Cfg:=cfgX (cf (mvT mvTab g) nt) 116
theorem zh0:XOk Tryz.prog cfx:=⟨fun g nt=>cfgX_ok (cfOk _ nt) rfl,fun _ _=>rfl⟩
end Go.Ev
set_option linter.unusedSimpArgs false
set_option linter.unusedVariables false
namespace Go.Ev.Pl
open Go Go.Ev Go.Proofs
abbrev zRx:ze:={ Kind:=(0:Int),Set:={ e0:=(0:Int),e1:=(0:Int),e2:=(0:Int),e3:=(0:Int) },Lo:=(0:Int),Hi:=(0:Int),Kids:=[] }
def nmA:ByteArray:={ data:=#[(73:UInt8),(78:UInt8),(73:UInt8),(84:UInt8),(73:UInt8),(65:UInt8),(76:UInt8)] }
theorem name_a:zhu nmA true:=zg9 (mks:=mkT mkTab) zh0 zhL 400 5 75 [vS nmA] [] _ [] (by kernel_rfl)
theorem rName_a:zcM nmA true:=zg9 (mks:=mkT mkTab) zh0 zhL 400 5 84 [vS nmA] [] _ [] (by kernel_rfl)
structure Plain (r:zj):Prop where
 conds:r.Conds=[]
 eof:r.Eof=false
 act:r.Act=1
 to:r.To=0
 wf:Wf r.Rx
 right:rightB r.Rx=true
 trail:r.Trail=zRx
def spr (r:zj):zu:=⟨r.Conds,r.All,r.Bol,r.Rx,r.Trail,r.Eof,r.Act,r.To⟩
theorem holds_ok {r:zj} (h:Plain r):zbG (spr r) 1 true:=by
 refine zfB (spr r) 1 _ ⟨fun t=>t=0,fun t=>0,rfl,?_⟩
 rintro t rfl
 have he:(spr r).Conds=[]:=h.conds
 rw [he]
 refine ⟨fun ht=>by simp at ht,fun _=>?_⟩
 show true=(!r.All || true)
 rw [Bool.or_true]
theorem does_ok {r:zj} (h:Plain r):zbK (spr r) 1 true:=by
 refine zf7 (spr r) 1 _ ⟨fun h3=>?_,fun h3=>?_⟩
 ·have h3:r.Act=3:=by simpa [spr] using h3
  have:=h.act;omega
 ·show true=(bif r.Act == 1 then r.To == 0 else r.Act == 2 && r.To == 0)
  rw [h.act,h.to];rfl
theorem none_z:zbP zRx true:=W_spec_none zRx _ (by rfl)
theorem matches_ok {r:zj} (h:Plain r):zbp (spr r) true:=by
 refine zew (spr r) _ ⟨fun he=>?_,fun he=>?_⟩
 ·have he:r.Eof=true:=he
  rw [h.eof] at he;cases he
 ·have hrx:=zeM r.Rx h.wf
  rw [h.right] at hrx
  exact ⟨true,hrx,fun _=>⟨true,(by show zbP r.Trail true;rw [h.trail];exact none_z),fun _=>rfl,(fun h=>by cases h)⟩,(fun h=>by cases h)⟩
theorem odd_r {r:zj} (h:Plain r):zb5 r 1 false 1:=
 zhs r 1 _ _ ⟨true,holds_ok h,(fun h=>by cases h),fun _=>⟨true,does_ok h,(fun h=>by cases h),fun _=>⟨true,matches_ok h,rfl,rfl⟩⟩⟩
theorem odds_ok {rs:List zj} (h:∀ r∈rs,Plain r) (hl:rs.length≤1000):zL rs 1 false 1:=by
 refine zaR rs 1 _ _ ⟨-1,1,zaV rs 1 _ _ ⟨fun o t=>o=1∧∃ k:Nat,t=k∧k≤rs.length,fun _ t=>(rs.length - t).toNat,⟨rfl,0,rfl,by omega⟩,?_⟩,rfl,rfl⟩
 rintro o t ⟨rfl,k,rfl,hk⟩
 rw [zb8]
 refine ⟨fun ht=>?_,fun _=>⟨rfl,rfl⟩⟩
 have ht:=of_decide_eq_true ht
 rw [z7 ht,show w64 ((k:Int)+1)=((k+1:Nat):Int) from zT (by omega) (by omega)]
 exact ⟨by omega,by omega,false,1,odd_r (h _ (List.getElem_mem ht)),(fun h=>by cases h),fun _=>⟨⟨rfl,k+1,rfl,by omega⟩,by first | omega | (dsimp only;omega)⟩⟩
def specL (rs:List zj):zh:={ Conds:=[⟨nmA,false⟩],Default:=false,Rules:=rs }
theorem first_ok (rs:List zj):(ByteArray.toList (zJ.Name (List.getD (zh.Conds (specL rs)) (0:Nat) default)) == ByteArray.toList { data:=#[(73:UInt8),(78:UInt8),(73:UInt8),(84:UInt8),(73:UInt8),(65:UInt8),(76:UInt8)] })=true:=beq_self_eq_true _
theorem specRight_ok (rs:List zj) (hR:∀ r∈rs,Plain r) (hl:rs.length≤40):zck (specL rs) true:=by
 refine W_spec_Right (specL rs) _ ?_
 rw [first_ok rs]
 simp only [List.length_map]
 refine ⟨fun _ _ _=>Nat.zero_lt_one,fun hb=>?_,fun _=>⟨fun l t=>(t=0∧l=[])∨(t=1∧l=[nmA]),fun l t=>(1 - t).toNat,.inl ⟨rfl,rfl⟩,?_⟩⟩
 ·exfalso
  have:decide ((rs.length:Int) > 40)=false:=by simp;omega
  simp [specL,this] at hb
 rintro l t (⟨rfl,rfl⟩ | ⟨rfl,rfl⟩)
 ·refine ⟨fun _=>⟨by omega,(by show (0:Int) < ((1:Nat):Int);decide),true,name_a,(fun h=>by cases h),fun _=>⟨.inr ⟨by rfl,by rfl⟩,(by show (1 - w64 (0+1)).toNat < (1 - 0:Int).toNat;decide)⟩⟩,(fun h=>absurd h (by show ¬ decide ((0:Int) < ((1:Nat):Int))=false;decide))⟩
 ·exact ⟨(fun h=>absurd h (by show ¬ decide ((1:Int) < ((1:Nat):Int))=true;decide)),fun _=>⟨fun _=>⟨false,1,odds_ok hR (show rs.length≤1000 by omega),rfl⟩,fun h=>absurd h (by show ¬ (((1:Nat):Int) == ((1:Nat):Int))=false;decide)⟩⟩
theorem rNone_z:zaT zRx true:=zff zRx _ (by rfl)
theorem rRule_ok {r:zj} (h:Plain r):zaS r 1 true:=by
 refine zfe r 1 _ ⟨fun t=>t=0,fun t=>0,rfl,?_⟩
 rintro t rfl
 rw [h.conds,h.act,h.to]
 refine ⟨fun ht=>by simp at ht,fun _=>⟨fun hb=>?_,fun _=>⟨fun he=>?_,fun he=>?_⟩⟩⟩
 ·exfalso;cases ha:r.All<;>rw [ha] at hb<;>simp at hb
 ·rw [h.eof] at he;cases he
 ·have hrx:=zea r.Rx h.wf
  rw [h.right] at hrx
  exact ⟨true,hrx,fun _=>⟨true,by rw [h.trail];exact rNone_z,fun _=>rfl,(fun h=>by cases h)⟩,(fun h=>by cases h)⟩
theorem zgD (rs:List zj) (hR:∀ r∈rs,Plain r) (hl:rs.length≤40):za5 (specL rs) true:=by
 refine zeF (specL rs) _ ?_
 rw [first_ok rs]
 simp only [List.length_map]
 refine ⟨fun _ _=>Nat.zero_lt_one,fun hb=>?_,fun _=>⟨fun t=>t=0∨t=1,fun t=>(1 - t).toNat,.inl rfl,?_⟩⟩
 ·exfalso
  have:decide ((rs.length:Int) > 40)=false:=by simp;omega
  simp [specL,this] at hb
 rintro t (rfl | rfl)
 ·refine ⟨fun _=>⟨by omega,(by show (0:Int) < ((1:Nat):Int);decide),true,rName_a,(fun h=>by cases h),fun _=>⟨fun t=>t=0,fun _=>0,rfl,?_⟩⟩,(fun h=>absurd h (by show ¬ decide ((0:Int) < ((1:Nat):Int))=false;decide))⟩
  rintro t rfl
  exact ⟨(fun h=>absurd h (by decide)),fun _=>⟨.inr (by rfl),(by show (1 - w64 (0+1)).toNat < (1 - 0:Int).toNat;decide)⟩⟩
 ·refine ⟨(fun h=>absurd h (by show ¬ decide ((1:Int) < ((1:Nat):Int))=true;decide)),fun _=>⟨fun t=>∃ k:Nat,t=k∧k≤rs.length,fun t=>(rs.length - t).toNat,⟨0,rfl,by omega⟩,?_⟩⟩
  rintro t ⟨k,rfl,hk⟩
  show (decide ((k:Int) < (rs.length:Int))=true→_)∧(decide ((k:Int) < (rs.length:Int))=false→_)
  rw [zb8]
  refine ⟨fun ht=>?_,fun _=>by trivial⟩
  have ht:=of_decide_eq_true ht
  have hg:gd (specL rs).Rules (k:Int)=rs[k]:=z7 ht
  rw [hg,show w64 ((k:Int)+1)=((k+1:Nat):Int) from zT (by omega) (by omega)]
  exact ⟨by omega,by show (k:Int) < (rs.length:Int);omega,true,rRule_ok (hR _ (List.getElem_mem ht)),(fun h=>by cases h),fun _=>⟨⟨k+1,rfl,by omega⟩,by first | omega | (dsimp only;omega)⟩⟩
end Go.Ev.Pl
