import Derived.Test.YtdjaimobmmgobaaGreatA04
set_option linter.unusedSimpArgs false
set_option linter.unusedVariables false
namespace Go.Ev.Pl
open Go Go.Ev
def lst (n:Nat) (p:Nat→Bool) (off:Nat):List Int:=((List.range n).filter p).map fun i=>((i+off:Nat):Int)
theorem zbv {n:Nat} {p:Nat→Bool} {off:Nat} {x:Int}:x∈lst n p off↔∃ i,i < n∧p i=true∧x=((i+off:Nat):Int):=by
 simp only [lst,List.mem_map,List.mem_filter,List.mem_range]
 constructor
 ·rintro ⟨i,⟨h1,h2⟩,rfl⟩;exact ⟨i,h1,h2,rfl⟩
 ·rintro ⟨i,h1,h2,rfl⟩;exact ⟨i,⟨h1,h2⟩,rfl⟩
theorem zgx (n:Nat) (p:Nat→Bool) (off:Nat):SS (lst n p off):=by
 unfold lst SS
 rw [List.pairwise_map]
 refine List.Pairwise.filter _ ?_
 exact List.pairwise_lt_range.imp fun h=>by omega
theorem zcn (n:Nat) (p:Nat→Bool) (off:Nat):(lst n p off).length≤n:=by
 unfold lst
 rw [List.length_map]
 exact Nat.le_trans (List.length_filter_le _ _) (by simp)
theorem lst_congr {n:Nat} {p q:Nat→Bool} {off:Nat} (h:∀ i,i < n→p i=q i):lst n p off=lst n q off:=by
 unfold lst
 rw [List.filter_congr fun i hi=>h i (List.mem_range.1 hi)]
theorem lst_left {n m:Nat} {p:Nat→Bool} {off:Nat} {q:Nat→Bool} (h1:∀ i,i < n→q i=p i) (h2:∀ i,n≤i→i < n+m→q i=false):lst n p off=lst (n+m) q off:=by
 refine zjK (zgx _ _ _) (zgx _ _ _) fun x=>?_
 rw [zbv,zbv]
 constructor
 ·rintro ⟨i,hi,hp,rfl⟩;exact ⟨i,by omega,by rw [h1 i hi];exact hp,rfl⟩
 ·rintro ⟨i,hi,hp,rfl⟩
  rcases Nat.lt_or_ge i n with h | h
  ·exact ⟨i,h,by rw [← h1 i h];exact hp,rfl⟩
  ·rw [h2 i h hi] at hp;cases hp
theorem ziP {n m:Nat} {p:Nat→Bool} {off:Nat} {q:Nat→Bool} (h1:∀ i,i < n→q i=false) (h2:∀ i,i < m→q (n+i)=p i):lst m p (off+n)=lst (n+m) q off:=by
 refine zjK (zgx _ _ _) (zgx _ _ _) fun x=>?_
 rw [zbv,zbv]
 constructor
 ·rintro ⟨i,hi,hp,rfl⟩;exact ⟨n+i,by omega,by rw [h2 i hi];exact hp,by omega⟩
 ·rintro ⟨i,hi,hp,rfl⟩
  rcases Nat.lt_or_ge i n with h | h
  ·rw [h1 i h] at hp;cases hp
  ·exact ⟨i - n,by omega,by rw [← h2 _ (by omega),show n+(i - n)=i by omega];exact hp,by omega⟩
theorem zgy {n m:Nat} {p p':Nat→Bool} {off:Nat} {q:Nat→Bool} {l:List Int} (hs:SS l) (hm:∀ x,x∈l↔x∈lst n p off∨x∈lst m p' (off+n)) (h1:∀ i,i < n→q i=p i) (h2:∀ i,i < m→q (n+i)=p' i):l=lst (n+m) q off:=by
 refine zjK hs (zgx _ _ _) fun x=>?_
 rw [hm,zbv,zbv,zbv]
 constructor
 ·rintro (⟨i,hi,hp,rfl⟩ | ⟨i,hi,hp,rfl⟩)
  ·exact ⟨i,by omega,by rw [h1 i hi];exact hp,rfl⟩
  ·exact ⟨n+i,by omega,by rw [h2 i hi];exact hp,by omega⟩
 ·rintro ⟨i,hi,hp,rfl⟩
  rcases Nat.lt_or_ge i n with h | h
  ·exact .inl ⟨i,h,by rw [← h1 i h];exact hp,rfl⟩
  ·exact .inr ⟨i - n,by omega,by rw [← h2 _ (by omega),show n+(i - n)=i by omega];exact hp,by omega⟩
def flw (g:GA) (off:Nat):List (List Int):=(List.range g.n).map fun i=>lst g.n (g.follow i) off
theorem zaT (g:GA) (off:Nat):(flw g off).length=g.n:=by simp [flw]
theorem zen (g:GA) (off:Nat) {i:Nat} (h:i < g.n):(flw g off)[i]'(by rw [zaT];exact h)=lst g.n (g.follow i) off:=by simp [flw]
theorem flw_ext {g:GA} {off:Nat} {l:List (List Int)} (hl:l.length=g.n) (h:∀ (i:Nat) (hi:i < l.length),l[i]=lst g.n (g.follow i) off):l=flw g off:=by
 apply List.ext_getElem
 ·rw [hl,zaT]
 ·intro i h1 h2
  rw [h i h1,zen g off (by rw [hl] at h1;exact h1)]
def leadF (F:List (List Int)) (fr to:List Int):List (List Int):=F.mapIdx fun i f=>if (i:Int)∈fr then join f to else f
theorem zcU (F:List (List Int)) (fr to:List Int):(leadF F fr to).length=F.length:=by simp [leadF]
theorem zdS (F:List (List Int)) (fr to:List Int) {i:Nat} (h:i < F.length):(leadF F fr to)[i]'(by rw [zcU];exact h)=if (i:Int)∈fr then join F[i] to else F[i]:=by simp [leadF]
theorem lead_cat (F0:List (List Int)) (a b:GA):leadF (F0++flw a F0.length++flw b (F0.length+a.n)) (lst a.n a.last F0.length) (lst b.n b.first (F0.length+a.n))=F0++flw (gCat a b) F0.length:=by
 apply List.ext_getElem
 ·rw [zcU];simp only [List.length_append,zaT];simp only [gCat];omega
 ·intro i h1 h2
  rw [zcU] at h1
  rw [zdS _ _ _ h1]
  simp only [List.length_append,zaT] at h1
  have hin:(i:Int)∈lst a.n a.last F0.length↔F0.length≤i∧i < F0.length+a.n∧a.last (i - F0.length)=true:=by
   rw [zbv]
   constructor
   ·rintro ⟨j,hj,hp,e⟩
    have:i=j+F0.length:=by omega
    subst this
    exact ⟨by omega,by omega,by rw [Nat.add_sub_cancel];exact hp⟩
   ·rintro ⟨q1,q2,q3⟩
    exact ⟨i - F0.length,by omega,q3,by omega⟩
  rcases Nat.lt_or_ge i F0.length with hi | hi
  ·rw [if_neg (by rw [hin];omega),List.getElem_append_left (by simp only [List.length_append,zaT];omega),List.getElem_append_left hi,List.getElem_append_left hi]
  ·have hr:(F0++flw (gCat a b) F0.length)[i]'h2=lst (a.n+b.n) ((gCat a b).follow (i - F0.length)) F0.length:=by
    rw [List.getElem_append_right hi,zen _ _ (by show _ < a.n+b.n;omega)];rfl
   rw [hr]
   rcases Nat.lt_or_ge i (F0.length+a.n) with hi2 | hi2
   ·have hl:(F0++flw a F0.length++flw b (F0.length+a.n))[i]'(by simp only [List.length_append,zaT];omega)=lst a.n (a.follow (i - F0.length)) F0.length:=by
     rw [List.getElem_append_left (by simp only [List.length_append,zaT];omega),List.getElem_append_right hi,zen _ _ (by omega)]
    rw [hl]
    by_cases hla:a.last (i - F0.length)=true
    ·rw [if_pos (hin.2 ⟨hi,hi2,hla⟩)]
     obtain ⟨j1,j2⟩:=zcV (lst a.n (a.follow (i - F0.length)) F0.length) (lst b.n b.first (F0.length+a.n))
     refine zgy j1 j2 (fun j hj=>?_) (fun j hj=>?_)
     ·simp only [gCat,blk];rw [if_pos (by omega),if_pos hj]
     ·simp only [gCat,blk];rw [if_pos (by omega),if_neg (by omega),hla,Nat.add_sub_cancel_left];rfl
    ·rw [if_neg (fun h=>hla (hin.1 h).2.2)]
     have hla:a.last (i - F0.length)=false:=by simpa using hla
     refine lst_left (fun j hj=>?_) (fun j h1 h2=>?_)
     ·simp only [gCat,blk];rw [if_pos (by omega),if_pos hj]
     ·simp only [gCat,blk];rw [if_pos (by omega),if_neg (by omega),hla];rfl
   ·rw [if_neg (by rw [hin];omega)]
    have hl:(F0++flw a F0.length++flw b (F0.length+a.n))[i]'(by simp only [List.length_append,zaT];omega)=lst b.n (b.follow (i - (F0.length+a.n))) (F0.length+a.n):=by
     rw [List.getElem_append_right (by simp only [List.length_append,zaT];omega)]
     simp only [List.length_append,zaT]
     rw [zen _ _ (by omega)]
    rw [hl]
    refine ziP (fun j hj=>?_) (fun j hj=>?_)
    ·simp only [gCat,blk];rw [if_neg (by omega),if_pos hj]
    ·simp only [gCat,blk];rw [if_neg (by omega),if_neg (by omega),show i - F0.length - a.n=i - (F0.length+a.n) by omega,Nat.add_sub_cancel_left]
theorem lead_again (F0:List (List Int)) (a:GA):leadF (F0++flw a F0.length) (lst a.n a.last F0.length) (lst a.n a.first F0.length)=F0++flw (gAgain a) F0.length:=by
 apply List.ext_getElem
 ·rw [zcU];simp only [List.length_append,zaT];rfl
 ·intro i h1 h2
  rw [zcU] at h1
  rw [zdS _ _ _ h1]
  simp only [List.length_append,zaT] at h1
  have hin:(i:Int)∈lst a.n a.last F0.length↔F0.length≤i∧i < F0.length+a.n∧a.last (i - F0.length)=true:=by
   rw [zbv]
   constructor
   ·rintro ⟨j,hj,hp,e⟩
    have:i=j+F0.length:=by omega
    subst this
    exact ⟨by omega,by omega,by rw [Nat.add_sub_cancel];exact hp⟩
   ·rintro ⟨q1,q2,q3⟩
    exact ⟨i - F0.length,by omega,q3,by omega⟩
  rcases Nat.lt_or_ge i F0.length with hi | hi
  ·rw [if_neg (by rw [hin];omega),List.getElem_append_left hi,List.getElem_append_left hi]
  ·have hr:(F0++flw (gAgain a) F0.length)[i]'h2=lst a.n ((gAgain a).follow (i - F0.length)) F0.length:=by
    rw [List.getElem_append_right hi,zen _ _ (by show _ < a.n;omega)];rfl
   have hl:(F0++flw a F0.length)[i]'(by simp only [List.length_append,zaT];omega)=lst a.n (a.follow (i - F0.length)) F0.length:=by
    rw [List.getElem_append_right hi,zen _ _ (by omega)]
   rw [hr,hl]
   by_cases hla:a.last (i - F0.length)=true
   ·rw [if_pos (hin.2 ⟨hi,by omega,hla⟩)]
    obtain ⟨j1,j2⟩:=zcV (lst a.n (a.follow (i - F0.length)) F0.length) (lst a.n a.first F0.length)
    refine zjK j1 (zgx _ _ _) fun x=>?_
    rw [j2,zbv,zbv,zbv]
    simp only [gAgain,hla,Bool.true_and,Bool.or_eq_true]
    constructor
    ·rintro (⟨j,q1,q2,rfl⟩ | ⟨j,q1,q2,rfl⟩)
     ·exact ⟨j,q1,.inl q2,rfl⟩
     ·exact ⟨j,q1,.inr q2,rfl⟩
    ·rintro ⟨j,q1,q2 | q2,rfl⟩
     ·exact .inl ⟨j,q1,q2,rfl⟩
     ·exact .inr ⟨j,q1,q2,rfl⟩
   ·rw [if_neg (fun h=>hla (hin.1 h).2.2)]
    have hla:a.last (i - F0.length)=false:=by simpa using hla
    exact lst_congr fun j hj=>by simp [gAgain,hla]
theorem flw_alt (a b:GA) (off:Nat):flw a off++flw b (off+a.n)=flw (gAlt a b) off:=by
 refine flw_ext (by simp [zaT,gAlt]) fun i hi=>?_
 simp only [List.length_append,zaT] at hi
 show _=lst (a.n+b.n) _ off
 rcases Nat.lt_or_ge i a.n with h | h
 ·rw [List.getElem_append_left (by rw [zaT];exact h),zen _ _ h]
  refine lst_left (fun j hj=>?_) (fun j h1 h2=>?_)
  ·simp only [gAlt,blk];rw [if_pos h,if_pos hj]
  ·simp only [gAlt,blk];rw [if_pos h,if_neg (by omega)]
 ·rw [List.getElem_append_right (by rw [zaT];exact h)]
  simp only [zaT]
  rw [zen _ _ (by omega)]
  refine ziP (fun j hj=>?_) (fun j hj=>?_)
  ·simp only [gAlt,blk];rw [if_neg (by omega),if_pos hj]
  ·simp only [gAlt,blk];rw [if_neg (by omega),if_neg (by omega),Nat.add_sub_cancel_left]
def pc (g:GA) (off:Nat):zu:=⟨lst g.n g.first off,lst g.n g.last off,g.null⟩
theorem cat_first (a b:GA) (off:Nat):(if a.null=true then join (lst a.n a.first off) (lst b.n b.first (off+a.n)) else lst a.n a.first off)=lst (a.n+b.n) (gCat a b).first off:=by
 split
 ·rename_i h
  obtain ⟨j1,j2⟩:=zcV (lst a.n a.first off) (lst b.n b.first (off+a.n))
  exact zgy j1 j2 (fun j hj=>by simp only [gCat];rw [if_pos hj]) (fun j hj=>by simp only [gCat];rw [if_neg (by omega),h,Nat.add_sub_cancel_left];rfl)
 ·rename_i h
  have h:a.null=false:=by simpa using h
  exact lst_left (fun j hj=>by simp only [gCat];rw [if_pos hj]) (fun j h1 h2=>by simp only [gCat];rw [if_neg (by omega),h];rfl)
theorem cat_last (a b:GA) (off:Nat):(if b.null=true then join (lst a.n a.last off) (lst b.n b.last (off+a.n)) else lst b.n b.last (off+a.n))=lst (a.n+b.n) (gCat a b).last off:=by
 split
 ·rename_i h
  obtain ⟨j1,j2⟩:=zcV (lst a.n a.last off) (lst b.n b.last (off+a.n))
  exact zgy j1 j2 (fun j hj=>by simp only [gCat];rw [if_pos hj,h];rfl) (fun j hj=>by simp only [gCat];rw [if_neg (by omega),Nat.add_sub_cancel_left])
 ·rename_i h
  have h:b.null=false:=by simpa using h
  exact ziP (fun j hj=>by simp only [gCat];rw [if_pos hj,h];rfl) (fun j hj=>by simp only [gCat];rw [if_neg (by omega),Nat.add_sub_cancel_left])
theorem alt_first (a b:GA) (off:Nat):join (lst a.n a.first off) (lst b.n b.first (off+a.n))=lst (a.n+b.n) (gAlt a b).first off:=by
 obtain ⟨j1,j2⟩:=zcV (lst a.n a.first off) (lst b.n b.first (off+a.n))
 exact zgy j1 j2 (fun j hj=>by simp only [gAlt];rw [if_pos hj]) (fun j hj=>by simp only [gAlt];rw [if_neg (by omega),Nat.add_sub_cancel_left])
theorem alt_last (a b:GA) (off:Nat):join (lst a.n a.last off) (lst b.n b.last (off+a.n))=lst (a.n+b.n) (gAlt a b).last off:=by
 obtain ⟨j1,j2⟩:=zcV (lst a.n a.last off) (lst b.n b.last (off+a.n))
 exact zgy j1 j2 (fun j hj=>by simp only [gAlt];rw [if_pos hj]) (fun j hj=>by simp only [gAlt];rw [if_neg (by omega),Nat.add_sub_cancel_left])
end Go.Ev.Pl
namespace Go.Ev.Pl
open Go Go.Ev
theorem set_eq {α:Type} {l:List α} {i:Nat} {x:α} {m:List α} (hl:m.length=l.length) (h1:∀ (j:Nat) (h:j < l.length),j≠i→m[j]'(by omega)=l[j]) (h2:∀ h:i < l.length,m[i]'(by omega)=x):l.set i x=m:=by
 apply List.ext_getElem
 ·simp [hl]
 ·intro j a b
  rw [List.getElem_set]
  split
  ·rename_i e;subst e;exact (h2 (by simpa using a)).symm
  ·rename_i e;exact (h1 j (by simpa using a) (fun h=>e h.symm)).symm
theorem zdU {α:Type} {L:List (List α)} {i:Nat} (h:i < L.length):(L.take (i+1)).flatten=(L.take i).flatten++L[i]:=by
 rw [List.take_succ_eq_append_getElem h,List.flatten_append];simp
theorem zcp {α:Type} (L:List (List α)) (i:Nat):(L.take i).flatten.length≤L.flatten.length:=by
 conv=>rhs;rw [← List.take_append_drop i L]
 rw [List.flatten_append,List.length_append];omega
theorem concat_ok (L:List (List Int)) (hL:L.length < 1099511627776) (hT:L.flatten.length < 1000000000):zax L L.flatten:=by
 refine zd3 L _ ⟨fun s t=>∃ i:Nat,t=i∧i≤L.length∧s=(L.take i).flatten.length,fun s t=>(L.length - t).toNat,⟨0,rfl,by omega,by simp⟩,?_⟩
 rintro s t ⟨i,rfl,hi,rfl⟩
 have hb:=zcp L i
 refine ⟨fun ht=>?_,fun ht=>?_⟩
 ·have ht:i < L.length:=by simpa using ht
  have hs:=congrArg List.length (zdU ht)
  rw [List.length_append] at hs
  have hb2:=zcp L (i+1)
  have hg:gd L (i:Int)=L[i]:=za7 ht
  have hw1:w64 (((L.take i).flatten.length:Int)+(gd L (i:Int)).length)=((L.take (i+1)).flatten.length:Int):=by
   rw [hg,hs];exact (zan (by omega) (by omega)).trans (by omega)
  have hw2:w64 ((i:Int)+1)=((i+1:Nat):Int):=zan (by omega) (by omega)
  rw [hw1,hw2]
  exact ⟨True,fun _=>⟨⟨i+1,rfl,by omega,rfl⟩,by dsimp only;omega⟩,by omega,by omega,fun h=>absurd (of_decide_eq_true h) (by omega),fun _=>trivial⟩
 ·refine ⟨⟨by omega,by omega⟩,fun l t=>∃ i:Nat,t=i∧i≤L.length∧l=(L.take i).flatten,fun l t=>(L.length - t).toNat,⟨0,rfl,by omega,rfl⟩,?_⟩
  rintro l t ⟨j,rfl,hj,rfl⟩
  have hb3:=zcp L j
  refine ⟨fun ht=>?_,fun ht=>?_⟩
  ·have ht:j < L.length:=by simpa using ht
   have hg:gd L (j:Int)=L[j]:=za7 ht
   have hs:=zdU ht
   have hs2:=congrArg List.length hs
   rw [List.length_append] at hs2
   have hb2:=zcp L (j+1)
   have hw2:w64 ((j:Int)+1)=((j+1:Nat):Int):=zan (by omega) (by omega)
   rw [hw2,hg]
   exact ⟨by omega,by omega,by omega,⟨j+1,rfl,by omega,hs.symm⟩,by dsimp only;omega⟩
  ·have:j=L.length:=by have:¬ j < L.length:=by simpa using ht
                       omega
   subst this
   rw [List.take_of_length_le (Nat.le_refl _)]
theorem zhh (a b:List Int) (ha:a.length < 100000000) (hb:b.length < 100000000):zaq a b (join a b):=by
 have h:=concat_ok [a,b] (by simp) (by simp;omega)
 have e:[a,b].flatten=a++b:=by simp
 rw [e] at h
 exact zh6 a b _ ⟨_,h,by simp;omega,sort_len _,by rw [sort_len];simp;omega,rfl⟩
theorem lead_ok (fr to:List Int) (b:zy) (hfr:SS fr) (hin:∀ x∈fr,0≤x∧x < b.follow.length) (hto:to.length < 10000000) (hF:∀ f∈b.follow,f.length < 10000000) (hlen:fr.length < 10000000):zbm fr to b { sets:=b.sets,follow:=leadF b.follow fr to }:=by
 refine zfv fr to b _ ⟨fun F t=>∃ i:Nat,t=i∧i≤fr.length∧F=leadF b.follow (fr.take i) to,fun F t=>(fr.length - t).toNat,⟨0,rfl,by omega,by simp [leadF];exact (List.ext_getElem (by simp) (fun j h1 h2=>by simp))⟩,?_⟩
 rintro F t ⟨i,rfl,hi,rfl⟩
 refine ⟨fun ht=>?_,fun ht=>?_⟩
 ·have ht:i < fr.length:=by simpa using ht
  have hg:gd fr (i:Int)=fr[i]:=za7 ht
  rw [hg]
  obtain ⟨q0,q1⟩:=hin _ (List.getElem_mem ht)
  obtain ⟨e,he⟩:∃ e:Nat,fr[i]=e:=⟨fr[i].toNat,by omega⟩
  rw [he] at q1 ⊢
  have he2:e < b.follow.length:=by omega
  have hl:(leadF b.follow (fr.take i) to).length=b.follow.length:=zcU _ _ _
  have hnot:∀ j:Nat,(hj:j < b.follow.length)→j=e→¬ ((j:Int)∈fr.take i):=by
   rintro j hj rfl hm
   obtain ⟨k,hk,hk2⟩:=List.mem_iff_getElem.1 hm
   simp only [List.length_take] at hk
   rw [List.getElem_take] at hk2
   have:=List.pairwise_iff_getElem.1 hfr k i (by omega) ht (by omega)
   omega
  have hge:gd (leadF b.follow (fr.take i) to) (e:Int)=b.follow[e]:=by
   rw [za7 (by rw [hl];exact he2),zdS _ _ _ he2,if_neg (hnot e he2 rfl)]
  have hw2:w64 ((i:Int)+1)=((i+1:Nat):Int):=zan (by omega) (by omega)
  refine ⟨by omega,by omega,by omega,by rw [hl];omega,by rw [hl];omega,join b.follow[e] to,?_,by omega,by rw [hl];omega,by rw [hl];omega,?_⟩
  ·rw [hge];exact zhh _ _ (by have:=hF _ (List.getElem_mem he2);omega) (by omega)
  ·rw [hw2]
   refine ⟨⟨i+1,rfl,by omega,?_⟩,by dsimp only;omega⟩
   show List.set _ e _=_
   refine set_eq (by rw [zcU,zcU]) (fun j hj hne=>?_) (fun hj=>?_)
   ·rw [hl] at hj
    rw [zdS _ _ _ hj,zdS _ _ _ hj,List.take_succ_eq_append_getElem ht,he]
    have:((j:Int)∈fr.take i++[(e:Int)])↔(j:Int)∈fr.take i:=by
     rw [List.mem_append,List.mem_singleton]
     constructor
     ·rintro (h | h)
      ·exact h
      ·exact absurd (by omega) hne
     ·exact .inl
    simp only [this]
   ·rw [zdS _ _ _ he2,List.take_succ_eq_append_getElem ht,he,if_pos (by simp)]
 ·have:i=fr.length:=by have:¬ i < fr.length:=by simpa using ht
                       omega
  subst this
  rw [List.take_of_length_le (Nat.le_refl _)]
theorem zeU (g:GA) (off:Nat) (h:g.n < 10000000):∀ f∈flw g off,f.length < 10000000:=by
 intro f hf
 simp only [flw,List.mem_map,List.mem_range] at hf
 obtain ⟨i,_,rfl⟩:=hf
 have:=zcn g.n (g.follow i) off
 omega
theorem cat_ok (F0:List (List Int)) (S:List zb) (a b:GA) (hF:∀ f∈F0,f.length < 10000000) (hab:a.n+b.n < 1000000) (hF2:F0.length < 1000000) :
 zaY (pc a F0.length) (pc b (F0.length+a.n)) { sets:=S,follow:=F0++flw a F0.length++flw b (F0.length+a.n) } (pc (gCat a b) F0.length) { sets:=S,follow:=F0++flw (gCat a b) F0.length }:=by
 have hla:=zcn a.n a.last F0.length
 have hlb:=zcn b.n b.first (F0.length+a.n)
 have hlb2:=zcn b.n b.last (F0.length+a.n)
 have hla2:=zcn a.n a.first F0.length
 have hlead:=lead_ok (lst a.n a.last F0.length) (lst b.n b.first (F0.length+a.n)) { sets:=S,follow:=F0++flw a F0.length++flw b (F0.length+a.n) } (zgx _ _ _) (fun x hx=>by
  obtain ⟨i,hi,_,rfl⟩:=zbv.1 hx
  simp only [List.length_append,zaT];omega) (by omega) (fun f hf=>by
  rcases List.mem_append.1 hf with hf | hf
  ·rcases List.mem_append.1 hf with hf | hf
   ·exact hF f hf
   ·exact zeU a _ (by omega) f hf
  ·exact zeU b _ (by omega) f hf) (by omega)
 simp only [lead_cat] at hlead
 refine zf6 _ _ _ _ _ ⟨_,hlead,fun l=>l=lst (a.n+b.n) (gCat a b).first F0.length,?_,fun hn=>⟨_,zhh _ _ (by show (lst _ _ _).length < _;omega) (by show (lst _ _ _).length < _;omega),?_⟩,fun hn=>?_⟩
 ·rintro l rfl
  refine ⟨fun l=>l=lst (a.n+b.n) (gCat a b).last F0.length,?_,fun hn=>⟨_,zhh _ _ (by show (lst _ _ _).length < _;omega) (by show (lst _ _ _).length < _;omega),?_⟩,fun hn=>?_⟩
  ·rintro l rfl;exact ⟨rfl,rfl⟩
  ·have:=cat_last a b F0.length
   rw [if_pos (show b.null=true from hn)] at this;exact this
  ·have:=cat_last a b F0.length
   rw [if_neg (by show ¬ (b.null=true);have:b.null=false:=hn;simp [this])] at this;exact this
 ·have:=cat_first a b F0.length
  rw [if_pos (show a.null=true from hn)] at this;exact this
 ·have:=cat_first a b F0.length
  rw [if_neg (by show ¬ (a.null=true);have:a.null=false:=hn;simp [this])] at this;exact this
end Go.Ev.Pl
namespace Go.Ev.Pl
open Go Go.Ev
def Rgt (x:zf):Prop:=∃ d,rgt x d=true
theorem zfP {x:zf} (h:Rgt x):ownB x=true∧∀ k∈x.Kids,Rgt k:=by
 obtain ⟨d,h⟩:=h
 rw [zgq] at h
 simp only [Bool.and_eq_true,List.all_eq_true] at h
 exact ⟨h.1.2,fun k hk=>⟨d - 1,(h.2 k hk).2⟩⟩
theorem ziG {x:zf} (h:ownB x=true) (h5:x.Kind=5):(∃ k,x.Kids=[k])∧0≤x.Lo∧x.Lo≤20∧(x.Hi = -1∨1≤x.Hi∧x.Lo≤x.Hi∧x.Hi≤20):=by
 simp only [ownB,if_pos h5,timesB,Bool.and_eq_true,decide_eq_true_eq,Bool.or_eq_true,beq_iff_eq] at h
 obtain ⟨_,h1,h2,h3,h4⟩:=h
 refine ⟨?_,h2,h3,?_⟩
 ·match hq:x.Kids,h1 with
  | [k],_=>exact ⟨k,rfl⟩
 ·rcases h4 with h4 | ⟨h4,h5⟩
  ·exact .inl h4
  ·exact .inr (by omega)
theorem own_kids {x:zf} (h:ownB x=true) (h34:x.Kind=3∨x.Kind=4):2≤x.Kids.length:=by
 simp only [ownB] at h
 rw [if_neg (by omega),if_neg (by omega),if_neg (by omega),if_pos h34] at h
 simp only [Bool.and_eq_true,decide_eq_true_eq] at h
 exact h.2.2
theorem zfg {x:zf} (h:ownB x=true):x.Kind=1∨x.Kind=2∨x.Kind=3∨x.Kind=4∨x.Kind=5:=by
 simp only [ownB] at h
 split at h
 ·omega
 ·split at h
  ·omega
  ·split at h
   ·omega
   ·split at h
    ·omega
    ·cases h
theorem iter_n {f:GA→GA} {a:GA} (hf:∀ o,(f o).n=a.n+o.n):∀ k z,(iter f k z).n=k * a.n+z.n
 | 0,z=>by simp [iter]
 | k+1,z=>by rw [iter,hf,iter_n hf k,Nat.succ_mul];omega
def cpS (a:GA) (k:Nat):List zb:=(List.replicate k a.sets).flatten
theorem zgA {f:GA→GA} {a:GA} (hf:∀ o,(f o).sets=a.sets++o.sets):∀ k z,(iter f k z).sets=cpS a k++z.sets
 | 0,z=>by simp [iter,cpS]
 | k+1,z=>by rw [iter,hf,zgA hf k];simp [cpS,List.replicate_succ]
theorem ziW (a:GA):∀ k z,(iter (gCat a) k z).null=(z.null && (decide (k=0) || a.null))
 | 0,z=>by simp [iter]
 | k+1,z=>by
   rw [iter]
   show (a.null && (iter (gCat a) k z).null)=_
   rw [ziW a k z]
   cases a.null<;>cases z.null<;>simp
theorem rep_n (a:GA) {lo hi:Int} (h1:0≤lo) (h2:hi = -1∨1≤hi∧lo≤hi):(gRep a lo hi).n=(max 1 (max lo hi)).toNat * a.n:=by
 unfold gRep
 split
 ·rw [iter_n (f:=gCat a) (a:=a) (fun _=>rfl)]
  have:(if lo=0 then gMaybe (gAgain a) else gAgain a).n=a.n:=by split<;>rfl
  rw [this,← Nat.succ_mul]
  congr 1
  omega
 ·rw [iter_n (f:=gCat a) (a:=a) (fun _=>rfl),iter_n (f:=fun o=>gMaybe (gCat a o)) (a:=a) (fun _=>rfl)]
  show _+(_+0)=_
  rw [Nat.add_zero,← Nat.add_mul]
  congr 1
  omega
theorem rep_sets (a:GA) {lo hi:Int} (h1:0≤lo) (h2:hi = -1∨1≤hi∧lo≤hi):(gRep a lo hi).sets=cpS a (max 1 (max lo hi)).toNat:=by
 have key:∀ j k,cpS a j++cpS a k=cpS a (j+k):=fun j k=>by
  simp only [cpS];rw [← List.flatten_append,List.replicate_append_replicate]
 unfold gRep
 split
 ·rw [zgA (f:=gCat a) (a:=a) (fun _=>rfl)]
  have:(if lo=0 then gMaybe (gAgain a) else gAgain a).sets=cpS a 1:=by split<;>simp [cpS,gMaybe,gAgain]
  rw [this,key]
  congr 1
  omega
 ·rw [zgA (f:=gCat a) (a:=a) (fun _=>rfl),zgA (f:=fun o=>gMaybe (gCat a o)) (a:=a) (fun _=>rfl)]
  show _++(_++[])=_
  rw [List.append_nil,key]
  congr 1
  omega
theorem rep_null (a:GA) {lo hi:Int} (h1:0≤lo) (h2:hi = -1∨1≤hi∧lo≤hi):(gRep a lo hi).null=(decide (lo≤0) || a.null):=by
 unfold gRep
 split
 ·rw [ziW]
  by_cases h:lo=0
  ·subst h;simp [gMaybe,gAgain];left;rfl
  ·have:¬ lo≤0:=by omega
   simp only [if_neg h,gAgain,this,decide_false,Bool.false_or]
   cases a.null<;>simp
 ·rw [ziW]
  have hin:∀ k,(iter (fun o=>gMaybe (gCat a o)) k gEmpty).null=true:=by
   intro k;cases k<;>rfl
  rw [hin,Bool.true_and]
  congr 1
  simp only [decide_eq_decide];omega
theorem zja {f:GA→GA→GA} (hf:∀ a b,(f a b).n=a.n+b.n):∀ (l:List zf) (z:GA),(l.foldl (fun o y=>f o (gof y)) z).n=z.n+(l.map fun y=>(gof y).n).sum
 | [],z=>by simp
 | y :: r,z=>by rw [List.foldl_cons,zja hf r,hf];simp;omega
theorem gof_n:∀ x,Rgt x→(gof x).n=sizeN x:=by
 refine rxInd fun x ih hr=>?_
 obtain ⟨ho,hk⟩:=zfP hr
 have hkn:(x.Kids.map fun y=>(gof y).n)=x.Kids.map sizeN:=List.map_congr_left fun y hy=>ih y hy (hk y hy)
 rw [zdT,zck]
 rcases zfg ho with h | h | h | h | h
 ·simp [h,gEmpty]
 ·simp [h,gByte]
 ·simp only [h]
  simp only [show ¬ ((3:Int)=2) by omega,if_false,if_true,show (3:Int)≤3∧(3:Int)≤5 from ⟨by omega,by omega⟩,show ¬ ((3:Int)=5) by omega]
  rw [zja (f:=gCat) (fun _ _=>rfl),hkn]
  show 0+_=_;simp
 ·simp only [h]
  simp only [show ¬ ((4:Int)=2) by omega,show ¬ ((4:Int)=3) by omega,if_false,if_true,show (3:Int)≤4∧(4:Int)≤5 from ⟨by omega,by omega⟩,show ¬ ((4:Int)=5) by omega]
  rw [zja (f:=gAlt) (fun _ _=>rfl),hkn]
  show 0+_=_;simp
 ·obtain ⟨⟨k,hq⟩,h1,h2,h3⟩:=ziG ho h
  simp only [h]
  simp only [show ¬ ((5:Int)=2) by omega,show ¬ ((5:Int)=3) by omega,show ¬ ((5:Int)=4) by omega,if_false,if_true,show (3:Int)≤5∧(5:Int)≤5 from ⟨by omega,by omega⟩]
  rw [hq]
  simp only [List.map_cons,List.map_nil,List.headD_cons,List.sum_cons,List.sum_nil,Nat.add_zero]
  rw [rep_n _ h1 (by omega),ih k (by rw [hq];simp) (hk k (by rw [hq];simp)),Nat.mul_comm]
  congr 1
  simp only [timesN];omega
theorem zfE:∀ (l:List zf) (z:GA),(l.foldl (fun o y=>gCat o (gof y)) z).null=(z.null && l.all fun y=>(gof y).null)
 | [],z=>by simp
 | y :: r,z=>by rw [List.foldl_cons,zfE r];simp [gCat,Bool.and_assoc]
theorem zfF:∀ (l:List zf) (z:GA),(l.foldl (fun o y=>gAlt o (gof y)) z).null=(z.null || l.any fun y=>(gof y).null)
 | [],z=>by simp
 | y :: r,z=>by rw [List.foldl_cons,zfF r];simp [gAlt,Bool.or_assoc]
theorem all_congr' {l:List zf} {p q:zf→Bool} (h:∀ y∈l,p y=q y):l.all p=l.all q:=by
 induction l with
 | nil=>rfl
 | cons y r ih=>simp only [List.all_cons];rw [h y (List.mem_cons_self ..),ih fun z hz=>h z (List.mem_cons_of_mem _ hz)]
theorem any_congr' {l:List zf} {p q:zf→Bool} (h:∀ y∈l,p y=q y):l.any p=l.any q:=by
 induction l with
 | nil=>rfl
 | cons y r ih=>simp only [List.any_cons];rw [h y (List.mem_cons_self ..),ih fun z hz=>h z (List.mem_cons_of_mem _ hz)]
theorem gof_null:∀ x,Rgt x→(gof x).null=nullB x:=by
 refine rxInd fun x ih hr=>?_
 obtain ⟨ho,hk⟩:=zfP hr
 rw [zdT,nullB_eq]
 rcases zfg ho with h | h | h | h | h
 ·simp [h,gEmpty]
 ·simp [h,gByte]
 ·simp only [h]
  simp only [show ¬ ((3:Int)=2) by omega,show ¬ ((3:Int)=1) by omega,if_false,if_true]
  rw [zfE,all_congr' fun y hy=>ih y hy (hk y hy)];rfl
 ·simp only [h]
  simp only [show ¬ ((4:Int)=2) by omega,show ¬ ((4:Int)=3) by omega,show ¬ ((4:Int)=1) by omega,if_false,if_true]
  rw [zfF,any_congr' fun y hy=>ih y hy (hk y hy)];rfl
 ·obtain ⟨⟨k,hq⟩,h1,h2,h3⟩:=ziG ho h
  simp only [h]
  simp only [show ¬ ((5:Int)=2) by omega,show ¬ ((5:Int)=3) by omega,show ¬ ((5:Int)=4) by omega,show ¬ ((5:Int)=1) by omega,if_false,if_true]
  rw [hq]
  simp only [List.map_cons,List.map_nil,List.headD_cons,List.all_cons,List.all_nil,Bool.and_true]
  rw [rep_null _ h1 (by omega),ih k (by rw [hq];simp) (hk k (by rw [hq];simp))]
theorem zero_null:∀ x,Rgt x→sizeN x=0→nullB x=true:=by
 refine rxInd fun x ih hr h0=>?_
 obtain ⟨ho,hk⟩:=zfP hr
 rw [zck] at h0
 rw [nullB_eq]
 have hsum:(x.Kids.map sizeN).sum=0→∀ y∈x.Kids,nullB y=true:=fun h y hy=>ih y hy (hk y hy) (by
  have:=List.sum_eq_zero_iff_forall_eq_nat.1 h (sizeN y) (List.mem_map.2 ⟨y,hy,rfl⟩);exact this)
 rcases zfg ho with h | h | h | h | h
 ·simp [h]
 ·simp [h] at h0
 ·simp only [h] at h0 ⊢
  simp at h0
  simp only [show ¬ ((3:Int)=1) by omega,if_false,if_true,List.all_eq_true]
  exact hsum h0
 ·simp only [h] at h0 ⊢
  simp at h0
  have h2:=own_kids ho (.inr h)
  simp only [show ¬ ((4:Int)=1) by omega,show ¬ ((4:Int)=3) by omega,if_false,if_true]
  have hm:x.Kids[0]'(by omega)∈x.Kids:=List.getElem_mem _
  exact List.any_eq_true.2 ⟨_,hm,hsum h0 _ hm⟩
 ·obtain ⟨⟨k,hq⟩,h1,h2,h3⟩:=ziG ho h
  simp only [h] at h0 ⊢
  simp only [show ¬ ((5:Int)=2) by omega,if_false,if_true,show (3:Int)≤5∧(5:Int)≤5 from ⟨by omega,by omega⟩] at h0
  have ht:1≤timesN x:=by simp only [timesN];omega
  have hs:(x.Kids.map sizeN).sum=0:=by
   rcases Nat.mul_eq_zero.1 h0 with h | h
   ·exact h
   ·omega
  simp only [show ¬ ((5:Int)=3) by omega,show ¬ ((5:Int)=4) by omega,show ¬ ((5:Int)=1) by omega,if_false,if_true]
  have:x.Kids.all nullB=true:=List.all_eq_true.2 (hsum hs)
  rw [this];simp
theorem gof_zero {x:zf} (hr:Rgt x) (h0:sizeN x=0):gof x=gEmpty:=
 canon_zero (zbP x) ((gof_n x hr).trans h0) ((gof_null x hr).trans (zero_null x hr h0))
end Go.Ev.Pl
namespace Go.Ev.Pl
open Go Go.Ev
def hF (h:Nat→GA) (m n:Nat):Nat→List (List Int)
 | 0=>[]
 | N+1=>hF h m n N++flw (h N) (m+N * n)
theorem hF_len {h:Nat→GA} {m n:Nat} (hn:∀ j,(h j).n=n):∀ N,(hF h m n N).length=N * n
 | 0=>by simp [hF]
 | N+1=>by rw [hF,List.length_append,hF_len hn N,zaT,hn,Nat.succ_mul]
theorem hF_congr {h h':Nat→GA} {m n:Nat}:∀ N,(∀ j,j < N→h j=h' j)→hF h m n N=hF h' m n N
 | 0,_=>rfl
 | N+1,e=>by rw [hF,hF,hF_congr N (fun j hj=>e j (by omega)),e N (by omega)]
theorem zii {h:Nat→GA} {m n:Nat} (hs:∀ j,(h j).n < 10000000):∀ N,∀ f∈hF h m n N,f.length < 10000000
 | 0,f,hf=>by simp [hF] at hf
 | N+1,f,hf=>by
   rw [hF,List.mem_append] at hf
   rcases hf with hf | hf
   ·exact zii hs N f hf
   ·exact zeU _ _ (hs N) f hf
theorem cpS_succ (a:GA) (k:Nat):cpS a (k+1)=cpS a k++a.sets:=by
 simp only [cpS,List.replicate_succ',List.flatten_append];simp
structure Room (F0:List (List Int)) (S:List zb) (n:Nat):Prop where
 same:S.length=F0.length
 small:∀ f∈F0,f.length < 10000000
 room:F0.length+n < 1000000
def PieceOk (x:zf):Prop:=∀ F0 S,Room F0 S (gof x).n→zay x { sets:=S,follow:=F0 } (pc (gof x) F0.length) { sets:=S++(gof x).sets,follow:=F0++flw (gof x) F0.length }
theorem copies_ok {k:zf} (hp:PieceOk k) (N:Nat) (hN:N≤1000) (F0:List (List Int)) (S:List zb) (hr:Room F0 S (N * (gof k).n)) :
 zaF k N { sets:=S,follow:=F0 } ((List.range N).map fun i=>pc (gof k) (F0.length+i * (gof k).n)) { sets:=S++cpS (gof k) N,follow:=F0++hF (fun _=>gof k) F0.length (gof k).n N }:=by
 have hc:=zbP k
 refine zez k N _ _ _ ⟨fun s f o t=>∃ i:Nat,t=i∧i≤N∧s=S++cpS (gof k) i∧f=F0++hF (fun _=>gof k) F0.length (gof k).n i∧o=(List.range i).map fun i=>pc (gof k) (F0.length+i * (gof k).n),
  fun _ _ _ t=>(N - t).toNat,⟨0,rfl,by omega,by simp [cpS],by simp [hF],rfl⟩,?_⟩
 rintro s f o t ⟨i,rfl,hi,rfl,rfl,rfl⟩
 refine ⟨fun ht=>?_,fun ht=>?_⟩
 ·have ht:i < N:=by simpa using ht
  have hle:(i+1) * (gof k).n≤N * (gof k).n:=Nat.mul_le_mul_right _ ht
  rw [Nat.add_mul,Nat.one_mul] at hle
  have hlen:(F0++hF (fun _=>gof k) F0.length (gof k).n i).length=F0.length+i * (gof k).n:=by rw [List.length_append,hF_len fun _=>rfl]
  have hroom:=hr.room
  have hsl:∀ j,(cpS (gof k) j).length=j * (gof k).n:=fun j=>by simp [cpS,hc.sets]
  have:=hp (F0++hF (fun _=>gof k) F0.length (gof k).n i) (S++cpS (gof k) i) ⟨by rw [hlen,List.length_append,hr.same,hsl],fun f hf=>by
   rcases List.mem_append.1 hf with hf | hf
   ·exact hr.small f hf
   ·exact zii (fun _=>by omega) i f hf,by rw [hlen];omega⟩
  rw [hlen,List.append_assoc,List.append_assoc,← cpS_succ] at this
  have hw2:w64 ((i:Int)+1)=((i+1:Nat):Int):=zan (by omega) (by omega)
  refine ⟨_,_,this,by simp;omega,?_⟩
  rw [hw2]
  exact ⟨⟨i+1,rfl,by omega,rfl,rfl,by rw [List.range_succ,List.map_append];rfl⟩,by dsimp only;omega⟩
 ·have:i=N:=by have:¬ i < N:=by simpa using ht
               omega
  subst this
  exact ⟨rfl,rfl⟩
def fromEnd (h:Nat→GA) (mb:Nat→Bool) (N:Nat):Nat→GA
 | 0=>gEmpty
 | i+1=>let o:=gCat (h (N - 1 - i)) (fromEnd h mb N i);if mb (N - 1 - i)=true then gMaybe o else o
theorem fromEnd_n {h:Nat→GA} {mb:Nat→Bool} {N n:Nat} (hn:∀ j,(h j).n=n):∀ i,(fromEnd h mb N i).n=i * n
 | 0=>by simp [fromEnd,gEmpty]
 | i+1=>by
   simp only [fromEnd]
   have:(gCat (h (N - 1 - i)) (fromEnd h mb N i)).n=(i+1) * n:=by
    show (h (N - 1 - i)).n+(fromEnd h mb N i).n=_
    rw [hn,fromEnd_n hn i,Nat.succ_mul];omega
   split
   ·exact this
   ·exact this
theorem rep_loop {x:zf} {h:Nat→GA} {N n:Nat} {F0:List (List Int)} {S S':List zb} (hn:∀ j,(h j).n=n) (hr:Room F0 S (N * n)) (hN:N≤1000) {l:List zu} (hl:l=(List.range N).map fun j=>pc (h j) (F0.length+j * n))
 {res:zu} {fin:zy} (hres:res=pc (fromEnd h (fun j=>decide (x.Hi≥0) && decide ((j:Int)≥x.Lo)) N N) F0.length)
 (hfin:fin={ sets:=S',follow:=F0++flw (fromEnd h (fun j=>decide (x.Hi≥0) && decide ((j:Int)≥x.Lo)) N N) F0.length }) :
 (List.length l < 1099511627776∧∃ (Inv24:Nat→List zb→List (List Int)→List Int→List Int→Bool→Prop),Inv24 0 S' (F0++hF h F0.length n N) [] [] Bool.true∧
   (∀ (i:Nat) (y:zu),i < List.length l→l[List.length l - 1 - i]?=some y→∀ (s:List zb) (f:List (List Int)) (o1 o2:List Int) (o3:Bool),Inv24 i s f o1 o2 o3→
     (∃ r0_6:zu,∃ o_4:zy,zaY y { first:=o1,last:=o2,null:=o3 } { sets:=s,follow:=f } r0_6 o_4∧
       (((decide (x.Hi≥0) && decide ((List.length l:Int) - 1 - i≥x.Lo))=true→(∃ r0_7:zu,zev r0_6 r0_7∧Inv24 (i+1) o_4.sets o_4.follow r0_7.first r0_7.last r0_7.null))∧
         ((decide (x.Hi≥0) && decide ((List.length l:Int) - 1 - i≥x.Lo))=false→Inv24 (i+1) o_4.sets o_4.follow r0_6.first r0_6.last r0_6.null))))∧
   (∀ (s:List zb) (f:List (List Int)) (o1 o2:List Int) (o3:Bool),Inv24 (List.length l) s f o1 o2 o3→(res={ first:=o1,last:=o2,null:=o3 }∧fin={ sets:=s,follow:=f }))):=by
 have hll:l.length=N:=by rw [hl];simp
 obtain ⟨mb,hmb⟩:∃ mb:Nat→Bool,mb=fun j:Nat=>decide (x.Hi≥0) && decide ((j:Int)≥x.Lo):=⟨_,rfl⟩
 rw [← hmb] at hres hfin
 have hroom:=hr.room
 rw [hll]
 refine ⟨by omega,fun i s f o1 o2 o3=>i≤N∧s=S'∧f=F0++hF h F0.length n (N - i)++flw (fromEnd h mb N i) (F0.length+(N - i) * n)∧(⟨o1,o2,o3⟩:zu)=pc (fromEnd h mb N i) (F0.length+(N - i) * n),⟨by omega,rfl,by simp [fromEnd,flw,gEmpty],rfl⟩,?_,?_⟩
 ·rintro i y hi hy s f o1 o2 o3 ⟨_,rfl,rfl,hp⟩
  have hy:y=pc (h (N - 1 - i)) (F0.length+(N - 1 - i) * n):=by
   rw [hl,List.getElem?_map,List.getElem?_range (by omega)] at hy
   simpa using hy.symm
  have e1:N - i=(N - 1 - i)+1:=by omega
  have hlen:(F0++hF h F0.length n (N - 1 - i)).length=F0.length+(N - 1 - i) * n:=by rw [List.length_append,hF_len hn]
  have hmul:(N - 1 - i) * n+(n+i * n)=N * n:=by
   have:N=(N - 1 - i)+(1+i):=by omega
   conv=>rhs;rw [this,Nat.add_mul,Nat.add_mul,Nat.one_mul]
  have hcat:=cat_ok (F0++hF h F0.length n (N - 1 - i)) s (h (N - 1 - i)) (fromEnd h mb N i) (fun f hf=>by
   rcases List.mem_append.1 hf with hf | hf
   ·exact hr.small f hf
   ·exact zii (fun j=>by have:=hn j;omega) _ f hf) (by rw [hn,fromEnd_n hn];omega) (by rw [hlen];omega)
  rw [hlen,hn] at hcat
  have hpos:F0.length+(N - 1 - i) * n+n=F0.length+(N - i) * n:=by rw [e1,Nat.succ_mul];omega
  rw [hpos] at hcat
  have hfl:F0++hF h F0.length n (N - i)=F0++hF h F0.length n (N - 1 - i)++flw (h (N - 1 - i)) (F0.length+(N - 1 - i) * n):=by
   rw [e1,hF,List.append_assoc]
  rw [hfl,hp,hy]
  refine ⟨_,_,hcat,fun hm=>⟨_,W_place_maybe _ _ rfl,?_⟩,fun hm=>?_⟩
  all_goals have hidx:((N:Int) - 1 - i)=((N - 1 - i:Nat):Int):=by omega
  all_goals rw [hidx] at hm
  all_goals have e2:N - (i+1)=N - 1 - i:=by omega
  ·have hf:fromEnd h mb N (i+1)=gMaybe (gCat (h (N - 1 - i)) (fromEnd h mb N i)):=by
    simp only [fromEnd];rw [if_pos];rw [hmb];exact hm
   dsimp only;rw [hf,e2]
   exact ⟨by omega,rfl,rfl,rfl⟩
  ·have hf:fromEnd h mb N (i+1)=gCat (h (N - 1 - i)) (fromEnd h mb N i):=by
    simp only [fromEnd];rw [if_neg];rw [hmb];simpa using hm
   dsimp only;rw [hf,e2]
   exact ⟨by omega,rfl,rfl,rfl⟩
 ·rintro s f o1 o2 o3 ⟨_,rfl,rfl,hp⟩
  rw [Nat.sub_self,Nat.zero_mul,Nat.add_zero] at hp
  refine ⟨by rw [hres,hp],?_⟩
  rw [hfin]
  simp [hF]
end Go.Ev.Pl
namespace Go.Ev.Pl
open Go Go.Ev
theorem zi9 {g z:GA} {h:Nat→GA} {mb:Nat→Bool} {N:Nat} (hz:Canon z) (hN:1≤N) (hh:∀ j,j < N - 1→h j=g) (hl:h (N - 1)=z) (hm:∀ j,mb j=false):∀ i,i < N→fromEnd h mb N (i+1)=iter (gCat g) i z
 | 0,hi=>by
   simp only [fromEnd,hm]
   rw [if_neg (by simp),Nat.sub_zero,hl,cat_empty_r hz];rfl
 | i+1,hi=>by
   have ih:=zi9 hz hN hh hl hm i (by omega)
   rw [fromEnd]
   simp only [hm]
   rw [if_neg (by simp),ih,hh _ (by omega)];rfl
theorem zi8 {g:GA} {h:Nat→GA} {mb:Nat→Bool} {N L:Nat} (hL:L≤N) (hh:∀ j,h j=g) (hm:∀ j,j < N→mb j=decide (L≤j)):∀ i,i≤N→
 fromEnd h mb N i=iter (gCat g) (i - (N - L)) (iter (fun o=>gMaybe (gCat g o)) (min i (N - L)) gEmpty)
 | 0,_=>by simp [fromEnd,iter]
 | i+1,hi=>by
   have ih:=zi8 hL hh hm i (by omega)
   rw [fromEnd]
   simp only [hh,ih]
   rw [hm _ (by omega)]
   by_cases hc:L≤N - 1 - i
   ·rw [if_pos (by simpa using hc),show i - (N - L)=0 by omega,show i+1 - (N - L)=0 by omega,show min i (N - L)=i by omega,show min (i+1) (N - L)=i+1 by omega];rfl
   ·rw [if_neg (by simpa using hc),show i+1 - (N - L)=(i - (N - L))+1 by omega,show min i (N - L)=N - L by omega,show min (i+1) (N - L)=N - L by omega];rfl
theorem flw_again (g:GA) (b:Prop) [Decidable b] (off:Nat):flw (if b then gMaybe (gAgain g) else gAgain g) off=flw (gAgain g) off:=by split<;>rfl
theorem map_range_set {α:Type} {f:Nat→α} {N i:Nat} {v:α} (h:i < N):((List.range N).map f).set i v=(List.range N).map fun j=>if j=i then v else f j:=by
 refine set_eq (by simp) (fun j hj hne=>?_) (fun hj=>?_)
 ·simp only [List.getElem_map,List.getElem_range];rw [if_neg hne]
 ·simp only [List.getElem_map,List.getElem_range,if_true]
theorem rep_ok {x:zf} (hr:Rgt x) (h5:x.Kind=5) (hw:Wf x) (hp:∀ k∈x.Kids,PieceOk k) (F0:List (List Int)) (S:List zb) (hroom:Room F0 S (gof x).n) :
 zcb x { sets:=S,follow:=F0 } (pc (gof x) F0.length) { sets:=S++(gof x).sets,follow:=F0++flw (gof x) F0.length }:=by
 obtain ⟨ho,hk⟩:=zfP hr
 obtain ⟨⟨k,hq⟩,h1,h2,h3⟩:=ziG ho h5
 have hkm:k∈x.Kids:=by rw [hq];simp
 have hgn:=gof_n x hr
 have hgof:gof x=gRep (gof k) x.Lo x.Hi:=by
  rw [zdT,h5,hq];simp
 refine zf5 x _ _ _ ⟨_,rxSize_ok x hw,fun h0=>?_,fun h0=>?_⟩
 ·have h0:sizeN x=0:=by
   have:sizeZ x=0:=by simpa using h0
   simp only [sizeZ] at this;omega
  rw [gof_zero hr h0]
  exact ⟨rfl,by simp [gEmpty,flw]⟩
 obtain ⟨N,hN⟩:∃ N:Nat,N=(max 1 (max x.Lo x.Hi)).toNat:=⟨_,rfl⟩
 have hN1:1≤N:=by omega
 have hN2:N≤20:=by omega
 have hNi:(N:Int)=max 1 (max x.Lo x.Hi):=by omega
 have hn:(gof x).n=N * (gof k).n:=by rw [hgof,rep_n _ h1 (by omega),hN]
 have hs:(gof x).sets=cpS (gof k) N:=by rw [hgof,rep_sets _ h1 (by omega),hN]
 have hroom2:Room F0 S (N * (gof k).n):=by rw [← hn];exact hroom
 have hcp:=copies_ok (hp k hkm) N (by omega) F0 S hroom2
 have hlen2:F0.length+N * (gof k).n < 1000000:=hroom2.room
 have hcnt:(if (1:Int) > if x.Hi > x.Lo then x.Hi else x.Lo then (1:Int) else if x.Hi > x.Lo then x.Hi else x.Lo)=(N:Int):=by rw [hNi];split<;>omega
 rw [hcnt,hq]
 simp only [List.length_cons,List.length_nil,List.getD_cons_zero]
 refine ⟨by omega,_,_,hcp,?_⟩
 rw [← hs]
 by_cases hneg:x.Hi < 0
 ·-- from some times on
  obtain ⟨z,hz⟩:∃ z:GA,z=if x.Lo=0 then gMaybe (gAgain (gof k)) else gAgain (gof k):=⟨_,rfl⟩
  have hzc:Canon z:=by rw [hz];split;exact zfX (zer (zbP k));exact zer (zbP k)
  have hzn:z.n=(gof k).n:=by rw [hz];split<;>rfl
  obtain ⟨h,hh⟩:∃ h:Nat→GA,h=fun j=>if j=N - 1 then z else gof k:=⟨_,rfl⟩
  have hhn:∀ j,(h j).n=(gof k).n:=fun j=>by rw [hh];dsimp only;split;exact hzn;rfl
  have hfe:fromEnd h (fun j:Nat=>decide (x.Hi≥0) && decide ((j:Int)≥x.Lo)) N N=gof x:=by
   have:=zi9 (mb:=fun j:Nat=>decide (x.Hi≥0) && decide ((j:Int)≥x.Lo)) hzc hN1 (h:=h) (g:=gof k) (fun j hj=>by rw [hh];dsimp only;rw [if_neg (by omega)]) (by rw [hh];simp) (fun j=>by simp;omega) (N - 1) (by omega)
   rw [show N - 1+1=N by omega] at this
   rw [this,hgof]
   unfold gRep
   rw [if_pos hneg,← hz]
   congr 1;omega
  obtain ⟨N1,rfl⟩:∃ N1,N=N1+1:=⟨N - 1,by omega⟩
  have hF1:hF h F0.length (gof k).n (N1+1)=hF (fun _=>gof k) F0.length (gof k).n N1++flw (gAgain (gof k)) (F0.length+N1 * (gof k).n):=by
   rw [hF,hF_congr N1 (h':=fun _=>gof k) (fun j hj=>by rw [hh];dsimp only;rw [if_neg (by omega)])]
   congr 1
   rw [hh];dsimp only;rw [if_pos (by omega),hz,flw_again]
  refine ⟨fun s f l=>s=S++(gof x).sets∧f=F0++hF h F0.length (gof k).n (N1+1)∧l=(List.range (N1+1)).map fun j=>pc (h j) (F0.length+j * (gof k).n),?_,fun _=>?_,fun hc=>absurd (of_decide_eq_false hc) (by omega)⟩
  ·rintro s f l ⟨rfl,rfl,hl⟩
   exact ⟨zfL l,rep_loop (x:=x) (h:=h) (N:=N1+1) (S:=S) hhn hroom2 (by omega) hl (by rw [hfe]) (by rw [hfe])⟩
  ·have hwl:w64 ((((List.range (N1+1)).map fun i=>pc (gof k) (F0.length+i * (gof k).n)).length:Int) - 1)=(N1:Int):=by
    rw [List.length_map,List.length_range];exact (zan (by omega) (by omega)).trans (by omega)
   have hgl:gd ((List.range (N1+1)).map fun i=>pc (gof k) (F0.length+i * (gof k).n)) (N1:Int)=pc (gof k) (F0.length+N1 * (gof k).n):=by
    rw [za7 (by simp)];simp
   rw [hwl,hgl]
   have hlen:(F0++hF (fun _=>gof k) F0.length (gof k).n N1).length=F0.length+N1 * (gof k).n:=by rw [List.length_append,hF_len fun _=>rfl]
   have hmul:(N1+1) * (gof k).n=N1 * (gof k).n+(gof k).n:=Nat.succ_mul _ _
   have hla:=zcn (gof k).n (gof k).last (F0.length+N1 * (gof k).n)
   have hlf:=zcn (gof k).n (gof k).first (F0.length+N1 * (gof k).n)
   have hlead:=lead_ok (lst (gof k).n (gof k).last (F0.length+N1 * (gof k).n)) (lst (gof k).n (gof k).first (F0.length+N1 * (gof k).n)) { sets:=S++(gof x).sets,follow:=F0++hF (fun _=>gof k) F0.length (gof k).n (N1+1) } (zgx _ _ _) (fun y hy=>by
    obtain ⟨i,hi,_,rfl⟩:=zbv.1 hy
    simp only [List.length_append,hF_len fun _=>rfl];omega) (by omega) (fun f hf=>by
    rcases List.mem_append.1 hf with hf | hf
    ·exact hroom.small f hf
    ·exact zii (fun _=>by omega) _ f hf) (by omega)
   have hag:=lead_again (F0++hF (fun _=>gof k) F0.length (gof k).n N1) (gof k)
   rw [hlen,List.append_assoc,List.append_assoc] at hag
   have hag2:leadF (F0++hF (fun _=>gof k) F0.length (gof k).n (N1+1)) (lst (gof k).n (gof k).last (F0.length+N1 * (gof k).n)) (lst (gof k).n (gof k).first (F0.length+N1 * (gof k).n))=F0++hF h F0.length (gof k).n (N1+1):=by
    rw [hF1];exact hag
   simp only [hag2] at hlead
   have hset:∀ b:Bool,b=z.null→List.set ((List.range (N1+1)).map fun i=>pc (gof k) (F0.length+i * (gof k).n)) (Int.toNat (N1:Int)) { first:=(pc (gof k) (F0.length+N1 * (gof k).n)).first,last:=(pc (gof k) (F0.length+N1 * (gof k).n)).last,null:=b }=(List.range (N1+1)).map fun j=>pc (h j) (F0.length+j * (gof k).n):=by
    intro b hb
    rw [Int.toNat_natCast,map_range_set (by omega)]
    refine List.map_congr_left fun j hj=>?_
    rw [hh];dsimp only
    by_cases e:j=N1
    ·subst e
     rw [if_pos rfl,if_pos (by omega)]
     have e1:z.first=(gof k).first:=by rw [hz];split<;>rfl
     have e2:z.last=(gof k).last:=by rw [hz];split<;>rfl
     rw [hb]
     simp only [pc,hzn,e1,e2]
    ·rw [if_neg e,if_neg (by omega)]
   have hll:((List.range (N1+1)).map fun i=>pc (gof k) (F0.length+i * (gof k).n)).length=N1+1:=by simp
   rw [hll]
   refine ⟨by omega,by omega,by omega,by omega,_,hlead,by omega,fun hn=>⟨fun _=>by omega,rfl,rfl,hset _ ?_⟩,fun hn=>⟨fun _=>by omega,rfl,rfl,hset _ ?_⟩⟩
   ·have hn:(gof k).null=true:=hn
    rw [hz];split<;>simp [gMaybe,gAgain,hn]
   ·have hn:(gof k).null=false:=hn
    rw [hz]
    by_cases e:x.Lo=0
    ·rw [if_pos e,e];rfl
    ·rw [if_neg e]
     show (x.Lo == 0)=(gof k).null
     rw [hn];simpa using e
 ·-- from some times to others
  have hhi:1≤x.Hi∧x.Lo≤x.Hi:=by omega
  have hfe:fromEnd (fun _=>gof k) (fun j:Nat=>decide (x.Hi≥0) && decide ((j:Int)≥x.Lo)) N N=gof x:=by
   have:=zi8 (h:=fun _=>gof k) (g:=gof k) (mb:=fun j:Nat=>decide (x.Hi≥0) && decide ((j:Int)≥x.Lo)) (N:=N) (L:=x.Lo.toNat) (by omega) (fun _=>rfl) (fun j hj=>by
    have:decide (x.Hi≥0)=true:=by simp;omega
    simp only [this,Bool.true_and,decide_eq_decide];omega) N (Nat.le_refl _)
   rw [this,hgof]
   unfold gRep
   rw [if_neg hneg]
   congr 1
   ·omega
   ·congr 1;omega
  refine ⟨fun s f l=>s=S++(gof x).sets∧f=F0++hF (fun _=>gof k) F0.length (gof k).n N∧l=(List.range N).map fun j=>pc (gof k) (F0.length+j * (gof k).n),?_,fun hc=>absurd (of_decide_eq_true hc) hneg,fun _=>⟨rfl,rfl,rfl⟩⟩
  rintro s f l ⟨rfl,rfl,hl⟩
  exact ⟨zfL l,rep_loop (x:=x) (h:=fun _=>gof k) (N:=N) (S:=S) (fun _=>rfl) hroom2 (by omega) hl (by rw [hfe]) (by rw [hfe])⟩
end Go.Ev.Pl
namespace Go.Ev.Pl
open Go Go.Ev
theorem pc_first (g:GA) (off:Nat):(pc g off).first=lst g.n g.first off:=rfl
theorem pc_last (g:GA) (off:Nat):(pc g off).last=lst g.n g.last off:=rfl
theorem pc_null (g:GA) (off:Nat):(pc g off).null=g.null:=rfl
theorem pre_n {f:GA→GA→GA} (hf:∀ a b,(f a b).n=a.n+b.n) {z:GA} (hz:z.n=0) {l:List zf} {i:Nat} (h:i < l.length) :
 ((l.take i).foldl (fun o y=>f o (gof y)) z).n+(gof l[i]).n≤(l.foldl (fun o y=>f o (gof y)) z).n:=by
 have e:=zja hf (l.take (i+1)) z
 rw [zbN h,hf] at e
 rw [e,zja hf]
 have:(l.map fun y=>(gof y).n).sum=((l.take (i+1)).map fun y=>(gof y).n).sum+((l.drop (i+1)).map fun y=>(gof y).n).sum:=by
  rw [← List.sum_append,← List.map_append,List.take_append_drop]
 omega
theorem piece_ok:∀ x,Wf x→Rgt x→PieceOk x:=by
 refine rxInd fun x ih hw hr=>?_
 obtain ⟨hl,hkw⟩:=(zit x).1 hw
 obtain ⟨ho,hk⟩:=zfP hr
 intro F0 S hroom
 have hrm:=hroom.room
 refine ze6 x _ _ _ ⟨fun h=>?_,fun h2=>⟨fun h=>?_,fun h3=>⟨fun h=>?_,fun h4=>⟨fun h=>?_,fun h5=>?_⟩⟩⟩⟩
 ·have h:x.Kind=2:=by simpa using h
  have hg:gof x=gByte x.Set:=by rw [zdT,if_pos h]
  rw [hg] at hrm ⊢
  have hrm:F0.length+1 < 1000000:=hrm
  refine ⟨_,_,ze5 _ _ _ _ ⟨?_,?_,rfl,rfl⟩,?_,?_⟩
  ·have:=hroom.same;simp only;omega
  ·simp only;omega
  ·have:lst 1 (fun i=>i == 0) F0.length=[(S.length:Int)]:=by
    rw [hroom.same];simp [lst,List.range_succ]
   simp only [pc,gByte,this]
  ·rfl
 ·have h:x.Kind=3:=by simpa using h
  have hg:gof x=x.Kids.foldl (fun o y=>gCat o (gof y)) gEmpty:=by rw [zdT];simp [h]
  refine ⟨fun s f a b c t=>∃ i:Nat,t=i∧i≤x.Kids.length∧s=S++((x.Kids.take i).foldl (fun o y=>gCat o (gof y)) gEmpty).sets∧f=F0++flw ((x.Kids.take i).foldl (fun o y=>gCat o (gof y)) gEmpty) F0.length∧(⟨a,b,c⟩:zu)=pc ((x.Kids.take i).foldl (fun o y=>gCat o (gof y)) gEmpty) F0.length,
   fun _ _ _ _ _ t=>(x.Kids.length - t).toNat,⟨0,rfl,by omega,by simp [gEmpty],by simp [gEmpty,flw],rfl⟩,?_⟩
  rintro s f a b c t ⟨i,rfl,hi,rfl,rfl,hp⟩
  refine ⟨fun ht=>?_,fun ht=>?_⟩
  ·have ht:i < x.Kids.length:=by simpa using ht
   have hm:=List.getElem_mem ht
   obtain ⟨o,ho'⟩:∃ o,o=(x.Kids.take i).foldl (fun o y=>gCat o (gof y)) gEmpty:=⟨_,rfl⟩
   have hn:=pre_n (f:=gCat) (fun _ _=>rfl) (z:=gEmpty) rfl ht
   rw [← hg,← ho'] at hn
   have hsucc:=zbN (f:=fun o y=>gCat o (gof y)) (b:=gEmpty) ht
   rw [← ho'] at hsucc hp ⊢
   have hoc:Canon o:=by
    rw [ho']
    have:∀ (l:List zf) (z:GA),Canon z→Canon (l.foldl (fun o y=>gCat o (gof y)) z):=by
     intro l
     induction l with
     | nil=>intro z h;exact h
     | cons y r ih2=>intro z h;exact ih2 _ (zd0 h (zbP y))
    exact this _ _ zb5
   have hlen:(F0++flw o F0.length).length=F0.length+o.n:=by rw [List.length_append,zaT]
   have hpk:=ih _ hm (hkw _ hm) (hk _ hm) (F0++flw o F0.length) (S++o.sets) ⟨by rw [hlen,List.length_append,hroom.same,hoc.sets],fun f hf=>by
    rcases List.mem_append.1 hf with hf | hf
    ·exact hroom.small f hf
    ·exact zeU _ _ (by omega) f hf,by rw [hlen];omega⟩
   rw [hlen] at hpk
   have hcat:=cat_ok F0 ((S++o.sets)++(gof x.Kids[i]).sets) o (gof x.Kids[i]) hroom.small (by omega) (by omega)
   have hw2:w64 ((i:Int)+1)=((i+1:Nat):Int):=zan (by omega) (by omega)
   rw [za7 ht,hp]
   refine ⟨by omega,by omega,_,_,hpk,_,_,hcat,?_⟩
   rw [hw2]
   exact ⟨⟨i+1,rfl,by omega,by rw [hsucc];simp [gCat],by rw [hsucc],by rw [hsucc]⟩,by dsimp only;omega⟩
  ·have:i=x.Kids.length:=by have:¬ i < x.Kids.length:=by simpa using ht
                            omega
   subst this
   rw [List.take_of_length_le (Nat.le_refl _),← hg] at hp ⊢
   exact ⟨hp.symm,rfl⟩
 ·have h:x.Kind=4:=by simpa using h
  have hg:gof x=x.Kids.foldl (fun o y=>gAlt o (gof y)) gNone:=by rw [zdT];simp [h]
  refine ⟨fun s f a b c t=>∃ i:Nat,t=i∧i≤x.Kids.length∧s=S++((x.Kids.take i).foldl (fun o y=>gAlt o (gof y)) gNone).sets∧f=F0++flw ((x.Kids.take i).foldl (fun o y=>gAlt o (gof y)) gNone) F0.length∧(⟨a,b,c⟩:zu)=pc ((x.Kids.take i).foldl (fun o y=>gAlt o (gof y)) gNone) F0.length,
   fun _ _ _ _ _ t=>(x.Kids.length - t).toNat,⟨0,rfl,by omega,by simp [gNone],by simp [gNone,flw],rfl⟩,?_⟩
  rintro s f a b c t ⟨i,rfl,hi,rfl,rfl,hp⟩
  refine ⟨fun ht=>?_,fun ht=>?_⟩
  ·have ht:i < x.Kids.length:=by simpa using ht
   have hm:=List.getElem_mem ht
   obtain ⟨o,ho'⟩:∃ o,o=(x.Kids.take i).foldl (fun o y=>gAlt o (gof y)) gNone:=⟨_,rfl⟩
   have hn:=pre_n (f:=gAlt) (fun _ _=>rfl) (z:=gNone) rfl ht
   rw [← hg,← ho'] at hn
   have hsucc:=zbN (f:=fun o y=>gAlt o (gof y)) (b:=gNone) ht
   rw [← ho'] at hsucc hp ⊢
   have hoc:Canon o:=by
    rw [ho']
    have:∀ (l:List zf) (z:GA),Canon z→Canon (l.foldl (fun o y=>gAlt o (gof y)) z):=by
     intro l
     induction l with
     | nil=>intro z h;exact h
     | cons y r ih2=>intro z h;exact ih2 _ (zjs h (zbP y))
    exact this _ _ zfk
   have hlen:(F0++flw o F0.length).length=F0.length+o.n:=by rw [List.length_append,zaT]
   have hpk:=ih _ hm (hkw _ hm) (hk _ hm) (F0++flw o F0.length) (S++o.sets) ⟨by rw [hlen,List.length_append,hroom.same,hoc.sets],fun f hf=>by
    rcases List.mem_append.1 hf with hf | hf
    ·exact hroom.small f hf
    ·exact zeU _ _ (by omega) f hf,by rw [hlen];omega⟩
   rw [hlen] at hpk
   have hw2:w64 ((i:Int)+1)=((i+1:Nat):Int):=zan (by omega) (by omega)
   rw [za7 ht]
   have hpa:a=lst o.n o.first F0.length:=congrArg zu.first hp
   have hpb:b=lst o.n o.last F0.length:=congrArg zu.last hp
   have hpc:c=o.null:=congrArg zu.null hp
   have l1:=zcn o.n o.first F0.length
   have l2:=zcn o.n o.last F0.length
   have l3:=zcn (gof x.Kids[i]).n (gof x.Kids[i]).first (F0.length+o.n)
   have l4:=zcn (gof x.Kids[i]).n (gof x.Kids[i]).last (F0.length+o.n)
   refine ⟨by omega,by omega,_,_,hpk,_,zhh _ _ (by rw [hpa];omega) (by rw [pc_first];omega),_,zhh _ _ (by rw [hpb];omega) (by rw [pc_last];omega),?_⟩
   rw [hw2]
   refine ⟨⟨i+1,rfl,by omega,by rw [hsucc];simp [gAlt],?_,?_⟩,by dsimp only;omega⟩
   ·rw [hsucc,← flw_alt,← List.append_assoc]
   ·rw [hsucc,hpa,hpb,hpc,pc_first,pc_last,pc_null,alt_first,alt_last];rfl
  ·have:i=x.Kids.length:=by have:¬ i < x.Kids.length:=by simpa using ht
                            omega
   subst this
   rw [List.take_of_length_le (Nat.le_refl _),← hg] at hp ⊢
   exact ⟨hp.symm,rfl⟩
 ·have h:x.Kind=5:=by simpa using h
  exact ⟨_,_,rep_ok hr h hw (fun k hkm=>ih k hkm (hkw k hkm) (hk k hkm)) F0 S hroom,rfl,rfl⟩
 ·have h1:x.Kind=1:=by
   simp only [beq_eq_false_iff_ne,ne_eq] at h2 h3 h4 h5
   have:=zfg ho;omega
  have hg:gof x=gEmpty:=by rw [zdT];simp [h1]
  rw [hg]
  exact ⟨rfl,by simp [gEmpty,flw]⟩
def plc (g:GA):zao:=⟨g.sets,lst g.n g.first 0,lst g.n g.last 0,flw g 0,g.null⟩
def noPl:zao:=⟨[],[],[],[],false⟩
theorem zda {x:zf} (h:rightB x=true):Rgt x∧sizeN x≤200:=by
 simp only [rightB,Bool.and_eq_true,decide_eq_true_eq] at h
 refine ⟨⟨20,h.1⟩,?_⟩
 have:=h.2.1
 simp only [sizeZ] at this;omega
theorem placeOf_ok (x:zf) (hw:Wf x):zhB x (if rightB x=true then plc (gof x) else noPl) (if rightB x=true then 0 else 1):=by
 refine W_place_Of x _ _ ⟨_,zcl x hw,fun h=>?_,fun h=>?_⟩
 ·have h:rightB x=false:=by simpa using h
  rw [h];exact ⟨rfl,rfl⟩
 ·have h:rightB x=true:=by simpa using h
  obtain ⟨hr,hs⟩:=zda h
  have hn:=gof_n x hr
  have:=piece_ok x hw hr [] [] ⟨rfl,fun f hf=>by simp at hf,by simp;omega⟩
  refine ⟨_,_,this,?_,?_⟩
  ·rw [if_pos h];simp [plc,pc]
  ·rw [if_pos h]
end Go.Ev.Pl
namespace Go.Ev.Pl
open Go Go.Ev
end Go.Ev.Pl
namespace Go.Ev.Pl
open Go Go.Ev
end Go.Ev.Pl
namespace Go.Ev.Pl
open Go Go.Ev
def setOf (lo hi:Int):zb:=mkSet fun i=>decide (i≥lo) && decide (i≤hi)
theorem noset_97:noSet (setOf 97 97)=false:=by kernel_rfl
theorem noset_98:noSet (setOf 98 98)=false:=by kernel_rfl
theorem noset_99:noSet (setOf 99 99)=false:=by kernel_rfl
theorem noset_10:noSet (setOf 10 10)=false:=by kernel_rfl
theorem noset_45:noSet (setOf 45 45)=false:=by kernel_rfl
theorem noset_90:noSet (setOf 90 90)=false:=by kernel_rfl
theorem noset_0:noSet (setOf 0 0)=false:=by kernel_rfl
theorem noset_255:noSet (setOf 255 255)=false:=by kernel_rfl
theorem noset_48:noSet (setOf 48 48)=false:=by kernel_rfl
theorem noset_ac:noSet (setOf 97 99)=false:=by kernel_rfl
theorem noset_not:noSet (mkSet fun i=>!setHas (setOf 97 97) i)=false:=by kernel_rfl
def zset:zb:=⟨0,0,0,0⟩
def chr (b:Int):zf:=⟨2,setOf b b,0,0,[]⟩
theorem wf_leaf (k:Int) (s:zb) (lo hi:Int):Wf ⟨k,s,lo,hi,[]⟩:=(zit _).2 ⟨by simp,fun y hy=>by simp at hy⟩
end Go.Ev.Pl
namespace Go.Ev.Pl
open Go Go.Ev
def cnt:zf→Nat:=cata fun _ l=>1+l.sum
theorem ze1 (x:zf):cnt x=1+(x.Kids.map cnt).sum:=ze2 _ x
theorem zhg:∀ l:List zf,l.length≤(l.map cnt).sum
 | []=>Nat.le_refl _
 | x :: r=>by have:=zhg r;have:=ze1 x;simp;omega
theorem sum_mem_le {l:List zf} {y:zf} (h:y∈l):cnt y≤(l.map cnt).sum:=by
 induction l with
 | nil=>simp at h
 | cons x r ih=>
   rcases List.mem_cons.1 h with rfl | h
   ·simp
   ·have:=ih h;simp;omega
theorem wf_of_cnt:∀ x,cnt x < 1000000→Wf x:=by
 refine rxInd fun x ih h=>?_
 rw [ze1] at h
 have:=zhg x.Kids
 exact (zit x).2 ⟨by omega,fun y hy=>ih y hy (by have:=sum_mem_le hy;omega)⟩
theorem zjV:∀ x (most:Int),(cnt x:Int)≤most→nodesZ x most=most - cnt x:=by
 refine rxInd fun x ih most hm=>?_
 rw [zgv]
 rw [ze1] at hm ⊢
 have key:∀ (l:List zf) (m:Int),(∀ y∈l,y∈x.Kids)→(((l.map cnt).sum:Nat):Int)≤m→l.foldl (fun m y=>if m≥0 then nodesZ y m else m) m=m - (((l.map cnt).sum:Nat):Int):=by
  intro l
  induction l with
  | nil=>intro m _ _;simp
  | cons y r ih2=>
    intro m hl h
    simp only [List.map_cons,List.sum_cons] at h ⊢
    rw [List.foldl_cons,if_pos (by omega),ih y (hl y (List.mem_cons_self ..)) m (by omega),ih2 _ (fun z hz=>hl z (List.mem_cons_of_mem _ hz)) (by omega)]
    omega
 rw [key x.Kids (most - 1) (fun _ h=>h) (by omega)]
 omega
theorem rgt_mono:∀ x (d:Int),rgt x d=true→∀ d',d≤d'→rgt x d'=true:=by
 refine rxInd fun x ih d h d' hd=>?_
 rw [zgq] at h ⊢
 simp only [Bool.and_eq_true,decide_eq_true_eq,List.all_eq_true,Bool.not_eq_true'] at h ⊢
 exact ⟨⟨by omega,h.1.2⟩,fun k hk=>⟨(h.2 k hk).1,ih k hk _ (h.2 k hk).2 _ (by omega)⟩⟩
theorem rgt_leaf {s:zb} (h:noSet s=false):rgt ⟨2,s,0,0,[]⟩ 1=true:=by
 rw [zgq];simp [ownB,h]
theorem rgt_empty:rgt ⟨1,zset,0,0,[]⟩ 1=true:=by kernel_rfl
def Bytes (l:List Int):Prop:=∀ b∈l,0≤b∧b≤255
structure MOk (m:ze):Prop where
 bytes:Bytes m.L
 len:m.L.length≤1000
 at0:0≤m.At
theorem zeN (n:Int) (m:ze) (hn:1≤n) (hm:MOk m) (ha:m.At < 1000000):∃ r,0≤r∧r < n∧zq n m r { L:=m.L,At:=m.At+1 }:=by
 have h0:=hm.at0
 have hl:=hm.len
 have hw1:w64 (m.At+1)=m.At+1:=zan (by omega) (by omega)
 have hw2:w64 (m.At+1 - 1)=m.At:=(zan (by omega) (by omega)).trans (by omega)
 by_cases hg:m.At+1 > m.L.length
 ·refine ⟨0,by omega,by omega,zci n m _ _ ?_⟩
  rw [hw1]
  exact ⟨fun _=>⟨rfl,rfl⟩,fun h=>absurd hg (by simpa using h)⟩
 ·have hi:m.At.toNat < m.L.length:=by omega
  have he:gd m.L m.At=m.L[m.At.toNat]:=by simp [gd,List.getD,hi]
  obtain ⟨b0,b1⟩:=hm.bytes _ (List.getElem_mem hi)
  have hw3:w64 (gd m.L m.At)=gd m.L m.At:=by rw [he];exact zan (by omega) (by omega)
  refine ⟨Int.tmod (gd m.L m.At) n,?_,?_,zci n m _ _ ?_⟩
  ·rw [he,Int.tmod_eq_emod_of_nonneg b0];exact Int.emod_nonneg _ (by omega)
  ·rw [he,Int.tmod_eq_emod_of_nonneg b0];exact Int.emod_lt_of_pos _ (by omega)
  ·rw [hw1,hw2,hw3]
   exact ⟨fun h=>absurd (by simpa using h) hg,fun _=>⟨by omega,by omega,by omega,rfl,rfl⟩⟩
theorem chr_ok (b:Int):zbf b (chr b):=char3_ok b
theorem rgt_chr {b:Int} (h:noSet (setOf b b)=false):rgt (chr b) 1=true:=rgt_leaf h
structure Good (d:Nat) (r:zf):Prop where
 right:rgt r ((d:Int)+1)=true
 small:cnt r≤2 ^ (d+1) - 1
theorem zgP (k:Int) (s:zb) (lo hi:Int):cnt ⟨k,s,lo,hi,[]⟩=1:=by rw [ze1];rfl
theorem leaf_ok (m:ze) (hm:MOk m) (ha:m.At < 900000):∃ r o,zbs m r o∧Good 0 r∧o.L=m.L∧m.At≤o.At∧o.At≤m.At+2:=by
 obtain ⟨r0,p0,p1,hp⟩:=zeN 8 m (by omega) hm (by omega)
 have hm1:MOk { L:=m.L,At:=m.At+1 }:=⟨hm.bytes,hm.len,by have:=hm.at0;simp only;omega⟩
 have good:∀ {r:zf},rgt r 1=true→cnt r=1→Good 0 r:=fun h1 h2=>⟨by simpa using h1,by omega⟩
 by_cases h0:r0=0
 ·subst h0
  exact ⟨_,_,zaw m _ _ ⟨_,_,hp,fun _=>⟨rfl,rfl⟩,fun h=>by simp at h⟩,good rgt_empty (zgP _ _ _ _),rfl,by simp only;omega,by simp only;omega⟩
 by_cases h1:r0=1
 ·subst h1
  exact ⟨_,_,zaw m _ _ ⟨_,_,hp,fun h=>by simp at h,fun _=>⟨fun _=>⟨_,zgn 97 99,rfl,rfl⟩,fun h=>by simp at h⟩⟩,good (rgt_leaf noset_ac) (zgP _ _ _ _),rfl,by simp only;omega,by simp only;omega⟩
 by_cases h2:r0=2
 ·subst h2
  exact ⟨_,_,zaw m _ _ ⟨_,_,hp,fun h=>by simp at h,fun _=>⟨fun h=>by simp at h,fun _=>⟨fun _=>⟨_,zgn 97 97,_,setNot_ok _,rfl,rfl⟩,fun h=>by simp at h⟩⟩⟩,good (rgt_leaf noset_not) (zgP _ _ _ _),rfl,by simp only;omega,by simp only;omega⟩
 by_cases h3:r0=3
 ·subst h3
  obtain ⟨r1,q0,q1,hq⟩:=zeN 6 _ (by omega) hm1 (by simp only;omega)
  have hr:r1=0∨r1=1∨r1=2∨r1=3∨r1=4∨r1=5:=by omega
  have hs:noSet (setOf (gd [10,45,90,0,255,48] r1) (gd [10,45,90,0,255,48] r1))=false:=by
   rcases hr with rfl | rfl | rfl | rfl | rfl | rfl
   ·exact noset_10
   ·exact noset_45
   ·exact noset_90
   ·exact noset_0
   ·exact noset_255
   ·exact noset_48
  exact ⟨_,_,zaw m _ _ ⟨_,_,hp,fun h=>by simp at h,fun _=>⟨fun h=>by simp at h,fun _=>⟨fun h=>by simp at h,fun _=>⟨fun _=>⟨_,_,hq,q0,by omega,by simp;omega,_,chr_ok _,rfl,rfl⟩,fun h=>by simp at h⟩⟩⟩⟩,good (rgt_chr hs) (zgP _ _ _ _),rfl,by simp only;omega,by simp only;omega⟩
 obtain ⟨r1,q0,q1,hq⟩:=zeN 3 _ (by omega) hm1 (by simp only;omega)
 have hr:r1=0∨r1=1∨r1=2:=by omega
 have hs:noSet (setOf (w64 (97+r1)) (w64 (97+r1)))=false:=by
  rcases hr with rfl | rfl | rfl
  ·exact noset_97
  ·exact noset_98
  ·exact noset_99
 exact ⟨_,_,zaw m _ _ ⟨_,_,hp,fun h=>absurd (by simpa using h) h0,fun _=>⟨fun h=>absurd (by simpa using h) h1,fun _=>⟨fun h=>absurd (by simpa using h) h2,fun _=>⟨fun h=>absurd (by simpa using h) h3,fun _=>⟨_,_,hq,_,chr_ok _,rfl,rfl⟩⟩⟩⟩⟩,good (rgt_chr hs) (zgP _ _ _ _),rfl,by simp only;omega,by simp only;omega⟩
def jk (kind:Int) (r:zf):List zf:=if r.Kind=kind then r.Kids else [r]
theorem joined_ok (kind:Int) (r1 r2:zf) (h1:r1.Kids.length < 1000000) (h2:r2.Kids.length < 1000000):zam kind [r1,r2] ⟨kind,zset,0,0,jk kind r1++jk kind r2⟩:=by
 have hjl:∀ r:zf,r.Kids.length < 1000000→(jk kind r).length < 1000000:=fun r h=>by unfold jk;split;exact h;simp
 have hj1:=hjl r1 h1
 have hj2:=hjl r2 h2
 refine zfz kind _ _ ⟨fun k t=>(t=0∧k=[])∨(t=1∧k=jk kind r1)∨(t=2∧k=jk kind r1++jk kind r2),fun _ t=>(2 - t).toNat,.inl ⟨rfl,rfl⟩,?_⟩
 rintro k t (⟨rfl,rfl⟩ | ⟨rfl,rfl⟩ | ⟨rfl,rfl⟩)
 ·refine ⟨fun _=>⟨fun k'=>k'=jk kind r1,?_,by omega,by simp,fun h=>⟨by omega,by simp,?_,?_⟩,fun h=>⟨by omega,by simp,by simp,?_⟩⟩,fun h=>by simp at h⟩
  ·rintro k' rfl;exact ⟨.inr (.inl ⟨rfl,rfl⟩),by show Int.toNat (2 - 1) < Int.toNat (2 - 0);decide⟩
  ·have:gd [r1,r2] 0=r1:=rfl
   rw [this];simp;omega
  ·have:gd [r1,r2] 0=r1:=rfl
   rw [this] at h ⊢
   have h:r1.Kind=kind:=by simpa using h
   simp [jk,h]
  ·have:gd [r1,r2] 0=r1:=rfl
   rw [this] at h ⊢
   have h:r1.Kind≠kind:=by simpa using h
   simp [jk,h]
 ·refine ⟨fun _=>⟨fun k'=>k'=jk kind r1++jk kind r2,?_,by omega,by simp,fun h=>⟨by omega,by simp,?_,?_⟩,fun h=>⟨by omega,by simp,?_,?_⟩⟩,fun h=>by simp at h⟩
  ·rintro k' rfl;exact ⟨.inr (.inr ⟨rfl,rfl⟩),by show Int.toNat (2 - 2) < Int.toNat (2 - 1);decide⟩
  ·have:gd [r1,r2] 1=r2:=rfl
   rw [this];omega
  ·have:gd [r1,r2] 1=r2:=rfl
   rw [this] at h ⊢
   have h:r2.Kind=kind:=by simpa using h
   simp [jk,h]
  ·omega
  ·have:gd [r1,r2] 1=r2:=rfl
   rw [this] at h ⊢
   have h:r2.Kind≠kind:=by simpa using h
   simp [jk,h]
 ·exact ⟨fun h=>by simp at h,fun _=>rfl⟩
theorem ziV {kind:Int} (hk:kind=3∨kind=4) {d:Nat} {r1 r2:zf} (h1:Good d r1) (h2:Good d r2):Good (d+1) ⟨kind,zset,0,0,jk kind r1++jk kind r2⟩:=by
 have key:∀ r,Good d r→1≤(jk kind r).length∧((jk kind r).map cnt).sum≤cnt r∧∀ k∈jk kind r,k.Kind≠kind∧rgt k ((d:Int)+1)=true:=by
  intro r h
  have hr:=h.right
  by_cases e:r.Kind=kind
  ·rw [zgq] at hr
   simp only [Bool.and_eq_true,decide_eq_true_eq,List.all_eq_true,Bool.not_eq_true'] at hr
   have:=own_kids hr.1.2 (by omega)
   simp only [jk,if_pos e]
   refine ⟨by omega,by rw [ze1];omega,fun k hkm=>?_⟩
   obtain ⟨q1,q2⟩:=hr.2 k hkm
   refine ⟨fun e2=>?_,rgt_mono _ _ q2 _ (by omega)⟩
   simp only [oddK,e2,e] at q1
   rcases hk with rfl | rfl<;>simp at q1
  ·simp only [jk,if_neg e]
   exact ⟨by simp,by simp,fun k hkm=>by simp at hkm;subst hkm;exact ⟨e,hr⟩⟩
 obtain ⟨a1,a2,a3⟩:=key r1 h1
 obtain ⟨b1,b2,b3⟩:=key r2 h2
 constructor
 ·rw [zgq]
  simp only [Bool.and_eq_true,decide_eq_true_eq,List.all_eq_true,Bool.not_eq_true']
  refine ⟨⟨by omega,?_⟩,fun k hkm=>?_⟩
  ·have hz:noSet zset=true:=rfl
   simp only [ownB]
   rw [if_neg (by omega),if_neg (by omega),if_neg (by omega),if_pos hk,hz]
   simp;omega
  ·have:k.Kind≠kind∧rgt k ((d:Int)+1)=true:=by
    rcases List.mem_append.1 hkm with h | h
    ·exact a3 k h
    ·exact b3 k h
   refine ⟨by simp [oddK,this.1],?_⟩
   have e:(((d+1:Nat):Int)+1 - 1)=(d:Int)+1:=by omega
   rw [e];exact this.2
 ·rw [ze1]
  simp only [List.map_append,List.sum_append]
  have:=h1.small
  have:=h2.small
  have e:2 ^ (d+1+1)=2 ^ (d+1)+2 ^ (d+1):=by rw [Nat.pow_succ];omega
  have:1≤2 ^ (d+1):=Nat.one_le_two_pow
  omega
theorem good_mono {d d':Nat} {r:zf} (h:Good d r) (hd:d≤d'):Good d' r:=by
 refine ⟨rgt_mono _ _ h.right _ (by omega),?_⟩
 have:=h.small
 have:2 ^ (d+1)≤2 ^ (d'+1):=Nat.pow_le_pow_right (by omega) (by omega)
 omega
theorem zgC {d:Nat} {r:zf} (h:Good d r) (hd:d≤10):r.Kids.length < 1000000∧Wf r:=by
 have hs:=h.small
 have:2 ^ (d+1)≤2 ^ 11:=Nat.pow_le_pow_right (by omega) (by omega)
 have e:=ze1 r
 have:=zhg r.Kids
 exact ⟨by omega,wf_of_cnt r (by omega)⟩
theorem mk_ok:∀ (d:Nat),d≤5→∀ (deep:Int),deep≤d→-10≤deep→∀ m,MOk m→m.At+10 * 3 ^ d < 100000→∃ r o,zX deep m r o∧Good d r∧o.L=m.L∧m.At≤o.At∧o.At≤m.At+10 * 3 ^ d:=by
 intro d
 induction d using Nat.strongRecOn with
 | _ d ih=>
 intro hd5 deep hdd hd0 m hm hat
 have h30:(1:Int)≤3 ^ d:=by exact_mod_cast Nat.one_le_pow d 3 (by omega)
 have hm0:=hm.at0
 obtain ⟨k,p0,p1,hp⟩:=zeN 8 m (by omega) hm (by omega)
 have hm1:MOk { L:=m.L,At:=m.At+1 }:=⟨hm.bytes,hm.len,by simp only;omega⟩
 by_cases hleaf:(decide (deep < 1) || (decide (k < 2) || decide (m.At+1≥(m.L.length:Int))))=true
 ·obtain ⟨r,o,c1,c2,c3,c4,c5⟩:=leaf_ok _ hm1 (by simp only;omega)
  exact ⟨r,o,za1 deep m _ _ ⟨_,_,hp,fun _=>⟨_,_,c1,rfl,rfl⟩,fun h=>(by rw [hleaf] at h;cases h)⟩,good_mono c2 (by omega),c3,by simp only at c4;omega,by simp only at c5;omega⟩
 have hleaf:(decide (deep < 1) || (decide (k < 2) || decide (m.At+1≥(m.L.length:Int))))=false:=by simpa using hleaf
 have hdp:1≤deep:=by simp only [Bool.or_eq_false_iff,decide_eq_false_iff_not] at hleaf;omega
 obtain ⟨e,rfl⟩:∃ e,d=e+1:=⟨d - 1,by omega⟩
 have h3:(3:Int) ^ (e+1)=3 * 3 ^ e:=by rw [Int.pow_succ];omega
 have h3e:(1:Int)≤3 ^ e:=by exact_mod_cast Nat.one_le_pow e 3 (by omega)
 have hw1:w64 (deep - 1)=deep - 1:=zan (by omega) (by omega)
 have hw2:w64 (deep - 2)=deep - 2:=zan (by omega) (by omega)
 by_cases hk5:k < 5
 ·obtain ⟨r1,o1,c1,g1,l1,u1,v1⟩:=ih e (by omega) (by omega) (deep - 1) (by omega) (by omega) _ hm1 (by simp only;omega)
  simp only at l1 u1 v1
  obtain ⟨r2,o2,c2,g2,l2,u2,v2⟩:=ih e (by omega) (by omega) (deep - 1) (by omega) (by omega) o1 ⟨by rw [l1];exact hm.bytes,by rw [l1];exact hm.len,by omega⟩ (by omega)
  refine ⟨_,o2,za1 deep m _ _ ⟨_,_,hp,fun h=>(by rw [hleaf] at h;cases h),fun _=>⟨fun _=>⟨_,_,by rw [hw1];exact c1,_,_,by rw [hw1];exact c2,_,joined_ok 3 r1 r2 (zgC g1 (by omega)).1 (zgC g2 (by omega)).1,rfl,rfl⟩,fun h=>absurd hk5 (by simpa using h)⟩⟩,ziV (.inl rfl) g1 g2,by rw [l2,l1],by omega,by omega⟩
 by_cases hk5':k=5
 ·obtain ⟨r1,o1,c1,g1,l1,u1,v1⟩:=ih e (by omega) (by omega) (deep - 1) (by omega) (by omega) _ hm1 (by simp only;omega)
  simp only at l1 u1 v1
  obtain ⟨r2,o2,c2,g2,l2,u2,v2⟩:=ih e (by omega) (by omega) (deep - 1) (by omega) (by omega) o1 ⟨by rw [l1];exact hm.bytes,by rw [l1];exact hm.len,by omega⟩ (by omega)
  refine ⟨_,o2,za1 deep m _ _ ⟨_,_,hp,fun h=>(by rw [hleaf] at h;cases h),fun _=>⟨fun h=>absurd (by simpa using h) hk5,fun _=>⟨fun _=>⟨_,_,by rw [hw1];exact c1,_,_,by rw [hw1];exact c2,_,joined_ok 4 r1 r2 (zgC g1 (by omega)).1 (zgC g2 (by omega)).1,rfl,rfl⟩,fun h=>absurd hk5' (by simpa using h)⟩⟩⟩,ziV (.inr rfl) g1 g2,by rw [l2,l1],by omega,by omega⟩
 obtain ⟨lo,q0,q1,hq⟩:=zeN 3 _ (by omega) hm1 (by simp only;omega)
 simp only at hq
 have hm2:MOk { L:=m.L,At:=m.At+1+1 }:=⟨hm.bytes,hm.len,by simp only;omega⟩
 obtain ⟨st,s0,s1,hs⟩:=zeN 2 _ (by omega) hm2 (by simp only;omega)
 simp only at hs
 have hm3:MOk { L:=m.L,At:=m.At+1+1+1 }:=⟨hm.bytes,hm.len,by simp only;omega⟩
 obtain ⟨more,t0,t1,ht⟩:=zeN 2 _ (by omega) hm3 (by simp only;omega)
 simp only at ht
 have kid:∀ a:Int,m.At+1≤a→a≤m.At+4→∃ r o,zX (deep - 2) { L:=m.L,At:=a } r o∧Good e r∧o.L=m.L∧m.At≤o.At∧o.At≤m.At+10 * 3 ^ (e+1):=by
  intro a ha1 ha2
  obtain ⟨r,o,c,g,l,u,v⟩:=ih e (by omega) (by omega) (deep - 2) (by omega) (by omega) { L:=m.L,At:=a } ⟨hm.bytes,hm.len,by simp only;omega⟩ (by simp only;omega)
  simp only at l u v
  exact ⟨r,o,c,g,l,by omega,by omega⟩
 have good:∀ {r:zf} {hi:Int},Good e r→timesB lo hi=true→Good (e+1) ⟨5,zset,lo,hi,[r]⟩:=by
  intro r hi g htm
  constructor
  ·rw [zgq]
   have hz:noSet zset=true:=rfl
   have e1:(((e+1:Nat):Int)+1 - 1)=(e:Int)+1:=by omega
   have e2:decide ((((e+1:Nat):Int)+1) > 0)=true:=by simp;omega
   rw [e1,e2]
   simp [ownB,hz,htm,oddK,g.right]
  ·rw [ze1]
   have:=g.small
   have epow:2 ^ (e+1+1)=2 ^ (e+1)+2 ^ (e+1):=by rw [Nat.pow_succ];omega
   have:1≤2 ^ (e+1):=Nat.one_le_two_pow
   simp;omega
 have hwhi:w64 ((if lo > 1 then lo else 1)+more)=(if lo > 1 then lo else 1)+more:=by
  split<;>exact zan (by omega) (by omega)
 have fin:∀ (a hi:Int),m.At+1≤a→a≤m.At+4→timesB lo hi=true→((st=1∧a=m.At+4∧hi=(if lo > 1 then lo else 1)+more)∨(st≠1∧a=m.At+3∧hi = -1))→
  ∃ r o,zX deep m r o∧Good (e+1) r∧o.L=m.L∧m.At≤o.At∧o.At≤m.At+10 * 3 ^ (e+1):=by
  intro a hi ha1 ha2 htm hcase
  obtain ⟨r,o,c,g,l,u,v⟩:=kid a ha1 ha2
  refine ⟨_,o,za1 deep m _ _ ⟨_,_,hp,fun h=>(by rw [hleaf] at h;cases h),fun _=>⟨fun h=>absurd (by simpa using h) hk5,fun _=>⟨fun h=>absurd (by simpa using h) hk5',fun _=>⟨_,_,hq,fun L A H=>L=m.L∧A=a∧H=hi,?_,_,_,hs,fun h1=>?_,fun h1=>?_⟩⟩⟩⟩,good g htm,l,u,v⟩
  ·rintro L A H ⟨rfl,rfl,rfl⟩
   exact ⟨_,_,by rw [hw2];exact c,rfl,rfl⟩
  ·have h1:st=1:=by simpa using h1
   rcases hcase with ⟨_,rfl,rfl⟩ | ⟨h2,_⟩
   ·exact ⟨_,_,ht,rfl,by simp only;omega,hwhi⟩
   ·exact absurd h1 h2
  ·have h1:st≠1:=by simpa using h1
   rcases hcase with ⟨h2,_⟩ | ⟨_,rfl,rfl⟩
   ·exact absurd h2 h1
   ·exact ⟨rfl,by simp only;omega,rfl⟩
 by_cases h1:st=1
 ·refine fin (m.At+4) ((if lo > 1 then lo else 1)+more) (by omega) (by omega) ?_ (.inl ⟨h1,rfl,rfl⟩)
  simp only [timesB,Bool.and_eq_true,decide_eq_true_eq,Bool.or_eq_true]
  refine ⟨by omega,by omega,.inr ⟨?_,?_⟩⟩<;>split<;>omega
 ·refine fin (m.At+3) (-1) (by omega) (by omega) ?_ (.inr ⟨h1,rfl,rfl⟩)
  simp only [timesB,Bool.and_eq_true,decide_eq_true_eq,Bool.or_eq_true]
  exact ⟨by omega,by omega,.inl (by simp)⟩
end Go.Ev.Pl
namespace Go.Ev.Pl
open Go Go.Ev
def mapF (m:List Int):Nat→List Int
 | 0=>List.replicate 256 0
 | b+1=>(mapF m b).set (97+b % 100) (m.getD b 0 % 3)
theorem zfh (m:List Int):∀ b,(mapF m b).length=256
 | 0=>by rw [mapF,List.length_replicate]
 | b+1=>by rw [mapF,List.length_set];exact zfh m b
theorem mapF_mem (m:List Int):∀ b,∀ x∈mapF m b,0≤x∧x < 3
 | 0=>by
   intro x hx
   rw [mapF] at hx
   have:=List.eq_of_mem_replicate hx
   omega
 | b+1=>by
   intro x hx
   rw [mapF] at hx
   rcases List.mem_or_eq_of_mem_set hx with h | h
   ·exact mapF_mem m b x h
   ·omega
def mapM (m:List Int):List Int:=(mapF m (min 256 m.length)).set 255 2
theorem mapM_len (m:List Int):(mapM m).length=256:=by rw [mapM,List.length_set];exact zfh _ _
theorem mapM_mem (m:List Int):∀ x∈mapM m,0≤x∧x < 3:=by
 intro x hx
 rw [mapM] at hx
 rcases List.mem_or_eq_of_mem_set hx with h | h
 ·exact mapF_mem _ _ x h
 ·omega
theorem mapM_two (m:List Int):(2:Int)∈mapM m:=by
 have h:255 < (mapF m (min 256 m.length)).length:=by rw [zfh];omega
 have:(mapM m)[255]?=some 2:=by rw [mapM,List.getElem?_set];simp [h]
 exact List.mem_of_getElem? this
def rowF (l:List Int) (M k:Nat):List Int:=[l.getD (4 * k) 0 % ((M:Int)+1) - 1,l.getD (4 * k+1) 0 % ((M:Int)+1) - 1,l.getD (4 * k+2) 0 % ((M:Int)+1) - 1]
def accF (l:List Int) (k:Nat):Int:=gd [-1,-1,0,1] (l.getD (4 * k+3) 0 % 4)
theorem rowF_mem (l:List Int) (M k:Nat):∀ x∈rowF l M k,-1≤x∧x < M:=by
 intro x hx
 simp only [rowF,List.mem_cons,List.not_mem_nil,or_false] at hx
 have h:∀ a:Int,-1≤a % ((M:Int)+1) - 1∧a % ((M:Int)+1) - 1 < M:=fun a=>by
  have h1:=Int.emod_nonneg a (b:=(M:Int)+1) (by omega)
  have h2:=Int.emod_lt_of_pos a (b:=(M:Int)+1) (by omega)
  omega
 rcases hx with rfl | rfl | rfl<;>exact h _
theorem accF_mem (l:List Int) (k:Nat):-1≤accF l k∧accF l k≤1:=by
 unfold accF
 have h1:0≤l.getD (4 * k+3) 0 % 4:=Int.emod_nonneg _ (by omega)
 have h2:l.getD (4 * k+3) 0 % 4 < 4:=Int.emod_lt_of_pos _ (by omega)
 generalize l.getD (4 * k+3) 0 % 4=a at h1 h2
 have h3:a=0∨a=1∨a=2∨a=3:=by omega
 rcases h3 with rfl | rfl | rfl | rfl<;>decide
def rowsF (l:List Int) (M k:Nat):List (List Int):=(List.range k).map (rowF l M)
def accsF (l:List Int) (k:Nat):List Int:=(List.range k).map (accF l)
theorem rowsF_succ (l:List Int) (M k:Nat):rowsF l M (k+1)=rowsF l M k++[rowF l M k]:=by simp [rowsF,List.range_succ]
theorem accsF_succ (l:List Int) (k:Nat):accsF l (k+1)=accsF l k++[accF l k]:=by simp [accsF,List.range_succ]
def manyM (n:Int):Nat:=1+n.toNat % 8
def fewM (l:List Int) (n:Int) (m:List Int):zZ:={ Map:=mapM m,Rows:=rowsF l (manyM n) (manyM n),Accept:=accsF l (manyM n),Start:=[0,Int.tmod (w64 (Int.tdiv (w64 n) 8)) (w64 (1+Int.tmod (w64 n) 8))] }
theorem many_eq {n:Int} (h0:0≤n) (h1:n≤255):w64 (1+Int.tmod (w64 n) 8)=(manyM n:Int):=by
 rw [zN (n:=n) (by omega) (by omega),Int.tmod_eq_emod_of_nonneg h0]
 have:(manyM n:Int)=1+n % 8:=by unfold manyM;omega
 rw [zN (by omega) (by omega),this]
theorem zi6 {l:List Int} (hb:Bytes l) (j:Nat):0≤l.getD j 0∧l.getD j 0≤255:=by
 by_cases h:j < l.length
 ·rw [List.getD_eq_getElem?_getD,List.getElem?_eq_getElem h];exact hb _ (List.getElem_mem h)
 ·rw [List.getD_eq_getElem?_getD,List.getElem?_eq_none (by omega)];decide
theorem zeT {l:List Int} {j:Nat} (h:j < l.length):gd l (j:Int)=l.getD j 0:=by
 rw [show gd l (j:Int)=l.getD j default from rfl,List.getD_eq_getElem?_getD,List.getD_eq_getElem?_getD,List.getElem?_eq_getElem h];rfl
theorem few_ok {l:List Int} {n:Int} {m:List Int} (hl:Bytes l) (h0:0≤n) (h1:n≤255) (hm:Bytes m):zcO l n m (fewM l n m):=by
 have hM:=many_eq h0 h1
 have hMb:1≤manyM n∧manyM n≤8:=by unfold manyM;omega
 have hM1:w64 ((manyM n:Int)+1)=(manyM n:Int)+1:=zN (by omega) (by omega)
 refine zhA _ _ _ _ ⟨fun mp b=>∃ k:Nat,b=k∧k≤256∧k≤m.length∧mp=mapF m k,fun _ b=>(256 - b).toNat,⟨0,rfl,by omega,by omega,rfl⟩,?_⟩
 rintro mp b ⟨k,rfl,hk1,hk2,rfl⟩
 refine ⟨fun hb=>?_,fun hb=>?_⟩
 ·simp only [Bool.and_eq_true,decide_eq_true_eq] at hb
  have hlt:k < m.length:=by omega
  have et:Int.tmod (k:Int) 100=((k % 100:Nat):Int):=by rw [Int.tmod_eq_emod_of_nonneg (by omega)];omega
  have ew:w64 (97+Int.tmod (k:Int) 100)=((97+k % 100:Nat):Int):=by rw [et,zN (by omega) (by omega)];omega
  have eg:=zeT hlt
  have hbt:=zi6 hm k
  have e2:Int.tmod (w64 (gd m (k:Int))) 3=m.getD k 0 % 3:=by rw [eg,zN (by omega) (by omega),Int.tmod_eq_emod_of_nonneg hbt.1]
  have e3:w64 ((k:Int)+1)=((k+1:Nat):Int):=by rw [zN (by omega) (by omega)];omega
  rw [ew,e2,e3,Int.toNat_natCast,zfh]
  exact ⟨by omega,hb.2,by omega,by omega,by omega,⟨k+1,rfl,by omega,by omega,rfl⟩,by dsimp only;omega⟩
 have hk:k=min 256 m.length:=by
  have:¬ ((k:Int) < 256∧(k:Int) < m.length):=by
   rintro ⟨a,b⟩;simp at hb;omega
  omega
 subst hk
 refine ⟨by rw [zfh];decide,by rw [zfh];decide,?_⟩
 rw [hM]
 refine ⟨fun rows accs at0 i=>∃ k:Nat,i=k∧k≤manyM n∧rows=rowsF l (manyM n) k∧accs=accsF l k∧at0=4 * (k:Int),fun _ _ _ i=>((manyM n:Int) - i).toNat,⟨0,rfl,by omega,rfl,rfl,rfl⟩,?_⟩
 rintro _ _ _ _ ⟨k,rfl,hk,rfl,rfl,rfl⟩
 refine ⟨fun hb=>?_,fun hb=>?_⟩
 ·have hlt:k < manyM n:=by have:=of_decide_eq_true hb;omega
  refine ⟨fun accs at0 row c=>∃ j:Nat,c=j∧j≤4∧at0=4 * (k:Int)+j∧row=(rowF l (manyM n) k).take j∧accs=(if j=4 then accsF l (k+1) else accsF l k),fun _ _ _ c=>(4 - c).toNat,⟨0,rfl,by omega,by omega,rfl,rfl⟩,?_⟩
  rintro _ _ _ _ ⟨j,rfl,hj,rfl,rfl,rfl⟩
  have hal:∀ j,(accsF l j).length=j:=fun j=>by simp [accsF]
  refine ⟨fun hb=>?_,fun hb=>?_⟩
  ·have hj4:j < 4:=by have:=of_decide_eq_true hb;omega
   have e1:w64 (4 * (k:Int)+j+1)=4 * (k:Int)+((j+1:Nat):Int):=by rw [zN (by omega) (by omega)];omega
   have e2:w64 ((j:Int)+1)=((j+1:Nat):Int):=by rw [zN (by omega) (by omega)];omega
   rw [e1,e2,if_neg (by omega)]
   refine ⟨fun accs row=>row=(rowF l (manyM n) k).take (j+1)∧accs=(if j+1=4 then accsF l (k+1) else accsF l k),?_,fun kk=>kk=l.getD (4 * k+j) 0,?_,?_⟩
   ·rintro _ _ ⟨rfl,rfl⟩
    exact ⟨⟨j+1,rfl,by omega,rfl,rfl,rfl⟩,by dsimp only;omega⟩
   ·rintro _ rfl
    have hbt:=zi6 hl (4 * k+j)
    refine ⟨fun hc=>?_,fun hc=>?_⟩
    ·have hj3:j < 3:=by have:=of_decide_eq_true hc;omega
     have et:w64 (Int.tmod (l.getD (4 * k+j) 0) (w64 ((manyM n:Int)+1)) - 1)=l.getD (4 * k+j) 0 % ((manyM n:Int)+1) - 1:=by
      rw [hM1,Int.tmod_eq_emod_of_nonneg hbt.1]
      have h1:=Int.emod_nonneg (l.getD (4 * k+j) 0) (b:=(manyM n:Int)+1) (by omega)
      have h2:=Int.emod_lt_of_pos (l.getD (4 * k+j) 0) (b:=(manyM n:Int)+1) (by omega)
      exact zN (by omega) (by omega)
     rw [et]
     refine ⟨by rw [hM1];omega,by rw [List.length_take];omega,?_,?_⟩
     ·rcases (show j=0∨j=1∨j=2 by omega) with rfl | rfl | rfl<;>rfl
     ·rw [if_neg (by omega)]
    ·have hj3:j=3:=by
      have:¬ (j:Int) < 3:=of_decide_eq_false hc
      omega
     subst hj3
     have et:Int.tmod (l.getD (4 * k+3) 0) 4=l.getD (4 * k+3) 0 % 4:=Int.tmod_eq_emod_of_nonneg hbt.1
     have h1:0≤l.getD (4 * k+3) 0 % 4:=Int.emod_nonneg _ (by omega)
     have h2:l.getD (4 * k+3) 0 % 4 < 4:=Int.emod_lt_of_pos _ (by omega)
     rw [et,hal]
     refine ⟨h1,by omega,by show _ < (4:Int);exact h2,by omega,rfl,?_⟩
     rw [if_pos rfl,accsF_succ];rfl
   ·refine ⟨fun hc=>?_,fun hc=>?_⟩
    ·have hlt2:4 * k+j < l.length:=by have:=of_decide_eq_true hc;omega
     have eg:gd l (4 * (k:Int)+j)=l.getD (4 * k+j) 0:=by
      have:=zeT hlt2
      rwa [show ((4 * k+j:Nat):Int)=4 * (k:Int)+j by omega] at this
     have hbt:=zi6 hl (4 * k+j)
     refine ⟨by omega,by omega,?_⟩
     rw [eg];exact zN (by omega) (by omega)
    ·have hge:¬ 4 * k+j < l.length:=by have:=of_decide_eq_false hc;omega
     rw [List.getD_eq_getElem?_getD,List.getElem?_eq_none (by omega)];rfl
  ·have hj4:j=4:=by
    have:¬ (j:Int) < 4:=of_decide_eq_false hb
    omega
   subst hj4
   have e2:w64 ((k:Int)+1)=((k+1:Nat):Int):=by rw [zN (by omega) (by omega)];omega
   rw [e2,if_pos rfl]
   refine ⟨by simp [rowsF];omega,⟨k+1,rfl,by omega,?_,rfl,by omega⟩,by dsimp only;omega⟩
   rw [rowsF_succ];rfl
 ·have hk:k=manyM n:=by
   have:¬ (k:Int) < manyM n:=of_decide_eq_false hb
   omega
  subst hk
  refine ⟨by omega,?_⟩
  unfold fewM mapM
  rw [hM]
end Go.Ev.Pl
namespace Go.Ev.Pl
open Go Go.Ev
def widF (m:List Int):Nat→Int
 | 0=>0
 | k+1=>if m.getD k 0+1 > widF m k then m.getD k 0+1 else widF m k
theorem widF_lt (m:List Int):∀ k j,j < k→m.getD j 0 < widF m k
 | 0,j,h=>by omega
 | k+1,j,h=>by
   rw [widF]
   by_cases e:j=k
   ·subst e;split<;>omega
   ·have:=widF_lt m k j (by omega)
    split<;>omega
theorem widF_le (m:List Int) {N:Int} (hN:0≤N) (h:∀ x∈m,x+1≤N):∀ k,k≤m.length→0≤widF m k∧widF m k≤N
 | 0,_=>by simp only [widF];omega
 | k+1,hk=>by
   have ih:=widF_le m hN h k (by omega)
   have hm:m.getD k 0∈m:=by
    rw [List.getD_eq_getElem?_getD,List.getElem?_eq_getElem (by omega)];exact List.getElem_mem _
   have:=h _ hm
   rw [widF];split<;>omega
def widM (m:List Int):Int:=widF m m.length
theorem widM_lt {m:List Int}:∀ x∈m,x < widM m:=by
 intro x hx
 obtain ⟨j,hj,rfl⟩:=List.mem_iff_getElem.1 hx
 have:=widF_lt m m.length j hj
 rw [List.getD_eq_getElem?_getD,List.getElem?_eq_getElem hj] at this;exact this
theorem zh9 {m:List Int} (hl:(m.length:Int) < 2 ^ 60) (hm:∀ x∈m,0≤x∧x < 2 ^ 60):zav m (widM m):=by
 refine zf9 _ _ ⟨fun n i=>∃ k:Nat,i=k∧k≤m.length∧n=widF m k,fun _ i=>(m.length - i).toNat,⟨0,rfl,by omega,rfl⟩,?_⟩
 rintro _ _ ⟨k,rfl,hk,rfl⟩
 refine ⟨fun hb=>?_,fun hb=>?_⟩
 ·have hlt:k < m.length:=by have:=of_decide_eq_true hb;omega
  have hx:=hm _ (zaQ (l:=m) (i:=(k:Int)) (by omega) (by omega))
  rw [zeT hlt] at hx ⊢
  have e1:w64 (m.getD k 0+1)=m.getD k 0+1:=zN (by omega) (by omega)
  have e2:w64 ((k:Int)+1)=((k+1:Nat):Int):=by rw [zN (by omega) (by omega)];omega
  rw [e1,e2]
  exact ⟨by omega,by omega,⟨k+1,rfl,by omega,rfl⟩,by dsimp only;omega⟩
 ·have:k=m.length:=by have:=of_decide_eq_false hb;omega
  subst this;rfl
def nxtF (rows:List (List Int)):Nat→List Int
 | 0=>[]
 | k+1=>nxtF rows k++rows.getD k []
def chkF (rows:List (List Int)):Nat→List Int
 | 0=>[]
 | k+1=>chkF rows k++List.replicate (rows.getD k []).length (k:Int)
def baseF (rows:List (List Int)) (k:Nat):List Int:=(List.range k).map fun i=>((nxtF rows i).length:Int)
theorem zim (rows:List (List Int)):∀ k,(chkF rows k).length=(nxtF rows k).length
 | 0=>rfl
 | k+1=>by simp only [chkF,nxtF,List.length_append,List.length_replicate,zim rows k]
theorem nxtF_le (rows:List (List Int)) {N:Nat} (h:∀ r∈rows,r.length≤N):∀ k,k≤rows.length→(nxtF rows k).length≤N * k
 | 0,_=>by simp [nxtF]
 | k+1,hk=>by
   have hm:rows.getD k []∈rows:=by
    rw [List.getD_eq_getElem?_getD,List.getElem?_eq_getElem (by omega)];exact List.getElem_mem _
   have:=nxtF_le rows h k (by omega)
   have:=h _ hm
   simp only [nxtF,List.length_append]
   rw [Nat.mul_succ];omega
theorem nxtF_mono (rows:List (List Int)):∀ k j,j≤k→(nxtF rows j).length≤(nxtF rows k).length
 | 0,j,h=>by have:j=0:=by omega
             subst this;exact Nat.le_refl _
 | k+1,j,h=>by
   by_cases e:j=k+1
   ·subst e;exact Nat.le_refl _
   ·have:=nxtF_mono rows k j (by omega)
    simp only [nxtF,List.length_append];omega
theorem nxtF_mem (rows:List (List Int)):∀ k,k≤rows.length→∀ x∈nxtF rows k,∃ r∈rows,x∈r
 | 0,_,x,h=>by simp [nxtF] at h
 | k+1,hk,x,h=>by
   rw [nxtF] at h
   rcases List.mem_append.1 h with h | h
   ·exact nxtF_mem rows k (by omega) x h
   ·refine ⟨_,?_,h⟩
    rw [List.getD_eq_getElem?_getD,List.getElem?_eq_getElem (by omega)];exact List.getElem_mem _
theorem chkF_mem (rows:List (List Int)):∀ k,∀ x∈chkF rows k,0≤x∧x < k
 | 0,x,h=>by simp [chkF] at h
 | k+1,x,h=>by
   rw [chkF] at h
   rcases List.mem_append.1 h with h | h
   ·have:=chkF_mem rows k x h;omega
   ·have:=List.eq_of_mem_replicate h;omega
def laidM (d:zZ):zk:={ Map:=d.Map,Width:=widM d.Map,Base:=baseF d.Rows d.Rows.length,Default:=List.replicate d.Rows.length (-1),Next:=nxtF d.Rows d.Rows.length,Check:=chkF d.Rows d.Rows.length,Accept:=d.Accept,Start:=d.Start }
theorem zgi {l:List Int} {j:Nat} (h:j < l.length):l.take j++[gd l (j:Int)]=l.take (j+1):=by
 rw [zeT h,List.getD_eq_getElem?_getD,List.getElem?_eq_getElem h,List.take_add_one,List.getElem?_eq_getElem h];rfl
theorem gd_rows {rows:List (List Int)} {k:Nat} (h:k < rows.length):gd rows (k:Int)=rows.getD k []:=by
 rw [show gd rows (k:Int)=rows.getD k default from rfl];rfl
theorem laid_ok {d:zZ} (hm:d.Map.length≤1000) (hmx:∀ x∈d.Map,0≤x∧x < 2 ^ 60) (ha:d.Accept.length≤1000) (hs:d.Start.length≤1000) (hr:d.Rows.length≤1000) (hrr:∀ r∈d.Rows,r.length≤1000):zbe d (laidM d):=by
 have hbl:∀ k,(baseF d.Rows k).length=k:=fun k=>by simp [baseF]
 have hnl:∀ k,k≤d.Rows.length→(nxtF d.Rows k).length≤1000000:=fun k hk=>by have:=nxtF_le d.Rows hrr k hk;omega
 refine zg3 _ _ ⟨by omega,_,zh9 (by omega) hmx,by omega,by omega,fun b df nx ck i=>∃ k:Nat,i=k∧k≤d.Rows.length∧b=baseF d.Rows k∧df=List.replicate k (-1)∧nx=nxtF d.Rows k∧ck=chkF d.Rows k,
  fun _ _ _ _ i=>(d.Rows.length - i).toNat,⟨0,rfl,by omega,rfl,rfl,rfl,rfl⟩,?_⟩
 rintro _ _ _ _ _ ⟨k,rfl,hk,rfl,rfl,rfl,rfl⟩
 refine ⟨fun hb=>?_,fun hb=>?_⟩
 ·have hlt:k < d.Rows.length:=by have:=of_decide_eq_true hb;omega
  have hg:=gd_rows hlt
  have hrk:(d.Rows.getD k []).length≤1000:=by
   refine hrr _ ?_
   rw [List.getD_eq_getElem?_getD,List.getElem?_eq_getElem hlt];exact List.getElem_mem _
  have hn:=hnl k (by omega)
  have hc:=zim d.Rows k
  refine ⟨by rw [hbl];omega,by rw [List.length_replicate];omega,fun nx ck c=>∃ j:Nat,c=j∧j≤(d.Rows.getD k []).length∧nx=nxtF d.Rows k++(d.Rows.getD k []).take j∧ck=chkF d.Rows k++List.replicate j (k:Int),fun _ _ c=>((d.Rows.getD k []).length - c).toNat,⟨0,rfl,by omega,by simp,by simp⟩,?_⟩
  rintro _ _ _ ⟨j,rfl,hj,rfl,rfl⟩
  rw [hg]
  refine ⟨by omega,by omega,fun hb=>?_,fun hb=>?_⟩
  ·have hjl:j < (d.Rows.getD k []).length:=by have:=of_decide_eq_true hb;omega
   have e2:w64 ((j:Int)+1)=((j+1:Nat):Int):=by rw [zN (by omega) (by omega)];omega
   rw [e2]
   refine ⟨by omega,by omega,by omega,by omega,by simp only [List.length_append,List.length_take];omega,by simp only [List.length_append,List.length_replicate];omega,⟨j+1,rfl,by omega,?_,?_⟩,by dsimp only;omega⟩
   ·rw [List.append_assoc,zgi hjl]
   ·rw [List.append_assoc,List.replicate_succ']
  ·have hjl:j=(d.Rows.getD k []).length:=by have:=of_decide_eq_false hb;omega
   subst hjl
   have e2:w64 ((k:Int)+1)=((k+1:Nat):Int):=by rw [zN (by omega) (by omega)];omega
   rw [e2]
   refine ⟨⟨k+1,rfl,by omega,by simp [baseF,List.range_succ],by rw [List.replicate_succ'],by rw [nxtF,List.take_length],rfl⟩,by dsimp only;omega⟩
 ·have hke:k=d.Rows.length:=by have:=of_decide_eq_false hb;omega
  subst hke
  rfl
end Go.Ev.Pl
namespace Go.Ev.Pl
open Go Go.Ev
section
variable (N : Nat) (B : Nat → Int)
def hdS (sets:List zb) (p i:Nat):Prop:=i < N∧∃ s,sets[p]?=some s∧setHas s (B i)=true
inductive Pth (sets:List zb) (last:Nat→Bool) (fo:Nat→Nat→Bool):Nat→Nat→Nat→Prop where
 | last {p i:Nat} (h:hdS N B sets p i) (hl:last p=true):Pth sets last fo p i (i+1)
 | step {p q i j:Nat} (h:hdS N B sets p i) (hf:fo p q=true) (hp:Pth sets last fo q (i+1) j):Pth sets last fo p i j
def one (g:GA) (i j:Nat):Prop:=∃ p,g.first p=true∧Pth N B g.sets g.last g.follow p i j
def acc (g:GA) (i j:Nat):Prop:=(g.null=true∧i=j)∨one N B g i j
variable {N B}
theorem pth_lt {sets:List zb} {last:Nat→Bool} {fo:Nat→Nat→Bool} {p i j:Nat} (h:Pth N B sets last fo p i j):i < j∧j≤N:=by
 induction h with
 | last h _=>exact ⟨by omega,h.1⟩
 | step h _ _ ih=>omega
theorem zke {g:GA} {i j:Nat} (h:acc N B g i j) (hi:i≤N):i≤j∧j≤N:=by
 rcases h with ⟨_,rfl⟩ | ⟨p,_,h⟩
 ·exact ⟨Nat.le_refl _,hi⟩
 ·have:=pth_lt h;omega
theorem zeL {sets sets':List zb} {last last':Nat→Bool} {fo fo':Nat→Nat→Bool} (I:Nat→Prop) (f:Nat→Nat) (hI:∀ p q i,I p→hdS N B sets p i→fo p q=true→I q)
 (h1:∀ p i,I p→hdS N B sets p i→hdS N B sets' (f p) i) (h2:∀ p i,I p→hdS N B sets p i→last p=true→last' (f p)=true)
 (h3:∀ p q i,I p→hdS N B sets p i→fo p q=true→fo' (f p) (f q)=true) {p i j:Nat} (h:Pth N B sets last fo p i j):I p→Pth N B sets' last' fo' (f p) i j:=by
 induction h with
 | last h hl=>exact fun hp=>.last (h1 _ _ hp h) (h2 _ _ hp h hl)
 | step h hf _ ih=>exact fun hp=>.step (h1 _ _ hp h) (h3 _ _ _ hp h hf) (ih (hI _ _ _ hp h hf))
theorem hd_lt {sets:List zb} {p i:Nat} (h:hdS N B sets p i):p < sets.length:=by
 obtain ⟨_,s,hs,_⟩:=h;exact (List.getElem?_eq_some_iff.1 hs).1
theorem zfS {s t:List zb} {p i:Nat} (hp:p < s.length):hdS N B (s++t) p i↔hdS N B s p i:=by
 unfold hdS;rw [List.getElem?_append_left hp]
theorem zih {s t:List zb} {p i:Nat}:hdS N B (s++t) (s.length+p) i↔hdS N B t p i:=by
 unfold hdS;rw [List.getElem?_append_right (by omega),show s.length+p - s.length=p by omega]
variable {a b : GA}
theorem zgQ (ha:Canon a) {p i j:Nat}:Pth N B (gCat a b).sets (gCat a b).last (gCat a b).follow (a.n+p) i j↔Pth N B b.sets b.last b.follow p i j:=by
 constructor
 ·intro h
  have:=zeL (sets':=b.sets) (last':=b.last) (fo':=b.follow) (fun q=>a.n≤q) (fun q=>q - a.n) ?_ ?_ ?_ ?_ h (by omega)
  ·rwa [show a.n+p - a.n=p by omega] at this
  ·intro p q i hp _ hf
   simp only [gCat,blk] at hf
   rw [if_neg (by omega)] at hf
   by_cases hq:q < a.n
   ·rw [if_pos hq] at hf;cases hf
   ·omega
  ·intro p i hp hd
   have hd:hdS N B (a.sets++b.sets) p i:=hd
   rw [show p=a.sets.length+(p - a.n) by rw [ha.sets];omega] at hd
   exact zih.1 hd
  ·intro p i hp _ hl
   simp only [gCat] at hl
   rwa [if_neg (by omega)] at hl
  ·intro p q i hp _ hf
   simp only [gCat,blk] at hf
   rw [if_neg (by omega)] at hf
   by_cases hq:q < a.n
   ·rw [if_pos hq] at hf;cases hf
   ·rwa [if_neg hq] at hf
 ·intro h
  refine zeL (fun _=>True) (fun q=>a.n+q) (fun _ _ _ _ _ _=>trivial) ?_ ?_ ?_ h trivial
  ·intro p i _ hd
   show hdS N B (a.sets++b.sets) (a.n+p) i
   rw [← ha.sets];exact zih.2 hd
  ·intro p i _ _ hl
   simp only [gCat];rwa [if_neg (by omega),show a.n+p - a.n=p by omega]
  ·intro p q i _ _ hf
   simp only [gCat,blk];rwa [if_neg (by omega),if_neg (by omega),show a.n+p - a.n=p by omega,show a.n+q - a.n=q by omega]
theorem cat_left (ha:Canon a) {p i j:Nat} (hp:p < a.n):Pth N B (gCat a b).sets (gCat a b).last (gCat a b).follow p i j↔
 (b.null=true∧Pth N B a.sets a.last a.follow p i j)∨∃ k,Pth N B a.sets a.last a.follow p i k∧one N B b k j:=by
 constructor
 ·intro h
  generalize hs:(gCat a b).sets=sets at h
  generalize hl:(gCat a b).last=last at h
  generalize hf:(gCat a b).follow=fo at h
  induction h with
  | last h hl'=>
    subst hs hl
    have hd:=(zfS (t:=b.sets) (by rw [ha.sets];exact hp)).1 h
    simp only [gCat,if_pos hp,Bool.and_eq_true] at hl'
    exact .inl ⟨hl'.1,.last hd hl'.2⟩
  | @step p q i j h hf' hq ih=>
    have hd:=(zfS (t:=b.sets) (by rw [ha.sets];exact hp)).1 (by rw [← hs] at h;exact h)
    have hf2:=hf'
    rw [← hf] at hf2
    simp only [gCat,blk,if_pos hp] at hf2
    by_cases hqn:q < a.n
    ·rw [if_pos hqn] at hf2
     rcases ih hqn with ⟨h1,h2⟩ | ⟨k,h1,h2⟩
     ·exact .inl ⟨h1,.step hd hf2 h2⟩
     ·exact .inr ⟨k,.step hd hf2 h1,h2⟩
    ·rw [if_neg hqn,Bool.and_eq_true] at hf2
     rw [← hs,← hl,← hf,show q=a.n+(q - a.n) by omega,zgQ ha] at hq
     exact .inr ⟨i+1,.last hd hf2.1,q - a.n,hf2.2,hq⟩
 ·rintro (⟨hn,h⟩ | ⟨k,h,q,hq,h2⟩)
  ·refine zeL (fun q=>True) (fun q=>q) (fun _ _ _ _ _ _=>trivial) ?_ ?_ ?_ h trivial
   ·exact fun p i _ hd=>(zfS (hd_lt hd)).2 hd
   ·intro p i _ hd hl
    have:=hd_lt hd
    rw [ha.sets] at this
    simp only [gCat,if_pos this,hn,hl];rfl
   ·intro p q i _ hd hf
    have:=hd_lt hd
    rw [ha.sets] at this
    have hqn:q < a.n:=by
     rcases Nat.lt_or_ge q a.n with h | h
     ·exact h
     ·rw [ha.follow p q (.inr h)] at hf;cases hf
    simp only [gCat,blk,if_pos this,if_pos hqn,hf]
  ·induction h with
   | last h hl=>
     have hd:=(zfS (t:=b.sets) (hd_lt h)).2 h
     refine .step (q:=a.n+q) hd ?_ ((zgQ ha).2 h2)
     simp only [gCat,blk,if_pos hp]
     rw [if_neg (by omega),show a.n+q - a.n=q by omega,hl,hq];rfl
   | @step p q' i j h hf hp' ih=>
     have hd:=(zfS (t:=b.sets) (hd_lt h)).2 h
     have hqn:q' < a.n:=by
      rcases Nat.lt_or_ge q' a.n with h | h
      ·exact h
      ·rw [ha.follow p q' (.inr h)] at hf;cases hf
     refine .step (q:=q') hd ?_ (ih hqn h2)
     simp only [gCat,blk,if_pos hp,if_pos hqn,hf]
theorem first_lt (ha:Canon a) {p:Nat} (h:a.first p=true):p < a.n:=by
 rcases Nat.lt_or_ge p a.n with h1 | h1
 ·exact h1
 ·rw [ha.first p h1] at h;cases h
theorem acc_cat (ha:Canon a) {i j:Nat}:acc N B (gCat a b) i j↔∃ k,acc N B a i k∧acc N B b k j:=by
 constructor
 ·rintro (⟨hn,rfl⟩ | ⟨p,hf,h⟩)
  ·simp only [gCat,Bool.and_eq_true] at hn
   exact ⟨i,.inl ⟨hn.1,rfl⟩,.inl ⟨hn.2,rfl⟩⟩
  ·by_cases hp:p < a.n
   ·simp only [gCat,if_pos hp] at hf
    rcases (cat_left ha hp).1 h with ⟨h1,h2⟩ | ⟨k,h1,h2⟩
    ·exact ⟨j,.inr ⟨p,hf,h2⟩,.inl ⟨h1,rfl⟩⟩
    ·exact ⟨k,.inr ⟨p,hf,h1⟩,.inr h2⟩
   ·simp only [gCat,if_neg hp,Bool.and_eq_true] at hf
    rw [show p=a.n+(p - a.n) by omega,zgQ ha] at h
    exact ⟨i,.inl ⟨hf.1,rfl⟩,.inr ⟨_,hf.2,h⟩⟩
 ·rintro ⟨k,(⟨h1,rfl⟩ | ⟨p,h1,h2⟩),(⟨h3,rfl⟩ | ⟨q,h3,h4⟩)⟩
  ·exact .inl ⟨by simp only [gCat,h1,h3];rfl,rfl⟩
  ·refine .inr ⟨a.n+q,?_,(zgQ ha).2 h4⟩
   simp only [gCat];rw [if_neg (by omega),show a.n+q - a.n=q by omega,h1,h3];rfl
  ·have hp:=first_lt ha h1
   exact .inr ⟨p,by simp only [gCat,if_pos hp,h1],(cat_left ha hp).2 (.inl ⟨h3,h2⟩)⟩
  ·have hp:=first_lt ha h1
   exact .inr ⟨p,by simp only [gCat,if_pos hp,h1],(cat_left ha hp).2 (.inr ⟨k,h2,q,h3,h4⟩)⟩
theorem alt_left (ha:Canon a) {p i j:Nat} (hp:p < a.n):Pth N B (gAlt a b).sets (gAlt a b).last (gAlt a b).follow p i j↔Pth N B a.sets a.last a.follow p i j:=by
 constructor
 ·intro h
  refine zeL (fun q=>q < a.n) (fun q=>q) ?_ ?_ ?_ ?_ h hp
  ·intro p q i hp _ hf
   simp only [gAlt,blk,if_pos hp] at hf
   by_cases hq:q < a.n
   ·exact hq
   ·rw [if_neg hq] at hf;cases hf
  ·exact fun p i hp hd=>(zfS (t:=b.sets) (by rw [ha.sets];exact hp)).1 hd
  ·intro p i hp _ hl;simpa only [gAlt,if_pos hp] using hl
  ·intro p q i hp _ hf
   simp only [gAlt,blk,if_pos hp] at hf
   by_cases hq:q < a.n
   ·rwa [if_pos hq] at hf
   ·rw [if_neg hq] at hf;cases hf
 ·intro h
  refine zeL (fun q=>True) (fun q=>q) (fun _ _ _ _ _ _=>trivial) ?_ ?_ ?_ h trivial
  ·exact fun p i _ hd=>(zfS (hd_lt hd)).2 hd
  ·intro p i _ hd hl
   have:=hd_lt hd
   rw [ha.sets] at this
   simp only [gAlt,if_pos this,hl]
  ·intro p q i _ hd hf
   have:=hd_lt hd
   rw [ha.sets] at this
   have hqn:q < a.n:=by
    rcases Nat.lt_or_ge q a.n with h | h
    ·exact h
    ·rw [ha.follow p q (.inr h)] at hf;cases hf
   simp only [gAlt,blk,if_pos this,if_pos hqn,hf]
theorem alt_right (ha:Canon a) {p i j:Nat}:Pth N B (gAlt a b).sets (gAlt a b).last (gAlt a b).follow (a.n+p) i j↔Pth N B b.sets b.last b.follow p i j:=by
 constructor
 ·intro h
  have:=zeL (sets':=b.sets) (last':=b.last) (fo':=b.follow) (fun q=>a.n≤q) (fun q=>q - a.n) ?_ ?_ ?_ ?_ h (by omega)
  ·rwa [show a.n+p - a.n=p by omega] at this
  ·intro p q i hp _ hf
   simp only [gAlt,blk] at hf
   rw [if_neg (by omega)] at hf
   by_cases hq:q < a.n
   ·rw [if_pos hq] at hf;cases hf
   ·omega
  ·intro p i hp hd
   have hd:hdS N B (a.sets++b.sets) p i:=hd
   rw [show p=a.sets.length+(p - a.n) by rw [ha.sets];omega] at hd
   exact zih.1 hd
  ·intro p i hp _ hl
   simp only [gAlt] at hl
   rwa [if_neg (by omega)] at hl
  ·intro p q i hp _ hf
   simp only [gAlt,blk] at hf
   rw [if_neg (by omega)] at hf
   by_cases hq:q < a.n
   ·rw [if_pos hq] at hf;cases hf
   ·rwa [if_neg hq] at hf
 ·intro h
  refine zeL (fun _=>True) (fun q=>a.n+q) (fun _ _ _ _ _ _=>trivial) ?_ ?_ ?_ h trivial
  ·intro p i _ hd
   show hdS N B (a.sets++b.sets) (a.n+p) i
   rw [← ha.sets];exact zih.2 hd
  ·intro p i _ _ hl
   simp only [gAlt];rwa [if_neg (by omega),show a.n+p - a.n=p by omega]
  ·intro p q i _ _ hf
   simp only [gAlt,blk];rwa [if_neg (by omega),if_neg (by omega),show a.n+p - a.n=p by omega,show a.n+q - a.n=q by omega]
theorem acc_alt (ha:Canon a) {i j:Nat}:acc N B (gAlt a b) i j↔acc N B a i j∨acc N B b i j:=by
 constructor
 ·rintro (⟨hn,rfl⟩ | ⟨p,hf,h⟩)
  ·simp only [gAlt,Bool.or_eq_true] at hn
   exact hn.imp (fun h=>.inl ⟨h,rfl⟩) fun h=>.inl ⟨h,rfl⟩
  ·by_cases hp:p < a.n
   ·simp only [gAlt,if_pos hp] at hf
    exact .inl (.inr ⟨p,hf,(alt_left ha hp).1 h⟩)
   ·simp only [gAlt,if_neg hp] at hf
    rw [show p=a.n+(p - a.n) by omega,alt_right ha] at h
    exact .inr (.inr ⟨_,hf,h⟩)
 ·rintro ((⟨h1,rfl⟩ | ⟨p,h1,h2⟩) | (⟨h1,rfl⟩ | ⟨q,h3,h4⟩))
  ·exact .inl ⟨by simp only [gAlt,h1];rfl,rfl⟩
  ·have hp:=first_lt ha h1
   exact .inr ⟨p,by simp only [gAlt,if_pos hp,h1],(alt_left ha hp).2 h2⟩
  ·exact .inl ⟨by simp only [gAlt,h1];simp,rfl⟩
  ·refine .inr ⟨a.n+q,?_,(alt_right ha).2 h4⟩
   simp only [gAlt];rw [if_neg (by omega),show a.n+q - a.n=q by omega,h3]
def pow (R:Nat→Nat→Prop):Nat→Nat→Nat→Prop
 | 0,i,j=>i=j
 | m+1,i,j=>∃ k,pow R m i k∧R k j
theorem pow_add {R:Nat→Nat→Prop} {m:Nat}:∀ {q i j:Nat},pow R (m+q) i j↔∃ k,pow R m i k∧pow R q k j
 | 0,i,j=>⟨fun h=>⟨j,h,rfl⟩,fun ⟨k,h,e⟩=>by cases e;exact h⟩
 | q+1,i,j=>by
   show (∃ k,pow R (m+q) i k∧R k j)↔_
   constructor
   ·rintro ⟨k,h1,h2⟩
    obtain ⟨l,h3,h4⟩:=pow_add.1 h1
    exact ⟨l,h3,k,h4,h2⟩
   ·rintro ⟨l,h3,k,h4,h2⟩
    exact ⟨k,pow_add.2 ⟨l,h3,h4⟩,h2⟩
theorem pow_one {R:Nat→Nat→Prop} {i j:Nat}:pow R 1 i j↔R i j:=⟨fun ⟨k,e,h⟩=>by cases e;exact h,fun h=>⟨i,rfl,h⟩⟩
theorem zcT {R:Nat→Nat→Prop} {m i j:Nat}:pow R (m+1) i j↔∃ k,R i k∧pow R m k j:=by
 rw [Nat.add_comm,pow_add]
 exact ⟨fun ⟨k,h1,h2⟩=>⟨k,pow_one.1 h1,h2⟩,fun ⟨k,h1,h2⟩=>⟨k,pow_one.2 h1,h2⟩⟩
theorem zdy {i j:Nat}:acc N B gEmpty i j↔i=j:=by
 constructor
 ·rintro (⟨_,h⟩ | ⟨p,h,_⟩)
  ·exact h
  ·cases h
 ·exact fun h=>.inl ⟨rfl,h⟩
theorem acc_none {i j:Nat}:¬ acc N B gNone i j:=fun h=>by
 rcases h with ⟨h,_⟩ | ⟨p,h,_⟩<;>cases h
theorem acc_byte {s:zb} {i j:Nat}:acc N B (gByte s) i j↔i < N∧setHas s (B i)=true∧j=i+1:=by
 constructor
 ·rintro (⟨h,_⟩ | ⟨p,h,h2⟩)
  ·cases h
  ·simp only [gByte,beq_iff_eq] at h
   subst h
   cases h2 with
   | last h hl=>
     obtain ⟨h1,s',h2,h3⟩:=h
     simp only [gByte,List.getElem?_cons_zero,Option.some.injEq] at h2
     subst h2
     exact ⟨h1,h3,rfl⟩
   | step h hf _=>cases hf
 ·rintro ⟨h1,h2,rfl⟩
  exact .inr ⟨0,rfl,.last ⟨h1,s,rfl,h2⟩ rfl⟩
theorem zjx {i j:Nat}:acc N B (gMaybe a) i j↔i=j∨acc N B a i j:=by
 constructor
 ·rintro (⟨_,h⟩ | h)
  ·exact .inl h
  ·exact .inr (.inr h)
 ·rintro (h | ⟨_,h⟩ | h)
  ·exact .inl ⟨rfl,h⟩
  ·exact .inl ⟨rfl,h⟩
  ·exact .inr h
theorem zgS {i j:Nat}:acc N B (gAgain a) i j↔∃ m,pow (acc N B a) (m+1) i j:=by
 constructor
 ·rintro (⟨hn,rfl⟩ | ⟨p,hp,h⟩)
  ·exact ⟨0,pow_one.2 (.inl ⟨hn,rfl⟩)⟩
  ·have key:∀ {p i j:Nat},Pth N B a.sets a.last (gAgain a).follow p i j→∃ k m,Pth N B a.sets a.last a.follow p i k∧pow (acc N B a) m k j:=by
    intro p i j h
    induction h with
    | last h hl=>exact ⟨_,0,.last h hl,rfl⟩
    | @step p q i j h hf hq ih=>
      obtain ⟨k,m,h1,h2⟩:=ih
      simp only [gAgain,Bool.or_eq_true,Bool.and_eq_true] at hf
      rcases hf with hf | ⟨hl,hq⟩
      ·exact ⟨k,m,.step h hf h1,h2⟩
      ·exact ⟨i+1,m+1,.last h hl,zcT.2 ⟨k,.inr ⟨q,hq,h1⟩,h2⟩⟩
   obtain ⟨k,m,h1,h2⟩:=key h
   exact ⟨m,zcT.2 ⟨k,.inr ⟨p,hp,h1⟩,h2⟩⟩
 ·rintro ⟨m,h⟩
  have mono:∀ {p i j:Nat},Pth N B a.sets a.last a.follow p i j→Pth N B a.sets a.last (gAgain a).follow p i j:=by
   intro p i j h
   exact zeL (fun _=>True) (fun q=>q) (fun _ _ _ _ _ _=>trivial) (fun _ _ _ h=>h) (fun _ _ _ _ h=>h) (fun p q i _ _ hf=>by simp only [gAgain,hf];rfl) h trivial
  have glue:∀ {p i k q j:Nat},Pth N B a.sets a.last a.follow p i k→a.first q=true→Pth N B a.sets a.last (gAgain a).follow q k j→Pth N B a.sets a.last (gAgain a).follow p i j:=by
   intro p i k q j h hq h2
   induction h with
   | last h hl=>exact .step h (by simp only [gAgain,hl,hq];simp) h2
   | step h hf _ ih=>exact .step h (by simp only [gAgain,hf];rfl) (ih h2)
  induction m generalizing i with
  | zero=>
    rcases pow_one.1 h with ⟨hn,rfl⟩ | ⟨p,hp,h⟩
    ·exact .inl ⟨hn,rfl⟩
    ·exact .inr ⟨p,hp,mono h⟩
  | succ m ih=>
    obtain ⟨k,h1,h2⟩:=zcT.1 h
    have h2:=ih h2
    rcases h1 with ⟨hn,rfl⟩ | ⟨p,hp,h1⟩
    ·exact h2
    ·rcases h2 with ⟨hn,rfl⟩ | ⟨q,hq,h2⟩
     ·exact .inr ⟨p,hp,mono h1⟩
     ·exact .inr ⟨p,hp,glue h1 hq h2⟩
theorem zio (ha:Canon a) {z:GA}:∀ {k i j:Nat},acc N B (iter (gCat a) k z) i j↔∃ l,pow (acc N B a) k i l∧acc N B z l j
 | 0,i,j=>⟨fun h=>⟨i,rfl,h⟩,fun ⟨l,e,h⟩=>by cases e;exact h⟩
 | k+1,i,j=>by
   rw [iter,acc_cat ha]
   constructor
   ·rintro ⟨m,h1,h2⟩
    obtain ⟨l,h3,h4⟩:=(zio ha).1 h2
    exact ⟨l,zcT.2 ⟨m,h1,h3⟩,h4⟩
   ·rintro ⟨l,h1,h2⟩
    obtain ⟨m,h3,h4⟩:=zcT.1 h1
    exact ⟨m,h3,(zio ha).2 ⟨l,h4,h2⟩⟩
theorem zin (ha:Canon a):∀ {k i j:Nat},acc N B (iter (fun o=>gMaybe (gCat a o)) k gEmpty) i j↔∃ m,m≤k∧pow (acc N B a) m i j
 | 0,i,j=>by
   rw [iter,zdy]
   constructor
   ·exact fun h=>⟨0,Nat.le_refl _,h⟩
   ·rintro ⟨m,h,e⟩
    have hm:m=0:=by omega
    subst hm
    exact e
 | k+1,i,j=>by
   rw [iter,zjx,acc_cat ha]
   constructor
   ·rintro (h | ⟨l,h1,h2⟩)
    ·exact ⟨0,by omega,h⟩
    ·obtain ⟨m,h3,h4⟩:=(zin ha).1 h2
     exact ⟨m+1,by omega,zcT.2 ⟨l,h1,h4⟩⟩
   ·rintro ⟨m,h1,h2⟩
    cases m with
    | zero=>exact .inl h2
    | succ m=>
      obtain ⟨l,h3,h4⟩:=zcT.1 h2
      exact .inr ⟨l,h3,(zin ha).2 ⟨m,by omega,h4⟩⟩
theorem acc_rep (ha:Canon a) {lo hi:Int} (h0:0≤lo) (h1:hi = -1∨1≤hi∧lo≤hi) {i j:Nat}:acc N B (gRep a lo hi) i j↔∃ q,(hi < 0∨lo+(q:Nat)≤hi)∧pow (acc N B a) (lo.toNat+q) i j:=by
 unfold gRep
 split
 ·rename_i hh
  rw [zio ha]
  by_cases hl:lo=0
  ·subst hl
   rw [show (max (0:Int) 1 - 1).toNat=0 from rfl]
   simp only [if_true]
   constructor
   ·rintro ⟨l,e,h⟩
    cases e
    rcases zjx.1 h with e | h
    ·exact ⟨0,.inl hh,e⟩
    ·obtain ⟨m,h⟩:=zgS.1 h
     refine ⟨m+1,.inl hh,?_⟩
     rw [show (0:Int).toNat=0 from rfl,Nat.zero_add];exact h
   ·rintro ⟨q,_,h⟩
    rw [show (0:Int).toNat=0 from rfl,Nat.zero_add] at h
    refine ⟨i,rfl,zjx.2 ?_⟩
    cases q with
    | zero=>exact .inl h
    | succ q=>exact .inr (zgS.2 ⟨q,h⟩)
  ·rw [if_neg hl]
   obtain ⟨n,hn⟩:∃ n:Nat,lo=((n+1:Nat):Int):=⟨(lo - 1).toNat,by omega⟩
   subst hn
   rw [show (max (((n+1:Nat):Int)) 1 - 1).toNat=n by omega]
   have e2:((n+1:Nat):Int).toNat=n+1:=by omega
   rw [e2]
   constructor
   ·rintro ⟨l,h2,h3⟩
    obtain ⟨m,h4⟩:=zgS.1 h3
    refine ⟨m,.inl hh,?_⟩
    rw [show n+1+m=n+(m+1) by omega]
    exact pow_add.2 ⟨l,h2,h4⟩
   ·rintro ⟨q,_,h⟩
    rw [show n+1+q=n+(q+1) by omega] at h
    obtain ⟨l,h2,h3⟩:=pow_add.1 h
    exact ⟨l,h2,zgS.2 ⟨q,h3⟩⟩
 ·rename_i hh
  rw [zio ha]
  constructor
  ·rintro ⟨l,h2,h3⟩
   obtain ⟨m,h4,h5⟩:=(zin ha).1 h3
   exact ⟨m,.inr (by omega),pow_add.2 ⟨l,h2,h5⟩⟩
  ·rintro ⟨q,h2,h3⟩
   obtain ⟨l,h4,h5⟩:=pow_add.1 h3
   exact ⟨l,h4,(zin ha).2 ⟨q,by omega,h5⟩⟩
end
end Go.Ev.Pl
namespace Go.Ev.Pl
open Go Go.Ev
noncomputable def bl (N:Nat) (P:Nat→Prop):List Bool:=(List.range (N+1)).map fun j=>@decide (P j) (Classical.propDecidable _)
end Go.Ev.Pl
namespace Go.Ev.Pl
open Go Go.Ev
def bt (s:ByteArray) (i:Nat):Int:=w64 (((byteAt s (i:Int)).toNat:Nat):Int)
theorem gof_k1 {x:zf} (h:x.Kind=1):gof x=gEmpty:=by
 rw [zdT,if_neg (by omega),if_neg (by omega),if_neg (by omega),if_neg (by omega)]
theorem gof_k2 {x:zf} (h:x.Kind=2):gof x=gByte x.Set:=by rw [zdT,if_pos h]
theorem gof_k3 {x:zf} (h:x.Kind=3):gof x=x.Kids.foldl (fun o y=>gCat o (gof y)) gEmpty:=by rw [zdT,if_neg (by omega),if_pos h]
theorem gof_k4 {x:zf} (h:x.Kind=4):gof x=x.Kids.foldl (fun o y=>gAlt o (gof y)) gNone:=by rw [zdT,if_neg (by omega),if_neg (by omega),if_pos h]
theorem gof_k5 {x k:zf} (h:x.Kind=5) (hk:x.Kids=[k]):gof x=gRep (gof k) x.Lo x.Hi:=by
 rw [zdT,if_neg (by omega),if_neg (by omega),if_neg (by omega),if_pos h,hk];rfl
def clo (k:zf):Bool:=k.Kind == 5 && (decide (k.Hi < 0) && decide (k.Lo≤1))
end Go.Ev.Pl
namespace Go.Ev.Pl
open Go Go.Ev
noncomputable def accB (s:ByteArray) (g:GA) (j:Nat):Bool:=@decide (acc s.size (bt s) g 0 j) (Classical.propDecidable _)
theorem ziq {s:ByteArray} {g:GA} {j:Nat}:accB s g j=true↔acc s.size (bt s) g 0 j:=by simp [accB]
abbrev alph:ByteArray:={ data:=#[(97:UInt8),(97:UInt8),(98:UInt8),(98:UInt8),(99:UInt8),(99:UInt8),(45:UInt8),(90:UInt8),(10:UInt8),(48:UInt8),(0:UInt8),(255:UInt8)] }
def txt (l:List Int):Nat→ByteArray
 | 0=>{ data:=#[] }
 | n+1=>txt l n++ByteArray.extract alph (Int.toNat (Int.tmod (w64 (gd l n)) 12)) (Int.toNat (w64 (Int.tmod (w64 (gd l n)) 12+1)))
theorem text_ok (l:List Int) (hb:Bytes l):∃ s,zcA l s∧s.size≤12:=by
 have hal:alph.size=12:=by rfl
 have one:∀ i,i < l.length→0≤Int.tmod (w64 (gd l (i:Int))) 12∧w64 (Int.tmod (w64 (gd l (i:Int))) 12+1)=Int.tmod (w64 (gd l (i:Int))) 12+1∧Int.tmod (w64 (gd l (i:Int))) 12 < 12:=by
  intro i hi
  obtain ⟨h0,h1⟩:=hb _ (List.getElem_mem hi)
  rw [za7 hi,zan (by omega) (by omega)]
  have h2:=Int.tmod_nonneg (a:=l[i]) 12 h0
  have h3:=Int.tmod_lt_of_pos l[i] (show (0:Int) < 12 by omega)
  exact ⟨h2,zan (by omega) (by omega),h3⟩
 have hsz:∀ n,n≤l.length→(txt l n).size=n:=by
  intro n
  induction n with
  | zero=>intro _;rfl
  | succ n ih=>
    intro hn
    obtain ⟨h1,h2,h3⟩:=one n (by omega)
    rw [txt,ByteArray.size_append,ih (by omega),ByteArray.size_extract,h2,hal]
    omega
 refine ⟨txt l (min 12 l.length),?_,by rw [hsz _ (Nat.min_le_right _ _)];exact Nat.min_le_left _ _⟩
 refine zg5 l _ ⟨fun s t=>∃ i:Nat,t=i∧i≤min 12 l.length∧s=txt l i,fun _ t=>(12 - t).toNat,⟨0,rfl,by omega,rfl⟩,?_⟩
 rintro s t ⟨i,rfl,hi,rfl⟩
 rw [List.length_map]
 refine ⟨fun ht=>?_,fun ht=>?_⟩
 ·simp only [Bool.and_eq_true,decide_eq_true_eq] at ht
  have hil:i < l.length:=by omega
  obtain ⟨h1,h2,h3⟩:=one i hil
  have hw2:w64 ((i:Int)+1)=((i+1:Nat):Int):=zan (by omega) (by omega)
  refine ⟨by omega,by omega,by omega,by omega,⟨h1,by rw [h2];omega,by rw [h2];omega,?_⟩,?_,?_,?_⟩
  ·rw [h2];show _≤12;omega
  ·rw [hsz i (by omega),show ByteArray.size (ByteArray.extract _ _ _)=_ from ByteArray.size_extract,h2,show IntKind.max IntKind.i64=9223372036854775807 by decide]
   show (((i+(min _ 12 - _):Nat)):Int)≤_
   omega
  ·rw [hw2];exact ⟨i+1,rfl,by omega,rfl⟩
  ·rw [hw2];first | omega | (dsimp only;omega)
 ·simp only [Bool.and_eq_false_iff,decide_eq_false_iff_not] at ht
  have:i=min 12 l.length:=by omega
  rw [this]
end Go.Ev.Pl
namespace Go.Ev.Pl
open Go Go.Ev
def rev:zf→zf:=cata fun x l=>{ x with Kids:=if x.Kind=3 then l.reverse else l }
theorem bytes_of {w:World} {a:Option Addr} {len cap:Nat} {zs:List Int}
 (h:(a=none∧len=0∧cap=0∧zs=[])∨∃ x,a=some x∧len≤cap∧cap≤maxLen∧zs.length=cap∧(∀ i,i < zs.length→w.cell? (x.add i)=some (.int .u8 (zs.getD i 0)))∧∀ n∈zs,(Lit.int .u8 n).wf=true):Bytes (zs.take len):=by
 intro b hb
 have hb:=List.mem_of_mem_take hb
 rcases h with ⟨_,_,_,rfl⟩ | ⟨_,_,_,_,_,_,h⟩
 ·simp at hb
 ·have:=h b hb
  simp only [Lit.wf,Bool.and_eq_true,decide_eq_true_eq] at this
  have e1:IntKind.u8.min=0:=by decide
  have e2:IntKind.u8.max=255:=by decide
  rw [e1,e2] at this
  exact this
theorem zfC (x:zf):rev x={ x with Kids:=if x.Kind=3 then (x.Kids.map rev).reverse else x.Kids.map rev }:=ze2 _ x
theorem zdb (x:zf):(rev x).Kind=x.Kind:=by rw [zfC]
theorem zcP (x:zf):(rev x).Kids=if x.Kind=3 then (x.Kids.map rev).reverse else x.Kids.map rev:=by rw [zfC]
section
variable {N : Nat} {B : Nat → Int}
def chn (N:Nat) (B:Nat→Int):List zf→Nat→Nat→Prop
 | [],i,j=>i=j
 | y :: r,i,j=>∃ k,acc N B (gof y) i k∧chn N B r k j
theorem zhp:∀ {a b:List zf} {i j:Nat},chn N B (a++b) i j↔∃ k,chn N B a i k∧chn N B b k j
 | [],b,i,j=>⟨fun h=>⟨i,rfl,h⟩,fun ⟨k,e,h⟩=>(by cases e;exact h)⟩
 | y :: a,b,i,j=>by
   simp only [List.cons_append,chn]
   constructor
   ·rintro ⟨k,h1,h2⟩
    obtain ⟨l,h3,h4⟩:=zhp.1 h2
    exact ⟨l,⟨k,h1,h3⟩,h4⟩
   ·rintro ⟨l,⟨k,h1,h3⟩,h4⟩
    exact ⟨k,h1,zhp.2 ⟨l,h3,h4⟩⟩
theorem acc_catF:∀ (l:List zf) {z:GA} {i j:Nat},Canon z→(acc N B (l.foldl (fun o y=>gCat o (gof y)) z) i j↔∃ k,acc N B z i k∧chn N B l k j)
 | [],z,i,j,_=>⟨fun h=>⟨j,h,rfl⟩,fun ⟨k,h,e⟩=>(by cases e;exact h)⟩
 | y :: r,z,i,j,hz=>by
   rw [List.foldl_cons,acc_catF r (zd0 hz (zbP y))]
   constructor
   ·rintro ⟨k,h1,h2⟩
    obtain ⟨m,h3,h4⟩:=(acc_cat hz).1 h1
    exact ⟨m,h3,k,h4,h2⟩
   ·rintro ⟨m,h3,k,h4,h2⟩
    exact ⟨k,(acc_cat hz).2 ⟨m,h3,h4⟩,h2⟩
theorem acc_altF:∀ (l:List zf) {z:GA} {i j:Nat},Canon z→(acc N B (l.foldl (fun o y=>gAlt o (gof y)) z) i j↔acc N B z i j∨∃ y,y∈l∧acc N B (gof y) i j)
 | [],z,i,j,_=>by simp
 | y :: r,z,i,j,hz=>by
   rw [List.foldl_cons,acc_altF r (zjs hz (zbP y)),acc_alt hz]
   simp only [List.mem_cons]
   constructor
   ·rintro ((h | h) | ⟨a,h1,h2⟩)
    ·exact .inl h
    ·exact .inr ⟨y,.inl rfl,h⟩
    ·exact .inr ⟨a,.inr h1,h2⟩
   ·rintro (h | ⟨a,rfl | h1,h2⟩)
    ·exact .inl (.inl h)
    ·exact .inl (.inr h2)
    ·exact .inr ⟨a,h1,h2⟩
abbrev bkw (N:Nat) (B:Nat→Int) (i:Nat):Int:=B (N - 1 - i)
theorem chn_le:∀ {l:List zf} {i j:Nat},chn N B l i j→i≤N→j≤N
 | [],i,j,h,hi=>by cases h;exact hi
 | y :: r,i,j,⟨k,h1,h2⟩,hi=>chn_le h2 (zke h1 hi).2
theorem chn_rev:∀ {l:List zf} {i j:Nat},(∀ y,y∈l→∀ i j,i≤N→j≤N→(acc N (bkw N B) (gof (rev y)) i j↔acc N B (gof y) (N - j) (N - i)))→i≤N→j≤N→
 (chn N (bkw N B) (l.map rev).reverse i j↔chn N B l (N - j) (N - i))
 | [],i,j,_,hi,hj=>by
   show i=j↔N - j=N - i
   omega
 | y :: r,i,j,hy,hi,hj=>by
   rw [List.map_cons,List.reverse_cons,zhp]
   have hr:=fun i j=>chn_rev (l:=r) (i:=i) (j:=j) fun z hz=>hy z (List.mem_cons_of_mem _ hz)
   constructor
   ·rintro ⟨k,h1,k2,h2,e⟩
    cases e
    have hk:=chn_le h1 hi
    exact ⟨N - k,(hy y (List.mem_cons_self ..) k j hk hj).1 h2,(hr i k hi hk).1 h1⟩
   ·rintro ⟨m,h1,h2⟩
    have hm:=(zke h1 (by omega)).2
    have e:N - (N - m)=m:=by omega
    refine ⟨N - m,(hr i (N - m) hi (by omega)).2 (by rw [e];exact h2),j,(hy y (List.mem_cons_self ..) (N - m) j (by omega) hj).2 (by rw [e];exact h1),rfl⟩
theorem pow_rev {R R':Nat→Nat→Prop} (hR:∀ i j,i≤N→j≤N→(R' i j↔R (N - j) (N - i))) (hle:∀ i j,R' i j→i≤N→j≤N) (hle2:∀ i j,R i j→i≤N→j≤N):∀ {m i j:Nat},i≤N→j≤N→(pow R' m i j↔pow R m (N - j) (N - i))
 | 0,i,j,hi,hj=>by
   show i=j↔N - j=N - i
   omega
 | m+1,i,j,hi,hj=>by
   rw [zcT]
   show (∃ k,R' i k∧pow R' m k j)↔∃ k,pow R m (N - j) k∧R k (N - i)
   constructor
   ·rintro ⟨k,h1,h2⟩
    have hk:=hle _ _ h1 hi
    exact ⟨N - k,(pow_rev hR hle hle2 hk hj).1 h2,(hR i k hi hk).1 h1⟩
   ·rintro ⟨k,h1,h2⟩
    have hk:k≤N:=by
     have:∀ {m i j:Nat},pow R m i j→i≤N→j≤N:=by
      intro m
      induction m with
      | zero=>intro i j h hi;cases h;exact hi
      | succ m ih=>rintro i j ⟨k,h1,h2⟩ hi;exact hle2 _ _ h2 (ih h1 hi)
     exact this h1 (by omega)
    have e:N - (N - k)=k:=by omega
    exact ⟨N - k,(hR i (N - k) hi (by omega)).2 (by rw [e];exact h2),(pow_rev hR hle hle2 (by omega) hj).2 (by rw [e];exact h1)⟩
theorem acc_rev:∀ x,Rgt x→∀ i j,i≤N→j≤N→(acc N (bkw N B) (gof (rev x)) i j↔acc N B (gof x) (N - j) (N - i)):=by
 refine rxInd fun x ih hr i j hi hj=>?_
 obtain ⟨ho,hk⟩:=zfP hr
 have hall:∀ y,y∈x.Kids→∀ i j,i≤N→j≤N→(acc N (bkw N B) (gof (rev y)) i j↔acc N B (gof y) (N - j) (N - i)):=fun y hy=>ih y hy (hk y hy)
 rcases zfg ho with h | h | h | h | h
 ·rw [gof_k1 h,gof_k1 (by rw [zdb];exact h),zdy,zdy];omega
 ·rw [gof_k2 h,gof_k2 (by rw [zdb];exact h),acc_byte,acc_byte]
  have:(rev x).Set=x.Set:=by rw [zfC]
  rw [this]
  constructor
  ·rintro ⟨h1,h2,rfl⟩
   refine ⟨by omega,?_,by omega⟩
   rw [show N - (i+1)=N - 1 - i by omega];exact h2
  ·rintro ⟨h1,h2,h3⟩
   refine ⟨by omega,?_,by omega⟩
   show setHas x.Set (B (N - 1 - i))=true
   rw [show N - 1 - i=N - j by omega];exact h2
 ·rw [gof_k3 h,gof_k3 (by rw [zdb];exact h),acc_catF _ zb5,acc_catF _ zb5,zcP,if_pos h]
  constructor
  ·rintro ⟨k,h1,h2⟩
   cases zdy.1 h1
   exact ⟨_,zdy.2 rfl,(chn_rev hall hi hj).1 h2⟩
  ·rintro ⟨k,h1,h2⟩
   cases zdy.1 h1
   exact ⟨_,zdy.2 rfl,(chn_rev hall hi hj).2 h2⟩
 ·rw [gof_k4 h,gof_k4 (by rw [zdb];exact h),acc_altF _ zfk,acc_altF _ zfk,zcP,if_neg (by omega)]
  constructor
  ·rintro (h1 | ⟨y,hy,h1⟩)
   ·exact absurd h1 acc_none
   ·obtain ⟨z,hz,rfl⟩:=List.mem_map.1 hy
    exact .inr ⟨z,hz,(hall z hz i j hi hj).1 h1⟩
  ·rintro (h1 | ⟨y,hy,h1⟩)
   ·exact absurd h1 acc_none
   ·exact .inr ⟨rev y,List.mem_map.2 ⟨y,hy,rfl⟩,(hall y hy i j hi hj).2 h1⟩
 ·obtain ⟨⟨k,hkk⟩,hlo0,_,hhi⟩:=ziG ho h
  have hhi':x.Hi = -1∨1≤x.Hi∧x.Lo≤x.Hi:=hhi.imp id fun h=>⟨h.1,h.2.1⟩
  have hkm:k∈x.Kids:=by rw [hkk];exact List.mem_cons_self ..
  have e1:(rev x).Lo=x.Lo:=by rw [zfC]
  have e2:(rev x).Hi=x.Hi:=by rw [zfC]
  rw [gof_k5 h hkk,gof_k5 (k:=rev k) (by rw [zdb];exact h) (by rw [zcP,if_neg (by omega),hkk];rfl),e1,e2,acc_rep (zbP _) hlo0 hhi',acc_rep (zbP _) hlo0 hhi']
  constructor
  ·rintro ⟨q,h1,h2⟩
   exact ⟨q,h1,(pow_rev (hall k hkm) (fun i j h hi=>(zke h hi).2) (fun i j h hi=>(zke h hi).2) hi hj).1 h2⟩
  ·rintro ⟨q,h1,h2⟩
   exact ⟨q,h1,(pow_rev (hall k hkm) (fun i j h hi=>(zke h hi).2) (fun i j h hi=>(zke h hi).2) hi hj).2 h2⟩
end
end Go.Ev.Pl
namespace Go.Ev.Pl
open Go Go.Ev
theorem turnedByte_ok (l:List Int) (hl:l.length < 100000):zb6 l l.reverse:=by
 refine zf0 l _ ⟨⟨by omega,by omega,by omega,by omega⟩,backward_byte l,by omega,fun i out=>out=l.reverse.take i,by simp,?_,?_⟩
 ·rintro i y hi hy out rfl
  have hlt:(l.reverse.take i).length=i:=by rw [List.length_take,List.length_reverse];omega
  refine ⟨by omega,?_⟩
  show _=List.take (i+1) l.reverse
  rw [List.take_succ_eq_append_getElem (by rw [List.length_reverse];exact hi)]
  congr 2
  rw [List.getElem_reverse]
  rw [List.getElem?_eq_getElem (by omega)] at hy
  exact (Option.some.inj hy).symm
 ·rintro out rfl
  rw [List.take_of_length_le (by simp)]
theorem index_ok (l:List Int) (v:Int) (hl:l.length < 1000000):∃ r,zbz l v r∧(r≥0↔v∈l):=by
 by_cases hv:v∈l
 ·obtain ⟨n,hn,hnv,hmin⟩:∃ n,n < l.length∧l[n]?=some v∧∀ m,m < n→l[m]?≠some v:=by
   have hex:∃ n,l[n]?=some v:=List.mem_iff_getElem?.1 hv
   induction l with
   | nil=>simp at hv
   | cons x l ih=>
     by_cases hx:x=v
     ·exact ⟨0,by simp,by simp [hx],fun m hm=>by omega⟩
     ·have hv':v∈l:=by
       rcases List.mem_cons.1 hv with e | e
       ·exact absurd e.symm hx
       ·exact e
      obtain ⟨n,h1,h2,h3⟩:=ih (by simp at hl;omega) hv' (List.mem_iff_getElem?.1 hv')
      refine ⟨n+1,by simp;omega,by simpa using h2,fun m hm=>?_⟩
      cases m with
      | zero=>simp [hx]
      | succ m=>simpa using h3 m (by omega)
  refine ⟨n,?_,⟨fun _=>hv,fun _=>by omega⟩⟩
  refine zcr l v _ ⟨fun t=>∃ i:Nat,t=i∧i≤n,fun t=>(l.length - t).toNat,⟨0,rfl,by omega⟩,?_⟩
  rintro t ⟨i,rfl,hi⟩
  have hw2:w64 ((i:Int)+1)=((i+1:Nat):Int):=zan (by omega) (by omega)
  have hil:i < l.length:=by omega
  refine ⟨fun ht=>⟨by omega,by omega,fun he=>?_,fun he=>?_⟩,fun ht=>?_⟩
  ·rw [za7 hil,beq_iff_eq] at he
   by_cases hin:i=n
   ·subst hin;rfl
   ·exact absurd (by rw [List.getElem?_eq_getElem hil,he]) (hmin i (by omega))
  ·rw [za7 hil,beq_eq_false_iff_ne] at he
   have hin:i≠n:=fun e=>by
    subst e
    rw [List.getElem?_eq_getElem hil] at hnv
    exact he (Option.some.inj hnv).symm
   rw [hw2]
   exact ⟨⟨i+1,rfl,by omega⟩,by first | omega | (dsimp only;omega)⟩
  ·have:=of_decide_eq_false ht;omega
 ·refine ⟨-1,?_,⟨fun h=>by omega,fun h=>absurd h hv⟩⟩
  refine zcr l v _ ⟨fun t=>∃ i:Nat,t=i∧i≤l.length,fun t=>(l.length - t).toNat,⟨0,rfl,by omega⟩,?_⟩
  rintro t ⟨i,rfl,hi⟩
  refine ⟨fun ht=>?_,fun ht=>rfl⟩
  have hil:i < l.length:=by have:=of_decide_eq_true ht;omega
  have hw2:w64 ((i:Int)+1)=((i+1:Nat):Int):=zan (by omega) (by omega)
  refine ⟨by omega,by omega,fun he=>?_,fun he=>?_⟩
  ·rw [za7 hil,beq_iff_eq] at he
   exact absurd (he▸List.getElem_mem hil) hv
  ·rw [hw2]
   exact ⟨⟨i+1,rfl,by omega⟩,by first | omega | (dsimp only;omega)⟩
theorem zjm (l:List Int) (v:Int) (hl:l.length < 1000000) (b:Bool) (hb:b=true↔v∈l):zaC l v b:=by
 obtain ⟨r,h1,h2⟩:=index_ok l v hl
 refine zdE l v _ ⟨r,h1,?_⟩
 rw [Bool.eq_iff_iff,hb,decide_eq_true_eq,h2]
end Go.Ev.Pl
namespace Go.Ev
open Go Go.Proofs
def bitOf2 (w:Int) (i:Int):Bool:=!(IntKind.u64.wrap (BitVec.ofInt IntKind.u64.bits w &&& BitVec.ofInt IntKind.u64.bits (IntKind.u64.wrap (1 * 2 ^ min i.toNat IntKind.u64.bits))).toNat == 0)
def setHas2 (s:zb) (i:Int):Bool:=
 if i < 0 then false else if i < 64 then bitOf2 s.e0 i else if i < 128 then bitOf2 s.e1 (i - 64) else if i < 192 then bitOf2 s.e2 (i - 128) else if i < 256 then bitOf2 s.e3 (i - 192) else false
theorem has2_ok (s:zb) (i:Int):zg8 s i (setHas2 s i):=by
 refine W_set_Has s i _ ⟨fun g=>⟨fun g1=>?_,fun g1=>?_⟩,fun g=>?_⟩
 ·have g:=of_decide_eq_true g
  have g1:=of_decide_eq_true g1
  obtain ⟨q,m,hm⟩:=quot64 i g g1
  rw [q,m]
  refine ⟨by omega,fun h=>⟨fun _ _ _=>by omega,?_⟩,fun h=>⟨fun _ _ _=>by omega,?_⟩,fun h=>⟨fun _ _ _=>by omega,?_⟩,fun h=>⟨fun _ _ _=>by omega,?_⟩⟩
  all_goals
   have h:=of_decide_eq_true h
   rw [h]
  ·simp [setHas2,show ¬ i < 0 by omega,show i < 64 by omega,bitOf2,bne]
  ·simp [setHas2,show ¬ i < 0 by omega,show ¬ i < 64 by omega,show i < 128 by omega,bitOf2,bne]
  ·simp [setHas2,show ¬ i < 0 by omega,show ¬ i < 64 by omega,show ¬ i < 128 by omega,show i < 192 by omega,bitOf2,bne]
  ·simp [setHas2,show ¬ i < 0 by omega,show ¬ i < 64 by omega,show ¬ i < 128 by omega,show ¬ i < 192 by omega,show i < 256 by omega,bitOf2,bne]
 ·have g:=of_decide_eq_true g
  have g1:=of_decide_eq_false g1
  simp [setHas2,show ¬ i < 0 by omega,show ¬ i < 64 by omega,show ¬ i < 128 by omega,show ¬ i < 192 by omega,show ¬ i < 256 by omega]
 ·have g:=of_decide_eq_false g
  simp [setHas2,show i < 0 by omega]
end Go.Ev
namespace Go.Ev.Pl
open Go Go.Ev
theorem wrapu (n:Int):IntKind.u64.wrap n=n % 2 ^ 64:=by
 simp [IntKind.wrap,IntKind.bits,IntKind.signed]
theorem and_pow (V k:Nat):V &&& 2 ^ k=(V / 2 ^ k % 2) * 2 ^ k:=by
 have hb:V.testBit k=decide (V / 2 ^ k % 2=1):=Nat.testBit_eq_decide_div_mod_eq
 have hlt:V / 2 ^ k % 2 < 2:=Nat.mod_lt _ (by omega)
 by_cases h:V / 2 ^ k % 2=1
 ·rw [h,Nat.one_mul]
  refine Nat.eq_of_testBit_eq fun j=>?_
  rw [Nat.testBit_and,Nat.testBit_two_pow]
  by_cases hj:k=j
  ·subst hj;rw [hb];simp [h]
  ·simp [hj]
 ·rw [show V / 2 ^ k % 2=0 by omega,Nat.zero_mul]
  refine Nat.eq_of_testBit_eq fun j=>?_
  rw [Nat.testBit_and,Nat.testBit_two_pow,Nat.zero_testBit]
  by_cases hj:k=j
  ·subst hj;rw [hb];simp [h]
  ·simp [hj]
theorem bit_eq (w i:Int) (h0:0≤i) (h1:i < 64):bitOf2 w i=bitOf w i:=by
 obtain ⟨k,rfl⟩:∃ k:Nat,i=k:=⟨i.toNat,by omega⟩
 have hk:k < 64:=by omega
 have hmin:min ((k:Int)).toNat IntKind.u64.bits=k:=by simp [IntKind.bits];omega
 have hb:IntKind.u64.bits=64:=rfl
 unfold bitOf2 bitOf
 rw [hmin,hb]
 simp only [wrapu,BitVec.toNat_and,BitVec.toNat_ofInt]
 obtain ⟨V,hV⟩:∃ V:Nat,w % 2 ^ 64=V:=⟨(w % 2 ^ 64).toNat,by omega⟩
 have e0:((2 ^ 64:Nat):Int)=2 ^ 64:=by norm_cast
 have h2k:(2:Int) ^ k=((2 ^ k:Nat):Int):=by norm_cast
 have hkk:2 ^ k < 2 ^ 64:=Nat.pow_lt_pow_right (by omega) hk
 have hkp:0 < 2 ^ k:=Nat.pow_pos (by omega)
 have hVlt:V < 2 ^ 64:=by omega
 have e1:(1 * 2 ^ k % 2 ^ 64 % ((2 ^ 64:Nat):Int)).toNat=2 ^ k:=by
  rw [e0,Int.one_mul,h2k];omega
 have e2:((1:Int) % ((2 ^ 64:Nat):Int)).toNat=1:=by rw [e0];rfl
 rw [e1,e2,e0,hV,Int.toNat_natCast,and_pow,Nat.and_one_is_mod]
 have hw:w=V+2 ^ 64 * (w / 2 ^ 64):=by have:=Int.emod_add_mul_ediv w (2 ^ 64);omega
 have hsplit:(2:Int) ^ 64=2 ^ k * (2 * 2 ^ (63 - k)):=by
  rw [← Int.mul_assoc,← Int.pow_succ,← Int.pow_add];congr 1;omega
 have hdiv:w.fdiv (2 ^ k)=((V / 2 ^ k:Nat):Int)+2 * (2 ^ (63 - k) * (w / 2 ^ 64)):=by
  rw [Int.fdiv_eq_ediv_of_nonneg _ (by rw [h2k];omega)]
  have:w=V+2 ^ k * (2 * (2 ^ (63 - k) * (w / 2 ^ 64))):=by
   rw [← Int.mul_assoc,← Int.mul_assoc,Int.mul_assoc (2 ^ k) 2,← hsplit];exact hw
  conv=>lhs;rw [this]
  rw [Int.add_mul_ediv_left _ _ (by rw [h2k];omega),h2k]
  norm_cast
 have hmod:(w.fdiv (2 ^ k) % 2 ^ 64).toNat % 2=V / 2 ^ k % 2:=by
  rw [hdiv]
  generalize 2 ^ (63 - k) * (w / 2 ^ 64)=Z
  omega
 rw [hmod]
 have:V / 2 ^ k % 2 < 2:=Nat.mod_lt _ (by omega)
 by_cases hbit:V / 2 ^ k % 2=1
 ·rw [hbit];simp;omega
 ·have:V / 2 ^ k % 2=0:=by omega
  rw [this];simp
theorem has2_eq (s:zb) (i:Int):setHas2 s i=setHas s i:=by
 unfold setHas2 setHas
 split
 ·rfl
 ·split
  ·exact bit_eq _ _ (by omega) (by omega)
  ·split
   ·exact bit_eq _ _ (by omega) (by omega)
   ·split
    ·exact bit_eq _ _ (by omega) (by omega)
    ·split
     ·exact bit_eq _ _ (by omega) (by omega)
     ·rfl
theorem setHas_ok (s:zb) (i:Int):zg8 s i (setHas s i):=by rw [← has2_eq];exact has2_ok s i
end Go.Ev.Pl
namespace Go.Ev.Pl
open Go Go.Ev
theorem aheadL1_ok (p:zao) (s:ByteArray) (k i:Nat) (hk:k < p.Sets.length) (hi:i < s.size):zc5 (k:Int) p s (i:Int) (setHas p.Sets[k] (bt s i)) p s (i:Int):=by
 refine zh3 _ _ _ _ _ _ _ _ ⟨by omega,by omega,by omega,by omega,_,setHas_ok _ _,?_,rfl,rfl,rfl⟩
 rw [za7 hk];rfl
end Go.Ev.Pl
namespace Go.Ev.Pl
open Go Go.Ev
section
variable {N M h : Nat} {B B' : Nat → Int}
theorem hdS_sub (hM:h+M≤N) (hB:∀ i,i < M→B' i=B (h+i)) {sets:List zb} {p i:Nat}:hdS M B' sets p i↔i < M∧hdS N B sets p (h+i):=by
 constructor
 ·rintro ⟨h1,s,h2,h3⟩
  exact ⟨h1,by omega,s,h2,by rw [← hB i h1];exact h3⟩
 ·rintro ⟨h1,_,s,h2,h3⟩
  exact ⟨h1,s,h2,by rw [hB i h1];exact h3⟩
theorem pth_sub1 (hM:h+M≤N) (hB:∀ i,i < M→B' i=B (h+i)) {sets:List zb} {last:Nat→Bool} {fo:Nat→Nat→Bool} {p i j:Nat} (hp:Pth M B' sets last fo p i j):Pth N B sets last fo p (h+i) (h+j):=by
 induction hp with
 | last h1 hl=>exact .last ((hdS_sub hM hB).1 h1).2 hl
 | step h1 hf _ ih=>exact .step ((hdS_sub hM hB).1 h1).2 hf ih
theorem pth_sub2 (hM:h+M≤N) (hB:∀ i,i < M→B' i=B (h+i)) {sets:List zb} {last:Nat→Bool} {fo:Nat→Nat→Bool} {p a b:Nat} (hp:Pth N B sets last fo p a b):∀ i j,a=h+i→b=h+j→j≤M→Pth M B' sets last fo p i j:=by
 induction hp with
 | last h1 hl=>
   intro i j e1 e2 hj
   obtain rfl:j=i+1:=by omega
   exact .last ((hdS_sub hM hB).2 ⟨by omega,by rw [← e1];exact h1⟩) hl
 | step h1 hf hp ih=>
   intro i j e1 e2 hj
   have:=pth_lt hp
   exact .step ((hdS_sub hM hB).2 ⟨by omega,by rw [← e1];exact h1⟩) hf (ih (i+1) j (by omega) e2 hj)
theorem acc_sub (hM:h+M≤N) (hB:∀ i,i < M→B' i=B (h+i)) {g:GA} {i j:Nat} (hj:j≤M):acc M B' g i j↔acc N B g (h+i) (h+j):=by
 constructor
 ·rintro (⟨h1,rfl⟩ | ⟨p,h1,h2⟩)
  ·exact .inl ⟨h1,rfl⟩
  ·exact .inr ⟨p,h1,pth_sub1 hM hB h2⟩
 ·rintro (⟨h1,e⟩ | ⟨p,h1,h2⟩)
  ·exact .inl ⟨h1,by omega⟩
  ·exact .inr ⟨p,h1,pth_sub2 hM hB h2 _ _ rfl rfl hj⟩
def Rch (N:Nat) (B:Nat→Int) (g:GA):Nat→Nat→Prop
 | 0,p=>g.first p=true
 | m+1,q=>∃ p,Rch N B g m p∧hdS N B g.sets p m∧g.follow p q=true
theorem rch_acc {g:GA} {j:Nat}:∀ {m:Nat},m < j→(acc N B g 0 j↔∃ p,Rch N B g m p∧Pth N B g.sets g.last g.follow p m j)
 | 0,h=>by
   constructor
   ·rintro (⟨_,e⟩ | h)
    ·omega
    ·exact h
   ·exact fun h=>.inr h
 | m+1,h=>by
   rw [rch_acc (show m < j by omega)]
   constructor
   ·rintro ⟨p,h1,h2⟩
    cases h2 with
    | last=>omega
    | step hd hf hp=>exact ⟨_,⟨p,h1,hd,hf⟩,hp⟩
   ·rintro ⟨q,⟨p,h1,hd,hf⟩,hp⟩
    exact ⟨p,h1,.step hd hf hp⟩
theorem rch_last {g:GA} {m:Nat}:acc N B g 0 (m+1)↔∃ p,Rch N B g m p∧hdS N B g.sets p m∧g.last p=true:=by
 rw [rch_acc (Nat.lt_succ_self m)]
 constructor
 ·rintro ⟨p,h1,h2⟩
  cases h2 with
  | last hd hl=>exact ⟨p,h1,hd,hl⟩
  | step hd hf hp=>have:=pth_lt hp;omega
 ·rintro ⟨p,h1,hd,hl⟩
  exact ⟨p,h1,.last hd hl⟩
theorem acc_zero {g:GA}:acc N B g 0 0↔g.null=true:=by
 constructor
 ·rintro (⟨h,_⟩ | ⟨p,_,h⟩)
  ·exact h
  ·have:=pth_lt h;omega
 ·exact fun h=>.inl ⟨h,rfl⟩
end
noncomputable def ahd (x:zf) (s:ByteArray):List Bool:=(List.range (s.size+1)).map (accB s (gof x))
theorem ahd_len (x:zf) (s:ByteArray):(ahd x s).length=s.size+1:=by simp [ahd]
theorem ahd_get (x:zf) (s:ByteArray) {i:Nat} (h:i < s.size+1):gd (ahd x s) (i:Int)=accB s (gof x) i:=by
 simp [gd,ahd,h]
end Go.Ev.Pl
namespace Go.Ev.Pl
open Go Go.Ev
theorem rev_set (x:zf):(rev x).Set=x.Set:=by rw [zfC]
theorem rev_lo (x:zf):(rev x).Lo=x.Lo:=by rw [zfC]
theorem rev_hi (x:zf):(rev x).Hi=x.Hi:=by rw [zfC]
theorem rev_len (x:zf):(rev x).Kids.length=x.Kids.length:=by rw [zcP];split<;>simp
theorem rev_mem {x y:zf}:y∈(rev x).Kids↔∃ z,z∈x.Kids∧rev z=y:=by rw [zcP];split<;>simp
theorem rev_sum (f:zf→Nat) (x:zf) (h:∀ y∈x.Kids,f (rev y)=f y):((rev x).Kids.map f).sum=(x.Kids.map f).sum:=by
 have e:(x.Kids.map rev).map f=x.Kids.map f:=by
  rw [List.map_map];exact List.map_congr_left h
 rw [zcP]
 split
 ·rw [List.map_reverse,List.sum_reverse,e]
 ·rw [e]
theorem rev_rev:∀ x,rev (rev x)=x:=by
 refine rxInd fun x ih=>?_
 have e:(x.Kids.map rev).map rev=x.Kids:=by
  rw [List.map_map]
  conv=>rhs;rw [← List.map_id x.Kids]
  exact List.map_congr_left ih
 rw [zfC (rev x),zdb,zcP]
 have e2:(if x.Kind=3 then ((if x.Kind=3 then (x.Kids.map rev).reverse else x.Kids.map rev).map rev).reverse else (if x.Kind=3 then (x.Kids.map rev).reverse else x.Kids.map rev).map rev)=x.Kids:=by
  split
  ·rw [List.map_reverse,List.reverse_reverse,e]
  ·exact e
 rw [e2,rev_set,rev_lo,rev_hi]
 clear e2 e ih
 cases x;rfl
theorem rev_wf:∀ x,Wf x→Wf (rev x):=by
 refine rxInd fun x ih h=>?_
 obtain ⟨h1,h2⟩:=(zit x).1 h
 refine (zit _).2 ⟨by rw [rev_len];exact h1,fun y hy=>?_⟩
 obtain ⟨z,hz,rfl⟩:=rev_mem.1 hy
 exact ih z hz (h2 z hz)
theorem rev_size:∀ x,sizeN (rev x)=sizeN x:=by
 refine rxInd fun x ih=>?_
 rw [zck,zck x,rev_sum sizeN x ih,zdb]
 have:timesN (rev x)=timesN x:=by simp [timesN,rev_lo,rev_hi]
 rw [this]
theorem rev_cnt:∀ x,cnt (rev x)=cnt x:=by
 refine rxInd fun x ih=>?_
 rw [ze1,ze1 x,rev_sum cnt x ih]
theorem nodesZ_ge:∀ x (most:Int),0≤nodesZ x most→nodesZ x most=most - cnt x:=by
 refine rxInd fun x ih most h=>?_
 rw [zgv] at h ⊢
 rw [ze1]
 have hstay:∀ (l:List zf) (m:Int),m < 0→l.foldl (fun m y=>if m≥0 then nodesZ y m else m) m=m:=by
  intro l
  induction l with
  | nil=>intro m _;rfl
  | cons y r ih2=>intro m h;rw [List.foldl_cons,if_neg (by omega)];exact ih2 m h
 have key:∀ (l:List zf) (m:Int),(∀ y∈l,y∈x.Kids)→0≤l.foldl (fun m y=>if m≥0 then nodesZ y m else m) m→l.foldl (fun m y=>if m≥0 then nodesZ y m else m) m=m - ((l.map cnt).sum:Nat):=by
  intro l
  induction l with
  | nil=>intro m _ _;simp
  | cons y r ih2=>
    intro m hl h
    simp only [List.foldl_cons,List.map_cons,List.sum_cons] at h ⊢
    rcases (show m < 0∨m≥0 by omega) with hn | hp
    ·rw [if_neg (by omega),hstay _ _ hn] at h;omega
    ·rw [if_pos hp] at h ⊢
     rcases (show nodesZ y m < 0∨0≤nodesZ y m by omega) with hn | hp2
     ·rw [hstay _ _ hn] at h;omega
     ·rw [ih2 _ (fun z hz=>hl z (List.mem_cons_of_mem _ hz)) h,ih y (hl y (List.mem_cons_self ..)) m hp2];omega
 rw [key x.Kids (most - 1) (fun _ h=>h) h]
 omega
theorem nodes_rev (x:zf) (most:Int) (h:0≤nodesZ x most):nodesZ (rev x) most=nodesZ x most:=by
 have h1:=nodesZ_ge x most h
 rw [h1,zjV (rev x) most (by rw [rev_cnt];omega),rev_cnt]
theorem rev_ownB (x:zf):ownB (rev x)=ownB x:=by
 simp only [ownB,zdb,rev_set,rev_lo,rev_hi,rev_len]
theorem rev_rgt:∀ x d,rgt (rev x) d=rgt x d:=by
 refine rxInd fun x ih d=>?_
 rw [zgq,zgq x,rev_ownB]
 congr 1
 have e:(x.Kids.map rev).all (fun k=>!oddK (rev x) k && rgt k (d - 1))=x.Kids.all fun k=>!oddK x k && rgt k (d - 1):=by
  rw [List.all_map]
  rw [Bool.eq_iff_iff,List.all_eq_true,List.all_eq_true]
  refine forall_congr' fun y=>forall_congr' fun hy=>?_
  simp only [Function.comp_apply,oddK,zdb,ih y hy]
 rw [zcP]
 split
 ·rw [List.all_reverse,e]
 ·exact e
theorem rev_right (x:zf):rightB (rev x)=rightB x:=by
 have key:∀ x,rightB x=true→rightB (rev x)=true:=by
  intro x h
  simp only [rightB,Bool.and_eq_true,decide_eq_true_eq] at h ⊢
  refine ⟨by rw [rev_rgt];exact h.1,?_,?_⟩
  ·have:sizeZ (rev x)=sizeZ x:=by simp only [sizeZ,rev_size]
   omega
  ·have:=nodes_rev x 1000 h.2.2
   omega
 rw [Bool.eq_iff_iff]
 constructor
 ·intro h;have:=key _ h;rwa [rev_rev] at this
 ·exact key x
end Go.Ev.Pl
namespace Go.Ev.Pl
open Go Go.Ev
theorem turnedRx_ok (l:List zf) (hl:l.length < 1099511627776):zba l l.reverse:=by
 refine ze3 l _ ⟨⟨by omega,by omega,by omega⟩,backward_rx l,by omega,fun i out=>out=l.reverse.take i,by simp,?_,?_⟩
 ·rintro i y hi hy out rfl
  have hlt:(l.reverse.take i).length=i:=by rw [List.length_take,List.length_reverse];omega
  refine ⟨by omega,by omega,by omega,by simp,?_⟩
  show _=List.take (i+1) l.reverse
  rw [List.take_succ_eq_append_getElem (by rw [List.length_reverse];exact hi),List.set_append_right _ _ (by omega),Nat.sub_self,List.set_cons_zero]
  congr 2
  rw [List.getElem_reverse]
  rw [List.getElem?_eq_getElem (by omega)] at hy
  exact (Option.some.inj hy).symm
 ·rintro out rfl
  rw [List.take_of_length_le (by simp)]
theorem reverse_ok:∀ x,Wf x→zcs x (rev x):=by
 refine rxInd fun x ih hw=>?_
 obtain ⟨hl,hk⟩:=(zit x).1 hw
 refine zjy x _ ⟨fun l=>l.map rev=(rev x).Kids∧l.length=x.Kids.length∧∀ y∈l,y∈x.Kids,?_,fun h=>⟨_,turnedRx_ok _ (by omega),?_⟩,fun h=>?_⟩
 ·rintro l ⟨e,hle,hm⟩
  refine ⟨fun k t=>∃ i:Nat,t=i∧i≤l.length∧k=(l.take i).map rev,fun _ t=>(l.length - t).toNat,⟨0,rfl,by omega,by simp⟩,?_⟩
  rintro k t ⟨i,rfl,hi,rfl⟩
  refine ⟨fun ht=>?_,fun ht=>?_⟩
  ·have ht:i < l.length:=by have:=of_decide_eq_true ht;omega
   have hw2:w64 ((i:Int)+1)=((i+1:Nat):Int):=zan (by omega) (by omega)
   have hlen:((l.take i).map rev).length=i:=by rw [List.length_map,List.length_take];omega
   rw [za7 ht,hw2]
   refine ⟨by omega,by omega,_,ih _ (hm _ (List.getElem_mem ht)) (hk _ (hm _ (List.getElem_mem ht))),by omega,⟨i+1,rfl,by omega,?_⟩,by first | omega | (dsimp only;omega)⟩
   rw [List.take_succ_eq_append_getElem ht,List.map_append];rfl
  ·have ht:i=l.length:=by have:=of_decide_eq_false ht;omega
   subst ht
   rw [List.take_of_length_le (Nat.le_refl _),e,zfC]
 ·have h:x.Kind=3:=by simpa using h
  exact ⟨by rw [zcP,if_pos h,List.map_reverse],by simp,fun y hy=>by simpa using hy⟩
 ·have h:¬ x.Kind=3:=by simpa using h
  exact ⟨by rw [zcP,if_neg h],rfl,fun y hy=>hy⟩
theorem za5 {α:Type} {l:List α} {i:Nat} (h:i < l.length) (v:α):v∈l.take (i+1)↔v∈l.take i∨v=l[i]:=by
 rw [List.take_succ_eq_append_getElem h,List.mem_append,List.mem_singleton]
end Go.Ev.Pl
namespace Go.Ev.Pl
open Go Go.Ev
theorem ahead_ok (x:zf) (s:ByteArray) (hw:Wf x) (hr:rightB x=true) (hs:s.size≤100000):zdh x s (ahd x s):=by
 have hP:=placeOf_ok x hw
 rw [if_pos hr,if_pos hr] at hP
 obtain ⟨hr2,hs200⟩:=zda hr
 have hn:=gof_n x hr2
 have hca:=zbP x
 obtain ⟨g,hg⟩:∃ g,g=gof x:=⟨_,rfl⟩
 have hah:ahd x s=(List.range (s.size+1)).map (accB s g):=by rw [hg];rfl
 rw [hah]
 rw [← hg] at hP hn hca
 have hS:(plc g).Sets.length=g.n:=hca.sets
 have hF:(plc g).Follow.length=g.n:=zaT _ _
 refine W_split_ahead x s _ ⟨_,_,hP,fun s' pS pF pL pFo pN out next t=>(s'=s∧pS=(plc g).Sets∧pF=(plc g).First∧pL=(plc g).Last∧pFo=(plc g).Follow∧pN=(plc g).Null)∧∃ m:Nat,t=m∧m≤s.size∧out=(List.range (m+1)).map (accB s g)∧
  ∃ q:Nat→Bool,(∀ p,p < g.n→(q p=true↔Rch s.size (bt s) g m p))∧next=lst g.n q 0,
  fun _ _ _ _ _ _ _ _ t=>(s.size - t).toNat,⟨⟨rfl,rfl,rfl,rfl,rfl,rfl⟩,0,rfl,by omega,?_,g.first,fun p _=>Iff.rfl,rfl⟩,?_⟩
 ·show [g.null]=[accB s g 0]
  have:g.null=accB s g 0:=by rw [Bool.eq_iff_iff,ziq,acc_zero]
  rw [this]
 rintro s' pS pF pL pFo pN out next t ⟨⟨e1,e2,e3,e4,e5,e6⟩,m,rfl,hm,rfl,q,hq,hnext⟩
 refine ⟨fun ht=>?_,fun ht=>?_⟩
 rotate_left
 ·have ht:m=s.size:=by have:=of_decide_eq_false ht;omega
  subst ht;rfl
 have ht:m < s.size:=by have:=of_decide_eq_true ht;omega
 have hll:=zcn g.n q 0
 rw [← hnext] at hll
 have hel:∀ (k:Nat) (hk:k < next.length),∃ p,p < g.n∧next[k]=((p:Nat):Int)∧Rch s.size (bt s) g m p:=by
  intro k hk
  have hm1:∀ v,v∈next→v∈lst g.n q 0:=fun v hv=>by rw [← hnext];exact hv
  obtain ⟨p,hp,hq2,e⟩:=zbv.1 (hm1 _ (List.getElem_mem hk))
  exact ⟨p,hp,e,(hq p hp).1 hq2⟩
 have hmem:∀ p,p < g.n→(((p:Nat):Int)∈next↔Rch s.size (bt s) g m p):=by
  intro p hp
  rw [hnext,zbv,← hq p hp]
  constructor
  ·rintro ⟨i,hi,hqi,e⟩
   obtain rfl:i=p:=by omega
   exact hqi
  ·exact fun h=>⟨p,hp,h,by omega⟩
 have hw2:w64 ((m:Int)+1)=((m+1:Nat):Int):=zan (by omega) (by omega)
 refine ⟨fun s'' pS' pF' pL' pFo' pN' i thn is k=>(s''=s∧pS'=(plc g).Sets∧pF'=(plc g).First∧pL'=(plc g).Last∧pFo'=(plc g).Follow∧pN'=(plc g).Null∧i=(m:Int))∧∃ c:Nat,k=c∧c≤next.length∧thn.length≤c * g.n∧
  (is=true↔∃ p:Nat,((p:Nat):Int)∈next.take c∧hdS s.size (bt s) g.sets p m∧g.last p=true)∧
  (∀ v,v∈thn↔∃ p r:Nat,((p:Nat):Int)∈next.take c∧hdS s.size (bt s) g.sets p m∧r < g.n∧g.follow p r=true∧v=r),
  fun _ _ _ _ _ _ _ _ _ k=>(next.length - k).toNat,⟨⟨e1,e2,e3,e4,e5,e6,rfl⟩,0,rfl,by omega,by simp,by simp,fun v=>by simp⟩,?_⟩
 rintro s'' pS' pF' pL' pFo' pN' i thn is k ⟨⟨f1,f2,f3,f4,f5,f6,f7⟩,c,rfl,hc,hlen,hi,hthn⟩
 have hcn:c * g.n≤200 * 200:=Nat.mul_le_mul (by omega) (by omega)
 refine ⟨fun hk=>?_,fun hk=>?_⟩
 ·have hk:c < next.length:=by have:=of_decide_eq_true hk;omega
  have hw3:w64 ((c:Int)+1)=((c+1:Nat):Int):=zan (by omega) (by omega)
  obtain ⟨p,hp,ep,hR⟩:=hel c hk
  have hpS:p < (plc g).Sets.length:=by rw [hS];exact hp
  have hdp:hdS s.size (bt s) g.sets p m↔setHas (plc g).Sets[p] (bt s m)=true:=by
   constructor
   ·rintro ⟨_,st,h1,h2⟩
    rw [List.getElem?_eq_getElem (show p < g.sets.length from hpS)] at h1
    cases h1;exact h2
   ·exact fun h=>⟨ht,_,List.getElem?_eq_getElem (show p < g.sets.length from hpS),h⟩
  have hgf:gd (plc g).Follow ((p:Nat):Int)=lst g.n (g.follow p) 0:=(za7 (l:=flw g 0) (by rw [zaT];exact hp)).trans (zen g 0 hp)
  have hfl:=zcn g.n (g.follow p) 0
  rw [za7 hk,ep,hw3,f1,f2,f3,f4,f5,f6,f7]
  have hmc:c * g.n+g.n=(c+1) * g.n:=by rw [Nat.add_mul,Nat.one_mul]
  have fin:∀ (thn':List Int) (is':Bool),thn'.length≤(c+1) * g.n→(is'=true↔∃ p:Nat,((p:Nat):Int)∈next.take (c+1)∧hdS s.size (bt s) g.sets p m∧g.last p=true)→
   (∀ v,v∈thn'↔∃ p r:Nat,((p:Nat):Int)∈next.take (c+1)∧hdS s.size (bt s) g.sets p m∧r < g.n∧g.follow p r=true∧v=r)→
   ∃ c':Nat,((c+1:Nat):Int)=c'∧c'≤next.length∧thn'.length≤c' * g.n∧(is'=true↔∃ p:Nat,((p:Nat):Int)∈next.take c'∧hdS s.size (bt s) g.sets p m∧g.last p=true)∧
     (∀ v,v∈thn'↔∃ p r:Nat,((p:Nat):Int)∈next.take c'∧hdS s.size (bt s) g.sets p m∧r < g.n∧g.follow p r=true∧v=r):=
   fun thn' is' h1 h2 h3=>⟨c+1,rfl,by omega,h1,h2,h3⟩
  have h1n:hdS s.size (bt s) g.sets p m→∀ v,v∈thn++lst g.n (g.follow p) 0↔∃ p r:Nat,((p:Nat):Int)∈next.take (c+1)∧hdS s.size (bt s) g.sets p m∧r < g.n∧g.follow p r=true∧v=r:=by
   intro hd v
   rw [List.mem_append,hthn,zbv]
   constructor
   ·rintro (⟨p',r,h1,h2⟩ | ⟨r,h1,h2,h3⟩)
    ·exact ⟨p',r,(za5 hk _).2 (.inl h1),h2⟩
    ·exact ⟨p,r,(za5 hk _).2 (.inr ep.symm),hd,h1,h2,by omega⟩
   ·rintro ⟨p',r,h1,h2,h3,h4,h5⟩
    rcases (za5 hk _).1 h1 with h1 | h1
    ·exact .inl ⟨p',r,h1,h2,h3,h4,h5⟩
    ·rw [ep] at h1
     obtain rfl:p'=p:=by omega
     exact .inr ⟨r,h3,h4,by omega⟩
  have h0n:¬ hdS s.size (bt s) g.sets p m→(∀ v,v∈thn↔∃ p r:Nat,((p:Nat):Int)∈next.take (c+1)∧hdS s.size (bt s) g.sets p m∧r < g.n∧g.follow p r=true∧v=r):=by
   intro hd v
   rw [hthn]
   constructor
   ·rintro ⟨p',r,h1,h2⟩
    exact ⟨p',r,(za5 hk _).2 (.inl h1),h2⟩
   ·rintro ⟨p',r,h1,h2,h3⟩
    rcases (za5 hk _).1 h1 with h1 | h1
    ·exact ⟨p',r,h1,h2,h3⟩
    ·rw [ep] at h1
     obtain rfl:p'=p:=by omega
     exact absurd h2 hd
  have his:∀ b:Bool,(b=true↔is=true∨(hdS s.size (bt s) g.sets p m∧g.last p=true))→(b=true↔∃ p:Nat,((p:Nat):Int)∈next.take (c+1)∧hdS s.size (bt s) g.sets p m∧g.last p=true):=by
   intro b hb
   rw [hb,hi]
   constructor
   ·rintro (⟨p',h1,h2⟩ | h)
    ·exact ⟨p',(za5 hk _).2 (.inl h1),h2⟩
    ·exact ⟨p,(za5 hk _).2 (.inr ep.symm),h⟩
   ·rintro ⟨p',h1,h2⟩
    rcases (za5 hk _).1 h1 with h1 | h1
    ·exact .inl ⟨p',h1,h2⟩
    ·rw [ep] at h1
     obtain rfl:p'=p:=by omega
     exact .inr h2
  refine ⟨fun a1 a2 a3 a4 a5 a6 a7 thn' is'=>(a1=s∧a2=(plc g).Sets∧a3=(plc g).First∧a4=(plc g).Last∧a5=(plc g).Follow∧a6=(plc g).Null∧a7=(m:Int))∧thn'.length≤(c+1) * g.n∧(is'=true↔∃ p:Nat,((p:Nat):Int)∈next.take (c+1)∧hdS s.size (bt s) g.sets p m∧g.last p=true)∧
   (∀ v,v∈thn'↔∃ p r:Nat,((p:Nat):Int)∈next.take (c+1)∧hdS s.size (bt s) g.sets p m∧r < g.n∧g.follow p r=true∧v=r),
   fun a1 a2 a3 a4 a5 a6 a7 thn' is' h=>⟨⟨h.1,fin _ _ h.2.1 h.2.2.1 h.2.2.2⟩,by first | omega | (dsimp only;omega)⟩,by omega,by omega,
   _,_,_,_,aheadL1_ok (plc g) s p m hpS ht,fun hh=>?_,fun hh=>?_⟩
  ·have hd:=hdp.2 hh
   rw [hgf]
   have hA:=h1n hd
   refine ⟨by omega,by omega,by omega,fun hi'=>⟨⟨rfl,rfl,rfl,rfl,rfl,rfl,rfl⟩,by rw [List.length_append];omega,his _ (by simp [hi']),hA⟩,fun hi'=>?_⟩
   refine ⟨g.last p,zjm _ _ (by have:=zcn g.n g.last 0;show (lst g.n g.last 0).length < _;omega) _ ?_,⟨rfl,rfl,rfl,rfl,rfl,rfl,rfl⟩,by rw [List.length_append];omega,his _ (by simp [hi',hd]),hA⟩
   show _↔_∈lst g.n g.last 0
   rw [zbv]
   constructor
   ·exact fun h=>⟨p,hp,h,by omega⟩
   ·rintro ⟨i,_,h,e⟩
    obtain rfl:i=p:=by omega
    exact h
  ·have hd:¬ hdS s.size (bt s) g.sets p m:=fun h=>by rw [hdp.1 h] at hh;cases hh
   exact ⟨⟨rfl,rfl,rfl,rfl,rfl,rfl,rfl⟩,by omega,his _ (by simp [hd]),h0n hd⟩
 ·have hk:c=next.length:=by have:=of_decide_eq_false hk;omega
  subst hk
  rw [List.take_of_length_le (Nat.le_refl _)] at hi hthn
  have hlt:∀ p:Nat,hdS s.size (bt s) g.sets p m→p < g.n:=fun p h=>by rw [← hca.sets];exact hd_lt h
  have hacc:is=accB s g (m+1):=by
   rw [Bool.eq_iff_iff,hi,ziq,rch_last]
   constructor
   ·rintro ⟨p,h1,h2,h3⟩;exact ⟨p,(hmem p (hlt p h2)).1 h1,h2,h3⟩
   ·rintro ⟨p,h1,h2,h3⟩;exact ⟨p,(hmem p (hlt p h2)).2 h1,h2,h3⟩
  rw [hw2]
  refine ⟨join thn [],zhh thn [] (by omega) (by simp),by simp;omega,⟨⟨f1,f2,f3,f4,f5,f6⟩,m+1,rfl,by omega,?_,fun r=>@decide (Rch s.size (bt s) g (m+1) r) (Classical.propDecidable _),fun r hr=>by simp,?_⟩,by first | omega | (dsimp only;omega)⟩
  ·rw [hacc,List.range_succ (n:=m+1),List.map_append];rfl
  ·refine zjK (zcV _ _).1 (zgx _ _ _) fun v=>?_
   rw [(zcV _ _).2,hthn,zbv]
   constructor
   ·rintro (⟨p,r,h1,h2,h3,h4,rfl⟩ | h)
    ·exact ⟨r,h3,by simp only [decide_eq_true_eq];exact ⟨p,(hmem p (hlt p h2)).1 h1,h2,h4⟩,by omega⟩
    ·simp at h
   ·rintro ⟨r,h1,h2,e⟩
    simp only [decide_eq_true_eq] at h2
    obtain ⟨p,h3,h4,h5⟩:=h2
    exact .inl ⟨p,r,(hmem p (hlt p h4)).2 h3,h4,h1,h5,by omega⟩
end Go.Ev.Pl
namespace Go.Ev.Pl
open Go Go.Ev
theorem Ahead_ok (x:zf) (s:ByteArray) (hw:Wf x) (hs:(s.size:Int) < 2 ^ 60):zeu x s (if rightB x=true∧s.size≤10000 then ahd x s else []):=by
 refine W_split_Ahead x s _ ⟨_,zcl x hw,fun h=>?_,fun h=>?_⟩
 ·have h':¬ (rightB x=true∧s.size≤10000):=by
   rintro ⟨h1,h2⟩
   simp only [h1,Bool.not_true,Bool.false_or,decide_eq_true_eq] at h;omega
  rw [if_neg h']
 ·simp only [Bool.or_eq_false_iff,Bool.not_eq_false',decide_eq_false_iff_not] at h
  have h':rightB x=true∧s.size≤10000:=⟨h.1,by omega⟩
  rw [if_pos h']
  exact ⟨_,ahead_ok x s hw h.1 (by omega),rfl⟩
abbrev zRx:zf:={ Kind:=(0:Int),Set:={ e0:=(0:Int),e1:=(0:Int),e2:=(0:Int),e3:=(0:Int) },Lo:=(0:Int),Hi:=(0:Int),Kids:=[] }
def Rvd (s t:ByteArray):Prop:=t.size=s.size∧∀ i,i < s.size→bt t i=bt s (s.size - 1 - i)
theorem acc_rvd {s t:ByteArray} (h:Rvd s t) (x:zf) (hr:Rgt x) {k:Nat} (hk:k≤s.size):accB t (gof (rev x)) k=true↔acc s.size (bt s) (gof x) (s.size - k) s.size:=by
 rw [ziq,h.1]
 have h1:=acc_rev (N:=s.size) (B:=bt s) x hr 0 k (by omega) hk
 rw [Nat.sub_zero] at h1
 rw [← h1]
 have h2:=acc_sub (N:=s.size) (M:=s.size) (h:=0) (B:=bkw s.size (bt s)) (B':=bt t) (by omega) (fun i hi=>by rw [h.2 i hi,Nat.zero_add]) (g:=gof (rev x)) (i:=0) (j:=k) hk
 rw [h2,Nat.zero_add,Nat.zero_add]
noncomputable def lastN (p:Nat→Prop):Nat→Nat
 | 0=>0
 | n+1=>@ite _ (p (n+1)) (Classical.propDecidable _) (n+1) (lastN p n)
theorem lastN_pos {p:Nat→Prop} {n:Nat} (h:p (n+1)):lastN p (n+1)=n+1:=by simp [lastN,h]
theorem lastN_neg {p:Nat→Prop} {n:Nat} (h:¬ p (n+1)):lastN p (n+1)=lastN p n:=by simp [lastN,h]
noncomputable def prt (r:zw) (s:ByteArray):Nat:=
 if rightB (zw.Rx r)=true∧s.size≤10000 then
  if (zw.Trail r).Kind=0 then (if accB s (gof (zw.Rx r)) s.size=true then s.size else 0)
  else if rightB (zw.Trail r)=true then lastN (fun h=>acc s.size (bt s) (gof (zw.Rx r)) 0 h∧acc s.size (bt s) (gof (zw.Trail r)) h s.size) s.size
  else 0
 else 0
end Go.Ev.Pl
namespace Go.Ev.Pl
open Go Go.Ev
theorem byteAt_of {s:ByteArray} {i:Nat} (h:i < s.size):byteAt s (i:Int)=s.data[i]'h:=by
 have h1:s[i]?=some (s.data[i]'h):=by
  rw [getElem?_pos s i h];rfl
 simp only [byteAt,Int.toNat_natCast,h1,Option.getD_some]
theorem rvd_list {s t:ByteArray} (h:t.data.toList=s.data.toList.reverse):Rvd s t:=by
 have hsz:t.size=s.size:=by
  have:=congrArg List.length h
  simpa using this
 refine ⟨hsz,fun i hi=>?_⟩
 have h1:i < t.size:=by omega
 have h2:s.size - 1 - i < s.size:=by omega
 unfold bt
 rw [byteAt_of h1,byteAt_of h2]
 have e:t.data[i]'h1=s.data[s.size - 1 - i]'h2:=by
  have g1:t.data[i]'h1=t.data.toList[i]'(by simpa using h1):=by simp
  have g2:t.data.toList[i]'(by simpa using h1)=s.data.toList.reverse[i]'(by rw [← h];simpa using h1):=by simp only [h]
  rw [g1,g2,List.getElem_reverse]
  simp
 rw [e]
theorem rvd_bytes (s:ByteArray):Rvd s (bytesT (List.map zF (bytesOf s).reverse)):=by
 refine rvd_list ?_
 simp only [bytesT,bytesOf,List.map_map,← List.map_reverse]
 have e:toU8∘zF∘(fun b:UInt8=>(b.toNat:Int))=id:=by
  funext b
  simp [toU8,zF]
 rw [e]
 simp
theorem Split_ok (r:zw) (s:ByteArray) (hw1:Wf (zw.Rx r)) (hw2:Wf (zw.Trail r)) (hs:(s.size:Int) < 2 ^ 60):zct r s (prt r s:Nat):=by
 refine W_split_Split r s _ ⟨_,Ahead_ok _ s hw1 hs,fun h=>?_,fun h=>?_⟩
 ·have:¬ (rightB (zw.Rx r)=true∧s.size≤10000):=by
   intro hh
   rw [if_pos hh,ahd_len] at h
   simp at h;omega
  simp [prt,this]
 ·have hh:rightB (zw.Rx r)=true∧s.size≤10000:=by
   by_cases hh:rightB (zw.Rx r)=true∧s.size≤10000
   ·exact hh
   ·rw [if_neg hh] at h;simp at h
  rw [if_pos hh,ahd_len]
  refine ⟨fun ht=>?_,fun ht=>?_⟩
  ·have ht:(zw.Trail r).Kind=0:=by simpa using ht
   have hg:=ahd_get (zw.Rx r) s (i:=s.size) (by omega)
   rw [gd,Int.toNat_natCast] at hg
   refine ⟨by omega,by omega,by omega,fun ha=>?_,fun ha=>?_⟩
   ·rw [hg] at ha;simp [prt,hh,ht,ha]
   ·rw [hg] at ha;simp [prt,hh,ht,ha]
  ·have ht:¬ (zw.Trail r).Kind=0:=by simpa using ht
   refine ⟨_,zcl _ hw2,fun hr=>?_,fun hr=>?_⟩
   ·have hr:¬ rightB (zw.Trail r)=true:=by simpa using hr
    simp [prt,hh,ht,hr]
   ·have hr:rightB (zw.Trail r)=true:=by simpa using hr
    have hbl:(bytesOf s).length=s.size:=by simp [bytesOf]
    have hrv:=rvd_bytes s
    obtain ⟨t,ht2⟩:∃ t,t=bytesT (List.map zF (bytesOf s).reverse):=⟨_,rfl⟩
    rw [← ht2] at hrv
    have hts:t.size=s.size:=hrv.1
    have hrr:rightB (rev (zw.Trail r))=true:=by rw [rev_right];exact hr
    have hR:=(zda hr).1
    refine ⟨_,reverse_ok _ hw2,_,turnedByte_ok _ (by omega),ahd (rev (zw.Trail r)) t,?_,?_⟩
    ·rw [← ht2];exact ahead_ok _ t (rev_wf _ hw2) hrr (by omega)
    obtain ⟨p,hp⟩:∃ p:Nat→Prop,p=fun h=>acc s.size (bt s) (gof (zw.Rx r)) 0 h∧acc s.size (bt s) (gof (zw.Trail r)) h s.size:=⟨_,rfl⟩
    have hprt:prt r s=lastN p s.size:=by simp [prt,hh,ht,hr,hp]
    rw [hprt,ahd_len,hts]
    refine ⟨fun h=>∃ i:Nat,h=i∧i≤s.size∧lastN p i=lastN p s.size,fun h=>h.toNat,⟨s.size,rfl,Nat.le_refl _,rfl⟩,?_⟩
    rintro _ ⟨i,rfl,hi,hl⟩
    have hwN:w64 ((s.size:Int) - i)=((s.size - i:Nat):Int):=(zan (by omega) (by omega)).trans (by omega)
    have hw1:0 < i→w64 ((i:Int) - 1)=((i - 1:Nat):Int):=fun h=>(zan (by omega) (by omega)).trans (by omega)
    have hA:(gd (ahd (zw.Rx r) s) (i:Int) && gd (ahd (rev (zw.Trail r)) t) (w64 ((s.size:Int) - i)))=true↔p i:=by
     rw [hwN,ahd_get _ s (by omega),ahd_get _ t (by omega),Bool.and_eq_true,ziq,acc_rvd hrv _ hR (by omega),hp,show s.size - (s.size - i)=i by omega]
    refine ⟨fun h0=>?_,fun h0=>?_⟩
    ·have h0:0 < i:=by have:=of_decide_eq_true h0;omega
     obtain ⟨k,rfl⟩:∃ k,i=k+1:=⟨i - 1,by omega⟩
     refine ⟨by omega,by omega,by omega,fun _=>by rw [hwN];omega,fun _=>by rw [hwN,Int.toNat_natCast];omega,fun _=>by rw [hwN];omega,fun ha=>?_,fun ha=>?_⟩
     ·rw [← hl,lastN_pos (hA.1 ha)]
     ·have hn:¬ p (k+1):=fun h=>by rw [hA.2 h] at ha;cases ha
      rw [lastN_neg hn] at hl
      rw [hw1 h0]
      exact ⟨⟨k,by omega,by omega,hl⟩,by first | omega | (dsimp only;omega)⟩
    ·have h0:i=0:=by have:=of_decide_eq_false h0;omega
     subst h0
     rw [← hl];rfl
end Go.Ev.Pl
namespace Go.Ev.Pl
open Go Go.Ev
theorem right_b:rightB (chr 98)=true:=by kernel_rfl
structure MS (L:List Int) (n:Int) (m:ze):Prop where
 l:m.L=L
 a0:0≤m.At
 a1:m.At≤n
abbrev LOk (L:List Int):Prop:=Bytes L∧L.length≤1000
theorem MS.ok {L:List Int} {n:Int} {m:ze} (h:MS L n m) (hL:LOk L):MOk m:=⟨by rw [h.l];exact hL.1,by rw [h.l];exact hL.2,h.a0⟩
theorem pickS {L:List Int} {n k:Int} {m:ze} (hL:LOk L) (hk:1≤k) (hn:n < 100000) (h:MS L n m):∃ r o,0≤r∧r < k∧zq k m r o∧MS L (n+1) o:=by
 obtain ⟨r,h0,h1,h2⟩:=zeN k m hk (h.ok hL) (by have:=h.a1;omega)
 exact ⟨r,_,h0,h1,h2,h.l,by have:=h.a0;simp only;omega,by have:=h.a1;simp only;omega⟩
structure Sml (x:zf):Prop where
 wf:Wf x
 right:rightB x=true
 size:sizeN x≤12
theorem Sml.kind {x:zf} (h:Sml x):¬ x.Kind=0:=by
 rcases zfg (zfP (zda h.right).1).1 with h | h | h | h | h<;>omega
theorem sml_b:Sml (chr 98):=⟨wf_leaf _ _ _ _,right_b,by show sizeN (chr 98)≤12;rw [show sizeN (chr 98)=1 from by kernel_rfl];omega⟩
theorem small_ok {L:List Int} {n:Int} {m:ze} (hL:LOk L) (hn:n < 90000) (h:MS L n m):∃ x o,zaZ m x o∧Sml x∧MS L (n+90) o:=by
 obtain ⟨r,o,c,g,e1,e2,e3⟩:=mk_ok 2 (by omega) 2 (by omega) (by omega) m (h.ok hL) (by have:=h.a1;simp;omega)
 have ho:MS L (n+90) o:=⟨e1.trans h.l,by have:=h.a0;omega,by have:=h.a1;simp at e3;omega⟩
 have hw:=(zgC g (by omega)).2
 by_cases hs:sizeZ r > 12
 ·exact ⟨_,o,zdz m _ _ ⟨r,o,c,_,zjT r hw,fun _=>⟨_,zgn 98 98,rfl,rfl⟩,fun h=>absurd hs (by simpa using h)⟩,sml_b,ho⟩
 ·refine ⟨r,o,zdz m _ _ ⟨r,o,c,_,zjT r hw,fun h=>absurd (by simpa using h) hs,fun _=>⟨rfl,rfl⟩⟩,⟨hw,?_,?_⟩,ho⟩
  ·have h1:=rgt_mono r _ g.right 20 (by omega)
   have h2:sizeZ r≤200:=by omega
   have hsm:=g.small
   have h3:=zjV r 1000 (by have:cnt r≤7:=hsm;omega)
   have h4:nodesZ r 1000≥0:=by have:cnt r≤7:=hsm;omega
   simp [rightB,h1,h2,h4]
  ·simp only [sizeZ] at hs;omega
structure FitRule (n:Int) (r:zw):Prop where
 conds:SS r.Conds∧∀ c∈r.Conds,0≤c∧c < n
 all:r.All=true→r.Conds=[]
 act:1≤r.Act∧r.Act≤3
 to:0≤r.To∧r.To < n∧(r.Act≠3→r.To=0)
 body:(r.Eof=true∧r.Bol=false∧r.Rx=zRx∧r.Trail=zRx)∨(r.Eof=false∧Sml r.Rx∧(r.Trail=zRx∨Sml r.Trail))
inductive CondRun (n:Int):ze→List Int→Int→ze→List Int→Prop where
 | done {m l i}:¬ i < n→CondRun n m l i m l
 | step {m l i r o m' l'}:i < n→zq 2 m r o→CondRun n o (if r=1 then l++[i] else l) (i+1) m' l'→CondRun n m l i m' l'
theorem ss_snoc {l:List Int} {i:Int} (h:SS l) (hl:∀ c∈l,c < i):SS (l++[i]):=by
 unfold SS at *
 rw [List.pairwise_append]
 exact ⟨h,by simp,fun a ha b hb=>by simp at hb;subst hb;exact hl a ha⟩
theorem condRun {L:List Int} (hL:LOk L) {c:Int} (hc:c≤3):∀ (k:Nat) {i:Int} {l:List Int} {n:Int} {m:ze},(c - i).toNat=k→0≤i→MS L n m→n+k < 90000→SS l→(∀ x∈l,0≤x∧x < i∧x < c)→
 ∃ m' l',CondRun c m l i m' l'∧MS L (n+k) m'∧SS l'∧∀ x∈l',0≤x∧x < c
 | 0,i,l,n,m,hk,hi,hm,hn,hs,hl=>⟨m,l,.done (by omega),by simpa using hm,hs,fun x hx=>⟨(hl x hx).1,(hl x hx).2.2⟩⟩
 | k+1,i,l,n,m,hk,hi,hm,hn,hs,hl=>by
   obtain ⟨r,o,h0,h1,hp,ho⟩:=pickS (k:=2) hL (by omega) (by omega) hm
   have hlt:i < c:=by omega
   have hs':SS (if r=1 then l++[i] else l):=by
    split
    ·exact ss_snoc hs fun x hx=>(hl x hx).2.1
    ·exact hs
   have hl':∀ x∈(if r=1 then l++[i] else l),0≤x∧x < i+1∧x < c:=by
    intro x hx
    split at hx
    ·rcases List.mem_append.1 hx with hx | hx
     ·have:=hl x hx;omega
     ·have hx:x=i:=by simpa using hx
      omega
    ·have:=hl x hx;omega
   obtain ⟨m',l',g1,g2,g3,g4⟩:=condRun hL hc k (i:=i+1) (n:=n+1) (by omega) (by omega) ho (by omega) hs' hl'
   exact ⟨m',l',.step hlt hp g1,⟨g2.l,g2.a0,by have:=g2.a1;omega⟩,g3,g4⟩
theorem rx_eta (x:zf):({ Kind:=x.Kind,Set:={ e0:=x.Set.e0,e1:=x.Set.e1,e2:=x.Set.e2,e3:=x.Set.e3 },Lo:=x.Lo,Hi:=x.Hi,Kids:=x.Kids }:zf)=x:=by cases x;rfl
theorem rule_ok {L:List Int} {n c:Int} {m:ze} (hL:LOk L) (hc0:1≤c) (hc:c≤3) (hn:n < 80000) (plain:Bool) (hm:MS L n m) :
 ∃ r o,zbI c plain m r o∧FitRule c r∧MS L (n+200) o∧(plain=true→r.Bol=false∧r.Trail=zRx):=by
 obtain ⟨r0,o,p0,p1,hp,ho⟩:=pickS (k:=3) hL (by omega) (by omega) hm
 have hw1:w64 (1+r0)=1+r0:=zan (by omega) (by omega)
 obtain ⟨to,m1,ht0,ht1,hm1,hto,s1⟩:∃ to m1,0≤to∧to < c∧MS L (n+2) m1∧(w64 (1+r0)≠3→to=0)∧∀ J:List Int→Int→Int→Prop,J m1.L m1.At to→
  (((w64 (1+r0) == 3)=true→∃ r0_24:Int,∃ o_24:ze,zq c o r0_24 o_24∧J o_24.L o_24.At r0_24)∧((w64 (1+r0) == 3)=false→J o.L o.At 0)):=by
  by_cases h:w64 (1+r0)=3
  ·obtain ⟨r1,o1,q0,q1,hq,ho1⟩:=pickS (k:=c) hL hc0 (by omega) ho
   exact ⟨r1,o1,q0,q1,⟨ho1.l,ho1.a0,by have:=ho1.a1;omega⟩,fun h'=>absurd h h',fun J hJ=>⟨fun _=>⟨_,_,hq,hJ⟩,fun h'=>by rw [h] at h';cases h'⟩⟩
  ·exact ⟨0,o,by omega,by omega,⟨ho.l,ho.a0,by have:=ho.a1;omega⟩,fun _=>rfl,fun J hJ=>⟨fun h'=>absurd (by simpa using h') h,fun _=>hJ⟩⟩
 obtain ⟨r1,o1,q0,q1,hq,ho1⟩:=pickS (k:=4) (m:={ L:=m1.L,At:=m1.At }) hL (by omega) (by omega) (show MS L (n+2) _ from ⟨hm1.l,hm1.a0,hm1.a1⟩)
 obtain ⟨cs,al,m2,hm2,hcs,hal,s2⟩:∃ cs al m2,MS L (n+6) m2∧(SS cs∧∀ x∈cs,0≤x∧x < c)∧(al=true→cs=[])∧∀ J:List Int→Int→List Int→Bool→Prop,J m2.L m2.At cs al→
  (((r1 == 0)=true→J o1.L o1.At ([]) true)∧((r1 == 0)=false→(((r1 == 1)=true→(∃ (Inv63:List Int→Int→List Int→Int→Prop) (mu64:List Int→Int→List Int→Int→Nat),Inv63 o1.L o1.At ([]) 0∧
    (∀ (a8:List Int) (b8:Int) (c6:List Int) (i_1:Int),Inv63 a8 b8 c6 i_1→(((decide (i_1 < c))=true→(∃ J69:List Int→Int→List Int→Prop,
      (∀ (a10:List Int) (b10:Int) (c8:List Int),J69 a10 b10 c8→(Inv63 a10 b10 c8 (w64 (i_1+1))∧mu64 a10 b10 c8 (w64 (i_1+1)) < mu64 a8 b8 c6 i_1))∧
      (∃ r23:Int,∃ o23:ze,zq 2 ({ L:=a8,At:=b8 }) r23 o23∧(((r23 == 1)=true→((List.length c6+(1:Nat)) * (8:Nat)≤(2:Nat) ^ (47:Nat))∧J69 o23.L o23.At (c6++[i_1]))∧((r23 == 1)=false→J69 o23.L o23.At c6)))))∧
      ((decide (i_1 < c))=false→J a8 b8 c6 false)))))∧((r1 == 1)=false→J o1.L o1.At ([]) false)))):=by
  have hmo:∀ k,n+3≤k→MS L k o1:=fun k hk=>⟨ho1.l,ho1.a0,by have:=ho1.a1;omega⟩
  by_cases h0:r1=0
  ·exact ⟨[],true,o1,hmo _ (by omega),⟨by simp [SS],by simp⟩,fun _=>rfl,fun J hJ=>⟨fun _=>hJ,fun h=>(by simp [h0] at h)⟩⟩
  by_cases h1:r1=1
  ·obtain ⟨m',l',g1,g2,g3,g4⟩:=condRun hL hc c.toNat (i:=0) (l:=[]) (m:={ L:=o1.L,At:=o1.At }) (n:=n+3) (by omega) (by omega) ⟨ho1.l,ho1.a0,by have:=ho1.a1;show o1.At≤_;omega⟩ (by omega) (by simp [SS]) (by simp)
   refine ⟨l',false,m',⟨g2.l,g2.a0,by have:=g2.a1;omega⟩,⟨g3,g4⟩,fun h=>(by cases h),fun J hJ=>⟨fun h=>(by simp [h1] at h),fun _=>⟨fun _=>?_,fun h=>(by simp [h1] at h)⟩⟩⟩
   refine ⟨fun a b l i=>CondRun c { L:=a,At:=b } l i m' l'∧0≤i∧i≤c∧l.length≤i,fun _ _ _ i=>(c - i).toNat,⟨g1,by omega,by omega,by simp⟩,?_⟩
   rintro a b l i ⟨hr,hi0,hi1,hll⟩
   refine ⟨fun ht=>?_,fun ht=>?_⟩
   ·have ht:=of_decide_eq_true ht
    have hw2:w64 (i+1)=i+1:=zan (by omega) (by omega)
    cases hr with
    | done h=>exact absurd ht h
    | @step _ _ _ r o _ _ _ hp hr=>
      refine ⟨fun a' b' l2=>CondRun c { L:=a',At:=b' } l2 (i+1) m' l'∧l2.length≤i+1,fun a' b' l2 h=>?_,r,o,hp,fun h=>⟨by omega,?_⟩,fun h=>?_⟩
      ·rw [hw2];exact ⟨⟨h.1,by omega,by omega,h.2⟩,by first | omega | (dsimp only;omega)⟩
      ·have h:r=1:=by simpa using h
       rw [if_pos h] at hr
       exact ⟨hr,by rw [List.length_append];simp;omega⟩
      ·have h:¬ r=1:=by simpa using h
       rw [if_neg h] at hr
       exact ⟨hr,by omega⟩
   ·have ht:=of_decide_eq_false ht
    cases hr with
    | done h=>exact hJ
    | step h _ _=>exact absurd h ht
  ·exact ⟨[],false,o1,hmo _ (by omega),⟨by simp [SS],by simp⟩,fun h=>(by cases h),fun J hJ=>⟨fun h=>absurd (by simpa using h) h0,fun _=>⟨fun h=>absurd (by simpa using h) h1,fun _=>hJ⟩⟩⟩
 obtain ⟨r2,o2,u0,u1,hu,ho2⟩:=pickS (k:=12) (m:={ L:=m2.L,At:=m2.At }) hL (by omega) (by omega) (show MS L (n+6) _ from ⟨hm2.l,hm2.a0,hm2.a1⟩)
 have fit:∀ r:zw,r.Conds=cs→r.All=al→r.Act=w64 (1+r0)→r.To=to→((r.Eof=true∧r.Bol=false∧r.Rx=zRx∧r.Trail=zRx)∨(r.Eof=false∧Sml r.Rx∧(r.Trail=zRx∨Sml r.Trail)))→FitRule c r:=by
  intro r e1 e2 e3 e4 e5
  exact ⟨by rw [e1];exact hcs,by rw [e1,e2];exact hal,by rw [e3,hw1];omega,by rw [e3,e4];exact ⟨ht0,ht1,hto⟩,e5⟩
 by_cases h11:r2=11
 ·refine ⟨_,_,zdL c plain m _ _ ⟨r0,o,hp,fun L a t=>L=m1.L∧a=m1.At∧t=to,?_,s1 (fun L a t=>L=m1.L∧a=m1.At∧t=to) ⟨rfl,rfl,rfl⟩⟩,fit { Conds:=cs,All:=al,Bol:=false,Rx:=zRx,Trail:=zRx,Eof:=true,Act:=w64 (1+r0),To:=to } rfl rfl rfl rfl (.inl ⟨rfl,rfl,rfl,rfl⟩),(⟨ho2.l,ho2.a0,by have:=ho2.a1;omega⟩:MS L (n+200) o2),fun _=>⟨rfl,rfl⟩⟩
  rintro _ _ _ ⟨rfl,rfl,rfl⟩
  refine ⟨fun L a c' al'=>L=m2.L∧a=m2.At∧c'=cs∧al'=al,?_,r1,o1,hq,s2 (fun L a c' al'=>L=m2.L∧a=m2.At∧c'=cs∧al'=al) ⟨rfl,rfl,rfl,rfl⟩⟩
  rintro _ _ _ _ ⟨rfl,rfl,rfl,rfl⟩
  exact ⟨r2,o2,hu,fun _=>⟨rfl,rfl⟩,fun h=>by simp [h11] at h⟩
 ·obtain ⟨x,o3,hx,hsx,ho3⟩:=small_ok hL (by omega) ho2
  obtain ⟨bol,tr,m4,hm4,htr,hpl,s3⟩:∃ (bol:Bool) (tr:zf) (m4:ze),MS L (n+200) m4∧(tr=zRx∨Sml tr)∧(plain=true→bol=false∧tr=zRx)∧∀ J:List Int→Int→Bool→Int→Int→Int→Int→Int→Int→Int→List zf→Prop,J m4.L m4.At bol tr.Kind tr.Set.e0 tr.Set.e1 tr.Set.e2 tr.Set.e3 tr.Lo tr.Hi tr.Kids→
   (((!plain)=true→(∃ r14:Int,∃ o14:ze,zq 6 o3 r14 o14∧(∃ r15:Int,∃ o15:ze,zq 5 o14 r15 o15∧
     (((r15 == 4)=true→(∃ r16:zf,∃ o16:ze,zaZ o15 r16 o16∧J o16.L o16.At (r14 == 5) r16.Kind r16.Set.e0 r16.Set.e1 r16.Set.e2 r16.Set.e3 r16.Lo r16.Hi r16.Kids))∧((r15 == 4)=false→J o15.L o15.At (r14 == 5) 0 0 0 0 0 0 0 ([]))))))∧
   ((!plain)=false→J o3.L o3.At false 0 0 0 0 0 0 0 ([]))):=by
   cases plain with
   | true=>exact ⟨false,zRx,o3,⟨ho3.l,ho3.a0,by have:=ho3.a1;omega⟩,.inl rfl,fun _=>⟨rfl,rfl⟩,fun J hJ=>⟨fun h=>(by cases h),fun _=>hJ⟩⟩
   | false=>
     obtain ⟨r14,o14,a0,a1,ha,ho14⟩:=pickS (k:=6) hL (by omega) (by omega) ho3
     obtain ⟨r15,o15,b0,b1,hb,ho15⟩:=pickS (k:=5) hL (by omega) (by omega) ho14
     by_cases h4:r15=4
     ·obtain ⟨y,o16,hy,hsy,ho16⟩:=small_ok hL (by omega) ho15
      exact ⟨r14 == 5,y,o16,⟨ho16.l,ho16.a0,by have:=ho16.a1;omega⟩,.inr hsy,fun h=>(by cases h),fun J hJ=>⟨fun _=>⟨r14,o14,ha,r15,o15,hb,fun _=>⟨y,o16,hy,hJ⟩,fun h=>(by simp [h4] at h)⟩,fun h=>(by cases h)⟩⟩
     ·exact ⟨r14 == 5,zRx,o15,⟨ho15.l,ho15.a0,by have:=ho15.a1;omega⟩,.inl rfl,fun h=>(by cases h),fun J hJ=>⟨fun _=>⟨r14,o14,ha,r15,o15,hb,fun h=>absurd (by simpa using h) h4,fun _=>hJ⟩,fun h=>(by cases h)⟩⟩
  refine ⟨_,_,zdL c plain m _ _ ⟨r0,o,hp,fun L a t=>L=m1.L∧a=m1.At∧t=to,?_,s1 (fun L a t=>L=m1.L∧a=m1.At∧t=to) ⟨rfl,rfl,rfl⟩⟩,fit { Conds:=cs,All:=al,Bol:=bol,Rx:=x,Trail:={ Kind:=tr.Kind,Set:={ e0:=tr.Set.e0,e1:=tr.Set.e1,e2:=tr.Set.e2,e3:=tr.Set.e3 },Lo:=tr.Lo,Hi:=tr.Hi,Kids:=tr.Kids },Eof:=false,Act:=w64 (1+r0),To:=to } rfl rfl rfl rfl (.inr ⟨rfl,hsx,?_⟩),(⟨hm4.l,hm4.a0,hm4.a1⟩:MS L (n+200) { L:=m4.L,At:=m4.At }),fun h=>⟨(hpl h).1,?_⟩⟩
  ·rintro _ _ _ ⟨rfl,rfl,rfl⟩
   refine ⟨fun L a c' al'=>L=m2.L∧a=m2.At∧c'=cs∧al'=al,?_,r1,o1,hq,s2 (fun L a c' al'=>L=m2.L∧a=m2.At∧c'=cs∧al'=al) ⟨rfl,rfl,rfl,rfl⟩⟩
   rintro _ _ _ _ ⟨rfl,rfl,rfl,rfl⟩
   refine ⟨r2,o2,hu,fun h=>absurd (by simpa using h) h11,fun _=>⟨x,o3,hx,fun L a b k e0 e1 e2 e3 lo hi ks=>L=m4.L∧a=m4.At∧b=bol∧k=tr.Kind∧e0=tr.Set.e0∧e1=tr.Set.e1∧e2=tr.Set.e2∧e3=tr.Set.e3∧lo=tr.Lo∧hi=tr.Hi∧ks=tr.Kids,?_,s3 (fun L a b k e0 e1 e2 e3 lo hi ks=>L=m4.L∧a=m4.At∧b=bol∧k=tr.Kind∧e0=tr.Set.e0∧e1=tr.Set.e1∧e2=tr.Set.e2∧e3=tr.Set.e3∧lo=tr.Lo∧hi=tr.Hi∧ks=tr.Kids) ⟨rfl,rfl,rfl,rfl,rfl,rfl,rfl,rfl,rfl,rfl,rfl⟩⟩⟩
   rintro _ _ _ _ _ _ _ _ _ _ _ ⟨rfl,rfl,rfl,rfl,rfl,rfl,rfl,rfl,rfl,rfl,rfl⟩
   refine ⟨?_,rfl⟩
   congr 1
   clear hpl htr s3 hm4
   cases tr;rfl
  ·first | exact htr | (rw [rx_eta];exact htr)
  ·first | exact (hpl h).2 | (rw [rx_eta];exact (hpl h).2)
structure FitSpec (s:zr):Prop where
 conds:∃ (n:Nat) (b:Bool),1≤n∧n≤3∧s.Conds=List.take n [{ Name:={ data:=#[(73:UInt8),(78:UInt8),(73:UInt8),(84:UInt8),(73:UInt8),(65:UInt8),(76:UInt8)] },Exclusive:=false },{ Name:={ data:=#[(66:UInt8)] },Exclusive:=b },{ Name:={ data:=#[(67:UInt8),(95:UInt8),(49:UInt8)] },Exclusive:=false }]∧s.Conds.length=n∧∀ r∈s.Rules,FitRule n r
 many:1≤s.Rules.length∧s.Rules.length≤4
inductive RuleRun (c:Int) (plain:Bool):ze→List zw→Int→List zw→Prop where
 | done {m l i}:¬ i > 0→RuleRun c plain m l i l
 | step {m l i r o l'}:i > 0→zbI c plain m r o→RuleRun c plain o (l++[r]) (i - 1) l'→RuleRun c plain m l i l'
theorem ruleRun {L:List Int} (hL:LOk L) {c:Int} (hc0:1≤c) (hc:c≤3) (plain:Bool):∀ (k:Nat) {l:List zw} {n:Int} {m:ze},MS L n m→n+200 * k < 50000→(∀ r∈l,FitRule c r∧(plain=true→r.Bol=false∧r.Trail=zRx))→
 ∃ l',RuleRun c plain m l k l'∧l'.length=l.length+k∧∀ r∈l',FitRule c r∧(plain=true→r.Bol=false∧r.Trail=zRx)
 | 0,l,n,m,hm,hn,hl=>⟨l,.done (by omega),by omega,hl⟩
 | k+1,l,n,m,hm,hn,hl=>by
   obtain ⟨r,o,h1,h2,h3,h4⟩:=rule_ok hL hc0 hc (by omega) plain hm
   obtain ⟨l',g1,g2,g3⟩:=ruleRun hL hc0 hc plain k (l:=l++[r]) h3 (by omega) (fun x hx=>by
    rcases List.mem_append.1 hx with hx | hx
    ·exact hl x hx
    ·obtain rfl:x=r:=by simpa using hx
     exact ⟨h2,h4⟩)
   refine ⟨l',.step (by omega) h1 (by rw [show ((k+1:Nat):Int) - 1=(k:Int) by omega];exact g1),by rw [g2,List.length_append];simp;omega,g3⟩
theorem made6_ok (l:List Int) (hb:Bytes l) (plain:Bool):∃ s,zbJ l plain s∧FitSpec s∧(plain=true→∀ r∈s.Rules,r.Bol=false∧r.Trail=zRx):=by
 obtain ⟨L,hLe⟩:∃ L,L=if l.length > 60 then l.take 60 else l:=⟨_,rfl⟩
 have hL:LOk L:=by
  rw [hLe];split
  ·exact ⟨fun b hb'=>hb b (List.mem_of_mem_take hb'),by simp;omega⟩
  ·exact ⟨hb,by omega⟩
 obtain ⟨r0,o,p0,p1,hp,ho⟩:=pickS (k:=3) (n:=0) (m:={ L:=L,At:=0 }) hL (by omega) (by omega) ⟨rfl,by simp,by simp⟩
 obtain ⟨r1,o1,q0,q1,hq,ho1⟩:=pickS (k:=2) hL (by omega) (by omega) ho
 obtain ⟨r2,o2,u0,u1,hu,ho2⟩:=pickS (k:=3) hL (by omega) (by omega) ho1
 obtain ⟨r3,o3,v0,v1,hv,ho3⟩:=pickS (k:=4) hL (by omega) (by omega) ho2
 have hw1:w64 (1+r0)=1+r0:=zan (by omega) (by omega)
 have hw3:w64 (1+r3)=((1+r3).toNat:Nat):=(zan (by omega) (by omega)).trans (by omega)
 obtain ⟨rs,g1,g2,g3⟩:=ruleRun hL (c:=1+r0) (by omega) (by omega) plain (1+r3).toNat (l:=[]) (m:={ L:=o3.L,At:=o3.At }) (n:=4) ⟨ho3.l,ho3.a0,ho3.a1⟩ (by omega) (by simp)
 refine ⟨{ Conds:=List.take (Int.toNat (w64 (1+r0))) [{ Name:={ data:=#[(73:UInt8),(78:UInt8),(73:UInt8),(84:UInt8),(73:UInt8),(65:UInt8),(76:UInt8)] },Exclusive:=false },{ Name:={ data:=#[(66:UInt8)] },Exclusive:=r1 == 1 },{ Name:={ data:=#[(67:UInt8),(95:UInt8),(49:UInt8)] },Exclusive:=false }],Default:=decide (r2 > 0),Rules:=rs },
  zg4 l plain _ ⟨fun l1=>l1=L,?_,fun h=>⟨⟨by omega,?_,fits_u8 l⟩,?_⟩,fun h=>?_⟩,⟨⟨(1+r0).toNat,r1 == 1,by omega,by omega,by rw [hw1],?_,fun r hr=>?_⟩,?_⟩,fun h r hr=>(g3 r hr).2 h⟩
 ·rintro l1 rfl
  refine ⟨r0,o,hp,r1,o1,hq,⟨by omega,by omega⟩,r2,o2,hu,r3,o3,hv,fun ls i a b=>RuleRun (1+r0) plain { L:=a,At:=b } ls i rs∧i≤4∧ls.length+i≤4,fun _ i _ _=>i.toNat,⟨?_,by omega,by rw [hw3];simp;omega⟩,?_⟩
  ·rw [hw3];exact g1
  ·rintro ls i a b ⟨hr,hi,hll⟩
   refine ⟨fun ht=>?_,fun ht=>?_⟩
   ·have ht:=of_decide_eq_true ht
    have hw2:w64 (i - 1)=i - 1:=zan (by omega) (by omega)
    cases hr with
    | done h=>exact absurd ht h
    | @step _ _ _ r o _ _ hp hr=>
      rw [hw1,hw2]
      exact ⟨r,o,hp,by omega,⟨hr,by omega,by rw [List.length_append];simp;omega⟩,by first | omega | (dsimp only;omega)⟩
   ·have ht:=of_decide_eq_false ht
    cases hr with
    | done h=>rfl
    | step h _ _=>exact absurd h ht
 ·have h:(l.length:Int) > 60:=by simpa using h
  show 60≤_;omega
 ·have h:(l.length:Int) > 60:=by simpa using h
  rw [hLe,if_pos (by omega)];rfl
 ·have h:¬ (l.length:Int) > 60:=by simpa using h
  rw [hLe,if_neg (by omega)]
 ·rw [hw1,List.length_take];simp;omega
 ·have:=(g3 r hr).1
  rwa [show (((1+r0).toNat:Nat):Int)=1+r0 by omega]
 ·have:rs.length=(1+r3).toNat:=by simpa using g2
  show 1≤rs.length∧rs.length≤4
  omega
end Go.Ev.Pl
namespace Go.Ev.Pl
open Go Go.Ev
def activeB (s:zr) (i c:Nat):Bool:=
 if (s.Rules.getD i default).All=true then true else if (s.Rules.getD i default).Conds.contains (c:Int)=true then true else
  if (s.Rules.getD i default).Conds.length=0 then !(s.Conds.getD c default).Exclusive else false
theorem lt_cast {i n:Nat}:decide ((i:Int) < (n:Int))=decide (i < n):=by simp only [decide_eq_decide];omega
theorem active_ok (s:zr) {i c:Nat} (hi:i < s.Rules.length) (hc:c < s.Conds.length) (hr:s.Rules.length < 1000000) (hcl:s.Conds.length < 1000000) (hl:(s.Rules.getD i default).Conds.length < 1000000):zdi s i c (activeB s i c):=by
 refine W_spec_Active s i c _ ?_
 simp only [List.length_map]
 have hg:gd s.Rules (i:Int)=s.Rules.getD i default:=by rw [za7 hi];simp [List.getD,hi]
 have hgc:gd s.Conds (c:Int)=s.Conds.getD c default:=by rw [za7 hc];simp [List.getD,hc]
 rw [hg,hgc]
 refine ⟨fun h=>?_,fun _=>⟨by omega,by omega,fun h=>?_,fun h=>⟨_,zjm _ _ (by omega) _ List.contains_iff_mem,fun h2=>?_,fun h2=>⟨fun h3=>⟨fun _ _ _=>by omega,fun _ _ _=>by omega,?_⟩,fun h3=>?_⟩⟩⟩⟩
 ·simp only [Bool.or_eq_true,decide_eq_true_eq] at h;omega
 ·unfold activeB;rw [if_pos h]
 ·unfold activeB;rw [if_neg (by rw [h];simp),if_pos h2]
 ·unfold activeB;rw [if_neg (by rw [h];simp),if_neg (by rw [h2];simp)]
  have:(s.Rules.getD i default).Conds.length=0:=by simpa using h3
  rw [if_pos this]
 ·unfold activeB;rw [if_neg (by rw [h];simp),if_neg (by rw [h2];simp)]
  have:¬ (s.Rules.getD i default).Conds.length=0:=by simpa using h3
  rw [if_neg this]
end Go.Ev.Pl
namespace Go.Ev
open Go Go.RowKit
variable {P : Program}
section
variable {R : Type}
def fNat (n:Nat) (k:Nat→R):R:=match n with
 | .zero=>k 0
 | .succ n=>k (.succ n)
theorem zeX (n:Nat) (k:Nat→R):fNat n k=k n:=by cases n<;>rfl
def fInt (n:Int) (k:Int→R):R:=match n with
 | .ofNat n=>fNat n fun n=>k (.ofNat n)
 | .negSucc n=>fNat n fun n=>k (.negSucc n)
theorem fInt_eq (n:Int) (k:Int→R):fInt n k=k n:=by cases n<;>simp [fInt,zeX]
def fBo (b:Bool) (k:Bool→R):R:=match b with
 | true=>k true
 | false=>k false
theorem fBo_eq (b:Bool) (k:Bool→R):fBo b k=k b:=by cases b<;>rfl
def fVal (v:Value) (k:Value→R):R:=match v with
 | .int q n=>fInt n fun n=>k (.int q n)
 | .bool b=>fBo b fun b=>k (.bool b)
 | v=>k v
theorem fVal_eq (v:Value) (k:Value→R):fVal v k=k v:=by
 unfold fVal
 split
 ·exact fInt_eq _ _
 ·exact fBo_eq _ _
 ·rfl
def fList {α:Type} (f:α→(α→R)→R):List α→(List α→R)→R
 | [],k=>k []
 | a :: l,k=>f a fun a=>fList f l fun l=>k (a :: l)
theorem zcS {α:Type} {f:α→(α→R)→R} (h:∀ a k,f a k=k a):∀ (l:List α) (k:List α→R),fList f l k=k l
 | [],k=>rfl
 | a :: l,k=>by rw [fList,h,zcS h l]
def fFV:Nat→FV→(FV→R)→R
 | 0,x,k=>k x
 | n+1,x,k=>match x with
   | .pv v=>fVal v fun v=>k (.pv v)
   | .agg l=>fList (fFV n) l fun l=>k (.agg l)
   | .sl l=>fList (fFV n) l fun l=>k (.sl l)
theorem fFV_eq:∀ (n:Nat) (x:FV) (k:FV→R),fFV n x k=k x
 | 0,x,k=>rfl
 | n+1,x,k=>by
   unfold fFV
   cases x with
   | pv v=>exact fVal_eq _ _
   | agg l=>exact zcS (fFV_eq n) _ _
   | sl l=>exact zcS (fFV_eq n) _ _
def fAV:Nat→AV→(AV→R)→R
 | 0,x,k=>k x
 | n+1,x,k=>match x with
   | .bad=>k .bad
   | .f x=>fFV 1 x fun x=>k (.f x)
   | .ptr b o=>fNat b fun b=>fNat o fun o=>k (.ptr b o)
   | .fp x o=>fNat o fun o=>k (.fp x o)
   | .ep b o i c=>fNat b fun b=>fNat o fun o=>fNat i fun i=>fNat c fun c=>k (.ep b o i c)
   | .rf b o i c=>fNat b fun b=>fNat o fun o=>fNat i fun i=>fNat c fun c=>k (.rf b o i c)
   | .own E l=>fList (fFV 1) l fun l=>k (.own E l)
   | .clo g l=>fList (fAV n) l fun l=>k (.clo g l)
   | .agg l=>fList (fAV n) l fun l=>k (.agg l)
   | .tup l=>fList (fAV n) l fun l=>k (.tup l)
   | .ln n=>fNat n fun n=>k (.ln n)
theorem zhN:∀ (n:Nat) (x:AV) (k:AV→R),fAV n x k=k x
 | 0,x,k=>rfl
 | n+1,x,k=>by
   unfold fAV
   cases x with
   | bad=>rfl
   | f x=>exact fFV_eq _ _ _
   | ptr b o=>simp only [zeX]
   | fp x o=>simp only [zeX,fFV_eq]
   | ep b o i c=>simp only [zeX]
   | rf b o i c=>simp only [zeX]
   | own E l=>exact zcS (fFV_eq _) _ _
   | clo g l=>exact zcS (zhN n) _ _
   | agg l=>exact zcS (zhN n) _ _
   | tup l=>exact zcS (zhN n) _ _
   | ln n=>simp only [zeX]
def sLf (x:AV) (k:AV→R):R:=match x with
 | .bad=>k .bad
 | .f x=>k (.f x)
 | .ptr b o=>k (.ptr b o)
 | .fp x o=>k (.fp x o)
 | .ep b o i c=>k (.ep b o i c)
 | .rf b o i c=>k (.rf b o i c)
 | .own E l=>k (.own E l)
 | .clo g l=>k (.clo g l)
 | .agg l=>k (.agg l)
 | .tup l=>k (.tup l)
 | .ln n=>k (.ln n)
theorem sLf_eq (x:AV) (k:AV→R):sLf x k=k x:=by cases x<;>rfl
def sAV (x:AV) (k:AV→R):R:=match x with
 | .bad=>k .bad
 | .f x=>k (.f x)
 | .ptr b o=>k (.ptr b o)
 | .fp x o=>k (.fp x o)
 | .ep b o i c=>k (.ep b o i c)
 | .rf b o i c=>k (.rf b o i c)
 | .own E l=>k (.own E l)
 | .clo g l=>k (.clo g l)
 | .agg l=>fList sLf l fun l=>k (.agg l)
 | .tup l=>fList (fAV 5) l fun l=>k (.tup l)
 | .ln n=>k (.ln n)
theorem sAV_eq (x:AV) (k:AV→R):sAV x k=k x:=by
 cases x with
 | agg l=>exact zcS sLf_eq _ _
 | tup l=>exact zcS (zhN 5) _ _
 | _=>rfl
def fSta (f:AV→(AV→R)→R):Sta→(Sta→R)→R
 | [],k=>k []
 | (b,v) :: r,k=>fNat b fun b=>f v fun v=>fSta f r fun r=>k ((b,v) :: r)
theorem zhk {f:AV→(AV→R)→R} (h:∀ a k,f a k=k a):∀ (G:Sta) (k:Sta→R),fSta f G k=k G
 | [],k=>rfl
 | (b,v) :: r,k=>by rw [fSta,zeX,h,zhk h r]
def fUp (u:Up) (k:Up→R):R:=match u with
 | .set b v=>fNat b fun b=>fAV 5 v fun v=>k (.set b v)
 | .put b v=>fNat b fun b=>fAV 5 v fun v=>k (.put b v)
 | .leaf b o v=>fNat b fun b=>fNat o fun o=>fAV 5 v fun v=>k (.leaf b o v)
 | .upo b o v=>fNat b fun b=>fNat o fun o=>fAV 5 v fun v=>k (.upo b o v)
 | .frz b o=>fNat b fun b=>fNat o fun o=>k (.frz b o)
 | .newbox b v=>fNat b fun b=>fAV 5 v fun v=>k (.newbox b v)
theorem fUp_eq (u:Up) (k:Up→R):fUp u k=k u:=by
 cases u<;>simp only [fUp,zeX,zhN]
end
section
variable {R : Type}
noncomputable def getX (G:Sta) (b:Nat):Option AV:=List.rec none (fun p _ ih=>match p with
 | (a,x)=>match Nat.beq a b with
   | true=>some x
   | false=>ih) G
theorem zhi (b:Nat):∀ G:Sta,getX G b=get G b
 | []=>rfl
 | (a,x) :: r=>by
   change (match Nat.beq a b with
    | true=>some x
    | false=>getX r b)=if b=a then some x else get r b
   rw [zhi b r]
   cases h:Nat.beq a b with
   | true=>rw [if_pos (Nat.eq_of_beq_eq_true h).symm]
   | false=>rw [if_neg (fun e=>by rw [e] at h;simp at h)]
noncomputable def lookX (G:Sta) (b:Nat):Option Nat→Option AV
 | none=>getX G b
 | some o=>match getX G b with
   | some v=>(v.leaves[o]?).filter AV.isLeaf
   | none=>none
theorem lookX_eq (b:Nat) (o:Option Nat) (G:Sta):lookX G b o=look G b o:=by
 cases o with
 | none=>exact zhi b G
 | some o=>
   simp only [lookX,look,zhi]
   cases get G b<;>rfl
def nv0 (b:Nat) (x:AV):Bool:=match x with
 | .rf c _ _ _=>!Nat.beq c b
 | .ep c _ _ _=>!Nat.beq c b
 | .agg _=>false
 | .tup _=>false
 | _=>true
noncomputable def nvL (b:Nat) (l:List AV):Bool:=List.rec true (fun x _ ih=>match nv0 b x with
 | true=>ih
 | false=>false) l
noncomputable def nv1 (b:Nat) (x:AV):Bool:=match x with
 | .agg l=>nvL b l
 | .tup _=>false
 | x=>nv0 b x
noncomputable def noV (b:Nat) (G:Sta):Bool:=List.rec true (fun p _ ih=>match nv1 b p.2 with
 | true=>ih
 | false=>false) G
theorem nv0_eq {b:Nat} {x:AV} (h:nv0 b x=true) (o:Option Nat):killr b o x=x:=by
 cases x with
 | rf c _ _ _=>
   simp only [nv0,Bool.not_eq_true'] at h
   simp only [killr];rw [if_neg];rintro ⟨e,_⟩;rw [e] at h;simp at h
 | ep c _ _ _=>
   simp only [nv0,Bool.not_eq_true'] at h
   simp only [killr];rw [if_neg];rintro ⟨e,_⟩;rw [e] at h;simp at h
 | _=>rfl
theorem nvL_eq {b:Nat} (o:Option Nat):∀ {l:List AV},nvL b l=true→l.map (killr b o)=l
 | [],_=>rfl
 | x :: r,h=>by
   change (match nv0 b x with
    | true=>nvL b r
    | false=>false)=true at h
   split at h
   ·rename_i hx;rw [List.map_cons,nv0_eq hx,nvL_eq o h]
   ·cases h
theorem nv1_eq {b:Nat} {x:AV} (h:nv1 b x=true) (o:Option Nat):AV.map2 (killr b o) x=x:=by
 cases x with
 | agg l=>show AV.agg (l.map _)=_;rw [nvL_eq o h]
 | tup l=>cases h
 | bad=>rfl
 | f x=>rfl
 | ptr c p=>rfl
 | fp x p=>rfl
 | ep c p i d=>exact nv0_eq (x:=.ep c p i d) h o
 | rf c p i d=>exact nv0_eq (x:=.rf c p i d) h o
 | own E l=>rfl
 | clo g l=>rfl
 | ln n=>rfl
theorem noV_eq {b:Nat} (o:Option Nat):∀ {G:Sta},noV b G=true→mapv (AV.map2 (killr b o)) G=G
 | [],_=>rfl
 | (a,x) :: r,h=>by
   change (match nv1 b x with
    | true=>noV b r
    | false=>false)=true at h
   split at h
   ·rename_i hx;rw [mapv,nv1_eq hx,noV_eq o h]
   ·cases h
noncomputable def insX (b:Nat) (v:AV) (G:Sta):(Sta→R)→R:=List.rec (fun k=>k [(b,v)]) (fun p r ih k=>match Nat.beq p.1 b with
 | true=>k ((b,v) :: r)
 | false=>match Nat.blt b p.1 with
   | true=>k ((b,v) :: p :: r)
   | false=>ih fun m=>k (p :: m)) G
theorem insX_eq (b:Nat) (v:AV):∀ (G:Sta) (k:Sta→R),insX b v G k=k (ins b v G)
 | [],k=>rfl
 | (a,x) :: r,k=>by
   change (match Nat.beq a b with
    | true=>k ((b,v) :: r)
    | false=>match Nat.blt b a with
      | true=>k ((b,v) :: (a,x) :: r)
      | false=>insX b v r fun m=>k ((a,x) :: m))=k (if b < a then (b,v) :: (a,x) :: r else if b=a then (b,v) :: r else (a,x) :: ins b v r)
   rw [insX_eq b v r]
   cases h:Nat.beq a b with
   | true=>
     have:=Nat.eq_of_beq_eq_true h
     rw [if_neg (by omega),if_pos this.symm]
   | false=>
     have hne:b≠a:=fun e=>by rw [e] at h;simp at h
     cases h2:Nat.blt b a with
     | true=>
       rw [if_pos (by simpa [Nat.blt_eq] using h2)]
     | false=>
       rw [if_neg (fun e=>by rw [show Nat.blt b a=true from by simpa [Nat.blt_eq] using e] at h2;cases h2),if_neg hne]
noncomputable def updX (b:Nat) (g:AV→AV) (G:Sta):(Sta→R)→R:=List.rec (fun k=>k []) (fun p r ih k=>match Nat.beq p.1 b with
 | true=>sAV (g p.2) fun x=>k ((p.1,x) :: r)
 | false=>ih fun m=>k (p :: m)) G
theorem ziu (b:Nat) (g:AV→AV):∀ (G:Sta) (k:Sta→R),updX b g G k=k (upd b g G)
 | [],k=>rfl
 | (a,x) :: r,k=>by
   change (match Nat.beq a b with
    | true=>sAV (g x) fun x=>k ((a,x) :: r)
    | false=>updX b g r fun m=>k ((a,x) :: m))=k (if b=a then (a,g x) :: r else (a,x) :: upd b g r)
   rw [ziu b g r,sAV_eq]
   cases h:Nat.beq a b with
   | true=>rw [if_pos (Nat.eq_of_beq_eq_true h).symm]
   | false=>rw [if_neg (fun e=>by rw [e] at h;simp at h)]
noncomputable def appX (u:Up) (G:Sta) (k:Sta→R):R:=match u with
 | .set b v=>match noV b G with
   | true=>insX b v G k
   | false=>fSta sAV ((Up.set b v).app G) k
 | .put b v=>match noV b G with
   | true=>updX b (putV v) G k
   | false=>fSta sAV ((Up.put b v).app G) k
 | .leaf b o v=>match noV b G with
   | true=>updX b (setLeaf o v) G k
   | false=>fSta sAV ((Up.leaf b o v).app G) k
 | .upo b o v=>updX b (setLeaf o v) G k
 | .frz b o=>updX b (mapLeaf o Ev.frz) G k
 | .newbox b v=>fSta sAV ((Up.newbox b v).app G) k
theorem appX_eq (u:Up) (G:Sta) (k:Sta→R):appX u G k=k (u.app G):=by
 cases u with
 | set b v=>
   simp only [appX]
   split
   ·rename_i h;rw [insX_eq,Up.app,noV_eq none h]
   ·rw [zhk sAV_eq]
 | put b v=>
   simp only [appX]
   split
   ·rename_i h;rw [ziu,Up.app,noV_eq none h]
   ·rw [zhk sAV_eq]
 | leaf b o v=>
   simp only [appX]
   split
   ·rename_i h;rw [ziu,Up.app,noV_eq (some o) h]
   ·rw [zhk sAV_eq]
 | upo b o v=>simp only [appX,ziu,Up.app]
 | frz b o=>simp only [appX,ziu,Up.app]
 | newbox b v=>simp only [appX,zhk sAV_eq]
noncomputable def appsX (U:List Up) (G:Sta) (k:List Up→Sta→R):R:=List.rec (fun G k=>k [] G) (fun u _ ih G k=>fUp u fun u=>appX u G fun G=>ih G fun U G=>k (u :: U) G) U G k
theorem appsX_eq:∀ (U:List Up) (G:Sta) (k:List Up→Sta→R),appsX U G k=k U (app U G)
 | [],G,k=>rfl
 | u :: r,G,k=>by
   change (fUp u fun u=>appX u G fun G=>appsX r G fun U G=>k (u :: U) G)=_
   rw [fUp_eq,appX_eq,appsX_eq r];rfl
noncomputable def dropX (mask:Nat) (G:Sta):(Sta→R)→R:=List.rec (fun k=>k []) (fun p _ ih k=>match Nat.beq (Nat.mod p.1 3) 1 with
 | false=>ih fun m=>k (p :: m)
 | true=>match Nat.beq (Nat.land (Nat.shiftRight mask (Nat.div p.1 3)) 1) 0 with
   | true=>ih k
   | false=>ih fun m=>k (p :: m)) G
def deadB (mask:Nat) (b:Nat):Bool:=match Nat.beq (Nat.mod b 3) 1 with
 | false=>false
 | true=>Nat.beq (Nat.land (Nat.shiftRight mask (Nat.div b 3)) 1) 0
theorem dropX_eq (mask:Nat):∀ (G:Sta) (k:Sta→R),dropX mask G k=k (dropN (deadB mask) G)
 | [],k=>rfl
 | (a,x) :: r,k=>by
   change (match Nat.beq (Nat.mod a 3) 1 with
    | false=>dropX mask r fun m=>k ((a,x) :: m)
    | true=>match Nat.beq (Nat.land (Nat.shiftRight mask (Nat.div a 3)) 1) 0 with
      | true=>dropX mask r k
      | false=>dropX mask r fun m=>k ((a,x) :: m))=_
   simp only [dropX_eq mask r,dropN]
   cases h1:Nat.beq (Nat.mod a 3) 1 with
   | false=>
     rw [if_neg (by simp [deadB,h1])]
   | true=>
     cases h2:Nat.beq (Nat.land (Nat.shiftRight mask (Nat.div a 3)) 1) 0 with
     | true=>rw [if_pos (by simp only [deadB,h1,h2])]
     | false=>rw [if_neg (by simp only [deadB,h1,h2];simp)]
end
abbrev Kw:=FuncId→List AV→List AV→Option (AV×List AV)
abbrev ExR:=Option (Ex×Sta)
noncomputable def RM.ex (C:Kw) (G:Sta) (m:RM):List Acc→Option (List Up×List Acc):=
 RM.rec (motive:=fun _=>List Acc→Option (List Up×List Acc)) (fun U T=>some (U,T)) (fun _=>none)
  (fun b o _ ih T=>match lookX G b o with
    | some v=>match v.ok with
      | true=>ih v (T++accOf b o :: v.refs)
      | false=>none
    | none=>none)
  (fun b _ ih T=>match getX G b with
    | some v=>ih v.leaves.length (T++[.id b])
    | none=>none)
  (fun g args outs _ ih T=>match C g args outs with
    | some (r,o)=>ih r o T
    | none=>none) m
theorem ex_ret {C:Kw} {G:Sta} {U:List Up} {T:List Acc}:RM.ex C G (.ret U) T=some (U,T):=rfl
theorem ex_ask {C:Kw} {G:Sta} {b:Nat} {o:Option Nat} {k:AV→RM} {T:List Acc}:RM.ex C G (.ask b o k) T=match look G b o with
 | some v=>match v.ok with
   | true=>(k v).ex C G (T++accOf b o :: v.refs)
   | false=>none
 | none=>none:=by rw [← lookX_eq];rfl
theorem zjb {C:Kw} {G:Sta} {b:Nat} {k:Nat→RM} {T:List Acc}:RM.ex C G (.peek b k) T=match get G b with
 | some v=>(k v.leaves.length).ex C G (T++[.id b])
 | none=>none:=by rw [← zhi];rfl
theorem zjc {C:Kw} {G:Sta} {g:FuncId} {args outs:List AV} {k:AV→List AV→RM} {T:List Acc}:RM.ex C G (.call g args outs k) T=match C g args outs with
 | some (r,o)=>(k r o).ex C G T
 | none=>none:=rfl
def KwOk (P:Program) (C:Kw):Prop:=∀ g args outs r o,C g args outs=some (r,o)→CallE P g args outs r o
theorem RM.ex_wp {C:Kw} {G:Sta} (hC:KwOk P C):∀ (m:RM) {T:List Acc} {U:List Up} {T':List Acc} {K:List Up→List Acc→Prop},m.ex C G T=some (U,T')→K U T'→m.wp (CallE P) G T K
 | .ret U,T,U',T',K,h,hk=>by simp only [ex_ret,Option.some.injEq,Prod.mk.injEq] at h;obtain ⟨rfl,rfl⟩:=h;exact hk
 | .fail,T,U',T',K,h,hk=>by cases h
 | .ask b o k,T,U',T',K,h,hk=>by
   simp only [ex_ask,zjb,zjc] at h
   split at h
   ·rename_i v hv
    split at h
    ·rename_i hok;exact ⟨v,hv,hok,RM.ex_wp hC _ h hk⟩
    ·cases h
   ·cases h
 | .peek b k,T,U',T',K,h,hk=>by
   simp only [ex_ask,zjb,zjc] at h
   split at h
   ·rename_i v hv;exact ⟨v,hv,RM.ex_wp hC _ h hk⟩
   ·cases h
 | .call g args outs k,T,U',T',K,h,hk=>by
   simp only [ex_ask,zjb,zjc] at h
   split at h
   ·rename_i r o hr;exact ⟨r,o,hC _ _ _ _ _ hr,RM.ex_wp hC _ h hk⟩
   ·cases h
noncomputable def exOps (C:Kw) (c:Cfg) (ops:Array Oper) (draw:Bool) (K:List Lg→Sta→ExR):List Oper→Nat→List Lg→Sta→ExR
 | [],_,log,G=>K log G
 | o :: r,i,log,G=>match (guardRM c ops o).ex C G [] with
   | some (U,T)=>appsX U G fun U G'=>exOps C c ops draw K r (i+1) (match draw with | true=>log++[⟨i,T++Ups.refs U,Ups.writes U⟩] | false=>[]) G'
   | none=>none
theorem zj7 {C:Kw} {c:Cfg} {ops:Array Oper} {draw:Bool} {K:List Lg→Sta→ExR} (hC:KwOk P C):∀ (r:List Oper) {p:List Oper} {log:List Lg} {G:Sta} {z:Ex×Sta},ops.toList=p++r→exOps C c ops draw K r p.length log G=some z→
 ∃ es G' log',es.map (·.i)=List.range' p.length r.length∧Runs (CallE P) (stepRM c ops) es G G'∧K log' G'=some z∧(draw=true→log'=log++es.map Ent.lg)
 | [],p,log,G,z,hp,h=>⟨[],G,log,rfl,rfl,h,fun _=>by simp⟩
 | o :: r,p,log,G,z,hp,h=>by
   have hop:ops[p.length]?=some o:=by
    rw [← Array.getElem?_toList,hp,List.getElem?_append_right (Nat.le_refl _)];simp
   unfold exOps at h
   split at h
   ·rename_i U T h1
    rw [appsX_eq] at h
    have hl:(p++[o]).length=p.length+1:=by simp
    rw [← hl] at h
    obtain ⟨es,G',log',e1,e2,e3,e4⟩:=zj7 hC r (p:=p++[o]) (by rw [hp];simp) h
    refine ⟨⟨p.length,U,T⟩ :: es,G',log',by simp [e1,List.range'_succ],⟨?_,e2⟩,e3,fun hd=>?_⟩
    ·rw [zfe hop]
     exact RM.ex_wp hC _ h1 ⟨rfl,rfl⟩
    ·rw [e4 hd];subst hd;simp [Ent.lg,Ent.reads]
   ·cases h
noncomputable def exReg (C:Kw) (c:Cfg) (mk:Nat) (ops:Array Oper) (draw:Bool) (G:Sta):ExR:=
 exOps C c ops draw (fun log G'=>match draw with
  | true=>match topo ops && (ancOk ops (tabOf ops) && logOk (tabOf ops) log) with
    | true=>dropX mk G' fun G'=>some (.normal,G')
    | false=>none
  | false=>dropX mk G' fun G'=>some (.normal,G')) ops.toList 0 [] G
theorem exReg_sem {C:Kw} {c:Cfg} (hc:COk P c) (hC:KwOk P C) {id:Nat} {ops:Array Oper} {draw:Bool} {G:Sta} {e:Ex} {G':Sta} {K:Ex→Sta→Prop} {mk:Nat} (h:exReg C c mk ops draw G=some (e,G')) (hk:K e G'):Sem P c (.region id ops draw) G K:=by
 intro own a w F n Q hF s hQ
 obtain ⟨es,G1,log,e1,e2,e3,e4⟩:=zj7 (P:=P) hC (p:=[]) _ rfl h
 have hd:e=.normal∧dropN (deadB mk) G1=G'∧(draw=true→topo ops=true∧ancOk ops (tabOf ops)=true∧logOk (tabOf ops) log=true):=by
  cases draw with
  | true=>
    dsimp only at e3
    split at e3
    ·rename_i hb
     simp only [Bool.and_eq_true] at hb
     simp only [dropX_eq,Option.some.injEq,Prod.mk.injEq] at e3
     exact ⟨e3.1.symm,e3.2,fun _=>hb⟩
    ·cases e3
  | false=>
    simp only [dropX_eq,Option.some.injEq,Prod.mk.injEq] at e3
    exact ⟨e3.1.symm,e3.2,fun h=>by cases h⟩
 obtain ⟨rfl,rfl,hd⟩:=hd
 have e1:es.map (·.i)=List.range ops.size:=by rw [e1,List.range_eq_range'];simp
 have hlt:∀ x∈es,x.i < ops.size:=fun x hx=>by
  have:x.i∈es.map (·.i):=List.mem_map.2 ⟨x,hx,rfl⟩
  rw [e1] at this;exact List.mem_range.1 this
 have fin:∀ own' a' w',St P c.nt G1 own' a' w'→Tr own w own' w'→a'.defers=a.defers→Q .normal a' w':=fun own' a' w' s' t' d'=>hQ .normal _ own' a' w' hk (s'.drop _) t' (.same d')
 cases draw with
 | true=>
   obtain ⟨htopo,htab,hlog⟩:=hd rfl
   obtain ⟨s1,t1⟩:=s.drawn (w.drawn+1)
   refine wpIn_region_any hc.ro ?_
   refine runs_any hc.cfg hc.ip (fun _ _ _ _ _ h=>h) hF.1 htopo ops.size es (by have:=congrArg List.length e1;simp at this;omega) (by simp) ?_ ?_ hlt (by rw [e1];exact List.pairwise_lt_range) (zfU htopo htab hlt (by rw [e4 rfl,List.nil_append] at hlog;exact hlog)) s1 e2
    (fun own' a' w' s' t' d'=>fin own' a' w' s' (t1.trans t') d')
   ·intro i o ho hl
    have hi:=(Array.getElem?_eq_some_iff.1 ho).1
    simp [Array.getD_eq_getD_getElem?,hi] at hl
   ·intro i hi
    rw [e1];simp [Array.getD_eq_getD_getElem?,hi]
 | false=>
   refine wpIn_region ?_
   rw [← e1]
   exact ziA hc.cfg hc.ip (fun _ _ _ _ _ h=>h) hF.1 es s e2 fin
noncomputable def condB (x:Operand) (G:Sta):Option Bool:=match x with
 | .tmp t=>match getX G (tb t) with
   | some (.f (.pv (.bool b)))=>some b
   | _=>none
 | .const (.bool b)=>some b
 | _=>none
noncomputable def exStep (c:Cfg) (mk:Nat) (C:Kw) (ih:Code→Sta→ExR) (x:Code) (G:Sta):ExR:=
 match x with
 | .skip=>some (.normal,G)
 | .region _ ops draw=>exReg C c mk ops draw G
 | .seq x y=>match ih x G with
   | some (.normal,G')=>ih y G'
   | r=>r
 | .cond b x y=>match condB b G with
   | some true=>ih x G
   | some false=>ih y G
   | none=>none
 | .block id x=>match ih x G with
   | some (.exit j,G')=>match Nat.beq j id with
     | true=>some (.normal,G')
     | false=>some (.exit j,G')
   | r=>r
 | .loop x=>match ih x G with
   | some (.normal,G')=>ih (.loop x) G'
   | r=>r
 | .exit id=>some (.exit id,G)
 | .ret=>some (.ret,G)
 | .label _=>some (.normal,G)
 | _=>none
noncomputable def exC (c:Cfg) (mk:Nat) (C:Kw) (n:Nat):Code→Sta→ExR:=Nat.rec (fun _ _=>none) (fun _ ih=>exStep c mk C ih) n
theorem exC_sem {C:Kw} {c:Cfg} {mk:Nat} (hc:COk P c) (hC:KwOk P C):∀ (n:Nat) (m:Nat) (x:Code) {G:Sta} {e:Ex} {G':Sta} {K:Ex→Sta→Prop},m≤n→exC c mk C m x G=some (e,G')→K e G'→Sem P c x G K
 | _,0,_,_,_,_,_,_,h,_=>by cases h
 | 0,m+1,_,_,_,_,_,hm,_,_=>absurd hm (by omega)
 | n+1,m+1,x,G,e,G',K,hm,h,hk=>by
   have ih:=fun (x:Code) {G:Sta} {e:Ex} {G':Sta} {K:Ex→Sta→Prop} (h:exC c mk C m x G=some (e,G')) (hk:K e G')=>exC_sem hc hC n m x (by omega) h hk
   change exStep c mk C (exC c mk C m) x G=some (e,G') at h
   unfold exStep at h
   split at h
   ·simp only [Option.some.injEq,Prod.mk.injEq] at h;obtain ⟨rfl,rfl⟩:=h;exact Sem.skip Wk.refl hk
   ·exact exReg_sem hc hC h hk
   ·rename_i x y
    split at h
    ·rename_i G1 h1
     exact Sem.seq (ih x h1 (ih y h hk))
    ·rename_i h1
     refine Sem.seq (ih x h ?_)
     cases e with
     | normal=>exact absurd h (h1 _)
     | _=>exact hk
   ·rename_i b x y
    split at h
    ·rename_i hb
     unfold condB at hb
     simp only [zhi] at hb
     split at hb
     ·split at hb
      ·rename_i hg;cases hb
       exact Sem.cond hg (fun _=>ih x h hk) (fun e=>by cases e)
      ·cases hb
     ·cases hb;exact Sem.condc (fun _=>ih x h hk) (fun e=>by cases e)
     ·cases hb
    ·rename_i hb
     unfold condB at hb
     simp only [zhi] at hb
     split at hb
     ·split at hb
      ·rename_i hg;cases hb
       exact Sem.cond hg (fun e=>by cases e) (fun _=>ih y h hk)
      ·cases hb
     ·cases hb;exact Sem.condc (fun e=>by cases e) (fun _=>ih y h hk)
     ·cases hb
    ·cases h
   ·rename_i id x
    refine Sem.block ?_
    split at h
    ·rename_i j G1 h1
     refine ih x h1 ?_
     simp only [blockK]
     split at h
     ·rename_i hj
      simp only [Option.some.injEq,Prod.mk.injEq] at h;obtain ⟨rfl,rfl⟩:=h
      rw [if_pos (Nat.eq_of_beq_eq_true hj)];exact hk
     ·rename_i hj
      simp only [Option.some.injEq,Prod.mk.injEq] at h;obtain ⟨rfl,rfl⟩:=h
      rw [if_neg (fun e=>by rw [e] at hj;simp at hj)];exact hk
    ·rename_i h1
     refine ih x h ?_
     cases e with
     | exit j=>exact absurd h (h1 _ _)
     | _=>exact hk
   ·rename_i x
    refine Sem.loop (σ:=Nat×Sta) (fun s=>s.2) (fun s=>s.1≤m+1∧exC c mk C s.1 (.loop x) s.2=some (e,G')) (fun s=>s.1) (m+1,G) Wk.refl ⟨Nat.le_refl _,h⟩ ?_
    rintro ⟨k,S⟩ ⟨hk1,hk2⟩
    cases k with
    | zero=>cases hk2
    | succ k=>
      dsimp only at hk1 hk2 ⊢
      change (match exC c mk C k x S with
       | some (.normal,G')=>exC c mk C k (.loop x) G'
       | r=>r)=some (e,G') at hk2
      split at hk2
      ·rename_i G1 h1
       exact exC_sem hc hC n k x (by omega) h1 ⟨(k,G1),Wk.refl,⟨by show k≤m+1;omega,hk2⟩,Nat.lt_succ_self _⟩
      ·rename_i h1
       refine exC_sem hc hC n k x (by omega) hk2 ?_
       cases e with
       | normal=>exact absurd hk2 (h1 _)
       | _=>exact hk
   ·simp only [Option.some.injEq,Prod.mk.injEq] at h;obtain ⟨rfl,rfl⟩:=h;exact Sem.exit Wk.refl hk
   ·simp only [Option.some.injEq,Prod.mk.injEq] at h;obtain ⟨rfl,rfl⟩:=h;exact Sem.ret Wk.refl hk
   ·simp only [Option.some.injEq,Prod.mk.injEq] at h;obtain ⟨rfl,rfl⟩:=h;exact Sem.label Wk.refl hk
   ·cases h
def noK:Kw:=fun _ _ _=>none
theorem zjW:KwOk P noK:=fun _ _ _ _ _ h=>by cases h
noncomputable def exEnd (c:Cfg) (rs:List ResultVar) (n:Nat) (e:Ex) (G:Sta):Option (AV×List AV):=
 match e with
 | .exit _=>none
 | _=>match (resRM c rs).ex noK G [] with
   | some (.set _ x :: W,_)=>match evOuts n 0 (app W G) with
     | some l=>fAV 5 x fun x=>fList (fAV 5) l fun l=>some (x,l)
     | none=>none
   | _=>none
theorem RM.ex_wq {CE:CEx} {G:Sta}:∀ (m:RM) {T:List Acc} {U:List Up} {T':List Acc} {K:List Up→Prop},m.ex noK G T=some (U,T')→K U→m.wq CE G K
 | .ret U,T,U',T',K,h,hk=>by simp only [ex_ret,Option.some.injEq,Prod.mk.injEq] at h;obtain ⟨rfl,rfl⟩:=h;exact hk
 | .fail,T,U',T',K,h,hk=>by cases h
 | .ask b o k,T,U',T',K,h,hk=>by
   simp only [ex_ask,zjb,zjc] at h
   split at h
   ·rename_i v hv
    split at h
    ·rename_i hok
     simp only [RM.wq,hv];exact ⟨hok,RM.ex_wq _ h hk⟩
    ·cases h
   ·cases h
 | .peek b k,T,U',T',K,h,hk=>by
   simp only [ex_ask,zjb,zjc] at h
   split at h
   ·rename_i v hv;simp only [RM.wq,hv];exact RM.ex_wq _ h hk
   ·cases h
 | .call g args outs k,T,U',T',K,h,hk=>by cases h
theorem exEnd_endK {c:Cfg} {rs:List ResultVar} {n:Nat} {e:Ex} {G:Sta} {x:AV} {l:List AV} {R:AV→List AV→Prop} {CE:CEx} (h:exEnd c rs n e G=some (x,l)) (hR:R x l):endK CE c rs n R e G:=by
 unfold exEnd at h
 split at h
 ·cases h
 ·rename_i he
  split at h
  ·rename_i b x1 W T h1
   split at h
   ·rename_i l1 hl
    rw [zhN,zcS (zhN 5)] at h
    simp only [Option.some.injEq,Prod.mk.injEq] at h;obtain ⟨rfl,rfl⟩:=h
    have:=RM.ex_wq (CE:=CE) (K:=endU n R G) _ h1 (zeo hl hR)
    cases e with
    | exit id=>exact absurd rfl (he id)
    | normal=>exact this
    | ret=>exact this
   ·cases h
  ·cases h
structure XOk (P:Program) (cfg:FuncId→Nat→Cfg):Prop where
 ok:∀ g nt,COk P (cfg g nt)
 nt:∀ g nt,(cfg g nt).nt=nt
noncomputable def exF (P:Program) (cfg:FuncId→Nat→Cfg) (mks:FuncId→Nat) (K0:Kw) (m:Nat) (n:Nat):Kw:=
 Nat.rec (fun _ _ _=>none) (fun _ ih g args outs=>match K0 g args outs with
  | some r=>some r
  | none=>match P.funcs[g]? with
    | none=>none
    | some fn=>match fn.body with
      | none=>none
      | some x=>match !(fn.name == "runtime.NumGoroutine") && (Nat.ble args.length fn.ntmps && (args.all argOk && (outs.all (shut1 true fun _=>true) && Nat.ble (args.length+outs.length) 64))) with
        | false=>none
        | true=>fSta (fAV 5) (entryF 64 0 args outs) fun G=>match exC (cfg g fn.ntmps) (mks g) ih m x G with
          | some (e,G')=>exEnd (cfg g fn.ntmps) fn.results.toList outs.length e G'
          | none=>none) n
theorem zjd {cfg:FuncId→Nat→Cfg} {mks:FuncId→Nat} {K0:Kw} (hx:XOk P cfg) (h0:KwOk P K0) (m:Nat):∀ n,KwOk P (exF P cfg mks K0 m n)
 | 0=>zjW
 | n+1=>fun g args outs r o h=>by
   change (match K0 g args outs with
    | some r=>some r
    | none=>match P.funcs[g]? with
      | none=>none
      | some fn=>match fn.body with
        | none=>none
        | some x=>match !(fn.name == "runtime.NumGoroutine") && (Nat.ble args.length fn.ntmps && (args.all argOk && (outs.all (shut1 true fun _=>true) && Nat.ble (args.length+outs.length) 64))) with
          | false=>none
          | true=>fSta (fAV 5) (entryF 64 0 args outs) fun G=>match exC (cfg g fn.ntmps) (mks g) (exF P cfg mks K0 m n) m x G with
            | some (e,G')=>exEnd (cfg g fn.ntmps) fn.results.toList outs.length e G'
            | none=>none)=some (r,o) at h
   split at h
   ·rename_i hk;cases h;exact h0 _ _ _ _ _ hk
   ·split at h
    ·cases h
    ·rename_i fn hfn
     split at h
     ·cases h
     ·rename_i x hx1
      split at h
      ·cases h
      ·rename_i hb
       rw [zhk (zhN 5)] at h
       simp only [Bool.and_eq_true,Bool.not_eq_true'] at hb
       obtain ⟨b1,b2,b3,b4,b5⟩:=hb
       split at h
       ·rename_i e G' he
        refine zd1 (hx.ok g fn.ntmps) hfn b1 hx1 (hx.nt g _) (Nat.le_of_ble_eq_true b2) b3 b4 (Nat.le_of_ble_eq_true b5) ?_
        refine exC_sem (hx.ok g _) (zjd hx h0 m n) m m x (Nat.le_refl _) he ⟨G',Wk.refl,exEnd_endK h ⟨rfl,rfl⟩⟩
       ·cases h
end Go.Ev
namespace Go.Ev
open Go
def insI (x:Int):List Int→List Int
 | []=>[x]
 | y :: r=>match decide (x≤y) with
   | true=>x :: y :: r
   | false=>y :: insI x r
def isort:List Int→List Int
 | []=>[]
 | x :: r=>insI x (isort r)
theorem ziZ (x:Int):∀ l,List.Perm (insI x l) (x :: l)
 | []=>.refl _
 | y :: r=>by
   unfold insI
   split
   ·exact .refl _
   ·exact ((ziZ x r).cons y).trans (.swap x y r)
theorem zj2:∀ l,List.Perm (isort l) l
 | []=>.refl _
 | x :: r=>(ziZ x _).trans ((zj2 r).cons x)
theorem ziY (x:Int):∀ l,l.Pairwise (·≤·)→(insI x l).Pairwise (·≤·)
 | [],_=>by simp [insI]
 | y :: r,h=>by
   rw [List.pairwise_cons] at h
   unfold insI
   split
   ·rename_i hxy
    have hxy:=of_decide_eq_true hxy
    refine List.pairwise_cons.2 ⟨fun z hz=>?_,List.pairwise_cons.2 h⟩
    rcases List.mem_cons.1 hz with rfl | hz
    ·exact hxy
    ·exact Int.le_trans hxy (h.1 z hz)
   ·rename_i hxy
    have hxy:=of_decide_eq_false hxy
    refine List.pairwise_cons.2 ⟨fun z hz=>?_,ziY x r h.2⟩
    rcases List.mem_cons.1 ((ziZ x r).mem_iff.1 hz) with rfl | hz
    ·omega
    ·exact h.1 z hz
theorem zhJ:∀ l,(isort l).Pairwise (·≤·)
 | []=>.nil
 | x :: r=>ziY x _ (zhJ r)
theorem isort_eq (l:List Int):isort l=sortInts l:=by
 refine List.Perm.eq_of_pairwise (le:=(·≤·)) (fun a b _ _ h1 h2=>Int.le_antisymm h1 h2) (zhJ l) ?_ ((zj2 l).trans (List.mergeSort_perm l _).symm)
 have:=List.pairwise_mergeSort (le:=fun x y:Int=>decide (x≤y)) (fun a b c h1 h2=>by simp at *;omega) (fun a b=>by simp;omega) l
 exact this.imp fun h=>of_decide_eq_true h
def sortF2 (l:List FV):Option (List FV):=match fvInts l with
 | some zs=>match Nat.blt zs.length (2 ^ 40) with
   | true=>some ((isort zs).map fun n=>.pv (.int .i64 n))
   | false=>none
 | none=>none
theorem sortF2_eq:sortF2=sortF:=by
 funext l
 unfold sortF2 sortF
 cases fvInts l with
 | none=>rfl
 | some zs=>
   dsimp only
   by_cases h:zs.length < 2 ^ 40
   ·rw [if_pos h,show Nat.blt zs.length (2 ^ 40)=true from by simp [Nat.blt_eq,h],isort_eq]
   ·rw [if_neg h,show Nat.blt zs.length (2 ^ 40)=false from by rw [Bool.eq_false_iff];simpa [Nat.blt_eq] using h]
def cfgX (c:Cfg) (g0:FuncId):Cfg:={ c with ip:=fun g=>match Nat.beq g g0 with
 | true=>some (sortF2,false)
 | false=>c.ip g }
theorem cfgX_ok {P:Program} {c:Cfg} {g0:FuncId} (hc:COk P c) (h:c.ip g0=some (sortF,false)):COk P (cfgX c g0):=by
 have:cfgX c g0=c:=by
  unfold cfgX
  cases c
  simp only [Cfg.mk.injEq,true_and,and_true] at h ⊢
  funext g
  split
  ·rename_i e
   rw [Nat.eq_of_beq_eq_true e,h,sortF2_eq]
  ·rfl
 rw [this];exact hc
def mvT:List (Nat×List Nat)→Nat→List Nat
 | [],_=>[]
 | (a,l) :: r,g=>match Nat.beq a g with
   | true=>l
   | false=>mvT r g
def mkT:List (Nat×Nat)→Nat→Nat
 | [],_=>2 ^ 300 - 1
 | (a,l) :: r,g=>match Nat.beq a g with
   | true=>l
   | false=>mkT r g
def eqL {α:Type} (f:α→α→Bool):List α→List α→Bool
 | [],[]=>true
 | x :: r,y :: s=>match f x y with
   | true=>eqL f r s
   | false=>false
 | _,_=>false
theorem zjf {α:Type} {f:α→α→Bool} (h:∀ x y,f x y=true→x=y):∀ {l m:List α},eqL f l m=true→l=m
 | [],[],_=>rfl
 | x :: r,y :: s,e=>by
   unfold eqL at e
   split at e
   ·rename_i hx;rw [h x y hx,zjf h e]
   ·cases e
 | [],_ :: _,e=>by cases e
 | _ :: _,[],e=>by cases e
def eqI (a b:Int):Bool:=match a,b with
 | .ofNat a,.ofNat b=>Nat.beq a b
 | .negSucc a,.negSucc b=>Nat.beq a b
 | _,_=>false
theorem eqI_eq {a b:Int} (h:eqI a b=true):a=b:=by
 unfold eqI at h
 split at h
 ·rw [Nat.eq_of_beq_eq_true h]
 ·rw [Nat.eq_of_beq_eq_true h]
 ·cases h
def eqVal (x y:Value):Bool:=match x,y with
 | .int k a,.int k' b=>decide (k=k') && eqI a b
 | .bool true,.bool true=>true
 | .bool false,.bool false=>true
 | .string a,.string b=>eqL (fun (x y:UInt8)=>Nat.beq x.toNat y.toNat) a.data.toList b.data.toList
 | _,_=>false
theorem eqVal_eq {x y:Value} (h:eqVal x y=true):x=y:=by
 unfold eqVal at h
 split at h
 ·simp only [Bool.and_eq_true,decide_eq_true_eq] at h;rw [h.1,eqI_eq h.2]
 ·rfl
 ·rfl
 ·rename_i a b
  have:=zjf (fun x y e=>UInt8.toNat_inj.1 (Nat.eq_of_beq_eq_true e)) h
  obtain ⟨⟨a⟩⟩:=a
  obtain ⟨⟨b⟩⟩:=b
  simp only at this
  rw [this]
 ·cases h
def eqFV:Nat→FV→FV→Bool
 | 0,_,_=>false
 | n+1,x,y=>match x,y with
   | .pv a,.pv b=>eqVal a b
   | .agg l,.agg m=>eqL (eqFV n) l m
   | .sl l,.sl m=>eqL (eqFV n) l m
   | _,_=>false
theorem eqFV_eq:∀ (n:Nat) (x y:FV),eqFV n x y=true→x=y
 | 0,_,_,h=>by cases h
 | n+1,x,y,h=>by
   unfold eqFV at h
   split at h
   ·rw [eqVal_eq h]
   ·rw [zjf (eqFV_eq n) h]
   ·rw [zjf (eqFV_eq n) h]
   ·cases h
def eqAV:Nat→AV→AV→Bool
 | 0,_,_=>false
 | n+1,x,y=>match x,y with
   | .f a,.f b=>eqFV 60 a b
   | .agg l,.agg m=>eqL (eqAV n) l m
   | .tup l,.tup m=>eqL (eqAV n) l m
   | _,_=>false
theorem eqAV_eq:∀ (n:Nat) (x y:AV),eqAV n x y=true→x=y
 | 0,_,_,h=>by cases h
 | n+1,x,y,h=>by
   unfold eqAV at h
   split at h
   ·rw [eqFV_eq _ _ _ h]
   ·rw [zjf (eqAV_eq n) h]
   ·rw [zjf (eqAV_eq n) h]
   ·cases h
def addK (C:Kw) (g0:FuncId) (a0:List AV) (r0:AV):Kw:=fun g args outs=>match Nat.beq g g0 with
 | false=>C g args outs
 | true=>match outs with
   | []=>match eqL (eqAV 3) args a0 with
     | true=>some (r0,[])
     | false=>C g args outs
   | _=>C g args outs
theorem addK_ok {P:Program} {C:Kw} {g0:FuncId} {a0:List AV} {r0:AV} (hC:KwOk P C) (h0:CallE P g0 a0 [] r0 []):KwOk P (addK C g0 a0 r0):=by
 intro g args outs r o h
 unfold addK at h
 split at h
 ·exact hC _ _ _ _ _ h
 ·rename_i hg
  split at h
  ·split at h
   ·rename_i he
    simp only [Option.some.injEq,Prod.mk.injEq] at h
    obtain ⟨rfl,rfl⟩:=h
    rw [Nat.eq_of_beq_eq_true hg,zjf (eqAV_eq 3) he];exact h0
   ·exact hC _ _ _ _ _ h
  ·exact hC _ _ _ _ _ h
end Go.Ev
namespace Go.Ev
open Go Go.Proofs
def mvTab:List (Nat×List Nat):=[(24,[18]),(45,[91]),(46,[40,82,111]),(66,[85]),(68,[39,40]),(69,[36]),(70,[19]),(71,[68,69]),(73,[138]),(96,[22]),(101,[79]),(102,[33]),(107,[26]),(128,[42,65,117]),(148,[76]),(149,[36]),(150,[44]),(151,[4]),(163,[55]),(164,[22])]
def mkTab:List (Nat×Nat):=[(24,20831),(30,749885181142786709002495),(45,4949071951373595215252910079),(46,5009749832785324005776332131401727),(50,9223372036854810655),(51,1038451245142597451828003408537023),(64,976816504391623167),(65,30333194644781450604232866942414591),(66,46776595544969660462940927),(67,182519825271200419703983765723122025471),(68,998953715199),(69,125800055295),(70,66037119),(71,495950235875639746559),(73,665019004142062430931726703715086354087935),(77,91861730047),(79,25437071),(80,2127),(94,991),(95,579892441841488023295),(96,7431551),(97,80956159),(98,186183692671),(99,16415),(101,930404616910747318286335),(102,15848260991),(103,735),(106,366884988728372564664010998062997922430463),(107,14222911),(108,1073742063),(128,647397559094766186389539901497343999),(131,7),(132,7),(147,3),(148,119239753670294744330239),(149,108414238207),(150,34084522268415),(151,31),(163,70783739968878591),(164,7431551)]
def cfs (g:FuncId) (c:Cfg):Cfg:=match Nat.beq g 70 with
 | true=>c.own
 | false=>match Nat.beq g 46 with
   | true=>c.wt [48,85]
   | false=>match Nat.beq g 28 with
     | true=>c.wv [19]
     | false=>c
theorem cfs_ok {g:FuncId} {c:Cfg} (h:COk Tryz.prog c):COk Tryz.prog (cfs g c)∧(cfs g c).nt=c.nt:=by
 unfold cfs
 split
 ·exact ⟨h.own,rfl⟩
 ·split
  ·exact ⟨h.wt _,rfl⟩
  ·split
   ·exact ⟨h.wv _,rfl⟩
   ·exact ⟨h,rfl⟩
noncomputable def cfx (g:FuncId) (nt:Nat):Cfg:=cfs g (cfgX (cf (mvT mvTab g) nt) 142)
theorem zkb:XOk Tryz.prog cfx:=⟨fun g nt=>(cfs_ok (cfgX_ok (cfOk _ nt) rfl)).1,fun _ _=>(cfs_ok (cfgX_ok (cfOk _ _) rfl)).2⟩
end Go.Ev
namespace Go.Ev.Pl
open Go Go.Ev Go.Proofs
theorem ss_len {n:Nat}:∀ {l:List Int} {k:Int},SS l→(∀ x∈l,k≤x∧x < n)→k≤n→(l.length:Int)≤n - k
 | [],k,_,_,hk=>by simp;omega
 | x :: r,k,h,hx,hk=>by
   have hc:=List.pairwise_cons.1 h
   have h0:=hx x (List.mem_cons_self ..)
   have:=ss_len (k:=x+1) hc.2 (fun y hy=>⟨by have:=hc.1 y hy;omega,(hx y (List.mem_cons_of_mem _ hy)).2⟩) (by omega)
   simp only [List.length_cons];omega
def nmA:ByteArray:={ data:=#[(73:UInt8),(78:UInt8),(73:UInt8),(84:UInt8),(73:UInt8),(65:UInt8),(76:UInt8)] }
def nmB:ByteArray:={ data:=#[(66:UInt8)] }
def nmC:ByteArray:={ data:=#[(67:UInt8),(95:UInt8),(49:UInt8)] }
theorem name_a:zdB nmA true:=zjd (mks:=mkT mkTab) zkb zjW 400 5 108 [vS nmA] [] _ [] (by kernel_rfl)
theorem name_b:zdB nmB true:=zjd (mks:=mkT mkTab) zkb zjW 400 5 108 [vS nmB] [] _ [] (by kernel_rfl)
theorem name_c:zdB nmC true:=zjd (mks:=mkT mkTab) zkb zjW 400 5 108 [vS nmC] [] _ [] (by kernel_rfl)
def spr (r:zw):zaR:=⟨r.Conds,r.All,r.Bol,r.Rx,r.Trail,r.Eof,r.Act,r.To⟩
theorem holds_ok {r:zw} {n:Nat} (h:FitRule n r) (hn:n≤100):zcK (spr r) n true:=by
 have hlen:r.Conds.length≤n:=by
  have:=ss_len (n:=n) (k:=0) h.conds.1 h.conds.2 (by omega);omega
 refine zhv (spr r) n _ ⟨fun t=>∃ k:Nat,t=k∧k≤r.Conds.length,fun t=>(r.Conds.length - t).toNat,⟨0,rfl,by omega⟩,?_⟩
 rintro t ⟨k,rfl,hk⟩
 show (decide ((k:Int) < (r.Conds.length:Int))=true→_)∧(decide ((k:Int) < (r.Conds.length:Int))=false→_)
 rw [lt_cast]
 refine ⟨fun ht=>?_,fun ht=>?_⟩
 ·have ht:=of_decide_eq_true ht
  have hg:gd (spr r).Conds (k:Int)=r.Conds[k]:=za7 ht
  have hin:=h.conds.2 _ (List.getElem_mem ht)
  have hkm:decide ((k:Int) > 0)=true→w64 ((k:Int) - 1)=((k - 1:Nat):Int):=fun h=>by
   have:=of_decide_eq_true h
   rw [zan (by omega) (by omega)];omega
  rw [hg,show w64 ((k:Int)+1)=((k+1:Nat):Int) from zan (by omega) (by omega)]
  refine ⟨by omega,by show (k:Int) < (r.Conds.length:Int);omega,fun _ _ h=>by rw [hkm h];omega,fun _ _ h=>by rw [hkm h];show ((k - 1:Nat):Int) < (r.Conds.length:Int);omega,fun hb=>?_,fun _=>⟨⟨k+1,rfl,by omega⟩,by first | omega | (dsimp only;omega)⟩⟩
  exfalso
  simp only [Bool.or_eq_true,Bool.and_eq_true,decide_eq_true_eq] at hb
  rcases hb with hb | hb | ⟨h0,hb⟩
  ·omega
  ·omega
  ·have hk1:k - 1 < r.Conds.length:=by omega
   rw [hkm (by simpa using h0),show gd (spr r).Conds ((k - 1:Nat):Int)=r.Conds[k - 1] from za7 hk1] at hb
   have:=List.pairwise_iff_getElem.1 h.conds.1 (k - 1) k hk1 ht (by omega)
   omega
 ·show true=(!r.All || (r.Conds.length:Int) == 0)
  cases ha:r.All with
  | false=>rfl
  | true=>rw [h.all ha];rfl
theorem does_ok {r:zw} {n:Nat} (h:FitRule n r):zc6 (spr r) n true:=by
 obtain ⟨t0,t1,t2⟩:=h.to
 obtain ⟨a1,a2⟩:=h.act
 refine zh4 (spr r) n _ ⟨fun _=>?_,fun h3=>?_⟩
 ·show true=(decide (r.To≥0) && decide (r.To < (n:Int)))
  simp [t0,t1]
 ·have h3:¬ r.Act=3:=by simpa [spr] using h3
  have ht:=t2 h3
  show true=(bif r.Act == 1 then r.To == 0 else r.Act == 2 && r.To == 0)
  rw [ht]
  rcases show r.Act=1∨r.Act=2 by omega with h | h<;>rw [h]<;>rfl
theorem none_z:zby zRx true:=zjz zRx _ (by rfl)
theorem none_k {x:zf} (h:¬ x.Kind=0):zby x false:=zjz x _ (by
 have:(x.Kind == 0)=false:=by simpa using h
 rw [this];rfl)
theorem matches_ok {r:zw} {n:Int} (h:FitRule n r):zb7 (spr r) true:=by
 refine zf1 (spr r) _ ⟨fun he=>⟨fun _=>?_,fun hb=>?_⟩,fun he=>?_⟩
 ·rcases h.body with ⟨h1,h2,h3,h4⟩ | ⟨h1,-⟩
  ·refine ⟨true,(by show zby r.Rx true;rw [h3];exact none_z),fun _=>⟨true,(by show zby r.Trail true;rw [h4];exact none_z),rfl⟩,(fun h=>by cases h)⟩
  ·have he:r.Eof=true:=he
   rw [h1] at he;cases he
 ·rcases h.body with ⟨h1,h2,h3,h4⟩ | ⟨h1,-⟩
  ·have hb:(!r.Bol)=false:=hb
   rw [h2] at hb;cases hb
  ·have he:r.Eof=true:=he
   rw [h1] at he;cases he
 ·rcases h.body with ⟨h1,-⟩ | ⟨h1,h2,h3⟩
  ·have he:r.Eof=false:=he
   rw [h1] at he;cases he
  ·have hrx:=zcl r.Rx h2.wf
   rw [h2.right] at hrx
   refine ⟨true,hrx,fun _=>?_,(fun h=>by cases h)⟩
   rcases h3 with h3 | h3
   ·exact ⟨true,(by show zby r.Trail true;rw [h3];exact none_z),fun _=>rfl,(fun h=>by cases h)⟩
   ·have htr:=zcl r.Trail h3.wf
    rw [h3.right] at htr
    exact ⟨false,none_k h3.kind,(fun h=>by cases h),fun _=>⟨true,htr,rfl⟩⟩
theorem odd_r {r:zw} {n:Nat} (h:FitRule n r) (hn:n≤100):zdA r n false n:=
 zjA r n _ _ ⟨true,holds_ok h hn,(fun h=>by cases h),fun _=>⟨true,does_ok h,(fun h=>by cases h),fun _=>⟨true,matches_ok h,rfl,rfl⟩⟩⟩
theorem odds_ok {rs:List zw} {n:Nat} (h:∀ r∈rs,FitRule n r) (hn:n≤100) (hl:rs.length≤1000):zU rs n false n:=by
 refine zaL rs n _ _ ⟨-1,n,zaS rs n _ _ ⟨fun o t=>o=(n:Int)∧∃ k:Nat,t=k∧k≤rs.length,fun _ t=>(rs.length - t).toNat,⟨rfl,0,rfl,by omega⟩,?_⟩,rfl,rfl⟩
 rintro o t ⟨rfl,k,rfl,hk⟩
 rw [lt_cast]
 refine ⟨fun ht=>?_,fun _=>⟨rfl,rfl⟩⟩
 have ht:=of_decide_eq_true ht
 rw [za7 ht,show w64 ((k:Int)+1)=((k+1:Nat):Int) from zan (by omega) (by omega)]
 exact ⟨by omega,by omega,false,n,odd_r (h _ (List.getElem_mem ht)) hn,(fun h=>by cases h),fun _=>⟨⟨rfl,k+1,rfl,by omega⟩,by first | omega | (dsimp only;omega)⟩⟩
theorem names_ok (b:Bool):∀ k,k < 3→zdB (([⟨nmA,false⟩,⟨nmB,b⟩,⟨nmC,false⟩]:List zaJ).getD k default).Name true∧
 sput (([⟨nmA,false⟩,⟨nmB,b⟩,⟨nmC,false⟩]:List zaJ).getD k default).Name ([nmA,nmB,nmC].take k)=[nmA,nmB,nmC].take (k+1)
 | 0,_=>⟨name_a,by rfl⟩
 | 1,_=>⟨name_b,by show sput nmB [nmA]=[nmA,nmB];unfold sput;rw [if_neg (by decide)];rfl⟩
 | 2,_=>⟨name_c,by show sput nmC [nmA,nmB]=[nmA,nmB,nmC];unfold sput;rw [if_neg (by decide)];unfold sput;rw [if_neg (by decide)];rfl⟩
 | k+3,h=>absurd h (by omega)
theorem specRight_ok (s:zr) (h:FitSpec s):zcj s true:=by
 obtain ⟨n,b,n1,n3,hC,hlen,hR⟩:=h.conds
 obtain ⟨m1,m2⟩:=h.many
 have hC':s.Conds=List.take n ([⟨nmA,false⟩,⟨nmB,b⟩,⟨nmC,false⟩]:List zaJ):=hC
 have hget:∀ k,k < n→s.Conds.getD k default=([⟨nmA,false⟩,⟨nmB,b⟩,⟨nmC,false⟩]:List zaJ).getD k default:=fun k hk=>by
  rw [hC',List.getD_eq_getElem?_getD,List.getD_eq_getElem?_getD,List.getElem?_take,if_pos hk]
 have h0:s.Conds.getD 0 default=⟨nmA,false⟩:=by rw [hget 0 (by omega)];rfl
 refine zhT s _ ?_
 simp only [List.length_map,hlen]
 refine ⟨fun _ _ _=>by omega,fun hb=>?_,fun _=>⟨fun l t=>∃ k:Nat,t=k∧k≤n∧l=[nmA,nmB,nmC].take k,fun l t=>(n - t).toNat,⟨0,rfl,by omega,rfl⟩,?_⟩⟩
 ·exfalso
  rw [h0] at hb
  have e:(ByteArray.toList (zaJ.Name ⟨nmA,false⟩) == ByteArray.toList { data:=#[(73:UInt8),(78:UInt8),(73:UInt8),(84:UInt8),(73:UInt8),(65:UInt8),(76:UInt8)] })=true:=beq_self_eq_true _
  rw [e] at hb
  simp only [Bool.or_eq_true,decide_eq_true_eq] at hb
  rcases hb with hb | hb | hb | hb
  ·omega
  ·omega
  ·omega
  ·simp at hb
 rintro l t ⟨k,rfl,hk,rfl⟩
 rw [lt_cast]
 refine ⟨fun ht=>?_,fun ht=>?_⟩
 ·have ht:=of_decide_eq_true ht
  obtain ⟨q1,q2⟩:=names_ok b k (by omega)
  have hg:gd s.Conds (k:Int)=([⟨nmA,false⟩,⟨nmB,b⟩,⟨nmC,false⟩]:List zaJ).getD k default:=hget k ht
  rw [hg,q2,show w64 ((k:Int)+1)=((k+1:Nat):Int) from zan (by omega) (by omega)]
  exact ⟨by omega,by omega,true,q1,(fun h=>by cases h),fun _=>⟨⟨k+1,rfl,by omega,rfl⟩,by first | omega | (dsimp only;omega)⟩⟩
 ·have ht:=of_decide_eq_false ht
  have hk':k=n:=by omega
  subst hk'
  have hl:(([nmA,nmB,nmC].take k).length:Int)=(k:Int):=by rw [List.length_take];simp;omega
  rw [hl]
  exact ⟨fun _=>⟨false,k,odds_ok hR (by omega) (by omega),rfl⟩,fun h=>by simp at h⟩
end Go.Ev.Pl
namespace Go.Ev.Pl
open Go Go.Ev
def accO (s:zr) (k:Int):Int:=if (decide (k≥(s.Rules.length:Int)) || decide (k≥0) && (gd s.Rules k).Eof)=true then -1 else k
theorem accO_ok (s:zr) {k:Int} (h0:-1≤k) (h1:k≤1):AccOk s (accO s k)∧-1≤accO s k∧accO s k < 40:=by
 unfold accO
 split
 ·exact ⟨⟨by have:=s.Rules.length;omega,fun h=>by omega⟩,by omega,by omega⟩
 ·rename_i hn
  simp only [Bool.or_eq_true,Bool.and_eq_true,decide_eq_true_eq] at hn
  refine ⟨⟨by omega,fun h=>?_⟩,by omega,by omega⟩
  cases he:(gd s.Rules k).Eof with
  | false=>rfl
  | true=>exact absurd (.inr ⟨h,he⟩) hn
def startO (s:zr) (R:Nat):List Int:=(List.range (2 * s.Conds.length)).map fun i=>((i % (R+1):Nat):Int) - 1
def oddD (s:zr) (l:List Int) (n:Int) (m:List Int):zZ:={ Map:=mapM m,Rows:=rowsF l (manyM n) (manyM n),Accept:=(accsF l (manyM n)).map (accO s),Start:=startO s (manyM n) }
def oddM (s:zr) (l:List Int) (n:Int) (m:List Int):zd:={ Spec:=s,Tables:=laidM (oddD s l n m) }
theorem set_map {f:Int→Int} {l:List Int} {k:Nat} (h:k < l.length):((l.take k).map f++l.drop k).set k (f (gd l (k:Int)))=(l.take (k+1)).map f++l.drop (k+1):=by
 have hl:((l.take k).map f).length=k:=by simp;omega
 rw [List.drop_eq_getElem_cons h,List.set_append_right _ _ (by omega),hl,Nat.sub_self,List.set_cons_zero,zeT h,List.getD_eq_getElem?_getD,List.getElem?_eq_getElem h,List.take_add_one,List.getElem?_eq_getElem h]
 rw [Option.toList_some,List.map_append,List.append_assoc];rfl
theorem map_keep {f:Int→Int} {l:List Int} {k:Nat} (h:k < l.length) (hf:f (gd l (k:Int))=gd l (k:Int)):(l.take k).map f++l.drop k=(l.take (k+1)).map f++l.drop (k+1):=by
 have hl:((l.take k).map f).length=k:=by simp;omega
 rw [← set_map h,hf]
 rw [List.drop_eq_getElem_cons h,List.set_append_right _ _ (by omega),hl,Nat.sub_self,List.set_cons_zero,zeT h,List.getD_eq_getElem?_getD,List.getElem?_eq_getElem h];rfl
theorem gd_part {f:Int→Int} {l:List Int} {k:Nat} (h:k < l.length):gd ((l.take k).map f++l.drop k) (k:Int)=gd l (k:Int):=by
 have hl:((l.take k).map f).length=k:=by simp;omega
 show List.getD _ k default=List.getD l k default
 rw [List.getD_eq_getElem?_getD,List.getD_eq_getElem?_getD,List.getElem?_append_right (by omega),hl,Nat.sub_self,List.drop_eq_getElem_cons h,List.getElem?_eq_getElem h];rfl
theorem odd_ok {s:zr} {l k m:List Int} {n:Int} (hs:zbJ l false s) (hc:s.Conds.length≤3) (hrl:s.Rules.length≤4) (hk:Bytes k) (h0:0≤n) (h1:n≤255) (hm:Bytes m):zcN l k n m (oddM s k n m):=by
 have hMb:1≤manyM n∧manyM n≤8:=by unfold manyM;omega
 have hal:(accsF k (manyM n)).length=manyM n:=by simp [accsF]
 have hrl2:(rowsF k (manyM n) (manyM n)).length=manyM n:=by simp [rowsF]
 refine zhz _ _ _ _ _ ⟨s,hs,_,few_ok hk h0 h1 hm,?_⟩
 show ∃ (Inv70:List Int→Int→Prop) (mu71:List Int→Int→Nat),Inv70 (accsF k (manyM n)) 0∧_
 refine ⟨fun acc i=>∃ j:Nat,i=j∧j≤manyM n∧acc=((accsF k (manyM n)).take j).map (accO s)++(accsF k (manyM n)).drop j,fun _ i=>((manyM n:Int) - i).toNat,⟨0,rfl,by omega,by simp⟩,?_⟩
 rintro _ _ ⟨j,rfl,hj,rfl⟩
 have hlen:(((accsF k (manyM n)).take j).map (accO s)++(accsF k (manyM n)).drop j).length=manyM n:=by simp [hal];omega
 rw [hlen]
 simp only [List.length_map]
 refine ⟨fun hb=>?_,fun hb=>?_⟩
 ·have hlt:j < manyM n:=by have:=of_decide_eq_true hb;omega
  have hg:gd (((accsF k (manyM n)).take j).map (accO s)++(accsF k (manyM n)).drop j) (j:Int)=gd (accsF k (manyM n)) (j:Int):=gd_part (by omega)
  rw [hg]
  have e2:w64 ((j:Int)+1)=((j+1:Nat):Int):=by rw [zN (by omega) (by omega)];omega
  rw [e2,Int.toNat_natCast]
  have nn:∀ {a:Int},decide (a≥0)=true→0≤a:=fun h=>by simpa using h
  have ng:∀ {a b:Int},decide (a≥b)=false→a < b:=fun h=>by simpa using h
  refine ⟨fun acc=>acc=((accsF k (manyM n)).take (j+1)).map (accO s)++(accsF k (manyM n)).drop (j+1),?_,by omega,by omega,by omega,fun _=>by omega,fun _=>by omega,fun _=>by omega,fun _ _=>by omega,fun _ _=>by omega,fun _ _=>by omega,fun _ h=>nn h,
   fun h h2=>by have:=nn h2;have:=ng h;omega,fun h _=>ng h,fun hb=>⟨by omega,by omega,by omega,?_⟩,fun hb=>?_⟩
  ·rintro _ rfl
   exact ⟨⟨j+1,rfl,by omega,rfl⟩,by first | omega | (dsimp only;omega)⟩
  ·have:=set_map (f:=accO s) (l:=accsF k (manyM n)) (k:=j) (by omega)
   rw [← this,accO,if_pos hb]
  ·refine map_keep (by omega) ?_
   rw [accO,if_neg (by rw [hb];simp)]
 ·have hje:j=manyM n:=by have:=of_decide_eq_false hb;omega
  subst hje
  have e1:w64 (2 * (s.Conds.length:Int))=((2 * s.Conds.length:Nat):Int):=by rw [zN (by omega) (by omega)];omega
  have e3:w64 (((rowsF k (manyM n) (manyM n)).length:Int)+1)=((manyM n+1:Nat):Int):=by rw [hrl2,zN (by omega) (by omega)];omega
  rw [e1]
  show ∃ (Inv115:List Int→Int→Prop) (mu116:List Int→Int→Nat),Inv115 [] 0∧∀ (d:List Int) (i:Int),Inv115 d i→(_→w64 (((rowsF k (manyM n) (manyM n)).length:Int)+1)≠0∧_∧Inv115 (d++[w64 (Int.tmod i (w64 (((rowsF k (manyM n) (manyM n)).length:Int)+1)) - 1)]) _∧_)∧_
  rw [e3]
  refine ⟨fun st i=>∃ j:Nat,i=j∧j≤2 * s.Conds.length∧st=(List.range j).map fun i=>((i % (manyM n+1):Nat):Int) - 1,fun _ i=>(((2 * s.Conds.length:Nat):Int) - i).toNat,⟨0,rfl,by omega,rfl⟩,?_⟩
  rintro _ _ ⟨j,rfl,hj,rfl⟩
  refine ⟨fun hb=>?_,fun hb=>?_⟩
  ·have hlt:j < 2 * s.Conds.length:=by have:=of_decide_eq_true hb;omega
   have e2:w64 ((j:Int)+1)=((j+1:Nat):Int):=by rw [zN (by omega) (by omega)];omega
   have e4:w64 (Int.tmod (j:Int) ((manyM n+1:Nat):Int) - 1)=((j % (manyM n+1):Nat):Int) - 1:=by
    have hlt2:=Nat.mod_lt j (show 0 < manyM n+1 by omega)
    rw [Int.tmod_eq_emod_of_nonneg (by omega),← Int.natCast_emod,zN (by omega) (by omega)]
   rw [e2,e4]
   exact ⟨by omega,by simp;omega,⟨j+1,rfl,by omega,by simp [List.range_succ]⟩,by dsimp only;omega⟩
  ·have hje:j=2 * s.Conds.length:=by have:=of_decide_eq_false hb;omega
   subst hje
   have ha:((accsF k (manyM n)).take (manyM n)).map (accO s)++(accsF k (manyM n)).drop (manyM n)=(accsF k (manyM n)).map (accO s):=by
    rw [List.take_of_length_le (by omega),List.drop_of_length_le (by omega),List.append_nil]
   rw [ha]
   refine ⟨_,laid_ok (d:=oddD s k n m) ?_ ?_ ?_ ?_ ?_ ?_,rfl⟩
   ·show (mapM m).length≤1000;rw [mapM_len];omega
   ·intro x hx;have:=mapM_mem m x hx;omega
   ·show ((accsF k (manyM n)).map (accO s)).length≤1000;rw [List.length_map];omega
   ·show (startO s (manyM n)).length≤1000;simp [startO];omega
   ·show (rowsF k (manyM n) (manyM n)).length≤1000;omega
   ·intro r hr
    simp only [oddD,rowsF,List.mem_map] at hr
    obtain ⟨i,_,rfl⟩:=hr
    simp [rowF]
theorem odd_vb {s:zr} {k m:List Int} {n:Int} (hc:s.Conds.length≤3):VB (oddM s k n m).Tables∧(∀ x∈(oddM s k n m).Tables.Accept,AccOk s x)∧(oddM s k n m).Tables.Start.length=2 * s.Conds.length:=by
 have hMb:1≤manyM n∧manyM n≤8:=by unfold manyM;omega
 have hr:(rowsF k (manyM n) (manyM n)).length=manyM n:=by simp [rowsF]
 have hal:(accsF k (manyM n)).length=manyM n:=by simp [accsF]
 have hrow:∀ r∈rowsF k (manyM n) (manyM n),r.length≤3∧∀ x∈r,-1≤x∧x < manyM n:=by
  intro r hr
  simp only [rowsF,List.mem_map] at hr
  obtain ⟨i,_,rfl⟩:=hr
  exact ⟨by simp [rowF],rowF_mem _ _ _⟩
 have hacc:∀ x∈(accsF k (manyM n)).map (accO s),AccOk s x∧-1≤x∧x < 40:=by
  intro x hx
  obtain ⟨y,hy,rfl⟩:=List.mem_map.1 hx
  simp only [accsF,List.mem_map] at hy
  obtain ⟨i,_,rfl⟩:=hy
  have:=accF_mem k i
  exact accO_ok s this.1 this.2
 have hnx:=nxtF_le (rowsF k (manyM n) (manyM n)) (fun r h=>(hrow r h).1) (manyM n) (by omega)
 have hbl:(baseF (rowsF k (manyM n) (manyM n)) (manyM n)).length=manyM n:=by simp [baseF]
 have hw:=widF_le (mapM m) (N:=3) (by omega) (fun x hx=>by have:=mapM_mem m x hx;omega) (mapM m).length (Nat.le_refl _)
 have hw1:=widM_lt (m:=mapM m) 2 (mapM_two m)
 have hsl:(startO s (manyM n)).length=2 * s.Conds.length:=by simp [startO]
 refine ⟨?_,fun x hx=>(hacc x hx).1,hsl⟩
 have e:(oddM s k n m).Tables={ Map:=mapM m,Width:=widM (mapM m),Base:=baseF (rowsF k (manyM n) (manyM n)) (manyM n),Default:=List.replicate (manyM n) (-1),Next:=nxtF (rowsF k (manyM n) (manyM n)) (manyM n),Check:=chkF (rowsF k (manyM n) (manyM n)) (manyM n),Accept:=(accsF k (manyM n)).map (accO s),Start:=startO s (manyM n) }:=by
  simp only [oddM,laidM,oddD,hr]
 rw [e]
 refine { map:=mapM_len m,bl:=by dsimp only;omega,nl:=by dsimp only;omega,dl:=by dsimp only;rw [hbl,List.length_replicate],al:=by dsimp only;rw [List.length_map,hal,hbl],cl:=zim _ _,sl:=by dsimp only;omega,w1:=by dsimp only;omega,w2:=?_,dflt:=?_,mapr:=?_,base:=?_,next:=?_,chk:=?_,acc:=fun x hx=>(hacc x hx).2,start:=?_ }
 ·show widF (mapM m) _≤256;omega
 ·intro i h0 h1
  dsimp only at h1 ⊢
  rw [List.length_replicate] at h1
  have:gd (List.replicate (manyM n) (-1:Int)) i = -1:=List.eq_of_mem_replicate (zaQ (l:=List.replicate (manyM n) (-1:Int)) h0 (by rw [List.length_replicate];exact h1))
  rw [this];omega
 ·intro x hx
  exact ⟨(mapM_mem m x hx).1,widM_lt x hx⟩
 ·intro x hx
  dsimp only at hx ⊢
  simp only [baseF,List.mem_map,List.mem_range] at hx
  obtain ⟨i,hi,rfl⟩:=hx
  have:=nxtF_mono (rowsF k (manyM n) (manyM n)) (manyM n) i (by omega)
  omega
 ·intro x hx
  dsimp only at hx ⊢
  rw [hbl]
  obtain ⟨r,h1,h2⟩:=nxtF_mem _ _ (by omega) x hx
  exact (hrow r h1).2 x h2
 ·intro x hx
  dsimp only at hx ⊢
  rw [hbl]
  have:=chkF_mem _ _ x hx;omega
 ·intro x hx
  dsimp only at hx ⊢
  rw [hbl]
  simp only [startO,List.mem_map,List.mem_range] at hx
  obtain ⟨i,_,rfl⟩:=hx
  have:=Nat.mod_lt i (show 0 < manyM n+1 by omega)
  omega
end Go.Ev.Pl
namespace Go.Ev.Pl
open Go Go.Ev
section
variable (p : zd) (w : ByteArray)
structure Reg (a:Int) (x:zC):Prop where
 st:x.Start=a
 r0:-1≤x.Rule
 r1:x.Rule < p.Spec.Rules.length
 ne:0≤x.Rule→(gd p.Spec.Rules x.Rule).Eof=false
 lt:a < x.End
 df:x.Rule < 0→x.End=a+1∧p.Spec.Default=true
 le:x.End≤w.size
structure Lst (a:Int) (x:zC):Prop where
 st:x.Start=a
 en:x.End=a
 sz:a=w.size
 r0:0≤x.Rule
 r1:x.Rule < p.Spec.Rules.length
 eo:(gd p.Spec.Rules x.Rule).Eof=true
inductive Run:Int→List zC→Int→Prop
 | nil (a:Int):Run a [] a
 | step {a x l b}:Reg p w a x→Run x.End l b→Run a (x :: l) b
inductive Chain:Int→List zC→Int→Prop
 | nil (a:Int):Chain a [] a
 | step {a x l b}:Reg p w a x→Chain x.End l b→Chain a (x :: l) b
 | eof {a x}:Lst p w a x→Chain a [x] a
end
variable {p : zd} {w : ByteArray} {spl : zw → ByteArray → Int} {act : Int → Int → Bool}
theorem Run.snoc {a b:Int} {l:List zC} (h:Run p w a l b) {x:zC} (hx:Reg p w b x):Run p w a (l++[x]) x.End:=by
 induction h with
 | nil a=>exact .step hx (.nil _)
 | step h1 _ ih=>exact .step h1 (ih hx)
theorem Run.chain {a b:Int} {l:List zC} (h:Run p w a l b):Chain p w a l b:=by
 induction h with
 | nil a=>exact .nil a
 | step h1 _ ih=>exact .step h1 ih
theorem Run.last {a b:Int} {l:List zC} (h:Run p w a l b) {x:zC} (hx:Lst p w b x):Chain p w a (l++[x]) b:=by
 induction h with
 | nil a=>exact .eof hx
 | step h1 _ ih=>exact .step h1 (ih hx)
def Whole (p:zd) (w:ByteArray) (r:zi):Prop:=
 ∃ b,Chain p w 0 r.Tokens b∧((r.Jam=b∧b < w.size∧p.Spec.Default=false)∨(r.Jam = -1∧b=w.size))
theorem step_run (hp:PrOk p w spl act) (hne:∀ s:Int,0≤s→s < p.Tables.Base.length→0≤gd p.Tables.Accept s→(gd p.Spec.Rules (gd p.Tables.Accept s)).Eof=false) {s:zh} (hs:SOk p w s) (hr:Run p w 0 s.Out.Tokens s.At) (hat:s.At < w.size)
 (hg:¬((takeM p.Tables w s.At s.Cond).1 = -1∧p.Spec.Default=false)):Run p w 0 (stepM p w spl s).Out.Tokens (stepM p w spl s).At∧(stepM p w spl s).Out.Jam=s.Out.Jam:=by
 have ht:=zg9 hp hs.at0 hs.at1 hs.c0 hs.c1
 unfold stepM putM
 split
 ·rename_i e
  have hd:p.Spec.Default=true:=by
   cases h:p.Spec.Default with
   | true=>rfl
   | false=>exact absurd ⟨e,h⟩ hg
  rw [if_pos hd]
  refine ⟨hr.snoc (x:={ Rule:=-1,Start:=s.At,End:=s.At+1,Cond:=s.Cond }) ⟨rfl,Int.le_refl _,by show (-1:Int) < _;omega,fun h=>absurd h (by show ¬ (0:Int)≤-1;omega),by show s.At < s.At+1;omega,fun _=>⟨rfl,hd⟩,by show s.At+1≤_;omega⟩,rfl⟩
 ·rename_i e
  rcases ht with h | ⟨r0,r1,t0,t1,st,s0,s1,s2⟩
  ·exact absurd h.1 e
  obtain ⟨_,k2,k3⟩:=ziH hp hs.at0 r0 r1 t0 t1
  have hn:=hne st s0 s1 (by rw [s2];exact r0)
  rw [s2] at hn
  refine ⟨hr.snoc (x:={ Rule:=(takeM p.Tables w s.At s.Cond).1,Start:=s.At,End:=s.At+ownM spl (gd p.Spec.Rules (takeM p.Tables w s.At s.Cond).1) (textM w s.At (takeM p.Tables w s.At s.Cond).2) (takeM p.Tables w s.At s.Cond).2,Cond:=s.Cond })
   ⟨rfl,by show -1≤(takeM p.Tables w s.At s.Cond).1;omega,r1,fun _=>hn,by show s.At < s.At+_;omega,fun h=>absurd h (by show ¬ (takeM p.Tables w s.At s.Cond).1 < 0;omega),k3⟩,rfl⟩
theorem ziz (hp:PrOk p w spl act) (hne:∀ s:Int,0≤s→s < p.Tables.Base.length→0≤gd p.Tables.Accept s→(gd p.Spec.Rules (gd p.Tables.Accept s)).Eof=false):∀ (k:Nat) {s:zh},SOk p w s→Run p w 0 s.Out.Tokens s.At→s.Out.Jam = -1→w.size < s.At+k→Whole p w (scanF p w spl act k s)
 | 0,s,hs,_,_,hk=>by have:=hs.at1;omega
 | k+1,s,hs,hr,hj,hk=>by
   rw [scanF]
   split
   ·rename_i hat
    split
    ·rename_i hg
     refine ⟨s.At,?_,?_⟩
     ·have:(stepM p w spl s).Out.Tokens=s.Out.Tokens:=by unfold stepM putM;rw [if_pos hg.1,if_neg (by rw [hg.2];simp)]
      rw [this];exact hr.chain
     ·left
      refine ⟨?_,hat,hg.2⟩
      unfold stepM putM;rw [if_pos hg.1,if_neg (by rw [hg.2];simp)]
    ·rename_i hg
     obtain ⟨k1,k2,_⟩:=step_sok hp hs hat hg
     obtain ⟨h1,h2⟩:=step_run hp hne hs hr hat hg
     exact ziz hp hne k k1 h1 (h2.trans hj) (by omega)
   ·rename_i hat
    have hz:s.At=w.size:=by have:=hs.at1;omega
    unfold endM
    rcases zj9 (s:=p.Spec) (act:=act) (c:=s.Cond) (p.Spec.Rules.length+1) 0 (Int.le_refl _) with h | ⟨a,b,c⟩
    ·have h:eofM p.Spec act s.Cond = -1:=h
     rw [if_pos h]
     exact ⟨s.At,hr.chain,.inr ⟨hj,hz⟩⟩
    ·have a:0≤eofM p.Spec act s.Cond:=a
     have b:eofM p.Spec act s.Cond < p.Spec.Rules.length:=b
     have c:(gd p.Spec.Rules (eofM p.Spec act s.Cond)).Eof=true:=c
     rw [if_neg (by omega)]
     exact ⟨s.At,hr.last (x:={ Rule:=eofM p.Spec act s.Cond,Start:=s.At,End:=s.At,Cond:=s.Cond }) ⟨rfl,rfl,hz,a,b,c⟩,.inr ⟨hj,hz⟩⟩
theorem scan_whole (hp:PrOk p w spl act) (hne:∀ s:Int,0≤s→s < p.Tables.Base.length→0≤gd p.Tables.Accept s→(gd p.Spec.Rules (gd p.Tables.Accept s)).Eof=false) (h1:1 < p.Tables.Start.length):Whole p w (scanM p w spl act):=
 ziz hp hne (w.size+1) (s:=scan0 p w) ⟨rfl,rfl,Int.le_refl _,by show (0:Int)≤_;omega,Int.le_refl _,by show 2 * 0+1 < _;omega⟩ (.nil 0) rfl (by show (_:Int) < 0+_;omega)
theorem prt_le (r:zw) (s:ByteArray):prt r s≤s.size:=by
 have hl:∀ (q:Nat→Prop) (n:Nat),lastN q n≤n:=by
  intro q n
  induction n with
  | zero=>exact Nat.le_refl _
  | succ n ih=>
    by_cases h:q (n+1)
    ·rw [lastN_pos h];exact Nat.le_refl _
    ·rw [lastN_neg h];omega
 unfold prt
 split
 ·split
  ·split<;>omega
  ·split
   ·exact hl _ _
   ·omega
 ·omega
theorem wf_z:Wf zRx:=wf_leaf _ _ _ _
theorem fit_wf {n:Int} {r:zw} (h:FitRule n r):Wf r.Rx∧Wf r.Trail:=by
 rcases h.body with ⟨_,_,h1,h2⟩ | ⟨_,h1,h2⟩
 ·rw [h1,h2];exact ⟨wf_z,wf_z⟩
 ·refine ⟨h1.wf,?_⟩
  rcases h2 with h2 | h2
  ·rw [h2];exact wf_z
  ·exact h2.wf
theorem prog_ok {p:zd} (hf:FitSpec p.Spec) (hv:VB p.Tables) (ha:∀ k∈p.Tables.Accept,AccOk p.Spec k) (hst:p.Tables.Start.length=2 * p.Spec.Conds.length) {w:ByteArray} (hw:w.size≤10000) :
 PrOk p w (fun r t=>(prt r t:Nat)) (fun i c=>activeB p.Spec i.toNat c.toNat)∧(∀ s:Int,0≤s→s < p.Tables.Base.length→0≤gd p.Tables.Accept s→(gd p.Spec.Rules (gd p.Tables.Accept s)).Eof=false)∧1 < p.Tables.Start.length∧zc1 p w true:=by
 obtain ⟨n,b,n1,n3,_,hlen,hr⟩:=hf.conds
 have hm:=hf.many
 have hacc:∀ s:Int,0≤s→s < p.Tables.Base.length→AccOk p.Spec (gd p.Tables.Accept s):=fun s h0 h1=>ha _ (zaQ h0 (by rw [hv.al];exact h1))
 refine ⟨⟨hv.tv,by have:=hv.sl;omega,by omega,by omega,fun s h0 h1=>(hacc s h0 h1).1,fun r hm h3=>?_,fun r hm t ht=>?_,fun i c i0 i1 c0 c1=>?_⟩,fun s h0 h1 h2=>(hacc s h0 h1).2 h2,by rw [hst];omega,
  scanRight_ok (specRight_ok _ hf) hv (by rw [hst];omega) ha hw⟩
 ·obtain ⟨t0,t1,_⟩:=(hr r hm).to
  exact ⟨t0,by rw [hst];omega⟩
 ·obtain ⟨w1,w2⟩:=fit_wf (hr r hm)
  have:=prt_le r t
  exact ⟨Split_ok r t w1 w2 (by omega),by show (0:Int)≤((prt r t:Nat):Int);omega,by show ((prt r t:Nat):Int)≤_;omega⟩
 ·obtain ⟨j,rfl⟩:∃ j:Nat,i=j:=⟨i.toNat,by omega⟩
  obtain ⟨d,rfl⟩:∃ d:Nat,c=d:=⟨c.toNat,by omega⟩
  rw [Int.toNat_natCast,Int.toNat_natCast]
  refine active_ok p.Spec (by omega) (by omega) (by omega) (by omega) ?_
  have hmem:p.Spec.Rules.getD j default∈p.Spec.Rules:=zaQ (l:=p.Spec.Rules) (i:=(j:Int)) i0 i1
  have:=ss_len (n:=n) (k:=0) (hr _ hmem).conds.1 (hr _ hmem).conds.2 (by omega)
  omega
end Go.Ev.Pl
namespace Go.Ev.Pl
open Go Go.Ev
theorem drop_gd {α:Type} [Inhabited α] {l:List α} {k:Nat} (h:k < l.length):l.drop k=gd l (k:Int) :: l.drop (k+1):=by
 rw [List.drop_eq_getElem_cons h,za7 h]
theorem scanWhole_ok {r0:Bool} (haw:zbC r0) (hr0:r0=true) {l k m t:List Int} {n:Int} (hl:Bytes l) (hk:Bytes k) (h0:0≤n) (h1:n≤255) (hm:Bytes m) (ht:Bytes t):zbD l k n m t true:=by
 obtain ⟨s,hs,hf,_⟩:=made6_ok l hl false
 obtain ⟨w,hw,hsz⟩:=text_ok t ht
 have hmany:=hf.many
 have hc:s.Conds.length≤3:=by obtain ⟨n,b,n1,n3,_,hlen,_⟩:=hf.conds;omega
 obtain ⟨v1,v2,v3⟩:=odd_vb (s:=s) (k:=k) (m:=m) (n:=n) hc
 obtain ⟨hp,hne,hst,hR⟩:=prog_ok (p:=oddM s k n m) hf v1 v2 v3 (w:=w) (by omega)
 have hsc:=scan_ok hp hR hst
 obtain ⟨b,hch,hend⟩:=scan_whole hp hne hst
 generalize hres:scanM (oddM s k n m) w (fun r t=>(prt r t:Nat)) (fun i c=>activeB (oddM s k n m).Spec i.toNat c.toNat)=r at hsc hch hend
 have hlenb:∀ {p:zd} {w:ByteArray} {a b:Int} {l:List zC},Chain p w a l b→(l.length:Int)≤b - a+1:=by
  intro p w a b l h
  induction h with
  | nil a=>simp
  | step h _ ih=>have:=h.lt;simp only [List.length_cons];omega
  | eof h=>simp
 have hb12:b≤w.size:=by rcases hend with h | h<;>omega
 have htl:=hlenb hch
 refine zet _ _ _ _ _ _ ⟨r0,haw,fun h=>?_,fun _=>⟨_,odd_ok hs hc hmany.2 hk h0 h1 hm,w,hw,r,0,hsc,?_⟩⟩
 ·rw [hr0] at h;simp at h
 refine ⟨fun a i=>∃ j:Nat,i=j∧j≤r.Tokens.length∧0≤a∧a≤w.size∧Chain (oddM s k n m) w a (r.Tokens.drop j) b,fun _ i=>(r.Tokens.length - i).toNat,⟨0,rfl,by omega,by omega,by omega,hch⟩,?_⟩
 rintro a _ ⟨j,rfl,hj,a0,a1,hcj⟩
 refine ⟨fun hb=>?_,fun hb=>?_⟩
 ·have hlt:j < r.Tokens.length:=by have:=of_decide_eq_true hb;omega
  rw [drop_gd hlt] at hcj
  generalize gd r.Tokens (j:Int)=x at hcj
  have e2:w64 ((j:Int)+1)=((j+1:Nat):Int):=by rw [zN (by omega) (by omega)];omega
  have e3:w64 (a+1)=a+1:=zN (by omega) (by omega)
  rw [e2,e3]
  generalize hL:r.Tokens.drop (j+1)=L at hcj
  cases hcj with
  | step hx hrest=>
    have g1:(x.Start != a)=false:=by simp [hx.st]
    have g2:decide (x.Rule < -1)=false:=decide_eq_false (by have:=hx.r0;omega)
    have g3:decide (x.Rule≥((oddM s k n m).Spec.Rules.length:Int))=false:=decide_eq_false (by have:=hx.r1;omega)
    have g4:decide (x.End < a)=false:=decide_eq_false (by have:=hx.lt;omega)
    have g5:(x.End == a)=false:=by have:=hx.lt;simp;omega
    have g6:(decide (x.Rule≥0) && (gd (oddM s k n m).Spec.Rules x.Rule).Eof)=false:=by
     by_cases h:0≤x.Rule
     ·rw [hx.ne h];simp
     ·rw [decide_eq_false (p:=x.Rule≥0) (by omega)];rfl
    have g7:(decide (x.Rule < 0) && (x.End != a+1 || !(oddM s k n m).Spec.Default))=false:=by
     by_cases h:x.Rule < 0
     ·obtain ⟨h1,h2⟩:=hx.df h
      rw [h1,h2];simp
     ·rw [decide_eq_false h];rfl
    rw [g1,g2,g3,g4,g5,g6,g7]
    refine ⟨by omega,by omega,fun h=>by simp at h,fun _=>⟨fun h=>by simpa using h,fun _=>hx.r1,fun h=>by simp at h,fun _=>⟨⟨j+1,rfl,by omega,by have:=hx.lt;omega,hx.le,by rw [hL];exact hrest⟩,by dsimp only;omega⟩⟩⟩
  | eof hx=>
    have hjl:j+1=r.Tokens.length:=by
     have:=congrArg List.length hL
     simp at this;omega
    have g1:(x.Start != b)=false:=by simp [hx.st]
    have g2:decide (x.Rule < -1)=false:=decide_eq_false (by have:=hx.r0;omega)
    have g3:decide (x.Rule≥((oddM s k n m).Spec.Rules.length:Int))=false:=decide_eq_false (by have:=hx.r1;omega)
    have g4:decide (x.End < b)=false:=decide_eq_false (by have:=hx.en;omega)
    have g5:(x.End == b)=true:=by simp [hx.en]
    have g6:(decide (x.Rule≥0) && (gd (oddM s k n m).Spec.Rules x.Rule).Eof)=true:=by
     rw [hx.eo];have:=hx.r0;simp;omega
    have g7:decide (x.Rule < 0)=false:=decide_eq_false (by have:=hx.r0;omega)
    have g8:(b != (w.size:Int))=false:=by simp [hx.sz]
    have g9:decide (((j+1:Nat):Int) < ((List.map zp r.Tokens).length:Int))=false:=decide_eq_false (by rw [List.length_map];omega)
    rw [g1,g2,g3,g4,g5,g6,g7,g8,g9]
    refine ⟨by omega,by omega,fun h=>by simp at h,fun _=>⟨fun h=>by simpa using h,fun _=>hx.r1,fun h=>by simp at h,fun _=>⟨⟨j+1,rfl,by omega,by rw [hx.en];exact a0,by rw [hx.en];exact a1,?_⟩,by dsimp only;omega⟩⟩⟩
    rw [hL,hx.en];exact .nil _
 ·have hje:j=r.Tokens.length:=by have:=of_decide_eq_false hb;omega
  subst hje
  rw [List.drop_length] at hcj
  cases hcj
  rw [hr0]
  rcases hend with ⟨h1,h2,h3⟩ | ⟨h1,h2⟩
  ·have g1:(r.Jam == b)=true:=by simp [h1]
   have g2:decide (b < (w.size:Int))=true:=decide_eq_true h2
   rw [g1,g2,h3];rfl
  ·have g1:(r.Jam == -1)=true:=by simp [h1]
   have g2:(b == (w.size:Int))=true:=by simp [h2]
   have g3:(r.Jam == b)=false:=by simp [h1];omega
   rw [g1,g2,g3];rfl
end Go.Ev.Pl
namespace Go.Ev.Pl
open Go Go.Ev
def sameB (l:List zb) (a b:Int):Bool:=l.all fun s=>setHas s a == setHas s b
theorem same02_ok {l:List zb} (hl:(l.length:Int) < 2 ^ 60) (a b:Int):zcy l a b (sameB l a b):=by
 refine zg1 _ _ _ _ ⟨fun i=>∃ j:Nat,i=j∧j≤l.length∧sameB l a b=sameB (l.drop j) a b,fun i=>(l.length - i).toNat,⟨0,rfl,by omega,rfl⟩,?_⟩
 rintro _ ⟨j,rfl,hj,he⟩
 refine ⟨fun hb=>?_,fun hb=>?_⟩
 ·have hlt:j < l.length:=by have:=of_decide_eq_true hb;omega
  have e2:w64 ((j:Int)+1)=((j+1:Nat):Int):=by rw [zN (by omega) (by omega)];omega
  have hd:sameB (l.drop j) a b=(setHas (gd l (j:Int)) a == setHas (gd l (j:Int)) b && sameB (l.drop (j+1)) a b):=by
   rw [List.drop_eq_getElem_cons hlt,za7 hlt];rfl
  rw [e2]
  refine ⟨by omega,by omega,_,has_ok _ _,by omega,by omega,_,has_ok _ _,fun h=>?_,fun h=>?_⟩
  ·rw [he,hd]
   have:(setHas (gd l (j:Int)) a == setHas (gd l (j:Int)) b)=false:=by
    revert h;cases setHas (gd l (j:Int)) a<;>cases setHas (gd l (j:Int)) b<;>decide
   rw [this];rfl
  ·have:(setHas (gd l (j:Int)) a == setHas (gd l (j:Int)) b)=true:=by
    revert h;cases setHas (gd l (j:Int)) a<;>cases setHas (gd l (j:Int)) b<;>decide
   refine ⟨⟨j+1,rfl,by omega,?_⟩,by dsimp only;omega⟩
   rw [he,hd,this];rfl
 ·have:j=l.length:=by have:=of_decide_eq_false hb;omega
  subst this
  rw [he,List.drop_length];rfl
def kUp (l:List zb) (out:List Int) (b:Nat):Nat→Int
 | 0=>-1
 | j+1=>if kUp l out b j < 0 then (if sameB l (j:Int) (b:Int)=true then out.getD j 0 else -1) else kUp l out b j
theorem kUp_stay (l:List zb) (out:List Int) (b j:Nat) (h:0≤kUp l out b j):∀ d,kUp l out b (j+d)=kUp l out b j
 | 0=>rfl
 | d+1=>by
   have ih:=kUp_stay l out b j h d
   rw [show j+(d+1)=(j+d)+1 by omega,kUp,ih,if_neg (by omega)]
def splF (l:List zb):Nat→List Int×Int
 | 0=>([],0)
 | b+1=>if kUp l (splF l b).1 b b < 0 then ((splF l b).1++[(splF l b).2],(splF l b).2+1) else ((splF l b).1++[kUp l (splF l b).1 b b],(splF l b).2)
theorem splF_len (l:List zb):∀ b,(splF l b).1.length=b
 | 0=>rfl
 | b+1=>by rw [splF];split<;>simp [splF_len l b]
theorem kUp_mem (l:List zb) (out:List Int) (b:Nat):∀ j,j≤out.length→kUp l out b j = -1∨kUp l out b j∈out
 | 0,_=>.inl rfl
 | j+1,h=>by
   rw [kUp]
   split
   ·split
    ·right
     rw [List.getD_eq_getElem?_getD,List.getElem?_eq_getElem (by omega)];exact List.getElem_mem _
    ·exact .inl rfl
   ·exact kUp_mem l out b j (by omega)
theorem zjL (l:List zb):∀ b,0≤(splF l b).2∧(splF l b).2≤b∧∀ x∈(splF l b).1,0≤x∧x < (splF l b).2
 | 0=>⟨by simp [splF],by simp [splF],fun x h=>by simp [splF] at h⟩
 | b+1=>by
   obtain ⟨h1,h2,h3⟩:=zjL l b
   rw [splF]
   split
   ·refine ⟨by dsimp only;omega,by dsimp only;omega,fun x hx=>?_⟩
    dsimp only at hx ⊢
    rcases List.mem_append.1 hx with hx | hx
    ·have:=h3 x hx;omega
    ·simp at hx;omega
   ·rename_i hk
    refine ⟨h1,by dsimp only;omega,fun x hx=>?_⟩
    dsimp only at hx ⊢
    rcases List.mem_append.1 hx with hx | hx
    ·exact h3 x hx
    ·simp at hx;subst hx
     rcases kUp_mem l (splF l b).1 b b (by rw [splF_len];omega) with h | h
     ·omega
     ·exact h3 _ h
theorem split02_ok {l:List zb} (hl:(l.length:Int) < 2 ^ 60):zce l (splF l 256).1 (splF l 256).2:=by
 refine zgb _ _ _ ⟨fun out n b=>∃ j:Nat,b=j∧j≤256∧out=(splF l j).1∧n=(splF l j).2,fun _ _ b=>(256 - b).toNat,⟨0,rfl,by omega,rfl,rfl⟩,?_⟩
 rintro _ _ _ ⟨b,rfl,hb256,rfl,rfl⟩
 have hlen:=splF_len l b
 obtain ⟨r1,r2,r3⟩:=zjL l b
 refine ⟨fun hb=>?_,fun hb=>?_⟩
 ·have hlt:b < 256:=by have:=of_decide_eq_true hb;omega
  refine ⟨fun k a=>∃ j:Nat,a=j∧j≤b∧k=kUp l (splF l b).1 b j,fun k a=>(b - a).toNat,⟨0,rfl,by omega,rfl⟩,?_⟩
  rintro _ _ ⟨j,rfl,hj,rfl⟩
  have e2:w64 ((j:Int)+1)=((j+1:Nat):Int):=by rw [zN (by omega) (by omega)];omega
  refine ⟨fun hc=>?_,fun hc=>?_⟩
  ·simp only [Bool.and_eq_true,decide_eq_true_eq] at hc
   rw [e2]
   refine ⟨fun k=>k=kUp l (splF l b).1 b (j+1),?_,_,same02_ok hl _ _,fun h=>⟨by omega,by omega,by omega,?_⟩,fun h=>?_⟩
   ·rintro _ rfl
    exact ⟨⟨j+1,rfl,by omega,rfl⟩,by dsimp only;omega⟩
   ·rw [kUp,if_pos hc.2,if_pos h,zeT (by omega)]
   ·rw [kUp,if_pos hc.2,if_neg (by rw [h];simp)]
    rcases kUp_mem l (splF l b).1 b j (by omega) with h | h
    ·exact h
    ·have:=r3 _ h;omega
  ·have hk:kUp l (splF l b).1 b j=kUp l (splF l b).1 b b:=by
    simp only [Bool.and_eq_false_iff,decide_eq_false_iff_not] at hc
    rcases hc with hc | hc
    ·have:j=b:=by omega
     subst this;rfl
    ·have:=kUp_stay l (splF l b).1 b j (by omega) (b - j)
     rw [show j+(b - j)=b by omega] at this;exact this.symm
   have e3:w64 ((b:Int)+1)=((b+1:Nat):Int):=by rw [zN (by omega) (by omega)];omega
   have e4:w64 ((splF l b).2+1)=(splF l b).2+1:=zN (by omega) (by omega)
   rw [hk,e3,e4]
   refine ⟨fun n k=>(splF l (b+1))=((splF l b).1++[k],n),?_,fun h=>?_,fun h=>?_⟩
   ·intro n k h
    refine ⟨by rw [hlen];omega,⟨b+1,rfl,by omega,by rw [h],by rw [h]⟩,by dsimp only;omega⟩
   ·rw [splF,if_pos (of_decide_eq_true h)]
   ·rw [splF,if_neg (of_decide_eq_false h)]
 ·have:b=256:=by
   have:¬ (b:Int) < 256:=of_decide_eq_false hb
   omega
  subst this;exact ⟨rfl,rfl⟩
def dnF (m:List Int) (k:Int):Nat→Int→Int
 | 0,at0=>at0
 | j+1,at0=>dnF m k j (if m.getD j 0=k then (j:Int) else at0)
def leastM (m:List Int) (n:Nat):List Int:=(List.range n).map fun k:Nat=>dnF m (k:Int) m.length (-1)
theorem least02_ok {m:List Int} {n:Nat} (hm:m.length≤1000) (hn:n≤256):zcf m n (leastM m n):=by
 refine zgc _ _ _ ⟨fun out k=>∃ j:Nat,k=j∧j≤n∧out=leastM m j,fun _ k=>(n - k).toNat,⟨0,rfl,by omega,rfl⟩,?_⟩
 rintro _ _ ⟨k,rfl,hk,rfl⟩
 have hll:(leastM m k).length=k:=by simp [leastM]
 refine ⟨fun hb=>?_,fun hb=>?_⟩
 ·simp only [Bool.and_eq_true,decide_eq_true_eq] at hb
  have e1:w64 ((m.length:Int) - 1)=(m.length:Int) - 1:=zN (by omega) (by omega)
  rw [e1]
  refine ⟨fun at0 b=>∃ j:Nat,b=(j:Int) - 1∧j≤m.length∧dnF m (k:Int) j at0=dnF m (k:Int) m.length (-1),fun _ b=>(b+1).toNat,⟨m.length,rfl,by omega,rfl⟩,?_⟩
  rintro at0 _ ⟨j,rfl,hj,he⟩
  refine ⟨fun hc=>?_,fun hc=>?_⟩
  ·have hc:=of_decide_eq_true hc
   obtain ⟨i,rfl⟩:∃ i,j=i+1:=⟨j - 1,by omega⟩
   have e2:((i+1:Nat):Int) - 1=(i:Int):=by omega
   have e3:w64 ((i:Int) - 1)=(i:Int) - 1:=zN (by omega) (by omega)
   rw [e2,e3]
   rw [dnF] at he
   have hg:gd m (i:Int)=m.getD i 0:=zeT (by omega)
   refine ⟨fun at1=>dnF m (k:Int) i at1=dnF m (k:Int) m.length (-1),?_,by omega,by omega,fun h=>?_,fun h=>?_⟩
   ·intro at1 h
    exact ⟨⟨i,rfl,by omega,h⟩,by dsimp only;omega⟩
   ·rw [if_pos (by rw [← hg];exact beq_iff_eq.1 h)] at he;exact he
   ·rw [if_neg (by rw [← hg];exact beq_eq_false_iff_ne.1 h)] at he;exact he
  ·have:j=0:=by have:=of_decide_eq_false hc;omega
   subst this
   rw [dnF] at he
   have e2:w64 ((k:Int)+1)=((k+1:Nat):Int):=by rw [zN (by omega) (by omega)];omega
   rw [e2]
   exact ⟨by rw [hll];omega,⟨k+1,rfl,by omega,by rw [he];simp [leastM,List.range_succ]⟩,by dsimp only;omega⟩
 ·have:k=n:=by
   simp only [Bool.and_eq_false_iff,decide_eq_false_iff_not] at hb;omega
  subst this;rfl
theorem zc9 {l:List Int} {a b:Int} (hl:(l.length:Int) < 2 ^ 60) (h:∀ x∈l,a≤x∧x < b):zaB l a b true:=by
 refine zfy _ _ _ _ ⟨fun i=>0≤i∧i≤l.length,fun i=>(l.length - i).toNat,⟨by omega,by omega⟩,?_⟩
 rintro i ⟨h0,h1⟩
 refine ⟨fun hb=>?_,fun _=>rfl⟩
 have hlt:i < l.length:=of_decide_eq_true hb
 have hm:=h (gd l i) (zaQ h0 hlt)
 have e1:w64 (i+1)=i+1:=zN (by omega) (by omega)
 rw [e1]
 refine ⟨h0,hlt,fun _=>h0,fun _=>hlt,fun hb=>?_,fun _=>⟨⟨by omega,by omega⟩,by dsimp only;omega⟩⟩
 exfalso;simp only [Bool.or_eq_true,decide_eq_true_eq] at hb;omega
end Go.Ev.Pl
namespace Go.Ev.Pl
open Go Go.Ev
def usF (m:List Int):Nat→List Int
 | 0=>[]
 | c+1=>if (m.any fun x=>x == (c:Int))=true then usF m c++[(c:Int)] else usF m c
theorem usF_len (m:List Int):∀ c,(usF m c).length≤c
 | 0=>by simp [usF]
 | c+1=>by
   have:=usF_len m c
   rw [usF];split
   ·rw [List.length_append];simp;omega
   ·omega
theorem any_take {m:List Int} {j:Nat} (h:j < m.length) (p:Int→Bool):(m.take (j+1)).any p=((m.take j).any p || p (gd m (j:Int))):=by
 rw [← zgi h,List.any_append];simp
theorem used_ok {m:List Int} {N:Nat} (hl:m.length≤1000) (hm:∀ x∈m,0≤x∧x < 1000) (hN:widM m=N) (hN2:N≤1000):zcx m (usF m N):=by
 have hw:zav m (N:Int):=by rw [← hN];exact zh9 (by omega) (fun x hx=>by have:=hm x hx;omega)
 refine zgZ _ _ ⟨fun out c=>∃ j:Nat,c=j∧j≤N∧out=usF m j,fun _ c=>(N - c).toNat,⟨0,rfl,by omega,rfl⟩,?_⟩
 rintro _ _ ⟨c,rfl,hc,rfl⟩
 refine ⟨_,hw,fun hb=>?_,fun hb=>?_⟩
 ·have hlt:c < N:=by have:=of_decide_eq_true hb;omega
  have hul:=usF_len m c
  have e2:w64 ((c:Int)+1)=((c+1:Nat):Int):=by rw [zN (by omega) (by omega)];omega
  rw [e2]
  refine ⟨fun out=>out=usF m (c+1),?_,fun is b=>∃ j:Nat,b=j∧j≤m.length∧is=(m.take j).any fun x=>x == (c:Int),fun _ b=>(m.length - b).toNat,⟨0,rfl,by omega,rfl⟩,?_⟩
  ·rintro _ rfl
   exact ⟨⟨c+1,rfl,by omega,rfl⟩,by first | omega | (dsimp only;omega)⟩
  ·rintro _ _ ⟨j,rfl,hj,rfl⟩
   refine ⟨fun hb=>?_,fun hb=>?_⟩
   ·have hjl:j < m.length:=by have:=of_decide_eq_true hb;omega
    have e3:w64 ((j:Int)+1)=((j+1:Nat):Int):=by rw [zN (by omega) (by omega)];omega
    rw [e3]
    exact ⟨fun _=>by omega,fun _=>by omega,⟨j+1,rfl,by omega,(any_take hjl _).symm⟩,by dsimp only;omega⟩
   ·have:j=m.length:=by have:=of_decide_eq_false hb;omega
    subst this
    rw [List.take_length]
    refine ⟨fun h=>⟨by omega,?_⟩,fun h=>?_⟩
    ·rw [usF,if_pos h]
    ·rw [usF,if_neg (by rw [h];simp)]
 ·have:c=N:=by have:=of_decide_eq_false hb;omega
  subst this;rfl
def ixL (x:Int):List Int→Nat
 | []=>0
 | a :: r=>if a=x then 0 else ixL x r+1
theorem ixL_at {x:Int}:∀ {l:List Int} {j:Nat},(∀ i,i < j→gd l (i:Int)≠x)→j < l.length→gd l (j:Int)=x→ixL x l=j
 | [],j,_,h,_=>by simp at h
 | a :: r,0,_,_,h=>by rw [ixL,if_pos (show a=x from h)]
 | a :: r,j+1,h1,h2,h3=>by
   rw [ixL,if_neg (show a≠x from h1 0 (by omega)),ixL_at (l:=r) (j:=j) (fun i hi=>h1 (i+1) (by omega)) (by simpa using h2) h3]
theorem ixL_none {x:Int}:∀ {l:List Int},(∀ i,i < l.length→gd l (i:Int)≠x)→ixL x l=l.length
 | [],_=>rfl
 | a :: r,h=>by
   rw [ixL,if_neg (show a≠x from h 0 (by simp)),ixL_none (l:=r) (fun i hi=>h (i+1) (by simpa using hi))];rfl
def groupM (g:List Int) (k:Int):Int:=if k < 0 then -1 else gd g k
theorem group_ok {g:List Int} {k:Int} (h:k < g.length):zcc g k (groupM g k):=by
 refine zf7 _ _ _ ⟨fun h=>?_,fun hn=>?_⟩
 ·rw [groupM,if_pos (of_decide_eq_true h)]
 ·have hn:=of_decide_eq_false hn
  exact ⟨by omega,h,by rw [groupM,if_neg hn]⟩
def numM (o:zx) (k:Int):Int×zx:=
 if groupM o.G k < 0 then (-1,o)
 else if ixL (groupM o.G k) o.L < o.L.length then ((ixL (groupM o.G k) o.L:Int),o)
 else ((o.L.length:Int),{ G:=o.G,L:=o.L++[groupM o.G k],State:=o.State++[k] })
theorem number_ok {o:zx} {k:Int} (h:k < o.G.length) (hl:o.L.length≤1000) (hs:o.State.length≤1000):zaD k o (numM o k).1 (numM o k).2:=by
 refine zdF _ _ _ _ ⟨_,group_ok h,fun hb=>?_,fun hb=>?_⟩
 ·rw [numM,if_pos (of_decide_eq_true hb)];exact ⟨rfl,rfl⟩
 ·have hn:=of_decide_eq_false hb
  refine ⟨fun i=>∃ j:Nat,i=j∧j≤o.L.length∧∀ i':Nat,i' < j→gd o.L (i':Int)≠groupM o.G k,fun i=>(o.L.length - i).toNat,⟨0,rfl,by omega,fun i h=>by omega⟩,?_⟩
  rintro _ ⟨j,rfl,hj,hne⟩
  refine ⟨fun hc=>?_,fun hc=>?_⟩
  ·have hlt:j < o.L.length:=by have:=of_decide_eq_true hc;omega
   have e2:w64 ((j:Int)+1)=((j+1:Nat):Int):=by rw [zN (by omega) (by omega)];omega
   rw [e2]
   refine ⟨by omega,by omega,by omega,fun he=>?_,fun he=>?_⟩
   ·have hx:=ixL_at hne hlt (beq_iff_eq.1 he)
    rw [numM,if_neg hn,hx,if_pos hlt];exact ⟨rfl,rfl⟩
   ·refine ⟨⟨j+1,rfl,by omega,fun i hi=>?_⟩,by dsimp only;omega⟩
    by_cases e:i=j
    ·subst e;exact beq_eq_false_iff_ne.1 he
    ·exact hne i (by omega)
  ·have:j=o.L.length:=by have:=of_decide_eq_false hc;omega
   subst this
   have hx:=ixL_none hne
   have e3:w64 (((o.L.length+1:Nat):Int) - 1)=(o.L.length:Int):=by rw [zN (by omega) (by omega)];omega
   refine ⟨by omega,by omega,?_⟩
   rw [numM,if_neg hn,hx,if_neg (Nat.lt_irrefl _)]
   exact ⟨e3.symm,rfl⟩
def columnM (wide:List (List Int)) (a b:Int):Bool:=wide.all fun r=>gd r a == gd r b
theorem column_ok {wide:List (List Int)} {a b:Int} (hl:wide.length≤1000) (hr:∀ r∈wide,r.length=256) (a0:0≤a) (a1:a < 256) (b0:0≤b) (b1:b < 256):zbZ wide a b (columnM wide a b):=by
 refine zfx _ _ _ _ ⟨fun i=>∃ j:Nat,i=j∧j≤wide.length∧columnM wide a b=columnM (wide.drop j) a b,fun i=>(wide.length - i).toNat,⟨0,rfl,by omega,rfl⟩,?_⟩
 rintro _ ⟨j,rfl,hj,he⟩
 refine ⟨fun hb=>?_,fun hb=>?_⟩
 ·have hlt:j < wide.length:=by have:=of_decide_eq_true hb;omega
  have hrl:=hr _ (zaQ (l:=wide) (i:=(j:Int)) (by omega) (by omega))
  have e2:w64 ((j:Int)+1)=((j+1:Nat):Int):=by rw [zN (by omega) (by omega)];omega
  have hd:columnM (wide.drop j) a b=((gd (gd wide (j:Int)) a == gd (gd wide (j:Int)) b) && columnM (wide.drop (j+1)) a b):=by
   rw [List.drop_eq_getElem_cons hlt,za7 hlt];rfl
  rw [e2]
  refine ⟨by omega,by omega,a0,by omega,by omega,by omega,b0,by omega,fun h=>?_,fun h=>?_⟩
  ·have:(gd (gd wide (j:Int)) a == gd (gd wide (j:Int)) b)=false:=by simpa using h
   rw [he,hd,this];rfl
  ·have:(gd (gd wide (j:Int)) a == gd (gd wide (j:Int)) b)=true:=by simpa using h
   exact ⟨⟨j+1,rfl,by omega,by rw [he,hd,this];rfl⟩,by dsimp only;omega⟩
 ·have:j=wide.length:=by have:=of_decide_eq_false hb;omega
  subst this
  rw [he,List.drop_length];rfl
structure DB (d:zZ):Prop where
 rl:d.Rows.length≤500
 al:d.Accept.length=d.Rows.length
 ml:d.Map.length=256
 sl:d.Start.length≤16
 mapr:∀ x∈d.Map,0≤x∧x < 256
 acc:∀ x∈d.Accept,-1≤x∧x < 40
 start:∀ x∈d.Start,-1≤x∧x < d.Rows.length
 rows:∀ r∈d.Rows,(r.length:Int)=widM d.Map∧∀ x∈r,-1≤x∧x < d.Rows.length
theorem right11_ok {d:zZ} (h:DB d):zcd d true:=by
 have h1:=h.rl;have h2:=h.al;have h3:=h.ml;have h4:=h.sl
 have hw:=widF_le d.Map (N:=256) (by omega) (fun x hx=>by have:=h.mapr x hx;omega) d.Map.length (Nat.le_refl _)
 have hw:0≤widM d.Map∧widM d.Map≤256:=hw
 refine zga _ _ ⟨fun hb=>?_,fun _=>⟨fun hb=>?_,fun _=>⟨fun hb=>?_,fun _=>⟨fun hb=>?_,fun _=>?_⟩⟩⟩⟩
 ·have:=of_decide_eq_true hb;omega
 ·rw [List.length_map,h2] at hb;simp at hb
 ·rw [List.length_map,h3] at hb;simp at hb
 ·have:=of_decide_eq_true hb;rw [List.length_map] at this;omega
 refine ⟨_,zc9 (by omega) h.mapr,fun h=>(by simp at h),fun _=>⟨_,zc9 (by omega) h.acc,fun h=>(by simp at h),fun _=>⟨_,zc9 (by omega) h.start,fun h=>(by simp at h),fun _=>⟨_,zh9 (by omega) (fun x hx=>by have:=h.mapr x hx;omega),fun i=>0≤i∧i≤d.Rows.length,fun i=>(d.Rows.length - i).toNat,⟨by omega,by omega⟩,?_⟩⟩⟩⟩
 rintro i ⟨h0,h1⟩
 refine ⟨fun hb=>?_,fun _=>rfl⟩
 have hlt:i < d.Rows.length:=of_decide_eq_true hb
 obtain ⟨r1,r2⟩:=h.rows (gd d.Rows i) (zaQ h0 hlt)
 have e1:w64 (i+1)=i+1:=zN (by omega) (by omega)
 rw [e1]
 refine ⟨h0,hlt,fun hb=>?_,fun _=>⟨fun _=>h0,fun _=>hlt,_,zc9 (by omega) r2,fun h=>(by simp at h),fun _=>⟨⟨by omega,by omega⟩,by dsimp only;omega⟩⟩⟩
 rw [List.length_map,r1] at hb;simp at hb
end Go.Ev.Pl
