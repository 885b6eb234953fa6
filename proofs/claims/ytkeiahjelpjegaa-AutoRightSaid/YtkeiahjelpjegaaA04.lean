import Derived.Test.YtkeiahjelpjegaaA03
import Derived.Lib.RowBridge
set_option linter.unusedSimpArgs false
set_option linter.unusedVariables false
namespace Go.Ev.Pl
open Go Go.Ev
abbrev SS (l:List Int):Prop:=l.Pairwise (· < ·)
theorem ss_ext:∀ {a b:List Int},SS a→SS b→(∀ x,x∈a↔x∈b)→a=b
 | [],[],_,_,_=>rfl
 | [],y :: b,_,_,h=>by have:=(h y).2 (List.mem_cons_self ..);simp at this
 | x :: a,[],_,_,h=>by have:=(h x).1 (List.mem_cons_self ..);simp at this
 | x :: a,y :: b,ha,hb,h=>by
   have ha:=List.pairwise_cons.1 ha
   have hb:=List.pairwise_cons.1 hb
   have hxy:x=y:=by
    rcases List.mem_cons.1 ((h x).1 (List.mem_cons_self ..)) with e | e
    ·exact e
    ·rcases List.mem_cons.1 ((h y).2 (List.mem_cons_self ..)) with e' | e'
     ·exact e'.symm
     ·have:=hb.1 x e;have:=ha.1 y e';omega
   subst hxy
   rw [ss_ext ha.2 hb.2]
   intro z
   constructor
   ·intro hz
    rcases List.mem_cons.1 ((h z).1 (List.mem_cons_of_mem _ hz)) with e | e
    ·subst e;have:=ha.1 z hz;omega
    ·exact e
   ·intro hz
    rcases List.mem_cons.1 ((h z).2 (List.mem_cons_of_mem _ hz)) with e | e
    ·subst e;have:=hb.1 z hz;omega
    ·exact e
def join (a b:List Int):List Int:=compactInts (sortInts (a++b))
theorem upTo_spec (zs:List Int) (hs:zs.Pairwise (·≤·)):∀ m,m≤zs.length→SS (Lib.compactUpTo zs.toArray m)∧∀ x,x∈Lib.compactUpTo zs.toArray m↔x∈zs.take m:=by
 intro m
 induction m with
 | zero=>intro _;simp [Lib.compactUpTo]
 | succ m ih=>
   intro hm
   obtain ⟨h1,h2⟩:=ih (by omega)
   have hg:zs.toArray[m]! = zs[m]'(by omega):=by simp [getElem!_pos,show m < zs.length by omega]
   have ht:∀ x,x∈zs.take (m+1)↔x∈zs.take m∨x=zs[m]'(by omega):=by
    intro x;rw [List.take_succ_eq_append_getElem (by omega),List.mem_append,List.mem_singleton]
   have hle:∀ x∈zs.take m,x≤zs[m]'(by omega):=by
    intro x hx
    obtain ⟨i,hi,rfl⟩:=List.mem_iff_getElem.1 hx
    simp only [List.length_take] at hi
    rw [List.getElem_take]
    exact List.pairwise_iff_getElem.1 hs i m (by omega) (by omega) (by omega)
   rw [Lib.compactUpTo_succ,hg]
   by_cases hk:Lib.keeps zs.toArray m=true
   ·rw [if_pos hk]
    refine ⟨List.pairwise_append.2 ⟨h1,by simp,fun x hx y hy=>?_⟩,fun x=>?_⟩
    ·simp at hy;subst hy
     have hx:=(h2 x).1 hx
     have h3:=hle x hx
     simp only [Lib.keeps,decide_eq_true_eq] at hk
     rcases hk with rfl | hk
     ·simp at hx
     ·have hm0:m≠0:=by rintro rfl;simp at hx
      have hg':zs.toArray[m - 1]! = zs[m - 1]'(by omega):=by simp [getElem!_pos,show m - 1 < zs.length by omega]
      rw [hg,hg'] at hk
      obtain ⟨i,hi,rfl⟩:=List.mem_iff_getElem.1 hx
      simp only [List.length_take] at hi
      rw [List.getElem_take] at h3 ⊢
      have h5:zs[i]'(by omega)≤zs[m - 1]'(by omega):=by
       by_cases e:i=m - 1
       ·subst e;exact Int.le_refl _
       ·exact List.pairwise_iff_getElem.1 hs i (m - 1) (by omega) (by omega) (by omega)
      have h6:zs[m - 1]'(by omega)≤zs[m]'(by omega):=List.pairwise_iff_getElem.1 hs (m - 1) m (by omega) (by omega) (by omega)
      have:zs[m - 1]'(by omega)≠zs[m]'(by omega):=fun e=>hk e.symm
      omega
    ·rw [ht];simp [h2]
   ·rw [if_neg hk]
    refine ⟨by simpa using h1,fun x=>?_⟩
    rw [List.append_nil,ht,h2]
    constructor
    ·exact .inl
    ·rintro (h | rfl)
     ·exact h
     ·simp only [Lib.keeps,decide_eq_true_eq,not_or,Decidable.not_not] at hk
      obtain ⟨hm0,hk⟩:=hk
      have hg':zs.toArray[m - 1]! = zs[m - 1]'(by omega):=by simp [getElem!_pos,show m - 1 < zs.length by omega]
      rw [hg,hg'] at hk
      rw [hk]
      refine List.mem_iff_getElem.2 ⟨m - 1,by simp;omega,by rw [List.getElem_take]⟩
theorem sort_spec (l:List Int):(sortInts l).Pairwise (·≤·)∧∀ x,x∈sortInts l↔x∈l:=by
 refine ⟨?_,fun x=>by simp [sortInts]⟩
 have:=List.pairwise_mergeSort (le:=fun x y:Int=>decide (x≤y)) (fun a b c h1 h2=>by simp at *;omega) (fun a b=>by simp;omega) l
 exact this.imp (by simp)
theorem join_spec (a b:List Int):SS (join a b)∧∀ x,x∈join a b↔x∈a∨x∈b:=by
 obtain ⟨h1,h2⟩:=sort_spec (a++b)
 obtain ⟨h3,h4⟩:=upTo_spec _ h1 _ (Nat.le_refl _)
 refine ⟨h3,fun x=>?_⟩
 show x∈Lib.compactUpTo _ _↔_
 rw [h4,List.take_length,h2,List.mem_append]
theorem sort_len (l:List Int):(sortInts l).length=l.length:=by simp [sortInts]
def addL:List Int→List Int→List Int
 | [],b=>b
 | a,[]=>a
 | x :: a,y :: b=>if x < y then x :: addL a (y :: b) else if y < x then y :: addL (x :: a) b else x :: addL a b
 termination_by a b=>a.length+b.length
theorem addL_mem:∀ (a b:List Int) (x:Int),x∈addL a b↔x∈a∨x∈b
 | [],b,z=>by simp [addL]
 | x :: a,[],z=>by simp [addL]
 | x :: a,y :: b,z=>by
   rw [addL]
   split
   ·rw [List.mem_cons,addL_mem a (y :: b)];grind
   ·split
    ·rw [List.mem_cons,addL_mem (x :: a) b];grind
    ·rw [List.mem_cons,addL_mem a b];grind
 termination_by a b=>a.length+b.length
theorem addL_ss:∀ {a b:List Int},SS a→SS b→SS (addL a b)
 | [],b,_,hb=>by rw [addL];exact hb
 | x :: a,[],ha,_=>by rw [addL];exact ha;simp
 | x :: a,y :: b,ha,hb=>by
   have ha':=List.pairwise_cons.1 ha
   have hb':=List.pairwise_cons.1 hb
   rw [addL]
   split
   ·refine List.pairwise_cons.2 ⟨fun z hz=>?_,addL_ss ha'.2 hb⟩
    rw [addL_mem] at hz;grind
   ·split
    ·refine List.pairwise_cons.2 ⟨fun z hz=>?_,addL_ss ha hb'.2⟩
     rw [addL_mem] at hz;grind
    ·refine List.pairwise_cons.2 ⟨fun z hz=>?_,addL_ss ha'.2 hb'.2⟩
     rw [addL_mem] at hz;grind
 termination_by a b=>a.length+b.length
end Go.Ev.Pl
set_option linter.unusedSimpArgs false
set_option linter.unusedVariables false
namespace Go.Ev.Pl
open Go Go.Ev
theorem w64_id {x:Int} (h0:-9223372036854775808≤x) (h1:x≤9223372036854775807):w64 x=x:=wrap64 h0 (by omega)
theorem gd_nat {α:Type} [Inhabited α] {l:List α} {i:Nat} (h:i < l.length):gd l (i:Int)=l[i]:=by
 simp [gd,List.getD,h]
theorem flatten_take_succ {α:Type} {L:List (List α)} {i:Nat} (h:i < L.length):(L.take (i+1)).flatten=(L.take i).flatten++L[i]:=by
 rw [List.take_succ_eq_append_getElem h,List.flatten_append];simp
theorem flatten_take_le {α:Type} (L:List (List α)) (i:Nat):(L.take i).flatten.length≤L.flatten.length:=by
 conv=>rhs;rw [← List.take_append_drop i L]
 rw [List.flatten_append,List.length_append];omega
theorem concat_ok (L:List (List Int)) (hL:L.length < 1099511627776) (hT:L.flatten.length < 1000000000):C_slices_Concat__int_int L L.flatten:=by
 refine W_slices_Concat__int_int L _ ⟨fun s t=>∃ i:Nat,t=i∧i≤L.length∧s=(L.take i).flatten.length,fun s t=>(L.length - t).toNat,⟨0,rfl,by omega,by simp⟩,?_⟩
 rintro s t ⟨i,rfl,hi,rfl⟩
 have hb:=flatten_take_le L i
 refine ⟨fun ht=>?_,fun ht=>?_⟩
 ·have ht:i < L.length:=by simpa using ht
  have hs:=congrArg List.length (flatten_take_succ ht)
  rw [List.length_append] at hs
  have hb2:=flatten_take_le L (i+1)
  have hg:gd L (i:Int)=L[i]:=gd_nat ht
  have hw1:w64 (((L.take i).flatten.length:Int)+(gd L (i:Int)).length)=((L.take (i+1)).flatten.length:Int):=by
   rw [hg,hs];exact (w64_id (by omega) (by omega)).trans (by omega)
  have hw2:w64 ((i:Int)+1)=((i+1:Nat):Int):=w64_id (by omega) (by omega)
  rw [hw1,hw2]
  exact ⟨True,fun _=>⟨⟨i+1,rfl,by omega,rfl⟩,by dsimp only;omega⟩,by omega,by omega,fun h=>absurd (of_decide_eq_true h) (by omega),fun _=>trivial⟩
 ·refine ⟨⟨by omega,by omega⟩,fun l t=>∃ i:Nat,t=i∧i≤L.length∧l=(L.take i).flatten,fun l t=>(L.length - t).toNat,⟨0,rfl,by omega,rfl⟩,?_⟩
  rintro l t ⟨j,rfl,hj,rfl⟩
  have hb3:=flatten_take_le L j
  refine ⟨fun ht=>?_,fun ht=>?_⟩
  ·have ht:j < L.length:=by simpa using ht
   have hg:gd L (j:Int)=L[j]:=gd_nat ht
   have hs:=flatten_take_succ ht
   have hs2:=congrArg List.length hs
   rw [List.length_append] at hs2
   have hb2:=flatten_take_le L (j+1)
   have hw2:w64 ((j:Int)+1)=((j+1:Nat):Int):=w64_id (by omega) (by omega)
   rw [hw2,hg]
   exact ⟨by omega,by omega,by omega,⟨j+1,rfl,by omega,hs.symm⟩,by dsimp only;omega⟩
  ·have:j=L.length:=by have:¬ j < L.length:=by simpa using ht
                       omega
   subst this
   rw [List.take_of_length_le (Nat.le_refl _)]
theorem join_ok (a b:List Int) (ha:a.length < 100000000) (hb:b.length < 100000000):C_place_Join_int a b (join a b):=by
 have h:=concat_ok [a,b] (by simp) (by simp;omega)
 have e:[a,b].flatten=a++b:=by simp
 rw [e] at h
 exact W_place_Join_int a b _ ⟨_,h,by simp;omega,sort_len _,by rw [sort_len];simp;omega,rfl⟩
theorem addL_nil_r:∀ a,addL a []=a
 | []=>by rw [addL]
 | x :: a=>by rw [addL];simp
theorem addL_drop_r {a b:List Int} {i k:Nat} (hk:k=b.length) (hi:i < a.length):addL (a.drop i) (b.drop k)=a[i] :: addL (a.drop (i+1)) (b.drop k):=by
 subst hk
 rw [List.drop_length,addL_nil_r,addL_nil_r,List.drop_eq_getElem_cons hi]
theorem addL_drop_l {a b:List Int} {i k:Nat} (hi:i=a.length) (hk:k < b.length):addL (a.drop i) (b.drop k)=b[k] :: addL (a.drop i) (b.drop (k+1)):=by
 subst hi
 rw [List.drop_length,addL,addL,List.drop_eq_getElem_cons hk]
theorem addL_drop {a b:List Int} {i k:Nat} (hi:i < a.length) (hk:k < b.length):addL (a.drop i) (b.drop k)=if a[i] < b[k] then a[i] :: addL (a.drop (i+1)) (b.drop k) else if b[k] < a[i] then b[k] :: addL (a.drop i) (b.drop (k+1)) else a[i] :: addL (a.drop (i+1)) (b.drop (k+1)):=by
 conv=>lhs;rw [List.drop_eq_getElem_cons hi,List.drop_eq_getElem_cons hk,addL]
 rw [← List.drop_eq_getElem_cons hi,← List.drop_eq_getElem_cons hk]
theorem add_ok (a b:List Int) (ha:a.length < 10000000) (hb:b.length < 10000000):C_heckleref09_Add a b (addL a b):=by
 refine W_heckleref09_Add a b _ ⟨fun o s t=>∃ i k:Nat,s=i∧t=k∧i≤a.length∧k≤b.length∧o.length≤i+k∧o++addL (a.drop i) (b.drop k)=addL a b,fun o s t=>(a.length - s).toNat+(b.length - t).toNat,⟨0,0,rfl,rfl,by omega,by omega,by simp,rfl⟩,?_⟩
 rintro o s t ⟨i,k,rfl,rfl,hi,hk,hol,ho⟩
 have hwi:w64 ((i:Int)+1)=((i+1:Nat):Int):=w64_id (by omega) (by omega)
 have hwk:w64 ((k:Int)+1)=((k+1:Nat):Int):=w64_id (by omega) (by omega)
 simp only [List.length_map]
 refine ⟨fun ht=>?_,fun ht=>?_⟩
 ·simp only [Bool.or_eq_true,decide_eq_true_eq] at ht
  have hkb:((k:Int) == (b.length:Int))=decide (k=b.length):=by show decide _=decide _;simp only [decide_eq_decide];omega
  have hib:((i:Int) == (a.length:Int))=decide (i=a.length):=by show decide _=decide _;simp only [decide_eq_decide];omega
  have hia:decide ((i:Int) < (a.length:Int))=decide (i < a.length):=by simp only [decide_eq_decide];omega
  rw [hkb,hib,hia]
  refine ⟨fun h1 h2=>by omega,fun h1 h2=>by have:=of_decide_eq_true h2;omega,fun h1 h2=>by omega,fun h1 h2=>by have:=of_decide_eq_false h1;omega,fun h=>?_,fun h=>⟨fun h1=>by omega,fun h1=>?_,fun h1=>by omega,fun h1=>?_,fun h2=>?_,fun h2=>?_⟩⟩
  ·simp only [Bool.or_eq_true,Bool.and_eq_true,decide_eq_true_eq] at h
   have hil:i < a.length:=by omega
   rw [gd_nat hil,hwi]
   refine ⟨by omega,by omega,by omega,⟨i+1,k,rfl,rfl,by omega,hk,by simp;omega,?_⟩,by first | omega | (dsimp only;omega)⟩
   rw [← ho,List.append_assoc]
   congr 1
   rcases h with h | ⟨_,h⟩
   ·rw [addL_drop_r h hil];rfl
   ·by_cases hkl:k < b.length
    ·rw [gd_nat hil,gd_nat hkl] at h
     rw [addL_drop hil hkl,if_pos h];rfl
    ·rw [addL_drop_r (by omega) hil];rfl
  ·simp only [Bool.or_eq_false_iff,decide_eq_false_iff_not] at h;omega
  ·have:=of_decide_eq_false h1;omega
  ·simp only [Bool.or_eq_false_iff,decide_eq_false_iff_not] at h
   have hkl:k < b.length:=by omega
   rw [gd_nat hkl,hwk]
   refine ⟨by omega,by omega,by omega,⟨i,k+1,rfl,rfl,hi,by omega,by simp;omega,?_⟩,by first | omega | (dsimp only;omega)⟩
   rw [← ho,List.append_assoc]
   congr 1
   simp only [Bool.or_eq_true,decide_eq_true_eq] at h2
   by_cases hia2:i=a.length
   ·rw [addL_drop_l hia2 hkl];rfl
   ·have hil:i < a.length:=by omega
    have h2:b[k] < a[i]:=by
     rcases h2 with h2 | h2
     ·exact absurd h2 hia2
     ·rw [gd_nat hkl,gd_nat hil] at h2;exact h2
    rw [addL_drop hil hkl,if_neg (by omega),if_pos h2];rfl
  ·simp only [Bool.or_eq_false_iff,decide_eq_false_iff_not,Bool.and_eq_false_iff] at h h2
   have hkl:k < b.length:=by omega
   have hil:i < a.length:=by omega
   rw [gd_nat hkl,gd_nat hil] at h h2
   rw [gd_nat hil,hwi,hwk]
   refine ⟨by omega,by omega,by omega,⟨i+1,k+1,rfl,rfl,by omega,by omega,by simp;omega,?_⟩,by first | omega | (dsimp only;omega)⟩
   rw [← ho,List.append_assoc]
   congr 1
   rw [addL_drop hil hkl,if_neg (by rcases h.2 with h | h<;>omega),if_neg h2.2];rfl
 ·simp only [Bool.or_eq_false_iff,decide_eq_false_iff_not] at ht
  have e1:i=a.length:=by omega
  have e2:k=b.length:=by omega
  rw [← ho,e1,e2,List.drop_length,List.drop_length,addL,List.append_nil]
end Go.Ev.Pl
set_option linter.unusedSimpArgs false
set_option linter.unusedVariables false
namespace Go.Ev.Pl
open Go Go.Ev
def ixF {α:Type} (p:α→Bool):List α→Int→Int
 | [],_=>-1
 | x :: r,i=>if p x=true then i else ixF p r (i+1)
theorem ixF_any {α:Type} (p:α→Bool):∀ (l:List α) (i:Int),0≤i→decide (ixF p l i≥0)=l.any p
 | [],i,h=>by simp [ixF]
 | x :: r,i,h=>by
   unfold ixF
   cases hp:p x with
   | true=>simp [hp,h]
   | false=>simp [hp];have:=ixF_any p r (i+1) (by omega);simpa using this
theorem lt_cast {i n:Nat}:decide ((i:Int) < (n:Int))=decide (i < n):=by simp only [decide_eq_decide];omega
theorem ix_walk {α:Type} [Inhabited α] (p:α→Bool) (l:List α) (hl:l.length < 1099511627776) (res:Int) (hres:res=ixF p l 0) :
 ∃ (Inv:Int→Prop) (mu:Int→Nat),Inv 0∧∀ t:Int,Inv t→(decide (t < (l.length:Int))=true→0≤t∧t < (l.length:Int)∧(p (gd l t)=true→res=t)∧(p (gd l t)=false→Inv (w64 (t+1))∧mu (w64 (t+1)) < mu t))∧(decide (t < (l.length:Int))=false→res = -1):=by
 refine ⟨fun t=>∃ i:Nat,t=i∧i≤l.length∧ixF p (l.drop i) i=res,fun t=>(l.length - t).toNat,⟨0,rfl,by omega,by rw [hres];rfl⟩,?_⟩
 rintro t ⟨i,rfl,hi,he⟩
 rw [lt_cast]
 refine ⟨fun ht=>?_,fun ht=>?_⟩
 ·have ht:=of_decide_eq_true ht
  rw [List.drop_eq_getElem_cons ht,ixF] at he
  rw [gd_nat ht,show w64 ((i:Int)+1)=((i+1:Nat):Int) from w64_id (by omega) (by omega)]
  refine ⟨by omega,by omega,fun h=>?_,fun h=>?_⟩
  ·rw [if_pos h] at he;exact he.symm
  ·rw [if_neg (by rw [h];simp)] at he
   exact ⟨⟨i+1,rfl,by omega,by rw [← he];rfl⟩,by first | omega | (dsimp only;omega)⟩
 ·have ht:=of_decide_eq_false ht
  rw [List.drop_of_length_le (by omega)] at he
  exact he.symm
def risesB (m:Int):Int→List Int→Bool
 | _,[]=>true
 | last,x :: r=>if (decide (x≤last) || decide (x≥m))=true then false else risesB m x r
theorem rises_spec {m:Int}:∀ {l:List Int} {last:Int},risesB m last l=true↔SS l∧∀ x∈l,last < x∧x < m
 | [],last=>by simp [risesB]
 | x :: r,last=>by
   unfold risesB
   by_cases h:(decide (x≤last) || decide (x≥m))=true
   ·rw [if_pos h]
    simp only [Bool.or_eq_true,decide_eq_true_eq] at h
    constructor
    ·intro h;cases h
    ·rintro ⟨_,h2⟩;have:=h2 x (List.mem_cons_self ..);omega
   ·rw [if_neg h,rises_spec,show SS (x :: r)↔(∀ y∈r,x < y)∧SS r from List.pairwise_cons]
    simp only [Bool.or_eq_true,decide_eq_true_eq] at h
    constructor
    ·rintro ⟨h1,h2⟩
     refine ⟨⟨fun y hy=>(h2 y hy).1,h1⟩,fun y hy=>?_⟩
     rcases List.mem_cons.1 hy with rfl | hy
     ·omega
     ·have:=h2 y hy;omega
    ·rintro ⟨⟨h1,h2⟩,h3⟩
     exact ⟨h2,fun y hy=>⟨h1 y hy,(h3 y (List.mem_cons_of_mem _ hy)).2⟩⟩
theorem places_ok (l:List Int) (m:Int) (hl:l.length≤9223372036854775807):C_auto_places l m (risesB m (-1) l):=by
 refine W_auto_places l m _ ⟨fun s t=>∃ i:Nat,t=i∧i≤l.length∧risesB m s (l.drop i)=risesB m (-1) l,fun s t=>(l.length - t).toNat,⟨0,rfl,by omega,rfl⟩,?_⟩
 rintro s t ⟨i,rfl,hi,he⟩
 rw [lt_cast]
 refine ⟨fun ht=>?_,fun ht=>?_⟩
 ·have ht:=of_decide_eq_true ht
  rw [List.drop_eq_getElem_cons ht,risesB] at he
  rw [gd_nat ht,show w64 ((i:Int)+1)=((i+1:Nat):Int) from w64_id (by omega) (by omega)]
  refine ⟨by omega,by omega,fun h=>?_,fun h=>?_⟩
  ·rw [if_pos h] at he;exact he.symm
  ·rw [if_neg (by rw [h];simp)] at he
   exact ⟨⟨i+1,rfl,by omega,he⟩,by first | omega | (dsimp only;omega)⟩
 ·have ht:=of_decide_eq_false ht
  rw [List.drop_of_length_le (by omega)] at he
  exact he.symm
def oddB (i:Int):Bool:=decide (i < 0) || decide (i≥40)
def zeroB (s:arr4_uint64):Bool:=(0:Int) == s.e0 && ((0:Int) == s.e1 && ((0:Int) == s.e2 && ((0:Int) == s.e3 && true)))
def lensB (a:api_Auto):Bool:=decide ((a.Sets.length:Int) > 600) || ((a.Owner.length:Int) != (a.Sets.length:Int) || ((a.Follow.length:Int) != (a.Sets.length:Int) || ((a.Ends.length:Int) != (a.Sets.length:Int) || decide ((a.Starts.length:Int) > 16))))
def rightB (a:api_Auto):Bool:=if lensB a=true then false else if a.Owner.any oddB=true then false else if a.Sets.any zeroB=true then false else (a.Follow++a.Starts).all (risesB a.Sets.length (-1))
theorem odd_ok (l:List Int) (hl:l.length < 1099511627776):C_slices_ContainsFunc__int_int_at_auto_Right_L1 l (l.any oddB):=by
 obtain ⟨Inv,mu,h0,hs⟩:=ix_walk oddB l hl _ rfl
 rw [← ixF_any oddB l 0 (by omega)]
 exact W_slices_ContainsFunc__int_int_at_auto_Right_L1 l _ ⟨_,W_slices_IndexFunc__int_int_at_auto_Right_L1 l _ ⟨Inv,mu,h0,fun t ht=>⟨fun h=>let ⟨a,b,c,d⟩:=(hs t ht).1 h;⟨a,b,_,W_auto_Right_L1 _ _ rfl,c,d⟩,(hs t ht).2⟩⟩,rfl⟩
theorem zero_ok (l:List arr4_uint64) (hl:l.length < 1099511627776):C_slices_Contains__api_Set_api_Set l { e0:=0,e1:=0,e2:=0,e3:=0 } (l.any zeroB):=by
 obtain ⟨Inv,mu,h0,hs⟩:=ix_walk zeroB l hl _ rfl
 rw [← ixF_any zeroB l 0 (by omega)]
 exact W_slices_Contains__api_Set_api_Set l _ _ ⟨_,W_slices_Index__api_Set_api_Set l _ _ ⟨Inv,mu,h0,fun t ht=>⟨fun h=>(hs t ht).1 h,(hs t ht).2⟩⟩,rfl⟩
theorem lens_of {a:api_Auto} (h:lensB a=false):a.Sets.length≤600∧a.Owner.length=a.Sets.length∧a.Follow.length=a.Sets.length∧a.Ends.length=a.Sets.length∧a.Starts.length≤16:=by
 simp only [lensB,Bool.or_eq_false_iff,decide_eq_false_iff_not,bne_eq_false_iff_eq] at h
 omega
def Small (a:api_Auto):Prop:=∀ l∈a.Follow++a.Starts,l.length≤9223372036854775807
theorem right_ok (a:api_Auto) (hsm:Small a):C_auto_Right a (rightB a):=by
 refine W_auto_Right a _ ?_
 simp only [List.length_map]
 refine ⟨fun h=>by unfold rightB;rw [if_pos (show lensB a=true from h)],fun h=>?_⟩
 have hlens:=h
 obtain ⟨l1,l2,l3,l4,l5⟩:=lens_of (a:=a) h
 refine ⟨_,odd_ok a.Owner (by omega),fun h1=>by unfold rightB;rw [if_neg (by rw [show lensB a=false from h];simp),if_pos h1],fun h1=>⟨_,zero_ok a.Sets (by omega),fun h2=>by unfold rightB;rw [if_neg (by rw [show lensB a=false from h];simp),if_neg (by rw [h1];simp),if_pos h2],fun h2=>⟨auto_lists_ok a,⟨by omega,by omega⟩,?_⟩⟩⟩
 have hr:rightB a=(a.Follow++a.Starts).all (risesB a.Sets.length (-1)):=by
  unfold rightB;rw [if_neg (by rw [show lensB a=false from h];simp),if_neg (by rw [h1];simp),if_neg (by rw [h2];simp)]
 refine ⟨fun i=>((a.Follow++a.Starts).take i).all (risesB a.Sets.length (-1))=true,rightB a=false,by simp,fun i y hi hy hI=>?_,fun hI=>?_,fun hS=>hS⟩
 ·have hlen:i < (a.Follow++a.Starts).length:=by rw [List.length_append];exact hi
  have hy':y=(a.Follow++a.Starts)[i]:=by rw [hy,List.getD_eq_getElem?_getD,List.getElem?_eq_getElem hlen];rfl
  refine ⟨_,places_ok y _ (by rw [hy'];exact hsm _ (List.getElem_mem hlen)),fun hb=>?_,fun hb=>?_⟩
  ·rw [hr,List.all_eq_false]
   refine ⟨y,by rw [hy'];exact List.getElem_mem hlen,?_⟩
   simpa using hb
  ·show ((a.Follow++a.Starts).take (i+1)).all _=true
   have hI:((a.Follow++a.Starts).take i).all (risesB a.Sets.length (-1))=true:=hI
   rw [List.take_succ_eq_append_getElem hlen,List.all_append,hI]
   rw [hy'] at hb
   simpa using hb
 ·rw [hr,List.take_of_length_le (by rw [List.length_append];omega)] at *;exact hI
theorem zero2 (s:arr4_uint64):(s.e0 == (0:Int) && (s.e1 == (0:Int) && (s.e2 == (0:Int) && (s.e3 == (0:Int) && true))))=zeroB s:=by
 unfold zeroB
 rw [Bool.eq_iff_iff]
 simp only [Bool.and_eq_true,beq_iff_eq,and_true]
 constructor<;>rintro ⟨h1,h2,h3,h4⟩<;>exact ⟨h1.symm,h2.symm,h3.symm,h4.symm⟩
theorem right10_ok (a:api_Auto) (hsm:Small a):C_heckleref10_Right a (rightB a):=by
 refine W_heckleref10_Right a _ ?_
 simp only [List.length_map,zero2]
 refine ⟨fun h=>by unfold rightB;rw [if_pos (show lensB a=true from h)],fun h=>?_⟩
 obtain ⟨l1,l2,l3,l4,l5⟩:=lens_of (a:=a) h
 have hL:¬ lensB a=true:=by rw [show lensB a=false from h];simp
 refine ⟨fun t=>∃ i:Nat,t=i∧i≤a.Sets.length∧(a.Owner.take i).any oddB=false∧(a.Sets.take i).any zeroB=false,fun t=>(a.Sets.length - t).toNat,⟨0,rfl,by omega,by simp,by simp⟩,?_⟩
 rintro t ⟨i,rfl,hi,i1,i2⟩
 rw [lt_cast]
 refine ⟨fun ht=>?_,fun ht=>?_⟩
 ·have ht:=of_decide_eq_true ht
  have ho:i < a.Owner.length:=by omega
  rw [gd_nat ht,gd_nat ho,show w64 ((i:Int)+1)=((i+1:Nat):Int) from w64_id (by omega) (by omega)]
  refine ⟨by omega,by omega,fun _=>by omega,fun _=>by omega,fun _ _=>by omega,fun _ _=>by omega,fun hb=>?_,fun hb=>?_⟩
  ·unfold rightB
   rw [if_neg hL]
   by_cases h1:a.Owner.any oddB=true
   ·rw [if_pos h1]
   ·rw [if_neg h1]
    rw [if_pos]
    rw [← Bool.or_assoc] at hb
    rcases Bool.or_eq_true_iff.1 hb with hb | hb
    ·exact absurd (List.any_eq_true.2 ⟨_,List.getElem_mem ho,hb⟩) h1
    ·exact List.any_eq_true.2 ⟨_,List.getElem_mem ht,hb⟩
  ·rw [← Bool.or_assoc] at hb
   obtain ⟨hb1,hb2⟩:=Bool.or_eq_false_iff.1 hb
   refine ⟨⟨i+1,rfl,by omega,?_,?_⟩,by first | omega | (dsimp only;omega)⟩
   ·rw [List.take_succ_eq_append_getElem ho,List.any_append,i1];simpa [oddB] using hb1
   ·rw [List.take_succ_eq_append_getElem ht,List.any_append,i2];simpa using hb2
 have ht:=of_decide_eq_false ht
 have hi':i=a.Sets.length:=by omega
 subst hi'
 rw [List.take_of_length_le (by omega)] at i1 i2
 have hr:rightB a=(a.Follow++a.Starts).all (risesB a.Sets.length (-1)):=by
  unfold rightB;rw [if_neg hL,if_neg (by rw [i1];simp),if_neg (by rw [i2];simp)]
 have hw:w64 ((a.Sets.length:Int)+(a.Starts.length:Int))=((a.Sets.length+a.Starts.length:Nat):Int):=w64_id (by omega) (by omega)
 rw [hw]
 refine ⟨fun t=>∃ i:Nat,t=i∧i≤a.Sets.length+a.Starts.length∧((a.Follow++a.Starts).take i).all (risesB a.Sets.length (-1))=true,fun t=>(a.Sets.length+a.Starts.length - t).toNat,⟨0,rfl,by omega,by simp⟩,?_⟩
 rintro t ⟨i,rfl,hi,hI⟩
 simp only [lt_cast]
 refine ⟨fun ht=>?_,fun ht=>?_⟩
 ·have ht:=of_decide_eq_true ht
  have hlen:i < (a.Follow++a.Starts).length:=by rw [List.length_append];omega
  have hw2:w64 ((i:Int)+1)=((i+1:Nat):Int):=w64_id (by omega) (by omega)
  refine ⟨fun l=>l=(a.Follow++a.Starts)[i],?_,fun hc=>?_,fun hc=>?_⟩
  ·rintro l hl
   have hll:l.length≤9223372036854775807:=by rw [hl];exact hsm _ (List.getElem_mem hlen)
   refine ⟨fun t=>∃ k:Nat,t=k∧k≤l.length∧(∀ h:0 < k,∀ h2:k - 1 < l.length,0≤l[k - 1])∧risesB a.Sets.length (if h:0 < k∧k - 1 < l.length then l[k - 1]'h.2 else -1) (l.drop k)=risesB a.Sets.length (-1) l,fun t=>(l.length - t).toNat,⟨0,rfl,by omega,fun h=>absurd h (by omega),by simp⟩,?_⟩
   rintro t ⟨k,rfl,hk,hp,he⟩
   rw [lt_cast]
   refine ⟨fun hkt=>?_,fun hkt=>?_⟩
   ·have hkt:=of_decide_eq_true hkt
    have hwk:w64 ((k:Int)+1)=((k+1:Nat):Int):=w64_id (by omega) (by omega)
    rw [gd_nat hkt,hwk]
    have hkm:decide ((k:Int) > 0)=true→w64 ((k:Int) - 1)=((k - 1:Nat):Int):=fun h=>by
     have:=of_decide_eq_true h
     rw [w64_id (by omega) (by omega)];omega
    refine ⟨by omega,by omega,fun _=>by omega,fun _=>by omega,fun _ _ _=>by omega,fun _ _ _=>by omega,fun _ _ h=>by rw [hkm h];omega,fun _ _ h=>by rw [hkm h];omega,?_⟩
    have hcond:(decide (l[k] < 0) || (decide (l[k]≥(a.Sets.length:Int)) || decide ((k:Int) > 0) && decide (l[k]≤gd l (w64 ((k:Int) - 1)))))=(decide (l[k]≤(if h:0 < k∧k - 1 < l.length then l[k - 1]'h.2 else -1)) || decide (l[k]≥(a.Sets.length:Int))):=by
     by_cases h0:0 < k
     ·have hk1:k - 1 < l.length:=by omega
      rw [hkm (by simpa using h0),gd_nat hk1,dif_pos ⟨h0,hk1⟩]
      have:=hp h0 hk1
      rw [Bool.eq_iff_iff]
      simp only [Bool.or_eq_true,Bool.and_eq_true,decide_eq_true_eq]
      omega
     ·rw [dif_neg (fun h=>h0 h.1)]
      rw [Bool.eq_iff_iff]
      simp only [Bool.or_eq_true,Bool.and_eq_true,decide_eq_true_eq]
      omega
    rw [hcond]
    rw [List.drop_eq_getElem_cons hkt,risesB] at he
    refine ⟨fun hb=>?_,fun hb=>?_⟩
    ·rw [if_pos hb] at he
     rw [hr,List.all_eq_false]
     exact ⟨l,by rw [hl];exact List.getElem_mem hlen,by rw [← he];simp⟩
    ·rw [if_neg (by rw [hb];simp)] at he
     have hpos:0≤l[k]:=by
      simp only [Bool.or_eq_false_iff,decide_eq_false_iff_not] at hb
      by_cases h0:0 < k∧k - 1 < l.length
      ·rw [dif_pos h0] at hb;have:=hp h0.1 h0.2;omega
      ·rw [dif_neg h0] at hb;omega
     refine ⟨⟨k+1,rfl,by omega,fun _ h2=>by simpa using hpos,?_⟩,by first | omega | (dsimp only;omega)⟩
     rw [dif_pos ⟨by omega,by omega⟩]
     simpa using he
   ·have hkt:=of_decide_eq_false hkt
    rw [List.drop_of_length_le (by omega)] at he
    rw [hw2]
    refine ⟨⟨i+1,rfl,by omega,?_⟩,by first | omega | (dsimp only;omega)⟩
    rw [List.take_succ_eq_append_getElem hlen,List.all_append,hI,← hl]
    simp [← he,risesB]
  ·have hc:=of_decide_eq_true hc
   refine ⟨by omega,by omega,?_⟩
   rw [gd_nat (show i < a.Follow.length by omega),List.getElem_append_left]
  ·have hc:=of_decide_eq_false hc
   have hw3:w64 ((i:Int) - (a.Sets.length:Int))=((i - a.Sets.length:Nat):Int):=by rw [w64_id (by omega) (by omega)];omega
   rw [hw3]
   refine ⟨by omega,by omega,?_⟩
   rw [gd_nat (show i - a.Sets.length < a.Starts.length by omega),List.getElem_append_right (by omega)]
   simp only [l3]
 ·have ht:=of_decide_eq_false ht
  rw [hr]
  rw [List.take_of_length_le (by rw [List.length_append];omega)] at hI
  exact hI.symm▸rfl
end Go.Ev.Pl
set_option linter.unusedSimpArgs false
set_option linter.unusedVariables false
namespace Go.Ev.Pl
open Go Go.Ev Go.Proofs Go.RowKit
theorem rd_set:RdTy Try.prog 33 enc_arr4_uint64 4 (fun _=>True):=by
 intro H e W fuel cs x h
 obtain ⟨hl,hf⟩:=rd_elems Try.underlying33 h
 have e1:Try.prog.cellsOf 33=4:=by kernel_rfl
 have e2:Try.prog.cellsOf 31=1:=by kernel_rfl
 rw [e1] at hl
 rw [e2] at hf
 have g:∀ i,i < 4→∃ z,(cs.drop i).take 1=[Value.int .u64 z]:=fun i hi=>by
  obtain ⟨m,y,hm⟩:=hf i hi
  rw [Nat.mul_one] at hm
  obtain ⟨z,-,hr⟩:=rd_int Try.underlying31 _ _ _ _ _ _ hm
  obtain ⟨u,y,h1,h2,h3⟩:=hr.one
  refine ⟨z,?_⟩
  rw [h1]
  cases h2;cases h3;rfl
 obtain ⟨a,g0⟩:=g 0 (by omega)
 obtain ⟨b,g1⟩:=g 1 (by omega)
 obtain ⟨c,g2⟩:=g 2 (by omega)
 obtain ⟨d,g3⟩:=g 3 (by omega)
 match cs,hl with
 | [c0,c1,c2,c3],_=>
   cases g0;cases g1;cases g2;cases g3
   refine ⟨⟨a,b,c,d⟩,trivial,rfl,rfl,fun j y u h1 h2=>?_⟩
   match j with
   | 0=>cases h1;cases h2;exact .pv _ rfl
   | 1=>cases h1;cases h2;exact .pv _ rfl
   | 2=>cases h1;cases h2;exact .pv _ rfl
   | 3=>cases h1;cases h2;exact .pv _ rfl
   | j+4=>cases h2
set_option maxRecDepth 20000 in
theorem rd_auto:RdTy Try.prog 55 enc_api_Auto 5 Small:=by
 intro H e W fuel cs x h
 obtain ⟨hl,hf⟩:=rd_fields Try.underlying55 h
 have e1:Try.prog.cellsOf 55=5:=by kernel_rfl
 rw [e1] at hl
 have ints:RdTy Try.prog 30 (fun l:List Int=>.sl (List.map enc_i64 l)) 1 _:=rd_list Try.underlying30 (by kernel_rfl) (by omega) (rd_int Try.underlying3)
 have intss:RdTy Try.prog 53 (fun l:List (List Int)=>.sl (List.map encs_i64 l)) 1 _:=rd_list Try.underlying53 (by kernel_rfl) (by omega) ints
 have sets:RdTy Try.prog 52 (fun l:List arr4_uint64=>.sl (List.map enc_arr4_uint64 l)) 1 _:=rd_list Try.underlying52 (by kernel_rfl) (by omega) rd_set
 have bools:RdTy Try.prog 49 (fun l:List Bool=>.sl (List.map enc_bool l)) 1 _:=rd_list Try.underlying49 (by kernel_rfl) (by omega) (rd_bool Try.underlying4)
 have k30:Try.prog.cellsOf 30=1:=by kernel_rfl
 have k53:Try.prog.cellsOf 53=1:=by kernel_rfl
 have k52:Try.prog.cellsOf 52=1:=by kernel_rfl
 have k49:Try.prog.cellsOf 49=1:=by kernel_rfl
 match cs,hl with
 | [c0,c1,c2,c3,c4],_=>
   obtain ⟨m0,y0,h0⟩:=hf 0 _ rfl 0 52 [c0] rfl rfl (by rw [k52];rfl)
   obtain ⟨m1,y1,h1⟩:=hf 1 _ rfl 1 30 [c1] rfl rfl (by rw [k30];rfl)
   obtain ⟨m2,y2,h2⟩:=hf 2 _ rfl 2 53 [c2] rfl rfl (by rw [k53];rfl)
   obtain ⟨m3,y3,h3⟩:=hf 3 _ rfl 3 49 [c3] rfl rfl (by rw [k49];rfl)
   obtain ⟨m4,y4,h4⟩:=hf 4 _ rfl 4 53 [c4] rfl rfl (by rw [k53];rfl)
   obtain ⟨S,w0,r0⟩:=sets _ _ _ _ _ _ h0
   obtain ⟨O,w1,r1⟩:=ints _ _ _ _ _ _ h1
   obtain ⟨F,w2,r2⟩:=intss _ _ _ _ _ _ h2
   obtain ⟨E,w3,r3⟩:=bools _ _ _ _ _ _ h3
   obtain ⟨T,w4,r4⟩:=intss _ _ _ _ _ _ h4
   have hm:maxLen=9223372036854775807:=by decide
   refine ⟨⟨S,O,F,E,T⟩,fun l hl=>?_,rfl,rfl,fun j y u q1 q2=>?_⟩
   ·rcases List.mem_append.1 hl with hl | hl
    ·have:=(w2.2 l hl).1;omega
    ·have:=(w4.2 l hl).1;omega
   ·match j with
    | 0=>cases q1;cases q2;exact r0.2.2 0 _ _ rfl rfl
    | 1=>cases q1;cases q2;exact r1.2.2 0 _ _ rfl rfl
    | 2=>cases q1;cases q2;exact r2.2.2 0 _ _ rfl rfl
    | 3=>cases q1;cases q2;exact r3.2.2 0 _ _ rfl rfl
    | 4=>cases q1;cases q2;exact r4.2.2 0 _ _ rfl rfl
    | j+5=>cases q2
theorem r1_auto {W:World} {a:api_Auto} {cs:Array Value} (h:Rd enc_api_Auto 5 W a cs.toList):R1 Try.prog [] no W (av_api_Auto a) (.agg cs):=by
 refine ⟨cs,rfl,by have:=h.1;simpa using this.symm,fun j x v h1 h2=>?_⟩
 have h2:cs.toList[j]?=some v:=by simpa using h2
 have h3:=h.2.2 j
 match j with
 | 0=>cases h1;exact ⟨rfl,h3 _ _ rfl h2⟩
 | 1=>cases h1;exact ⟨rfl,h3 _ _ rfl h2⟩
 | 2=>cases h1;exact ⟨rfl,h3 _ _ rfl h2⟩
 | 3=>cases h1;exact ⟨rfl,h3 _ _ rfl h2⟩
 | 4=>cases h1;exact ⟨rfl,h3 _ _ rfl h2⟩
 | j+5=>cases h1
end Go.Ev.Pl
set_option linter.unusedSimpArgs false
set_option linter.unusedVariables false
namespace Go.Ev.Pl
open Go Go.Ev
structure Gd (a:api_Auto):Prop where
 l1:a.Sets.length≤600
 l2:a.Owner.length=a.Sets.length
 l3:a.Follow.length=a.Sets.length
 l4:a.Ends.length=a.Sets.length
 own:∀ x∈a.Owner,0≤x
 rise:∀ l∈a.Follow++a.Starts,SS l∧∀ x∈l,0≤x∧x < a.Sets.length
theorem gd_of {a:api_Auto} (h:rightB a=true):Gd a:=by
 unfold rightB at h
 split at h
 ·cases h
 ·rename_i h0
  split at h
  ·cases h
  ·rename_i h1
   split at h
   ·cases h
   ·obtain ⟨l1,l2,l3,l4,l5⟩:=lens_of (a:=a) (by simpa using h0)
    refine ⟨l1,l2,l3,l4,fun x hx=>?_,fun l hl=>?_⟩
    ·have:oddB x=false:=by
      rw [Bool.eq_false_iff];exact fun e=>h1 (List.any_eq_true.2 ⟨x,hx,e⟩)
     simp only [oddB,Bool.or_eq_false_iff,decide_eq_false_iff_not] at this;omega
    ·have:=rises_spec.1 (List.all_eq_true.1 h l hl)
     exact ⟨this.1,fun x hx=>by have:=this.2 x hx;omega⟩
theorem ss_len {n:Nat}:∀ {l:List Int} {k:Int},SS l→(∀ x∈l,k≤x∧x < n)→k≤n→(l.length:Int)≤n - k
 | [],k,_,_,hk=>by simp;omega
 | x :: r,k,h,hx,hk=>by
   have hc:=List.pairwise_cons.1 h
   have h0:=hx x (List.mem_cons_self ..)
   have:=ss_len (k:=x+1) hc.2 (fun y hy=>⟨by have:=hc.1 y hy;omega,(hx y (List.mem_cons_of_mem _ hy)).2⟩) (by omega)
   simp only [List.length_cons];omega
def hasP (a:api_Auto) (c p:Int):Bool:=setHas (gd a.Sets p) c
def nxF (a:api_Auto) (c:Int) (acc:List Int) (p:Int):List Int:=if hasP a c p=true then addL acc (gd a.Follow p) else acc
def nx (a:api_Auto) (fr:List Int) (c:Int):List Int:=fr.foldl (nxF a c) []
def beF (a:api_Auto) (c:Int) (b p:Int):Int:=if hasP a c p=true then (if (gd a.Ends p && (decide (b < 0) || decide (gd a.Owner p < b)))=true then gd a.Owner p else b) else b
def best (a:api_Auto) (fr:List Int) (c:Int):Int:=fr.foldl (beF a c) (-1)
def InR (a:api_Auto) (l:List Int):Prop:=SS l∧∀ x∈l,0≤x∧x < a.Sets.length
theorem InR.len {a:api_Auto} (g:Gd a) {l:List Int} (h:InR a l):l.length≤600:=by
 have:=ss_len (n:=a.Sets.length) (k:=0) h.1 h.2 (by omega)
 have:=g.l1;omega
theorem gd_mem {α:Type} [Inhabited α] {l:List α} {p:Int} (h0:0≤p) (h:p < l.length):gd l p∈l:=by
 obtain ⟨i,rfl⟩:∃ i:Nat,p=i:=⟨p.toNat,by omega⟩
 rw [gd_nat (show i < l.length by omega)];exact List.getElem_mem _
theorem Gd.fol {a:api_Auto} (g:Gd a) {p:Int} (h0:0≤p) (h:p < a.Sets.length):InR a (gd a.Follow p):=g.rise _ (List.mem_append_left _ (gd_mem h0 (by rw [g.l3];exact h)))
theorem nx_go {a:api_Auto} (g:Gd a) (c:Int):∀ {fr acc:List Int},(∀ x∈fr,0≤x∧x < a.Sets.length)→InR a acc→
 InR a (fr.foldl (nxF a c) acc)∧∀ x,x∈fr.foldl (nxF a c) acc↔x∈acc∨∃ p∈fr,hasP a c p=true∧x∈gd a.Follow p
 | [],acc,_,h=>⟨h,fun x=>by simp⟩
 | p :: r,acc,hf,h=>by
   have hp:=hf p (List.mem_cons_self ..)
   have hF:=g.fol hp.1 hp.2
   have h':InR a (nxF a c acc p):=by
    unfold nxF
    split
    ·exact ⟨addL_ss h.1 hF.1,fun x hx=>by rcases (addL_mem _ _ _).1 hx with hx | hx;exact h.2 x hx;exact hF.2 x hx⟩
    ·exact h
   obtain ⟨q1,q2⟩:=nx_go g c (fr:=r) (acc:=nxF a c acc p) (fun x hx=>hf x (List.mem_cons_of_mem _ hx)) h'
   refine ⟨q1,fun x=>?_⟩
   show x∈r.foldl (nxF a c) (nxF a c acc p)↔_
   rw [q2]
   have:x∈nxF a c acc p↔x∈acc∨(hasP a c p=true∧x∈gd a.Follow p):=by
    unfold nxF
    split
    ·rename_i e;rw [addL_mem];simp [e]
    ·rename_i e;simp [e]
   rw [this]
   simp only [List.mem_cons,exists_eq_or_imp,or_assoc]
theorem inr_nil {a:api_Auto}:InR a []:=⟨List.Pairwise.nil,fun x h=>by simp at h⟩
theorem nx_in {a:api_Auto} (g:Gd a) {fr:List Int} (c:Int) (hf:∀ x∈fr,0≤x∧x < a.Sets.length):InR a (nx a fr c):=(nx_go g c hf inr_nil).1
theorem be_pos {a:api_Auto} (g:Gd a) (c:Int):∀ {fr:List Int} {b:Int},(∀ x∈fr,0≤x∧x < a.Sets.length)→-1≤b→-1≤fr.foldl (beF a c) b
 | [],b,_,h=>h
 | p :: r,b,hf,h=>by
   have hp:=hf p (List.mem_cons_self ..)
   refine be_pos g c (fr:=r) (fun x hx=>hf x (List.mem_cons_of_mem _ hx)) ?_
   unfold beF
   split
   ·split
    ·have:=g.own _ (gd_mem hp.1 (by rw [g.l2];exact hp.2));omega
    ·exact h
   ·exact h
theorem best_pos {a:api_Auto} (g:Gd a) {fr:List Int} (c:Int) (hf:∀ x∈fr,0≤x∧x < a.Sets.length):-1≤best a fr c:=be_pos g c hf (by omega)
theorem foldl_take {α β:Type} (f:β→α→β) (b:β) {l:List α} {i:Nat} (h:i < l.length):(l.take (i+1)).foldl f b=f ((l.take i).foldl f b) l[i]:=by
 rw [List.take_succ_eq_append_getElem h,List.foldl_append];rfl
theorem flat_len:∀ {L:List (List Int)},(∀ l∈L,l.length≤600)→L.flatten.length≤L.length * 600
 | [],_=>by simp
 | l :: L,h=>by
   have:=flat_len (L:=L) fun x hx=>h x (List.mem_cons_of_mem _ hx)
   have:=h l (List.mem_cons_self ..)
   simp only [List.flatten_cons,List.length_append,List.length_cons];omega
theorem read_ok (a:api_Auto) (g:Gd a) (fr:List Int) (c:Int) (hf:InR a fr):C_auto_Read a fr c (nx a fr c) (best a fr c):=by
 have hfl:=hf.len g
 refine W_auto_Read a fr c _ _ ⟨fun r F t=>∃ i:Nat,t=i∧i≤fr.length∧r=best a (fr.take i) c∧F=((fr.take i).filter (hasP a c)).map (gd a.Follow),fun r F t=>(fr.length - t).toNat,⟨0,rfl,by omega,rfl,rfl⟩,?_⟩
 rintro r F t ⟨i,rfl,hi,rfl,rfl⟩
 rw [lt_cast]
 have hlen:(((fr.take i).filter (hasP a c)).map (gd a.Follow)).length≤i:=by
  rw [List.length_map];exact Nat.le_trans (List.length_filter_le _ _) (by rw [List.length_take];omega)
 refine ⟨fun ht=>?_,fun ht=>?_⟩
 ·have ht:=of_decide_eq_true ht
  have hp:=hf.2 _ (List.getElem_mem ht)
  have hb:=best_pos g (fr:=fr.take i) c fun x hx=>hf.2 x (List.mem_of_mem_take hx)
  have hbe:(best a (fr.take i) c == -1)=decide (best a (fr.take i) c < 0):=by
   rw [Bool.eq_iff_iff];simp only [beq_iff_eq,decide_eq_true_eq];omega
  have hnext:∀ r' F',r'=best a (fr.take (i+1)) c→F'=((fr.take (i+1)).filter (hasP a c)).map (gd a.Follow)→r'=best a (fr.take (i+1)) c∧F'=((fr.take (i+1)).filter (hasP a c)).map (gd a.Follow):=fun _ _ h1 h2=>⟨h1,h2⟩
  have hB:best a (fr.take (i+1)) c=beF a c (best a (fr.take i) c) fr[i]:=foldl_take _ _ ht
  have hF:((fr.take (i+1)).filter (hasP a c)).map (gd a.Follow)=((fr.take i).filter (hasP a c)).map (gd a.Follow)++(if hasP a c fr[i]=true then [gd a.Follow fr[i]] else []):=by
   rw [List.take_succ_eq_append_getElem ht,List.filter_append,List.map_append]
   congr 1
   by_cases h:hasP a c fr[i]=true
   ·rw [if_pos h];simp [h]
   ·rw [if_neg h];simp [h]
  rw [gd_nat ht,show w64 ((i:Int)+1)=((i+1:Nat):Int) from w64_id (by omega) (by omega),hbe]
  refine ⟨fun r' F'=>r'=best a (fr.take (i+1)) c∧F'=((fr.take (i+1)).filter (hasP a c)).map (gd a.Follow),fun r' F' h=>⟨⟨i+1,rfl,by omega,h.1,h.2⟩,by first | omega | (dsimp only;omega)⟩,by omega,by omega,hp.1,hp.2,_,setHas_ok _ _,fun h=>?_,fun h=>?_⟩
  ·have h:¬ hasP a c fr[i]=true:=by unfold hasP;simpa using h
   exact ⟨by rw [hB,beF,if_neg h],by rw [hF,if_neg h,List.append_nil]⟩
  ·have h:hasP a c fr[i]=true:=by unfold hasP;simpa using h
   have:=g.l2;have:=g.l3;have:=g.l4
   refine ⟨hp.1,by omega,by omega,hp.1,by omega,fun _ _=>hp.1,fun _ _=>by omega,fun h2=>⟨hp.1,by omega,?_,?_⟩,fun h2=>⟨?_,?_⟩⟩
   ·rw [hB,beF,if_pos h,if_pos h2]
   ·rw [hF,if_pos h]
   ·rw [hB,beF,if_pos h,if_neg (by rw [h2];simp)]
   ·rw [hF,if_pos h]
 ·have ht:=of_decide_eq_false ht
  have hi':i=fr.length:=by omega
  subst hi'
  rw [List.take_length] at hlen ⊢
  have hL:∀ l∈(fr.filter (hasP a c)).map (gd a.Follow),l.length≤600:=by
   intro l hl
   obtain ⟨p,hp,rfl⟩:=List.mem_map.1 hl
   have hp:=hf.2 p (List.mem_filter.1 hp).1
   exact (g.fol hp.1 hp.2).len g
  have hft:=flat_len hL
  refine ⟨_,concat_ok _ (by omega) (by omega),_,join_ok _ _ (by omega) (by simp),?_,rfl⟩
  obtain ⟨q1,q2⟩:=nx_go g c hf.2 (inr_nil (a:=a))
  obtain ⟨j1,j2⟩:=join_spec ((fr.filter (hasP a c)).map (gd a.Follow)).flatten []
  refine ss_ext q1.1 j1 fun x=>?_
  show x∈fr.foldl (nxF a c) []↔_
  rw [q2,j2]
  simp only [List.not_mem_nil,false_or,or_false,List.mem_flatten,List.mem_map,List.mem_filter]
  constructor
  ·rintro ⟨p,h1,h2,h3⟩;exact ⟨_,⟨p,⟨h1,h2⟩,rfl⟩,h3⟩
  ·rintro ⟨_,⟨p,⟨h1,h2⟩,rfl⟩,h3⟩;exact ⟨p,h1,h2,h3⟩
def runN (a:api_Auto) (w:ByteArray):Nat→List Int→Int→Int→Nat→Int×Int
 | 0,_,r,m,_=>(r,m)
 | k+1,fr,r,m,i=>if fr=[] then (r,m) else
   runN a w k (nx a fr (w64 ((byteAt w (i:Int)).toNat:Int))) (if best a fr (w64 ((byteAt w (i:Int)).toNat:Int)) = -1 then r else best a fr (w64 ((byteAt w (i:Int)).toNat:Int))) (if best a fr (w64 ((byteAt w (i:Int)).toNat:Int)) = -1 then m else ((i+1:Nat):Int)) (i+1)
theorem runN_nil (a:api_Auto) (w:ByteArray) (k:Nat) (r m:Int) (i:Nat):runN a w k [] r m i=(r,m):=by cases k<;>simp [runN]
theorem oddR_ok (fr:List Int) (a:api_Auto) (hl:fr.length < 1099511627776):C_slices_ContainsFunc__int_int_at_auto_Run_L1 fr a (fr.any fun p=>decide (p < 0) || decide (p≥(a.Sets.length:Int))) a:=by
 obtain ⟨Inv,mu,h0,hs⟩:=ix_walk (fun p=>decide (p < 0) || decide (p≥(a.Sets.length:Int))) fr hl _ rfl
 rw [← ixF_any _ fr 0 (by omega)]
 refine W_slices_ContainsFunc__int_int_at_auto_Run_L1 fr a _ _ ⟨_,a,W_slices_IndexFunc__int_int_at_auto_Run_L1 fr a _ _ ⟨fun s o f e st t=>Inv t∧api_Auto.mk s o f e st=a,fun _ _ _ _ _ t=>mu t,⟨h0,rfl⟩,?_⟩,rfl,rfl⟩
 rintro s o f e st t ⟨hi,rfl⟩
 exact ⟨fun h=>let ⟨q1,q2,q3,q4⟩:=(hs t hi).1 h;⟨q1,q2,_,_,W_auto_Run_L1 _ _ _ _ ⟨rfl,rfl⟩,fun h=>⟨q3 h,rfl⟩,fun h=>⟨⟨(q4 h).1,rfl⟩,(q4 h).2⟩⟩,fun h=>⟨(hs t hi).2 h,rfl⟩⟩
theorem run_ok (a:api_Auto) (g:Gd a) (hr:C_auto_Right a true) (fr:List Int) (hf:InR a fr) (w:ByteArray) (hw:w.size < 1000):C_auto_Run a fr w (runN a w w.size fr (-1) 0 0).1 (runN a w w.size fr (-1) 0 0).2:=by
 refine W_auto_Run a fr w _ _ ⟨true,hr,(fun h=>by cases h),fun _=>⟨_,a,oddR_ok fr a (by have:=hf.len g;omega),fun h=>?_,fun _=>?_⟩⟩
 ·obtain ⟨p,hp,h⟩:=List.any_eq_true.1 h
  have:=hf.2 p hp
  simp only [Bool.or_eq_true,decide_eq_true_eq] at h;omega
 ·refine ⟨fun r m=>(r,m)=runN a w w.size fr (-1) 0 0,fun r m h=>by rw [← h];exact ⟨rfl,rfl⟩,fun f r m t=>∃ i:Nat,t=i∧i≤w.size∧InR a f∧runN a w (w.size - i) f r m i=runN a w w.size fr (-1) 0 0,fun f r m t=>(w.size - t).toNat,⟨0,rfl,by omega,hf,rfl⟩,?_⟩
  rintro f r m t ⟨i,rfl,hi,hif,he⟩
  rw [lt_cast]
  refine ⟨fun ht=>?_,fun ht=>?_⟩
  ·have ht:=of_decide_eq_true ht
   rw [show w64 ((i:Int)+1)=((i+1:Nat):Int) from w64_id (by omega) (by omega)]
   obtain ⟨c,hc⟩:∃ c,c=w64 ((byteAt w (i:Int)).toNat:Int):=⟨_,rfl⟩
   rw [← hc]
   have hn:=nx_in g c hif.2
   obtain ⟨k,hk⟩:∃ k,w.size - i=k+1:=⟨w.size - i - 1,by omega⟩
   have hk2:w.size - (i+1)=k:=by omega
   have hstep:runN a w k (nx a f c) (if best a f c = -1 then r else best a f c) (if best a f c = -1 then m else ((i+1:Nat):Int)) (i+1)=runN a w w.size fr (-1) 0 0:=by
    rw [← he,hk]
    by_cases hnil:f=[]
    ·subst hnil
     rw [runN,if_pos rfl]
     show runN a w k [] _ _ _=_
     rw [runN_nil];rfl
    ·rw [runN,if_neg hnil,← hc]
   refine ⟨by omega,by omega,_,_,read_ok a g f c hif,fun r' m'=>r'=(if best a f c = -1 then r else best a f c)∧m'=(if best a f c = -1 then m else ((i+1:Nat):Int)),?_,fun h=>?_,fun h=>?_⟩
   ·rintro r' m' ⟨rfl,rfl⟩
    refine ⟨fun h=>?_,fun h=>⟨⟨i+1,rfl,by omega,hn,by rw [hk2];exact hstep⟩,by first | omega | (dsimp only;omega)⟩⟩
    have hnil:nx a f c=[]:=by
     have:((nx a f c).length:Int)=0:=by simpa using h
     exact List.length_eq_zero_iff.1 (by omega)
    rw [hnil,runN_nil] at hstep
    exact hstep
   ·have h:best a f c≠-1:=by simpa using h
    exact ⟨by rw [if_neg h],by rw [if_neg h]⟩
   ·have h:best a f c = -1:=by simpa using h
    exact ⟨by rw [if_pos h],by rw [if_pos h]⟩
  ·have ht:=of_decide_eq_false ht
   rw [show w.size - i=0 by omega,runN] at he
   exact he
theorem run10_ok (a:api_Auto) (g:Gd a) (fr:List Int) (hf:InR a fr) (w:ByteArray) (hw:w.size < 1000):C_heckleref10_Run a fr w (runN a w w.size fr (-1) 0 0).1 (runN a w w.size fr (-1) 0 0).2:=by
 refine W_heckleref10_Run a fr w _ _ ⟨fun r m f t=>∃ i:Nat,t=i∧i≤w.size∧InR a f∧runN a w (w.size - i) f r m i=runN a w w.size fr (-1) 0 0,fun r m f t=>(w.size - t).toNat,⟨0,rfl,by omega,hf,rfl⟩,?_⟩
 rintro r m f t ⟨i,rfl,hi,hif,he⟩
 rw [lt_cast]
 refine ⟨fun ht=>?_,fun ht=>?_⟩
 ·obtain ⟨ht,hne⟩:=Bool.and_eq_true_iff.1 ht
  have ht:=of_decide_eq_true ht
  have hne:=of_decide_eq_true hne
  have hnil:f≠[]:=by rintro rfl;simp at hne
  have hfl:=hif.len g
  rw [show w64 ((i:Int)+1)=((i+1:Nat):Int) from w64_id (by omega) (by omega)]
  obtain ⟨c,hc⟩:∃ c,c=w64 ((byteAt w (i:Int)).toNat:Int):=⟨_,rfl⟩
  rw [← hc]
  obtain ⟨k,hk⟩:∃ k,w.size - i=k+1:=⟨w.size - i - 1,by omega⟩
  have hk2:w.size - (i+1)=k:=by omega
  rw [hk,runN,if_neg hnil,← hc] at he
  refine ⟨fun o b t=>∃ j:Nat,t=j∧j≤f.length∧o=nx a (f.take j) c∧b=best a (f.take j) c,fun o b t=>(f.length - t).toNat,⟨0,rfl,by omega,rfl,rfl⟩,?_⟩
  rintro o b t ⟨j,rfl,hj,rfl,rfl⟩
  rw [lt_cast]
  refine ⟨fun hjt=>?_,fun hjt=>?_⟩
  ·have hjt:=of_decide_eq_true hjt
   have hp:=hif.2 _ (List.getElem_mem hjt)
   have hN:nx a (f.take (j+1)) c=nxF a c (nx a (f.take j) c) f[j]:=foldl_take _ _ hjt
   have hB:best a (f.take (j+1)) c=beF a c (best a (f.take j) c) f[j]:=foldl_take _ _ hjt
   have hin:=nx_in g (fr:=f.take j) c fun x hx=>hif.2 x (List.mem_of_mem_take hx)
   have:=g.l2;have:=g.l3;have:=g.l4
   rw [gd_nat hjt,show w64 ((j:Int)+1)=((j+1:Nat):Int) from w64_id (by omega) (by omega)]
   refine ⟨fun o' b'=>o'=nx a (f.take (j+1)) c∧b'=best a (f.take (j+1)) c,fun o' b' h=>⟨⟨j+1,rfl,by omega,h.1,h.2⟩,by first | omega | (dsimp only;omega)⟩,by omega,by omega,hp.1,hp.2,by omega,by omega,_,has_ok _ _,fun h=>?_,fun h=>?_⟩
   ·have h:¬ hasP a c f[j]=true:=by unfold hasP;simpa using h
    exact ⟨by rw [hN,nxF,if_neg h],by rw [hB,beF,if_neg h]⟩
   ·have h:hasP a c f[j]=true:=by unfold hasP;simpa using h
    refine ⟨hp.1,by omega,_,add_ok _ _ (by have:=hin.len g;omega) (by have:=(g.fol hp.1 hp.2).len g;omega),hp.1,by omega,fun _ _=>hp.1,fun _ _=>by omega,fun h2=>⟨hp.1,by omega,?_,?_⟩,fun h2=>⟨?_,?_⟩⟩
    ·rw [hN,nxF,if_pos h]
    ·rw [hB,beF,if_pos h,if_pos h2]
    ·rw [hN,nxF,if_pos h]
    ·rw [hB,beF,if_pos h,if_neg (by rw [h2];simp)]
  ·have hjt:=of_decide_eq_false hjt
   have hj':j=f.length:=by omega
   subst hj'
   rw [List.take_length]
   have hb:=best_pos g (fr:=f) c hif.2
   refine ⟨fun r' m'=>r'=(if best a f c = -1 then r else best a f c)∧m'=(if best a f c = -1 then m else ((i+1:Nat):Int)),?_,fun h=>?_,fun h=>?_⟩
   ·rintro r' m' ⟨rfl,rfl⟩
    exact ⟨⟨i+1,rfl,by omega,nx_in g c hif.2,by rw [hk2];exact he⟩,by first | omega | (dsimp only;omega)⟩
   ·have h:=of_decide_eq_true h
    have hn:¬ best a f c = -1:=by omega
    exact ⟨by rw [if_neg hn],by rw [if_neg hn]⟩
   ·have h:=of_decide_eq_false h
    have hn:best a f c = -1:=by omega
    exact ⟨by rw [if_pos hn],by rw [if_pos hn]⟩
 ·have:i=w.size∨f=[]:=by
   rcases Bool.and_eq_false_iff.1 ht with h | h
   ·have:=of_decide_eq_false h;left;omega
   ·have:=of_decide_eq_false h;right;exact List.length_eq_zero_iff.1 (by omega)
  rcases this with h | h
  ·rw [show w.size - i=0 by omega,runN] at he
   rw [← he];exact ⟨rfl,rfl⟩
  ·rw [h,runN_nil] at he
   rw [← he];exact ⟨rfl,rfl⟩
theorem autoRight_ok (hawake:C_hecklelaw10_awake true) (a:api_Auto) (hsm:Small a) (w:ByteArray):C_hecklelaw10_AutoRight a w true:=by
 refine W_hecklelaw10_AutoRight a w _ ?_
 simp only [List.length_map]
 refine ⟨fun _=>⟨true,hawake,rfl⟩,fun h=>⟨_,right_ok a hsm,_,right10_ok a hsm,fun h=>by cases h2:rightB a<;>rw [h2] at h<;>simp at h,fun _=>?_⟩⟩
 simp only [Bool.or_eq_false_iff,decide_eq_false_iff_not] at h
 refine ⟨fun t=>∃ i:Nat,t=i∧i≤a.Starts.length,fun t=>(a.Starts.length - t).toNat,⟨0,rfl,by omega⟩,?_⟩
 rintro t ⟨i,rfl,hi⟩
 rw [lt_cast]
 refine ⟨fun ht=>?_,fun _=>⟨true,hawake,rfl⟩⟩
 have ht:=of_decide_eq_true ht
 rw [gd_nat ht,show w64 ((i:Int)+1)=((i+1:Nat):Int) from w64_id (by omega) (by omega)]
 refine ⟨True,fun _=>⟨⟨i+1,rfl,by omega⟩,by first | omega | (dsimp only;omega)⟩,by omega,by omega,?_⟩
 cases hr:rightB a with
 | false=>
   have h1:=right_ok a hsm
   rw [hr] at h1
   have h2:=right10_ok a hsm
   rw [hr] at h2
   exact ⟨-1,0,W_auto_Run a _ w _ _ ⟨false,h1,fun _=>⟨rfl,rfl⟩,fun h=>by cases h⟩,false,h2,fun _=>trivial,fun h=>by cases h⟩
 | true=>
   have h1:=right_ok a hsm
   rw [hr] at h1
   have h2:=right10_ok a hsm
   rw [hr] at h2
   have g:=gd_of hr
   have hf:InR a a.Starts[i]:=g.rise _ (List.mem_append_right _ (List.getElem_mem ht))
   exact ⟨_,_,run_ok a g h1 _ hf w (by omega),true,h2,(fun h=>by cases h),fun _=>⟨by omega,by omega,_,_,run10_ok a g _ hf w (by omega),(fun h=>by simp at h),fun _=>trivial⟩⟩
end Go.Ev.Pl
set_option linter.unusedVariables false
set_option linter.unusedSimpArgs false
namespace Go.Ev
open Go Go.RowKit
variable {P : Program}
section
variable {R : Type}
def fNat (n:Nat) (k:Nat→R):R:=match n with
 | .zero=>k 0
 | .succ n=>k (.succ n)
theorem fNat_eq (n:Nat) (k:Nat→R):fNat n k=k n:=by cases n<;>rfl
def fInt (n:Int) (k:Int→R):R:=match n with
 | .ofNat n=>fNat n fun n=>k (.ofNat n)
 | .negSucc n=>fNat n fun n=>k (.negSucc n)
theorem fInt_eq (n:Int) (k:Int→R):fInt n k=k n:=by cases n<;>simp [fInt,fNat_eq]
def fBo (b:Bool) (k:Bool→R):R:=match b with
 | true=>k true
 | false=>k false
theorem fBo_eq (b:Bool) (k:Bool→R):fBo b k=k b:=by cases b<;>rfl
def fVal (v:Value) (k:Value→R):R:=match v with
 | .int q n=>fInt n fun n=>k (.int q n)
 | .bool b=>fBo b fun b=>k (.bool b)
 | v=>k v
theorem fVal_eq (v:Value) (k:Value→R):fVal v k=k v:=by
 unfold fVal
 split
 ·exact fInt_eq _ _
 ·exact fBo_eq _ _
 ·rfl
def fList {α:Type} (f:α→(α→R)→R):List α→(List α→R)→R
 | [],k=>k []
 | a :: l,k=>f a fun a=>fList f l fun l=>k (a :: l)
theorem fList_eq {α:Type} {f:α→(α→R)→R} (h:∀ a k,f a k=k a):∀ (l:List α) (k:List α→R),fList f l k=k l
 | [],k=>rfl
 | a :: l,k=>by rw [fList,h,fList_eq h l]
def fFV:Nat→FV→(FV→R)→R
 | 0,x,k=>k x
 | n+1,x,k=>match x with
   | .pv v=>fVal v fun v=>k (.pv v)
   | .agg l=>fList (fFV n) l fun l=>k (.agg l)
   | .sl l=>fList (fFV n) l fun l=>k (.sl l)
theorem fFV_eq:∀ (n:Nat) (x:FV) (k:FV→R),fFV n x k=k x
 | 0,x,k=>rfl
 | n+1,x,k=>by
   unfold fFV
   cases x with
   | pv v=>exact fVal_eq _ _
   | agg l=>exact fList_eq (fFV_eq n) _ _
   | sl l=>exact fList_eq (fFV_eq n) _ _
def fAV:Nat→AV→(AV→R)→R
 | 0,x,k=>k x
 | n+1,x,k=>match x with
   | .bad=>k .bad
   | .f x=>fFV 1 x fun x=>k (.f x)
   | .ptr b o=>fNat b fun b=>fNat o fun o=>k (.ptr b o)
   | .fp x o=>fNat o fun o=>k (.fp x o)
   | .ep b o i c=>fNat b fun b=>fNat o fun o=>fNat i fun i=>fNat c fun c=>k (.ep b o i c)
   | .rf b o i c=>fNat b fun b=>fNat o fun o=>fNat i fun i=>fNat c fun c=>k (.rf b o i c)
   | .own E l=>fList (fFV 1) l fun l=>k (.own E l)
   | .clo g l=>fList (fAV n) l fun l=>k (.clo g l)
   | .agg l=>fList (fAV n) l fun l=>k (.agg l)
   | .tup l=>fList (fAV n) l fun l=>k (.tup l)
theorem fAV_eq:∀ (n:Nat) (x:AV) (k:AV→R),fAV n x k=k x
 | 0,x,k=>rfl
 | n+1,x,k=>by
   unfold fAV
   cases x with
   | bad=>rfl
   | f x=>exact fFV_eq _ _ _
   | ptr b o=>simp only [fNat_eq]
   | fp x o=>simp only [fNat_eq,fFV_eq]
   | ep b o i c=>simp only [fNat_eq]
   | rf b o i c=>simp only [fNat_eq]
   | own E l=>exact fList_eq (fFV_eq _) _ _
   | clo g l=>exact fList_eq (fAV_eq n) _ _
   | agg l=>exact fList_eq (fAV_eq n) _ _
   | tup l=>exact fList_eq (fAV_eq n) _ _
def sLf (x:AV) (k:AV→R):R:=match x with
 | .bad=>k .bad
 | .f x=>k (.f x)
 | .ptr b o=>k (.ptr b o)
 | .fp x o=>k (.fp x o)
 | .ep b o i c=>k (.ep b o i c)
 | .rf b o i c=>k (.rf b o i c)
 | .own E l=>k (.own E l)
 | .clo g l=>k (.clo g l)
 | .agg l=>k (.agg l)
 | .tup l=>k (.tup l)
theorem sLf_eq (x:AV) (k:AV→R):sLf x k=k x:=by cases x<;>rfl
def sAV (x:AV) (k:AV→R):R:=match x with
 | .bad=>k .bad
 | .f x=>k (.f x)
 | .ptr b o=>k (.ptr b o)
 | .fp x o=>k (.fp x o)
 | .ep b o i c=>k (.ep b o i c)
 | .rf b o i c=>k (.rf b o i c)
 | .own E l=>k (.own E l)
 | .clo g l=>k (.clo g l)
 | .agg l=>fList sLf l fun l=>k (.agg l)
 | .tup l=>fList (fAV 5) l fun l=>k (.tup l)
theorem sAV_eq (x:AV) (k:AV→R):sAV x k=k x:=by
 cases x with
 | agg l=>exact fList_eq sLf_eq _ _
 | tup l=>exact fList_eq (fAV_eq 5) _ _
 | _=>rfl
def fSta (f:AV→(AV→R)→R):Sta→(Sta→R)→R
 | [],k=>k []
 | (b,v) :: r,k=>fNat b fun b=>f v fun v=>fSta f r fun r=>k ((b,v) :: r)
theorem fSta_eq {f:AV→(AV→R)→R} (h:∀ a k,f a k=k a):∀ (G:Sta) (k:Sta→R),fSta f G k=k G
 | [],k=>rfl
 | (b,v) :: r,k=>by rw [fSta,fNat_eq,h,fSta_eq h r]
def fUp (u:Up) (k:Up→R):R:=match u with
 | .set b v=>fNat b fun b=>fAV 5 v fun v=>k (.set b v)
 | .put b v=>fNat b fun b=>fAV 5 v fun v=>k (.put b v)
 | .leaf b o v=>fNat b fun b=>fNat o fun o=>fAV 5 v fun v=>k (.leaf b o v)
 | .upo b o v=>fNat b fun b=>fNat o fun o=>fAV 5 v fun v=>k (.upo b o v)
 | .frz b o=>fNat b fun b=>fNat o fun o=>k (.frz b o)
 | .newbox b v=>fNat b fun b=>fAV 5 v fun v=>k (.newbox b v)
theorem fUp_eq (u:Up) (k:Up→R):fUp u k=k u:=by
 cases u<;>simp only [fUp,fNat_eq,fAV_eq]
end
section
variable {R : Type}
noncomputable def getX (G:Sta) (b:Nat):Option AV:=List.rec none (fun p _ ih=>match p with
 | (a,x)=>match Nat.beq a b with
   | true=>some x
   | false=>ih) G
theorem getX_eq (b:Nat):∀ G:Sta,getX G b=get G b
 | []=>rfl
 | (a,x) :: r=>by
   change (match Nat.beq a b with
    | true=>some x
    | false=>getX r b)=if b=a then some x else get r b
   rw [getX_eq b r]
   cases h:Nat.beq a b with
   | true=>rw [if_pos (Nat.eq_of_beq_eq_true h).symm]
   | false=>rw [if_neg (fun e=>by rw [e] at h;simp at h)]
noncomputable def lookX (G:Sta) (b:Nat):Option Nat→Option AV
 | none=>getX G b
 | some o=>match getX G b with
   | some v=>(v.leaves[o]?).filter AV.isLeaf
   | none=>none
theorem lookX_eq (b:Nat) (o:Option Nat) (G:Sta):lookX G b o=look G b o:=by
 cases o with
 | none=>exact getX_eq b G
 | some o=>
   simp only [lookX,look,getX_eq]
   cases get G b<;>rfl
def nv0 (b:Nat) (x:AV):Bool:=match x with
 | .rf c _ _ _=>!Nat.beq c b
 | .ep c _ _ _=>!Nat.beq c b
 | .agg _=>false
 | .tup _=>false
 | _=>true
noncomputable def nvL (b:Nat) (l:List AV):Bool:=List.rec true (fun x _ ih=>match nv0 b x with
 | true=>ih
 | false=>false) l
noncomputable def nv1 (b:Nat) (x:AV):Bool:=match x with
 | .agg l=>nvL b l
 | .tup _=>false
 | x=>nv0 b x
noncomputable def noV (b:Nat) (G:Sta):Bool:=List.rec true (fun p _ ih=>match nv1 b p.2 with
 | true=>ih
 | false=>false) G
theorem nv0_eq {b:Nat} {x:AV} (h:nv0 b x=true) (o:Option Nat):killr b o x=x:=by
 cases x with
 | rf c _ _ _=>
   simp only [nv0,Bool.not_eq_true'] at h
   simp only [killr];rw [if_neg];rintro ⟨e,_⟩;rw [e] at h;simp at h
 | ep c _ _ _=>
   simp only [nv0,Bool.not_eq_true'] at h
   simp only [killr];rw [if_neg];rintro ⟨e,_⟩;rw [e] at h;simp at h
 | _=>rfl
theorem nvL_eq {b:Nat} (o:Option Nat):∀ {l:List AV},nvL b l=true→l.map (killr b o)=l
 | [],_=>rfl
 | x :: r,h=>by
   change (match nv0 b x with
    | true=>nvL b r
    | false=>false)=true at h
   split at h
   ·rename_i hx;rw [List.map_cons,nv0_eq hx,nvL_eq o h]
   ·cases h
theorem nv1_eq {b:Nat} {x:AV} (h:nv1 b x=true) (o:Option Nat):AV.map2 (killr b o) x=x:=by
 cases x with
 | agg l=>show AV.agg (l.map _)=_;rw [nvL_eq o h]
 | tup l=>cases h
 | bad=>rfl
 | f x=>rfl
 | ptr c p=>rfl
 | fp x p=>rfl
 | ep c p i d=>exact nv0_eq (x:=.ep c p i d) h o
 | rf c p i d=>exact nv0_eq (x:=.rf c p i d) h o
 | own E l=>rfl
 | clo g l=>rfl
theorem noV_eq {b:Nat} (o:Option Nat):∀ {G:Sta},noV b G=true→mapv (AV.map2 (killr b o)) G=G
 | [],_=>rfl
 | (a,x) :: r,h=>by
   change (match nv1 b x with
    | true=>noV b r
    | false=>false)=true at h
   split at h
   ·rename_i hx;rw [mapv,nv1_eq hx,noV_eq o h]
   ·cases h
noncomputable def insX (b:Nat) (v:AV) (G:Sta):(Sta→R)→R:=List.rec (fun k=>k [(b,v)]) (fun p r ih k=>match Nat.beq p.1 b with
 | true=>k ((b,v) :: r)
 | false=>match Nat.blt b p.1 with
   | true=>k ((b,v) :: p :: r)
   | false=>ih fun m=>k (p :: m)) G
theorem insX_eq (b:Nat) (v:AV):∀ (G:Sta) (k:Sta→R),insX b v G k=k (ins b v G)
 | [],k=>rfl
 | (a,x) :: r,k=>by
   change (match Nat.beq a b with
    | true=>k ((b,v) :: r)
    | false=>match Nat.blt b a with
      | true=>k ((b,v) :: (a,x) :: r)
      | false=>insX b v r fun m=>k ((a,x) :: m))=k (if b < a then (b,v) :: (a,x) :: r else if b=a then (b,v) :: r else (a,x) :: ins b v r)
   rw [insX_eq b v r]
   cases h:Nat.beq a b with
   | true=>
     have:=Nat.eq_of_beq_eq_true h
     rw [if_neg (by omega),if_pos this.symm]
   | false=>
     have hne:b≠a:=fun e=>by rw [e] at h;simp at h
     cases h2:Nat.blt b a with
     | true=>
       rw [if_pos (by simpa [Nat.blt_eq] using h2)]
     | false=>
       rw [if_neg (fun e=>by rw [show Nat.blt b a=true from by simpa [Nat.blt_eq] using e] at h2;cases h2),if_neg hne]
noncomputable def updX (b:Nat) (g:AV→AV) (G:Sta):(Sta→R)→R:=List.rec (fun k=>k []) (fun p r ih k=>match Nat.beq p.1 b with
 | true=>sAV (g p.2) fun x=>k ((p.1,x) :: r)
 | false=>ih fun m=>k (p :: m)) G
theorem updX_eq (b:Nat) (g:AV→AV):∀ (G:Sta) (k:Sta→R),updX b g G k=k (upd b g G)
 | [],k=>rfl
 | (a,x) :: r,k=>by
   change (match Nat.beq a b with
    | true=>sAV (g x) fun x=>k ((a,x) :: r)
    | false=>updX b g r fun m=>k ((a,x) :: m))=k (if b=a then (a,g x) :: r else (a,x) :: upd b g r)
   rw [updX_eq b g r,sAV_eq]
   cases h:Nat.beq a b with
   | true=>rw [if_pos (Nat.eq_of_beq_eq_true h).symm]
   | false=>rw [if_neg (fun e=>by rw [e] at h;simp at h)]
noncomputable def appX (u:Up) (G:Sta) (k:Sta→R):R:=match u with
 | .set b v=>match noV b G with
   | true=>insX b v G k
   | false=>fSta sAV ((Up.set b v).app G) k
 | .put b v=>match noV b G with
   | true=>updX b (putV v) G k
   | false=>fSta sAV ((Up.put b v).app G) k
 | .leaf b o v=>match noV b G with
   | true=>updX b (setLeaf o v) G k
   | false=>fSta sAV ((Up.leaf b o v).app G) k
 | .upo b o v=>updX b (setLeaf o v) G k
 | .frz b o=>updX b (mapLeaf o Ev.frz) G k
 | .newbox b v=>fSta sAV ((Up.newbox b v).app G) k
theorem appX_eq (u:Up) (G:Sta) (k:Sta→R):appX u G k=k (u.app G):=by
 cases u with
 | set b v=>
   simp only [appX]
   split
   ·rename_i h;rw [insX_eq,Up.app,noV_eq none h]
   ·rw [fSta_eq sAV_eq]
 | put b v=>
   simp only [appX]
   split
   ·rename_i h;rw [updX_eq,Up.app,noV_eq none h]
   ·rw [fSta_eq sAV_eq]
 | leaf b o v=>
   simp only [appX]
   split
   ·rename_i h;rw [updX_eq,Up.app,noV_eq (some o) h]
   ·rw [fSta_eq sAV_eq]
 | upo b o v=>simp only [appX,updX_eq,Up.app]
 | frz b o=>simp only [appX,updX_eq,Up.app]
 | newbox b v=>simp only [appX,fSta_eq sAV_eq]
noncomputable def appsX (U:List Up) (G:Sta) (k:List Up→Sta→R):R:=List.rec (fun G k=>k [] G) (fun u _ ih G k=>fUp u fun u=>appX u G fun G=>ih G fun U G=>k (u :: U) G) U G k
theorem appsX_eq:∀ (U:List Up) (G:Sta) (k:List Up→Sta→R),appsX U G k=k U (app U G)
 | [],G,k=>rfl
 | u :: r,G,k=>by
   change (fUp u fun u=>appX u G fun G=>appsX r G fun U G=>k (u :: U) G)=_
   rw [fUp_eq,appX_eq,appsX_eq r];rfl
noncomputable def dropX (mask:Nat) (G:Sta):(Sta→R)→R:=List.rec (fun k=>k []) (fun p _ ih k=>match Nat.beq (Nat.mod p.1 3) 1 with
 | false=>ih fun m=>k (p :: m)
 | true=>match Nat.beq (Nat.land (Nat.shiftRight mask (Nat.div p.1 3)) 1) 0 with
   | true=>ih k
   | false=>ih fun m=>k (p :: m)) G
def deadB (mask:Nat) (b:Nat):Bool:=match Nat.beq (Nat.mod b 3) 1 with
 | false=>false
 | true=>Nat.beq (Nat.land (Nat.shiftRight mask (Nat.div b 3)) 1) 0
theorem dropX_eq (mask:Nat):∀ (G:Sta) (k:Sta→R),dropX mask G k=k (dropN (deadB mask) G)
 | [],k=>rfl
 | (a,x) :: r,k=>by
   change (match Nat.beq (Nat.mod a 3) 1 with
    | false=>dropX mask r fun m=>k ((a,x) :: m)
    | true=>match Nat.beq (Nat.land (Nat.shiftRight mask (Nat.div a 3)) 1) 0 with
      | true=>dropX mask r k
      | false=>dropX mask r fun m=>k ((a,x) :: m))=_
   simp only [dropX_eq mask r,dropN]
   cases h1:Nat.beq (Nat.mod a 3) 1 with
   | false=>
     rw [if_neg (by simp [deadB,h1])]
   | true=>
     cases h2:Nat.beq (Nat.land (Nat.shiftRight mask (Nat.div a 3)) 1) 0 with
     | true=>rw [if_pos (by simp only [deadB,h1,h2])]
     | false=>rw [if_neg (by simp only [deadB,h1,h2];simp)]
end
abbrev Kw:=FuncId→List AV→List AV→Option (AV×List AV)
abbrev ExR:=Option (Ex×Sta)
noncomputable def RM.ex (C:Kw) (G:Sta) (m:RM):List Acc→Option (List Up×List Acc):=
 RM.rec (motive:=fun _=>List Acc→Option (List Up×List Acc)) (fun U T=>some (U,T)) (fun _=>none)
  (fun b o _ ih T=>match lookX G b o with
    | some v=>match v.ok with
      | true=>ih v (T++accOf b o :: v.refs)
      | false=>none
    | none=>none)
  (fun b _ ih T=>match getX G b with
    | some v=>ih v.leaves.length (T++[.id b])
    | none=>none)
  (fun g args outs _ ih T=>match C g args outs with
    | some (r,o)=>ih r o T
    | none=>none) m
theorem ex_ret {C:Kw} {G:Sta} {U:List Up} {T:List Acc}:RM.ex C G (.ret U) T=some (U,T):=rfl
theorem ex_ask {C:Kw} {G:Sta} {b:Nat} {o:Option Nat} {k:AV→RM} {T:List Acc}:RM.ex C G (.ask b o k) T=match look G b o with
 | some v=>match v.ok with
   | true=>(k v).ex C G (T++accOf b o :: v.refs)
   | false=>none
 | none=>none:=by rw [← lookX_eq];rfl
theorem ex_peek {C:Kw} {G:Sta} {b:Nat} {k:Nat→RM} {T:List Acc}:RM.ex C G (.peek b k) T=match get G b with
 | some v=>(k v.leaves.length).ex C G (T++[.id b])
 | none=>none:=by rw [← getX_eq];rfl
theorem ex_call {C:Kw} {G:Sta} {g:FuncId} {args outs:List AV} {k:AV→List AV→RM} {T:List Acc}:RM.ex C G (.call g args outs k) T=match C g args outs with
 | some (r,o)=>(k r o).ex C G T
 | none=>none:=rfl
def KwOk (P:Program) (C:Kw):Prop:=∀ g args outs r o,C g args outs=some (r,o)→CallE P g args outs r o
theorem RM.ex_wp {C:Kw} {G:Sta} (hC:KwOk P C):∀ (m:RM) {T:List Acc} {U:List Up} {T':List Acc} {K:List Up→List Acc→Prop},m.ex C G T=some (U,T')→K U T'→m.wp (CallE P) G T K
 | .ret U,T,U',T',K,h,hk=>by simp only [ex_ret,Option.some.injEq,Prod.mk.injEq] at h;obtain ⟨rfl,rfl⟩:=h;exact hk
 | .fail,T,U',T',K,h,hk=>by cases h
 | .ask b o k,T,U',T',K,h,hk=>by
   simp only [ex_ask,ex_peek,ex_call] at h
   split at h
   ·rename_i v hv
    split at h
    ·rename_i hok;exact ⟨v,hv,hok,RM.ex_wp hC _ h hk⟩
    ·cases h
   ·cases h
 | .peek b k,T,U',T',K,h,hk=>by
   simp only [ex_ask,ex_peek,ex_call] at h
   split at h
   ·rename_i v hv;exact ⟨v,hv,RM.ex_wp hC _ h hk⟩
   ·cases h
 | .call g args outs k,T,U',T',K,h,hk=>by
   simp only [ex_ask,ex_peek,ex_call] at h
   split at h
   ·rename_i r o hr;exact ⟨r,o,hC _ _ _ _ _ hr,RM.ex_wp hC _ h hk⟩
   ·cases h
noncomputable def exOps (C:Kw) (c:Cfg) (ops:Array Oper) (draw:Bool) (K:List Lg→Sta→ExR):List Oper→Nat→List Lg→Sta→ExR
 | [],_,log,G=>K log G
 | o :: r,i,log,G=>match (guardRM c ops o).ex C G [] with
   | some (U,T)=>appsX U G fun U G'=>exOps C c ops draw K r (i+1) (match draw with | true=>log++[⟨i,T++Ups.refs U,Ups.writes U⟩] | false=>[]) G'
   | none=>none
theorem exOps_runs {C:Kw} {c:Cfg} {ops:Array Oper} {draw:Bool} {K:List Lg→Sta→ExR} (hC:KwOk P C):∀ (r:List Oper) {p:List Oper} {log:List Lg} {G:Sta} {z:Ex×Sta},ops.toList=p++r→exOps C c ops draw K r p.length log G=some z→
 ∃ es G' log',es.map (·.i)=List.range' p.length r.length∧Runs (CallE P) (stepRM c ops) es G G'∧K log' G'=some z∧(draw=true→log'=log++es.map Ent.lg)
 | [],p,log,G,z,hp,h=>⟨[],G,log,rfl,rfl,h,fun _=>by simp⟩
 | o :: r,p,log,G,z,hp,h=>by
   have hop:ops[p.length]?=some o:=by
    rw [← Array.getElem?_toList,hp,List.getElem?_append_right (Nat.le_refl _)];simp
   unfold exOps at h
   split at h
   ·rename_i U T h1
    rw [appsX_eq] at h
    have hl:(p++[o]).length=p.length+1:=by simp
    rw [← hl] at h
    obtain ⟨es,G',log',e1,e2,e3,e4⟩:=exOps_runs hC r (p:=p++[o]) (by rw [hp];simp) h
    refine ⟨⟨p.length,U,T⟩ :: es,G',log',by simp [e1,List.range'_succ],⟨?_,e2⟩,e3,fun hd=>?_⟩
    ·rw [step_guard hop]
     exact RM.ex_wp hC _ h1 ⟨rfl,rfl⟩
    ·rw [e4 hd];subst hd;simp [Ent.lg,Ent.reads]
   ·cases h
noncomputable def exReg (C:Kw) (c:Cfg) (mk:Nat) (ops:Array Oper) (draw:Bool) (G:Sta):ExR:=
 exOps C c ops draw (fun log G'=>match draw with
  | true=>match topo ops && (ancOk ops (tabOf ops) && logOk (tabOf ops) log) with
    | true=>dropX mk G' fun G'=>some (.normal,G')
    | false=>none
  | false=>dropX mk G' fun G'=>some (.normal,G')) ops.toList 0 [] G
theorem exReg_sem {C:Kw} {c:Cfg} (hc:COk P c) (hC:KwOk P C) {id:Nat} {ops:Array Oper} {draw:Bool} {G:Sta} {e:Ex} {G':Sta} {K:Ex→Sta→Prop} {mk:Nat} (h:exReg C c mk ops draw G=some (e,G')) (hk:K e G'):Sem P c (.region id ops draw) G K:=by
 intro own a w F n Q hF s hQ
 obtain ⟨es,G1,log,e1,e2,e3,e4⟩:=exOps_runs (P:=P) hC (p:=[]) _ rfl h
 have hd:e=.normal∧dropN (deadB mk) G1=G'∧(draw=true→topo ops=true∧ancOk ops (tabOf ops)=true∧logOk (tabOf ops) log=true):=by
  cases draw with
  | true=>
    dsimp only at e3
    split at e3
    ·rename_i hb
     simp only [Bool.and_eq_true] at hb
     simp only [dropX_eq,Option.some.injEq,Prod.mk.injEq] at e3
     exact ⟨e3.1.symm,e3.2,fun _=>hb⟩
    ·cases e3
  | false=>
    simp only [dropX_eq,Option.some.injEq,Prod.mk.injEq] at e3
    exact ⟨e3.1.symm,e3.2,fun h=>by cases h⟩
 obtain ⟨rfl,rfl,hd⟩:=hd
 have e1:es.map (·.i)=List.range ops.size:=by rw [e1,List.range_eq_range'];simp
 have hlt:∀ x∈es,x.i < ops.size:=fun x hx=>by
  have:x.i∈es.map (·.i):=List.mem_map.2 ⟨x,hx,rfl⟩
  rw [e1] at this;exact List.mem_range.1 this
 have fin:∀ own' a' w',St P c.nt G1 own' a' w'→Tr own w own' w'→a'.defers=a.defers→Q .normal a' w':=fun own' a' w' s' t' d'=>hQ .normal _ own' a' w' hk (s'.drop _) t' (.same d')
 cases draw with
 | true=>
   obtain ⟨htopo,htab,hlog⟩:=hd rfl
   obtain ⟨s1,t1⟩:=s.drawn (w.drawn+1)
   refine wpIn_region_any hc.ro ?_
   refine runs_any hc.cfg hc.ip (fun _ _ _ _ _ h=>h) hF.1 htopo ops.size es (by have:=congrArg List.length e1;simp at this;omega) (by simp) ?_ ?_ hlt (by rw [e1];exact List.pairwise_lt_range) (entOkB_spec htopo htab hlt (by rw [e4 rfl,List.nil_append] at hlog;exact hlog)) s1 e2
    (fun own' a' w' s' t' d'=>fin own' a' w' s' (t1.trans t') d')
   ·intro i o ho hl
    have hi:=(Array.getElem?_eq_some_iff.1 ho).1
    simp [Array.getD_eq_getD_getElem?,hi] at hl
   ·intro i hi
    rw [e1];simp [Array.getD_eq_getD_getElem?,hi]
 | false=>
   refine wpIn_region ?_
   rw [← e1]
   exact runs_text hc.cfg hc.ip (fun _ _ _ _ _ h=>h) hF.1 es s e2 fin
noncomputable def condB (x:Operand) (G:Sta):Option Bool:=match x with
 | .tmp t=>match getX G (tb t) with
   | some (.f (.pv (.bool b)))=>some b
   | _=>none
 | .const (.bool b)=>some b
 | _=>none
noncomputable def exStep (c:Cfg) (mk:Nat) (C:Kw) (ih:Code→Sta→ExR) (x:Code) (G:Sta):ExR:=
 match x with
 | .skip=>some (.normal,G)
 | .region _ ops draw=>exReg C c mk ops draw G
 | .seq x y=>match ih x G with
   | some (.normal,G')=>ih y G'
   | r=>r
 | .cond b x y=>match condB b G with
   | some true=>ih x G
   | some false=>ih y G
   | none=>none
 | .block id x=>match ih x G with
   | some (.exit j,G')=>match Nat.beq j id with
     | true=>some (.normal,G')
     | false=>some (.exit j,G')
   | r=>r
 | .loop x=>match ih x G with
   | some (.normal,G')=>ih (.loop x) G'
   | r=>r
 | .exit id=>some (.exit id,G)
 | .ret=>some (.ret,G)
 | .label _=>some (.normal,G)
 | _=>none
noncomputable def exC (c:Cfg) (mk:Nat) (C:Kw) (n:Nat):Code→Sta→ExR:=Nat.rec (fun _ _=>none) (fun _ ih=>exStep c mk C ih) n
theorem exC_sem {C:Kw} {c:Cfg} {mk:Nat} (hc:COk P c) (hC:KwOk P C):∀ (n:Nat) (m:Nat) (x:Code) {G:Sta} {e:Ex} {G':Sta} {K:Ex→Sta→Prop},m≤n→exC c mk C m x G=some (e,G')→K e G'→Sem P c x G K
 | _,0,_,_,_,_,_,_,h,_=>by cases h
 | 0,m+1,_,_,_,_,_,hm,_,_=>absurd hm (by omega)
 | n+1,m+1,x,G,e,G',K,hm,h,hk=>by
   have ih:=fun (x:Code) {G:Sta} {e:Ex} {G':Sta} {K:Ex→Sta→Prop} (h:exC c mk C m x G=some (e,G')) (hk:K e G')=>exC_sem hc hC n m x (by omega) h hk
   change exStep c mk C (exC c mk C m) x G=some (e,G') at h
   unfold exStep at h
   split at h
   ·simp only [Option.some.injEq,Prod.mk.injEq] at h;obtain ⟨rfl,rfl⟩:=h;exact Sem.skip Wk.refl hk
   ·exact exReg_sem hc hC h hk
   ·rename_i x y
    split at h
    ·rename_i G1 h1
     exact Sem.seq (ih x h1 (ih y h hk))
    ·rename_i h1
     refine Sem.seq (ih x h ?_)
     cases e with
     | normal=>exact absurd h (h1 _)
     | _=>exact hk
   ·rename_i b x y
    split at h
    ·rename_i hb
     unfold condB at hb
     simp only [getX_eq] at hb
     split at hb
     ·split at hb
      ·rename_i hg;cases hb
       exact Sem.cond hg (fun _=>ih x h hk) (fun e=>by cases e)
      ·cases hb
     ·cases hb;exact Sem.condc (fun _=>ih x h hk) (fun e=>by cases e)
     ·cases hb
    ·rename_i hb
     unfold condB at hb
     simp only [getX_eq] at hb
     split at hb
     ·split at hb
      ·rename_i hg;cases hb
       exact Sem.cond hg (fun e=>by cases e) (fun _=>ih y h hk)
      ·cases hb
     ·cases hb;exact Sem.condc (fun e=>by cases e) (fun _=>ih y h hk)
     ·cases hb
    ·cases h
   ·rename_i id x
    refine Sem.block ?_
    split at h
    ·rename_i j G1 h1
     refine ih x h1 ?_
     simp only [blockK]
     split at h
     ·rename_i hj
      simp only [Option.some.injEq,Prod.mk.injEq] at h;obtain ⟨rfl,rfl⟩:=h
      rw [if_pos (Nat.eq_of_beq_eq_true hj)];exact hk
     ·rename_i hj
      simp only [Option.some.injEq,Prod.mk.injEq] at h;obtain ⟨rfl,rfl⟩:=h
      rw [if_neg (fun e=>by rw [e] at hj;simp at hj)];exact hk
    ·rename_i h1
     refine ih x h ?_
     cases e with
     | exit j=>exact absurd h (h1 _ _)
     | _=>exact hk
   ·rename_i x
    refine Sem.loop (σ:=Nat×Sta) (fun s=>s.2) (fun s=>s.1≤m+1∧exC c mk C s.1 (.loop x) s.2=some (e,G')) (fun s=>s.1) (m+1,G) Wk.refl ⟨Nat.le_refl _,h⟩ ?_
    rintro ⟨k,S⟩ ⟨hk1,hk2⟩
    cases k with
    | zero=>cases hk2
    | succ k=>
      dsimp only at hk1 hk2 ⊢
      change (match exC c mk C k x S with
       | some (.normal,G')=>exC c mk C k (.loop x) G'
       | r=>r)=some (e,G') at hk2
      split at hk2
      ·rename_i G1 h1
       exact exC_sem hc hC n k x (by omega) h1 ⟨(k,G1),Wk.refl,⟨by show k≤m+1;omega,hk2⟩,Nat.lt_succ_self _⟩
      ·rename_i h1
       refine exC_sem hc hC n k x (by omega) hk2 ?_
       cases e with
       | normal=>exact absurd hk2 (h1 _)
       | _=>exact hk
   ·simp only [Option.some.injEq,Prod.mk.injEq] at h;obtain ⟨rfl,rfl⟩:=h;exact Sem.exit Wk.refl hk
   ·simp only [Option.some.injEq,Prod.mk.injEq] at h;obtain ⟨rfl,rfl⟩:=h;exact Sem.ret Wk.refl hk
   ·simp only [Option.some.injEq,Prod.mk.injEq] at h;obtain ⟨rfl,rfl⟩:=h;exact Sem.label Wk.refl hk
   ·cases h
def noK:Kw:=fun _ _ _=>none
theorem noK_ok:KwOk P noK:=fun _ _ _ _ _ h=>by cases h
noncomputable def exEnd (c:Cfg) (rs:List ResultVar) (n:Nat) (e:Ex) (G:Sta):Option (AV×List AV):=
 match e with
 | .exit _=>none
 | _=>match (resRM c rs).ex noK G [] with
   | some (.set _ x :: W,_)=>match evOuts n 0 (app W G) with
     | some l=>fAV 5 x fun x=>fList (fAV 5) l fun l=>some (x,l)
     | none=>none
   | _=>none
theorem RM.ex_wq {CE:CEx} {G:Sta}:∀ (m:RM) {T:List Acc} {U:List Up} {T':List Acc} {K:List Up→Prop},m.ex noK G T=some (U,T')→K U→m.wq CE G K
 | .ret U,T,U',T',K,h,hk=>by simp only [ex_ret,Option.some.injEq,Prod.mk.injEq] at h;obtain ⟨rfl,rfl⟩:=h;exact hk
 | .fail,T,U',T',K,h,hk=>by cases h
 | .ask b o k,T,U',T',K,h,hk=>by
   simp only [ex_ask,ex_peek,ex_call] at h
   split at h
   ·rename_i v hv
    split at h
    ·rename_i hok
     simp only [RM.wq,hv];exact ⟨hok,RM.ex_wq _ h hk⟩
    ·cases h
   ·cases h
 | .peek b k,T,U',T',K,h,hk=>by
   simp only [ex_ask,ex_peek,ex_call] at h
   split at h
   ·rename_i v hv;simp only [RM.wq,hv];exact RM.ex_wq _ h hk
   ·cases h
 | .call g args outs k,T,U',T',K,h,hk=>by cases h
theorem exEnd_endK {c:Cfg} {rs:List ResultVar} {n:Nat} {e:Ex} {G:Sta} {x:AV} {l:List AV} {R:AV→List AV→Prop} {CE:CEx} (h:exEnd c rs n e G=some (x,l)) (hR:R x l):endK CE c rs n R e G:=by
 unfold exEnd at h
 split at h
 ·cases h
 ·rename_i he
  split at h
  ·rename_i b x1 W T h1
   split at h
   ·rename_i l1 hl
    rw [fAV_eq,fList_eq (fAV_eq 5)] at h
    simp only [Option.some.injEq,Prod.mk.injEq] at h;obtain ⟨rfl,rfl⟩:=h
    have:=RM.ex_wq (CE:=CE) (K:=endU n R G) _ h1 (evOuts_spec hl hR)
    cases e with
    | exit id=>exact absurd rfl (he id)
    | normal=>exact this
    | ret=>exact this
   ·cases h
  ·cases h
structure XOk (P:Program) (cfg:FuncId→Nat→Cfg):Prop where
 ok:∀ g nt,COk P (cfg g nt)
 nt:∀ g nt,(cfg g nt).nt=nt
noncomputable def exF (P:Program) (cfg:FuncId→Nat→Cfg) (mks:FuncId→Nat) (K0:Kw) (m:Nat) (n:Nat):Kw:=
 Nat.rec (fun _ _ _=>none) (fun _ ih g args outs=>match K0 g args outs with
  | some r=>some r
  | none=>match P.funcs[g]? with
    | none=>none
    | some fn=>match fn.body with
      | none=>none
      | some x=>match !(fn.name == "runtime.NumGoroutine") && (Nat.ble args.length fn.ntmps && (args.all (shut1 false fun _=>true) && (outs.all (shut1 true fun _=>true) && Nat.ble (args.length+outs.length) 64))) with
        | false=>none
        | true=>fSta (fAV 5) (entryF 64 0 args outs) fun G=>match exC (cfg g fn.ntmps) (mks g) ih m x G with
          | some (e,G')=>exEnd (cfg g fn.ntmps) fn.results.toList outs.length e G'
          | none=>none) n
theorem exF_ok {cfg:FuncId→Nat→Cfg} {mks:FuncId→Nat} {K0:Kw} (hx:XOk P cfg) (h0:KwOk P K0) (m:Nat):∀ n,KwOk P (exF P cfg mks K0 m n)
 | 0=>noK_ok
 | n+1=>fun g args outs r o h=>by
   change (match K0 g args outs with
    | some r=>some r
    | none=>match P.funcs[g]? with
      | none=>none
      | some fn=>match fn.body with
        | none=>none
        | some x=>match !(fn.name == "runtime.NumGoroutine") && (Nat.ble args.length fn.ntmps && (args.all (shut1 false fun _=>true) && (outs.all (shut1 true fun _=>true) && Nat.ble (args.length+outs.length) 64))) with
          | false=>none
          | true=>fSta (fAV 5) (entryF 64 0 args outs) fun G=>match exC (cfg g fn.ntmps) (mks g) (exF P cfg mks K0 m n) m x G with
            | some (e,G')=>exEnd (cfg g fn.ntmps) fn.results.toList outs.length e G'
            | none=>none)=some (r,o) at h
   split at h
   ·rename_i hk;cases h;exact h0 _ _ _ _ _ hk
   ·split at h
    ·cases h
    ·rename_i fn hfn
     split at h
     ·cases h
     ·rename_i x hx1
      split at h
      ·cases h
      ·rename_i hb
       rw [fSta_eq (fAV_eq 5)] at h
       simp only [Bool.and_eq_true,Bool.not_eq_true'] at hb
       obtain ⟨b1,b2,b3,b4,b5⟩:=hb
       split at h
       ·rename_i e G' he
        refine callE_semW (hx.ok g fn.ntmps) hfn b1 hx1 (hx.nt g _) (Nat.le_of_ble_eq_true b2) b3 b4 (Nat.le_of_ble_eq_true b5) ?_
        refine exC_sem (hx.ok g _) (exF_ok hx h0 m n) m m x (Nat.le_refl _) he ⟨G',Wk.refl,exEnd_endK h ⟨rfl,rfl⟩⟩
       ·cases h
end Go.Ev
set_option linter.unusedVariables false
namespace Go.Ev
open Go
def insI (x:Int):List Int→List Int
 | []=>[x]
 | y :: r=>match decide (x≤y) with
   | true=>x :: y :: r
   | false=>y :: insI x r
def isort:List Int→List Int
 | []=>[]
 | x :: r=>insI x (isort r)
theorem insI_perm (x:Int):∀ l,List.Perm (insI x l) (x :: l)
 | []=>.refl _
 | y :: r=>by
   unfold insI
   split
   ·exact .refl _
   ·exact ((insI_perm x r).cons y).trans (.swap x y r)
theorem isort_perm:∀ l,List.Perm (isort l) l
 | []=>.refl _
 | x :: r=>(insI_perm x _).trans ((isort_perm r).cons x)
theorem insI_sorted (x:Int):∀ l,l.Pairwise (·≤·)→(insI x l).Pairwise (·≤·)
 | [],_=>by simp [insI]
 | y :: r,h=>by
   rw [List.pairwise_cons] at h
   unfold insI
   split
   ·rename_i hxy
    have hxy:=of_decide_eq_true hxy
    refine List.pairwise_cons.2 ⟨fun z hz=>?_,List.pairwise_cons.2 h⟩
    rcases List.mem_cons.1 hz with rfl | hz
    ·exact hxy
    ·exact Int.le_trans hxy (h.1 z hz)
   ·rename_i hxy
    have hxy:=of_decide_eq_false hxy
    refine List.pairwise_cons.2 ⟨fun z hz=>?_,insI_sorted x r h.2⟩
    rcases List.mem_cons.1 ((insI_perm x r).mem_iff.1 hz) with rfl | hz
    ·omega
    ·exact h.1 z hz
theorem isort_sorted:∀ l,(isort l).Pairwise (·≤·)
 | []=>.nil
 | x :: r=>insI_sorted x _ (isort_sorted r)
theorem isort_eq (l:List Int):isort l=sortInts l:=by
 refine List.Perm.eq_of_pairwise (le:=(·≤·)) (fun a b _ _ h1 h2=>Int.le_antisymm h1 h2) (isort_sorted l) ?_ ((isort_perm l).trans (List.mergeSort_perm l _).symm)
 have:=List.pairwise_mergeSort (le:=fun x y:Int=>decide (x≤y)) (fun a b c h1 h2=>by simp at *;omega) (fun a b=>by simp;omega) l
 exact this.imp fun h=>of_decide_eq_true h
def sortF2 (l:List FV):Option (List FV):=match fvInts l with
 | some zs=>match Nat.blt zs.length (2 ^ 40) with
   | true=>some ((isort zs).map fun n=>.pv (.int .i64 n))
   | false=>none
 | none=>none
theorem sortF2_eq:sortF2=sortF:=by
 funext l
 unfold sortF2 sortF
 cases fvInts l with
 | none=>rfl
 | some zs=>
   dsimp only
   by_cases h:zs.length < 2 ^ 40
   ·rw [if_pos h,show Nat.blt zs.length (2 ^ 40)=true from by simp [Nat.blt_eq,h],isort_eq]
   ·rw [if_neg h,show Nat.blt zs.length (2 ^ 40)=false from by rw [Bool.eq_false_iff];simpa [Nat.blt_eq] using h]
def cfgX (c:Cfg) (g0:FuncId):Cfg:={ c with ip:=fun g=>match Nat.beq g g0 with
 | true=>some (sortF2,false)
 | false=>c.ip g }
theorem cfgX_ok {P:Program} {c:Cfg} {g0:FuncId} (hc:COk P c) (h:c.ip g0=some (sortF,false)):COk P (cfgX c g0):=by
 have:cfgX c g0=c:=by
  unfold cfgX
  cases c
  simp only [Cfg.mk.injEq,true_and,and_true] at h ⊢
  funext g
  split
  ·rename_i e
   rw [Nat.eq_of_beq_eq_true e,h,sortF2_eq]
  ·rfl
 rw [this];exact hc
def mvT:List (Nat×List Nat)→Nat→List Nat
 | [],_=>[]
 | (a,l) :: r,g=>match Nat.beq a g with
   | true=>l
   | false=>mvT r g
def mkT:List (Nat×Nat)→Nat→Nat
 | [],_=>2 ^ 300 - 1
 | (a,l) :: r,g=>match Nat.beq a g with
   | true=>l
   | false=>mkT r g
def eqL {α:Type} (f:α→α→Bool):List α→List α→Bool
 | [],[]=>true
 | x :: r,y :: s=>match f x y with
   | true=>eqL f r s
   | false=>false
 | _,_=>false
theorem eqL_eq {α:Type} {f:α→α→Bool} (h:∀ x y,f x y=true→x=y):∀ {l m:List α},eqL f l m=true→l=m
 | [],[],_=>rfl
 | x :: r,y :: s,e=>by
   unfold eqL at e
   split at e
   ·rename_i hx;rw [h x y hx,eqL_eq h e]
   ·cases e
 | [],_ :: _,e=>by cases e
 | _ :: _,[],e=>by cases e
def eqI (a b:Int):Bool:=match a,b with
 | .ofNat a,.ofNat b=>Nat.beq a b
 | .negSucc a,.negSucc b=>Nat.beq a b
 | _,_=>false
theorem eqI_eq {a b:Int} (h:eqI a b=true):a=b:=by
 unfold eqI at h
 split at h
 ·rw [Nat.eq_of_beq_eq_true h]
 ·rw [Nat.eq_of_beq_eq_true h]
 ·cases h
def eqVal (x y:Value):Bool:=match x,y with
 | .int k a,.int k' b=>decide (k=k') && eqI a b
 | .bool true,.bool true=>true
 | .bool false,.bool false=>true
 | .string a,.string b=>eqL (fun (x y:UInt8)=>Nat.beq x.toNat y.toNat) a.data.toList b.data.toList
 | _,_=>false
theorem eqVal_eq {x y:Value} (h:eqVal x y=true):x=y:=by
 unfold eqVal at h
 split at h
 ·simp only [Bool.and_eq_true,decide_eq_true_eq] at h;rw [h.1,eqI_eq h.2]
 ·rfl
 ·rfl
 ·rename_i a b
  have:=eqL_eq (fun x y e=>UInt8.toNat_inj.1 (Nat.eq_of_beq_eq_true e)) h
  obtain ⟨⟨a⟩⟩:=a
  obtain ⟨⟨b⟩⟩:=b
  simp only at this
  rw [this]
 ·cases h
def eqFV:Nat→FV→FV→Bool
 | 0,_,_=>false
 | n+1,x,y=>match x,y with
   | .pv a,.pv b=>eqVal a b
   | .agg l,.agg m=>eqL (eqFV n) l m
   | .sl l,.sl m=>eqL (eqFV n) l m
   | _,_=>false
theorem eqFV_eq:∀ (n:Nat) (x y:FV),eqFV n x y=true→x=y
 | 0,_,_,h=>by cases h
 | n+1,x,y,h=>by
   unfold eqFV at h
   split at h
   ·rw [eqVal_eq h]
   ·rw [eqL_eq (eqFV_eq n) h]
   ·rw [eqL_eq (eqFV_eq n) h]
   ·cases h
def eqAV:Nat→AV→AV→Bool
 | 0,_,_=>false
 | n+1,x,y=>match x,y with
   | .f a,.f b=>eqFV 60 a b
   | .agg l,.agg m=>eqL (eqAV n) l m
   | .tup l,.tup m=>eqL (eqAV n) l m
   | _,_=>false
theorem eqAV_eq:∀ (n:Nat) (x y:AV),eqAV n x y=true→x=y
 | 0,_,_,h=>by cases h
 | n+1,x,y,h=>by
   unfold eqAV at h
   split at h
   ·rw [eqFV_eq _ _ _ h]
   ·rw [eqL_eq (eqAV_eq n) h]
   ·rw [eqL_eq (eqAV_eq n) h]
   ·cases h
def addK (C:Kw) (g0:FuncId) (a0:List AV) (r0:AV):Kw:=fun g args outs=>match Nat.beq g g0 with
 | false=>C g args outs
 | true=>match outs with
   | []=>match eqL (eqAV 3) args a0 with
     | true=>some (r0,[])
     | false=>C g args outs
   | _=>C g args outs
theorem addK_ok {P:Program} {C:Kw} {g0:FuncId} {a0:List AV} {r0:AV} (hC:KwOk P C) (h0:CallE P g0 a0 [] r0 []):KwOk P (addK C g0 a0 r0):=by
 intro g args outs r o h
 unfold addK at h
 split at h
 ·exact hC _ _ _ _ _ h
 ·rename_i hg
  split at h
  ·split at h
   ·rename_i he
    simp only [Option.some.injEq,Prod.mk.injEq] at h
    obtain ⟨rfl,rfl⟩:=h
    rw [Nat.eq_of_beq_eq_true hg,eqL_eq (eqAV_eq 3) he];exact h0
   ·exact hC _ _ _ _ _ h
  ·exact hC _ _ _ _ _ h
end Go.Ev
set_option linter.unusedSimpArgs false
set_option linter.unusedVariables false
namespace Go.Ev
open Go Go.Proofs
def mvTab:List (Nat×List Nat):=[(7,[141]),(8,[49]),(9,[31]),(10,[28,59]),(13,[19]),(18,[18]),(23,[21,39,47,48]),(24,[85,86]),(28,[45,61]),(30,[62]),(31,[28]),(33,[40]),(35,[80]),(37,[74]),(40,[26]),(41,[50]),(50,[60]),(52,[85]),(54,[84]),(55,[38]),(56,[11]),(59,[22]),(67,[22]),(70,[12]),(72,[40]),(74,[99,159]),(76,[17]),(77,[17]),(79,[35]),(91,[37,68]),(92,[17]),(97,[16]),(98,[34]),(100,[16]),(101,[26]),(108,[17]),(109,[20]),(111,[17]),(113,[41]),(114,[75]),(120,[17]),(122,[4])]
def mkTab:List (Nat×Nat):=[(6,75663830877394306174975),(7,1717546475004171485484442572075780560381951),(8,1094156190546943),(9,21303391),(10,365515997340883455),(11,415),(12,1720048800366591),(13,970687),(14,991),(15,827304666842329471),(16,2127),(17,156543),(18,287),(19,45119),(20,1246180066586631010303),(21,22440920856670463),(22,182519825271200419703983765723122025471),(23,48705928839167),(24,20769374479943885436092415),(25,1069352461359706520575),(26,91861730047),(27,2611899615),(28,4198966582730863103),(29,2127),(30,6595090301555572669),(31,503316351),(32,245631),(33,575735489279),(34,103),(35,32012181013889739044351),(36,44717439),(37,35568957268767864651903),(38,103),(39,366884988728372564664010998062997922430463),(40,14222911),(41,2098614184710143),(42,32767),(43,44717439),(44,7),(45,127),(46,127),(47,15),(48,2105343),(49,783),(50,1034750495697600511),(51,16415),(52,46776595544969660462940927),(53,2033016789861426175),(54,26483012487235437344062975),(55,404633387007),(56,3951),(57,115837),(58,45659165119),(59,458367),(60,796878719),(61,1791),(62,16415),(63,63),(64,16383),(65,1015679),(66,15),(67,7078271),(68,237382586126004735),(69,1151),(70,2319),(71,290184631),(72,2181808166271),(73,63),(74,1459996639440916079562133290943170518297767444479),(75,103),(76,89087),(77,121855),(78,804978687),(79,51526074367),(80,1073742063),(81,33311),(82,6771418607615),(83,69341631),(84,214746687),(85,127),(86,2144634104195964678593313791),(87,3813328480645375),(88,67775),(89,581127330000383),(90,127),(91,34027325145605147099135),(92,87039),(95,15),(96,305439),(97,98847),(98,32689427039),(99,32919),(100,111199),(101,120153471),(102,4239),(103,4870847),(105,7),(106,7),(107,25437071),(108,121855),(109,1454079),(110,4361359),(111,121855),(113,4398032355071),(114,71461516959638126311422),(117,370975),(118,7),(119,527671295),(120,194559),(121,15),(122,31),(134,370975)]
noncomputable def cfx (g:FuncId) (nt:Nat):Cfg:=cfgX (cf (mvT mvTab g) nt) 93
theorem cfx_ok:XOk Try.prog cfx:=⟨fun g nt=>cfgX_ok (cfOk _ nt) rfl,fun _ _=>rfl⟩
end Go.Ev
