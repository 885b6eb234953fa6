import Derived.Test.YtkeiahjelpjegaaGreatA00
import Derived.Tactics
import Derived.RangeFuncRecord
import Derived.OpenShut
import Derived.Below
import Derived.RangeFuncSeq
set_option linter.unusedVariables false
set_option linter.unusedSimpArgs false
namespace Go.Ev
open Go Go.RowKit
variable {P : Program}
section
variable {CE : CEx} {c : Cfg} {G : Sta} {own : Own} {a : Act} {w : World} {T : List Acc} {next : Act → World → Prop}
variable {F : Fence} {n : Nat} {o : Oper} {Q : Exit → Act → World → Prop}
theorem run_load_all {k q N:Nat} (h:∀ p,p < N→∃ v,w.cell? ⟨k,q+p,none⟩=some v) :
 ∃ us:List Value,us.length=N∧(∀ w',(∀ p,w'.cell? p=w.cell? p)→(loadCells ⟨k,q,none⟩ N).run P w'=.ok us.toArray w')∧∀ (p:Nat) v,us[p]?=some v→w.cell? ⟨k,q+p,none⟩=some v:=by
 refine ⟨(List.range N).map fun p=>(w.cell? ⟨k,q+p,none⟩).getD undef,by simp,?_,fun p v hp=>?_⟩
 ·exact fun w' hw'=>run_loadCells w' ⟨k,q,none⟩ N _ (fun j hj=>by
   rw [za5,hw'];obtain ⟨v,hv⟩:=h j hj;rw [hv];rfl)
 ·rw [List.getElem?_map] at hp
  by_cases hlt:p < N
  ·rw [List.getElem?_range hlt] at hp
   cases hp
   obtain ⟨v,hv⟩:=h p hlt;simp [hv]
  ·rw [List.getElem?_eq_none (by simpa using hlt)] at hp;cases hp
theorem divmod {p sz n:Nat} (hsz:0 < sz) (h:p < n * sz):p / sz < n∧p % sz < sz∧p=p / sz * sz+p % sz:=
 ⟨(Nat.div_lt_iff_lt_mul hsz).2 h,Nat.mod_lt _ hsz,(Nat.div_add_mod' p sz).symm⟩
theorem one_oneCell {y:FV} {v:Value} (h:RF own w y v) (hy:y.one=true):v.oneCell'=true:=by
 cases h with
 | pv _ h=>exact h
 | sl=>rfl
 | agg=>simp [FV.one] at hy
theorem zg8 {m:List FV} {u:Value} {sz:Nat} (hsz:0 < sz) (h:RF own w (.sl m) u) (hf:m.all (FV.fits sz)=true) :
 ∃ (us:List Value) (a':Option Addr) (c':Nat),u=.slice a' m.length c'∧us.length=m.length * sz∧(∀ w',(∀ p,w'.cell? p=w.cell? p)→(Builtin.firstCells sz m.length u).run P w'=.ok us.toArray w')∧(∀ v∈us,v.oneCell'=true)∧
   ∀ (i:Nat) x (j:Nat) y,m[i]?=some x→x.cells[j]?=some y→∃ v,us[i * sz+j]?=some v∧RF own w y v:=by
 cases h with
 | sl l a' n c' ad s0 hn hc ha hsz0 hcell hv=>
   subst hn
   by_cases hm:m=[]
   ·subst hm
    refine ⟨[],a',c',rfl,by simp,fun w' _=>?_,by simp,fun i x j y h=>by simp at h⟩
    cases a'<;>simp [Builtin.firstCells,loadCells,loadCellsFrom]
   ·obtain ⟨rfl,h2,h3,h4⟩:=ha hm
    have hs:s0=sz:=by
     obtain ⟨x,hx⟩:=List.exists_mem_of_ne_nil m hm
     rw [← hsz0 x hx];exact (zb9 (List.all_eq_true.1 hf x hx)).1
    subst hs
    have hget:∀ p,p < m.length * s0→∃ x y,m[p / s0]?=some x∧x.cells[p % s0]?=some y∧y.one=true:=by
     intro p hp
     obtain ⟨d1,d2,d3⟩:=divmod hsz hp
     have hx:m[p / s0]?=some (m[p / s0]'d1):=by simp [d1]
     have hxs:=zb9 (List.all_eq_true.1 hf _ (List.mem_of_getElem? hx))
     have hlt:p % s0 < (m[p / s0]'d1).cells.length:=by have:=hxs.1;simp only [FV.size] at this;omega
     exact ⟨_,_,hx,by simp [hlt],hxs.2 _ (List.getElem_mem hlt)⟩
    obtain ⟨blk,off,sp⟩:=ad
    simp only at h2 h3 h4;subst h2
    obtain ⟨us,u1,u2,u3⟩:=run_load_all (P:=P) (w:=w) (k:=blk) (q:=off) (N:=m.length * s0) (fun p hp=>by
     obtain ⟨x,y,hx,hy,_⟩:=hget p hp
     obtain ⟨v,hv'⟩:=hcell _ x _ y hx hy
     obtain ⟨d1,d2,d3⟩:=divmod hsz hp
     exact ⟨v,by rw [d3];exact hv'⟩)
    refine ⟨us,_,c',rfl,u1,fun w' hw'=>by simpa [Builtin.firstCells] using u2 w' hw',?_,?_⟩
    ·intro v hv'
     obtain ⟨p,hp⟩:=List.mem_iff_getElem?.1 hv'
     have hlt:=(List.getElem?_eq_some_iff.1 hp).1
     obtain ⟨x,y,hx,hy,hone⟩:=hget p (by omega)
     obtain ⟨d1,d2,d3⟩:=divmod hsz (show p < m.length * s0 by omega)
     have hcl:=u3 p v hp
     rw [d3] at hcl
     exact one_oneCell (hv _ x _ y v hx hy hcl) hone
    ·intro i x j y hi hj
     have hjl:j < s0:=by have:=(List.getElem?_eq_some_iff.1 hj).1;have:=hsz0 x (List.mem_of_getElem? hi);simp only [FV.size] at this;omega
     have hil:=(List.getElem?_eq_some_iff.1 hi).1
     have hlt:i * s0+j < us.length:=by
      rw [u1]
      have:(i+1) * s0≤m.length * s0:=Nat.mul_le_mul_right _ hil
      rw [Nat.add_mul] at this;omega
     refine ⟨us[i * s0+j],by simp [hlt],?_⟩
     exact hv i x j y _ hi hj (u3 _ _ (by simp [hlt]))
theorem str_cells (s:ByteArray):(Builtin.firstCells 1 s.size (.string s)).run P w=.ok ((strElems s).map fun y=>match y with | .pv v=>v | _=>undef).toArray w:=by
 simp only [Builtin.firstCells,Sem.run_pure]
 congr 1
 apply Array.ext'
 simp only [Array.toList_map,strElems,List.map_map,ByteArray.toList_eq]
 have:(s.extract 0 s.size)=s:=by
  apply ByteArray.ext
  rw [ByteArray.data_extract]
  exact Array.extract_size
 rw [this]
 rfl
theorem zdK {E T1 T2:TypeId} {D2:TypeDesc} (hun1:P.underlying T1=some (.slice E)) (hun2:P.underlying T2=some D2) (hsrc:isSrcD D2=true) {sz len m cap:Nat} {base:Option Addr} {v:Value} {us:List Value} {ty:TypeId}
 (hszE:(sizeOf E).run P w=.ok sz w) (hl1:(Builtin.lenOf v).run P w=.ok m w) (hf1:(Builtin.firstCells sz m v).run P w=.ok us.toArray w) (hroom:len+m≤cap) :
 (Builtin.append_ #[T1,T2] ty #[.slice base len cap,v]).run P w=(match base with | some a=>((storeCells (a.add (len * sz)) us).run P w).andThen fun _ w=>.ok (.slice base (len+m) cap) w | none=>.ok (.slice base (len+m) cap) w):=by
 cases D2<;>simp [isSrcD] at hsrc
 all_goals cases base<;>simp [Builtin.append_,run_underlying hun1,run_underlying hun2,hszE,hl1,hf1,hroom]
theorem zhc {E T1 T2:TypeId} {D2:TypeDesc} (hun1:P.underlying T1=some (.slice E)) (hun2:P.underlying T2=some D2) (hsrc:isSrcD D2=true) {sz by_ len m cap:Nat} {base:Option Addr} {v zv:Value} {us os:List Value} {ty:TypeId} {f:TypeInfo}
 (hszE:(sizeOf E).run P w=.ok sz w) (hl1:(Builtin.lenOf v).run P w=.ok m w) (hin:∀ w,(typeInfo E).run P w=.ok f w) (hby:f.bytes=by_) (hb0:0 < by_) (hroom:¬ len+m≤cap) (hcap:len≤cap) (hfit:(len+m) * by_≤2 ^ 47)
 (hf1:∀ w',(∀ p,w'.cell? p=w.cell? p)→(Builtin.firstCells sz m v).run P w'=.ok us.toArray w') (hf0:∀ w',(∀ p,w'.cell? p=w.cell? p)→(Builtin.firstCells sz len (.slice base len cap)).run P w'=.ok os.toArray w') (hz:∀ w',(zeroValue E).run P w'=.ok zv w') :
 ∃ cap' rest,len+m≤cap'∧rest.size=(cap' - (len+m)) * zv.cells.size∧(Builtin.append_ #[T1,T2] ty #[.slice base len cap,v]).run P w=.ok (.slice (some ⟨w.heap.size,0,none⟩) (len+m) cap') (w.drew.alloc (.cells (os.toArray++us.toArray++rest) E)):=by
 subst hby
 refine ⟨(Question.appendCap (len+m) cap E).cut (w.tape w.drawn (.appendCap (len+m) cap E)),Builtin.zeroCells zv.cells ((Question.appendCap (len+m) cap E).cut (w.tape w.drawn (.appendCap (len+m) cap E)) - (len+m)),?_,?_,?_⟩
 ·simp only [Question.cut];omega
 ·simp [Builtin.zeroCells]
 ·have hn:¬ Builtin.nextslicecap (len+m) cap * f.bytes > 2 ^ 48:=by
   have h1:=nextslicecap_le (need:=len+m) (old:=cap) (by omega)
   have h2:Builtin.nextslicecap (len+m) cap * f.bytes≤2 * (len+m) * f.bytes:=Nat.mul_le_mul_right _ h1
   have h3:2 * (len+m) * f.bytes=2 * ((len+m) * f.bytes):=Nat.mul_assoc _ _ _
   omega
  have hb:¬ f.bytes=0:=by omega
  have hd:∀ p,w.drew.cell? p=w.cell? p:=fun p=>rfl
  have k1:=hf1 w.drew hd
  have k2:=hf0 w.drew hd
  have k3:=hz w.drew
  cases D2<;>simp [isSrcD] at hsrc
  all_goals
   have hn':¬ 2 ^ 48 < Builtin.nextslicecap (len+m) cap * f.bytes:=hn
   simp only [Builtin.append_,List.getElem?_toArray,List.getElem?_cons_zero,List.getElem?_cons_succ,Sem.run_bind,run_underlying hun1,run_underlying hun2,Result.andThen_ok,hszE,Sem.run_pure,hl1,Bool.false_eq_true,if_false,Sem.run_ite,if_neg hroom,hin,hb,false_or,or_false,and_false,if_neg hn,run_choose,Question.forced,World.drew_eq,run_askRoom,Bool.not_false,if_true]
   simp only [Result.andThen_ok,hin,k1,k2,k3,newRow,Sem.run_bind,run_newObj,Sem.run_pure,World.alloc_eq,World.size_drew]
theorem append_core (hc:CfgOk P c) {E T1 T2:TypeId} {i i1 i2:TI} (hE:c.ti E=some i) (h1:c.ti T1=some i1) (hd1:i1.desc=.slice E) (h2:c.ti T2=some i2) (hsrc:isSrcD i2.desc=true) {z:AV} (hz:i.zero=some z) (hby:0 < i.bytes) (hsz:0 < i.size) (hzl:z.leaves.length=i.size)
 {G2:Sta} {own1:Own} (s:St P c.nt G2 own1 a w) {b q:Nat} {l m:List FV} {u v:Value} (hdead:Dead G2 b q) (hu:OwnL P own1 w b q E l u) {us:List Value}
 (hl1:(Builtin.lenOf v).run P w=.ok m.length w) (hf1:∀ w',(∀ p,w'.cell? p=w.cell? p)→(Builtin.firstCells i.size m.length v).run P w'=.ok us.toArray w') (hus:us.length=m.length * i.size) (hone:∀ v∈us,v.oneCell'=true) (hms:∀ x∈m,x.size=i.size)
 (hcells:∀ (i':Nat) x (j:Nat) y,m[i']?=some x→x.cells[j]?=some y→∃ v,us[i' * i.size+j]?=some v∧RF own1 w y v) (hfit:(l.length+m.length) * i.bytes≤2 ^ 47) {t:Nat} (hlt:t < c.nt) (ty:TypeId) :
 ∃ r w' own',(Builtin.append_ #[T1,T2] ty #[u,v]).run P w=.ok r w'∧St P c.nt ((Up.set (tb t) (.own E (l++m))).app G2) own' (a.put (some t) r) w'∧Tr own1 w own' w':=by
 have hun1:P.underlying T1=some (.slice E):=by rw [← hd1];exact (hc T1 _ h1).und
 have hun2:=(hc T2 _ h2).und
 have hszE:(sizeOf E).run P w=.ok i.size w:=(hc E _ hE).run_size w
 have hesz:esz P E=i.size:=(hc E _ hE).cells
 obtain ⟨a',cap,rfl,hcap,hB⟩:=hu
 by_cases hroom:l.length+m.length≤cap
 ·-- there is room
  rcases hB with ⟨rfl,rfl,rfl⟩ | ⟨k,rfl,hB⟩
  ·have hm:m=[]:=by simpa using hroom
   subst hm
   have:us=[]:=List.length_eq_zero_iff.1 (by simpa using hus)
   subst this
   refine ⟨.slice none 0 0,w,own1,?_,?_,Tr.refl _ _⟩
   ·rw [zdK hun1 hun2 hsrc hszE hl1 (hf1 w (fun _=>rfl)) (by simp)];rfl
   ·exact s.set_pure hlt ⟨none,0,rfl,Nat.le_refl _,.inl ⟨rfl,rfl,rfl⟩⟩
  ·obtain ⟨hk,arr,e2,e3,e4,e5⟩:=hB
   have hin:l.length * i.size+us.length≤arr.size:=by
    rw [hus,← Nat.add_mul]
    refine Nat.le_trans (Nat.mul_le_mul_right _ hroom) ?_
    rw [← hesz];exact e3
   have hst:=run_storeCells_at (P:=P) k (l.length * i.size) E us 0 arr w e2 (by simpa using hin) hone
   rw [Nat.add_zero] at hst
   obtain ⟨arr2,harr2⟩:∃ arr2,arr2=(arr.toList.take (l.length * i.size)++us++arr.toList.drop (l.length * i.size+us.length)).toArray:=⟨_,rfl⟩
   rw [← harr2] at hst
   have hget:∀ p,arr2[p]?=if p < l.length * i.size then arr[p]? else if p < l.length * i.size+us.length then us[p - l.length * i.size]? else arr[p]?:=by
    intro p
    rw [harr2]
    simp only [List.getElem?_toArray,List.getElem?_append,List.length_append,List.length_take,Array.length_toList]
    have hmin:min (l.length * i.size) arr.size=l.length * i.size:=by omega
    rw [hmin]
    by_cases h1:p < l.length * i.size
    ·rw [if_pos (by omega),if_pos h1,if_pos h1,List.getElem?_take,if_pos h1];simp
    ·rw [if_neg h1]
     by_cases h2:p < l.length * i.size+us.length
     ·rw [if_pos h2,if_neg h1,if_pos h2]
     ·rw [if_neg h2,if_neg h2,List.getElem?_drop,show l.length * i.size+us.length+(p - (l.length * i.size+us.length))=p by omega];simp
   have hsize:arr2.size=arr.size:=by
    rw [harr2];simp;omega
   have hw2:=setRow_heap w k arr arr2 E (0,0) e2
   have hother:∀ j,j≠k→(w.setRow k arr2).heap[j]?=w.heap[j]?:=by
    intro j hj
    simp only [World.setRow,Array.getElem?_modify]
    rw [if_neg (fun e=>hj e.symm)]
   have hsz2:(w.setRow k arr2).heap.size=w.heap.size:=by simp [World.setRow]
   have ht:Tr own1 w (relab own1 b q (tb t) 0) (w.setRow k arr2):=by
    refine ⟨by rw [hsz2];exact Nat.le_refl _,fun j hj hn=>⟨by simp [relab,hn],hother j ?_⟩,rfl,rfl,rfl,fun j x hn=>⟨by simp [relab,hn],hother j ?_⟩,fun j x _ hn=>by simp [relab,hn]⟩
    all_goals (intro e;subst e;rw [hk] at hn;cases hn)
   refine ⟨.slice (some ⟨k,0,none⟩) (l.length+m.length) cap,w.setRow k arr2,relab own1 b q (tb t) 0,?_,?_,ht⟩
   ·have hadd:(Addr.add ⟨k,0,none⟩ (l.length * i.size))=⟨k,l.length * i.size,none⟩:=by rw [za5,Nat.zero_add]
    rw [zdK hun1 hun2 hsrc hszE hl1 (hf1 w (fun _=>rfl)) hroom]
    simp only [hadd,hst,Result.andThen_ok]
   ·refine s.set hlt ht (fun j b' hj=>⟨(zc1 _ _ _ _ _ _ _).1 hj,hother j ?_⟩) ?_ ?_ (zhd s.one) (fun j x hj=>by rw [hsz2];exact relab_lt s.lt j x hj)
    ·intro e;subst e;rw [hk] at hj;cases hj
    ·intro b' o' E' l' k' c' hb' hl' hB'
     have n1:¬ (b'=b∧o'=q):=by rintro ⟨rfl,rfl⟩;exact hdead _ _ hl'
     have n2:¬ (b'=tb t∧o'=0):=fun e=>hb' e.1
     refine hB'.mono ht (by simp only [relab,hB'.1,Option.some.injEq,Owner.sl.injEq,if_neg n1,if_neg n2]) (hother k' ?_)
     intro e;subst e
     have:=hB'.1;rw [hk] at this;injection this with this;injection this with p1 p2;exact n1 ⟨p1.symm,p2.symm⟩
    ·refine ⟨some ⟨k,0,none⟩,cap,by simp,by simpa using hroom,.inr ⟨k,rfl,by simp [relab,hk],arr2,hw2,by rw [hsize];exact e3,?_,?_⟩⟩
     ·intro x hx
      rcases List.mem_append.1 hx with hx | hx
      ·exact e4 x hx
      ·rw [hesz];exact hms x hx
     ·intro i' x j y g1 g2
      rw [hget]
      by_cases hi:i' < l.length
      ·rw [List.getElem?_append_left hi] at g1
       have hjl:j < esz P E:=by have:=(List.getElem?_eq_some_iff.1 g2).1;have:=e4 x (List.mem_of_getElem? g1);simp only [FV.size] at this;omega
       have hlt':i' * esz P E+j < l.length * i.size:=by
        rw [← hesz]
        have:(i'+1) * esz P E≤l.length * esz P E:=Nat.mul_le_mul_right _ hi
        rw [Nat.add_mul] at this;omega
       rw [if_pos hlt']
       obtain ⟨v',p1,p2⟩:=e5 i' x j y g1 g2
       exact ⟨v',p1,p2.mono ht⟩
      ·rw [List.getElem?_append_right (by omega)] at g1
       obtain ⟨v',p1,p2⟩:=hcells _ x j y g1 g2
       have hp:=(List.getElem?_eq_some_iff.1 p1).1
       have hidx:i' * esz P E+j=l.length * i.size+((i' - l.length) * i.size+j):=by
        rw [hesz,← Nat.add_assoc,← Nat.add_mul,show l.length+(i' - l.length)=i' by omega]
       rw [hidx,if_neg (by omega),if_pos (by omega),show l.length * i.size+((i' - l.length) * i.size+j) - l.length * i.size=(i' - l.length) * i.size+j by omega]
       exact ⟨v',p1,p2.mono ht⟩
 ·-- it grows
  obtain ⟨zv,hz1,hz2⟩:∃ zv,(∀ w',(zeroValue E).run P w'=.ok zv w')∧zeroFits z zv:=by
   obtain ⟨f,g1,g2,g3,g4⟩:=(hc E _ hE).info
   obtain ⟨zv,g5,g6⟩:=g4 z hz
   exact ⟨zv,fun w'=>by simp [zeroValue,typeInfo,g1,g5],g6⟩
  obtain ⟨f,hin,hfb⟩:∃ f,(∀ w',(typeInfo E).run P w'=.ok f w')∧f.bytes=i.bytes:=by
   obtain ⟨f,g1,g2,g3,g4⟩:=(hc E _ hE).info
   exact ⟨f,fun w'=>by simp [typeInfo,g1],g3⟩
  have hzs:zv.cells.size=i.size:=by
   rw [← hzl];exact (zdc (P:=P) (G:=G2) (own:=own1) (w:=w) (b:=0) hz2).1.symm
  have old:∃ os:List Value,os.length=l.length * i.size∧(∀ w',(∀ p,w'.cell? p=w.cell? p)→(Builtin.firstCells i.size l.length (.slice a' l.length cap)).run P w'=.ok os.toArray w')∧
   (∀ x∈l,x.size=i.size)∧∀ (i':Nat) x (j:Nat) y,l[i']?=some x→x.cells[j]?=some y→∃ v,os[i' * i.size+j]?=some v∧RF own1 w y v:=by
   rcases hB with ⟨rfl,rfl,rfl⟩ | ⟨k,rfl,hk,arr,e2,e3,e4,e5⟩
   ·exact ⟨[],by simp,fun w' _=>by simp [Builtin.firstCells],by simp,fun i' x j y h=>by simp at h⟩
   ·have hlen:l.length * i.size≤arr.size:=by
     refine Nat.le_trans (Nat.mul_le_mul_right _ hcap) ?_
     rw [← hesz];exact e3
    have hcl:∀ p,p < l.length * i.size→w.cell? ⟨k,0+p,none⟩=some (arr.getD p undef):=by
     intro p hp;simp [World.cell?,e2,show p < arr.size by omega]
    refine ⟨(List.range (l.length * i.size)).map fun p=>arr.getD p undef,by simp,fun w' hw'=>?_,fun x hx=>by rw [← hesz];exact e4 x hx,fun i' x j y g1 g2=>?_⟩
    ·simp only [Builtin.firstCells]
     exact run_loadCells w' ⟨k,0,none⟩ _ _ (fun j hj=>by rw [za5,hw'];exact hcl j hj)
    ·obtain ⟨v',p1,p2⟩:=e5 i' x j y g1 g2
     have hil:=(List.getElem?_eq_some_iff.1 g1).1
     have hjl:j < i.size:=by have:=(List.getElem?_eq_some_iff.1 g2).1;have:=e4 x (List.mem_of_getElem? g1);rw [hesz] at this;simp only [FV.size] at this;omega
     have hlt':i' * i.size+j < l.length * i.size:=by
      have:(i'+1) * i.size≤l.length * i.size:=Nat.mul_le_mul_right _ hil
      rw [Nat.add_mul] at this;omega
     rw [hesz] at p1
     refine ⟨v',?_,p2⟩
     rw [List.getElem?_map,List.getElem?_range hlt']
     simp [p1]
  obtain ⟨os,o1,o2,o3,o4⟩:=old
  obtain ⟨cap',rest,r1,r2,r3⟩:=zhc (P:=P) (w:=w) (E:=E) (base:=a') (zv:=zv) (ty:=ty) hun1 hun2 hsrc hszE hl1 hin hfb hby hroom hcap hfit hf1 o2 hz1
  have hsize:(os.toArray++us.toArray++rest).size=cap' * i.size:=by
   simp only [Array.size_append,List.size_toArray,o1,hus,r2,hzs]
   rw [← Nat.add_mul,← Nat.add_mul];congr 1;omega
  obtain ⟨s2,t2⟩:=s.set_new (t:=t) (E:=E) (l:=l++m) (u:=.slice (some ⟨w.heap.size,0,none⟩) (l.length+m.length) cap') (w':=w.drew.alloc (.cells (os.toArray++us.toArray++rest) E)) (n:=w.heap.size) hlt (Nat.le_refl _) (by simp) (fun k hk=>za0 w.drew _ hk) rfl rfl rfl
   (fun t2=>⟨some ⟨w.heap.size,0,none⟩,cap',by simp,by simpa using r1,.inr ⟨w.heap.size,rfl,by simp [ownSl],_,zbi w.drew _,by rw [hesz,hsize];exact Nat.le_refl _,(fun x hx=>by
     rw [hesz]
     rcases List.mem_append.1 hx with hx | hx
     ·exact o3 x hx
     ·exact hms x hx),(fun i' x j y g1 g2=>by
     rw [hesz]
     by_cases hi:i' < l.length
     ·rw [List.getElem?_append_left hi] at g1
      obtain ⟨v',p1,p2⟩:=o4 i' x j y g1 g2
      have hp:=(List.getElem?_eq_some_iff.1 p1).1
      exact ⟨v',by rw [Array.getElem?_append_left (by simp;omega),Array.getElem?_append_left (by simpa using hp)];simpa using p1,p2.mono t2⟩
     ·rw [List.getElem?_append_right (by omega)] at g1
      obtain ⟨v',p1,p2⟩:=hcells _ x j y g1 g2
      have hp:=(List.getElem?_eq_some_iff.1 p1).1
      have hidx:i' * i.size+j=os.length+((i' - l.length) * i.size+j):=by
       rw [o1,← Nat.add_assoc,← Nat.add_mul,show l.length+(i' - l.length)=i' by omega]
      refine ⟨v',?_,p2.mono t2⟩
      rw [Array.getElem?_append_left (by simp;omega),Array.getElem?_append_right (by simp;omega)]
      simp only [List.size_toArray,List.getElem?_toArray]
      rw [hidx,Nat.add_sub_cancel_left];exact p1)⟩⟩)
  exact ⟨_,_,_,r3,s2,t2⟩
end
end Go.Ev
set_option linter.unusedVariables false
set_option linter.unusedSimpArgs false
namespace Go.Ev
open Go Go.RowKit
variable {P : Program}
section
variable {CE : CEx} {c : Cfg} {G : Sta} {own : Own} {a : Act} {w : World} {T : List Acc} {next : Act → World → Prop}
variable {F : Fence} {n : Nat} {o : Oper} {Q : Exit → Act → World → Prop}
theorem cp1_leaf {v:AV} {k:AV→List Up→RM} {K:List Up→List Acc→Prop} (h:(cp1 v k).wp CE G T K):v.isLeaf=true:=by
 cases v<;>first | rfl | exact h.elim
theorem frzs_ne {b q:Nat}:∀ {W:List Up},FrzOnly W→W.all (frzNe b q)=true→∀ {own:Own},(∀ E l u,OwnL P own w b q E l u→OwnL P (frzsOwn W own) w b q E l u)
 | [],_,_,own=>fun _ _ _ h=>h
 | x :: W,hW,hall,own=>by
   obtain ⟨d,p,rfl⟩:=hW x (List.mem_cons_self ..)
   simp only [List.all_cons,Bool.and_eq_true,frzNe,Bool.not_eq_true',Bool.and_eq_false_iff,beq_eq_false_iff_ne] at hall
   have ih:=frzs_ne (W:=W) (fun y hy=>hW y (List.mem_cons_of_mem _ hy)) hall.2 (own:=ownFrz own d p)
   intro E l u h
   refine ih E l u ?_
   obtain ⟨a',c',e1,e2,e3⟩:=h
   refine ⟨a',c',e1,e2,e3.imp id ?_⟩
   rintro ⟨k,e4,e5⟩
   refine ⟨k,e4,e5.mono' (frz_tr _ _ _ _) ?_⟩
   simp only [ownFrz,e5.1,Option.some.injEq,Owner.sl.injEq]
   rw [if_neg]
   rintro ⟨rfl,rfl⟩
   rcases hall.1 with h | h<;>exact h rfl
theorem fresh_key (G:Sta):∃ b,get G b=none:=by
 have:∀ G:Sta,∃ N,∀ b,N≤b→get G b=none:=by
  intro G
  induction G with
  | nil=>exact ⟨0,fun _ _=>rfl⟩
  | cons x G ih=>
    obtain ⟨k,v⟩:=x
    obtain ⟨N,hN⟩:=ih
    refine ⟨max N (k+1),fun b hb=>?_⟩
    simp only [get]
    rw [if_neg (by omega)]
    exact hN b (by omega)
 obtain ⟨N,hN⟩:=this G
 exact ⟨N,hN N (Nat.le_refl _)⟩
theorem zf6 (hc:CfgOk P c) {E T1 T2:TypeId} {i i1 i2:TI} (hE:c.ti E=some i) (h1:c.ti T1=some i1) (hd1:i1.desc=.slice E) (h2:c.ti T2=some i2) (hsrc:isSrcD i2.desc=true) {z:AV} (hz:i.zero=some z) (hby:0 < i.bytes) (hsz:0 < i.size) (hzl:z.leaves.length=i.size)
 (s:St P c.nt G own a w) {d:Option Tmp} {ys:AV} {l:List FV} {bo:Option (Nat×Nat)} {u v:Value} (hu:bo.elim (l=[]∧u=.slice none 0 0) fun x=>OwnL P own w x.1 x.2 E l u) (hv:RV P G own w ys v) (ty:TypeId)
 (h:(apGo c d E i ys l bo).wp CE G T (Kn P c.nt G own a w next)):∃ r w',(Builtin.append_ #[T1,T2] ty #[u,v]).run P w=.ok r w'∧next (a.put d r) w':=by
 have hl:=cp1_leaf h
 obtain ⟨y,W,T2',own2,k1,k2,k3,k4,k5,k6,rfl⟩:=zcM (U:=[]) FrzOnly.nil s (zgT hv hl) h
 simp only [List.nil_append] at k2 k3 k4
 split at k6
 ·rename_i hall
  obtain ⟨b,q,G2,s2,hd,hown,happ⟩:∃ b q G2,St P c.nt G2 (frzsOwn W own) a w∧Dead G2 b q∧OwnL P (frzsOwn W own) w b q E l u∧(∀ x,app ((W++boUps bo)++[x]) G=x.app G2):=by
   cases bo with
   | none=>
     obtain ⟨rfl,rfl⟩:=hu
     obtain ⟨b,hb⟩:=fresh_key (app W G)
     exact ⟨b,0,app W G,k2,fun E' l' hl'=>by simp [look,hb] at hl',⟨none,0,rfl,Nat.le_refl _,.inl ⟨rfl,rfl,rfl⟩⟩,fun x=>by simp [zap,app,boUps]⟩
   | some bq=>
     obtain ⟨b,q⟩:=bq
     obtain ⟨s2,_⟩:=k2.bad b q
     exact ⟨b,q,_,s2,zfn _ b q,frzs_ne k1 hall _ _ _ hu,fun x=>by simp [zap,app,boUps]⟩
  have fin:∀ {m:List FV} {us:List Value},(finNew c d (W++boUps bo) E (l++m)).wp CE G T2' (Kn P c.nt G own a w next)→(Builtin.lenOf v).run P w=.ok m.length w→(∀ w',(∀ p,w'.cell? p=w.cell? p)→(Builtin.firstCells i.size m.length v).run P w'=.ok us.toArray w')→
   us.length=m.length * i.size→(∀ v∈us,v.oneCell'=true)→(∀ x∈m,x.size=i.size)→(∀ (i':Nat) x (j:Nat) y,m[i']?=some x→x.cells[j]?=some y→∃ v,us[i' * i.size+j]?=some v∧RF (frzsOwn W own) w y v)→(l.length+m.length) * i.bytes≤2 ^ 47→
   ∃ r w',(Builtin.append_ #[T1,T2] ty #[u,v]).run P w=.ok r w'∧next (a.put d r) w':=by
   intro m us hfin q1 q2 q3 q4 q5 q6 q7
   cases d with
   | none=>exact hfin.elim
   | some t=>
     simp only [finNew] at hfin
     split at hfin
     ·rename_i hlt
      obtain ⟨r,w',own',r1,r2,r3⟩:=append_core hc hE h1 hd1 h2 hsrc hz hby hsz hzl s2 hd hown q1 q2 q3 q4 q5 q6 q7 hlt ty
      exact ⟨r,w',r1,hfin own' _ w' (by rw [happ];exact r2) (k3.tr.trans r3) rfl⟩
     ·exact hfin.elim
  split at k6
  ·rename_i m
   split at k6
   ·rename_i hcond
    obtain ⟨c1,c2⟩:=hcond
    have hrf:=k4.2
    obtain ⟨us,a',c',rfl,g1,g2,g3,g4⟩:=zg8 (P:=P) hsz hrf c2
    exact fin k6 rfl g2 g1 g3 (fun x hx=>(zb9 (List.all_eq_true.1 c2 x hx)).1) g4 c1
   ·exact k6.elim
  ·rename_i str
   split at k6
   ·rename_i hcond
    obtain ⟨c1,c2⟩:=hcond
    have hrf:v=.string str:=zbQ (P:=P) (G:=app W G) k4
    subst hrf
    have hlen:(strElems str).length=str.size:=by simp [strElems,ByteArray.toList_eq]
    refine fin k6 (us:=(strElems str).map fun y=>match y with | .pv v=>v | _=>undef) (by rw [hlen];rfl) (fun w' _=>by rw [c2,hlen];exact str_cells str) (by simp [c2]) ?_ ?_ ?_ (by rw [hlen];exact c1)
    ·intro v hv
     simp only [strElems,List.map_map,List.mem_map] at hv
     obtain ⟨b,_,rfl⟩:=hv;rfl
    ·intro x hx
     simp only [strElems,List.mem_map] at hx
     obtain ⟨b,_,rfl⟩:=hx;rw [c2];rfl
    ·intro i' x j yy g1 g2
     simp only [strElems,List.getElem?_map] at g1
     cases hb:str.toList[i']? with
     | none=>rw [hb] at g1;cases g1
     | some b=>
       rw [hb] at g1;cases g1
       cases j with
       | succ j=>simp [FV.cells] at g2
       | zero=>
         simp [FV.cells] at g2;subst g2
         exact ⟨_,by rw [c2,Nat.mul_one,Nat.add_zero,List.getElem?_map,strElems,List.getElem?_map,hb];rfl,RF.pv _ rfl⟩
   ·exact k6.elim
  ·exact k6.elim
 ·exact k6.elim
theorem op_append (hc:CfgOk P c) (hF:∀ f,F.fn f) (s:St P c.nt G own a w) {x y:Operand} {t t2:TypeId} (ho:o.op=.call { callee:=.builtin .append,args:=#[x,y],argTypes:=#[t,t2] })
 (h:(rdO y fun v=>appendRM c o.dst t t2 x v).wp CE G T (Kn P c.nt G own a w next)):o.wpIn F n P a w next Q:=by
 obtain ⟨v,T1,h1,h2⟩:=zG s h
 have fin:(∃ r w',(Builtin.append_ #[t,t2] o.type #[a.eval x,a.eval y]).run P w=.ok r w'∧next (a.put o.dst r) w')→o.wpIn F n P a w next Q:=by
  rintro ⟨r,w',r1,r2⟩
  refine zI hF (by simp [ho]) (u:=r) (w':=w') ?_ r2
  simp only [execOp,ho,resolve,Sem.run_bind]
  simp [invoke,builtin,r1]
 unfold appendRM at h2
 split at h2
 ·rename_i E sz0 by0 z0 i2 hti hti2
  split at h2
  ·rename_i i hE
   split at h2
   ·rename_i z hz
    split at h2
    ·rename_i hcond
     obtain ⟨hsrc,hby,hsz,hzl⟩:=hcond
     unfold apBase at h2
     split at h2
     ·exact fin (zf6 hc hE hti rfl hti2 hsrc hz hby hsz hzl s (bo:=none) ⟨rfl,rfl⟩ h1 o.type h2)
     ·rename_i tt
      obtain ⟨yy,T2,h3,h4⟩:=za9 h2
      have hr:=s.temp h3
      split at h4
      ·rename_i b q j m
       obtain ⟨yy,T3,h5,h6⟩:=za9 h4
       split at h6
       ·rename_i E' l
        split at h6
        ·rename_i hcond
         obtain ⟨rfl,rfl,rfl⟩:=hcond
         have hown:=(zeD h5 hr).2
         rw [List.take_length] at hown
         exact fin (zf6 hc hE hti rfl hti2 hsrc hz hby hsz hzl s (bo:=some (b,q)) hown h1 o.type h6)
        ·exact h6.elim
       ·exact h6.elim
      ·rename_i E' l
       split at h4
       ·rename_i hEE;subst hEE
        exact fin (zf6 hc hE hti rfl hti2 hsrc hz hby hsz hzl s (bo:=some (tb tt,0)) hr h1 o.type h4)
       ·exact h4.elim
      ·exact h4.elim
     ·exact h2.elim
    ·exact h2.elim
   ·exact h2.elim
  ·exact h2.elim
 ·exact h2.elim
theorem zd9 {m:Int} (h0:0≤m) (h:m < 2 ^ 40):IntKind.i64.wrap m=m:=by
 have h1:m % 2 ^ 64=m:=Int.emod_eq_of_lt h0 (by omega)
 simp [IntKind.wrap,IntKind.bits,IntKind.signed] at h1 ⊢
 omega
theorem elem_rv {z:AV} {zv:Value} {e:FV} (P:Program) (G:Sta) (hz:zeroFits z zv) (he:z.elem=some e):e.cells.length=zv.cells.size∧∀ (j:Nat) y u,e.cells[j]?=some y→zv.cells[j]?=some u→RF own w y u:=by
 have hrb:=zdc (P:=P) (G:=G) (own:=own) (w:=w) (b:=0) hz
 have key:e.cells.length=z.leaves.length∧∀ (j:Nat) y,e.cells[j]?=some y→z.leaves[j]?=some (.f y):=by
  cases z with
  | agg l=>
    simp only [AV.elem,Option.map_eq_some_iff] at he
    obtain ⟨fs,h1,rfl⟩:=he
    obtain ⟨h2,h3⟩:=zdq h1
    exact ⟨h2,fun j y hy=>(h3 j y hy).1⟩
  | f x=>
    simp only [AV.elem,AV.leafF] at he
    split at he
    ·rename_i hone
     cases he
     rw [FV.one_cells hone]
     refine ⟨rfl,fun j y hy=>?_⟩
     cases j with
     | zero=>simp at hy;subst hy;rfl
     | succ j=>simp at hy
    ·cases he
  | _=>simp [AV.elem,AV.leafF] at he
 refine ⟨by rw [key.1];exact hrb.1,fun j y u h1 h2=>?_⟩
 exact (hrb.2 j _ u (key.2 j y h1) h2).2
theorem op_makeSlice (hc:CfgOk P c) (hF:∀ f,F.fn f) (s:St P c.nt G own a w) {t:TypeId} {x y:Operand} (ho:o.op=.makeSlice t x y)
 (h:(rdO x fun p=>rdO y fun q=>makeSliceRM c o.dst t p q).wp CE G T (Kn P c.nt G own a w next)):o.wpIn F n P a w next Q:=by
 obtain ⟨v,T1,h1,h2⟩:=zG s h
 obtain ⟨v',T2,h3,h4⟩:=zG s h2
 unfold makeSliceRM at h4
 split at h4
 ·rename_i k1 l k2 m E sz0 by0 z0 hti
  have hx:=zbQ h1
  have hy:=zbQ h3
  split at h4
  ·rename_i D sz by_ z hE
   split at h4
   ·rename_i e he
    split at h4
    ·rename_i hcond
     obtain ⟨g1,g2,g3,g4,g5,g6⟩:=hcond
     obtain ⟨zv,z1,z2⟩:=(hc E _ hE).run_zero w rfl
     have hszE:(sizeOf E).run P w=.ok sz w:=(hc E _ hE).run_size w
     have hesz:esz P E=sz:=(hc E _ hE).cells
     obtain ⟨f,hin,_,hfb⟩:=(hc E _ hE).run_info w
     have hfb:f.bytes=by_:=hfb
     obtain ⟨fs1,fs2⟩:=zb9 g6
     obtain ⟨q1,q2⟩:=elem_rv (own:=own) (w:=w) P G z2 he
     have hzs:zv.cells.size=sz:=by rw [← q1];exact fs1
     have hm0:0≤m:=Int.le_trans g1 g2
     have hun:=(hc t _ hti).und
     obtain ⟨arr,harr⟩:∃ arr:Array Value,arr=if m.toNat * sz=0 then #[] else (Array.range (m.toNat * sz)).map (zv.cells[· % zv.cells.size]!):=⟨_,rfl⟩
     have hasz:arr.size=m.toNat * sz:=by rw [harr];split<;>simp_all
     have hget:∀ p,p < m.toNat * sz→arr[p]?=zv.cells[p % sz]?:=by
      intro p hp
      rw [harr,if_neg (by omega)]
      have hlt:p % sz < zv.cells.size:=by rw [hzs];exact Nat.mod_lt _ g5
      simp only [Array.getElem?_map,Array.getElem?_range,if_pos hp,Option.map_some,hzs]
      rw [getElem!_pos zv.cells _ hlt,Array.getElem?_eq_getElem hlt]
     have hrep:(List.replicate l.toNat e).length=l.toNat:=by simp
     have:=zcV (G:=G) (own':=own) (U:=[]) (w':=w.alloc (.cells arr E)) (cap:=m.toNat) (arr:=arr) s (Tr.refl _ _) (n0:=w.heap.size) (Nat.le_refl _) (by simp) (fun k hk=>za0 _ _ hk) rfl rfl rfl (zbi _ _)
      (by rw [hrep];omega) (by rw [hesz,hasz];exact Nat.le_refl _) (fun x hx=>by rw [hesz,List.eq_of_mem_replicate hx];exact fs1) (fun i x j yy e1 e2=>by
        have hx:=List.eq_of_mem_replicate (List.mem_of_getElem? e1);subst hx
        have hi:=(List.getElem?_eq_some_iff.1 e1).1
        rw [hrep] at hi
        have hj:j < sz:=by have:=(List.getElem?_eq_some_iff.1 e2).1;simp only [FV.size] at fs1;omega
        have hlt:i * sz+j < m.toNat * sz:=by
         have:(i+1) * sz≤m.toNat * sz:=Nat.mul_le_mul_right _ (by omega)
         rw [Nat.add_mul] at this;omega
        obtain ⟨zz,hzz⟩:∃ zz,zv.cells[j]?=some zz:=⟨zv.cells[j]'(by omega),by simp⟩
        refine ⟨zz,?_,q2 j yy zz e2 hzz⟩
        rw [hesz,hget _ hlt,show (i * sz+j) % sz=j by rw [Nat.add_comm,Nat.add_mul_mod_self_right,Nat.mod_eq_of_lt hj]];exact hzz) h4
     rw [hrep] at this
     refine zI hF (by simp [ho]) ?_ this
     have w1:=zd9 g1 (by omega)
     have w2:=zd9 hm0 g3
     simp only [execOp,ho]
     rw [Sem.run_bind]
     have hrun:(Instr.makeSlice t (a.eval x) (a.eval y)).run P w=.ok (.slice (some ⟨w.heap.size,0,none⟩) l.toNat m.toNat) (w.alloc (.cells arr E)):=by
      have n1:¬ m < 0:=by omega
      have n2:¬ ((f.bytes:Int) * m > 2 ^ 48):=by rw [hfb];omega
      have n3:¬ l < 0:=by omega
      have n4:¬ l > m:=by omega
      by_cases h0:m.toNat * sz=0
      ·rw [if_pos h0] at harr;subst harr
       have he:∀ g:Nat→Value,(Array.range (m.toNat * sz)).map g=#[]:=fun g=>Array.eq_empty_of_size_eq_zero (by simp [h0])
       simp only [Instr.makeSlice,hx,hy,Sem.run_bind,run_underlying hun,Result.andThen_ok,asInt,asIntOf,Sem.run_pure,hin,w1,w2,n1,n2,n3,n4,decide_false,Bool.or_false,Bool.false_eq_true,if_false,run_askRoom,hszE,Sem.run_ite,if_pos h0,he]
       simp [newRow]
      ·rw [if_neg h0] at harr;subst harr
       simp only [Instr.makeSlice,hx,hy,Sem.run_bind,run_underlying hun,Result.andThen_ok,asInt,asIntOf,Sem.run_pure,hin,w1,w2,n1,n2,n3,n4,decide_false,Bool.or_false,Bool.false_eq_true,if_false,run_askRoom,hszE,Sem.run_ite,if_neg h0,z1]
       simp [newRow]
     rw [hrun];rfl
    ·exact h4.elim
   ·exact h4.elim
  ·exact h4.elim
 ·exact h4.elim
end
end Go.Ev
set_option linter.unusedVariables false
set_option linter.unusedSimpArgs false
namespace Go.Ev
open Go Go.RowKit
variable {P : Program}
theorem rf_take {own:Own} {w:World} {es:List FV} {a:Option Addr} {n c h:Nat} (hr:RF own w (.sl es) (.slice a n c)) (hh:h≤es.length):RF own w (.sl (es.take h)) (.slice a h c):=by
 cases hr with
 | sl _ _ _ _ ad sz hn hc ha hsz hcell hv=>
   have hg:∀ (i:Nat) x,(es.take h)[i]?=some x→es[i]?=some x:=by
    intro i x hx
    rw [List.getElem?_take] at hx
    split at hx
    ·exact hx
    ·cases hx
   refine .sl _ a h c ad sz (by simp;omega) (by omega) (fun hne=>ha ?_) (fun x hx=>hsz x (List.mem_of_mem_take hx)) (fun i x j y h1 h2=>hcell i x j y (hg i x h1) h2) (fun i x j y v h1 h2 h3=>hv i x j y v (hg i x h1) h2 h3)
   intro e;subst e;simp at hne
theorem rf_drop {own:Own} {w:World} {es:List FV} {a:Option Addr} {n c lo hi size:Nat} (hr:RF own w (.sl es) (.slice a n c)) (hlo:lo≤hi) (hhi:hi≤es.length) (hs:∀ x∈es,x.size=size) :
 RF own w (.sl ((es.drop lo).take (hi - lo))) (.slice (if c=lo then a else a.map (·.add (lo * size))) (hi - lo) (c - lo)):=by
 by_cases hlt:lo=hi
 ·subst hlt
  simp only [Nat.sub_self,List.take_zero]
  exact RF.nil
 have hr':=hr
 cases hr with
 | sl _ _ _ _ ad sz hn hc ha hsz hcell hv=>
   have hne:es≠[]:=by intro e;subst e;simp at hhi;omega
   obtain ⟨h1,h2,h3,h4⟩:=ha hne
   have hszs:sz=size:=by
    cases es with
    | nil=>exact absurd rfl hne
    | cons x r=>rw [← hsz x (List.mem_cons_self ..),hs x (List.mem_cons_self ..)]
   subst hszs
   have hg:∀ (i:Nat) x,((es.drop lo).take (hi - lo))[i]?=some x→es[lo+i]?=some x:=by
    intro i x hx
    rw [List.getElem?_take] at hx
    split at hx
    ·rw [List.getElem?_drop] at hx;exact hx
    ·cases hx
   rw [if_neg (by omega),h1]
   refine .sl _ _ _ _ ⟨ad.block,ad.off+lo * sz,none⟩ sz (by simp;omega) (by omega) (fun _=>⟨?_,rfl,h3,h4⟩) (fun x hx=>hsz x (List.mem_of_mem_drop (List.mem_of_mem_take hx))) ?_ ?_
   ·simp only [Option.map_some,Option.some.injEq]
    have:ad=⟨ad.block,ad.off,none⟩:=by cases ad;simp at h2;subst h2;rfl
    rw [this,za5]
   ·intro i x j y e1 e2
    have:=hcell (lo+i) x j y (hg i x e1) e2
    rwa [Nat.add_mul,Nat.add_assoc,← Nat.add_assoc,← Nat.add_assoc,Nat.add_assoc (ad.off+lo * sz)] at this
   ·intro i x j y v e1 e2 e3
    refine hv (lo+i) x j y v (hg i x e1) e2 ?_
    rw [Nat.add_mul,Nat.add_assoc,← Nat.add_assoc,← Nat.add_assoc,Nat.add_assoc (ad.off+lo * sz)];exact e3
section
variable {CE : CEx} {c : Cfg} {G : Sta} {own : Own} {a : Act} {w : World} {T : List Acc} {next : Act → World → Prop}
variable {F : Fence} {n : Nat} {o : Oper} {Q : Exit → Act → World → Prop}
def bndAV (x:Option AV) (dflt:Nat):Option Nat:=match x with
    | none=>some dflt
    | some (.f (.pv (.int _ n)))=>if 0≤n then some n.toNat else none
    | _=>none
def RVo (P:Program) (G:Sta) (own:Own) (w:World):Option AV→Option Value→Prop
 | none,none=>True
 | some x,some v=>RV P G own w x v
 | _,_=>False
theorem zf5 {x:Option AV} {v:Option Value} {d l:Nat} (hx:RVo P G own w x v) (h:bndAV x d=some l):(v=none∧l=d)∨∃ k,v=some (.int k l):=by
 cases x with
 | none=>cases v<;>simp_all [RVo,bndAV]
 | some x=>
   cases v with
   | none=>exact hx.elim
   | some v=>
     simp only [bndAV] at h
     split at h
     ·cases ‹some _=none›
     ·rename_i heq
      cases heq
      have:=zbQ (P:=P) (G:=G) hx
      split at h
      ·rename_i k m hm
       cases h
       right;exact ⟨k,by rw [this,Int.toNat_of_nonneg hm]⟩
      ·cases h
     ·cases h
theorem zfR {isSlice:Bool} {len cap l h:Nat} {low high:Option Value} (hl:(low=none∧l=0)∨∃ k,low=some (.int k l)) (hh:(high=none∧h=len)∨∃ k,high=some (.int k h))
 (h1:l≤h) (h2:h≤cap):(Instr.sliceBounds isSlice len cap low high none).run P w=.ok (l,h,cap) w:=by
 have b1:∀ (k:IntKind) (x y:Nat) (cd:BoundsCode),x≤y→(Instr.sliceBound (.int k x) y cd).run P w=.ok x w:=by
  intro k x y cd hxy
  have:(0:Int)≤x∧(x:Int)≤y:=⟨by omega,by omega⟩
  simp [Instr.sliceBound,asIntOf,this]
 unfold Instr.sliceBounds
 rcases hl with ⟨rfl,rfl⟩ | ⟨k,rfl⟩<;>rcases hh with ⟨rfl,rfl⟩ | ⟨k',rfl⟩<;>simp [Sem.run_bind,b1,h1,h2]
theorem zeb {L H:Option Operand} {t:TypeId} {x:Operand} (hc:CfgOk P c) (hF:∀ f,F.fn f) (s:St P c.nt G own a w) (ho:o.op=.slice t x L H none) {v:AV} {lo hi:Option AV}
 (hx:RV P G own w v (a.eval x)) (hlo:RVo P G own w lo (L.map a.eval)) (hhi:RVo P G own w hi (H.map a.eval))
 (h:(sliceRM c o.dst t v lo hi).wp CE G T (Kn P c.nt G own a w next)):o.wpIn F n P a w next Q:=by
 have hexec:∀ {r},(∀ k,P.underlying t≠some (.array k r))→True:=fun _=>trivial
 have run:∀ {D r},P.underlying t=some D→(∀ k E,D≠.array k E)→(Instr.slice t (a.eval x) (L.map a.eval) (H.map a.eval) none).run P w=.ok r w→(execOp a.eval o).run P w=.ok (.value r) w:=by
  intro D r hun hD hr
  simp only [execOp,ho,Option.map_none,Sem.run_bind,Instr.sliceAt,run_underlying hun,Result.andThen_ok]
  cases D<;>first | exact absurd rfl (hD _ _) | simp [hr]
 unfold sliceRM at h
 dsimp only at h
 split at h
 ·rename_i str _ _ _ hti
  have hu:=zbQ (P:=P) (G:=G) hx
  have hun:=(hc t _ hti).und
  split at h
  ·rename_i l hh e1 e2
   have g1:=zf5 (d:=0) (l:=l) hlo e1
   have g2:=zf5 (d:=str.size) (l:=hh) hhi e2
   split at h
   ·rename_i hcond
    refine zI hF (by simp [ho]) (u:=.string (str.extract l hh)) (w':=w) ?_ (zM (U:=[]) s (Tr.refl _ _) (zaZ rfl) h)
    refine run hun (by simp) ?_
    simp only [Instr.slice,hu,Sem.run_bind,run_underlying hun,Result.andThen_ok]
    simp [zfR (isSlice:=false) g1 g2 hcond.1 hcond.2]
   ·exact h.elim
  ·exact h.elim
 ·rename_i es E _ _ _ hti
  have hun:=(hc t _ hti).und
  split at h
  ·rename_i l hh i e1 e2 hE
   have g1:=zf5 (d:=0) (l:=l) hlo e1
   have g2:=zf5 (d:=es.length) (l:=hh) hhi e2
   split at h
   ·rename_i hcond
    obtain ⟨c1,c2,c3⟩:=hcond
    have hr:RF own w (.sl es) (a.eval x):=hx.2
    have hs:∀ y∈es,y.size=i.size:=fun y hy=>(zb9 (List.all_eq_true.1 c3 y hy)).1
    generalize a.eval x=u at hr run
    obtain ⟨aa,nn,cc,rfl,hnn,hcc⟩:∃ aa nn cc,u=.slice aa nn cc∧nn=es.length∧nn≤cc:=by
     cases hr with
     | sl _ aa nn cc ad sz hn hc=>exact ⟨aa,nn,cc,rfl,hn,hc⟩
    have hd:=rf_drop (lo:=l) (hi:=hh) (size:=i.size) hr c1 c2 hs
    refine zI hF (by simp [ho]) (w':=w) ?_ (zM (U:=[]) s (Tr.refl _ _) (v:=.f (.sl ((es.drop l).take (hh - l)))) ⟨rfl,hd⟩ h)
    refine run hun (by simp) ?_
    simp only [Instr.slice,Sem.run_bind,run_underlying hun,Result.andThen_ok]
    subst hnn
    simp [zfR (isSlice:=true) g1 g2 c1 (Nat.le_trans c2 hcc),(hc E _ hE).run_size w]
   ·exact h.elim
  ·exact h.elim
 ·rename_i b q j m E _ _ _ hti
  have hun:=(hc t _ hti).und
  split at h
  ·rename_i l hh i e1 e2 hE
   have g1:=zf5 (d:=0) (l:=l) hlo e1
   have g2:=zf5 (d:=m) (l:=hh) hhi e2
   split at h
   ·rename_i hcond
    split at h
    ·rename_i hl0
     subst hl0
     have hv:SlV P G own w b q j m (a.eval x):=hx
     generalize a.eval x=u at hv run
     obtain ⟨y,T1,h1,h2⟩:=za9 h
     have key:∃ aa cc,u=.slice aa m cc∧m≤cc∧R0 P G own w (.rf b q j hh) (.slice aa hh cc):=by
      show ∃ aa cc,u=.slice aa m cc∧m≤cc∧SlV P G own w b q j hh (.slice aa hh cc)
      unfold SlV at hv ⊢
      rw [h1] at hv ⊢
      cases y with
      | own E' l'=>
        obtain ⟨e3,aa,cc,rfl,e5,e6⟩:=hv
        exact ⟨aa,cc,rfl,e5,by omega,aa,cc,rfl,by omega,e6⟩
      | f y=>
        cases y with
        | sl l'=>
          obtain ⟨e3,e4⟩:=hv
          have e4':=e4
          cases e4 with
          | sl _ aa nn cc ad sz hn hc'=>
            have hn':nn=m:=by simp at hn;omega
            subst hn'
            refine ⟨aa,cc,rfl,hc',by omega,?_⟩
            have:=rf_take (h:=hh) e4' (by simp;omega)
            rwa [List.take_take,Nat.min_eq_left hcond.2] at this
        | _=>simp [sliceOf] at h2;exact h2.elim
      | _=>simp [sliceOf] at h2;exact h2.elim
     have h3:∃ T1,(fin c o.dst [] (.rf b q j hh)).wp CE G T1 (Kn P c.nt G own a w next):=by
      split at h2
      ·exact ⟨_,h2⟩
      ·exact h2.elim
     obtain ⟨T2,h3⟩:=h3
     obtain ⟨aa,cc,rfl,hcc,hr⟩:=key
     refine zI hF (by simp [ho]) (w':=w) ?_ (zM (U:=[]) s (Tr.refl _ _) (v:=.rf b q j hh) hr h3)
     refine run hun (by simp) ?_
     simp only [Instr.slice,Sem.run_bind,run_underlying hun,Result.andThen_ok]
     have hadd:∀ z:Addr,z.add 0=z:=fun z=>by cases z with | mk k o s=>cases s<;>simp [Addr.add]
     have ham:Option.map (fun z:Addr=>z.add 0) aa=aa:=by cases aa<;>simp [hadd]
     simp [zfR (isSlice:=true) g1 g2 hcond.1 (Nat.le_trans hcond.2 hcc),(hc E _ hE).run_size w,ham]
    ·exact h.elim
   ·exact h.elim
  ·exact h.elim
 ·exact h.elim
theorem op_slice (hc:CfgOk P c) (hF:∀ f,F.fn f) (s:St P c.nt G own a w) {t:TypeId} {x:Operand} {L H:Option Operand} (ho:o.op=.slice t x L H none)
 (h:(sliceOpRM c o.dst t x L H).wp CE G T (Kn P c.nt G own a w next)):o.wpIn F n P a w next Q:=by
 obtain ⟨v,T1,h1,h2⟩:=zG s h
 cases L with
 | none=>cases H with
   | none=>exact zeb hc hF s ho h1 (lo:=none) (hi:=none) trivial trivial h2
   | some y=>
     obtain ⟨v2,T2,h3,h4⟩:=zG s h2
     exact zeb hc hF s ho h1 (lo:=none) (hi:=some v2) trivial h3 h4
 | some x=>cases H with
   | none=>
     obtain ⟨v2,T2,h3,h4⟩:=zG s h2
     exact zeb hc hF s ho h1 (lo:=some v2) (hi:=none) h3 trivial h4
   | some y=>
     obtain ⟨v2,T2,h3,h4⟩:=zG s h2
     obtain ⟨v3,T3,h5,h6⟩:=zG s h4
     exact zeb hc hF s ho h1 (lo:=some v2) (hi:=some v3) h3 h5 h6
end
end Go.Ev
set_option linter.unusedVariables false
set_option linter.unusedSimpArgs false
namespace Go.Ev
open Go Go.RowKit
variable {P : Program}
def killS (S:Nat→Bool):AV→AV
 | .rf c p i n=>if S c=true then .bad else .rf c p i n
 | .ep c p i n=>if S c=true then .bad else .ep c p i n
 | v=>v
theorem zfe (S:Nat→Bool):Kl (killS S):=by
 refine ⟨rfl,fun v=>?_,fun _=>rfl,fun _=>rfl,fun v=>?_⟩
 ·cases v with
  | rf c p i n=>simp only [killS];split;exact .inr rfl;exact .inl rfl
  | ep c p i n=>simp only [killS];split;exact .inr rfl;exact .inl rfl
  | _=>exact .inl rfl
 ·cases v with
  | rf c p i n=>simp only [Ev.frz,killS];split<;>rfl
  | ep c p i n=>simp only [Ev.frz,killS];split<;>rfl
  | _=>rfl
theorem map2_comp {f g:AV→AV} (hf:Kl f) (hg:Kl g) (v:AV):AV.map2 f (AV.map2 g v)=AV.map2 (fun v=>f (g v)) v:=by
 have h1:∀ v:AV,AV.map1 f (AV.map1 g v)=AV.map1 (fun v=>f (g v)) v:=by
  intro v
  cases v with
  | agg l=>simp [AV.map1]
  | tup l=>simp only [AV.map1,hg.tup,hf.tup]
  | _=>
    simp only [AV.map1]
    rcases hg.or _ with e | e<;>rw [e]<;>rfl
 cases v with
 | agg l=>simp [AV.map2]
 | tup l=>simp only [AV.map2,List.map_map,AV.tup.injEq];exact List.map_congr_left (fun v _=>h1 v)
 | _=>
   simp only [AV.map2]
   rcases hg.or _ with e | e<;>rw [e]<;>rfl
theorem killr_eq (b:Nat):killr b none=killS (fun c=>c == b):=by
 funext v
 cases v<;>simp [killr,killS]
theorem killS_comp (S S':Nat→Bool) (v:AV):killS S (killS S' v)=killS (fun c=>S c || S' c) v:=by
 cases v with
 | rf c p i n=>simp only [killS];by_cases h:S' c=true<;>by_cases h2:S c=true<;>simp [h,h2,killS]
 | ep c p i n=>simp only [killS];by_cases h:S' c=true<;>by_cases h2:S c=true<;>simp [h,h2,killS]
 | _=>rfl
theorem zim (S S':Nat→Bool) (v:AV):AV.map2 (killS S) (AV.map2 (killS S') v)=AV.map2 (killS (fun c=>S c || S' c)) v:=by
 rw [map2_comp (zfe _) (zfe _)]
 congr 1;funext v;exact killS_comp S S' v
theorem zhj (v:AV):AV.map2 (killS (fun _=>false)) v=v:=by
 have:killS (fun _=>false)=fun v=>v:=by funext v;cases v<;>rfl
 rw [this];exact zcx v
theorem zg1 (f:Nat→Nat):∀ (bs:List Nat) (vs:List AV) (G:Sta) (c:Nat),bs.length=vs.length→c∉bs→get (app (putsOf f bs vs) G) c=(get G c).map (AV.map2 (killS (fun x=>bs.contains x)))
 | [],[],G,c,_,_=>by
   simp only [putsOf,app,List.contains_nil]
   cases get G c<;>simp [zhj]
 | b :: bs,v :: vs,G,c,hl,hc=>by
   simp only [putsOf,app]
   rw [zg1 f bs vs _ c (by simpa using hl) (fun h=>hc (List.mem_cons_of_mem _ h))]
   have hcb:c≠b:=fun e=>hc (by rw [e];exact List.mem_cons_self ..)
   simp only [Up.app,zar,if_neg hcb,zaP,Option.map_map]
   congr 1;funext x
   simp only [Function.comp,killr_eq,zim]
   congr 2;funext y;simp only [List.contains_cons,Bool.or_comm]
 | [],_ :: _,_,_,h,_=>by simp at h
 | _ :: _,[],_,_,h,_=>by simp at h
theorem zhw (f:Nat→Nat):∀ (bs:List Nat) (vs:List AV) (G:Sta) (i b:Nat) (v:AV),bs.length=vs.length→bs.Nodup→bs[i]?=some b→vs[i]?=some v→
 (∀ v∈vs,∀ S,AV.map2 (killS S) (ren1 f v)=ren1 f v)→(∃ x,get G b=some x∧(ren1 f v).leaves.length=x.leaves.length)→get (app (putsOf f bs vs) G) b=some (ren1 f v)
 | [],_,_,_,_,_,_,_,h,_,_,_=>by simp at h
 | _ :: _,[],_,_,_,_,h,_,_,_,_,_=>by simp at h
 | c :: bs,y :: vs,G,i,b,v,hl,hn,hb,hv,hk,hx=>by
   obtain ⟨x,hx1,hx2⟩:=hx
   rw [List.nodup_cons] at hn
   simp only [putsOf,app]
   cases i with
   | zero=>
     simp at hb hv;subst hb hv
     rw [zg1 f bs vs _ c (by simpa using hl) hn.1]
     simp only [Up.app,zar,if_true,zaP,hx1,Option.map_some]
     have:(AV.map2 (killr c none) x).leaves.length=x.leaves.length:=zgU (zcS c none) x
     rw [putV,if_pos (by rw [this];exact hx2),hk _ (List.mem_cons_self ..)]
   | succ i=>
     simp at hb hv
     refine zhw f bs vs _ i b v (by simpa using hl) hn.2 hb hv (fun v hv=>hk v (List.mem_cons_of_mem _ hv)) ?_
     have hcb:b≠c:=fun e=>hn.1 (by rw [← e];exact List.mem_of_getElem? hb)
     refine ⟨AV.map2 (killr c none) x,by simp only [Up.app,zar,if_neg hcb,zaP,hx1,Option.map_some],?_⟩
     rw [zgU (zcS c none) x];exact hx2
def dIs (d:Option Tmp) (c:Nat):Bool:=
 match d with
 | some t=>c == tb t
 | none=>false
def outS (bs:List Nat) (d:Option Tmp) (c:Nat):Bool:=bs.contains c || dIs d c
theorem get_out (f:Nat→Nat) {bs:List Nat} {vs:List AV} {d:Option Tmp} {r:AV} {G:Sta} {c:Nat} (hl:bs.length=vs.length) (hc:outS bs d c=false) :
 get (app (putsOf f bs vs++setD d r) G) c=(get G c).map (AV.map2 (killS (outS bs d))):=by
 simp only [outS,Bool.or_eq_false_iff] at hc
 have hcb:c∉bs:=by intro h;have:=hc.1;simp at this;exact this h
 rw [zap]
 cases d with
 | none=>
   simp only [setD,app]
   rw [zg1 f bs vs G c hl hcb]
   congr 2;unfold outS;simp [dIs]
 | some t=>
   have hct:c≠tb t:=by have:=hc.2;simpa [dIs] using this
   simp only [setD,app,Up.app,zcn,if_neg hct,zaP]
   rw [zg1 f bs vs G c hl hcb,Option.map_map]
   congr 1;funext x
   simp only [Function.comp,killr_eq,zim]
   congr 2;funext y;simp only [outS,dIs,Bool.or_comm]
theorem zhy (f:Nat→Nat) {bs:List Nat} {vs:List AV} {d:Option Tmp} {r:AV} {G:Sta} {i b:Nat} {v:AV} (hl:bs.length=vs.length) (hn:bs.Nodup) (hb:bs[i]?=some b) (hv:vs[i]?=some v)
 (hb3:b % 3≠1) (hk:∀ v∈vs,∀ S,AV.map2 (killS S) (ren1 f v)=ren1 f v) (hx:∃ x,get G b=some x∧(ren1 f v).leaves.length=x.leaves.length) :
 get (app (putsOf f bs vs++setD d r) G) b=some (ren1 f v):=by
 rw [zap]
 have h1:=zhw f bs vs G i b v hl hn hb hv hk hx
 cases d with
 | none=>exact h1
 | some t=>
   have hct:b≠tb t:=by intro e;rw [e] at hb3;simp [tb] at hb3
   simp only [setD,app,Up.app,zcn,if_neg hct,zaP,h1,Option.map_some,killr_eq]
   rw [hk v (List.mem_of_getElem? hv)]
theorem look_of_get {G G':Sta} {φ:AV→AV} (k:Kl φ) {b:Nat} (h:get G' b=(get G b).map (AV.map2 φ)) (o:Option Nat):look G' b o=(look G b o).map (AV.map2 φ):=by
 have:=zhl k G b o
 rw [← this]
 have e:get G' b=get (mapv (AV.map2 φ) G) b:=by rw [h,zaP]
 cases o<;>simp only [look,e]
theorem ob_back (i:Nat):ob i / 3 - 1=i:=by simp only [ob];omega
theorem zgY {n i:Nat} (h:i < n):isOut n (ob i)=true:=by
 have h1:ob i % 3=0:=by simp only [ob];omega
 have h2:ob i≠0:=by simp only [ob];omega
 have h3:ob i / 3≤n:=by simp only [ob];omega
 simp [isOut,h1,h2,h3]
theorem isOut_spec {n b:Nat} (h:isOut n b=true):∃ i,i < n∧b=ob i:=by
 simp only [isOut,Bool.and_eq_true,beq_iff_eq,bne_iff_ne,decide_eq_true_eq] at h
 exact ⟨b / 3 - 1,by omega,by simp only [ob];omega⟩
theorem back_ob {bs:List Nat} {i b:Nat} (h:bs[i]?=some b):back bs (ob i)=b:=by
 simp only [back,ob_back,List.getD_eq_getElem?_getD,h,Option.getD_some]
theorem zhu {bs:List Nat} (hn:bs.Nodup):∀ {i b:Nat},bs[i]?=some b→bs.idxOf b=i:=by
 induction bs with
 | nil=>intro i b h;simp at h
 | cons c bs ih=>
   intro i b h
   rw [List.nodup_cons] at hn
   cases i with
   | zero=>simp at h;subst h;simp
   | succ i=>
     simp at h
     have hcb:c≠b:=fun e=>hn.1 (by rw [e];exact List.mem_of_getElem? h)
     rw [List.idxOf_cons,show (c == b)=false by simpa using hcb];simp [ih hn.2 h]
theorem zcZ {bs:List Nat} (hn:bs.Nodup) {i b:Nat} (h:bs[i]?=some b):toOut bs b=ob i:=by rw [toOut,zhu hn h]
def toOwn (bs:List Nat) (o:Owner):Owner:=
 match o with
 | .box b=>if bs.contains b=true then .box (toOut bs b) else .al o
 | .sl b p=>if bs.contains b=true then .sl (toOut bs b) p else .al o
 | .al _=>.al o
def ownC (bs:List Nat) (own:Own):Own:=fun k=>(own k).map (toOwn bs)
def fromOwn (bs:List Nat) (d:Option Tmp) (o:Owner):Option Owner:=
 match o with
 | .box b=>if isOut bs.length b=true then some (.box (back bs b)) else none
 | .sl b p=>if isOut bs.length b=true then some (.sl (back bs b) p) else if b=0 then d.map (fun t=>.sl (tb t) p) else none
 | .al _=>none
def hid (bs:List Nat) (o:Owner):Bool:=
 match o with
 | .box b=>!bs.contains b
 | .sl b _=>!bs.contains b
 | .al _=>true
def lost (d:Option Tmp) (o:Owner):Bool:=
 match o with
 | .sl b _=>dIs d b
 | _=>false
def ownR (bs:List Nat) (d:Option Tmp) (own own':Own):Own:=fun k=>
 match own k with
 | some o=>if hid bs o=true then (if lost d o=true then none else some o) else (own' k).bind (fromOwn bs d)
 | none=>(own' k).bind (fromOwn bs d)
theorem toOwn_hid {bs:List Nat} {o:Owner} (h:hid bs o=true):toOwn bs o=.al o:=by
 cases o with
 | box b=>simp only [hid,Bool.not_eq_true'] at h;simp only [toOwn];rw [if_neg (by rw [h];simp)]
 | sl b p=>simp only [hid,Bool.not_eq_true'] at h;simp only [toOwn];rw [if_neg (by rw [h];simp)]
 | al x=>rfl
theorem ownR_hid {bs:List Nat} {d:Option Tmp} {own own':Own} {k:Nat} {o:Owner} (h:own k=some o) (hh:hid bs o=true):ownR bs d own own' k=if lost d o=true then none else some o:=by
 simp only [ownR,h,if_pos hh]
theorem ze8 {bs:List Nat} {d:Option Tmp} {own own':Own} {k:Nat} (h:∀ o,own k=some o→hid bs o=false):ownR bs d own own' k=(own' k).bind (fromOwn bs d):=by
 simp only [ownR]
 cases e:own k with
 | none=>rfl
 | some o=>simp only;rw [if_neg (by rw [h o e];simp)]
end Go.Ev
set_option linter.unusedVariables false
set_option linter.unusedSimpArgs false
namespace Go.Ev
open Go Go.RowKit
variable {P : Program}
theorem RF.mono0 {own own':Own} {w:World} (hn:∀ k,own k=none→own' k=none) {x:FV} {v:Value} (h:RF own w x v):RF own' w x v:=by
 induction h with
 | pv v h=>exact .pv v h
 | agg l arr hl _ ih=>exact .agg l arr hl ih
 | sl l a n c ad sz hn' hc ha hsz hcell _ ih=>exact .sl l a n c ad sz hn' hc (fun hne=>let ⟨h1,h2,h3,h4⟩:=ha hne;⟨h1,h2,hn _ h3,h4⟩) hsz hcell ih
section ren
variable {G G' : Sta} {own own' : Own} {w : World} {f : Nat → Nat} {p : Nat → Bool}
theorem zhU (hn:∀ k,own k=none→own' k=none) (hb:∀ k b,p b=true→own k=some (.box b)→own' k=some (.box (f b))) {v:AV} {u:Value} (h:RC own w v u) (hv:capIn p v=true):RC own' w (renC f v) u:=by
 cases v with
 | bad=>trivial
 | f x=>exact ⟨h.1,h.2.mono0 hn⟩
 | ptr b o=>obtain ⟨k,h1,h2⟩:=h;exact ⟨k,hb k b hv h1,h2⟩
 | fp x o=>
   obtain ⟨k,q,h1,h2,h3,h4⟩:=h
   exact ⟨k,q,h1,hn _ h2,h3,fun j y hy=>let ⟨z,e1,e2⟩:=h4 j y hy;⟨z,e1,e2.mono0 hn⟩⟩
 | _=>simp [capIn] at hv
theorem zgm (hn:∀ k,own k=none→own' k=none) (hb:∀ k b,p b=true→own k=some (.box b)→own' k=some (.box (f b))) {v:AV} {u:Value} (h:R0 P G own w v u) (hv:shut0 false p v=true):R0 P G' own' w (ren0 f v) u:=by
 cases v with
 | clo g caps=>
   obtain ⟨arr,h1,h2,h3⟩:=h
   refine ⟨arr,h1,by simpa using h2,fun j x y e1 e2=>?_⟩
   simp only [List.getElem?_map] at e1
   cases hj:caps[j]? with
   | none=>rw [hj] at e1;cases e1
   | some z=>
     rw [hj] at e1;cases e1
     exact zhU hn hb (h3 j z y hj e2) (List.all_eq_true.1 hv z (List.mem_of_getElem? hj))
 | bad=>exact zhU (w:=w) (u:=u) hn hb (v:=.bad) h hv
 | f x=>exact zhU (w:=w) (u:=u) hn hb (v:=.f x) h hv
 | ptr b o=>exact zhU (w:=w) (u:=u) hn hb (v:=.ptr b o) h hv
 | fp x o=>exact zhU (w:=w) (u:=u) hn hb (v:=.fp x o) h hv
 | _=>simp [shut0,capIn] at hv
theorem ren_ro (hn:∀ k,own k=none→own' k=none) (hb:∀ k b,p b=true→own k=some (.box b)→own' k=some (.box (f b))) {b b' j:Nat} (hs:∀ k j,own k=some (.sl b j)→own' k=some (.sl b' j)) {v:AV} {u:Value}
 (h:RO P G own w b j v u) (hv:shut0 true p v=true):RO P G' own' w b' j (ren0 f v) u:=by
 cases v with
 | own E l=>
   obtain ⟨a,c,h1,h2,h3⟩:=h
   refine ⟨a,c,h1,h2,h3.imp id ?_⟩
   rintro ⟨k,e1,e2,arr,e3,e4,e5,e6⟩
   exact ⟨k,e1,hs _ _ e2,arr,e3,e4,e5,fun i x j y h1 h2=>let ⟨z,q1,q2⟩:=e6 i x j y h1 h2;⟨z,q1,q2.mono0 hn⟩⟩
 | clo g caps=>exact zgm (P:=P) (G:=G) (G':=G') (w:=w) (u:=u) hn hb (v:=.clo g caps) h hv
 | bad=>exact zgm (P:=P) (G:=G) (G':=G') (w:=w) (u:=u) hn hb (v:=.bad) h hv
 | f x=>exact zgm (P:=P) (G:=G) (G':=G') (w:=w) (u:=u) hn hb (v:=.f x) h hv
 | ptr b o=>exact zgm (P:=P) (G:=G) (G':=G') (w:=w) (u:=u) hn hb (v:=.ptr b o) h hv
 | fp x o=>exact zgm (P:=P) (G:=G) (G':=G') (w:=w) (u:=u) hn hb (v:=.fp x o) h hv
 | _=>simp [shut0,capIn] at hv
theorem zif {o:Bool} {v:AV} (hv:shut0 o p v=true):v.isLeaf=true∧(ren0 f v).isLeaf=true:=by
 cases v<;>first | exact ⟨rfl,rfl⟩ | simp [shut0,capIn] at hv
theorem zdo {v:AV} (hv:v.isLeaf=true):v.leaves=[v]:=by cases v<;>first | rfl | simp [AV.isLeaf] at hv
theorem zbZ {o:Bool} {v:AV} (hv:shut1 o p v=true):(∃ l,v=.agg l∧l.all (shut0 o p)=true)∨(shut0 o p v=true∧v.isLeaf=true∧ren1 f v=ren0 f v∧(ren0 f v).isLeaf=true):=by
 cases v with
 | agg l=>exact .inl ⟨l,rfl,hv⟩
 | _=>
   right
   have hv':=hv
   simp only [shut1] at hv'
   exact ⟨hv',(zif (f:=f) hv').1,rfl,(zif hv').2⟩
theorem zdh {o:Bool} {v:AV} (hv:shut1 o p v=true):(ren1 f v).leaves=v.leaves.map (ren0 f)∧∀ x∈v.leaves,shut0 o p x=true:=by
 rcases zbZ (f:=f) hv with ⟨l,rfl,h⟩ | ⟨h1,h2,h3,h4⟩
 ·exact ⟨rfl,fun x hx=>List.all_eq_true.1 h x hx⟩
 ·rw [h3,zdo h2,zdo h4]
  exact ⟨rfl,fun x hx=>by simp at hx;rw [hx];exact h1⟩
theorem ren_rb (hn:∀ k,own k=none→own' k=none) (hb:∀ k b,p b=true→own k=some (.box b)→own' k=some (.box (f b))) {b b':Nat} (hs:∀ k j,own k=some (.sl b j)→own' k=some (.sl b' j)) {v:AV} {arr:Array Value}
 (h:RB P G own w b v arr) (hv:shut1 true p v=true):RB P G' own' w b' (ren1 f v) arr:=by
 obtain ⟨h1,h2⟩:=zdh (f:=f) hv
 refine ⟨by rw [h1,List.length_map];exact h.1,fun j x u e1 e2=>?_⟩
 rw [h1,List.getElem?_map] at e1
 cases hj:v.leaves[j]? with
 | none=>rw [hj] at e1;cases e1
 | some y=>rw [hj] at e1;cases e1;exact ren_ro hn hb hs (h.2 j y u hj e2) (h2 y (List.mem_of_getElem? hj))
theorem r1_r0 {v:AV} {u:Value} (h1:∀ l,v≠.agg l):R1 P G own w v u=R0 P G own w v u:=by
 cases v<;>first | rfl | exact absurd rfl (h1 _)
theorem ren_r1 (hn:∀ k,own k=none→own' k=none) (hb:∀ k b,p b=true→own k=some (.box b)→own' k=some (.box (f b))) {v:AV} {u:Value} (h:R1 P G own w v u) (hv:shut1 false p v=true):R1 P G' own' w (ren1 f v) u:=by
 rcases zbZ (f:=f) hv with ⟨l,rfl,h1⟩ | ⟨h1,h2,h3,h4⟩
 ·obtain ⟨arr,e1,e2,e3⟩:=h
  refine ⟨arr,e1,by simpa using e2,fun j x y q1 q2=>?_⟩
  rw [List.getElem?_map] at q1
  cases hj:l[j]? with
  | none=>rw [hj] at q1;cases q1
  | some z=>rw [hj] at q1;cases q1;exact zgm hn hb (e3 j z y hj q2) (List.all_eq_true.1 h1 z (List.mem_of_getElem? hj))
 ·rw [h3,r1_r0 (zW h4).1]
  rw [r1_r0 (zW h2).1] at h
  exact zgm hn hb h h1
theorem rl_ro {b:Nat} {v:AV} {u:Value} (h:v.isLeaf=true):RL P G own w b v u=RO P G own w b 0 v u:=by
 cases v<;>first | rfl | simp [AV.isLeaf] at h
theorem ren_rl (hn:∀ k,own k=none→own' k=none) (hb:∀ k b,p b=true→own k=some (.box b)→own' k=some (.box (f b))) {b b':Nat} (hs:∀ k j,own k=some (.sl b j)→own' k=some (.sl b' j)) {v:AV} {u:Value}
 (h:RL P G own w b v u) (hv:shut2 p v=true):RL P G' own' w b' (ren2 f v) u:=by
 have key:∀ v:AV,shut1 true p v=true→ren2 f v=ren1 f v→RL P G own w b v u→RL P G' own' w b' (ren2 f v) u:=by
  intro v hv he h
  rw [he]
  rcases zbZ (f:=f) hv with ⟨l,rfl,h1⟩ | ⟨h1,h2,h3,h4⟩
  ·obtain ⟨arr,e1,e2,e3⟩:=h
   refine ⟨arr,e1,by simpa using e2,fun j x y q1 q2=>?_⟩
   rw [List.getElem?_map] at q1
   cases hj:l[j]? with
   | none=>rw [hj] at q1;cases q1
   | some z=>rw [hj] at q1;cases q1;exact ren_ro hn hb hs (e3 j z y hj q2) (List.all_eq_true.1 h1 z (List.mem_of_getElem? hj))
  ·rw [h3,rl_ro h4]
   rw [rl_ro h2] at h
   exact ren_ro hn hb hs h h1
 cases v with
 | tup l=>
   obtain ⟨arr,e1,e2,e3⟩:=h
   refine ⟨arr,e1,by simpa using e2,fun j x y q1 q2=>?_⟩
   rw [List.getElem?_map] at q1
   cases hj:l[j]? with
   | none=>rw [hj] at q1;cases q1
   | some z=>rw [hj] at q1;cases q1;exact ren_r1 hn hb (e3 j z y hj q2) (List.all_eq_true.1 hv z (List.mem_of_getElem? hj))
 | agg l=>exact key _ hv rfl h
 | _=>exact key _ hv rfl h
theorem shut_kill {o:Bool} {v:AV} (hv:shut1 o p v=true) (S:Nat→Bool):AV.map2 (killS S) (ren1 f v)=ren1 f v:=by
 have h0:∀ v:AV,shut0 o p v=true→killS S (ren0 f v)=ren0 f v:=by
  intro v hv
  cases v<;>first | rfl | simp [shut0,capIn] at hv
 rcases zbZ (f:=f) hv with ⟨l,rfl,h1⟩ | ⟨h1,h2,h3,h4⟩
 ·simp only [ren1,AV.map2,List.map_map,AV.agg.injEq]
  exact List.map_congr_left (fun x hx=>h0 x (List.all_eq_true.1 h1 x hx))
 ·rw [h3,zbD (zW h4).1 (zW h4).2];exact h0 v h1
end ren
theorem get_frzs (b:Nat):∀ {U:List Up} (hU:FrzOnly U) {G:Sta} {v:AV},get G b=some v→get (app U G) b=some (frzIn b U v)
 | [],_,G,v,h=>h
 | u :: U,hU,G,v,h=>by
   obtain ⟨c,o,rfl⟩:=hU u (List.mem_cons_self ..)
   simp only [app,frzIn]
   refine get_frzs b (fun u hu=>hU u (List.mem_cons_of_mem _ hu)) ?_
   simp only [Up.app,zar]
   by_cases e:b=c
   ·subst e;simp [h]
   ·rw [if_neg e,if_neg (fun e'=>e e'.symm)];exact h
theorem zhC (U:List Up):∀ (bs:List Nat) (vs:List AV),bs.length=vs.length→(frzAll U bs vs).length=bs.length∧∀ (i:Nat) b v,bs[i]?=some b→(frzAll U bs vs)[i]?=some v→∃ x,vs[i]?=some x∧v=frzIn b U x
 | [],[],_=>⟨rfl,fun i b v h=>by simp at h⟩
 | b :: bs,v :: vs,h=>by
   obtain ⟨h1,h2⟩:=zhC U bs vs (by simpa using h)
   refine ⟨by simp [frzAll,h1],fun i c x e1 e2=>?_⟩
   cases i with
   | zero=>simp [frzAll] at e1 e2;exact ⟨v,rfl,by rw [← e1,e2]⟩
   | succ i=>simp [frzAll] at e1 e2;obtain ⟨y,q1,q2⟩:=h2 i c x e1 e2;exact ⟨y,by simpa using q1,q2⟩
 | [],_ :: _,h=>by simp at h
 | _ :: _,[],h=>by simp at h
theorem zeg:∀ (m l:List Nat) (i:Nat) (b:Nat),l[i]?=some b→(addNew l m)[i]?=some b
 | [],l,i,b,h=>h
 | x :: m,l,i,b,h=>by
   simp only [addNew]
   split
   ·exact zeg m l i b h
   ·exact zeg m _ i b (by rw [List.getElem?_append_left (List.getElem?_eq_some_iff.1 h).1];exact h)
theorem zgr {CE:CEx} {G:Sta} {K:List Up→List Acc→Prop}:∀ (n:Nat) {bs:List Nat} {cs:List AV} {k:List Nat→List AV→RM} {T:List Acc},(gather n bs cs k).wp CE G T K→
 (∀ (i:Nat) c,cs[i]?=some c→∃ b,bs[i]?=some b∧get G b=some c)→∃ bs' cs' T',bs'.length=cs'.length∧(∀ (i:Nat) c,cs'[i]?=some c→∃ b,bs'[i]?=some b∧get G b=some c)∧(k bs' cs').wp CE G T' K
 | 0,_,_,_,_,h,_=>h.elim
 | n+1,bs,cs,k,T,h,hc=>by
   simp only [gather] at h
   split at h
   ·rename_i hl;exact ⟨bs,cs,T,hl.symm,hc,h⟩
   ·split at h
    ·rename_i b hb
     obtain ⟨v,T1,h1,h2⟩:=za9 h
     refine zgr n h2 ?_
     intro i c hi
     by_cases hlt:i < cs.length
     ·rw [List.getElem?_append_left hlt] at hi
      obtain ⟨b',q1,q2⟩:=hc i c hi
      exact ⟨b',zeg _ _ _ _ q1,q2⟩
     ·have hle:cs.length≤i:=by omega
      rw [List.getElem?_append_right hle] at hi
      have hi0:i=cs.length:=by
       have:=(List.getElem?_eq_some_iff.1 hi).1;simp at this;omega
      subst hi0
      simp at hi;subst hi
      exact ⟨b,zeg _ _ _ _ hb,h1⟩
    ·exact h.elim
theorem zdI:∀ {cs os:List AV},sameLens cs os=true→∀ (i:Nat) c o,cs[i]?=some c→os[i]?=some o→o.leaves.length=c.leaves.length
 | [],_,_,i,c,o,h,_=>by simp at h
 | c :: cs,[],h,_,_,_,_,_=>by simp [sameLens] at h
 | c :: cs,o :: os,h,i,x,y,e1,e2=>by
   simp only [sameLens,Bool.and_eq_true,beq_iff_eq] at h
   cases i with
   | zero=>simp at e1 e2;subst e1 e2;exact h.1.symm
   | succ i=>simp at e1 e2;exact zdI h.2 i x y e1 e2
end Go.Ev
set_option linter.unusedVariables false
set_option linter.unusedSimpArgs false
namespace Go.Ev
open Go Go.RowKit
variable {P : Program}
variable (P) in
structure Outs (own:Own) (w:World) (outs:List AV):Prop where
 boxes:∀ (i:Nat) v,outs[i]?=some v→∃ k arr T,own k=some (.box (ob i))∧w.heap[k]?=some (.cells arr T (0,0))∧RB P [] own w (ob i) v arr
 one:∀ k k' o,own k=some o→own k'=some o→k=k'
 lt:∀ k o,own k=some o→k < w.heap.size
variable (P) in
def Args (own:Own) (w:World) (args:List AV) (vs:Array Value):Prop:=
 args.length=vs.size∧∀ (j:Nat) x v,args[j]?=some x→vs[j]?=some v→R1 P [] own w x v
variable (P) in
def CallE:CEx:=fun g args outs r outs'=>
 (∃ fn,P.funcs[g]?=some fn∧(fn.name == "runtime.NumGoroutine")=false∧fn.body.isNone=false)∧
 ∀ own w (vs:Array Value),Outs P own w outs→Args P own w args vs→
   Calls P g vs w fun e w'=>∃ u own',e=.returned u∧Tr own w own' w'∧Outs P own' w' outs'∧RL P [] own' w' 0 r u
theorem toOwn_inj {bs:List Nat} (hn:bs.Nodup) {x y o:Owner} (hx:toOwn bs x=o) (hy:toOwn bs y=o):x=y:=by
 have hmem:∀ b,bs.contains b=true→∃ i,bs[i]?=some b:=fun b h=>List.mem_iff_getElem?.1 (by simpa using h)
 have hto:∀ {b c:Nat},bs.contains b=true→bs.contains c=true→toOut bs b=toOut bs c→b=c:=by
  intro b c h1 h2 e
  obtain ⟨i,hi⟩:=hmem b h1
  obtain ⟨j,hj⟩:=hmem c h2
  rw [zcZ hn hi,zcZ hn hj] at e
  have:i=j:=by simp only [ob] at e;omega
  subst this;rw [hi] at hj;exact Option.some.inj hj
 cases x with
 | box b=>
   simp only [toOwn] at hx
   split at hx
   ·rename_i h1;subst hx
    cases y with
    | box c=>
      simp only [toOwn] at hy
      split at hy
      ·rename_i h2;rw [hto h2 h1 (by simpa using hy)]
      ·cases hy
    | sl c q=>simp only [toOwn] at hy;split at hy<;>cases hy
    | al z=>simp [toOwn] at hy
   ·subst hx
    cases y with
    | box c=>simp only [toOwn] at hy;split at hy<;>cases hy;rfl
    | sl c q=>simp only [toOwn] at hy;split at hy<;>cases hy
    | al z=>simp [toOwn] at hy
 | sl b q=>
   simp only [toOwn] at hx
   split at hx
   ·rename_i h1;subst hx
    cases y with
    | sl c q'=>
      simp only [toOwn] at hy
      split at hy
      ·rename_i h2
       simp only [Owner.sl.injEq] at hy
       rw [hto h2 h1 hy.1,hy.2]
      ·cases hy
    | box c=>simp only [toOwn] at hy;split at hy<;>cases hy
    | al z=>simp [toOwn] at hy
   ·subst hx
    cases y with
    | sl c q=>simp only [toOwn] at hy;split at hy<;>cases hy;rfl
    | box c=>simp only [toOwn] at hy;split at hy<;>cases hy
    | al z=>simp [toOwn] at hy
 | al z=>
   simp only [toOwn] at hx;subst hx
   cases y with
   | box c=>simp only [toOwn] at hy;split at hy<;>cases hy
   | sl c q=>simp only [toOwn] at hy;split at hy<;>cases hy
   | al z'=>simp only [toOwn,Owner.al.injEq] at hy;rw [hy]
theorem zfs {bs:List Nat} {b:Nat} (h:isOut bs.length b=true):∃ i,bs[i]?=some (back bs b)∧b=ob i:=by
 obtain ⟨i,hi,rfl⟩:=isOut_spec h
 have:bs[i]?=some (bs[i]'hi):=by simp
 exact ⟨i,by rw [back_ob this];exact this,rfl⟩
theorem ziu {bs:List Nat} {d:Option Tmp} {x o:Owner} (h:fromOwn bs d x=some o):hid bs o=false∨lost d o=true:=by
 cases x with
 | box b=>
   simp only [fromOwn] at h
   split at h
   ·rename_i h1;cases h
    obtain ⟨i,h2,_⟩:=zfs h1
    left;simp [hid,List.mem_of_getElem? h2]
   ·cases h
 | sl b q=>
   simp only [fromOwn] at h
   split at h
   ·rename_i h1;cases h
    obtain ⟨i,h2,_⟩:=zfs h1
    left;simp [hid,List.mem_of_getElem? h2]
   ·split at h
    ·cases d with
     | none=>cases h
     | some t=>cases h;right;simp [lost,dIs]
    ·cases h
 | al z=>simp [fromOwn] at h
theorem fromOwn_inj {bs:List Nat} {d:Option Tmp} (hn:bs.Nodup) (h3:∀ b∈bs,b % 3≠1) {x y o:Owner} (hx:fromOwn bs d x=some o) (hy:fromOwn bs d y=some o):x=y:=by
 have hbk:∀ {b c:Nat},isOut bs.length b=true→isOut bs.length c=true→back bs b=back bs c→b=c:=by
  intro b c h1 h2 e
  obtain ⟨i,e1,rfl⟩:=zfs h1
  obtain ⟨j,e2,rfl⟩:=zfs h2
  rw [e] at e1
  have a1:=zhu hn e1
  have a2:=zhu hn e2
  rw [← a1,a2]
 have htb:∀ {b t:Nat},isOut bs.length b=true→back bs b≠tb t:=by
  intro b t h1 e
  obtain ⟨i,e1,_⟩:=zfs h1
  have:=h3 _ (List.mem_of_getElem? e1)
  rw [e] at this;simp [tb] at this
 cases x with
 | box b=>
   simp only [fromOwn] at hx
   split at hx
   ·rename_i h1;cases hx
    cases y with
    | box c=>
      simp only [fromOwn] at hy
      split at hy
      ·rename_i h2;rw [hbk h2 h1 (by simpa using hy)]
      ·cases hy
    | sl c q=>
      simp only [fromOwn] at hy
      split at hy
      ·cases hy
      ·split at hy
       ·cases d<;>cases hy
       ·cases hy
    | al z=>simp [fromOwn] at hy
   ·cases hx
 | sl b q=>
   simp only [fromOwn] at hx
   split at hx
   ·rename_i h1;cases hx
    cases y with
    | sl c q'=>
      simp only [fromOwn] at hy
      split at hy
      ·rename_i h2
       simp only [Option.some.injEq,Owner.sl.injEq] at hy
       rw [hbk h2 h1 hy.1,hy.2]
      ·split at hy
       ·cases d with
        | none=>cases hy
        | some t=>simp only [Option.map_some,Option.some.injEq,Owner.sl.injEq] at hy;exact absurd hy.1.symm (htb h1)
       ·cases hy
    | box c=>simp only [fromOwn] at hy;split at hy<;>cases hy
    | al z=>simp [fromOwn] at hy
   ·split at hx
    ·rename_i hb0
     cases d with
     | none=>cases hx
     | some t=>
       cases hx
       cases y with
       | sl c q'=>
         simp only [fromOwn] at hy
         split at hy
         ·rename_i h2
          simp only [Option.some.injEq,Owner.sl.injEq] at hy
          exact absurd hy.1 (htb h2)
         ·split at hy
          ·rename_i hc0
           simp only [Option.map_some,Option.some.injEq,Owner.sl.injEq] at hy
           rw [hb0,hc0,hy.2]
          ·cases hy
       | box c=>simp only [fromOwn] at hy;split at hy<;>cases hy
       | al z=>simp [fromOwn] at hy
    ·cases hx
 | al z=>simp [fromOwn] at hx
section
variable {CE : CEx} {c : Cfg} {G : Sta} {own : Own} {a : Act} {w : World} {T : List Acc} {next : Act → World → Prop}
variable {F : Fence} {n : Nat} {o : Oper} {Q : Exit → Act → World → Prop}
theorem call_back {bs:List Nat} {cs outs:List AV} {d:Option Tmp} {own1 own':Own} {w':World} {G1:Sta} {r:AV} {u:Value} (s:St P c.nt G1 own1 a w)
 (hl:bs.length=cs.length) (hcs:∀ (i:Nat) b v,bs[i]?=some b→cs[i]?=some v→get G1 b=some v)
 (h3:∀ b∈bs,b % 3≠1) (hn:bs.Nodup) (h5:dIn d c.nt=true) (g1:outs.length=bs.length) (g2:sameLens cs outs=true)
 (g3:outs.all (shut1 true (isOut bs.length))=true) (g4:shut2 (isOut bs.length) r=true)
 (tr:Tr (ownC bs own1) w own' w') (ho:Outs P own' w' outs) (hr:RL P [] own' w' 0 r u) :
 St P c.nt (app (putsOf (back bs) bs outs++setD d (ren2 (back bs) r)) G1) (ownR bs d own1 own') (a.put d u) w'∧Tr own1 w (ownR bs d own1 own') w':=by
 have hal:∀ k o,own1 k=some o→hid bs o=true→own' k=some (.al o)∧w'.heap[k]?=w.heap[k]?:=fun k o h hh=>tr.al k o (by simp [ownC,h,toOwn_hid hh])
 have hnh:∀ {k o},own' k=some o→(∀ x,o≠.al x)→∀ x,own1 k=some x→hid bs x=false:=by
  intro k o h hne x hx
  cases hh:hid bs x with
  | false=>rfl
  | true=>rw [(hal k x hx hh).1] at h;cases h;exact absurd rfl (hne x)
 have hnn:∀ k,own' k=none→ownR bs d own1 own' k=none:=by
  intro k hk
  rw [ze8,hk];rfl
  intro x hx
  cases hh:hid bs x with
  | false=>rfl
  | true=>rw [(hal k x hx hh).1] at hk;cases hk
 have hin:∀ {b},b∈bs→∃ i,bs[i]?=some b∧toOut bs b=ob i:=by
  intro b hb
  obtain ⟨i,hi⟩:=List.mem_iff_getElem?.1 hb
  exact ⟨i,hi,zcZ hn hi⟩
 have hbox:∀ k b,own1 k=some (.box b)→ownR bs d own1 own' k=some (.box b):=by
  intro k b hk
  by_cases hb:b∈bs
  ·obtain ⟨i,hi,ht⟩:=hin hb
   have h1:own' k=some (.box (ob i)):=tr.bx k (ob i) (by simp only [ob];omega) (by simp [ownC,hk,toOwn,hb,ht])
   rw [ze8 (hnh h1 (by simp)),h1]
   have hlt:i < bs.length:=(List.getElem?_eq_some_iff.1 hi).1
   simp [fromOwn,zgY hlt,back_ob hi]
  ·rw [ownR_hid hk (by simp [hid,hb])];simp [lost]
 have hrb:∀ k b,isOut bs.length b=true→own' k=some (.box b)→ownR bs d own1 own' k=some (.box (back bs b)):=by
  intro k b hb hk
  rw [ze8 (hnh hk (by simp)),hk];simp [fromOwn,hb]
 have T1:Tr own1 w (ownR bs d own1 own') w':=by
  refine ⟨tr.size,fun k hk h=>?_,tr.os,tr.tape,tr.output,fun k o h=>?_,fun k b _ h=>hbox k b h⟩
  ·obtain ⟨e1,e2⟩:=tr.keep k hk (by simp [ownC,h])
   exact ⟨hnn k e1,e2⟩
  ·obtain ⟨e1,e2⟩:=hal k _ h rfl
   exact ⟨by rw [ownR_hid h rfl];simp [lost],e2⟩
 have hnb:∀ {b},b % 3=1→b∉bs:=fun h hb=>h3 _ hb h
 have hget:∀ {b},outS bs d b=false→get (app (putsOf (back bs) bs outs++setD d (ren2 (back bs) r)) G1) b=(get G1 b).map (AV.map2 (killS (outS bs d))):=fun h=>get_out (back bs) g1.symm h
 have hown:∀ b o E l k cap,outS bs d b=false→OwnB P own1 w b o E k l cap→OwnB P (ownR bs d own1 own') w' b o E k l cap:=by
  intro b o E l k cap hS hB
  simp only [outS,Bool.or_eq_false_iff] at hS
  have hb:b∉bs:=by have:=hS.1;simpa using this
  have hh:hid bs (.sl b o)=true:=by simp [hid,hb]
  refine hB.mono T1 ?_ (hal k _ hB.1 hh).2
  rw [ownR_hid hB.1 hh];simp [lost,hS.2]
 have K:Keep P G1 own1 w (app (putsOf (back bs) bs outs++setD d (ren2 (back bs) r)) G1) (ownR bs d own1 own') w' (killS (outS bs d)) (fun b _=>outS bs d b=false):=by
  have lk:∀ {b o x},outS bs d b=false→look (app (putsOf (back bs) bs outs++setD d (ren2 (back bs) r)) G1) b (some o)=some x→x≠.bad→look G1 b (some o)=some x:=by
   intro b o x hS hg hx
   rw [look_of_get (zfe _) (hget hS)] at hg
   cases hy:look G1 b (some o) with
   | none=>rw [hy] at hg;cases hg
   | some y=>
     rw [hy] at hg
     simp only [Option.map_some,Option.some.injEq] at hg
     have hlf:=(zc2 hy).1
     rw [zbD (zW hlf).1 (zW hlf).2] at hg
     rcases (zfe (outS bs d)).or y with e | e
     ·rw [e] at hg;rw [hg]
     ·rw [e] at hg;exact absurd hg.symm hx
  refine ⟨zfe _,fun _ _=>rfl,T1,fun k b off h _=>hbox k b h,fun _ _ _ _ _ _=>rfl,?_,?_,?_⟩
  ·intro b o i m v hk h
   have hS:outS bs d b=false:=by
    simp only [killS] at hk
    split at hk
    ·cases hk
    ·rename_i e;simpa using e
   unfold SlV at h ⊢
   cases hg:look (app (putsOf (back bs) bs outs++setD d (ren2 (back bs) r)) G1) b (some o) with
   | none=>trivial
   | some x=>
     cases x with
     | own E l=>
       rw [lk hS hg (by simp)] at h
       obtain ⟨e1,aa,cc,e2,e3,e4⟩:=h
       refine ⟨e1,aa,cc,e2,e3,e4.imp id ?_⟩
       rintro ⟨k,e5,e6⟩
       exact ⟨k,e5,hown b o E l k _ hS e6⟩
     | f x=>
       cases x with
       | sl l=>rw [lk hS hg (by simp)] at h;exact ⟨h.1,h.2.mono T1⟩
       | _=>trivial
     | _=>trivial
  ·intro b o i m v hk h
   have hS:outS bs d b=false:=by
    simp only [killS] at hk
    split at hk
    ·cases hk
    ·rename_i e;simpa using e
   unfold EpV at h ⊢
   cases hg:look (app (putsOf (back bs) bs outs++setD d (ren2 (back bs) r)) G1) b (some o) with
   | none=>trivial
   | some x=>
     cases x with
     | own E l=>
       rw [lk hS hg (by simp)] at h
       obtain ⟨e1,k,cap,e2,e3⟩:=h
       exact ⟨e1,k,cap,e2,hown b o E l k _ hS e3⟩
     | f x=>
       cases x with
       | sl l=>rw [lk hS hg (by simp)] at h;obtain ⟨x,e1,e2⟩:=h;exact ⟨x,e1,RC.fp_mono T1 e2⟩
       | _=>trivial
     | _=>trivial
  ·rintro b o E l v hS hg ⟨aa,cc,e1,e2,e3⟩
   refine ⟨aa,cc,e1,e2,e3.imp id ?_⟩
   rintro ⟨k,e4,e5⟩
   exact ⟨k,e4,hown b o E l k _ hS e5⟩
 have hshut:∀ {v},v∈outs→shut1 true (isOut bs.length) v=true:=fun h=>List.all_eq_true.1 g3 _ h
 have hsz:(a.put d u).tmps.size=c.nt:=by
  cases d with
  | none=>exact s.size
  | some t=>rw [zdi];simp [s.size]
 refine ⟨s.step K hsz ?_ ?_ ?_ ?_,T1⟩
 ·intro t v' hg
  cases hd:dIs d (tb t) with
  | true=>
    cases d with
    | none=>simp [dIs] at hd
    | some t0=>
      have:t=t0:=tb_inj (by simpa [dIs] using hd)
      subst this
      rw [zap] at hg
      simp only [setD,app,Up.app,zcn,if_true,Option.some.injEq] at hg
      subst hg
      have hlt:t < c.nt:=by simpa [dIn] using h5
      refine .inl ⟨u,by rw [zdi,Array.getElem?_setIfInBounds_self_of_lt (by rw [s.size];exact hlt)],?_⟩
      refine ren_rl hnn hrb ?_ hr g4
      intro k j hk
      rw [ze8 (hnh hk (by simp)),hk]
      simp [fromOwn,isOut]
  | false=>
    have hS:outS bs d (tb t)=false:=by
     have:tb t∉bs:=hnb (by simp [tb])
     simp [outS,hd,this]
    rw [hget hS] at hg
    cases hx:get G1 (tb t) with
    | none=>rw [hx] at hg;cases hg
    | some x=>
      rw [hx] at hg;cases hg
      refine .inr ⟨x,rfl,rfl,?_,fun _=>hS⟩
      cases d with
      | none=>rfl
      | some t0=>
        rw [zdi,Array.getElem?_setIfInBounds_ne]
        intro e;subst e;simp [dIs] at hd
 ·intro b v' hb3 hg
  by_cases hb:b∈bs
  ·obtain ⟨i,hi,_⟩:=hin hb
   have hlt:i < bs.length:=(List.getElem?_eq_some_iff.1 hi).1
   obtain ⟨v,hv⟩:∃ v,outs[i]?=some v:=⟨outs[i]'(by omega),by simp⟩
   obtain ⟨x,hx⟩:∃ x,cs[i]?=some x:=⟨cs[i]'(by omega),by simp⟩
   have hlen:(ren1 (back bs) v).leaves.length=x.leaves.length:=by
    rw [(zdh (f:=back bs) (hshut (List.mem_of_getElem? hv))).1,List.length_map]
    exact zdI g2 i x v hx hv
   rw [zhy (back bs) g1.symm hn hi hv hb3 (fun v hv S=>shut_kill (hshut hv) S) ⟨x,hcs i b x hi hx,hlen⟩] at hg
   cases hg
   obtain ⟨k,arr,TT,e1,e2,e3⟩:=ho.boxes i v hv
   have hbk:=back_ob hi
   refine .inl ⟨k,arr,TT,by have:=hrb k _ (zgY hlt) e1;rwa [hbk] at this,e2,?_⟩
   refine ren_rb hnn hrb ?_ e3 (hshut (List.mem_of_getElem? hv))
   intro k j hk
   rw [ze8 (hnh hk (by simp)),hk]
   simp [fromOwn,zgY hlt,hbk]
  ·have hd:dIs d b=false:=by
    cases d with
    | none=>rfl
    | some t=>
      simp only [dIs,beq_eq_false_iff_ne]
      intro e;subst e;simp [tb] at hb3
   have hS:outS bs d b=false:=by simp [outS,hd,hb]
   rw [hget hS] at hg
   cases hx:get G1 b with
   | none=>rw [hx] at hg;cases hg
   | some x=>
     rw [hx] at hg;cases hg
     exact .inr ⟨x,rfl,rfl,fun _=>hS,fun k hk=>⟨hbox k b hk,(hal k _ hk (by simp [hid,hb])).2⟩⟩
 ·have cases2:∀ {k o},ownR bs d own1 own' k=some o→(own1 k=some o∧hid bs o=true∧lost d o=false)∨∃ x,own' k=some x∧fromOwn bs d x=some o:=by
   intro k o h
   simp only [ownR] at h
   split at h
   ·rename_i x hx
    split at h
    ·rename_i hh
     split at h
     ·cases h
     ·rename_i hl;cases h;exact .inl ⟨hx,hh,by simpa using hl⟩
    ·right
     obtain ⟨y,e1,e2⟩:=Option.bind_eq_some_iff.1 h
     exact ⟨y,e1,e2⟩
   ·right
    obtain ⟨y,e1,e2⟩:=Option.bind_eq_some_iff.1 h
    exact ⟨y,e1,e2⟩
  intro k k' o h h'
  rcases cases2 h with ⟨q1,q2,q3⟩ | ⟨x,q1,q2⟩<;>rcases cases2 h' with ⟨q1',q2',q3'⟩ | ⟨x',q1',q2'⟩
  ·exact s.one k k' o q1 q1'
  ·rcases ziu q2' with e | e
   ·rw [e] at q2;cases q2
   ·rw [e] at q3;cases q3
  ·rcases ziu q2 with e | e
   ·rw [e] at q2';cases q2'
   ·rw [e] at q3';cases q3'
  ·have:=fromOwn_inj hn h3 q2 q2'
   subst this
   exact ho.one k k' x q1 q1'
 ·intro k o h
  simp only [ownR] at h
  split at h
  ·rename_i x hx
   exact Nat.lt_of_lt_of_le (s.lt k x hx) tr.size
  ·obtain ⟨y,e1,e2⟩:=Option.bind_eq_some_iff.1 h
   exact ho.lt k y e1
end
end Go.Ev
set_option linter.unusedVariables false
set_option linter.unusedSimpArgs false
namespace Go.Ev
open Go Go.RowKit
variable {P : Program}
theorem St.upos {nt:Nat} {G:Sta} {own:Own} {a:Act} {w w':World} (s:St P nt G own a w) {b o:Nat} {E:TypeId} {l l':List FV}
 (hl:look G b (some o)=some (.own E l)) (hlen:l'.length=l.length) (hsz:w.heap.size≤w'.heap.size) (hot:∀ j,j < w.heap.size→own j≠some (.sl b o)→w'.heap[j]?=w.heap[j]?)
 (hos:w'.os=w.os) (htp:w'.tape=w.tape) (hou:w'.output=w.output) (hnew:∀ {k n},OwnB P own w b o E k l n→OwnB P own w' b o E k l' n) :
 St P nt ((Up.upo b o (.own E l')).app G) own a w'∧Kp P G own w ((Up.upo b o (.own E l')).app G) own w':=by
 have hnil:l=[]→l'=[]:=fun h=>List.length_eq_zero_iff.1 (by rw [hlen,h];rfl)
 have ht:Tr own w own w':=by
  exact ⟨hsz,fun j hj hn=>⟨hn,hot j hj (by rw [hn];simp)⟩,hos,htp,hou,fun j x hn=>⟨hn,hot j (s.lt _ _ hn) (by rw [hn];simp)⟩,fun _ _ _ h=>h⟩
 have hblk:∀ {d p E' k' l' n},¬ (d=b∧p=o)→OwnB P own w d p E' k' l' n→OwnB P own w' d p E' k' l' n:=by
  intro d p E' k' l' n hn h
  refine h.mono ht h.1 (hot _ (s.lt _ _ h.1) ?_)
  rw [h.1];intro e;simp only [Option.some.injEq,Owner.sl.injEq] at e;exact hn e
 have K:Keep P G own w ((Up.upo b o (.own E l')).app G) own w' (fun v=>v) (fun d p=>¬ (d=b∧p=o)):=by
  refine ⟨kl_id,fun _ _=>rfl,ht,fun k c off h _=>h,fun _ _ _ _ _ _=>rfl,?_,?_,?_⟩
  ·intro d p i' n v _ h
   by_cases hdp:d=b∧p=o
   ·obtain ⟨rfl,rfl⟩:=hdp
    unfold SlV at h ⊢
    rw [zcJ (v:=.own E l') rfl hl]
    rw [hl] at h
    obtain ⟨h1,a',c',h2,h3,h4⟩:=h
    refine ⟨by rw [hlen];exact h1,a',c',h2,h3,?_⟩
    rcases h4 with ⟨h5,h6,h7⟩ | ⟨k',h5,h6⟩
    ·exact .inl ⟨h5,hnil h6,h7⟩
    ·right
     exact ⟨k',h5,hnew h6⟩
   ·unfold SlV at h ⊢
    rw [zdm hdp]
    cases hg:look G d (some p) with
    | none=>trivial
    | some z=>
      rw [hg] at h
      cases z with
      | own E l=>
        obtain ⟨e1,a',c',e2,e3,e4⟩:=h
        refine ⟨e1,a',c',e2,e3,e4.imp id ?_⟩
        rintro ⟨k,e5,e6⟩
        exact ⟨k,e5,hblk hdp e6⟩
      | f x=>
        cases x with
        | sl l=>exact ⟨h.1,h.2.mono ht⟩
        | _=>trivial
      | _=>trivial
  ·intro d p i' n v _ h
   by_cases hdp:d=b∧p=o
   ·obtain ⟨rfl,rfl⟩:=hdp
    unfold EpV at h ⊢
    rw [zcJ (v:=.own E l') rfl hl]
    rw [hl] at h
    obtain ⟨h1,k',cap',h2,h3⟩:=h
    exact ⟨by rw [hlen];exact h1,k',cap',h2,hnew h3⟩
   ·unfold EpV at h ⊢
    rw [zdm hdp]
    cases hg:look G d (some p) with
    | none=>trivial
    | some z=>
      rw [hg] at h
      cases z with
      | own E l=>
        obtain ⟨e1,k,cap,e2,e3⟩:=h
        exact ⟨e1,k,cap,e2,hblk hdp e3⟩
      | f x=>
        cases x with
        | sl l=>obtain ⟨x,e1,e2⟩:=h;exact ⟨x,e1,RC.fp_mono ht e2⟩
        | _=>trivial
      | _=>trivial
  ·rintro d p E' l' v hdp hg ⟨a',c',e1,e2,e3⟩
   refine ⟨a',c',e1,e2,e3.imp id ?_⟩
   rintro ⟨k,e4,e5⟩
   exact ⟨k,e4,hblk hdp e5⟩
 have leafcase:∀ {v:Value},RO P G own w b o (.own E l) v→RO P ((Up.upo b o (.own E l')).app G) own w' b o (.own E l') v:=by
  rintro v ⟨a',c',e1,e2,e3⟩
  refine ⟨a',c',by rw [hlen];exact e1,by rw [hlen];exact e2,?_⟩
  rcases e3 with ⟨h5,h6,h7⟩ | ⟨k',h5,h6⟩
  ·exact .inl ⟨h5,hnil h6,h7⟩
  ·right
   exact ⟨k',h5,hnew h6⟩
 obtain ⟨_,vb,hgb,hyb,hfb⟩:=zc2 hl
 refine ⟨s.step K s.size ?_ ?_ s.one (fun k o h=>Nat.lt_of_lt_of_le (s.lt k o h) hsz),K.kp⟩
 ·intro r v' hg
  by_cases hr:tb r=b
  ·subst hr
   simp only [Up.app,zar,if_true,hgb,Option.map_some,Option.some.injEq] at hg
   subst hg
   obtain ⟨u',hu,hrl⟩:=s.temps r vb hgb
   refine .inl ⟨u',hu,?_⟩
   rcases hfb with ⟨q,rfl⟩ | hfb
   ·obtain ⟨arr,e1,e2,e3⟩:=hrl
    refine ⟨arr,e1,by simpa using e2,fun j z v h3 h4=>?_⟩
    simp only [AV.leaves] at hyb
    simp only [AV.toLeaf,List.getElem?_set] at h3
    by_cases hj:o=j
    ·subst hj
     rw [if_pos rfl,if_pos (List.getElem?_eq_some_iff.1 hyb).1] at h3;cases h3
     exact leafcase (e3 o _ v hyb h4)
    ·rw [if_neg hj] at h3
     have hro:=e3 j z v h3 h4
     exact RO.keep K hro (zcu hgb h3 (zbn hro)) (fun e=>hj e.2.symm)
   ·have ex:vb.leaves=[vb]:=by cases vb<;>first | rfl | simp [AV.isLeaf] at hfb
    rw [ex] at hyb
    cases o with
    | succ o=>simp at hyb
    | zero=>
      simp at hyb;subst hyb
      exact leafcase hrl
  ·simp only [Up.app,zar,if_neg hr] at hg
   exact .inr ⟨v',hg,(zcx v').symm,rfl,fun o' e=>hr e.1⟩
 ·intro d v' hd hg
  by_cases hdb:d=b
  ·subst hdb
   simp only [Up.app,zar,if_true,hgb,Option.map_some,Option.some.injEq] at hg
   subst hg
   obtain ⟨k',arr,T,e1,e2,e3⟩:=s.boxes d vb hd hgb
   refine .inl ⟨k',arr,T,e1,?_,?_⟩
   ·rw [hot _ (s.lt _ _ e1) (by rw [e1];simp)];exact e2
   ·refine ⟨by rw [zde rfl hfb];exact e3.1,fun j z v h3 h4=>?_⟩
    rw [zbx rfl hfb] at h3
    by_cases hj:j=o
    ·subst hj
     rw [if_pos ⟨rfl,(List.getElem?_eq_some_iff.1 hyb).1⟩] at h3;cases h3
     exact leafcase (e3.2 j _ v hyb h4)
    ·rw [if_neg (fun e=>hj e.1)] at h3
     have hro:=e3.2 j z v h3 h4
     exact RO.keep K hro (by simp [look,hgb,h3,zbn hro]) (fun e=>hj e.2)
  ·simp only [Up.app,zar,if_neg hdb] at hg
   refine .inr ⟨v',hg,(zcx v').symm,fun o' e=>hdb e.1,fun k' hk=>⟨hk,hot _ (s.lt _ _ hk) (by rw [hk];simp)⟩⟩
theorem St.world {nt:Nat} {G:Sta} {own:Own} {a:Act} {w w':World} (s:St P nt G own a w) {b o:Nat} (hd:Dead G b o) (hsz:w.heap.size≤w'.heap.size)
 (hot:∀ j,j < w.heap.size→own j≠some (.sl b o)→w'.heap[j]?=w.heap[j]?) (hos:w'.os=w.os) (htp:w'.tape=w.tape) (hou:w'.output=w.output):St P nt G own a w'∧Tr own w own w':=by
 have t:Tr own w own w':=⟨hsz,fun j hj hn=>⟨hn,hot j hj (by rw [hn];simp)⟩,hos,htp,hou,fun j x hn=>⟨hn,hot j (s.lt _ _ hn) (by rw [hn];simp)⟩,fun _ _ _ h=>h⟩
 have hB:∀ {d p E k l n},look G d (some p)=some (.own E l)→OwnB P own w d p E k l n→OwnB P own w' d p E k l n:=by
  intro d p E k l n hl h
  refine h.mono t h.1 (hot k (s.lt _ _ h.1) ?_)
  rw [h.1]
  intro e;simp only [Option.some.injEq,Owner.sl.injEq] at e
  obtain ⟨rfl,rfl⟩:=e
  exact hd _ _ hl
 have K:Keep P G own w G own w' (fun v=>v) (fun _ _=>True):=by
  refine ⟨kl_id,fun _ _=>rfl,t,fun _ _ _ h _=>h,fun _ _ _ _ _ _=>rfl,?_,?_,?_⟩
  ·intro b o i n u _ h
   unfold SlV at h ⊢
   cases hg:look G b (some o) with
   | none=>trivial
   | some x=>
     rw [hg] at h
     cases x with
     | own E l=>
       obtain ⟨e1,a,c,e2,e3,e4⟩:=h
       exact ⟨e1,a,c,e2,e3,e4.imp id fun ⟨k,e5,e6⟩=>⟨k,e5,hB hg e6⟩⟩
     | f x=>cases x with
       | sl l=>exact ⟨h.1,h.2.mono t⟩
       | _=>trivial
     | _=>trivial
  ·intro b o i n u _ h
   unfold EpV at h ⊢
   cases hg:look G b (some o) with
   | none=>trivial
   | some x=>
     rw [hg] at h
     cases x with
     | own E l=>obtain ⟨e1,k,c,e2,e3⟩:=h;exact ⟨e1,k,c,e2,hB hg e3⟩
     | f x=>cases x with
       | sl l=>obtain ⟨x,e1,e2⟩:=h;exact ⟨x,e1,RC.fp_mono t e2⟩
       | _=>trivial
     | _=>trivial
  ·rintro b o E l u _ hl ⟨a,c,e1,e2,e3⟩
   exact ⟨a,c,e1,e2,e3.imp id fun ⟨k,e4,e5⟩=>⟨k,e4,hB hl e5⟩⟩
 exact ⟨s.step K s.size (fun r v h=>.inr ⟨v,h,(zcx v).symm,rfl,fun _=>trivial⟩) (fun b v _ h=>.inr ⟨v,h,(zcx v).symm,fun _=>trivial,fun k hk=>⟨hk,hot k (s.lt _ _ hk) (by rw [hk];simp)⟩⟩) s.one
  (fun k o h=>Nat.lt_of_lt_of_le (s.lt k o h) hsz),t⟩
end Go.Ev
set_option linter.unusedVariables false
set_option linter.unusedSimpArgs false
namespace Go.Ev
open Go Go.RowKit
variable {P : Program}
section
variable {nt : Nat} {G : Sta} {own : Own} {a : Act} {w : World}
theorem St.drawn (s:St P nt G own a w) (m:Nat):St P nt G own a { w with drawn:=m }∧Tr own w own { w with drawn:=m }:=by
 have t:Tr own w own { w with drawn:=m }:=⟨Nat.le_refl _,fun _ _ h=>⟨h,rfl⟩,rfl,rfl,rfl,fun _ _ h=>⟨h,rfl⟩,fun _ _ _ h=>h⟩
 have K:Keep P G own w G own { w with drawn:=m } (fun v=>v) (fun _ _=>True):=by
  refine ⟨kl_id,fun _ _=>rfl,t,fun _ _ _ h _=>h,fun _ _ _ _ _ _=>rfl,?_,?_,?_⟩
  ·intro b o i n u _ h
   unfold SlV at h ⊢
   cases hg:look G b (some o) with
   | none=>trivial
   | some x=>
     rw [hg] at h
     cases x with
     | own E l=>
       obtain ⟨e1,a,c,e2,e3,e4⟩:=h
       exact ⟨e1,a,c,e2,e3,e4.imp id fun ⟨k,e5,e6⟩=>⟨k,e5,e6.mono t e6.1 rfl⟩⟩
     | f x=>cases x with
       | sl l=>exact ⟨h.1,h.2.mono t⟩
       | _=>trivial
     | _=>trivial
  ·intro b o i n u _ h
   unfold EpV at h ⊢
   cases hg:look G b (some o) with
   | none=>trivial
   | some x=>
     rw [hg] at h
     cases x with
     | own E l=>obtain ⟨e1,k,c,e2,e3⟩:=h;exact ⟨e1,k,c,e2,e3.mono t e3.1 rfl⟩
     | f x=>cases x with
       | sl l=>obtain ⟨x,e1,e2⟩:=h;exact ⟨x,e1,RC.fp_mono t e2⟩
       | _=>trivial
     | _=>trivial
  ·rintro b o E l u _ _ ⟨a,c,e1,e2,e3⟩
   exact ⟨a,c,e1,e2,e3.imp id fun ⟨k,e4,e5⟩=>⟨k,e4,e5.mono t e5.1 rfl⟩⟩
 exact ⟨s.step K s.size (fun r v h=>.inr ⟨v,h,(zcx v).symm,rfl,fun _=>trivial⟩) (fun b v _ h=>.inr ⟨v,h,(zcx v).symm,fun _=>trivial,fun k hk=>⟨hk,rfl⟩⟩) s.one s.lt,t⟩
end
structure WideF (P:Program) (F:Fence):Prop where
 fn:∀ f,F.fn f
 deep:F.depth.isSome=false
 calls:∀ m g vs w R,Calls P g vs w R→CallsIn F m P g vs w R
section
variable {CE : CEx} {c : Cfg} {G : Sta} {own : Own} {a : Act} {w : World} {T : List Acc} {next : Act → World → Prop}
variable {F : Fence} {n : Nat} {o : Oper} {Q : Exit → Act → World → Prop}
theorem callGo_sound (hCE:∀ g args outs r outs',CE g args outs r outs'→CallE P g args outs r outs') {U:List Up} {own1:Own} (s:St P c.nt (app U G) own1 a w) (ht:Tr own w own1 w)
 {g:FuncId} {d:Option Tmp} {args:List AV} {us:Array Value} {bs:List Nat} {cs:List AV}
 (hargs:args.length=us.size∧∀ (j:Nat) x u,args[j]?=some x→us[j]?=some u→R1 P (app U G) own1 w x u)
 (hl:bs.length=cs.length) (hcs:∀ (i:Nat) b v,bs[i]?=some b→cs[i]?=some v→get (app U G) b=some v)
 (h:(callGo c d g args U bs cs).wp CE G T (Kn P c.nt G own a w next)) :
 (∃ fn,P.funcs[g]?=some fn∧(fn.name == "runtime.NumGoroutine")=false∧fn.body.isNone=false)∧Calls P g us w fun e w'=>∃ u,e=.returned u∧next (a.put d u) w':=by
 unfold callGo at h
 split at h
 ·rename_i hcond
  obtain ⟨h1,h2,h3,hn,h5⟩:=hcond
  obtain ⟨r,outs,hce,h6⟩:=h
  obtain ⟨hf,hcall⟩:=hCE _ _ _ _ _ hce
  refine ⟨hf,?_⟩
  have h3':∀ b∈bs,b % 3≠1:=fun b hb=>by have:=List.all_eq_true.1 h3 b hb;simpa using this
  have hnn:∀ k,own1 k=none→ownC bs own1 k=none:=fun k hk=>by simp [ownC,hk]
  have hbx:∀ k b,bs.contains b=true→own1 k=some (.box b)→ownC bs own1 k=some (.box (toOut bs b)):=fun k b hb hk=>by
   simp only [ownC,hk,Option.map_some,toOwn];rw [if_pos hb]
  have hO:Outs P (ownC bs own1) w (cs.map (ren1 (toOut bs))):=by
   refine ⟨fun i v hv=>?_,fun k k' x e e'=>?_,fun k x e=>?_⟩
   ·rw [List.getElem?_map] at hv
    cases hi:cs[i]? with
    | none=>rw [hi] at hv;cases hv
    | some y=>
      rw [hi] at hv;cases hv
      have hlt:i < bs.length:=by have:=(List.getElem?_eq_some_iff.1 hi).1;omega
      obtain ⟨b,hb⟩:∃ b,bs[i]?=some b:=⟨bs[i],by simp⟩
      have hmem:=List.mem_of_getElem? hb
      obtain ⟨k,arr,TT,e1,e2,e3⟩:=s.boxes b y (h3' b hmem) (hcs i b y hb hi)
      have hto:=zcZ hn hb
      refine ⟨k,arr,TT,by rw [← hto];exact hbx k b (by simpa using hmem) e1,e2,?_⟩
      refine ren_rb hnn hbx ?_ e3 (List.all_eq_true.1 h2 y (List.mem_of_getElem? hi))
      intro k j hk
      simp only [ownC,hk,Option.map_some,toOwn]
      rw [if_pos (by simpa using hmem),hto]
   ·simp only [ownC] at e e'
    cases q:own1 k with
    | none=>rw [q] at e;cases e
    | some y=>
      cases q':own1 k' with
      | none=>rw [q'] at e';cases e'
      | some y'=>
        rw [q] at e;rw [q'] at e'
        simp only [Option.map_some,Option.some.injEq] at e e'
        have:=toOwn_inj hn e e'
        subst this
        exact s.one k k' y q q'
   ·simp only [ownC] at e
    cases q:own1 k with
    | none=>rw [q] at e;cases e
    | some y=>exact s.lt k y q
  have hA:Args P (ownC bs own1) w (args.map (ren1 (toOut bs))) us:=by
   refine ⟨by simpa using hargs.1,fun j x v e1 e2=>?_⟩
   rw [List.getElem?_map] at e1
   cases hj:args[j]? with
   | none=>rw [hj] at e1;cases e1
   | some y=>rw [hj] at e1;cases e1;exact ren_r1 hnn hbx (hargs.2 j y v hj e2) (List.all_eq_true.1 h1 y (List.mem_of_getElem? hj))
  refine (hcall _ w us hO hA).mono ?_
  rintro e w' ⟨u,own',rfl,tr,ho,hr⟩
  refine ⟨u,rfl,?_⟩
  dsimp only at h6
  split at h6
  ·rename_i hcond
   obtain ⟨g1,g2,g3,g4⟩:=hcond
   obtain ⟨s2,t2⟩:=call_back s hl hcs h3' hn h5 g1 g2 g3 g4 tr ho hr
   exact h6 _ _ w' (by rw [zap];exact s2) (ht.trans t2) (put_defers _ _ _)
  ·exact h6.elim
 ·exact h.elim
theorem run_call {f:Operand} {args:Array Operand} {ats:Array TypeId} {g:FuncId} {caps:Array Value} {fn:Func} (ho:o.op=.call { callee:=.value f,args,argTypes:=ats })
 (hv:a.eval f=.func (.func g) #[] caps) (hf:P.funcs[g]?=some fn) (hname:(fn.name == "runtime.NumGoroutine")=false) (hb:fn.body.isNone=false) :
 (execOp a.eval o).run P w=.ok (.enter g (args.map a.eval++caps)) w:=by
 simp only [execOp,ho,resolve,hv,Deferred.ofValue,Sem.run_bind,Sem.run_pure,Result.andThen_ok,invoke,Array.empty_append]
 simp only [beq_eq_false_iff_ne,ne_eq] at hname
 simp only [Option.isNone_eq_false_iff] at hb
 simp [callFunc,hf,hname,Option.isSome_iff_ne_none.1 hb]
theorem op_call (hCE:∀ g args outs r outs',CE g args outs r outs'→CallE P g args outs r outs') (hF:WideF P F) (s:St P c.nt G own a w) {f:Operand} {args:Array Operand} {ats:Array TypeId} (ho:o.op=.call { callee:=.value f,args,argTypes:=ats })
 (h:(rdO f fun v=>match v with
 | .clo g caps=>rdL args.toList fun l=>cps l fun l U=>callRM c o.dst g (l++caps) U
 | _=>.fail:RM).wp CE G T (Kn P c.nt G own a w next)):o.wpIn F n P a w next Q:=by
 obtain ⟨v,T1,h1,h2⟩:=zG s h
 split at h2
 ·rename_i g caps
  obtain ⟨vs,T2,h3,h4,h5⟩:=ze6 s h2
  obtain ⟨xs,W,T3,own1,k1,k2,k3,k4,k5,k6⟩:=zhO (U:=[]) FrzOnly.nil s (us:=args.toList.map a.eval) ⟨by simp [h3],fun j v u e1 e2=>by
   rw [List.getElem?_map] at e2
   cases hj:args.toList[j]? with
   | none=>rw [hj] at e2;cases e2
   | some x=>rw [hj] at e2;cases e2;exact h4 j v x e1 hj⟩ h5
  simp only [List.nil_append] at k2 k3 k4 k6
  have k6:(gather 32 (addNew [] ((xs++caps).flatMap AV.ptrs)) [] fun bs cs=>callGo c o.dst g (xs++caps) W bs (frzAll W bs cs)).wp CE G T3 (Kn P c.nt G own a w next):=k6
  obtain ⟨bs,cs,T4,g1,g2,g3⟩:=zgr 32 k6 (fun i c h=>by simp at h)
  obtain ⟨z1,z2⟩:=zhC W bs cs g1
  have hclo:R0 P (app W G) own1 w (.clo g caps) (a.eval f):=k3.r0 _ _ h1
  obtain ⟨arr,a1,a2,a3⟩:=hclo
  have hus:(args.map a.eval++arr).size=args.size+arr.size:=by simp
  have hxl:xs.length=args.size:=by have:=k4.1;simpa using this
  obtain ⟨hf,hcall⟩:=callGo_sound hCE k2 k3.tr (us:=args.map a.eval++arr) (args:=xs++caps) ⟨by simp [hxl,a2],fun j x u e1 e2=>by
   by_cases hj:j < xs.length
   ·rw [List.getElem?_append_left hj] at e1
    rw [Array.getElem?_append_left (by simpa [← hxl] using hj)] at e2
    have hr:=k4.2 j x u e1 (by simpa using e2)
    have hp:=k5 x (List.mem_of_getElem? e1)
    cases x<;>first | exact hr | simp [AV.plain1,AV.plain0] at hp
   ·have hle:xs.length≤j:=by omega
    rw [List.getElem?_append_right hle] at e1
    rw [Array.getElem?_append_right (by simpa [← hxl] using hle)] at e2
    have hr:=a3 (j - xs.length) x u e1 (by simpa [hxl] using e2)
    cases x<;>first | exact hr | exact hr.elim⟩ (by rw [z1]) (fun i b v e1 e2=>by
   obtain ⟨y,q1,rfl⟩:=z2 i b v e1 e2
   obtain ⟨b',q2,q3⟩:=g2 i y q1
   rw [e1] at q2;cases q2
   exact get_frzs b k1 q3) g3
  obtain ⟨fn,f1,f2,f3⟩:=hf
  refine zfL hF.fn (by simp [ho]) ?_
  rw [run_call ho a1 f1 f2 f3,Oper.uponIn_enter]
  refine ⟨fun e=>(by rw [hF.deep] at e;cases e),(hF.calls _ _ _ _ _ hcall).mono ?_⟩
  rintro e w' ⟨u,rfl,hn⟩
  exact hn
 ·exact h2.elim
variable (P) in
def IpOk (g:FuncId) (f:List FV→Option (List FV)) (back:Bool):Prop:=
 (∃ fn,P.funcs[g]?=some fn∧(fn.name == "runtime.NumGoroutine")=false∧fn.body.isNone=false)∧
 ∀ own w b o E l l' u,f l=some l'→(∀ k o',own k=some o'→k < w.heap.size)→(∀ k k' o,own k=some o→own k'=some o→k=k')→OwnL P own w b o E l u→
   Calls P g #[u] w fun e w'=>∃ r,e=.returned r∧w.heap.size≤w'.heap.size∧(∀ j,j < w.heap.size→own j≠some (.sl b o)→w'.heap[j]?=w.heap[j]?)∧w'.os=w.os∧w'.tape=w.tape∧w'.output=w.output∧
    (if back=true then OwnL P own w' b o E l' r else r=.tuple #[]∧∀ k n,OwnB P own w b o E k l n→OwnB P own w' b o E k l' n)
theorem zir (s:St P c.nt G own a w) {g:FuncId} {f:List FV→Option (List FV)} {back:Bool} (hip:IpOk P g f back) {d:Option Tmp} {b q:Nat} {E:TypeId} {l:List FV} {u:Value}
 (hl:look G b (some q)=some (.own E l)) (hv:OwnL P own w b q E l u) (h:(ipGo c d f back b q E l).wp CE G T (Kn P c.nt G own a w next)) :
 Calls P g #[u] w fun e w'=>∃ r,e=.returned r∧next (a.put d r) w':=by
 unfold ipGo at h
 split at h
 ·rename_i l' hf
  refine (hip.2 own w b q E l l' u hf s.lt s.one hv).mono ?_
  rintro e w' ⟨r,rfl,h1,h2,h3,h4,h5,h6⟩
  refine ⟨r,rfl,?_⟩
  split at h
  ·rename_i hback
   rw [if_pos hback] at h6
   split at h
   ·rename_i t
    split at h
    ·rename_i hlt
     obtain ⟨s1,_⟩:=s.bad b q
     obtain ⟨s2,t2⟩:=s1.world (zfn G b q) h1 h2 h3 h4 h5
     obtain ⟨s3,t3⟩:=s2.set_move hlt (zfn G b q) h6
     exact h _ _ w' s3 (t2.trans t3) rfl
    ·exact h.elim
   ·exact h.elim
  ·rename_i hback
   rw [if_neg hback] at h6
   obtain ⟨rfl,h7⟩:=h6
   split at h
   ·rename_i hlen
    obtain ⟨s1,K1⟩:=s.upos hl hlen h1 h2 h3 h4 h5 (fun h=>h7 _ _ h)
    exact zM (U:=[.upo b q (.own E l')]) s1 K1.tr (v:=.tup []) ⟨#[],rfl,rfl,fun j x v h=>by simp at h⟩ h
   ·exact h.elim
 ·exact h.elim
theorem op_ip (hF:WideF P F) (s:St P c.nt G own a w) {g:FuncId} {f:List FV→Option (List FV)} {back:Bool} (hip:IpOk P g f back) {t:Tmp} {ats:Array TypeId} (ho:o.op=.call { callee:=.value (.func g),args:=#[.tmp t],argTypes:=ats })
 (h:(ipRM c o.dst f back t).wp CE G T (Kn P c.nt G own a w next)):o.wpIn F n P a w next Q:=by
 obtain ⟨fn,f1,f2,f3⟩:=hip.1
 have fin:(Calls P g #[a.eval (.tmp t)] w fun e w'=>∃ r,e=.returned r∧next (a.put o.dst r) w')→o.wpIn F n P a w next Q:=by
  intro hc
  refine zfL hF.fn (by simp [ho]) ?_
  rw [run_call (caps:=#[]) ho rfl f1 f2 f3,Oper.uponIn_enter]
  refine ⟨fun e=>(by rw [hF.deep] at e;cases e),(hF.calls _ _ _ _ _ (by simpa using hc)).mono ?_⟩
  rintro e w' ⟨u,rfl,hn⟩
  exact hn
 obtain ⟨v,T1,h1,h2⟩:=za9 h
 have hr:=s.temp h1
 split at h2
 ·rename_i b q i m
  obtain ⟨y,T2,h3,h4⟩:=za9 h2
  split at h4
  ·rename_i E l
   split at h4
   ·rename_i hcond
    obtain ⟨rfl,rfl⟩:=hcond
    have hown:=(zeD h3 hr).2
    rw [List.take_length] at hown
    exact fin (zir s hip h3 hown h4)
   ·exact h4.elim
  ·exact h4.elim
 ·rename_i E l
  exact fin (zir s hip (zcR h1 rfl) hr h2)
 ·exact h2.elim
variable (P) in
def GrOk (g:FuncId) (E:TypeId):Prop:=
 (∃ fn,P.funcs[g]?=some fn∧(fn.name == "runtime.NumGoroutine")=false∧fn.body.isNone=false)∧
 ∀ w (n:Int),0≤n→n≤2 ^ 40→Calls P g #[.slice none 0 0,.int .i64 n] w fun e w'=>
   (e=.returned (.slice none 0 0)∧w'=w)∨∃ cap arr m,e=.returned (.slice (some ⟨w.heap.size,0,none⟩) 0 cap)∧w'=({ w with drawn:=m }:World).alloc (.cells arr E)∧cap * esz P E≤arr.size
variable (P) in
def IpsOk (c:Cfg):Prop:=(∀ g f back,c.ip g=some (f,back)→IpOk P g f back)∧∀ g E,c.gr g=some E→GrOk P g E
theorem op_grow (hF:WideF P F) (s:St P c.nt G own a w) {g:FuncId} {E:TypeId} (hgr:GrOk P g E) {y:Operand} {ats:Array TypeId} (ho:o.op=.call { callee:=.value (.func g),args:=#[.const (.slice none 0 0),y],argTypes:=ats })
 (h:(rdO y (growRM c o.dst E)).wp CE G T (Kn P c.nt G own a w next)):o.wpIn F n P a w next Q:=by
 obtain ⟨fn,f1,f2,f3⟩:=hgr.1
 obtain ⟨v,T1,h1,h2⟩:=zG s h
 unfold growRM at h2
 split at h2
 ·rename_i n
  split at h2
  ·rename_i hn
   have hv:a.eval y=.int .i64 n:=zbQ (P:=P) (G:=G) (own:=own) (w:=w) h1
   refine zfL hF.fn (by simp [ho]) ?_
   rw [run_call (caps:=#[]) ho rfl f1 f2 f3,Oper.uponIn_enter]
   refine ⟨fun e=>(by rw [hF.deep] at e;cases e),(hF.calls _ _ _ _ _ ?_)⟩
   have hargs:(#[Operand.const (.slice none 0 0),y].map a.eval++#[]:Array Value)=#[.slice none 0 0,.int .i64 n]:=by
    have e1:(#[Operand.const (.slice none 0 0),y].map a.eval:Array Value)=#[a.eval (.const (.slice none 0 0)),a.eval y]:=by simp
    rw [e1,hv];rfl
   rw [hargs]
   refine (hgr.2 w n hn.1 hn.2).mono ?_
   rintro e w' (⟨rfl,rfl⟩ | ⟨cap,arr,m,rfl,rfl,hcap⟩)
   ·cases hd:o.dst with
    | none=>rw [hd] at h2;exact h2.elim
    | some t=>
      rw [hd] at h2
      unfold finNew at h2
      dsimp only at h2
      by_cases hlt:t < c.nt
      ·rw [if_pos hlt] at h2
       refine (show Kn P c.nt G own a w' next [.set (tb t) (.own E [])] T1 from h2) own _ _ ?_ (Tr.refl _ _) rfl
       exact (s.set_pure hlt (show OwnL P own _ (tb t) 0 E [] _ from ⟨none,0,rfl,Nat.le_refl _,.inl ⟨rfl,rfl,rfl⟩⟩))
      ·rw [if_neg hlt] at h2;exact h2.elim
   ·obtain ⟨s1,t1⟩:=s.drawn m
    exact zcV (c:=c) (w:={ w with drawn:=m }) (U:=[]) (l:=[]) (cap:=cap) (arr:=arr) (G:=G) (own:=own) (own':=own) s1 (Tr.refl _ _) (n0:=w.heap.size) (Nat.le_refl _) (by simp) (fun k hk=>za0 _ _ hk) rfl rfl rfl (zbi _ _) (Nat.zero_le _) hcap (fun x hx=>by cases hx) (fun i x j y h=>by simp at h)
     (show (finNew c o.dst [] E []).wp CE G T1 (Kn P c.nt G own a { w with drawn:=m } next) from RM.wp_mono (fun U' T' hk own' a' w' s' t' d'=>hk own' a' w' s' (t1.trans t') d') _ _ h2)
  ·exact h2.elim
 ·exact h2.elim
theorem op_calls (hip:IpsOk P c) (hCE:∀ g args outs r outs',CE g args outs r outs'→CallE P g args outs r outs') (hF:WideF P F) (s:St P c.nt G own a w) {f:Operand} {args:Array Operand} {ats:Array TypeId} (ho:o.op=.call { callee:=.value f,args,argTypes:=ats })
 (h:(match ipOf c f args.toList with
 | some (_,f,back,t)=>ipRM c o.dst f back t
 | none=>match grOf c f args.toList with
   | some (_,E,y)=>rdO y (growRM c o.dst E)
   | none=>rdO f fun v=>match v with
     | .clo g caps=>rdL args.toList fun l=>cps l fun l U=>callRM c o.dst g (l++caps) U
     | _=>.fail:RM).wp CE G T (Kn P c.nt G own a w next)):o.wpIn F n P a w next Q:=by
 split at h
 ·rename_i g f' back t hq
  unfold ipOf at hq
  split at hq
  ·rename_i g' t' hargs
   simp only [Option.map_eq_some_iff] at hq
   obtain ⟨⟨f2,b2⟩,h1,h2⟩:=hq
   simp only [Prod.mk.injEq] at h2
   obtain ⟨rfl,rfl,rfl,rfl⟩:=h2
   have:args=#[.tmp t']:=by cases args with | mk l=>simp at hargs;rw [hargs]
   rw [this] at ho
   exact op_ip hF s (hip.1 _ _ _ h1) ho h
  ·cases hq
 ·split at h
  ·rename_i x hq
   unfold grOf at hq
   split at hq
   ·rename_i y2 hargs hz
    simp only [Option.map_eq_some_iff] at hq
    obtain ⟨E',h1,h2⟩:=hq
    have hx:args=#[.const (.slice none 0 0),y2]:=by cases args with | mk l=>simp at hargs;rw [hargs]
    simp only [Prod.mk.injEq] at h2
    obtain ⟨e1,e2,e3⟩:=h2
    rw [hx] at ho
    rw [← e2,← e3] at h
    exact op_grow hF s (hip.2 _ _ h1) ho h
   ·cases hq
  ·exact op_call hCE hF s ho h
end
end Go.Ev
set_option linter.unusedVariables false
set_option linter.unusedSimpArgs false
namespace Go.Ev
open Go Go.RowKit
variable {P : Program}
section
variable {CE : CEx} {c : Cfg} {G : Sta} {own : Own} {a : Act} {w : World} {T : List Acc} {next : Act → World → Prop}
variable {F : Fence} {n : Nat} {o : Oper} {Q : Exit → Act → World → Prop}
theorem run_copy {E T1 T2 ty:TypeId} {v:Value} {base:Option Addr} {len cap sz m:Nat} {us:List Value} (hun1:P.underlying T1=some (.slice E)) (hszE:(sizeOf E).run P w=.ok sz w)
 (hl:(Builtin.lenOf v).run P w=.ok m w) (hf:(Builtin.firstCells sz (Nat.min m len) v).run P w=.ok us.toArray w) :
 (Builtin.copy_ #[T1,T2] ty #[.slice base len cap,v]).run P w=(match base with | some a=>((storeCells a us).run P w).andThen fun _ w=>.ok (goInt (Nat.min m len)) w | none=>.ok (goInt (Nat.min m len)) w):=by
 cases base<;>simp [Builtin.copy_,run_underlying hun1,hszE,hl,hf]
theorem zgw (hc:CfgOk P c) {E T1 T2 ty:TypeId} {i i1:TI} (hE:c.ti E=some i) (h1:c.ti T1=some i1) (hd1:i1.desc=.slice E) (hsz:0 < i.size) (s:St P c.nt G own a w) {d:Option Tmp} {b q:Nat} {l:List FV} {v:AV} {u uv:Value}
 (hl:look G b (some q)=some (.own E l)) (hu:OwnL P own w b q E l u) (hv:RV P G own w v uv) (h:(copyGo c d E i b q l v).wp CE G T (Kn P c.nt G own a w next)) :
 ∃ r w',(Builtin.copy_ #[T1,T2] ty #[u,uv]).run P w=.ok r w'∧next (a.put d r) w':=by
 have hun1:P.underlying T1=some (.slice E):=by rw [← hd1];exact (hc T1 _ h1).und
 have hszE:(sizeOf E).run P w=.ok i.size w:=(hc E _ hE).run_size w
 have hesz:esz P E=i.size:=(hc E _ hE).cells
 unfold copyGo at h
 split at h
 ·rename_i m
  split at h
  ·rename_i hfit
   have hrf:RF own w (.sl m) uv:=hv.2
   obtain ⟨a0,c0,rfl⟩:∃ a0 c0,uv=.slice a0 m.length c0:=by
    cases hrf with
    | sl l a n c ad sz hn=>subst hn;exact ⟨_,_,rfl⟩
   obtain ⟨a',cap,rfl,hcap,hB⟩:=hu
   obtain ⟨N,hN⟩:∃ N,N=Nat.min m.length l.length:=⟨_,rfl⟩
   have hNm:N≤m.length:=by rw [hN];exact Nat.min_le_left _ _
   have hNl:N≤l.length:=by rw [hN];exact Nat.min_le_right _ _
   have htl:(m.take N).length=N:=by simp [hNm]
   obtain ⟨us,a2,c2,e0,hus,hf,hone,hcells⟩:=zg8 (P:=P) hsz (rf_take hrf hNm) (List.all_eq_true.2 fun x hx=>List.all_eq_true.1 hfit x (List.mem_of_mem_take hx))
   rw [htl] at hus hf
   have hf1:(Builtin.firstCells i.size (Nat.min m.length l.length) (.slice a0 m.length c0)).run P w=.ok us.toArray w:=by
    rw [← hN]
    have:=hf w fun _=>rfl
    cases a0<;>exact this
   have hrun:=run_copy (P:=P) (T2:=T2) (ty:=ty) (base:=a') (cap:=cap) hun1 hszE (hl:=(show (Builtin.lenOf (.slice a0 m.length c0)).run P w=.ok m.length w from rfl)) hf1
   rw [hrun]
   have hlen:(m.take l.length++l.drop m.length).length=l.length:=by simp;omega
   have hget:∀ i:Nat,(m.take l.length++l.drop m.length)[i]?=if i < N then m[i]? else l[i]?:=by
    intro i
    rw [List.getElem?_append]
    simp only [List.length_take,List.getElem?_take,List.getElem?_drop]
    have hN2:N=min l.length m.length:=by rw [hN];exact Nat.min_comm _ _
    rw [← hN2]
    by_cases hi:i < N
    ·rw [if_pos hi,if_pos hi,if_pos (by omega)]
    ·rw [if_neg hi,if_neg hi]
     by_cases hml:m.length≤l.length
     ·have:N=m.length:=by omega
      rw [this,show m.length+(i - m.length)=i by omega]
     ·rw [List.getElem?_eq_none (by omega),List.getElem?_eq_none (by omega)]
   have hgo:goInt (Nat.min m.length l.length)=.int .i64 ((min m.length l.length:Nat):Int):=rfl
   rcases hB with ⟨rfl,rfl,rfl⟩ | ⟨k,rfl,hB⟩
   ·obtain ⟨s1,K1⟩:=s.upos (w':=w) (l':=m.take ([]:List FV).length++([]:List FV).drop m.length) hl hlen (Nat.le_refl _) (fun _ _ _=>rfl) rfl rfl rfl (fun h=>by simpa using h)
    refine ⟨_,w,rfl,?_⟩
    rw [hgo]
    exact zM (U:=[.upo b q _]) s1 K1.tr (v:=.f (.pv _)) ⟨rfl,.pv _ rfl⟩ h
   ·obtain ⟨hk,arr,e2,e3,e4,e5⟩:=hB
    have hin:us.length≤arr.size:=by
     rw [hus]
     refine Nat.le_trans (Nat.mul_le_mul_right _ (Nat.le_trans hNl hcap)) ?_
     rw [← hesz];exact e3
    have hst:=run_storeCells_at (P:=P) k 0 E us 0 arr w e2 (by simpa using hin) hone
    obtain ⟨arr2,harr2⟩:∃ arr2,arr2=(arr.toList.take 0++us++arr.toList.drop (0+us.length)).toArray:=⟨_,rfl⟩
    rw [show (0:Nat)+0=0 from rfl,← harr2] at hst
    have hga:∀ p,arr2[p]?=if p < us.length then us[p]? else arr[p]?:=by
     intro p
     rw [harr2]
     simp only [List.getElem?_toArray,List.take_zero,List.nil_append,List.getElem?_append,Nat.zero_add]
     by_cases h1:p < us.length
     ·rw [if_pos h1,if_pos h1]
     ·rw [if_neg h1,if_neg h1,List.getElem?_drop,show us.length+(p - us.length)=p by omega];simp
    have hsize:arr2.size=arr.size:=by
     rw [harr2];simp;omega
    have hw2:=setRow_heap w k arr arr2 E (0,0) e2
    have hother:∀ j,j≠k→(w.setRow k arr2).heap[j]?=w.heap[j]?:=by
     intro j hj
     simp only [World.setRow,Array.getElem?_modify]
     rw [if_neg (fun e=>hj e.symm)]
    have hsz2:(w.setRow k arr2).heap.size=w.heap.size:=by simp [World.setRow]
    have hot:∀ j,j < w.heap.size→own j≠some (.sl b q)→(w.setRow k arr2).heap[j]?=w.heap[j]?:=fun j _ hj=>hother j (fun e=>hj (by rw [e];exact hk))
    have ht:Tr own w own (w.setRow k arr2):=
     ⟨by rw [hsz2];exact Nat.le_refl _,fun j hj hn=>⟨hn,hot j hj (by rw [hn];simp)⟩,rfl,rfl,rfl,fun j x hn=>⟨hn,hot j (s.lt _ _ hn) (by rw [hn];simp)⟩,fun _ _ _ h=>h⟩
    obtain ⟨s1,K1⟩:=s.upos (w':=w.setRow k arr2) (l':=m.take l.length++l.drop m.length) hl hlen (by rw [hsz2];exact Nat.le_refl _) hot rfl rfl rfl (fun {k' n'} hB'=>by
     obtain ⟨hk',arr',f2,f3,f4,f5⟩:=hB'
     obtain rfl:=s.one k' k _ hk' hk
     rw [e2] at f2
     cases f2
     refine ⟨hk,arr2,hw2,by rw [hsize];exact f3,?_,?_⟩
     ·intro x hx
      rcases List.mem_append.1 hx with hx | hx
      ·rw [hesz];exact (zb9 (List.all_eq_true.1 hfit x (List.mem_of_mem_take hx))).1
      ·exact e4 x (List.mem_of_mem_drop hx)
     ·intro i' x j y g1 g2
      rw [hget] at g1
      split at g1
      ·rename_i hi
       have g1':(m.take N)[i']?=some x:=by rw [List.getElem?_take,if_pos hi];exact g1
       obtain ⟨v,q1,q2⟩:=hcells i' x j y g1' g2
       refine ⟨v,?_,q2.mono ht⟩
       rw [hga,hesz,if_pos (List.getElem?_eq_some_iff.1 q1).1];exact q1
      ·rename_i hi
       obtain ⟨v,q1,q2⟩:=e5 i' x j y g1 g2
       refine ⟨v,?_,q2.mono ht⟩
       rw [hga,if_neg,q1]
       rw [hesz,hus]
       have:N * i.size≤i' * i.size:=Nat.mul_le_mul_right _ (by omega)
       omega)
    refine ⟨goInt (Nat.min m.length l.length),w.setRow k arr2,by simp only [hst,Result.andThen_ok],?_⟩
    rw [hgo]
    exact zM (U:=[.upo b q _]) s1 K1.tr (v:=.f (.pv _)) ⟨rfl,.pv _ rfl⟩ h
  ·exact h.elim
 ·exact h.elim
theorem op_copy (hc:CfgOk P c) (hF:∀ f,F.fn f) (s:St P c.nt G own a w) {x y:Operand} {t t2:TypeId} (ho:o.op=.call { callee:=.builtin .copy,args:=#[x,y],argTypes:=#[t,t2] })
 (h:(rdO y fun v=>copyRM c o.dst t x v).wp CE G T (Kn P c.nt G own a w next)):o.wpIn F n P a w next Q:=by
 obtain ⟨v,T1,h1,h2⟩:=zG s h
 have fin:(∃ r w',(Builtin.copy_ #[t,t2] o.type #[a.eval x,a.eval y]).run P w=.ok r w'∧next (a.put o.dst r) w')→o.wpIn F n P a w next Q:=by
  rintro ⟨r,w',r1,r2⟩
  refine zI hF (by simp [ho]) (u:=r) (w':=w') ?_ r2
  simp only [execOp,ho,resolve,Sem.run_bind]
  simp [invoke,builtin,r1]
 unfold copyRM at h2
 split at h2
 ·rename_i E sz0 by0 z0 hti
  split at h2
  ·rename_i i hE
   split at h2
   ·rename_i hsz
    unfold copyTo at h2
    split at h2
    ·rename_i tt
     obtain ⟨yy,T2,h3,h4⟩:=za9 h2
     have hr:=s.temp h3
     split at h4
     ·rename_i b q j m
      obtain ⟨yy,T3,h5,h6⟩:=za9 h4
      split at h6
      ·rename_i E' l
       split at h6
       ·rename_i hcond
        obtain ⟨rfl,rfl,rfl⟩:=hcond
        have hown:=(zeD h5 hr).2
        rw [List.take_length] at hown
        exact fin (zgw hc hE hti rfl hsz s h5 hown h1 h6)
       ·exact h6.elim
      ·exact h6.elim
     ·rename_i E' l
      split at h4
      ·rename_i hEE;subst hEE
       exact fin (zgw hc hE hti rfl hsz s (zcR h3 rfl) hr h1 h4)
      ·exact h4.elim
     ·exact h4.elim
    ·exact h2.elim
   ·exact h2.elim
  ·exact h2.elim
 ·exact h2.elim
end
end Go.Ev
set_option linter.unusedVariables false
set_option linter.unusedSimpArgs false
namespace Go.Ev
open Go Go.RowKit
variable {P : Program}
section
variable {CE : CEx} {c : Cfg} {G : Sta} {own : Own} {a : Act} {w : World} {T : List Acc} {next : Act → World → Prop}
variable {F : Fence} {n : Nat} {o : Oper} {Q : Exit → Act → World → Prop}
theorem zer {α β:Type} {f:α→β→Sem (ForInStep β)} {g:β→α→β}:∀ (l:List α) (b:β),(∀ x∈l,∀ b,(f x b).run P w=.ok (.yield (g b x)) w)→(forIn l b f).run P w=.ok (l.foldl g b) w
 | [],b,_=>by rw [List.forIn_nil];rfl
 | x :: l,b,h=>by
   rw [List.forIn_cons,Sem.run_bind,h x (List.mem_cons_self ..) b]
   exact zer l (g b x) fun y hy=>h y (List.mem_cons_of_mem _ hy)
def byteV:Value→UInt8
 | .int .u8 n=>UInt8.ofNat n.toNat
 | _=>0
theorem ziv:∀ (us:List Value) (s:ByteArray),us.foldl (fun s v=>s.push (byteV v)) s=⟨s.data++(us.map byteV).toArray⟩
 | [],s=>by simp
 | v :: us,s=>by
   rw [List.foldl_cons,ziv us]
   cases s
   simp [ByteArray.push]
theorem zfQ {ad:Addr} {len cap:Nat} {us:List Value} (hl:(loadCells ad len).run P w=.ok us.toArray w) (hb:∀ v∈us,∃ n,v=.int .u8 n) :
 (Conv.bytesToString (.slice (some ad) len cap)).run P w=.ok (.string ⟨(us.map byteV).toArray⟩) w:=by
 unfold Conv.bytesToString
 simp only [Sem.run_bind,hl,Result.andThen_ok]
 rw [← Array.forIn_toList,zer (g:=fun s v=>s.push (byteV v))]
 ·simp only [Result.andThen_ok,ziv]
  simp
 ·intro x hx b
  obtain ⟨n,rfl⟩:=hb x (by simpa using hx)
  rfl
theorem zfP (e:TypeId) (s:ByteArray):∃ cap w',(Conv.stringToBytes e s).run P w=.ok (.slice (some ⟨w.heap.size,0,none⟩) s.size cap) w'∧s.size≤cap∧w.heap.size < w'.heap.size∧(∀ j,j < w.heap.size→w'.heap[j]?=w.heap[j]?)∧
 w'.os=w.os∧w'.tape=w.tape∧w'.output=w.output∧∃ arr fr,w'.heap[w.heap.size]?=some (.cells arr e fr)∧∀ (j:Nat) b,s.data.toList[j]?=some b→arr[j]?=some (.int .u8 b.toNat):=by
 unfold Conv.stringToBytes markStringish
 simp only [Sem.run_bind,run_choose,Question.forced,World.drew_eq,newRow,run_newObj,Sem.run_pure,Result.andThen_ok,World.alloc_eq,World.size_drew]
 have hsh:∀ (r:Nat) (w:World),(shape r).run P w=.ok (w.shape? r) w:=fun _ _=>rfl
 have hfr:∀ (x:Addr) (n:Nat) (w:World),(freeze x n).run P w=.ok () (w.freeze x n):=fun _ _ _=>rfl
 simp only [Bool.false_eq_true,if_false,Result.andThen_ok,World.size_drew,hsh]
 obtain ⟨cap,hcap⟩:∃ cap,cap=(Question.appendCap s.size 0 e).cut (w.tape w.drawn (Question.appendCap s.size 0 e)):=⟨_,rfl⟩
 rw [← hcap]
 obtain ⟨arr,harr⟩:∃ arr,arr=Array.map (fun b:UInt8=>Value.int IntKind.u8 ↑b.toNat) s.data++Array.replicate (cap - s.size) (Value.int IntKind.u8 0):=⟨_,rfl⟩
 rw [← harr]
 have hheap:(w.drew.alloc (Obj.cells arr e)).heap=w.heap.push (Obj.cells arr e):=rfl
 have hshape:(w.drew.alloc (Obj.cells arr e)).shape? w.heap.size=some (e,arr.size):=by
  simp [World.shape?,hheap]
 rw [hshape]
 simp only [hfr,Result.andThen_ok]
 have hf:((w.drew.alloc (Obj.cells arr e)).freeze ⟨w.heap.size,arr.size,none⟩ 1).heap=(w.heap.push (Obj.cells arr e)).modify w.heap.size fun
  | .cells c elem (lo,hi)=>.cells c elem (if lo == hi then (arr.size,arr.size+1) else (min lo arr.size,max hi (arr.size+1)))
  | o=>o:=rfl
 refine ⟨cap,_,rfl,?_,?_,fun j hj=>?_,rfl,rfl,rfl,arr,(arr.size,arr.size+1),?_,fun j b hb=>?_⟩
 ·rw [hcap];simp only [Question.cut];omega
 ·rw [hf];simp
 ·rw [hf,Array.getElem?_modify,if_neg (by omega),Array.getElem?_push,if_neg (by omega)]
 ·rw [hf,Array.getElem?_modify,if_pos rfl,Array.getElem?_push,if_pos rfl];rfl
 ·have hj:j < s.data.size:=by have:=(List.getElem?_eq_some_iff.1 hb).1;simpa using this
  rw [harr,Array.getElem?_append_left (by simpa using hj),Array.getElem?_map]
  have:s.data[j]?=some b:=by simpa using hb
  rw [this];rfl
theorem toStr_sound (hc:CfgOk P c) (s:St P c.nt G own a w) {t t' e:TypeId} {d:Option Tmp} {v:AV} {u:Value} (hk:cvKind c t t'=.str e) (hu:isU8 c e=true) (hv:RV P G own w v u)
 (h:(toStrGo c d v).wp CE G T (Kn P c.nt G own a w next)):∃ r w',(convert t t' u).run P w=.ok r w'∧next (a.put d r) w':=by
 have hl:=cp1_leaf h
 obtain ⟨y,W,T2',own2,k1,k2,k3,k4,k5,k6,rfl⟩:=zcM (U:=[]) FrzOnly.nil s (zgT hv hl) h
 simp only [List.nil_append] at k2 k3 k4
 unfold cvKind at hk
 split at hk
 ·rename_i hs ht
  cases hk
  have hue:∀ w,(underlying e).run P w=.ok (.int .u8) w:=by
   unfold isU8 at hu
   split at hu
   ·rename_i he
    exact (hc e _ he).run_und
   ·cases hu
  split at k6
  ·rename_i m
   split at k6
   ·rename_i hall
    have hrf:RF (frzsOwn W own) w (.sl m) u:=k4.2
    have hfit:m.all (FV.fits 1)=true:=List.all_eq_true.2 fun x hx=>by
     have:=List.all_eq_true.1 hall x hx
     unfold isByteF at this
     split at this
     ·rfl
     ·cases this
    have hnil:∀ c',u=.slice none m.length c'→m=[]:=by
     intro c' e'
     subst e'
     cases hrf with
     | sl l a n c ad sz hn hc ha=>
       refine Classical.byContradiction fun hne=>?_
       have:=(ha hne).1
       cases this
    obtain ⟨us,a',c',rfl,hus,hf,hone,hcells⟩:=zg8 (P:=P) (Nat.lt_succ_self 0) hrf hfit
    have hrun:(convert t t' (.slice a' m.length c')).run P w=.ok (.string (bytesT m)) w:=by
     simp only [convert,Sem.run_bind,(hc t _ hs).run_und,(hc t' _ ht).run_und,Result.andThen_ok,hue]
     cases a' with
     | none=>
       have:=hnil c' rfl
       subst this
       rfl
     | some ad=>
       have hld:(loadCells ad m.length).run P w=.ok us.toArray w:=by
        have:=hf w fun _=>rfl
        simpa [Builtin.firstCells] using this
       have hval:∀ (i:Nat) x,us[i]?=some x→∃ n,x=.int .u8 n∧m[i]?=some (.pv (.int .u8 n)):=by
        intro i x hx
        have hi:i < m.length:=by have:=(List.getElem?_eq_some_iff.1 hx).1;omega
        have hb:=List.all_eq_true.1 hall m[i] (List.getElem_mem hi)
        have hmi:m[i]?=some m[i]:=List.getElem?_eq_getElem hi
        unfold isByteF at hb
        split at hb
        ·rename_i n hn
         rw [hn] at hmi
         obtain ⟨v,h1,h2⟩:=hcells i _ 0 (.pv (.int .u8 n)) hmi rfl
         rw [Nat.mul_one,Nat.add_zero,hx] at h1
         cases h1
         cases h2
         exact ⟨n,rfl,hmi⟩
        ·cases hb
       rw [zfQ hld fun x hx=>by
        obtain ⟨i,hi,rfl⟩:=List.mem_iff_getElem.1 hx
        obtain ⟨n,h1,_⟩:=hval i _ (List.getElem?_eq_getElem hi)
        exact ⟨n,h1⟩]
       congr 2
       unfold bytesT
       congr 2
       refine List.ext_getElem? fun i=>?_
       rw [List.getElem?_map,List.getElem?_map]
       cases hx:us[i]? with
       | none=>
         have:m.length≤i:=by have:=List.getElem?_eq_none_iff.1 hx;omega
         rw [List.getElem?_eq_none this];rfl
       | some x=>
         obtain ⟨n,rfl,h2⟩:=hval i x hx
         rw [h2];rfl
    exact ⟨_,w,hrun,zM k2 k3.tr (zaZ rfl) k6⟩
   ·exact k6.elim
  ·exact k6.elim
 ·cases hk
 ·cases hk
theorem toBytes_sound (hc:CfgOk P c) (s:St P c.nt G own a w) {t t' e:TypeId} {d:Option Tmp} {v:AV} {u:Value} (hk:cvKind c t t'=.bytes e) (hu:isU8 c e=true) (hv:RV P G own w v u)
 (h:(toBytesGo c d v).wp CE G T (Kn P c.nt G own a w next)):∃ r w',(convert t t' u).run P w=.ok r w'∧next (a.put d r) w':=by
 unfold cvKind at hk
 split at hk
 ·cases hk
 ·rename_i hs ht
  cases hk
  have hue:∀ w,(underlying e).run P w=.ok (.int .u8) w:=by
   unfold isU8 at hu
   split at hu
   ·rename_i he
    exact (hc e _ he).run_und
   ·cases hu
  unfold toBytesGo at h
  split at h
  ·rename_i str
   have:=zbQ hv
   subst this
   obtain ⟨cap,w',h1,h2,h3,h4,h5,h6,h7,arr,fr,h8,h9⟩:=zfP (P:=P) (w:=w) e str
   have hrun:(convert t t' (.string str)).run P w=.ok (.slice (some ⟨w.heap.size,0,none⟩) str.size cap) w':=by
    simp only [convert,Sem.run_bind,(hc t _ hs).run_und,(hc t' _ ht).run_und,Result.andThen_ok,hue]
    exact h1
   obtain ⟨b,hb⟩:=fresh_key G
   obtain ⟨s2,t2⟩:=s.world (b:=b) (o:=0) (fun E l hl=>by simp [look,hb] at hl) (Nat.le_of_lt h3) (fun j hj _=>h4 j hj) h5 h6 h7
   suffices hR:RV P G own w' (.f (.sl (List.map zE (bytesOf str)))) (.slice (some ⟨w.heap.size,0,none⟩) str.size cap) from ⟨_,w',hrun,zM (U:=[]) s2 t2 hR h⟩
   refine ⟨rfl,?_⟩
   have hlen:(List.map zE (bytesOf str)).length=str.size:=by simp [bytesOf]
   have hown:own w.heap.size=none:=by
    cases ho:own w.heap.size with
    | none=>rfl
    | some x=>exact absurd (s.lt _ _ ho) (Nat.lt_irrefl _)
   have hel:∀ (i:Nat) x (j:Nat) y,(List.map zE (bytesOf str))[i]?=some x→x.cells[j]?=some y→∃ b:UInt8,j=0∧y=.pv (.int .u8 b.toNat)∧w'.cell? ⟨w.heap.size,0+(i * 1+j),none⟩=some (.int .u8 b.toNat):=by
    intro i x j y e1 e2
    rw [bytesOf,List.map_map,List.getElem?_map] at e1
    cases hb:str.data.toList[i]? with
    | none=>rw [hb] at e1;cases e1
    | some b=>
      rw [hb] at e1;cases e1
      cases j with
      | succ j=>simp [zE,FV.cells] at e2
      | zero=>
        simp [zE,FV.cells] at e2
        refine ⟨b,rfl,e2.symm,?_⟩
        simp only [World.cell?,h8,Nat.mul_one,Nat.add_zero,Nat.zero_add]
        exact h9 i b hb
   refine RF.sl _ _ _ _ ⟨w.heap.size,0,none⟩ 1 hlen.symm h2 (fun _=>⟨rfl,rfl,hown,h3⟩) ?_ ?_ ?_
   ·intro x hx
    obtain ⟨n,-,rfl⟩:=List.mem_map.1 hx
    rfl
   ·intro i x j y e1 e2
    obtain ⟨b,-,-,e3⟩:=hel i x j y e1 e2
    exact ⟨_,e3⟩
   ·intro i x j y v e1 e2 e3
    obtain ⟨b,-,rfl,e4⟩:=hel i x j y e1 e2
    rw [e4] at e3;cases e3
    exact .pv _ rfl
  ·exact h.elim
 ·cases hk
theorem op_conv (hc:CfgOk P c) (hF:∀ f,F.fn f) (s:St P c.nt G own a w) {t t':TypeId} {x:Operand} (ho:o.op=.convert t t' x)
 (h:(rdO x fun p=>convRM c o.dst t t' p).wp CE G T (Kn P c.nt G own a w next)):o.wpIn F n P a w next Q:=by
 cases hk:cvKind c t t' with
 | other=>
   exact op_convert hc hF s ho (CE:=CE) (T:=T) (by simpa only [convRM,hk] using h)
 | str e=>
   obtain ⟨v,T1,h1,h2⟩:=zG s h
   simp only [convRM,hk] at h2
   split at h2
   ·rename_i hu
    obtain ⟨r,w',r1,r2⟩:=toStr_sound hc s hk hu h1 h2
    refine zI hF (by simp [ho]) (u:=r) (w':=w') ?_ r2
    simp only [execOp,ho];rw [Sem.run_bind,r1];rfl
   ·exact h2.elim
 | bytes e=>
   obtain ⟨v,T1,h1,h2⟩:=zG s h
   simp only [convRM,hk] at h2
   split at h2
   ·rename_i hu
    obtain ⟨r,w',r1,r2⟩:=toBytes_sound hc s hk hu h1 h2
    refine zI hF (by simp [ho]) (u:=r) (w':=w') ?_ r2
    simp only [execOp,ho];rw [Sem.run_bind,r1];rfl
   ·exact h2.elim
theorem op_make (hc:CfgOk P c) (hF:∀ f,F.fn f) (s:St P c.nt G own a w) {t:TypeId} {x y:Operand} (ho:o.op=.makeSlice t x y)
 (h:(rdO x fun p=>rdO y fun q=>makeRM c o.dst t p q).wp CE G T (Kn P c.nt G own a w next)):o.wpIn F n P a w next Q:=by
 by_cases hno:noElem c t=true
 ·simp only [makeRM,hno,if_true] at h
  obtain ⟨v,T1,h1,h2⟩:=zG s h
  obtain ⟨v',T2,h3,h4⟩:=zG s h2
  unfold make0RM at h4
  split at h4
  ·rename_i k1 l k2 m E sz0 by0 z0 hti
   have hx:=zbQ h1
   have hy:=zbQ h3
   split at h4
   ·rename_i D sz by_ z hE
    split at h4
    ·rename_i hcond
     obtain ⟨g1,g2,g3,g4,g5,g6⟩:=hcond
     subst g1
     obtain ⟨zv,z1,z2⟩:=(hc E _ hE).run_zero w rfl
     have hszE:(sizeOf E).run P w=.ok sz w:=(hc E _ hE).run_size w
     have hesz:esz P E=sz:=(hc E _ hE).cells
     obtain ⟨f,hin,_,hfb⟩:=(hc E _ hE).run_info w
     have hfb:f.bytes=by_:=hfb
     have hzs:zv.cells.size=sz:=by rw [← (zdc (P:=P) (G:=G) (own:=own) (w:=w) (b:=0) z2).1];exact g6
     have hun:=(hc t _ hti).und
     obtain ⟨arr,harr⟩:∃ arr:Array Value,arr=if m.toNat * sz=0 then #[] else (Array.range (m.toNat * sz)).map (zv.cells[· % zv.cells.size]!):=⟨_,rfl⟩
     have hasz:arr.size=m.toNat * sz:=by rw [harr];split<;>simp_all
     have:=zcV (G:=G) (own':=own) (U:=[]) (w':=w.alloc (.cells arr E)) (cap:=m.toNat) (arr:=arr) s (Tr.refl _ _) (n0:=w.heap.size) (Nat.le_refl _) (by simp) (fun k hk=>za0 _ _ hk) rfl rfl rfl (zbi _ _)
      (by simp) (by rw [hesz,hasz];exact Nat.le_refl _) (fun x hx=>by simp at hx) (fun i x j yy e1 e2=>by simp at e1) h4
     refine zI hF (by simp [ho]) ?_ this
     have w1:=zd9 (Int.le_refl 0) (by omega)
     have w2:=zd9 g2 g3
     simp only [execOp,ho]
     rw [Sem.run_bind]
     have hrun:(Instr.makeSlice t (a.eval x) (a.eval y)).run P w=.ok (.slice (some ⟨w.heap.size,0,none⟩) 0 m.toNat) (w.alloc (.cells arr E)):=by
      have n1:¬ m < 0:=by omega
      have n2:¬ ((f.bytes:Int) * m > 2 ^ 48):=by rw [hfb];omega
      have n3:¬ (0:Int) < 0:=by omega
      have n4:¬ (0:Int) > m:=by omega
      by_cases h0:m.toNat * sz=0
      ·rw [if_pos h0] at harr;subst harr
       have he:∀ g:Nat→Value,(Array.range (m.toNat * sz)).map g=#[]:=fun g=>Array.eq_empty_of_size_eq_zero (by simp [h0])
       simp only [Instr.makeSlice,hx,hy,Sem.run_bind,run_underlying hun,Result.andThen_ok,asInt,asIntOf,Sem.run_pure,hin,w1,w2,n1,n2,n3,n4,decide_false,Bool.or_false,Bool.false_eq_true,if_false,run_askRoom,hszE,Sem.run_ite,if_pos h0,he]
       simp [newRow]
      ·rw [if_neg h0] at harr;subst harr
       simp only [Instr.makeSlice,hx,hy,Sem.run_bind,run_underlying hun,Result.andThen_ok,asInt,asIntOf,Sem.run_pure,hin,w1,w2,n1,n2,n3,n4,decide_false,Bool.or_false,Bool.false_eq_true,if_false,run_askRoom,hszE,Sem.run_ite,if_neg h0,z1]
       simp [newRow]
     rw [hrun];rfl
    ·exact h4.elim
   ·exact h4.elim
  ·exact h4.elim
 ·simp only [makeRM,hno] at h
  exact op_makeSlice hc hF s ho h
end
end Go.Ev
set_option linter.unusedVariables false
set_option linter.unusedSimpArgs false
namespace Go.Ev
open Go Go.RowKit
variable {P : Program}
section
variable {CE : CEx} {c : Cfg} {G : Sta} {own : Own} {a : Act} {w : World} {T : List Acc} {next : Act → World → Prop}
variable {F : Fence} {n : Nat} {o : Oper} {Q : Exit → Act → World → Prop}
theorem toList2 {α:Type} {l:Array α} {x y:α} (h:l.toList=[x,y]):l=#[x,y]:=by
 cases l with | mk l=>simp at h;rw [h]
theorem toList1 {α:Type} {l:Array α} {x:α} (h:l.toList=[x]):l=#[x]:=by
 cases l with | mk l=>simp at h;rw [h]
theorem op_builtin (hc:CfgOk P c) (hF:WideF P F) (s:St P c.nt G own a w) {b:Builtin} {args:Array Operand} {ats:Array TypeId} (ho:o.op=.call { callee:=.builtin b,args,argTypes:=ats })
 (h:(builtinRM c o.dst b ats.toList args.toList).wp CE G T (Kn P c.nt G own a w next)):o.wpIn F n P a w next Q:=by
 unfold builtinRM at h
 split at h
 ·rename_i x t hx ht
  rw [toList1 hx,toList1 ht] at ho
  exact op_len hc hF.fn s ho h
 ·rename_i x y t t2 hx ht
  rw [toList2 hx,toList2 ht] at ho
  exact op_append hc hF.fn s ho h
 ·rename_i x y t t2 hx ht
  rw [toList2 hx,toList2 ht] at ho
  exact op_copy hc hF.fn s ho h
 ·exact op_max (mx:=true) hF.fn s ho h
 ·exact op_max (mx:=false) hF.fn s ho h
 ·exact h.elim
theorem op_sound (hc:CfgOk P c) (hip:IpsOk P c) (hCE:∀ g args outs r outs',CE g args outs r outs'→CallE P g args outs r outs') (hF:WideF P F) (s:St P c.nt G own a w)
 (h:(opRM c o).wp CE G T (Kn P c.nt G own a w next)):o.wpIn F n P a w next Q:=by
 unfold opRM at h
 split at h
 ·exact op_move hF.fn s (by assumption) h
 ·exact op_assign hc hF.fn s (by assumption) h
 ·exact op_pick hF.fn s (by assumption) h
 ·exact op_alloc hc hF.fn s (by assumption) h
 ·exact op_boxN hF.fn s (by assumption) h
 ·exact op_build hc hF.fn s (by assumption) h
 ·exact op_buildSlice hc hF.fn s (by assumption) h
 ·exact op_load hc hF.fn s (by assumption) h
 ·split at h
  ·rename_i hd
   exact op_storeX hc hF.fn s (by assumption) (by simpa using hd) h
  ·exact h.elim
 ·exact op_nilCheck hF.fn s (by assumption) h
 ·exact op_binOp hc hF.fn s (by assumption) h
 ·exact op_unOp hF.fn s (by assumption) h
 ·exact op_conv hc hF.fn s (by assumption) h
 ·exact op_makeFunc hF.fn s (by assumption) h
 ·exact op_make hc hF.fn s (by assumption) h
 ·exact op_slice hc hF.fn s (by assumption) h
 ·exact op_fieldAddr hc hF.fn s (by assumption) h
 ·exact op_field hc hF.fn s (by assumption) h
 ·exact op_indexAddr hc hF.fn s (by assumption) h
 ·exact op_index hc hF.fn s (by assumption) h
 ·exact op_extract hF.fn s (by assumption) h
 ·exact op_builtin hc hF s (by assumption) h
 ·exact op_calls hip hCE hF s (by assumption) h
 ·exact h.elim
end
end Go.Ev
set_option linter.unusedVariables false
set_option linter.unusedSimpArgs false
namespace Go.Ev
open Go Go.RowKit
variable {P : Program}
section
variable {CE : CEx} {c : Cfg} {G : Sta} {own : Own} {a : Act} {w : World} {T : List Acc} {next : Act → World → Prop}
variable {F : Fence} {n : Nat} {Q : Exit → Act → World → Prop} {ops : Array Oper}
theorem yielded_of {tmps:Array Value} {j:Nat} {t:Tmp} {u:Value} (hd:(ops[j]?).bind (·.dst)=some t) (hu:tmps[t]?=some u):(∀ b,u=.bool b→yielded ops tmps j=some b)∧((∀ b,u≠.bool b)→yielded ops tmps j=none):=by
 unfold yielded
 rw [hd,Option.bind_some,hu]
 constructor
 ·rintro b rfl;rfl
 ·intro h;cases u<;>first | rfl | exact absurd rfl (h _)
theorem fin_undef {own:Own} (s:St P c.nt G own a w) {d:Option Tmp} (h:(fin c d [] (.tup [])).wp CE G T (Kn P c.nt G own a w next)):next (a.put d undef) w:=by
 refine zM (U:=[]) s (Tr.refl _ _) (v:=.tup []) ?_ h
 exact ⟨#[],rfl,rfl,fun j x v h=>by simp at h⟩
theorem step_sound (hc:CfgOk P c) (hip:IpsOk P c) (hCE:∀ g args outs r outs',CE g args outs r outs'→CallE P g args outs r outs') (hF:WideF P F) (s:St P c.nt G own a w) {i:Nat}
 (h:(stepRM c ops i).wp CE G T (Kn P c.nt G own a w next)):wpOpIn F n P ops Q i next a w:=by
 unfold wpOpIn
 unfold stepRM at h
 split at h
 ·rename_i ho;rw [ho];exact h own a w s (Tr.refl _ _) rfl
 ·rename_i o ho
  rw [ho]
  simp only
  split at h
  ·rename_i hg
   rw [if_pos (by simp [Region.wanted,hg])]
   exact op_sound hc hip hCE hF s h
  ·rename_i j want hg
   split at h
   ·exact h.elim
   ·rename_i t hd
    obtain ⟨v,T1,h1,h2⟩:=za9 h
    obtain ⟨u,hu,hr⟩:=s.temps t v h1
    have hy:=yielded_of hd hu
    split at h2
    ·rename_i b
     have hub:u=.bool b:=zbQ (P:=P) (G:=G) (own:=own) (w:=w) hr
     subst hub
     split at h2
     ·rename_i hb;subst hb
      rw [if_pos (by simp [Region.wanted,hg,hy.1 _ rfl])]
      exact op_sound hc hip hCE hF s h2
     ·rename_i hb
      rw [if_neg (by simp [Region.wanted,hg,hy.1 _ rfl,hb])]
      exact ⟨fun f _=>hF.fn f,fin_undef s h2⟩
    ·obtain ⟨arr,e1,e2,_⟩:=hr
     have:arr=#[]:=Array.eq_empty_of_size_eq_zero (by simpa using e2.symm)
     subst this;subst e1
     rw [if_neg (by simp [Region.wanted,hg,hy.2 (by simp)])]
     exact ⟨fun f _=>hF.fn f,fin_undef s h2⟩
    ·exact h2.elim
theorem zdd (hc:CfgOk P c) (hip:IpsOk P c) (hCE:∀ g args outs r outs',CE g args outs r outs'→CallE P g args outs r outs') (hF:WideF P F) (s:St P c.nt G own a w) {y:Ent}
 (h:(stepRM c ops y.i).wp CE G [] (fun U' T'=>U'=y.U∧T'=y.T)) (hn:∀ own' a' w',St P c.nt (app y.U G) own' a' w'→Tr own w own' w'→a'.defers=a.defers→next a' w'):wpOpIn F n P ops Q y.i next a w:=by
 refine step_sound hc hip hCE hF s (RM.wp_mono ?_ _ _ h)
 rintro U T ⟨rfl,_⟩
 exact hn
theorem runs_text (hc:CfgOk P c) (hip:IpsOk P c) (hCE:∀ g args outs r outs',CE g args outs r outs'→CallE P g args outs r outs') (hF:WideF P F):∀ (es:List Ent) {G G':Sta} {own:Own} {a:Act} {w:World},
 St P c.nt G own a w→Runs CE (stepRM c ops) es G G'→(∀ own' a' w',St P c.nt G' own' a' w'→Tr own w own' w'→a'.defers=a.defers→Q .normal a' w')→wpOpsIn F n P ops Q (es.map (·.i)) a w
 | [],G,G',own,a,w,s,h,hq=>by
   have:G=G':=h
   subst this
   exact hq own a w s (Tr.refl _ _) rfl
 | y :: es,G,G',own,a,w,s,h,hq=>by
   rw [List.map_cons,wpOpsIn_cons]
   refine zdd hc hip hCE hF s h.1 fun own' a' w' s' t' d'=>?_
   exact runs_text hc hip hCE hF es s' h.2 fun own2 a2 w2 s2 t2 d2=>hq own2 a2 w2 s2 (t'.trans t2) (d2.trans d')
def anc (ops:Array Oper):Nat→Nat→Nat→Bool
 | 0,_,_=>false
 | f+1,j,i=>match ops[i]? with
   | none=>false
   | some o=>o.after.toList.any fun e=>Region.binds .any e && (e.on == j || anc ops f j e.on)
def topo (ops:Array Oper):Bool:=
 (List.range ops.size).all fun i=>match ops[i]? with
   | none=>true
   | some o=>o.after.toList.all fun e=>!Region.binds .any e || decide (e.on < i)
theorem topo_spec (h:topo ops=true) {i:Nat} {o:Oper} (ho:ops[i]?=some o) {e:Edge} (he:e∈o.after) (hb:Region.binds .any e=true):e.on < i:=by
 have hx:i < ops.size:=(Array.getElem?_eq_some_iff.1 ho).1
 have h1:=List.all_eq_true.1 h i (List.mem_range.2 hx)
 rw [ho] at h1
 have h2:=List.all_eq_true.1 h1 e (Array.mem_toList_iff.2 he)
 simp only [hb,Bool.not_true,Bool.false_or,decide_eq_true_eq] at h2
 exact h2
def Closed (ops:Array Oper) (listed:Array Bool):Prop:=
 ∀ i o,ops[i]?=some o→listed.getD i true=true→∀ e∈o.after,Region.binds .any e=true→listed.getD e.on false=true
theorem zf7 {listed:Array Bool} (hsz:listed.size=ops.size) (hcl:Closed ops listed):∀ (f j i:Nat),anc ops f j i=true→(∀ o,ops[i]?=some o→∀ e∈o.after,Region.binds .any e=true→listed.getD e.on false=true)→listed.getD j false=true
 | 0,_,_,h,_=>by simp [anc] at h
 | f+1,j,i,h,hi=>by
   simp only [anc] at h
   split at h
   ·cases h
   ·rename_i o ho
    obtain ⟨e,he,hh⟩:=List.any_eq_true.1 h
    have he:=Array.mem_toList_iff.1 he
    simp only [Bool.and_eq_true,Bool.or_eq_true,beq_iff_eq] at hh
    obtain ⟨hb,hh⟩:=hh
    have hl:=hi o ho e he hb
    rcases hh with rfl | hh
    ·exact hl
    ·refine zf7 hsz hcl f j e.on hh fun o' ho' e' he' hb'=>hcl e.on o' ho' ?_ e' he' hb'
     have:e.on < listed.size:=by
      rcases Nat.lt_or_ge e.on listed.size with h | h
      ·exact h
      ·simp [Array.getElem?_eq_none h] at hl
     simpa [this] using hl
def entOk (ops:Array Oper):List Ent→Prop
 | []=>True
 | x :: r=>(∀ y∈r,anc ops ops.size x.i y.i=false→x.ind y)∧entOk ops r
theorem entOk.mid:∀ {p:List Ent} {y:Ent} {r:List Ent},entOk ops (p++y :: r)→(∀ x∈p,anc ops ops.size x.i y.i=false→x.ind y)∧entOk ops (p++r)
 | [],y,r,h=>⟨fun x hx=>by simp at hx,h.2⟩
 | x :: p,y,r,h=>by
   obtain ⟨h1,h2⟩:=h
   obtain ⟨h3,h4⟩:=entOk.mid h2
   refine ⟨fun z hz=>?_,fun z hz=>h1 z ?_,h4⟩
   ·rcases List.mem_cons.1 hz with rfl | hz
    ·exact h1 y (by simp)
    ·exact h3 z hz
   ·have hz:z∈p++r:=hz
    show z∈p++y :: r
    rcases List.mem_append.1 hz with hz | hz
    ·exact List.mem_append_left _ hz
    ·exact List.mem_append_right _ (List.mem_cons_of_mem _ hz)
theorem runs_any (hc:CfgOk P c) (hip:IpsOk P c) (hCE:∀ g args outs r outs',CE g args outs r outs'→CallE P g args outs r outs') (hF:WideF P F) (htopo:topo ops=true):∀ (fuel:Nat) (es:List Ent) {listed:Array Bool} {G G':Sta} {own:Own} {a:Act} {w:World},
 es.length≤fuel→listed.size=ops.size→Closed ops listed→(∀ i,i < ops.size→(listed.getD i true=false↔i∈es.map (·.i)))→(∀ x∈es,x.i < ops.size)→(es.map (·.i)).Pairwise (· < ·)→entOk ops es→
 St P c.nt G own a w→Runs CE (stepRM c ops) es G G'→(∀ own' a' w',St P c.nt G' own' a' w'→Tr own w own' w'→a'.defers=a.defers→Q .normal a' w')→wpAnyIn F n P .any ops Q fuel listed a w:=by
 have done:∀ {es:List Ent} {listed:Array Bool} {G G':Sta} {own:Own} {a:Act} {w:World},es=[]→St P c.nt G own a w→Runs CE (stepRM c ops) es G G'→
  (∀ own' a' w',St P c.nt G' own' a' w'→Tr own w own' w'→a'.defers=a.defers→Q .normal a' w')→Q .normal a w:=by
  intro es listed G G' own a w he s h hq
  subst he
  have:G=G':=h
  subst this
  exact hq own a w s (Tr.refl _ _) rfl
 have empty:∀ {es:List Ent} {listed:Array Bool},listed.size=ops.size→(∀ i,i < ops.size→(listed.getD i true=false↔i∈es.map (·.i)))→(∀ x∈es,x.i < ops.size)→(es.map (·.i)).Pairwise (· < ·)→Region.ready .any ops listed=[]→es=[]:=by
  intro es listed hsz hl hlt hs hr
  cases es with
  | nil=>rfl
  | cons x es=>
    exfalso
    have hx:=hlt x (List.mem_cons_self ..)
    have:x.i∈Region.ready .any ops listed:=by
     rw [mem_ready]
     refine ⟨(hl x.i hx).2 (by simp),ops[x.i],by simp [hx],fun e he hb=>?_⟩
     have h2:e.on < x.i:=topo_spec htopo (o:=ops[x.i]) (by simp [hx]) he hb
     cases hle:listed.getD e.on false with
     | true=>rfl
     | false=>
       have hlt2:e.on < ops.size:=by omega
       have:listed.getD e.on true=false:=by
        simp only [Array.getD_eq_getD_getElem?,Array.getElem?_eq_getElem (show e.on < listed.size by omega),Option.getD_some] at hle ⊢;exact hle
       have:=(hl e.on hlt2).1 this
       simp only [List.map_cons,List.mem_cons] at this
       rw [List.map_cons,List.pairwise_cons] at hs
       rcases this with h | h
       ·omega
       ·have:=hs.1 _ h;omega
    rw [hr] at this;cases this
 intro fuel
 induction fuel with
 | zero=>
   intro es listed G G' own a w hf hsz hcl hl hlt hs hok s h hq
   have he:es=[]:=List.length_eq_zero_iff.1 (by omega)
   refine ⟨?_,done (listed:=listed) he s h hq⟩
   subst he
   cases hr:Region.ready .any ops listed with
   | nil=>rfl
   | cons i r=>
     have:i∈Region.ready .any ops listed:=by rw [hr];exact List.mem_cons_self ..
     obtain ⟨h1,o,ho,_⟩:=mem_ready.1 this
     have hi:i < ops.size:=(Array.getElem?_eq_some_iff.1 ho).1
     have:=(hl i hi).1 h1
     simp at this
 | succ fuel ih=>
   intro es listed G G' own a w hf hsz hcl hl hlt hs hok s h hq
   refine ⟨fun hr=>done (listed:=listed) (empty hsz hl hlt hs hr) s h hq,fun i hi=>?_⟩
   obtain ⟨h1,o,ho,hready⟩:=mem_ready.1 hi
   have hilt:i < ops.size:=(Array.getElem?_eq_some_iff.1 ho).1
   have hmem:=(hl i hilt).1 h1
   obtain ⟨y,hy,rfl⟩:=List.mem_map.1 hmem
   obtain ⟨p,r,rfl⟩:=List.append_of_mem hy
   obtain ⟨hm1,hm2⟩:=entOk.mid hok
   have hpair:∀ x∈p,x.i < y.i:=by
    intro x hx
    rw [List.map_append,List.pairwise_append] at hs
    exact hs.2.2 x.i (List.mem_map.2 ⟨x,hx,rfl⟩) y.i (by simp)
   have hind:∀ x∈p,x.ind y:=by
    intro x hx
    refine hm1 x hx ?_
    cases ha:anc ops ops.size x.i y.i with
    | false=>rfl
    | true=>
      have hxl:=zf7 hsz hcl ops.size x.i y.i ha (fun o' ho' e he hb=>by rw [ho] at ho';cases ho';exact hready e he hb)
      have hxlt:=hlt x (List.mem_append_left _ hx)
      have:listed.getD x.i true=false:=(hl x.i hxlt).2 (by simp [List.mem_map];exact .inl ⟨x,hx,rfl⟩)
      simp only [Array.getD_eq_getD_getElem?,Array.getElem?_eq_getElem (show x.i < listed.size by omega),Option.getD_some] at hxl this
      rw [hxl] at this;cases this
   obtain ⟨r1,r2⟩:=Runs.front hind h
   refine zdd hc hip hCE hF s r1 fun own' a' w' s' t' d'=>?_
   have hsub:(p++r).Sublist (p++y :: r):=List.Sublist.append (List.Sublist.refl _) (List.sublist_cons_self _ _)
   have hnotin:∀ z∈p++r,z.i≠y.i:=by
    intro z hz
    rw [List.map_append,List.map_cons,List.pairwise_append,List.pairwise_cons] at hs
    rcases List.mem_append.1 hz with h | h
    ·have:=hpair z h;omega
    ·have:=hs.2.1.1 z.i (List.mem_map.2 ⟨z,h,rfl⟩);omega
   refine ih (p++r) ?_ (by simpa using hsz) ?_ ?_ (fun x hx=>hlt x (hsub.mem hx)) (hs.sublist (hsub.map _)) hm2 s' r2 fun own2 a2 w2 s2 t2 d2=>hq own2 a2 w2 s2 (t'.trans t2) (d2.trans d')
   ·simp only [List.length_append,List.length_cons] at hf ⊢;omega
   ·intro j o' ho' hj e he hb
    have hlst:listed.getD e.on false=true→(listed.setIfInBounds y.i true).getD e.on false=true:=fun h=>getD_set_true h
    by_cases hjy:y.i=j
    ·subst hjy
     rw [ho] at ho';cases ho'
     exact hlst (hready e he hb)
    ·rw [getD_set_ne true hjy] at hj
     exact hlst (hcl j o' ho' hj e he hb)
   ·intro j hj
    by_cases hjy:y.i=j
    ·subst hjy
     have:(listed.setIfInBounds y.i true).getD y.i true=true:=by
      simp [Array.getD_eq_getD_getElem?,Array.getElem?_setIfInBounds,show y.i < listed.size by omega]
     rw [this]
     simp only [Bool.true_eq_false,false_iff]
     intro hmem
     obtain ⟨z,hz,e⟩:=List.mem_map.1 hmem
     exact hnotin z hz e
    ·rw [getD_set_ne true hjy,hl j hj]
     simp only [List.map_append,List.map_cons,List.mem_append,List.mem_cons]
     constructor
     ·rintro (h | h | h)
      ·exact .inl h
      ·exact absurd h.symm hjy
      ·exact .inr h
     ·rintro (h | h)
      ·exact .inl h
      ·exact .inr (.inr h)
end
end Go.Ev
set_option linter.unusedVariables false
set_option linter.unusedSimpArgs false
namespace Go.Ev
open Go Go.RowKit
variable {P : Program}
def RM.wq (CE:CEx) (G:Sta):RM→(List Up→Prop)→Prop
 | .ret U,K=>K U
 | .fail,_=>False
 | .ask b o k,K=>match look G b o with
   | some v=>v.ok=true∧(k v).wq CE G K
   | none=>False
 | .peek b k,K=>match get G b with
   | some v=>(k v.leaves.length).wq CE G K
   | none=>False
 | .call g args outs k,K=>∃ r outs',CE g args outs r outs'∧(k r outs').wq CE G K
theorem RM.wq_wp {CE:CEx} {G:Sta} {K:List Up→Prop}:∀ (m:RM) (T:List Acc),m.wq CE G K→m.wp CE G T fun U _=>K U
 | .ret U,T,h=>h
 | .fail,T,h=>h
 | .ask b o k,T,h=>by
   simp only [RM.wq] at h
   split at h
   ·rename_i v hv;exact ⟨v,hv,h.1,RM.wq_wp _ _ h.2⟩
   ·exact h.elim
 | .peek b k,T,h=>by
   simp only [RM.wq] at h
   split at h
   ·rename_i v hv;exact ⟨v,hv,RM.wq_wp _ _ h⟩
   ·exact h.elim
 | .call g args outs k,T,h=>by
   obtain ⟨r,o,h1,h2⟩:=h
   exact ⟨r,o,h1,RM.wq_wp _ _ h2⟩
def guardRM (c:Cfg) (ops:Array Oper) (o:Oper):RM:=
 match o.guard with
 | none=>opRM c o
 | some (j,want)=>match (ops[j]?).bind (·.dst) with
   | none=>.fail
   | some t=>.ask (tb t) none fun v=>match v with
     | .f (.pv (.bool b))=>if b=want then opRM c o else fin c o.dst [] (.tup [])
     | .tup []=>fin c o.dst [] (.tup [])
     | _=>.fail
theorem zfM {c:Cfg} {ops:Array Oper} {i:Nat} {o:Oper} (h:ops[i]?=some o):stepRM c ops i=guardRM c ops o:=by
 simp only [stepRM,h];rfl
structure Lg where
 i:Nat
 R:List Acc
 W:List Acc
def Ent.lg (x:Ent):Lg:=⟨x.i,x.reads,Ups.writes x.U⟩
section
variable {CE : CEx} {c : Cfg} {ops : Array Oper}
end
def apartB (A B:List Acc):Bool:=A.all fun a=>B.all fun b=>!a.meets b
theorem zhX {A B:List Acc} (h:apartB A B=true):Apart A B:=by
 intro a ha b hb
 have:=List.all_eq_true.1 (List.all_eq_true.1 h a ha) b hb
 simpa using this
def indB (x y:Ent):Bool:=apartB (x.reads++Ups.writes x.U) (Ups.writes y.U) && apartB y.reads (Ups.writes x.U)
theorem indB_spec {x y:Ent} (h:indB x y=true):x.ind y:=by
 simp only [indB,Bool.and_eq_true] at h
 exact ⟨zhX h.1,zhX h.2⟩
def ancOk (ops:Array Oper) (tab:List (List Nat)):Bool:=
 (List.range ops.size).all fun i=>(tab.getD i []).all fun j=>match ops[i]? with
   | none=>false
   | some o=>o.after.toList.any fun e=>Region.binds .any e && (e.on == j || (tab.getD e.on []).contains j)
def ancT (tab:List (List Nat)) (j i:Nat):Bool:=(tab.getD i []).contains j
theorem zf8 {ops:Array Oper} {tab:List (List Nat)} (htopo:topo ops=true) (h:ancOk ops tab=true):∀ (f i j:Nat),i < f→i < ops.size→ancT tab j i=true→anc ops f j i=true
 | 0,i,j,hf,_,_=>absurd hf (Nat.not_lt_zero _)
 | f+1,i,j,hf,hi,ht=>by
   have h1:=List.all_eq_true.1 h i (List.mem_range.2 hi)
   have h2:=List.all_eq_true.1 h1 j (by simpa [ancT] using ht)
   obtain ⟨o,ho⟩:∃ o,ops[i]?=some o:=⟨ops[i],by simp [hi]⟩
   rw [ho] at h2
   simp only [anc,ho]
   obtain ⟨e,he',hh⟩:=List.any_eq_true.1 h2
   have he:=Array.mem_toList_iff.1 he'
   simp only [Bool.and_eq_true,Bool.or_eq_true,beq_iff_eq] at hh
   refine List.any_eq_true.2 ⟨e,he',?_⟩
   simp only [Bool.and_eq_true,Bool.or_eq_true,beq_iff_eq]
   have hlt:=topo_spec htopo ho he hh.1
   exact ⟨hh.1,hh.2.imp id fun h3=>zf8 htopo h f e.on j (by omega) (by omega) h3⟩
def lgOk (x y:Lg):Bool:=apartB (x.R++x.W) y.W && apartB y.R x.W
def logOk (tab:List (List Nat)):List Lg→Bool
 | []=>true
 | x :: r=>r.all (fun y=>ancT tab x.i y.i || lgOk x y) && logOk tab r
def entOkB (tab:List (List Nat)) (es:List Ent):Bool:=logOk tab (es.map Ent.lg)
theorem zhJ {ops:Array Oper} {tab:List (List Nat)} (htopo:topo ops=true) (h:ancOk ops tab=true):∀ {es:List Ent},(∀ x∈es,x.i < ops.size)→entOkB tab es=true→entOk ops es
 | [],_,_=>trivial
 | x :: r,hlt,hes=>by
   simp only [entOkB,List.map_cons,logOk,Bool.and_eq_true] at hes
   refine ⟨fun y hy hn=>?_,zhJ htopo h (fun z hz=>hlt z (List.mem_cons_of_mem _ hz)) hes.2⟩
   have:=List.all_eq_true.1 hes.1 y.lg (List.mem_map.2 ⟨y,hy,rfl⟩)
   simp only [Bool.or_eq_true] at this
   rcases this with h1 | h1
   ·have hy:=hlt y (List.mem_cons_of_mem _ hy)
    rw [zf8 htopo h ops.size y.i x.i hy hy h1] at hn;cases hn
   ·exact indB_spec h1
def dropN (dead:Nat→Bool):Sta→Sta
 | []=>[]
 | (b,v) :: r=>if dead b=true then dropN dead r else (b,v) :: dropN dead r
theorem zdT {dead:Nat→Bool} {b:Nat}:∀ {G:Sta},get (dropN dead G) b=if dead b=true then none else get G b
 | []=>by simp [dropN,get]
 | (c,v) :: r=>by
   have ih:=zdT (dead:=dead) (b:=b) (G:=r)
   simp only [dropN]
   by_cases hc:dead c=true
   ·rw [if_pos hc,ih]
    by_cases hb:dead b=true
    ·rw [if_pos hb,if_pos hb]
    ·rw [if_neg hb,if_neg hb]
     have:b≠c:=fun e=>hb (by rw [e];exact hc)
     simp [get,this]
   ·rw [if_neg hc]
    simp only [get]
    by_cases hbc:b=c
    ·subst hbc;rw [if_pos rfl,if_neg hc,if_pos rfl]
    ·rw [if_neg hbc,ih,if_neg hbc]
theorem zio {dead:Nat→Bool} {b:Nat} {o:Option Nat} {G:Sta}:look (dropN dead G) b o=if dead b=true then none else look G b o:=by
 cases o with
 | none=>exact zdT
 | some o=>
   simp only [look,zdT]
   split<;>rfl
section
variable {nt : Nat} {G : Sta} {own : Own} {a : Act} {w : World}
theorem zgQ {dead:Nat→Bool} {b o i n:Nat} {u:Value} (h:SlV P G own w b o i n u):SlV P (dropN dead G) own w b o i n u:=by
 unfold SlV at h ⊢
 rw [zio]
 by_cases hd:dead b=true
 ·rw [if_pos hd];trivial
 ·rw [if_neg hd];exact h
theorem zg2 {dead:Nat→Bool} {b o i n:Nat} {u:Value} (h:EpV P G own w b o i n u):EpV P (dropN dead G) own w b o i n u:=by
 unfold EpV at h ⊢
 rw [zio]
 by_cases hd:dead b=true
 ·rw [if_pos hd];trivial
 ·rw [if_neg hd];exact h
theorem r0_drop {dead:Nat→Bool} {v:AV} {u:Value} (h:R0 P G own w v u):R0 P (dropN dead G) own w v u:=by
 cases v with
 | rf b o i n=>exact zgQ h
 | ep b o i n=>exact zg2 h
 | _=>exact h
theorem ro_drop {dead:Nat→Bool} {b o:Nat} {v:AV} {u:Value} (h:RO P G own w b o v u):RO P (dropN dead G) own w b o v u:=by
 cases v with
 | rf b o i n=>exact zgQ h
 | ep b o i n=>exact zg2 h
 | _=>exact h
theorem r1_drop {dead:Nat→Bool} {v:AV} {u:Value} (h:R1 P G own w v u):R1 P (dropN dead G) own w v u:=by
 cases v with
 | agg l=>obtain ⟨arr,e1,e2,e3⟩:=h;exact ⟨arr,e1,e2,fun j x y h1 h2=>r0_drop (e3 j x y h1 h2)⟩
 | rf b o i n=>exact zgQ h
 | ep b o i n=>exact zg2 h
 | _=>exact h
theorem rl_drop {dead:Nat→Bool} {b:Nat} {v:AV} {u:Value} (h:RL P G own w b v u):RL P (dropN dead G) own w b v u:=by
 cases v with
 | agg l=>obtain ⟨arr,e1,e2,e3⟩:=h;exact ⟨arr,e1,e2,fun j x y h1 h2=>ro_drop (e3 j x y h1 h2)⟩
 | tup l=>obtain ⟨arr,e1,e2,e3⟩:=h;exact ⟨arr,e1,e2,fun j x y h1 h2=>r1_drop (e3 j x y h1 h2)⟩
 | rf b o i n=>exact zgQ h
 | ep b o i n=>exact zg2 h
 | _=>exact h
theorem rb_drop {dead:Nat→Bool} {b:Nat} {v:AV} {arr:Array Value} (h:RB P G own w b v arr):RB P (dropN dead G) own w b v arr:=
 ⟨h.1,fun j x u h1 h2=>ro_drop (h.2 j x u h1 h2)⟩
theorem St.drop (s:St P nt G own a w) (dead:Nat→Bool):St P nt (dropN dead G) own a w:=by
 refine ⟨s.size,fun t v h=>?_,fun b v hb h=>?_,s.one,s.lt⟩
 ·rw [zdT] at h
  split at h
  ·cases h
  ·obtain ⟨u,h1,h2⟩:=s.temps t v h;exact ⟨u,h1,rl_drop h2⟩
 ·rw [zdT] at h
  split at h
  ·cases h
  ·obtain ⟨k,arr,T,h1,h2,h3⟩:=s.boxes b v hb h;exact ⟨k,arr,T,h1,h2,rb_drop h3⟩
end
inductive Ex where
 | normal
 | exit (id:Nat)
 | ret
def Ex.to:Ex→Exit
 | .normal=>.normal
 | .exit id=>.exit id
 | .ret=>.ret
def seqK (K:Ex→Sta→Prop) (N:Sta→Prop):Ex→Sta→Prop
 | .normal,G=>N G
 | e,G=>K e G
def blockK (id:Nat) (K:Ex→Sta→Prop):Ex→Sta→Prop
 | .exit j,G=>if j=id then K .normal G else K (.exit j) G
 | e,G=>K e G
end Go.Ev
set_option linter.unusedVariables false
set_option linter.unusedSimpArgs false
namespace Go.Ev
open Go Go.RowKit
variable {P : Program}
def entry:Nat→List AV→List AV→Sta
 | i,x :: xs,v :: vs=>(tb i,x) :: (ob i,v) :: entry (i+1) xs vs
 | i,x :: xs,[]=>(tb i,x) :: entry (i+1) xs []
 | i,[],v :: vs=>(ob i,v) :: entry (i+1) [] vs
 | _,[],[]=>[]
theorem zdS (b:Nat):∀ (i:Nat) (xs vs:List AV) (v:AV),get (entry i xs vs) b=some v→(∃ j,b=tb (i+j)∧xs[j]?=some v)∨(∃ j,b=ob (i+j)∧vs[j]?=some v)
 | i,x :: xs,y :: vs,v,h=>by
   simp only [entry,get] at h
   split at h
   ·rename_i e;cases h;exact .inl ⟨0,e,rfl⟩
   ·split at h
    ·rename_i e;cases h;exact .inr ⟨0,e,rfl⟩
    ·rcases zdS b (i+1) xs vs v h with ⟨j,e1,e2⟩ | ⟨j,e1,e2⟩
     ·exact .inl ⟨j+1,by rw [e1];congr 1;omega,by simpa using e2⟩
     ·exact .inr ⟨j+1,by rw [e1];congr 1;omega,by simpa using e2⟩
 | i,x :: xs,[],v,h=>by
   simp only [entry,get] at h
   split at h
   ·rename_i e;cases h;exact .inl ⟨0,e,rfl⟩
   ·rcases zdS b (i+1) xs [] v h with ⟨j,e1,e2⟩ | ⟨j,e1,e2⟩
    ·exact .inl ⟨j+1,by rw [e1];congr 1;omega,by simpa using e2⟩
    ·simp at e2
 | i,[],y :: vs,v,h=>by
   simp only [entry,get] at h
   split at h
   ·rename_i e;cases h;exact .inr ⟨0,e,rfl⟩
   ·rcases zdS b (i+1) [] vs v h with ⟨j,e1,e2⟩ | ⟨j,e1,e2⟩
    ·simp at e2
    ·exact .inr ⟨j+1,by rw [e1];congr 1;omega,by simpa using e2⟩
 | _,[],[],v,h=>by simp [entry,get] at h
section
variable {G G' : Sta} {own own' : Own} {w : World}
theorem shut0_r0 {v:AV} {u:Value} (hv:shut0 false (fun _=>true) v=true) (h:R0 P G own w v u):R0 P G' own w v u:=by
 cases v<;>first | exact h | simp [shut0,capIn] at hv
theorem shut1_r1 {v:AV} {u:Value} (hv:shut1 false (fun _=>true) v=true) (h:R1 P G own w v u):R1 P G' own w v u:=by
 rcases zbZ (f:=id) hv with ⟨l,rfl,h1⟩ | ⟨h1,h2,_,_⟩
 ·obtain ⟨arr,e1,e2,e3⟩:=h
  exact ⟨arr,e1,e2,fun j x y q1 q2=>shut0_r0 (List.all_eq_true.1 h1 x (List.mem_of_getElem? q1)) (e3 j x y q1 q2)⟩
 ·rw [r1_r0 (zW h2).1] at h ⊢
  exact shut0_r0 h1 h
theorem shut0_ro {b o:Nat} {v:AV} {u:Value} (hv:shut0 true (fun _=>true) v=true) (h:RO P G own w b o v u):RO P G' own w b o v u:=by
 cases v<;>first | exact h | simp [shut0,capIn] at hv
theorem r1_rl {b:Nat} {v:AV} {u:Value} (h:R1 P G own w v u) (hv:∀ l,v≠.tup l):RL P G own w b v u:=by
 refine RV.at ?_
 cases v<;>first | exact h | exact absurd rfl (hv _)
end
theorem st_entry {nt:Nat} {own:Own} {w:World} {args outs:List AV} {vs:Array Value} (hlen:args.length≤nt) (ha:args.all (shut1 false fun _=>true)=true) (ho:outs.all (shut1 true fun _=>true)=true)
 (hO:Outs P own w outs) (hA:Args P own w args vs):St P nt (entry 0 args outs) own { tmps:=vs++Array.replicate (nt - vs.size) undef,defers:=[] } w:=by
 have hsz:=hA.1
 refine ⟨by simp;omega,fun t v h=>?_,fun b v hb h=>?_,hO.one,hO.lt⟩
 ·rcases zdS _ _ _ _ _ h with ⟨j,e1,e2⟩ | ⟨j,e1,e2⟩
  ·have:t=j:=by have:=tb_inj e1;omega
   subst this
   have hlt:t < vs.size:=by have:=(List.getElem?_eq_some_iff.1 e2).1;omega
   have hs:=List.all_eq_true.1 ha v (List.mem_of_getElem? e2)
   refine ⟨vs[t],by rw [Array.getElem?_append_left hlt];simp [hlt],r1_rl (shut1_r1 hs (hA.2 t v _ e2 (by simp [hlt]))) ?_⟩
   intro l e;subst e;simp [shut1,shut0,capIn] at hs
  ·exfalso;simp only [tb,ob] at e1;omega
 ·rcases zdS _ _ _ _ _ h with ⟨j,e1,e2⟩ | ⟨j,e1,e2⟩
  ·subst e1;simp [tb] at hb
  ·rw [Nat.zero_add] at e1;subst e1
   obtain ⟨k,arr,T,h1,h2,h3⟩:=hO.boxes j v e2
   have hs:=List.all_eq_true.1 ho v (List.mem_of_getElem? e2)
   exact ⟨k,arr,T,h1,h2,h3.1,fun i x u q1 q2=>shut0_ro ((zdh (f:=id) hs).2 x (List.mem_of_getElem? q1)) (h3.2 i x u q1 q2)⟩
def res1 (q:Nat) (v:AV):RM:=
 match v with
 | .own E l=>.ret [.set 0 (.own E l)]
 | .agg l=>cpoL l fun l U=>if U.all (frzOff q)=true then .ret (.set 0 (.agg l) :: U) else .fail
 | v=>cp v fun x U=>.ret (.set 0 x :: U)
def cellFits (i:TI):AV→Bool
 | .agg l=>isAggD i.desc && l.length == i.size
 | .tup _=>false
 | _=>!isAggD i.desc
def cellR (c:Cfg) (a:Tmp) (T:TypeId) (k:Nat→AV→RM):RM:=
 .ask (tb a) none fun p=>match p,c.ti T with
  | .ptr b 0,some i=>if b % 3=2 then .ask b none fun v=>if cellFits i v=true then k b v else .fail else .fail
  | _,_=>.fail
def rdR (c:Cfg) (r:ResultVar) (k:AV→RM):RM:=
 match r with
 | .tmp t=>.ask (tb t) none fun v=>k (vw (tb t) v)
 | .cell a T=>cellR c a T fun b v=>k (vw b v)
def rdRs (c:Cfg):List ResultVar→(List AV→RM)→RM
 | [],k=>k []
 | r :: rs,k=>rdR c r fun v=>rdRs c rs fun l=>k (v :: l)
def resRM (c:Cfg):List ResultVar→RM
 | [.tmp t]=>.ask (tb t) none (res1 (tb t))
 | [.cell a T]=>cellR c a T res1
 | rs=>rdRs c rs fun vs=>cps vs fun xs U=>.ret (.set 0 (.tup xs) :: U)
def outsOf:Nat→Nat→Sta→(List AV→Prop)→Prop
 | 0,_,_,K=>K []
 | n+1,i,G,K=>∃ v,get G (ob i)=some v∧outsOf n (i+1) G fun l=>K (v :: l)
theorem zdk {G:Sta}:∀ {n i:Nat} {K:List AV→Prop},outsOf n i G K→∃ l,K l∧∀ (j:Nat) v,l[j]?=some v→get G (ob (i+j))=some v
 | 0,i,K,h=>⟨[],h,fun j v h=>by simp at h⟩
 | n+1,i,K,h=>by
   obtain ⟨v,h1,h2⟩:=h
   obtain ⟨l,h3,h4⟩:=zdk h2
   refine ⟨v :: l,h3,fun j x hx=>?_⟩
   cases j with
   | zero=>simp at hx;subst hx;exact h1
   | succ j=>simp at hx;rw [← h4 j x hx];congr 2;omega
def endU (n:Nat) (R:AV→List AV→Prop) (G:Sta):List Up→Prop
 | .set _ x :: W=>outsOf n 0 (app W G) (R x)
 | _=>False
def endK (CE:CEx) (c:Cfg) (rs:List ResultVar) (n:Nat) (R:AV→List AV→Prop):Ex→Sta→Prop
 | .exit _,_=>False
 | _,G=>(resRM c rs).wq CE G (endU n R G)
def resOwn (b:Nat) (own:Own):Own:=fun k=>
 match own k with
 | some (.sl c j)=>if c=b then some (.sl 0 j) else if c=0 then none else some (.sl c j)
 | x=>x
section
variable {own : Own} {w : World} {b : Nat}
theorem zec {k c:Nat}:own k=some (.box c)→resOwn b own k=some (.box c):=by intro h;simp only [resOwn,h]
theorem zdg {k:Nat} (h:own k=none):resOwn b own k=none:=by simp only [resOwn,h]
theorem resOwn_sl {k c j:Nat} (h:own k=some (.sl c j)) (h1:c≠b) (h2:c≠0):resOwn b own k=some (.sl c j):=by simp only [resOwn,h,if_neg h1,if_neg h2]
theorem resOwn_at {k j:Nat} (h:own k=some (.sl b j)):resOwn b own k=some (.sl 0 j):=by simp only [resOwn,h,if_true]
theorem resOwn_tr:Tr own w (resOwn b own) w:=
 ⟨Nat.le_refl _,fun k _ h=>⟨zdg h,rfl⟩,rfl,rfl,rfl,fun k o h=>⟨by simp only [resOwn,h],rfl⟩,fun k c _ h=>zec h⟩
theorem resOwn_lt {n:Nat} (h2:∀ k o,own k=some o→k < n) (k:Nat) (o:Owner) (h:resOwn b own k=some o):k < n:=by
 simp only [resOwn] at h
 split at h
 ·rename_i hk;exact h2 k _ hk
 ·exact h2 k o h
theorem resOwn_one (h1:∀ k k' o,own k=some o→own k'=some o→k=k') (k k':Nat) (o:Owner) (h:resOwn b own k=some o) (h':resOwn b own k'=some o):k=k':=by
 simp only [resOwn] at h h'
 split at h
 ·rename_i c j hk
  split at h
  ·rename_i e;subst e;cases h
   split at h'
   ·rename_i c' j' hk'
    split at h'
    ·rename_i e;subst e;cases h';exact h1 _ _ _ hk hk'
    ·split at h'
     ·cases h'
     ·rename_i e1 e2;cases h';exact absurd rfl e2
   ·rename_i hne;exact absurd h' (hne 0 j)
  ·split at h
   ·cases h
   ·rename_i e1 e2;cases h
    split at h'
    ·rename_i c' j' hk'
     split at h'
     ·cases h';exact absurd rfl e2
     ·split at h'
      ·cases h'
      ·cases h';exact h1 _ _ _ hk hk'
    ·exact h1 _ _ _ hk h'
 ·rename_i hne
  split at h'
  ·rename_i c' j' hk'
   split at h'
   ·cases h';exact absurd h (hne 0 j')
   ·split at h'
    ·cases h'
    ·cases h';exact absurd h (hne c' j')
  ·exact h1 _ _ _ h h'
end
section
variable {G : Sta} {own own' : Own} {w : World}
theorem slv_nil {b o i n:Nat} {u:Value}:SlV P [] own w b o i n u:=by unfold SlV;simp [look,get]
theorem epv_nil {b o i n:Nat} {u:Value}:EpV P [] own w b o i n u:=by unfold EpV;simp [look,get]
theorem zck (hn:∀ k,own k=none→own' k=none) (hb:∀ k b,own k=some (.box b)→own' k=some (.box b)) {v:AV} {u:Value} (h:RC own w v u):RC own' w v u:=by
 cases v with
 | bad=>trivial
 | f x=>exact ⟨h.1,h.2.mono0 hn⟩
 | ptr b o=>obtain ⟨k,h1,h2⟩:=h;exact ⟨k,hb k b h1,h2⟩
 | fp x o=>
   obtain ⟨k,q,h1,h2,h3,h4⟩:=h
   exact ⟨k,q,h1,hn _ h2,h3,fun j y hy=>let ⟨z,e1,e2⟩:=h4 j y hy;⟨z,e1,e2.mono0 hn⟩⟩
 | _=>exact h.elim
theorem r0_weak (hn:∀ k,own k=none→own' k=none) (hb:∀ k b,own k=some (.box b)→own' k=some (.box b)) {v:AV} {u:Value} (h:R0 P G own w v u):R0 P [] own' w v u:=by
 cases v with
 | rf b o i n=>exact slv_nil (P:=P) (own:=own') (w:=w) (b:=b) (o:=o) (i:=i) (n:=n) (u:=u)
 | ep b o i n=>exact epv_nil (P:=P) (own:=own') (w:=w) (b:=b) (o:=o) (i:=i) (n:=n) (u:=u)
 | clo g caps=>obtain ⟨arr,e1,e2,e3⟩:=h;exact ⟨arr,e1,e2,fun j x y h1 h2=>zck hn hb (e3 j x y h1 h2)⟩
 | bad=>trivial
 | f x=>exact zck (w:=w) (u:=u) (v:=.f x) hn hb h
 | ptr b o=>exact zck (w:=w) (u:=u) (v:=.ptr b o) hn hb h
 | fp x o=>exact zck (w:=w) (u:=u) (v:=.fp x o) hn hb h
 | _=>exact h.elim
theorem ownl_weak {b b' o:Nat} (hn:∀ k,own k=none→own' k=none) (hs:∀ k j,own k=some (.sl b j)→own' k=some (.sl b' j)) {E:TypeId} {l:List FV} {u:Value} (h:OwnL P own w b o E l u):OwnL P own' w b' o E l u:=by
 obtain ⟨a,c,e1,e2,e3⟩:=h
 refine ⟨a,c,e1,e2,e3.imp id ?_⟩
 rintro ⟨k,e4,e5,arr,e6,e7,e8,e9⟩
 exact ⟨k,e4,hs _ _ e5,arr,e6,e7,e8,fun i x j y h1 h2=>let ⟨z,q1,q2⟩:=e9 i x j y h1 h2;⟨z,q1,q2.mono0 hn⟩⟩
theorem ro_weak {b b' o:Nat} (hn:∀ k,own k=none→own' k=none) (hb:∀ k b,own k=some (.box b)→own' k=some (.box b)) (hs:∀ k j,own k=some (.sl b j)→own' k=some (.sl b' j)) {v:AV} {u:Value} (h:RO P G own w b o v u):RO P [] own' w b' o v u:=by
 cases v with
 | own E l=>exact ownl_weak hn hs h
 | rf b o i n=>exact slv_nil (P:=P) (own:=own') (w:=w) (b:=b) (o:=o) (i:=i) (n:=n) (u:=u)
 | ep b o i n=>exact epv_nil (P:=P) (own:=own') (w:=w) (b:=b) (o:=o) (i:=i) (n:=n) (u:=u)
 | clo g caps=>exact r0_weak (P:=P) (G:=G) (w:=w) (u:=u) (v:=.clo g caps) hn hb h
 | bad=>trivial
 | f x=>exact zck (w:=w) (u:=u) (v:=.f x) hn hb h
 | ptr b o=>exact zck (w:=w) (u:=u) (v:=.ptr b o) hn hb h
 | fp x o=>exact zck (w:=w) (u:=u) (v:=.fp x o) hn hb h
 | _=>exact h.elim
theorem r1_weak (hn:∀ k,own k=none→own' k=none) (hb:∀ k b,own k=some (.box b)→own' k=some (.box b)) {v:AV} {u:Value} (h:R1 P G own w v u):R1 P [] own' w v u:=by
 cases v with
 | agg l=>obtain ⟨arr,e1,e2,e3⟩:=h;exact ⟨arr,e1,e2,fun j x y h1 h2=>r0_weak hn hb (e3 j x y h1 h2)⟩
 | rf b o i n=>exact slv_nil (P:=P) (own:=own') (w:=w) (b:=b) (o:=o) (i:=i) (n:=n) (u:=u)
 | ep b o i n=>exact epv_nil (P:=P) (own:=own') (w:=w) (b:=b) (o:=o) (i:=i) (n:=n) (u:=u)
 | clo g caps=>exact r0_weak (P:=P) (G:=G) (w:=w) (u:=u) (v:=.clo g caps) hn hb h
 | bad=>trivial
 | f x=>exact zck (w:=w) (u:=u) (v:=.f x) hn hb h
 | ptr b o=>exact zck (w:=w) (u:=u) (v:=.ptr b o) hn hb h
 | fp x o=>exact zck (w:=w) (u:=u) (v:=.fp x o) hn hb h
 | _=>exact h.elim
theorem rv_rl_weak {b:Nat} (hn:∀ k,own k=none→own' k=none) (hb:∀ k b,own k=some (.box b)→own' k=some (.box b)) {v:AV} {u:Value} (h:RV P G own w v u):RL P [] own' w b v u:=by
 refine RV.at ?_
 cases v with
 | tup l=>obtain ⟨arr,e1,e2,e3⟩:=h;exact ⟨arr,e1,e2,fun j x y h1 h2=>r1_weak hn hb (e3 j x y h1 h2)⟩
 | agg l=>exact r1_weak (P:=P) (G:=G) (w:=w) (u:=u) (v:=.agg l) hn hb h
 | rf b o i n=>exact slv_nil (P:=P) (own:=own') (w:=w) (b:=b) (o:=o) (i:=i) (n:=n) (u:=u)
 | ep b o i n=>exact epv_nil (P:=P) (own:=own') (w:=w) (b:=b) (o:=o) (i:=i) (n:=n) (u:=u)
 | clo g caps=>exact r0_weak (P:=P) (G:=G) (w:=w) (u:=u) (v:=.clo g caps) hn hb h
 | bad=>trivial
 | f x=>exact zck (w:=w) (u:=u) (v:=.f x) hn hb h
 | ptr b o=>exact zck (w:=w) (u:=u) (v:=.ptr b o) hn hb h
 | fp x o=>exact zck (w:=w) (u:=u) (v:=.fp x o) hn hb h
 | _=>exact h.elim
theorem outs_weak {nt:Nat} {a:Act} (s:St P nt G own a w) {l:List AV} (hl:∀ (j:Nat) v,l[j]?=some v→get G (ob j)=some v) (hn:∀ k,own k=none→own' k=none) (hb:∀ k b,own k=some (.box b)→own' k=some (.box b))
 (hs:∀ i k j,own k=some (.sl (ob i) j)→own' k=some (.sl (ob i) j)) (h1:∀ k k' o,own' k=some o→own' k'=some o→k=k') (h2:∀ k o,own' k=some o→k < w.heap.size):Outs P own' w l:=by
 refine ⟨fun i v hv=>?_,h1,h2⟩
 obtain ⟨k,arr,T,e1,e2,e3⟩:=s.boxes (ob i) v (by simp only [ob];omega) (hl i v hv)
 exact ⟨k,arr,T,hb _ _ e1,e2,e3.1,fun j x u q1 q2=>ro_weak hn hb (hs i) (e3.2 j x u q1 q2)⟩
end
section
variable {CE : CEx} {G : Sta} {own : Own} {a : Act} {w : World} {nt n : Nat} {R : AV → List AV → Prop}
def Ends (P:Program) (R:AV→List AV→Prop) (own:Own) (w:World) (u:Value):Prop:=
 ∃ own' r outs',R r outs'∧Tr own w own' w∧Outs P own' w outs'∧RL P [] own' w 0 r u
theorem zhz (s:St P nt G own a w) {t:Nat} {v:AV} (h:get G (tb t)=some v):RL P G own w (tb t) v (a.tmps.getD t undef):=by
 obtain ⟨u,h1,h2⟩:=s.temps t v h
 rw [Array.getD_eq_getD_getElem?,h1];exact h2
theorem ziy {W:List Up} {own1:Own} {x:AV} {u:Value} (s:St P nt (app W G) own1 a w) (ht:Tr own w own1 w) (hx:RV P (app W G) own1 w x u) (h:outsOf n 0 (app W G) (R x)):Ends P R own w u:=by
 obtain ⟨l,h1,h2⟩:=zdk h
 refine ⟨own1,x,l,h1,ht,outs_weak s (fun j v hv=>by have:=h2 j v hv;rwa [Nat.zero_add] at this) (fun _ h=>h) (fun _ _ h=>h) (fun _ _ _ h=>h) s.one s.lt,rv_rl_weak (fun _ h=>h) (fun _ _ h=>h) hx⟩
theorem zhS {c:Cfg} (hc:CfgOk P c) (s:St P nt G own a w) {x:Tmp} {t:TypeId} {k:Nat→AV→RM} {T:List Acc} {K:List Up→List Acc→Prop} (h:(cellR c x t k).wp CE G T K) :
 ∃ b v u T',b % 3=2∧get G b=some v∧RL P G own w b v u∧(∀ ad,asAddr (a.tmps.getD x undef)=Pure.pure ad→(loadVar t ad).run P w=.ok u w)∧(∃ ad,asAddr (a.tmps.getD x undef)=Pure.pure ad)∧(k b v).wp CE G T' K:=by
 obtain ⟨p,T1,h1,h2⟩:=za9 h
 have hr:=zhz s h1
 split at h2
 ·rename_i b i hi
  obtain ⟨k',hk,hu⟩:=hr
  split at h2
  ·rename_i hb
   obtain ⟨v,T2,h3,h4⟩:=za9 h2
   split at h4
   ·rename_i hfit
    obtain ⟨kk,arr,TT,e1,e2,e3⟩:=s.boxes b v (by omega) h3
    have:=s.one _ _ _ e1 hk;subst this
    have hcell:∀ (j:Nat) y,arr[j]?=some y→w.cell? ⟨kk,j,none⟩=some y:=fun j y hy=>by simp [World.cell?,e2,hy]
    have hasa:∀ ad,asAddr (a.tmps.getD x undef)=Pure.pure ad→ad=⟨kk,0,none⟩:=by
     intro ad had
     rw [hu] at had
     have:=congrArg (fun m=>m.run P w) had
     simp [asAddr] at this
     exact this.symm
    have hex:∃ ad,asAddr (a.tmps.getD x undef)=Pure.pure ad:=⟨⟨kk,0,none⟩,by rw [hu];rfl⟩
    have one:isAggD i.desc=false→(∀ l,v≠.agg l)→(∀ l,v≠.tup l)→∃ u,RL P G own w b v u∧(loadVar t ⟨kk,0,none⟩).run P w=.ok u w:=by
     intro hag n1 n2
     have hlf:v.isLeaf=true:=by cases v<;>first | rfl | exact absurd rfl (n1 _) | exact absurd rfl (n2 _)
     have hlen:=e3.1
     rw [zdo hlf] at hlen
     obtain ⟨y,hy⟩:∃ y,arr[0]?=some y:=⟨arr[0]'(by simp at hlen;omega),by simp⟩
     refine ⟨y,?_,zb6 hc hi hag (hcell 0 y hy)⟩
     rw [rl_ro hlf]
     exact e3.2 0 v y (by rw [zdo hlf];rfl) hy
    have key:∃ u,RL P G own w b v u∧(loadVar t ⟨kk,0,none⟩).run P w=.ok u w:=by
     cases v with
     | agg l=>
       simp only [cellFits,Bool.and_eq_true,beq_iff_eq] at hfit
       have hlen:=e3.1
       simp only [AV.leaves] at hlen
       refine ⟨.agg arr.toList.toArray,⟨arr,by simp,hlen,fun j y u f1 f2=>e3.2 j y u f1 f2⟩,?_⟩
       refine zcI hc hi hfit.1 (by simp;omega) (fun j u hu=>?_)
       rw [Nat.zero_add];exact hcell j u (by simpa using hu)
     | tup l=>simp [cellFits] at hfit
     | _=>exact one (by simpa [cellFits] using hfit) (by simp) (by simp)
    obtain ⟨u,k1,k2⟩:=key
    exact ⟨b,v,u,T2,hb,h3,k1,fun ad had=>by rw [hasa ad had];exact k2,hex,h4⟩
   ·exact h4.elim
  ·exact h2.elim
 ·exact h2.elim
def resVal (r:ResultVar) (tmps:Array Value):Sem Value:=
 match r with
 | .tmp t=>pure (tmps.getD t undef)
 | .cell a t=>do loadVar t (← asAddr (tmps.getD a undef))
theorem rdR_sound {c:Cfg} (hc:CfgOk P c) (s:St P nt G own a w) {r:ResultVar} {k:AV→RM} {T:List Acc} {K:List Up→List Acc→Prop} (h:(rdR c r k).wp CE G T K) :
 ∃ v u T',RV P G own w v u∧(resVal r a.tmps).run P w=.ok u w∧(k v).wp CE G T' K:=by
 cases r with
 | tmp t=>
   obtain ⟨v,T',h1,h2⟩:=za9 h
   exact ⟨_,_,T',RL.view (zhz s h1) h1,rfl,h2⟩
 | cell x t=>
   obtain ⟨b,v,u,T',h1,h2,h3,h4,⟨ad,h5⟩,h6⟩:=zhS hc s h
   refine ⟨_,u,T',RL.view h3 h2,?_,h6⟩
   simp only [resVal,h5]
   simpa using h4 ad h5
theorem zii {c:Cfg} (hc:CfgOk P c) (s:St P nt G own a w):∀ {rs:List ResultVar} {k:List AV→RM} {T:List Acc} {K:List Up→List Acc→Prop},(rdRs c rs k).wp CE G T K→
 ∃ (vs:List AV) (us:List Value) (T':List Acc),vs.length=us.length∧rs.length=us.length∧(∀ (j:Nat) v u,vs[j]?=some v→us[j]?=some u→RV P G own w v u)∧
   (∀ (j:Nat) r u,rs[j]?=some r→us[j]?=some u→(resVal r a.tmps).run P w=.ok u w)∧(k vs).wp CE G T' K
 | [],k,T,K,h=>⟨[],[],T,rfl,rfl,fun j v u h=>by simp at h,fun j v u h=>by simp at h,h⟩
 | r :: rs,k,T,K,h=>by
   obtain ⟨v,u,T1,h1,h2,h3⟩:=rdR_sound hc s h
   obtain ⟨vs,us,T2,k1,k2,k3,k4,k5⟩:=zii hc s h3
   refine ⟨v :: vs,u :: us,T2,by simp [k1],by simp [k2],fun j x y e1 e2=>?_,fun j x y e1 e2=>?_,k5⟩
   ·cases j with
    | zero=>simp at e1 e2;subst e1 e2;exact h1
    | succ j=>simp at e1 e2;exact k3 j x y e1 e2
   ·cases j with
    | zero=>simp at e1 e2;subst e1 e2;exact h2
    | succ j=>simp at e1 e2;exact k4 j x y e1 e2
theorem run_mapM {α:Type} (f:α→Sem Value):∀ (l:List α) (us:List Value),l.length=us.length→(∀ (j:Nat) x u,l[j]?=some x→us[j]?=some u→(f x).run P w=.ok u w)→(l.mapM f).run P w=.ok us w
 | [],[],_,_=>by simp
 | x :: l,u :: us,hl,h=>by
   have ih:=run_mapM f l us (by simpa using hl) (fun j x u e1 e2=>h (j+1) x u (by simpa using e1) (by simpa using e2))
   have h0:=h 0 x u rfl rfl
   simp [List.mapM_cons,h0,ih]
 | [],_ :: _,h,_=>by simp at h
 | _ :: _,[],h,_=>by simp at h
theorem zhb {fn:Func} {tmps:Array Value} {us:List Value} (hl:fn.results.toList.length=us.length) (h:∀ (j:Nat) r u,fn.results.toList[j]?=some r→us[j]?=some u→(resVal r tmps).run P w=.ok u w) :
 (results fn tmps).run P w=.ok (if h:us.toArray.size=1 then us.toArray[0] else .tuple us.toArray) w:=by
 have e:results fn tmps=(do let vs ← fn.results.mapM fun r=>resVal r tmps;pure (if h:vs.size=1 then vs[0] else .tuple vs)):=by
  unfold results
  congr 1
 rw [e,Array.mapM_eq_mapM_toList]
 simp [run_mapM (P:=P) (w:=w) (fun r=>resVal r tmps) _ _ hl h]
theorem zih {q:Nat} (hq:∀ i,ob i≠q) {v:AV} {u:Value} {T:List Acc} (s:St P nt G own a w) (hr:RL P G own w q v u) (h:(res1 q v).wp CE G T fun U _=>endU n R G U):Ends P R own w u:=by
 have key:∀ {W:List Up} {own1:Own} {x:AV},FrzOnly W→St P nt (app W G) own1 a w→Tr own w own1 w→(x.isLeaf=true→RO P (app W G) own1 w q 0 x u)→(∀ l,x=.agg l→RL P (app W G) own1 w q x u)→
  (x.isLeaf=true∨∃ l,x=.agg l)→outsOf n 0 (app W G) (R x)→Ends P R own w u:=by
  intro W own1 x hW s1 ht hx1 hx2 hx3 ho
  obtain ⟨l,h1,h2⟩:=zdk ho
  refine ⟨resOwn q own1,x,l,h1,ht.trans resOwn_tr,outs_weak s1 (fun j v hv=>by have:=h2 j v hv;rwa [Nat.zero_add] at this) (fun _ h=>zdg h) (fun _ _ h=>zec h)
   (fun i k j h=>resOwn_sl h (hq i) (by simp only [ob];omega)) (resOwn_one s1.one) (resOwn_lt s1.lt),?_⟩
  rcases hx3 with hl | ⟨m,rfl⟩
  ·rw [rl_ro hl]
   exact ro_weak (fun _ h=>zdg h) (fun _ _ h=>zec h) (fun _ _ h=>resOwn_at h) (hx1 hl)
  ·obtain ⟨arr,e1,e2,e3⟩:=hx2 m rfl
   exact ⟨arr,e1,e2,fun j x y q1 q2=>ro_weak (fun _ h=>zdg h) (fun _ _ h=>zec h) (fun _ _ h=>resOwn_at h) (e3 j x y q1 q2)⟩
 have plain:(∀ E l,v≠.own E l)→(∀ l,v≠.agg l)→(∀ l,v≠.tup l)→(cp v fun x U=>.ret (.set 0 x :: U)).wp CE G T (fun U _=>endU n R G U)→Ends P R own w u:=by
  intro n1 n2 n3 h
  have hlf:v.isLeaf=true:=by cases v<;>first | rfl | exact absurd rfl (n2 _) | exact absurd rfl (n3 _)
  have hrv:RV P G own w v u:=by
   rw [rv_r0 n2 n3]
   rw [rl_ro hlf,zeE n1] at hr
   exact hr
  obtain ⟨x,W,T2,own1,k1,k2,k3,k4,k5,k6⟩:=zfo (U:=[]) FrzOnly.nil s hrv h
  simp only [List.nil_append] at k2 k3 k4
  exact ziy k2 k3.tr k4 k6
 cases v with
 | own E l=>
   refine key (W:=[]) (x:=.own E l) FrzOnly.nil s (Tr.refl _ _) (fun _=>hr) (fun l e=>by cases e) (.inl rfl) h
 | agg l=>
   obtain ⟨arr,e1,e2,e3⟩:=hr
   obtain ⟨xs,W,T2,k1,k2,k3,k4,k6⟩:=zed (U:=[]) (j0:=0) (ow:=fun j v u=>RO P G own w q j v u) FrzOnly.nil s (us:=arr.toList) ⟨by simpa using e2,fun j v u q1 q2=>by
    have:=e3 j v u q1 (by simpa using q2)
    cases v with
    | own E l=>exact .inl ⟨E,l,rfl,by rw [Nat.zero_add];exact this⟩
    | _=>exact .inr this⟩ h
   simp only [List.nil_append] at k2 k3 k4
   split at k6
   ·rename_i hoff
    refine key (x:=.agg xs) k1 k2 k3.tr (fun h=>by simp [AV.isLeaf] at h) (fun m hm=>?_) (.inr ⟨_,rfl⟩) k6
    refine ⟨arr,e1,by simpa using k4.1,fun j x y q1 q2=>?_⟩
    rcases k4.2 j x y q1 (by simpa using q2) with ⟨E,l,rfl,h1⟩ | ⟨h1,h2⟩
    ·rw [Nat.zero_add] at h1
     exact (zfh (sb:=q) k1 hoff (G:=G) (own:=own)).2 j E l y h1
    ·cases x<;>first | exact h2 | simp [AV.plain0] at h1
   ·exact k6.elim
 | tup l=>exact h.elim
 | _=>exact plain (by simp) (by simp) (by simp) h
theorem end_sound {c:Cfg} (hc:CfgOk P c) {fn:Func} (s:St P nt G own a w) (h:(resRM c fn.results.toList).wp CE G [] fun U _=>endU n R G U):∃ u,(results fn a.tmps).run P w=.ok u w∧Ends P R own w u:=by
 have one:∀ {r:ResultVar} {u:Value},fn.results.toList=[r]→(resVal r a.tmps).run P w=.ok u w→(results fn a.tmps).run P w=.ok u w:=by
  intro r u e hr
  rw [zhb (us:=[u]) (by rw [e];rfl) (fun j x y e1 e2=>by
   rw [e] at e1
   cases j with
   | zero=>simp at e1 e2;subst e1 e2;exact hr
   | succ j=>simp at e1)]
  rfl
 unfold resRM at h
 split at h
 ·rename_i t e
  obtain ⟨v,T',h1,h2⟩:=za9 h
  exact ⟨_,one e rfl,zih (fun i=>by simp only [ob,tb];omega) s (zhz s h1) h2⟩
 ·rename_i x t e
  obtain ⟨b,v,u,T',h1,h2,h3,h4,⟨ad,h5⟩,h6⟩:=zhS hc s h
  refine ⟨u,one e ?_,zih (fun i=>by intro e;rw [← e] at h1;simp only [ob] at h1;omega) s h3 h6⟩
  simp only [resVal,h5]
  simpa using h4 ad h5
 ·rename_i hn1 hn2
  obtain ⟨vs,us,T1,h1,h2,h3,h4,h5⟩:=zii hc s h
  have hlen:¬ us.toArray.size=1:=by
   intro e
   simp only [List.size_toArray] at e
   rw [e] at h2
   match hrs:fn.results.toList,h2 with
   | [r],_=>cases r with
     | tmp t=>exact hn1 t hrs
     | cell x t=>exact hn2 x t hrs
  refine ⟨_,zhb h2 h4,?_⟩
  rw [dif_neg hlen]
  obtain ⟨xs,W,T2,own1,k1,k2,k3,k4,k5,k6⟩:=zhO (U:=[]) FrzOnly.nil s (us:=us) ⟨h1,h3⟩ h5
  simp only [List.nil_append] at k2 k3 k4
  refine ziy k2 k3.tr (x:=.tup xs) ⟨_,rfl,by simpa using k4.1,fun j x v e1 e2=>?_⟩ k6
  have hr:=k4.2 j x v e1 (by simpa using e2)
  have hp:=k5 x (List.mem_of_getElem? e1)
  cases x<;>first | exact hr | simp [AV.plain1,AV.plain0] at hp
end
theorem wideF:WideF P Fence.wide:=⟨fun _=>trivial,rfl,fun _ _ _ _ _ h=>callsIn_wide.2 h⟩
end Go.Ev
set_option linter.unusedVariables false
set_option linter.unusedSimpArgs false
namespace Go.Ev
open Go Go.RowKit
def zcells (P:Program):Nat→TypeId→List AV
 | 0,_=>[]
 | n+1,t=>match P.underlying t with
   | some (.struct fs)=>fs.toList.flatMap fun f=>zcells P n f.type
   | some (.array m E)=>(List.replicate m (zcells P n E)).flatten
   | some (.slice E)=>[.own E []]
   | _=>match (P.info? t).bind (·.zero) with
     | some v=>[.f (.pv v)]
     | none=>[]
def zeroLeafB:AV→Value→Bool
 | .f (.pv v),u=>v.oneCell' && sameV v u
 | .own _ [],.slice none 0 0=>true
 | _,_=>false
 where sameV:Value→Value→Bool
 | .bool a,.bool b=>a == b
 | .int k a,.int l b=>k == l && a == b
 | .string a,.string b=>a.toList == b.toList && a.size == 0 && b.size == 0
 | .pointer none,.pointer none=>true
 | .nilIface,.nilIface=>true
 | .nilFunc,.nilFunc=>true
 | .map none,.map none=>true
 | _,_=>false
def zeroLs:List AV→List Value→Bool
 | [],[]=>true
 | x :: l,v :: m=>zeroLeafB x v && zeroLs l m
 | _,_=>false
def zeroFitsB:AV→Value→Bool
 | .agg l,.agg a=>zeroLs l a.toList
 | .agg _,_=>false
 | v,u=>zeroLeafB v u
theorem sameV_eq {u v:Value} (h:zeroLeafB.sameV u v=true):v=u:=by
 unfold zeroLeafB.sameV at h
 split at h<;>simp_all
theorem zeq {x:AV} {v:Value} (h:zeroLeafB x v=true):zeroLeaf x v:=by
 unfold zeroLeafB at h
 split at h
 ·simp only [Bool.and_eq_true] at h;exact ⟨sameV_eq h.2,h.1⟩
 ·rfl
 ·cases h
theorem zg6:∀ {l:List AV} {m:List Value},zeroLs l m=true→l.length=m.length∧∀ (j:Nat) x v,l[j]?=some x→m[j]?=some v→zeroLeaf x v
 | [],[],_=>⟨rfl,fun j x v h=>by simp at h⟩
 | x :: l,v :: m,h=>by
   simp only [zeroLs,Bool.and_eq_true] at h
   obtain ⟨h1,h2⟩:=zg6 h.2
   refine ⟨by simp [h1],fun j y u e1 e2=>?_⟩
   cases j with
   | zero=>simp at e1 e2;subst e1 e2;exact zeq h.1
   | succ j=>simp at e1 e2;exact h2 j y u e1 e2
 | [],_ :: _,h=>by simp [zeroLs] at h
 | _ :: _,[],h=>by simp [zeroLs] at h
theorem zh5 {z:AV} {v:Value} (h:zeroFitsB z v=true):zeroFits z v:=by
 unfold zeroFitsB at h
 split at h
 ·rename_i l a
  obtain ⟨h1,h2⟩:=zg6 h
  exact ⟨a,rfl,by simpa using h1,fun j x u e1 e2=>h2 j x u e1 (by simpa using e2)⟩
 ·cases h
 ·rename_i hn
  have:=zeq h
  cases z<;>first | exact this | exact this.elim
def zeroOf (P:Program) (d:TypeDesc) (t:TypeId) (f:TypeInfo):Option AV:=
 let z:=if isAggD d=true then some (AV.agg (zcells P 8 t)) else (zcells P 8 t)[0]?
 match z,f.zero with
 | some z,some v=>if zeroFitsB z v=true then some z else none
 | _,_=>none
def tiOf (P:Program) (t:TypeId):Option TI:=
 match P.underlying t,P.info? t with
 | some d,some f=>some ⟨d,f.size,f.bytes,zeroOf P d t f⟩
 | _,_=>none
theorem tiOf_ok {P:Program} {t:TypeId} {i:TI} (h:tiOf P t=some i):TiOk P t i:=by
 unfold tiOf at h
 split at h
 ·rename_i d f hd hf
  cases h
  refine ⟨hd,f,hf,rfl,rfl,fun z hz=>?_⟩
  simp only [zeroOf] at hz
  split at hz
  ·rename_i z' v h1 h2
   split at hz
   ·rename_i h3;cases hz;exact ⟨v,h2,zh5 h3⟩
   ·cases hz
  ·cases hz
 ·cases h
theorem zq {P:Program} {t:TypeId} {d:TypeDesc} {f:TypeInfo} {z:Option AV} (h1:P.underlying t=some d) (h2:P.info? t=some f) (h3:zeroOf P d t f=z):tiOf P t=some ⟨d,f.size,f.bytes,z⟩:=by
 simp only [tiOf,h1,h2,h3]
section
variable {CE : CEx} {c : Cfg} {ops : Array Oper} {G : Sta}
end
def tabGo:List Oper→List (List Nat)→List (List Nat)
 | [],t=>t
 | o :: r,t=>
   let ps:=(o.after.toList.filter (Region.binds .any)).map (·.on)
   tabGo r (t++[addNew [] (ps++ps.flatMap fun p=>t.getD p [])])
def tabOf (ops:Array Oper):List (List Nat):=tabGo ops.toList []
theorem wrap64 {m:Int} (h0:-9223372036854775808≤m) (h:m < 9223372036854775808):IntKind.i64.wrap m=m:=by
 simp [IntKind.wrap,IntKind.bits,IntKind.signed]
 omega
end Go.Ev
set_option linter.unusedVariables false
set_option linter.unusedSimpArgs false
namespace Go.Ev
open Go Go.RowKit
variable {P : Program}
inductive RM2 where
 | of (m:RM)
 | ask (b:Nat) (o:Option Nat) (k:AV→RM2)
 | need (p:Prop) (m:RM2)
 | elem (l:List FV) (n:Nat) (k:FV→RM2)
 | lst (x:Option (List FV)) (k:List FV→RM2)
 | byte (s:ByteArray) (n:Nat) (k:UInt8→RM2)
 | br (b:Bool) (x y:RM2)
 | peek (b:Nat) (k:Nat→RM2)
 | num (n:Int) (len:Nat) (k:Nat→RM2)
def RM2.wp (CE:CEx) (G:Sta):RM2→List Acc→(List Up→List Acc→Prop)→Prop
 | .of m,T,K=>m.wp CE G T K
 | .ask b o k,T,K=>∃ v,look G b o=some v∧v.ok=true∧(k v).wp CE G (T++accOf b o :: v.refs) K
 | .need p m,T,K=>p∧m.wp CE G T K
 | .elem l n k,T,K=>∃ e,l[n]?=some e∧(k e).wp CE G T K
 | .lst x k,T,K=>∃ l,x=some l∧(k l).wp CE G T K
 | .byte s n k,T,K=>∃ y,s[n]?=some y∧(k y).wp CE G T K
 | .br b x y,T,K=>(b=true∧x.wp CE G T K)∨(b=false∧y.wp CE G T K)
 | .peek b k,T,K=>∃ v,get G b=some v∧(k v.leaves.length).wp CE G (T++[.id b]) K
 | .num n _ k,T,K=>∃ m:Nat,n=m∧(k m).wp CE G T K
def Le (m2:RM2) (m:RM):Prop:=∀ CE G T K,m2.wp CE G T K→m.wp CE G T K
theorem Le.of (m:RM):Le (.of m) m:=fun _ _ _ _ h=>h
theorem Le.ask {b:Nat} {o:Option Nat} {k2:AV→RM2} {k:AV→RM} (h:∀ v,Le (k2 v) (k v)):Le (.ask b o k2) (.ask b o k):=by
 rintro CE G T K ⟨v,h1,h2,h3⟩;exact ⟨v,h1,h2,h v _ _ _ _ h3⟩
theorem Le.need {p:Prop} {m2:RM2} {m:RM} (h:p→Le m2 m):Le (.need p m2) m:=by
 rintro CE G T K ⟨h1,h2⟩;exact h h1 _ _ _ _ h2
theorem Le.elem {l:List FV} {n:Nat} {k:FV→RM2} {m:RM} (h:∀ e,l[n]?=some e→Le (k e) m):Le (.elem l n k) m:=by
 rintro CE G T K ⟨e,h1,h2⟩;exact h e h1 _ _ _ _ h2
theorem Le.lst {x:Option (List FV)} {k:List FV→RM2} {m:RM} (h:∀ l,x=some l→Le (k l) m):Le (.lst x k) m:=by
 rintro CE G T K ⟨e,h1,h2⟩;exact h e h1 _ _ _ _ h2
theorem Le.byte {s:ByteArray} {n:Nat} {k:UInt8→RM2} {m:RM} (h:∀ e,s[n]?=some e→Le (k e) m):Le (.byte s n k) m:=by
 rintro CE G T K ⟨e,h1,h2⟩;exact h e h1 _ _ _ _ h2
theorem Le.br {b:Bool} {x y:RM2} {m:RM} (h1:b=true→Le x m) (h2:b=false→Le y m):Le (.br b x y) m:=by
 rintro CE G T K (⟨e,h⟩ | ⟨e,h⟩)
 ·exact h1 e _ _ _ _ h
 ·exact h2 e _ _ _ _ h
theorem Le.peek {b:Nat} {k2:Nat→RM2} {k:Nat→RM} (h:∀ m,Le (k2 m) (k m)):Le (.peek b k2) (.peek b k):=by
 rintro CE G T K ⟨v,h1,h2⟩;exact ⟨v,h1,h _ _ _ _ _ h2⟩
theorem Le.num {n:Int} {len:Nat} {k:Nat→RM2} {m:RM} (h:∀ j:Nat,n=j→Le (k j) m):Le (.num n len k) m:=by
 rintro CE G T K ⟨j,h1,h2⟩;exact h j h1 _ _ _ _ h2
theorem Le.fail {m:RM}:Le (.of .fail) m:=fun _ _ _ _ h=>h.elim
theorem Le.eq {m m':RM} (h:m=m'):Le (.of m) m':=by subst h;exact Le.of m
def rdO2 (x:Operand) (k:AV→RM2):RM2:=
 match x with
 | .tmp t=>.ask (tb t) none fun v=>k (vw (tb t) v)
 | .const v=>match constAV v with
   | some a=>k a
   | none=>.of .fail
 | .func g=>k (.clo g [])
 | .global _=>.of .fail
theorem zbS {x:Operand} {k2:AV→RM2} {k:AV→RM} (h:∀ v,Le (k2 v) (k v)):Le (rdO2 x k2) (rdO x k):=by
 cases x with
 | tmp t=>exact Le.ask fun v=>h _
 | const v=>
   simp only [rdO2,rdO]
   cases constAV v with
   | some a=>exact h _
   | none=>exact Le.fail
 | func g=>exact h _
 | global g=>exact Le.fail
def bin2 (c:Cfg) (d:Option Tmp) (op:BinOp) (T:TypeId) (x y:AV):RM2:=
 match x,y with
 | .f (.pv (.int k a)),.f (.pv (.int k' b))=>match op with
   | .quo=>if k=k' then .need (b≠0) (.of (fin c d [] (.f (.pv (.int k (k.wrap (a.tdiv b))))))) else .of .fail
   | .rem=>if k=k' then .need (b≠0) (.of (fin c d [] (.f (.pv (.int k (a.tmod b)))))) else .of .fail
   | .shl=>.need (0≤b) (.of (fin c d [] (.f (.pv (.int k (k.wrap (a * 2 ^ min b.toNat k.bits)))))))
   | .shr=>.need (0≤b) (.of (fin c d [] (.f (.pv (.int k (a.fdiv (2 ^ min b.toNat k.bits)))))))
   | _=>.of (optRM c d (binAV c op T x y))
 | .f (.pv (.string s)),.f (.pv (.string t))=>match op with
   | .add=>.need (((s.size+t.size:Nat):Int)≤IntKind.i64.max) (.of (fin c d [] (.f (.pv (.string (s++t))))))
   | _=>.of (optRM c d (binAV c op T x y))
 | _,_=>.of (optRM c d (binAV c op T x y))
theorem le_bin {c:Cfg} {d:Option Tmp} {op:BinOp} {T:TypeId} {x y:AV}:Le (bin2 c d op T x y) (optRM c d (binAV c op T x y)):=by
 unfold bin2
 split
 ·rename_i k a k' b
  split
  ·split
   ·rename_i h;subst h
    refine Le.need fun h=>Le.eq ?_
    simp [binAV,isShift,intOp,h,optRM]
   ·exact Le.fail
  ·split
   ·rename_i h;subst h
    refine Le.need fun h=>Le.eq ?_
    simp [binAV,isShift,intOp,h,optRM]
   ·exact Le.fail
  ·refine Le.need fun h=>Le.eq ?_
   have h':¬ b < 0:=by omega
   simp [binAV,isShift,shiftOp,h',optRM]
  ·refine Le.need fun h=>Le.eq ?_
   have h':¬ b < 0:=by omega
   simp [binAV,isShift,shiftOp,h',optRM]
  ·exact Le.of _
 ·split
  ·refine Le.need fun h=>Le.eq ?_
   simp only [binAV,strOp,optRM]
   rw [if_neg (Int.not_lt.2 h)]
   rfl
  ·exact Le.of _
 ·exact Le.of _
def seen2 (v:AV) (k:RM2):RM2:=
 match v with
 | .rf b o i n=>.ask b (some o) fun y=>match sliceOf y with
   | some _=>k
   | none=>.of .fail
 | .ep b o i n=>.ask b (some o) fun y=>match sliceOf y with
   | some _=>k
   | none=>.of .fail
 | _=>k
theorem le_seen {v:AV} {k2:RM2} {k:RM} (h:Le k2 k):Le (seen2 v k2) (seen v k):=by
 cases v with
 | rf b o i n=>
   refine Le.ask fun v=>?_
   cases sliceOf v with
   | some _=>exact h
   | none=>exact Le.fail
 | ep b o i n=>
   refine Le.ask fun v=>?_
   cases sliceOf v with
   | some _=>exact h
   | none=>exact Le.fail
 | _=>exact h
def indexAddr2 (c:Cfg) (d:Option Tmp) (T:TypeId) (v ix:AV):RM2:=
 match ix,c.ti T with
 | .f (.pv (.int k n)),some { desc:=.slice E,.. }=>match c.ti E with
   | some t=>.need (0≤n) (match v with
     | .f (.sl l)=>.elem l n.toNat fun e=>if e.size=t.size then .of (fin c d [] (.fp e 0)) else .of .fail
     | .rf b o i m=>.need (n.toNat < m) (.ask b (some o) fun y=>match y with
        | .own E' l=>if E'=E then .of (fin c d [] (.ep b o (i+n.toNat) 0)) else .of .fail
        | .f (.sl l)=>.elem l (i+n.toNat) fun e=>if e.size=t.size then .of (fin c d [] (.fp e 0)) else .of .fail
        | _=>.of .fail)
     | _=>.of .fail)
   | none=>.of .fail
 | .f (.pv (.int k n)),some { desc:=.array len E,.. }=>.num n len fun m=>.of (indexAddrRM c d T v (.f (.pv (.int k (m:Int)))))
 | _,_=>.of (indexAddrRM c d T v ix)
theorem le_indexAddr {c:Cfg} {d:Option Tmp} {T:TypeId} {v ix:AV}:Le (indexAddr2 c d T v ix) (indexAddrRM c d T v ix):=by
 unfold indexAddr2
 split
 ·rename_i k n E s b z ht
  split
  ·rename_i t hE
   refine Le.need fun h0=>?_
   unfold indexAddrRM
   simp only [ht,if_pos h0]
   cases v with
   | f x=>cases x with
     | sl l=>
       refine Le.elem fun e he=>?_
       simp only [he,hE]
       split
       ·exact Le.of _
       ·exact Le.fail
     | _=>exact Le.fail
   | rf b o i m=>
     refine Le.need fun hm=>?_
     simp only [if_pos hm]
     refine Le.ask fun y=>?_
     simp only [hE]
     cases y with
     | own E' l=>
       dsimp only
       split
       ·exact Le.of _
       ·exact Le.fail
     | f x=>cases x with
       | sl l=>
         refine Le.elem fun e he=>?_
         simp only [he]
         split
         ·exact Le.of _
         ·exact Le.fail
       | _=>exact Le.fail
     | _=>exact Le.fail
   | _=>exact Le.fail
  ·exact Le.fail
 ·exact Le.num fun j hj=>Le.eq (by rw [hj])
 ·exact Le.of _
def index2 (c:Cfg) (d:Option Tmp) (T:TypeId) (v ix:AV):RM2:=
 match ix,v,c.ti T with
 | .f (.pv (.int k n)),.f (.pv (.string s)),some { desc:=.string,.. }=>
   .need (0≤n) (.byte s n.toNat fun b=>.of (fin c d [] (.f (.pv (.int .u8 b.toNat)))))
 | _,_,_=>.of (indexRM c d T v ix)
theorem le_index {c:Cfg} {d:Option Tmp} {T:TypeId} {v ix:AV}:Le (index2 c d T v ix) (indexRM c d T v ix):=by
 unfold index2
 split
 ·rename_i k n s _ _ _ ht
  refine Le.need fun h0=>Le.byte fun y hy=>Le.eq ?_
  unfold indexRM
  simp only [ht,if_pos h0,hy]
 ·exact Le.of _
def load2 (c:Cfg) (T:TypeId) (d:Option Tmp) (p:AV):RM2:=
 match c.ti T,p with
 | some i,.ep b o j cc=>.ask b (some o) fun y=>match sliceOf y with
   | some es=>.elem es j fun e=>match ofCells (isAggD i.desc) i.size e.cells cc with
     | some v=>.of (fin c d [] v)
     | none=>.of .fail
   | none=>.of .fail
 | _,_=>.of (loadRM c T d p)
theorem le_load {c:Cfg} {d:Option Tmp} {T:TypeId} {p:AV}:Le (load2 c T d p) (loadRM c T d p):=by
 unfold load2
 split
 ·rename_i i b o j cc ht
  unfold loadRM
  simp only [ht]
  refine Le.ask fun y=>?_
  cases sliceOf y with
  | some es=>
    refine Le.elem fun e he=>?_
    simp only [he]
    cases ofCells (isAggD i.desc) i.size e.cells cc with
    | some v=>exact Le.of _
    | none=>exact Le.fail
  | none=>exact Le.fail
 ·exact Le.of _
def cpL2:List AV→(List AV→List Up→RM2)→RM2
 | [],k=>k [] []
 | v :: r,k=>match v with
   | .rf b o i n=>.ask b (some o) fun x=>match x with
     | .own _ l=>cpL2 r fun l' W=>k (.f (.sl ((l.drop i).take n)) :: l') ([.frz b o]++W)
     | .f (.sl l)=>cpL2 r fun l' W=>k (.f (.sl ((l.drop i).take n)) :: l') ([]++W)
     | _=>.of .fail
   | .f x=>cpL2 r fun l W=>k (.f x :: l) ([]++W)
   | .ptr b o=>cpL2 r fun l W=>k (.ptr b o :: l) ([]++W)
   | .fp x o=>cpL2 r fun l W=>k (.fp x o :: l) ([]++W)
   | .clo g caps=>cpL2 r fun l W=>k (.clo g caps :: l) ([]++W)
   | _=>.of .fail
theorem le_cpL:∀ {l:List AV} {k2:List AV→List Up→RM2} {k:List AV→List Up→RM},(∀ x U,Le (k2 x U) (k x U))→Le (cpL2 l k2) (cpL l k)
 | [],k2,k,h=>h [] []
 | v :: r,k2,k,h=>by
   have ih:∀ (x:AV) (U:List Up),Le (cpL2 r fun l W=>k2 (x :: l) (U++W)) (cpL r fun l W=>k (x :: l) (U++W)):=fun x U=>le_cpL fun l W=>h _ _
   cases v<;>simp only [cpL2,cpL,cp1]<;>try exact Le.fail
   all_goals try exact ih _ _
   refine Le.ask fun x=>?_
   cases x with
   | own E l=>exact ih _ _
   | f x=>cases x<;>first | exact Le.fail | exact ih _ _
   | _=>exact Le.fail
def stEl2 (i:TI) (x:Operand) (b o j cc:Nat):RM2:=
 rdO2 x fun v=>cpL2 v.leaves fun l U=>.ask b (some o) fun y=>match y,fLeaves l with
  | .own E es,some fs=>.elem es j fun e=>if fs.length=i.size∧0 < i.size∧cc+fs.length≤e.size∧U.all (frzOff b)=true then .of (.ret (U++[.upo b o (.own E (es.set j (setcs e cc fs)))])) else .of .fail
  | _,_=>.of .fail
theorem le_stEl {i:TI} {x:Operand} {b o j cc:Nat}:Le (stEl2 i x b o j cc) (stEl i x b o j cc):=by
 unfold stEl2 stEl
 refine zbS fun v=>le_cpL fun l U=>Le.ask fun y=>?_
 cases y with
 | own E es=>cases fLeaves l with
   | some fs=>
     refine Le.elem fun e he=>?_
     simp only [he]
     split
     ·exact Le.of _
     ·exact Le.fail
   | none=>exact Le.fail
 | _=>exact Le.fail
def store2 (c:Cfg) (T:TypeId) (x:Operand) (p:AV):RM2:=
 match c.ti T,p with
 | some i,.ep b o j cc=>stEl2 i x b o j cc
 | _,_=>.of (storeRM c T x p)
theorem le_store {c:Cfg} {T:TypeId} {x:Operand} {p:AV}:Le (store2 c T x p) (storeRM c T x p):=by
 unfold store2
 split
 ·rename_i ht
  unfold storeRM
  simp only [ht]
  exact le_stEl
 ·exact Le.of _
def mvL2:List AV→(List LI→RM2)→RM2
 | [],k=>k []
 | v :: r,k=>match v with
   | .rf sb j i n=>.ask sb (some j) fun y=>match y with
     | .own E l=>.need (i=0∧n=l.length) (mvL2 r fun ls=>k (.mv sb j E l :: ls))
     | .f (.sl l)=>mvL2 r fun ls=>k (.pl (.f (.sl ((l.drop i).take n))) :: ls)
     | _=>.of .fail
   | .f x=>mvL2 r fun ls=>k (.pl (.f x) :: ls)
   | _=>.of .fail
theorem le_mvL:∀ {l:List AV} {k2:List LI→RM2} {k:List LI→RM},(∀ x,Le (k2 x) (k x))→Le (mvL2 l k2) (mvL l k)
 | [],k2,k,h=>h []
 | v :: r,k2,k,h=>by
   have ih:∀ (x:LI),Le (mvL2 r fun ls=>k2 (x :: ls)) (mvL r fun ls=>k (x :: ls)):=fun x=>le_mvL fun ls=>h _
   cases v<;>simp only [mvL2,mvL]<;>try exact Le.fail
   ·exact ih _
   ·refine Le.ask fun y=>?_
    cases y with
    | own E l=>
      refine Le.need fun h=>?_
      simp only [if_pos h];exact ih _
    | f x=>cases x<;>first | exact Le.fail | exact ih _
    | _=>exact Le.fail
def storeMv2 (c:Cfg) (T:TypeId) (t:Tmp) (p:AV):RM2:=
 match p,c.ti T with
 | .ptr b off,some i=>.peek b fun m=>if off+i.size≤m∧b % 3≠1∧b≠0 then .ask (tb t) none fun v=>match v with
    | .agg l=>mvL2 l fun ls=>if ls.length=i.size∧noDupB (ls.flatMap LI.src)=true∧(ls.flatMap LI.src).all (fun p=>p.1 != b)=true then .of (.ret (stMv b off ls)) else .of .fail
    | _=>.of .fail
   else .of .fail
 | _,_=>.of .fail
theorem le_storeMv {c:Cfg} {T:TypeId} {t:Tmp} {p:AV}:Le (storeMv2 c T t p) (storeMv c T t p):=by
 unfold storeMv2
 split
 ·rename_i b off i hi
  unfold storeMv
  simp only [hi]
  refine Le.peek fun m=>?_
  split
  ·refine Le.ask fun v=>?_
   cases v with
   | agg l=>
     refine le_mvL fun ls=>?_
     split
     ·exact Le.of _
     ·exact Le.fail
   | _=>exact Le.fail
  ·exact Le.fail
 ·exact Le.fail
def storeX2 (c:Cfg) (T:TypeId) (x:Operand) (p:AV):RM2:=
 match mvS c x with
 | some t=>storeMv2 c T t p
 | none=>match vsS c x with
   | true=>.of (storeVw c T x p)
   | false=>store2 c T x p
theorem le_storeX {c:Cfg} {T:TypeId} {x:Operand} {p:AV}:Le (storeX2 c T x p) (storeX c T x p):=by
 unfold storeX2 storeX
 cases mvS c x with
 | some t=>exact le_storeMv
 | none=>cases vsS c x with
   | true=>exact Le.of _
   | false=>exact le_store
def apGo2 (c:Cfg) (d:Option Tmp) (E:TypeId) (i:TI) (ys:AV) (l:List FV) (bo:Option (Nat×Nat)):RM2:=
 cpL2 [ys] fun y W=>if boOk W bo=true then match y with
  | [.f (.sl m)]=>.need ((l.length+m.length) * i.bytes≤2 ^ 47) (.need (m.all (FV.fits i.size)=true) (.of (finNew c d (W++boUps bo) E (l++m))))
  | [.f (.pv (.string s))]=>.need ((l.length+s.size) * i.bytes≤2 ^ 47) (if i.size=1 then .of (finNew c d (W++boUps bo) E (l++strElems s)) else .of .fail)
  | _=>.of .fail
 else .of .fail
theorem le_cp1 {v:AV} {k2:List AV→List Up→RM2} {k:AV→List Up→RM} (h:∀ x U,Le (k2 [x] U) (k x U)):Le (cpL2 [v] k2) (cp1 v k):=by
 cases v<;>simp only [cpL2,cp1,List.append_nil]<;>try exact Le.fail
 all_goals try exact h _ _
 refine Le.ask fun x=>?_
 cases x with
 | own E l=>exact h _ _
 | f x=>cases x<;>first | exact Le.fail | exact h _ _
 | _=>exact Le.fail
theorem le_apGo {c:Cfg} {d:Option Tmp} {E:TypeId} {i:TI} {ys:AV} {l:List FV} {bo:Option (Nat×Nat)}:Le (apGo2 c d E i ys l bo) (apGo c d E i ys l bo):=by
 unfold apGo2 apGo
 refine le_cp1 fun y W=>?_
 split
 ·split
  ·rename_i heq;simp at heq;subst heq
   refine Le.need fun h1=>Le.need fun h2=>?_
   simp only [if_pos (And.intro h1 h2)];exact Le.of _
  ·rename_i heq;simp at heq;subst heq
   refine Le.need fun h1=>?_
   split
   ·rename_i h2;simp only [if_pos (And.intro h1 h2)];exact Le.of _
   ·exact Le.fail
  ·exact Le.fail
 ·exact Le.fail
def apBase2 (c:Cfg) (d:Option Tmp) (E:TypeId) (i:TI) (x:Operand) (ys:AV):RM2:=
 match x with
 | .const (.slice none 0 0)=>apGo2 c d E i ys [] none
 | .tmp t=>.ask (tb t) none fun v=>match v with
   | .rf b o j n=>.ask b (some o) fun y=>match y with
     | .own E' l=>if E'=E then .need (j=0∧n=l.length) (apGo2 c d E i ys l (some (b,o))) else .of .fail
     | _=>.of .fail
   | .own E' l=>if E'=E then apGo2 c d E i ys l (some (tb t,0)) else .of .fail
   | _=>.of .fail
 | _=>.of .fail
theorem le_apBase {c:Cfg} {d:Option Tmp} {E:TypeId} {i:TI} {x:Operand} {ys:AV}:Le (apBase2 c d E i x ys) (apBase c d E i x ys):=by
 unfold apBase2 apBase
 split
 ·exact le_apGo
 ·refine Le.ask fun v=>?_
  cases v with
  | rf b o j n=>
    refine Le.ask fun y=>?_
    cases y with
    | own E' l=>
      dsimp only
      split
      ·rename_i hE
       refine Le.need fun h=>?_
       rw [if_pos ⟨h.1,h.2,hE⟩];exact le_apGo
      ·exact Le.fail
    | _=>exact Le.fail
  | own E' l=>
    dsimp only
    split
    ·exact le_apGo
    ·exact Le.fail
  | _=>exact Le.fail
 ·exact Le.fail
def append2 (c:Cfg) (d:Option Tmp) (T T2:TypeId) (x:Operand) (ys:AV):RM2:=
 match c.ti T,c.ti T2 with
 | some { desc:=.slice E,.. },some i2=>match c.ti E with
   | some i=>match i.zero with
     | some z=>if isSrcD i2.desc=true∧0 < i.bytes∧0 < i.size∧z.leaves.length=i.size then apBase2 c d E i x ys else .of .fail
     | none=>.of .fail
   | none=>.of .fail
 | _,_=>.of .fail
theorem le_append {c:Cfg} {d:Option Tmp} {T T2:TypeId} {x:Operand} {ys:AV}:Le (append2 c d T T2 x ys) (appendRM c d T T2 x ys):=by
 unfold append2
 split
 ·rename_i h1 h2
  unfold appendRM
  simp only [h1,h2]
  cases hE:c.ti _ with
  | some i=>cases hz:i.zero with
    | some z=>
      simp only [hz]
      split
      ·exact le_apBase
      ·exact Le.fail
    | none=>simp only [hz];exact Le.fail
  | none=>exact Le.fail
 ·exact Le.fail
def bnd2 (x:Option AV) (dflt:Nat):Option (Prop×Nat):=
 match x with
 | none=>some (True,dflt)
 | some (.f (.pv (.int _ n)))=>some (0≤n,n.toNat)
 | _=>none
def slice2 (c:Cfg) (d:Option Tmp) (T:TypeId) (v:AV) (lo hi:Option AV):RM2:=
 match v,c.ti T with
 | .f (.pv (.string s)),some { desc:=.string,.. }=>match bnd2 lo 0,bnd2 hi s.size with
   | some (p,l),some (q,h)=>.need (p∧q∧l≤h∧h≤s.size) (.of (fin c d [] (.f (.pv (.string (s.extract l h))))))
   | _,_=>.of .fail
 | .f (.sl es),some { desc:=.slice E,.. }=>match bnd2 lo 0,bnd2 hi es.length,c.ti E with
   | some (p,l),some (q,h),some i=>.need (p∧q∧l≤h∧h≤es.length∧es.all (FV.fits i.size)=true) (.of (fin c d [] (.f (.sl ((es.drop l).take (h - l))))))
   | _,_,_=>.of .fail
 | .rf b o j n,some { desc:=.slice E,.. }=>match bnd2 lo 0,bnd2 hi n,c.ti E with
   | some (p,l),some (q,h),some i=>.need (p∧q∧l=0∧h≤n) (seen2 (.rf b o j n) (.of (fin c d [] (.rf b o j h))))
   | _,_,_=>.of .fail
 | _,_=>.of (sliceRM c d T v lo hi)
def bnd1 (x:Option AV) (dflt:Nat):Option Nat:=
 match x with
 | none=>some dflt
 | some (.f (.pv (.int _ n)))=>if 0≤n then some n.toNat else none
 | _=>none
theorem zc7 {x:Option AV} {dflt:Nat} {p:Prop} {l:Nat} (h:bnd2 x dflt=some (p,l)) (hp:p):bnd1 x dflt=some l:=by
 unfold bnd2 at h
 unfold bnd1
 split at h
 ·simp only [Option.some.injEq,Prod.mk.injEq] at h;simp [h.2]
 ·simp only [Option.some.injEq,Prod.mk.injEq] at h;obtain ⟨rfl,rfl⟩:=h;simp [hp]
 ·cases h
theorem zgX {c:Cfg} {d:Option Tmp} {T:TypeId} {v:AV} {lo hi:Option AV}:Le (slice2 c d T v lo hi) (sliceRM c d T v lo hi):=by
 have e:sliceRM c d T v lo hi=(match v,c.ti T with
 | .f (.pv (.string s)),some { desc:=.string,.. }=>match bnd1 lo 0,bnd1 hi s.size with
   | some l,some h=>if l≤h∧h≤s.size then fin c d [] (.f (.pv (.string (s.extract l h)))) else .fail
   | _,_=>.fail
 | .f (.sl es),some { desc:=.slice E,.. }=>match bnd1 lo 0,bnd1 hi es.length,c.ti E with
   | some l,some h,some i=>if l≤h∧h≤es.length∧es.all (FV.fits i.size)=true then fin c d [] (.f (.sl ((es.drop l).take (h - l)))) else .fail
   | _,_,_=>.fail
 | .rf b o j n,some { desc:=.slice E,.. }=>match bnd1 lo 0,bnd1 hi n,c.ti E with
   | some l,some h,some i=>if l≤h∧h≤n then (if l=0 then seen (.rf b o j n) (fin c d [] (.rf b o j h)) else .fail) else .fail
   | _,_,_=>.fail
 | _,_=>.fail):=rfl
 unfold slice2
 split
 ·rename_i s _ _ _ ht
  rw [e]
  simp only [ht]
  split
  ·rename_i h1 h2
   refine Le.need fun h=>?_
   obtain ⟨hp,hq,h3⟩:=h
   simp only [zc7 h1 hp,zc7 h2 hq,if_pos h3];exact Le.of _
  ·exact Le.fail
 ·rename_i es E _ _ _ ht
  rw [e]
  simp only [ht]
  split
  ·rename_i h1 h2 h4
   refine Le.need fun h=>?_
   obtain ⟨hp,hq,h3⟩:=h
   simp only [zc7 h1 hp,zc7 h2 hq,h4,if_pos h3];exact Le.of _
  ·exact Le.fail
 ·rename_i b o j n E _ _ _ ht
  rw [e]
  simp only [ht]
  split
  ·rename_i h1 h2 h4
   refine Le.need fun h=>?_
   obtain ⟨hp,hq,h3,h5⟩:=h
   subst h3
   simp only [zc7 h1 hp,zc7 h2 hq,h4,if_pos (And.intro (Nat.zero_le _) h5),if_true];exact le_seen (Le.of _)
  ·exact Le.fail
 ·exact Le.of _
def makeSlice2 (c:Cfg) (d:Option Tmp) (T:TypeId) (l cp:AV):RM2:=
 match l,cp,c.ti T with
 | .f (.pv (.int _ n)),.f (.pv (.int _ m)),some { desc:=.slice E,.. }=>match c.ti E with
   | some { size:=sz,bytes:=by_,zero:=some z,.. }=>match z.elem with
     | some e=>.need (0≤n∧n≤m∧m < 2 ^ 40∧by_ * m≤2 ^ 47) (if 0 < sz∧e.fits sz=true then .of (finNew c d [] E (List.replicate n.toNat e)) else .of .fail)
     | none=>.of .fail
   | _=>.of .fail
 | _,_,_=>.of .fail
theorem le_makeSlice {c:Cfg} {d:Option Tmp} {T:TypeId} {l cp:AV}:Le (makeSlice2 c d T l cp) (makeSliceRM c d T l cp):=by
 unfold makeSlice2
 split
 ·rename_i _ n _ m E _ _ _ ht
  unfold makeSliceRM
  simp only [ht]
  split
  ·rename_i hE
   simp only [hE]
   split
   ·rename_i e he
    refine Le.need fun h=>?_
    simp only [he]
    split
    ·rename_i h2
     rw [if_pos ⟨h.1,h.2.1,h.2.2.1,h.2.2.2,h2.1,h2.2⟩];exact Le.of _
    ·exact Le.fail
   ·exact Le.fail
  ·exact Le.fail
 ·exact Le.fail
def ipGo2 (c:Cfg) (d:Option Tmp) (f:List FV→Option (List FV)) (back:Bool) (b o:Nat) (E:TypeId) (l:List FV):RM2:=
 .lst (f l) fun l'=>
  if back=true then (match d with
   | some t=>if t < c.nt then .of (.ret [.leaf b o .bad,.set (tb t) (.own E l')]) else .of .fail
   | none=>.of .fail)
  else .need (l'.length=l.length) (.of (fin c d [.upo b o (.own E l')] (.tup [])))
theorem le_ipGo {c:Cfg} {d:Option Tmp} {f:List FV→Option (List FV)} {back:Bool} {b o:Nat} {E:TypeId} {l:List FV}:Le (ipGo2 c d f back b o E l) (ipGo c d f back b o E l):=by
 unfold ipGo2 ipGo
 refine Le.lst fun l' h=>?_
 simp only [h]
 split
 ·cases d with
  | some t=>
    dsimp only
    split
    ·exact Le.of _
    ·exact Le.fail
  | none=>exact Le.fail
 ·refine Le.need fun h=>?_
  rw [if_pos h];exact Le.of _
def ip2 (c:Cfg) (d:Option Tmp) (f:List FV→Option (List FV)) (back:Bool) (t:Tmp):RM2:=
 .ask (tb t) none fun v=>match v with
  | .rf b o i n=>.ask b (some o) fun y=>match y with
    | .own E l=>.need (i=0∧n=l.length) (ipGo2 c d f back b o E l)
    | _=>.of .fail
  | .own E l=>ipGo2 c d f back (tb t) 0 E l
  | _=>.of .fail
theorem le_ip {c:Cfg} {d:Option Tmp} {f:List FV→Option (List FV)} {back:Bool} {t:Tmp}:Le (ip2 c d f back t) (ipRM c d f back t):=by
 unfold ip2 ipRM
 refine Le.ask fun v=>?_
 cases v with
 | rf b o i n=>
   refine Le.ask fun y=>?_
   cases y with
   | own E l=>
     refine Le.need fun h=>?_
     simp only [if_pos h];exact le_ipGo
   | _=>exact Le.fail
 | own E l=>exact le_ipGo
 | _=>exact Le.fail
def sliceOp2 (c:Cfg) (d:Option Tmp) (t:TypeId) (x:Operand) (lo hi:Option Operand):RM2:=
 rdO2 x fun v=>match lo,hi with
  | none,none=>slice2 c d t v none none
  | some l,none=>rdO2 l fun a=>slice2 c d t v (some a) none
  | none,some h=>rdO2 h fun b=>slice2 c d t v none (some b)
  | some l,some h=>rdO2 l fun a=>rdO2 h fun b=>slice2 c d t v (some a) (some b)
theorem le_sliceOp {c:Cfg} {d:Option Tmp} {t:TypeId} {x:Operand} {lo hi:Option Operand}:Le (sliceOp2 c d t x lo hi) (sliceOpRM c d t x lo hi):=by
 unfold sliceOp2 sliceOpRM
 refine zbS fun v=>?_
 cases lo<;>cases hi
 ·exact zgX
 ·exact zbS fun b=>zgX
 ·exact zbS fun b=>zgX
 ·exact zbS fun b=>zbS fun b'=>zgX
def grow2 (c:Cfg) (d:Option Tmp) (E:TypeId) (v:AV):RM2:=
 match v with
 | .f (.pv (.int .i64 n))=>.need (0≤n∧n≤2 ^ 40) (.of (finNew c d [] E []))
 | _=>.of .fail
theorem le_grow {c:Cfg} {d:Option Tmp} {E:TypeId} {v:AV}:Le (grow2 c d E v) (growRM c d E v):=by
 unfold grow2
 split
 ·refine Le.need fun h=>?_
  simp only [growRM,if_pos h];exact Le.of _
 ·exact Le.fail
def copyGo2 (c:Cfg) (d:Option Tmp) (E:TypeId) (i:TI) (b q:Nat) (l:List FV) (v:AV):RM2:=
 match v with
 | .f (.sl m)=>.need (m.all (FV.fits i.size)=true) (.of (fin c d [.upo b q (.own E (m.take l.length++l.drop m.length))] (.f (.pv (.int .i64 ((min m.length l.length:Nat):Int))))))
 | _=>.of .fail
theorem le_copyGo {c:Cfg} {d:Option Tmp} {E:TypeId} {i:TI} {b q:Nat} {l:List FV} {v:AV}:Le (copyGo2 c d E i b q l v) (copyGo c d E i b q l v):=by
 unfold copyGo2 copyGo
 split
 ·refine Le.need fun h=>?_
  simp only [if_pos h];exact Le.of _
 ·exact Le.fail
def copyTo2 (c:Cfg) (d:Option Tmp) (E:TypeId) (i:TI) (x:Operand) (v:AV):RM2:=
 match x with
 | .tmp t=>.ask (tb t) none fun y=>match y with
   | .rf b q j n=>.ask b (some q) fun z=>match z with
     | .own E' l=>if E'=E then .need (j=0∧n=l.length) (copyGo2 c d E i b q l v) else .of .fail
     | _=>.of .fail
   | .own E' l=>if E'=E then copyGo2 c d E i (tb t) 0 l v else .of .fail
   | _=>.of .fail
 | _=>.of .fail
theorem le_copyTo {c:Cfg} {d:Option Tmp} {E:TypeId} {i:TI} {x:Operand} {v:AV}:Le (copyTo2 c d E i x v) (copyTo c d E i x v):=by
 unfold copyTo2 copyTo
 split
 ·refine Le.ask fun v=>?_
  cases v with
  | rf b o j n=>
    refine Le.ask fun y=>?_
    cases y with
    | own E' l=>
      dsimp only
      split
      ·rename_i hE
       refine Le.need fun h=>?_
       rw [if_pos ⟨h.1,h.2,hE⟩];exact le_copyGo
      ·exact Le.fail
    | _=>exact Le.fail
  | own E' l=>
    dsimp only
    split
    ·exact le_copyGo
    ·exact Le.fail
  | _=>exact Le.fail
 ·exact Le.fail
def copy2 (c:Cfg) (d:Option Tmp) (T:TypeId) (x:Operand) (v:AV):RM2:=
 match c.ti T with
 | some { desc:=.slice E,.. }=>match c.ti E with
   | some i=>if 0 < i.size then copyTo2 c d E i x v else .of .fail
   | none=>.of .fail
 | _=>.of .fail
theorem le_copy {c:Cfg} {d:Option Tmp} {T:TypeId} {x:Operand} {v:AV}:Le (copy2 c d T x v) (copyRM c d T x v):=by
 unfold copy2
 split
 ·rename_i h1
  unfold copyRM
  simp only [h1]
  cases hE:c.ti _ with
  | some i=>
    dsimp only
    split
    ·exact le_copyTo
    ·exact Le.fail
  | none=>exact Le.fail
 ·exact Le.fail
def make02 (c:Cfg) (d:Option Tmp) (T:TypeId) (l cp:AV):RM2:=
 match l,cp,c.ti T with
 | .f (.pv (.int _ n)),.f (.pv (.int _ m)),some { desc:=.slice E,.. }=>match c.ti E with
   | some { size:=sz,bytes:=by_,zero:=some z,.. }=>.need (n=0∧0≤m∧m < 2 ^ 40∧by_ * m≤2 ^ 47) (if 0 < sz∧z.leaves.length=sz then .of (finNew c d [] E []) else .of .fail)
   | _=>.of .fail
 | _,_,_=>.of .fail
theorem le_make0 {c:Cfg} {d:Option Tmp} {T:TypeId} {l cp:AV}:Le (make02 c d T l cp) (make0RM c d T l cp):=by
 unfold make02
 split
 ·rename_i _ n _ m E _ _ _ ht
  unfold make0RM
  simp only [ht]
  split
  ·rename_i hE
   simp only [hE]
   refine Le.need fun h=>?_
   split
   ·rename_i h2
    rw [if_pos ⟨h.1,h.2.1,h.2.2.1,h.2.2.2,h2.1,h2.2⟩];exact Le.of _
   ·exact Le.fail
  ·exact Le.fail
 ·exact Le.fail
def make2 (c:Cfg) (d:Option Tmp) (T:TypeId) (l cp:AV):RM2:=if noElem c T=true then make02 c d T l cp else makeSlice2 c d T l cp
theorem le_make {c:Cfg} {d:Option Tmp} {T:TypeId} {l cp:AV}:Le (make2 c d T l cp) (makeRM c d T l cp):=by
 unfold make2 makeRM
 split
 ·exact le_make0
 ·exact le_makeSlice
def toStr2 (c:Cfg) (d:Option Tmp) (v:AV):RM2:=
 cpL2 [v] fun y W=>match y with
  | [.f (.sl m)]=>.need (m.all isByteF=true) (.of (fin c d W (.f (.pv (.string (bytesT m))))))
  | _=>.of .fail
theorem le_toStr {c:Cfg} {d:Option Tmp} {v:AV}:Le (toStr2 c d v) (toStrGo c d v):=by
 unfold toStr2 toStrGo
 refine le_cp1 fun y W=>?_
 split
 ·rename_i heq;simp at heq;subst heq
  refine Le.need fun h=>?_
  simp only [if_pos h];exact Le.of _
 ·exact Le.fail
def conv2 (c:Cfg) (d:Option Tmp) (src dst:TypeId) (v:AV):RM2:=
 match cvKind c src dst with
 | .str e=>if isU8 c e=true then toStr2 c d v else .of .fail
 | .bytes e=>if isU8 c e=true then .of (toBytesGo c d v) else .of .fail
 | .other=>.of (optRM c d (convAV c src dst v))
theorem le_conv {c:Cfg} {d:Option Tmp} {src dst:TypeId} {v:AV}:Le (conv2 c d src dst v) (convRM c d src dst v):=by
 unfold conv2 convRM
 cases cvKind c src dst with
 | str e=>
   dsimp only
   split
   ·exact le_toStr
   ·exact Le.fail
 | bytes e=>
   dsimp only
   split
   ·exact Le.of _
   ·exact Le.fail
 | other=>exact Le.of _
def op2 (c:Cfg) (o:Oper):RM2:=
 match o.op with
 | .pick q a b=>rdO2 q fun v=>match v with
   | .f (.pv (.bool t))=>.br t (.of (rdO a (fin c o.dst []))) (.of (rdO b (fin c o.dst [])))
   | _=>.of .fail
 | .load T a=>rdO2 a fun p=>load2 c T o.dst p
 | .store T a x=>if o.dst.isNone=true then rdO2 a fun p=>storeX2 c T x p else .of .fail
 | .binOp op T x y _=>rdO2 x fun a=>rdO2 y fun b=>bin2 c o.dst op T a b
 | .makeSlice t l n=>rdO2 l fun a=>rdO2 n fun b=>make2 c o.dst t a b
 | .convert s t x=>rdO2 x fun v=>conv2 c o.dst s t v
 | .slice t x lo hi none=>sliceOp2 c o.dst t x lo hi
 | .indexAddr t x i=>rdO2 x fun v=>rdO2 i fun w=>indexAddr2 c o.dst t v w
 | .index t x i=>rdO2 x fun v=>rdO2 i fun w=>index2 c o.dst t v w
 | .call { callee:=.builtin .append,args,argTypes }=>match args.toList,argTypes.toList with
   | [x,y],[T,T2]=>rdO2 y fun v=>append2 c o.dst T T2 x v
   | _,_=>.of .fail
 | .call { callee:=.builtin .copy,args,argTypes }=>match args.toList,argTypes.toList with
   | [x,y],[T,_]=>rdO2 y fun v=>copy2 c o.dst T x v
   | _,_=>.of .fail
 | .call { callee:=.value f,args,.. }=>match ipOf c f args.toList with
   | some (_,f,back,t)=>ip2 c o.dst f back t
   | none=>match grOf c f args.toList with
     | some (_,E,y)=>rdO2 y (grow2 c o.dst E)
     | none=>.of (opRM c o)
 | _=>.of (opRM c o)
theorem le_op {c:Cfg} {o:Oper}:Le (op2 c o) (opRM c o):=by
 unfold op2
 split
 ·rename_i h
  simp only [opRM,h]
  refine zbS fun v=>?_
  cases v with
  | f x=>cases x with
    | pv u=>cases u with
      | bool t=>
        refine Le.br (fun e=>?_) (fun e=>?_)
        ·subst e;exact Le.of _
        ·subst e;exact Le.of _
      | _=>exact Le.fail
    | _=>exact Le.fail
  | _=>exact Le.fail
 ·rename_i h
  simp only [opRM,h]
  exact zbS fun v=>le_load
 ·rename_i h
  simp only [opRM,h]
  split
  ·exact zbS fun v=>le_storeX
  ·exact Le.fail
 ·rename_i h
  simp only [opRM,h]
  exact zbS fun v=>zbS fun w=>le_bin
 ·rename_i h
  simp only [opRM,h]
  exact zbS fun v=>zbS fun w=>le_make
 ·rename_i h
  simp only [opRM,h]
  exact zbS fun v=>le_conv
 ·rename_i h
  simp only [opRM,h]
  exact le_sliceOp
 ·rename_i h
  simp only [opRM,h]
  exact zbS fun v=>zbS fun w=>le_indexAddr
 ·rename_i h
  simp only [opRM,h]
  exact zbS fun v=>zbS fun w=>le_index
 ·rename_i h
  simp only [opRM,h]
  split
  ·rename_i x y T T2 h1 h2
   simp only [h1,h2,builtinRM]
   exact zbS fun v=>le_append
  ·exact Le.fail
 ·rename_i h
  simp only [opRM,h]
  split
  ·rename_i x y T T2 h1 h2
   simp only [h1,h2,builtinRM]
   exact zbS fun v=>le_copy
  ·exact Le.fail
 ·rename_i h
  split
  ·rename_i h1
   simp only [opRM,h,h1]
   exact le_ip
  ·rename_i h1
   split
   ·rename_i h2
    simp only [opRM,h,h1,h2]
    exact zbS fun v=>le_grow
   ·exact Le.of _
 ·exact Le.of _
def guard2 (c:Cfg) (ops:Array Oper) (o:Oper):RM2:=
 match o.guard with
 | none=>op2 c o
 | some (j,want)=>match (ops[j]?).bind (·.dst) with
   | none=>.of .fail
   | some t=>.ask (tb t) none fun v=>match v with
     | .f (.pv (.bool b))=>.br (b == want) (op2 c o) (.of (fin c o.dst [] (.tup [])))
     | .tup []=>.of (fin c o.dst [] (.tup []))
     | _=>.of .fail
theorem le_guard {c:Cfg} {ops:Array Oper} {o:Oper}:Le (guard2 c ops o) (guardRM c ops o):=by
 unfold guard2 guardRM
 cases o.guard with
 | none=>exact le_op
 | some p=>
   obtain ⟨j,want⟩:=p
   dsimp only
   cases (ops[j]?).bind (·.dst) with
   | none=>exact Le.fail
   | some t=>
     refine Le.ask fun v=>?_
     cases v with
     | f x=>cases x with
       | pv u=>cases u with
         | bool b=>
           refine Le.br (fun e=>?_) (fun e=>?_)
           ·simp only [if_pos (show b=want by simpa using e)];exact le_op
           ·simp only [if_neg (show ¬ b=want by simpa using e)];exact Le.of _
         | _=>exact Le.fail
       | _=>exact Le.fail
     | tup l=>cases l with
       | nil=>exact Le.of _
       | cons x r=>exact Le.fail
     | _=>exact Le.fail
inductive Ora where
 | e (x:FV)
 | l (x:List FV)
 | y (x:UInt8)
 | b (x:Bool)
 | c (r:AV) (outs:List AV)
 | n (m:Nat)
def AllP:List Prop→Prop
 | []=>True
 | p :: r=>p∧AllP r
theorem zds:∀ {l m:List Prop},AllP (l++m)→AllP l∧AllP m
 | [],m,h=>⟨trivial,h⟩
 | p :: r,m,h=>let ⟨h1,h2⟩:=zds h.2;⟨⟨h.1,h1⟩,h2⟩
abbrev EvR:=Option (List Prop×List Ora×List Up×List Acc)
def addOb (p:Prop):EvR→EvR
 | some (obs,r)=>some (p :: obs,r)
 | none=>none
def RM.ev (CE:CEx) (G:Sta):RM→List Acc→List Ora→EvR
 | .ret U,T,q=>some ([],q,U,T)
 | .fail,_,_=>none
 | .ask b o k,T,q=>match look G b o with
   | some v=>match v.ok with
     | true=>(k v).ev CE G (T++accOf b o :: v.refs) q
     | false=>none
   | none=>none
 | .peek b k,T,q=>match get G b with
   | some v=>(k v.leaves.length).ev CE G (T++[.id b]) q
   | none=>none
 | .call g args outs k,T,q=>match q with
   | .c r outs' :: q=>addOb (CE g args outs r outs') ((k r outs').ev CE G T q)
   | _=>none
def RM2.ev (CE:CEx) (G:Sta):RM2→List Acc→List Ora→EvR
 | .of m,T,q=>m.ev CE G T q
 | .ask b o k,T,q=>match look G b o with
   | some v=>match v.ok with
     | true=>(k v).ev CE G (T++accOf b o :: v.refs) q
     | false=>none
   | none=>none
 | .need p m,T,q=>addOb p (m.ev CE G T q)
 | .elem l n k,T,q=>match q with
   | .e x :: q=>addOb (l[n]?=some x) ((k x).ev CE G T q)
   | _=>none
 | .lst x k,T,q=>match q with
   | .l y :: q=>addOb (x=some y) ((k y).ev CE G T q)
   | _=>none
 | .byte s n k,T,q=>match q with
   | .y x :: q=>addOb (s[n]?=some x) ((k x).ev CE G T q)
   | _=>none
 | .br b x y,T,q=>match q with
   | .b true :: q=>addOb (b=true) (x.ev CE G T q)
   | .b false :: q=>addOb (b=false) (y.ev CE G T q)
   | _=>none
 | .peek b k,T,q=>match get G b with
   | some v=>(k v.leaves.length).ev CE G (T++[.id b]) q
   | none=>none
 | .num n _ k,T,q=>match q with
   | .n m :: q=>addOb (n=m) ((k m).ev CE G T q)
   | q=>match n with
     | .ofNat m=>(k m).ev CE G T q
     | .negSucc _=>none
theorem zbL {p:Prop} {x:EvR} {obs:List Prop} {r:List Ora×List Up×List Acc} (h:addOb p x=some (obs,r)):∃ o,x=some (o,r)∧obs=p :: o:=by
 unfold addOb at h
 split at h
 ·simp only [Option.some.injEq,Prod.mk.injEq] at h;obtain ⟨rfl,rfl⟩:=h;exact ⟨_,rfl,rfl⟩
 ·cases h
theorem RM.ev_wp {CE:CEx} {G:Sta}:∀ (m:RM) {T:List Acc} {q q':List Ora} {obs:List Prop} {U:List Up} {T':List Acc} {K:List Up→List Acc→Prop},
 m.ev CE G T q=some (obs,q',U,T')→AllP obs→K U T'→m.wp CE G T K
 | .ret U,T,q,q',obs,U',T',K,h,ho,hk=>by simp only [RM.ev,Option.some.injEq,Prod.mk.injEq] at h;obtain ⟨rfl,rfl,rfl,rfl⟩:=h;exact hk
 | .fail,T,q,q',obs,U',T',K,h,ho,hk=>by cases h
 | .ask b o k,T,q,q',obs,U',T',K,h,ho,hk=>by
   simp only [RM.ev] at h
   split at h
   ·rename_i v hv
    split at h
    ·rename_i hok;exact ⟨v,hv,hok,RM.ev_wp _ h ho hk⟩
    ·cases h
   ·cases h
 | .peek b k,T,q,q',obs,U',T',K,h,ho,hk=>by
   simp only [RM.ev] at h
   split at h
   ·rename_i v hv;exact ⟨v,hv,RM.ev_wp _ h ho hk⟩
   ·cases h
 | .call g args outs k,T,q,q',obs,U',T',K,h,ho,hk=>by
   unfold RM.ev at h
   split at h
   ·obtain ⟨o,h1,rfl⟩:=zbL h;exact ⟨_,_,ho.1,RM.ev_wp _ h1 ho.2 hk⟩
   ·cases h
theorem RM2.ev_wp {CE:CEx} {G:Sta}:∀ (m:RM2) {T:List Acc} {q q':List Ora} {obs:List Prop} {U:List Up} {T':List Acc} {K:List Up→List Acc→Prop},
 m.ev CE G T q=some (obs,q',U,T')→AllP obs→K U T'→m.wp CE G T K
 | .of m,T,q,q',obs,U',T',K,h,ho,hk=>RM.ev_wp m h ho hk
 | .ask b o k,T,q,q',obs,U',T',K,h,ho,hk=>by
   unfold RM2.ev at h
   try dsimp only at h
   split at h
   ·rename_i v hv
    split at h
    ·rename_i hok;exact ⟨v,hv,hok,RM2.ev_wp _ h ho hk⟩
    ·cases h
   ·cases h
 | .need p m,T,q,q',obs,U',T',K,h,ho,hk=>by
   unfold RM2.ev at h
   try dsimp only at h
   obtain ⟨o,h1,rfl⟩:=zbL h;exact ⟨ho.1,RM2.ev_wp _ h1 ho.2 hk⟩
 | .elem l n k,T,q,q',obs,U',T',K,h,ho,hk=>by
   unfold RM2.ev at h
   try dsimp only at h
   split at h
   ·obtain ⟨o,h1,rfl⟩:=zbL h;exact ⟨_,ho.1,RM2.ev_wp _ h1 ho.2 hk⟩
   ·cases h
 | .lst l k,T,q,q',obs,U',T',K,h,ho,hk=>by
   unfold RM2.ev at h
   try dsimp only at h
   split at h
   ·obtain ⟨o,h1,rfl⟩:=zbL h;exact ⟨_,ho.1,RM2.ev_wp _ h1 ho.2 hk⟩
   ·cases h
 | .byte s n k,T,q,q',obs,U',T',K,h,ho,hk=>by
   unfold RM2.ev at h
   try dsimp only at h
   split at h
   ·obtain ⟨o,h1,rfl⟩:=zbL h;exact ⟨_,ho.1,RM2.ev_wp _ h1 ho.2 hk⟩
   ·cases h
 | .br b x y,T,q,q',obs,U',T',K,h,ho,hk=>by
   unfold RM2.ev at h
   try dsimp only at h
   split at h
   ·obtain ⟨o,h1,rfl⟩:=zbL h;exact .inl ⟨ho.1,RM2.ev_wp _ h1 ho.2 hk⟩
   ·obtain ⟨o,h1,rfl⟩:=zbL h;exact .inr ⟨ho.1,RM2.ev_wp _ h1 ho.2 hk⟩
   ·cases h
 | .peek b k,T,q,q',obs,U',T',K,h,ho,hk=>by
   unfold RM2.ev at h
   try dsimp only at h
   split at h
   ·rename_i v hv;exact ⟨v,hv,RM2.ev_wp _ h ho hk⟩
   ·cases h
 | .num n len k,T,q,q',obs,U',T',K,h,ho,hk=>by
   unfold RM2.ev at h
   split at h
   ·obtain ⟨o,h1,rfl⟩:=zbL h;exact ⟨_,ho.1,RM2.ev_wp _ h1 ho.2 hk⟩
   ·split at h
    ·exact ⟨_,rfl,RM2.ev_wp _ h ho hk⟩
    ·cases h
def evOps (CE:CEx) (c:Cfg) (ops:Array Oper) (draw:Bool):List Oper→Nat→List Lg→Sta→List Ora→Option (List Prop×List Lg×Sta)
 | [],_,log,G,q=>match q with
   | []=>some ([],log,G)
   | _=>none
 | o :: r,i,log,G,q=>match (guard2 c ops o).ev CE G [] q with
   | some (obs,q',U,T)=>match evOps CE c ops draw r (i+1) (match draw with | true=>log++[⟨i,T++Ups.refs U,Ups.writes U⟩] | false=>[]) (app U G) q' with
     | some (obs',log',G')=>some (obs++obs',log',G')
     | none=>none
   | none=>none
end Go.Ev
set_option linter.unusedVariables false
set_option linter.unusedSimpArgs false
namespace Go.Ev
open Go Go.RowKit
variable {P : Program}
structure CK (w w':World):Prop where
 size:w.heap.size≤w'.heap.size
 cells:∀ (k:Nat) (arr:Array Value) (T:TypeId) (z:Nat×Nat),w.heap[k]?=some (Obj.cells arr T z)→w'.heap[k]?=some (Obj.cells arr T z)
theorem CK.refl (w:World):CK w w:=⟨Nat.le_refl _,fun _ _ _ _ h=>h⟩
theorem CK.trans {a b c:World} (h:CK a b) (k:CK b c):CK a c:=⟨Nat.le_trans h.size k.size,fun i x T z e=>k.cells i x T z (h.cells i x T z e)⟩
theorem CK.cell {w w':World} (h:CK w w') {p:Addr} {v:Value} (e:w.cell? p=some v):w'.cell? p=some v:=by
 have hb:∃ arr T z,w.heap[p.block]?=some (Obj.cells arr T z):=by
  unfold World.cell? at e
  split at e
  ·rename_i hb;exact ⟨_,_,_,hb⟩
  ·cases e
 obtain ⟨arr,T,z,hb⟩:=hb
 rw [World.cell?_of_block (w:=w) (by rw [hb];exact h.cells _ _ _ _ hb)];exact e
section
variable {own : Own} {w w' : World} {G : Sta}
theorem RF.ck (h:CK w w') {x:FV} {v:Value} (r:RF own w x v):RF own w' x v:=by
 induction r with
 | pv v h=>exact .pv v h
 | agg l arr hl _ ih=>exact .agg l arr hl ih
 | sl l a n c ad sz hn' hc ha hsz hcell _ ih=>
   refine .sl l a n c ad sz hn' hc (fun hne=>let ⟨h1,h2,h3,h4⟩:=ha hne;⟨h1,h2,h3,Nat.lt_of_lt_of_le h4 h.size⟩) hsz ?_ ?_
   ·intro i x j y e1 e2
    obtain ⟨v,e⟩:=hcell i x j y e1 e2
    exact ⟨v,h.cell e⟩
   ·intro i x j y v e1 e2 e3
    obtain ⟨v',e⟩:=hcell i x j y e1 e2
    rw [h.cell e] at e3;cases e3
    exact ih i x j y v e1 e2 e
theorem RC.ck (h:CK w w') {v:AV} {u:Value} (r:RC own w v u):RC own w' v u:=by
 cases v with
 | f x=>exact ⟨r.1,r.2.ck h⟩
 | fp x o=>
   obtain ⟨k,q,h1,h2,h3,h4⟩:=r
   exact ⟨k,q,h1,h2,Nat.lt_of_lt_of_le h3 h.size,fun j y hy=>let ⟨z,e1,e2⟩:=h4 j y hy;⟨z,h.cell e1,e2.ck h⟩⟩
 | _=>exact r
theorem OwnB.ck (h:CK w w') {b o:Nat} {E:TypeId} {k:Nat} {l:List FV} {c:Nat} (r:OwnB P own w b o E k l c):OwnB P own w' b o E k l c:=by
 obtain ⟨e1,arr,e2,e3,e4,e5⟩:=r
 exact ⟨e1,arr,h.cells _ _ _ _ e2,e3,e4,fun i x j y h1 h2=>let ⟨v,q1,q2⟩:=e5 i x j y h1 h2;⟨v,q1,q2.ck h⟩⟩
theorem R0.ck (h:CK w w') {v:AV} {u:Value} (r:R0 P G own w v u):R0 P G own w' v u:=by
 cases v with
 | rf b o i n=>
   simp only [R0,SlV] at r ⊢
   cases hg:look G b (some o) with
   | none=>trivial
   | some x=>
     rw [hg] at r
     cases x with
     | own E l=>
       obtain ⟨e1,a,c,e2,e3,e4⟩:=r
       exact ⟨e1,a,c,e2,e3,e4.imp id fun ⟨k,e5,e6⟩=>⟨k,e5,e6.ck h⟩⟩
     | f x=>cases x with
       | sl l=>exact ⟨r.1,r.2.ck h⟩
       | _=>trivial
     | _=>trivial
 | ep b o i c=>
   simp only [R0,EpV] at r ⊢
   cases hg:look G b (some o) with
   | none=>trivial
   | some x=>
     rw [hg] at r
     cases x with
     | own E l=>obtain ⟨e1,k,c,e2,e3⟩:=r;exact ⟨e1,k,c,e2,e3.ck h⟩
     | f x=>cases x with
       | sl l=>obtain ⟨x,e1,e2⟩:=r;exact ⟨x,e1,RC.ck h e2⟩
       | _=>trivial
     | _=>trivial
 | clo g caps=>
   obtain ⟨arr,h1,h2,h3⟩:=r
   exact ⟨arr,h1,h2,fun j x y e1 e2=>RC.ck h (h3 j x y e1 e2)⟩
 | bad=>trivial
 | f x=>exact RC.ck (own:=own) (u:=u) (v:=.f x) h r
 | ptr b o=>exact RC.ck (own:=own) (u:=u) (v:=.ptr b o) h r
 | fp x o=>exact RC.ck (own:=own) (u:=u) (v:=.fp x o) h r
 | own E l=>exact RC.ck (own:=own) (u:=u) (v:=.own E l) h r
 | agg l=>exact RC.ck (own:=own) (u:=u) (v:=.agg l) h r
 | tup l=>exact RC.ck (own:=own) (u:=u) (v:=.tup l) h r
theorem RO.ck (h:CK w w') {b o:Nat} {v:AV} {u:Value} (r:RO P G own w b o v u):RO P G own w' b o v u:=by
 cases v with
 | own E l=>
   obtain ⟨a,c,h1,h2,h3⟩:=r
   exact ⟨a,c,h1,h2,h3.imp id fun ⟨k,e1,e2⟩=>⟨k,e1,e2.ck h⟩⟩
 | bad=>trivial
 | f x=>exact R0.ck (P:=P) (G:=G) (own:=own) (u:=u) (v:=.f x) h r
 | ptr b o=>exact R0.ck (P:=P) (G:=G) (own:=own) (u:=u) (v:=.ptr b o) h r
 | fp x o=>exact R0.ck (P:=P) (G:=G) (own:=own) (u:=u) (v:=.fp x o) h r
 | rf b o i n=>exact R0.ck (P:=P) (G:=G) (own:=own) (u:=u) (v:=.rf b o i n) h r
 | ep b o i n=>exact R0.ck (P:=P) (G:=G) (own:=own) (u:=u) (v:=.ep b o i n) h r
 | clo g caps=>exact R0.ck (P:=P) (G:=G) (own:=own) (u:=u) (v:=.clo g caps) h r
 | agg l=>exact R0.ck (P:=P) (G:=G) (own:=own) (u:=u) (v:=.agg l) h r
 | tup l=>exact R0.ck (P:=P) (G:=G) (own:=own) (u:=u) (v:=.tup l) h r
theorem R1.ck (h:CK w w') {v:AV} {u:Value} (r:R1 P G own w v u):R1 P G own w' v u:=by
 cases v with
 | agg l=>
   obtain ⟨arr,h1,h2,h3⟩:=r
   exact ⟨arr,h1,h2,fun j x y e1 e2=>R0.ck h (h3 j x y e1 e2)⟩
 | bad=>trivial
 | f x=>exact R0.ck (P:=P) (G:=G) (own:=own) (u:=u) (v:=.f x) h r
 | ptr b o=>exact R0.ck (P:=P) (G:=G) (own:=own) (u:=u) (v:=.ptr b o) h r
 | fp x o=>exact R0.ck (P:=P) (G:=G) (own:=own) (u:=u) (v:=.fp x o) h r
 | rf b o i n=>exact R0.ck (P:=P) (G:=G) (own:=own) (u:=u) (v:=.rf b o i n) h r
 | ep b o i n=>exact R0.ck (P:=P) (G:=G) (own:=own) (u:=u) (v:=.ep b o i n) h r
 | clo g caps=>exact R0.ck (P:=P) (G:=G) (own:=own) (u:=u) (v:=.clo g caps) h r
 | own E l=>exact R0.ck (P:=P) (G:=G) (own:=own) (u:=u) (v:=.own E l) h r
 | tup l=>exact R0.ck (P:=P) (G:=G) (own:=own) (u:=u) (v:=.tup l) h r
theorem RL.ck (h:CK w w') {b:Nat} {v:AV} {u:Value} (r:RL P G own w b v u):RL P G own w' b v u:=by
 cases v with
 | agg l=>
   obtain ⟨arr,h1,h2,h3⟩:=r
   exact ⟨arr,h1,h2,fun j x y e1 e2=>RO.ck h (h3 j x y e1 e2)⟩
 | tup l=>
   obtain ⟨arr,h1,h2,h3⟩:=r
   exact ⟨arr,h1,h2,fun j x y e1 e2=>R1.ck h (h3 j x y e1 e2)⟩
 | bad=>trivial
 | f x=>exact RO.ck (P:=P) (G:=G) (own:=own) (b:=b) (o:=0) (u:=u) (v:=.f x) h r
 | ptr b o=>exact RO.ck (P:=P) (G:=G) (own:=own) (b:=b) (o:=0) (u:=u) (v:=.ptr b o) h r
 | fp x o=>exact RO.ck (P:=P) (G:=G) (own:=own) (b:=b) (o:=0) (u:=u) (v:=.fp x o) h r
 | rf b o i n=>exact RO.ck (P:=P) (G:=G) (own:=own) (b:=b) (o:=0) (u:=u) (v:=.rf b o i n) h r
 | ep b o i n=>exact RO.ck (P:=P) (G:=G) (own:=own) (b:=b) (o:=0) (u:=u) (v:=.ep b o i n) h r
 | clo g caps=>exact RO.ck (P:=P) (G:=G) (own:=own) (b:=b) (o:=0) (u:=u) (v:=.clo g caps) h r
 | own E l=>exact RO.ck (P:=P) (G:=G) (own:=own) (b:=b) (o:=0) (u:=u) (v:=.own E l) h r
theorem RB.ck (h:CK w w') {b:Nat} {v:AV} {arr:Array Value} (r:RB P G own w b v arr):RB P G own w' b v arr:=
 ⟨r.1,fun j x u e1 e2=>RO.ck h (r.2 j x u e1 e2)⟩
theorem St.ck {nt:Nat} {a:Act} (s:St P nt G own a w) (h:CK w w'):St P nt G own a w':=
 ⟨s.size,fun t v e=>let ⟨u,e1,e2⟩:=s.temps t v e;⟨u,e1,RL.ck h e2⟩,
  fun b v hb e=>let ⟨k,arr,T,e1,e2,e3⟩:=s.boxes b v hb e;⟨k,arr,T,e1,h.cells _ _ _ _ e2,RB.ck h e3⟩,
  s.one,fun k o e=>Nat.lt_of_lt_of_le (s.lt k o e) h.size⟩
end
def mark (D:Nat):Deferred:={ target:=.collected D,args:=#[] }
def Mks (w:World) (own':Own) (w':World) (a a':Act):Prop:=
 ∃ ds:List Nat,a'.defers=ds.map mark++a.defers∧ds.Nodup∧∀ D∈ds,w.heap.size≤D∧own' D=none∧w'.heap[D]?=some (Obj.deferred (some []))
theorem Mks.same {w w':World} {own':Own} {a a':Act} (h:a'.defers=a.defers):Mks w own' w' a a':=⟨[],by simpa using h,List.nodup_nil,fun D h=>by simp at h⟩
theorem Mks.trans {own own1 own2:Own} {w w1 w2:World} {a a1 a2:Act} (h:Mks w own1 w1 a a1) (t1:Tr own w own1 w1) (t2:Tr own1 w1 own2 w2) (k:Mks w1 own2 w2 a1 a2):Mks w own2 w2 a a2:=by
 obtain ⟨d1,e1,n1,h1⟩:=h
 obtain ⟨d2,e2,n2,h2⟩:=k
 have lt1:∀ D∈d1,D < w1.heap.size:=fun D hD=>(Array.getElem?_eq_some_iff.1 (h1 D hD).2.2).1
 refine ⟨d2++d1,by rw [e2,e1];simp,List.nodup_append.2 ⟨n2,n1,fun x hx y hy e=>?_⟩,fun D hD=>?_⟩
 ·have:=lt1 y hy;have:=(h2 x hx).1;omega
 ·rcases List.mem_append.1 hD with hD | hD
  ·obtain ⟨q1,q2,q3⟩:=h2 D hD
   exact ⟨Nat.le_trans t1.size q1,q2,q3⟩
  ·obtain ⟨q1,q2,q3⟩:=h1 D hD
   obtain ⟨r1,r2⟩:=t2.keep D (lt1 D hD) q2
   exact ⟨q1,r1,by rw [r2];exact q3⟩
theorem Mks.tr {own1 own2:Own} {w w1:World} {a a1:Act} (h:Mks w own1 w1 a a1) (t:Tr own1 w1 own2 w1):Mks w own2 w1 a a1:=by
 obtain ⟨d1,e1,n1,h1⟩:=h
 refine ⟨d1,e1,n1,fun D hD=>?_⟩
 obtain ⟨q1,q2,q3⟩:=h1 D hD
 exact ⟨q1,(t.keep D (Array.getElem?_eq_some_iff.1 q3).1 q2).1,q3⟩
theorem CK.put {w:World} {D:Nat} {o o':Obj} (h:w.heap[D]?=some o) (hc:∀ arr T z,o≠Obj.cells arr T z):CK w (w.putObj D o'):=
 ⟨by simp [World.putObj],fun k arr T z e=>by
   have:k≠D:=by rintro rfl;rw [h] at e;cases e;exact hc _ _ _ rfl
   rw [World.putObj_heap_other this];exact e⟩
theorem zgq {F:Fence} {n:Nat} {fn:Func} {R:Ending→World→Prop} {tmps:Array Value}:∀ (ds:List Nat) (w:World),ds.Nodup→(∀ D∈ds,w.heap[D]?=some (Obj.deferred (some [])))→
 (∀ w2,CK w w2→w2.os=w.os→w2.tape=w.tape→w2.output=w.output→(∀ k,k∉ds→w2.heap[k]?=w.heap[k]?)→∃ v,(results fn tmps).run P w2=.ok v w2∧R (.returned v) w2)→
 LeavesInM F n P fn tmps R (ds.map mark) .returning w
 | [],w,_,_,h=>h w (CK.refl w) rfl rfl rfl (fun _ _=>rfl)
 | D :: ds,w,hn,hd,h=>by
   obtain ⟨hn1,hn2⟩:=List.nodup_cons.1 hn
   have h0:=hd D (List.mem_cons_self ..)
   refine ⟨by simp,.inl ⟨D,_,rfl,run_takeDeferred h0,?_⟩⟩
   have hck:CK w (w.putObj D (Obj.deferred none)):=CK.put h0 (fun _ _ _ e=>by cases e)
   refine zgq ds _ hn2 (fun E hE=>?_) (fun w2 k1 k2 k3 k4 k5=>h w2 (hck.trans k1) k2 k3 k4 fun k hk=>?_)
   ·rw [World.putObj_heap_other (by rintro rfl;exact hn1 hE)];exact hd E (List.mem_cons_of_mem _ hE)
   ·rw [k5 k (fun hm=>hk (List.mem_cons_of_mem _ hm)),World.putObj_heap_other (by rintro rfl;exact hk (List.mem_cons_self ..))]
end Go.Ev
set_option linter.unusedVariables false
set_option linter.unusedSimpArgs false
namespace Go.Ev
open Go Go.RowKit
variable {P : Program}
structure COk (P:Program) (c:Cfg):Prop where
 cfg:CfgOk P c
 ip:IpsOk P c
 ro:P.follows .mixedOrders=true
def Wk (P:Program) (nt:Nat) (G G':Sta):Prop:=∀ own a w,St P nt G own a w→∃ own',St P nt G' own' a w∧Tr own w own' w
theorem Wk.refl {nt:Nat} {G:Sta}:Wk P nt G G:=fun own a w s=>⟨own,s,Tr.refl _ _⟩
theorem Wk.trans {nt:Nat} {G1 G2 G3:Sta} (h:Wk P nt G1 G2) (k:Wk P nt G2 G3):Wk P nt G1 G3:=by
 intro own a w s
 obtain ⟨o2,s2,t2⟩:=h own a w s
 obtain ⟨o3,s3,t3⟩:=k o2 a w s2
 exact ⟨o3,s3,t2.trans t3⟩
theorem Wk.drop {nt:Nat} {G:Sta} (d:Nat→Bool):Wk P nt G (dropN d G):=fun own a w s=>⟨own,s.drop d,Tr.refl _ _⟩
theorem Wk.frz {nt:Nat} {G:Sta} (b o:Nat):Wk P nt G ((Up.frz b o).app G):=fun own a w s=>by
 have:=s.frz b o
 exact ⟨_,this.1,this.2.tr⟩
def keepN (l:List Nat) (G:Sta):Sta:=dropN (fun b=>!l.contains b) G
def frzs:List (Nat×Nat)→Sta→Sta
 | [],G=>G
 | (b,o) :: r,G=>frzs r ((Up.frz b o).app G)
def tidy (fz:List (Nat×Nat)) (keep:List Nat) (G:Sta):Sta:=keepN keep (frzs fz G)
theorem Wk.frzs {nt:Nat}:∀ {fz:List (Nat×Nat)} {G:Sta},Wk P nt G (frzs fz G)
 | [],G=>Wk.refl
 | (b,o) :: r,G=>(Wk.frz b o).trans Wk.frzs
theorem Wk.tidy {nt:Nat} {fz:List (Nat×Nat)} {keep:List Nat} {G:Sta}:Wk P nt G (tidy fz keep G):=Wk.frzs.trans (Wk.drop _)
theorem Wk.eq {nt:Nat} {fz:List (Nat×Nat)} {keep:List Nat} {G G':Sta} (h:Ev.tidy fz keep G=G'):Wk P nt G G':=by rw [← h];exact Wk.tidy
def WideC (P:Program) (c:Cfg) (F:Fence):Prop:=WideF P F∧(c.rnd=false→F.round=none)
def Sem (P:Program) (c:Cfg) (x:Code) (G:Sta) (K:Ex→Sta→Prop):Prop:=
 ∀ (own:Own) (a:Act) (w:World) (F:Fence) (n:Nat) (Q:Exit→Act→World→Prop),WideC P c F→St P c.nt G own a w→
   (∀ e G' own' a' w',K e G'→St P c.nt G' own' a' w'→Tr own w own' w'→Mks w own' w' a a'→Q e.to a' w')→x.wpIn F n P Q a w
section
variable {c : Cfg} {G G' : Sta} {K K' : Ex → Sta → Prop} {x y z : Code}
theorem Sem.mono (h:Sem P c x G K) (hk:∀ e G',K e G'→K' e G'):Sem P c x G K':=fun own a w F n Q hF s hQ=>
 h own a w F n Q hF s fun e G' own' a' w' k s' t' d'=>hQ e G' own' a' w' (hk e G' k) s' t' d'
theorem Sem.weak (hw:Wk P c.nt G G') (h:Sem P c x G' K):Sem P c x G K:=fun own a w F n Q hF s hQ=>by
 obtain ⟨own',s',t'⟩:=hw own a w s
 exact h own' a w F n Q hF s' fun e G2 own2 a2 w2 k s2 t2 d2=>hQ e G2 own2 a2 w2 k s2 (t'.trans t2) d2
theorem Sem.skip (hw:Wk P c.nt G G') (h:K .normal G'):Sem P c .skip G K:=fun own a w F n Q hF s hQ=>by
 obtain ⟨own',s',t'⟩:=hw own a w s
 exact wpIn_skip (hQ .normal G' own' a w h s' t' (.same rfl))
theorem Sem.exit {i:Nat} (hw:Wk P c.nt G G') (h:K (.exit i) G'):Sem P c (.exit i) G K:=fun own a w F n Q hF s hQ=>by
 obtain ⟨own',s',t'⟩:=hw own a w s
 exact wpIn_exit (hQ (.exit i) G' own' a w h s' t' (.same rfl))
theorem Sem.ret (hw:Wk P c.nt G G') (h:K .ret G'):Sem P c .ret G K:=fun own a w F n Q hF s hQ=>by
 obtain ⟨own',s',t'⟩:=hw own a w s
 exact wpIn_ret (hQ .ret G' own' a w h s' t' (.same rfl))
theorem Sem.seq (h:Sem P c x G (seqK K fun G'=>Sem P c y G' K)):Sem P c (.seq x y) G K:=fun own a w F n Q hF s hQ=>by
 refine wpIn_seq (h own a w F n _ hF s ?_)
 intro e G' own' a' w' hk s' t' d'
 cases e with
 | normal=>exact hk own' a' w' F n Q hF s' fun e2 G2 own2 a2 w2 hk2 s2 t2 d2=>hQ e2 G2 own2 a2 w2 hk2 s2 (t'.trans t2) (d'.trans t' t2 d2)
 | exit id=>exact hQ _ G' own' a' w' hk s' t' d'
 | ret=>exact hQ _ G' own' a' w' hk s' t' d'
theorem Sem.cond {t:Nat} {b:Bool} (hg:get G (tb t)=some (.f (.pv (.bool b)))) (h1:b=true→Sem P c y G K) (h2:b=false→Sem P c z G K):Sem P c (.cond (.tmp t) y z) G K:=fun own a w F n Q hF s hQ=>by
 refine wpIn_cond (zbQ (P:=P) (G:=G) (own:=own) (w:=w) (s.temp hg)) ?_
 cases b with
 | true=>exact h1 rfl own a w F n Q hF s hQ
 | false=>exact h2 rfl own a w F n Q hF s hQ
theorem Sem.block {id:Nat} (h:Sem P c x G (blockK id K)):Sem P c (.block id x) G K:=fun own a w F n Q hF s hQ=>by
 refine wpIn_block (h own a w F n _ hF s ?_)
 intro e G' own' a' w' hk s' t' d'
 cases e with
 | normal=>exact hQ _ G' own' a' w' hk s' t' d'
 | ret=>exact hQ _ G' own' a' w' hk s' t' d'
 | exit j=>
   simp only [blockK] at hk
   simp only [Ex.to,Exit.inBlock]
   split at hk
   ·rename_i e;rw [if_pos e];exact hQ .normal G' own' a' w' hk s' t' d'
   ·rename_i e;rw [if_neg e];exact hQ (.exit j) G' own' a' w' hk s' t' d'
theorem Sem.loop {σ:Type} (st:σ→Sta) (Inv:σ→Prop) (μ:σ→Nat) (s0:σ) (h0:Wk P c.nt G (st s0)) (hI:Inv s0)
 (step:∀ s,Inv s→Sem P c x (st s) (seqK K fun G'=>∃ s',Wk P c.nt G' (st s')∧Inv s'∧μ s' < μ s)):Sem P c (.loop x) G K:=fun own a w F n Q hF s hQ=>by
 have ex:∀ a' w',(∃ m s own',m=μ s∧Inv s∧St P c.nt (st s) own' a' w'∧Tr own w own' w'∧Mks w own' w' a a')→∃ m,(∃ s own',m=μ s∧Inv s∧St P c.nt (st s) own' a' w'∧Tr own w own' w'∧Mks w own' w' a a')∧
  ∀ m',m' < m→¬ ∃ s own',m'=μ s∧Inv s∧St P c.nt (st s) own' a' w'∧Tr own w own' w'∧Mks w own' w' a a':=by
  rintro a' w' ⟨m,hm⟩
  induction m using Nat.strongRecOn with
  | _ m ih=>
    by_cases hlt:∃ m',m' < m∧∃ s own',m'=μ s∧Inv s∧St P c.nt (st s) own' a' w'∧Tr own w own' w'∧Mks w own' w' a a'
    ·obtain ⟨m',h1,h2⟩:=hlt;exact ih m' h1 h2
    ·exact ⟨m,hm,fun m' h1 h2=>hlt ⟨m',h1,h2⟩⟩
 classical
 let J:Act→World→Prop:=fun a' w'=>∃ m s own',m=μ s∧Inv s∧St P c.nt (st s) own' a' w'∧Tr own w own' w'∧Mks w own' w' a a'
 let ν:Act→World→Nat:=fun a' w'=>if h:J a' w' then (ex a' w' h).choose else 0
 obtain ⟨own0,st0,t0⟩:=h0 own a w s
 refine wpIn_loop J ν ⟨_,s0,own0,rfl,hI,st0,t0,.same rfl⟩ ?_
 intro a1 w1 hJ
 have hν:ν a1 w1=(ex a1 w1 hJ).choose:=by simp only [ν];rw [dif_pos hJ]
 obtain ⟨⟨s1,own1,m1,i1,st1,t1,d1⟩,_⟩:=(ex a1 w1 hJ).choose_spec
 refine step s1 i1 own1 a1 w1 F n _ hF st1 ?_
 intro e G' own' a' w' hk s' t' d'
 cases e with
 | exit id=>exact hQ _ G' own' a' w' hk s' (t1.trans t') (d1.trans t1 t' d')
 | ret=>exact hQ _ G' own' a' w' hk s' (t1.trans t') (d1.trans t1 t' d')
 | normal=>
   obtain ⟨s2,hw,hi',hlt⟩:=hk
   obtain ⟨own2,st2,t2⟩:=hw own' a' w' s'
   have hJ':J a' w':=⟨_,s2,own2,rfl,hi',st2,(t1.trans t').trans t2,(d1.trans t1 t' d').tr t2⟩
   refine ⟨hJ',?_⟩
   have hν':ν a' w'=(ex a' w' hJ').choose:=by simp only [ν];rw [dif_pos hJ']
   rw [hν,hν',m1]
   refine Nat.lt_of_le_of_lt (Nat.le_of_not_lt fun hlt'=>?_) hlt
   exact (ex a' w' hJ').choose_spec.2 _ hlt' ⟨s2,own2,rfl,hi',st2,(t1.trans t').trans t2,(d1.trans t1 t' d').tr t2⟩
end
section
variable {c : Cfg} {ops : Array Oper}
theorem zix {draw:Bool}:∀ (r:List Oper) {p:List Oper} {log log':List Lg} {G G':Sta} {q:List Ora} {obs:List Prop},ops.toList=p++r→evOps (CallE P) c ops draw r p.length log G q=some (obs,log',G')→AllP obs→
 ∃ es,es.map (·.i)=List.range' p.length r.length∧Runs (CallE P) (stepRM c ops) es G G'∧(draw=true→log'=log++es.map Ent.lg)
 | [],p,log,log',G,G',q,obs,hp,h,ho=>by
   unfold evOps at h
   split at h
   ·simp only [Option.some.injEq,Prod.mk.injEq] at h;obtain ⟨rfl,rfl,rfl⟩:=h;exact ⟨[],rfl,rfl,fun _=>by simp⟩
   ·cases h
 | o :: r,p,log,log',G,G',q,obs,hp,h,ho=>by
   have hop:ops[p.length]?=some o:=by
    rw [← Array.getElem?_toList,hp,List.getElem?_append_right (Nat.le_refl _)];simp
   unfold evOps at h
   split at h
   ·rename_i obs1 q' U T h1
    split at h
    ·rename_i obs2 log2 G2 h2
     simp only [Option.some.injEq,Prod.mk.injEq] at h
     obtain ⟨rfl,rfl,rfl⟩:=h
     obtain ⟨ho1,ho2⟩:=zds ho
     have hl:(p++[o]).length=p.length+1:=by simp
     rw [← hl] at h2
     obtain ⟨es,e1,e2,e3⟩:=zix r (p:=p++[o]) (by rw [hp];simp) h2 ho2
     refine ⟨⟨p.length,U,T⟩ :: es,by simp [e1,List.range'_succ],⟨?_,e2⟩,fun hd=>?_⟩
     ·rw [zfM hop]
      exact le_guard _ _ _ _ (RM2.ev_wp _ h1 ho1 ⟨rfl,rfl⟩)
     ·subst hd
      rw [e3 rfl];simp [Ent.lg,Ent.reads]
    ·cases h
   ·cases h
def evReg (P:Program) (c:Cfg) (x:Code) (q:List Ora) (fz:List (Nat×Nat)) (keep:List Nat) (G:Sta):Option (List Prop×Sta):=
 match x with
 | .region _ ops draw=>match evOps (CallE P) c ops draw ops.toList 0 [] G q with
   | some (obs,log,G')=>match draw with
     | true=>match topo ops && (ancOk ops (tabOf ops) && logOk (tabOf ops) log) with
       | true=>some (obs,tidy fz keep G')
       | false=>none
     | false=>some (obs,tidy fz keep G')
   | none=>none
 | _=>none
theorem Sem.region (hc:COk P c) {x:Code} {q:List Ora} {fz:List (Nat×Nat)} {keep:List Nat} {G G':Sta} {obs:List Prop} {K:Ex→Sta→Prop} (h:evReg P c x q fz keep G=some (obs,G')) (ho:AllP obs) (hk:K .normal G'):Sem P c x G K:=by
 intro own a w F n Q hF s hQ
 unfold evReg at h
 split at h
 ·rename_i id ops draw
  split at h
  ·rename_i obs' log G1 hev
   have hev':obs'=obs∧tidy fz keep G1=G'∧(draw=true→topo ops=true∧ancOk ops (tabOf ops)=true∧logOk (tabOf ops) log=true):=by
    cases draw with
    | true=>
      dsimp only at h
      split at h
      ·rename_i hb
       simp only [Bool.and_eq_true] at hb
       simp only [Option.some.injEq,Prod.mk.injEq] at h
       exact ⟨h.1,h.2,fun _=>hb⟩
      ·cases h
    | false=>
      simp only [Option.some.injEq,Prod.mk.injEq] at h
      exact ⟨h.1,h.2,fun h=>by cases h⟩
   obtain ⟨rfl,rfl,hd⟩:=hev'
   obtain ⟨es,e1,e2,e3⟩:=zix (P:=P) (p:=[]) _ rfl hev ho
   have e1:es.map (·.i)=List.range ops.size:=by rw [e1,List.range_eq_range'];simp
   have hlt:∀ x∈es,x.i < ops.size:=fun x hx=>by
    have:x.i∈es.map (·.i):=List.mem_map.2 ⟨x,hx,rfl⟩
    rw [e1] at this;exact List.mem_range.1 this
   have fin:∀ own' a' w',St P c.nt G1 own' a' w'→Tr own w own' w'→a'.defers=a.defers→Q .normal a' w':=by
    intro own' a' w' s' t' d'
    obtain ⟨own2,s2,t2⟩:=(Wk.tidy (P:=P) (fz:=fz) (keep:=keep)) own' a' w' s'
    exact hQ .normal _ own2 a' w' hk s2 (t'.trans t2) (.same d')
   cases draw with
   | true=>
     obtain ⟨htopo,htab,hlog⟩:=hd rfl
     obtain ⟨s1,t1⟩:=s.drawn (w.drawn+1)
     refine wpIn_region_any hc.ro ?_
     refine runs_any hc.cfg hc.ip (fun _ _ _ _ _ h=>h) hF.1 htopo ops.size es (by have:=congrArg List.length e1;simp at this;omega) (by simp) ?_ ?_ hlt (by rw [e1];exact List.pairwise_lt_range) (zhJ htopo htab hlt (by rw [e3 rfl,List.nil_append] at hlog;exact hlog)) s1 e2
      (fun own' a' w' s' t' d'=>fin own' a' w' s' (t1.trans t') d')
     ·intro i o ho hl
      have hi:=(Array.getElem?_eq_some_iff.1 ho).1
      simp [Array.getD_eq_getD_getElem?,hi] at hl
     ·intro i hi
      rw [e1];simp [Array.getD_eq_getD_getElem?,hi]
   | false=>
     refine wpIn_region ?_
     rw [← e1]
     exact runs_text hc.cfg hc.ip (fun _ _ _ _ _ h=>h) hF.1 es s e2 fin
  ·cases h
 ·cases h
end
def evOuts:Nat→Nat→Sta→Option (List AV)
 | 0,_,_=>some []
 | n+1,i,G=>match get G (ob i) with
   | some v=>match evOuts n (i+1) G with
     | some l=>some (v :: l)
     | none=>none
   | none=>none
theorem zeK {G:Sta}:∀ {n i:Nat} {l:List AV} {K:List AV→Prop},evOuts n i G=some l→K l→outsOf n i G K
 | 0,i,l,K,h,hk=>by simp only [evOuts,Option.some.injEq] at h;subst h;exact hk
 | n+1,i,l,K,h,hk=>by
   unfold evOuts at h
   split at h
   ·rename_i v hv
    split at h
    ·rename_i l' hl
     simp only [Option.some.injEq] at h;subst h
     exact ⟨v,hv,zeK hl hk⟩
    ·cases h
   ·cases h
def evEnd (P:Program) (c:Cfg) (rs:List ResultVar) (n:Nat) (G:Sta):Option (AV×List AV):=
 match (resRM c rs).ev (CallE P) G [] [] with
 | some ([],_,.set _ x :: W,_)=>match evOuts n 0 (app W G) with
   | some l=>some (x,l)
   | none=>none
 | _=>none
theorem RM.ev_wq {CE:CEx} {G:Sta}:∀ (m:RM) {T:List Acc} {q q':List Ora} {obs:List Prop} {U:List Up} {T':List Acc} {K:List Up→Prop},
 m.ev CE G T q=some (obs,q',U,T')→AllP obs→K U→m.wq CE G K
 | .ret U,T,q,q',obs,U',T',K,h,ho,hk=>by simp only [RM.ev,Option.some.injEq,Prod.mk.injEq] at h;obtain ⟨rfl,rfl,rfl,rfl⟩:=h;exact hk
 | .fail,T,q,q',obs,U',T',K,h,ho,hk=>by cases h
 | .ask b o k,T,q,q',obs,U',T',K,h,ho,hk=>by
   simp only [RM.ev] at h
   split at h
   ·rename_i v hv
    split at h
    ·rename_i hok
     simp only [RM.wq,hv];exact ⟨hok,RM.ev_wq _ h ho hk⟩
    ·cases h
   ·cases h
 | .peek b k,T,q,q',obs,U',T',K,h,ho,hk=>by
   simp only [RM.ev] at h
   split at h
   ·rename_i v hv;simp only [RM.wq,hv];exact RM.ev_wq _ h ho hk
   ·cases h
 | .call g args outs k,T,q,q',obs,U',T',K,h,ho,hk=>by
   unfold RM.ev at h
   split at h
   ·obtain ⟨o,h1,rfl⟩:=zbL h;exact ⟨_,_,ho.1,RM.ev_wq _ h1 ho.2 hk⟩
   ·cases h
theorem zc4 {c:Cfg} {rs:List ResultVar} {n:Nat} {G:Sta} {x:AV} {l:List AV} {R:AV→List AV→Prop} (h:evEnd P c rs n G=some (x,l)) (hR:R x l):endK (CallE P) c rs n R .ret G∧endK (CallE P) c rs n R .normal G:=by
 have key:(resRM c rs).wq (CallE P) G (endU n R G):=by
  unfold evEnd at h
  split at h
  ·rename_i hev
   split at h
   ·rename_i hl
    simp only [Option.some.injEq,Prod.mk.injEq] at h
    obtain ⟨rfl,rfl⟩:=h
    exact RM.ev_wq _ hev trivial (zeK hl hR)
   ·cases h
  ·cases h
 exact ⟨key,key⟩
theorem end_marks {c:Cfg} {fn:Func} {F:Fence} {n:Nat} {own:Own} {a a':Act} {w w':World} {G':Sta} {own':Own} {r:AV} {outs outs':List AV} (hc:COk P c) (ha:a.defers=[])
 (s':St P c.nt G' own' a' w') (t':Tr own w own' w') (d':Mks w own' w' a a') {m:Nat}
 (hk:(resRM c fn.results.toList).wp (CallE P) G' [] (fun U _=>endU m (fun r' o'=>r'=r∧o'=outs') G' U)) :
 LeavesInM F n P fn a'.tmps (fun e w'=>∃ u own',e=.returned u∧Tr own w own' w'∧Outs P own' w' outs'∧RL P [] own' w' 0 r u) a'.defers .returning w':=by
 obtain ⟨ds,e1,n1,h1⟩:=d'
 rw [e1,ha,List.append_nil]
 refine zgq ds w' n1 (fun D hD=>(h1 D hD).2.2) ?_
 intro w2 ck k2 k3 k4 k5
 have t2:Tr own w own' w2:=⟨Nat.le_trans t'.size ck.size,fun k hk ho=>by
  obtain ⟨q1,q2⟩:=t'.keep k hk ho
  exact ⟨q1,(k5 k fun hm=>absurd (h1 k hm).1 (by omega)).trans q2⟩,k2.trans t'.os,k3.trans t'.tape,k4.trans t'.output,fun k o ho=>by
  obtain ⟨q1,q2⟩:=t'.al k o ho
  exact ⟨q1,(k5 k fun hm=>by have:=(h1 k hm).2.1;rw [q1] at this;cases this).trans q2⟩,t'.bx⟩
 obtain ⟨u,q1,own2,r',o',⟨rfl,rfl⟩,t3,ho2,hr⟩:=end_sound hc.cfg (s'.ck ck) hk
 exact ⟨u,q1,u,own2,rfl,t2.trans t3,ho2,hr⟩
end Go.Ev
set_option linter.unusedVariables false
set_option linter.unusedSimpArgs false
namespace Go.Ev
open Go Go.RowKit
variable {P : Program}
abbrev vI (k:IntKind) (n:Int):AV:=.f (.pv (.int k n))
abbrev vi (n:Int):AV:=.f (.pv (.int .i64 n))
abbrev vB (b:Bool):AV:=.f (.pv (.bool b))
abbrev vS (s:ByteArray):AV:=.f (.pv (.string s))
abbrev vL {α:Type} (enc:α→FV) (l:List α):AV:=.f (.sl (List.map enc l))
abbrev oL {α:Type} (E:TypeId) (enc:α→FV) (l:List α):AV:=.own E (List.map enc l)
abbrev fi (n:Int):FV:=.pv (.int .i64 n)
abbrev fB (b:Bool):FV:=.pv (.bool b)
abbrev fL {α:Type} (enc:α→FV) (l:List α):FV:=.sl (List.map enc l)
abbrev gd {α:Type} [Inhabited α] (l:List α) (i:Int):α:=List.getD l (Int.toNat i) default
abbrev w64 (n:Int):Int:=IntKind.wrap .i64 n
def sq1:Code→Code
 | .seq a _=>a
 | .block _ a=>a
 | .loop a=>a
 | .cond _ a _=>a
 | .rangeFunc _ _ a _=>a
 | x=>x
def sq2:Code→Code
 | .seq _ b=>b
 | .cond _ _ b=>b
 | .rangeFunc _ _ _ b=>b
 | x=>x
def bodyOf (f:Func):Code:=match f.body with
 | some x=>x
 | none=>.skip
def tabTI:List (Nat×TI)→Nat→Option TI
 | [],_=>none
 | (a,i) :: r,t=>match Nat.beq a t with
   | true=>some i
   | false=>tabTI r t
theorem tabTI_mem:∀ {l:List (Nat×TI)} {t:Nat} {i:TI},tabTI l t=some i→(t,i)∈l
 | [],t,i,h=>by cases h
 | (a,j) :: r,t,i,h=>by
   unfold tabTI at h
   split at h
   ·rename_i e
    simp only [Option.some.injEq] at h;subst h
    rw [Nat.eq_of_beq_eq_true e];exact List.mem_cons_self ..
   ·exact List.mem_cons_of_mem _ (tabTI_mem h)
def TabOk (P:Program):List (Nat×TI)→Prop
 | []=>True
 | (t,i) :: r=>tiOf P t=some i∧TabOk P r
theorem tabOk_mem:∀ {l:List (Nat×TI)},TabOk P l→∀ p∈l,tiOf P p.1=some p.2
 | [],_,p,h=>by cases h
 | (t,i) :: r,h,p,hp=>by
   rcases List.mem_cons.1 hp with rfl | hp
   ·exact h.1
   ·exact tabOk_mem h.2 p hp
def mkCfgV (tab:List (Nat×TI)) (ip:FuncId→Option ((List FV→Option (List FV))×Bool)) (gr:FuncId→Option TypeId) (mv:List Nat) (nt:Nat):Cfg:={ ti:=tabTI tab,mv:=fun t=>mv.contains t,nt:=nt,dead:=fun _=>false,deadL:=fun _=>false,ip:=ip,gr:=gr }
theorem zfY {c c':Cfg} (h:IpsOk P c) (e:c'.ip=c.ip) (e2:c'.gr=c.gr):IpsOk P c':=⟨fun g f back hg=>h.1 g f back (by rw [← e];exact hg),fun g E hg=>h.2 g E (by rw [← e2];exact hg)⟩
theorem mkCfgV_ok {tab:List (Nat×TI)} {mv:List Nat} {nt:Nat} {ip:FuncId→Option ((List FV→Option (List FV))×Bool)} {gr:FuncId→Option TypeId} (ht:TabOk P tab) (hro:P.follows .mixedOrders=true) (hi:IpsOk P (mkCfgV tab ip gr [] 0)):COk P (mkCfgV tab ip gr mv nt):=
 ⟨fun t i h=>tiOf_ok (tabOk_mem ht _ (tabTI_mem h)),zfY hi rfl rfl,hro⟩
section
variable {c : Cfg} {G G' : Sta} {K : Ex → Sta → Prop} {x : Code}
theorem Sem.seq' (e:x=.seq (sq1 x) (sq2 x)) (h:Sem P c (sq1 x) G (seqK K fun G'=>Sem P c (sq2 x) G' K)):Sem P c x G K:=by
 rw [e];exact Sem.seq h
theorem Sem.seqR (hc:COk P c) {q:List Ora} {fz:List (Nat×Nat)} {keep:List Nat} {G':Sta} {obs:List Prop} (e:x=.seq (sq1 x) (sq2 x)) (h:evReg P c (sq1 x) q fz keep G=some (obs,G')) (ho:AllP obs) (hk:Sem P c (sq2 x) G' K):Sem P c x G K:=by
 rw [e];exact Sem.seq (Sem.region hc h ho hk)
theorem Sem.cond' {t:Nat} {b:Bool} (e:x=.cond (.tmp t) (sq1 x) (sq2 x)) (hg:get G (tb t)=some (.f (.pv (.bool b)))) (h1:b=true→Sem P c (sq1 x) G K) (h2:b=false→Sem P c (sq2 x) G K):Sem P c x G K:=by
 rw [e];exact Sem.cond hg h1 h2
theorem Sem.block' {id:Nat} (e:x=.block id (sq1 x)) (h:Sem P c (sq1 x) G (blockK id K)):Sem P c x G K:=by
 rw [e];exact Sem.block h
theorem Sem.exit' {i:Nat} (e:x=.exit i) (hw:Wk P c.nt G G') (h:K (.exit i) G'):Sem P c x G K:=by
 rw [e];exact Sem.exit hw h
theorem Sem.ret' (e:x=.ret) (hw:Wk P c.nt G G') (h:K .ret G'):Sem P c x G K:=by
 rw [e];exact Sem.ret hw h
theorem Sem.skip' (e:x=.skip) (hw:Wk P c.nt G G') (h:K .normal G'):Sem P c x G K:=by
 rw [e];exact Sem.skip hw h
theorem Sem.loop' {σ:Type} (e:x=.loop (sq1 x)) (st:σ→Sta) (Inv:σ→Prop) (μ:σ→Nat) (s0:σ) (h0:Wk P c.nt G (st s0)) (hI:Inv s0)
 (step:∀ s,Inv s→Sem P c (sq1 x) (st s) (seqK K fun G'=>∃ s',Wk P c.nt G' (st s')∧Inv s'∧μ s' < μ s)):Sem P c x G K:=by
 rw [e];exact Sem.loop st Inv μ s0 h0 hI step
end
theorem getElem?_map_getD {α β:Type} [Inhabited α] (f:α→β) (l:List α) (i:Nat) (h:i < l.length):(l.map f)[i]?=some (f (l.getD i default)):=by
 rw [List.getElem?_map,List.getElem?_eq_getElem h];simp [List.getD,List.getElem?_eq_getElem h]
theorem zL {α:Type} [Inhabited α] (f:α→FV) (l:List α) (i:Int) (y:FV) (hy:f (l.getD i.toNat default)=y) (h0:0≤i) (h:i < l.length):(l.map f)[i.toNat]?=some y:=by
 rw [getElem?_map_getD f l i.toNat (by omega),hy]
theorem zbh {α:Type} [Inhabited α] (f:α→FV) (l:List α) (i:Nat) (y:FV) (hy:f (l.getD i default)=y) (h:i < l.length):(l.map f)[i]?=some y:=by
 rw [getElem?_map_getD f l i h,hy]
section
variable {c : Cfg} {G G' : Sta} {K : Ex → Sta → Prop} {x : Code}
theorem Sem.seqJ {σ:Type} (J:σ→Prop) (st:σ→Sta) (e:x=.seq (sq1 x) (sq2 x)) (h2:∀ s,J s→Sem P c (sq2 x) (st s) K)
 (h1:Sem P c (sq1 x) G (seqK K fun G'=>∃ s,Wk P c.nt G' (st s)∧J s)):Sem P c x G K:=by
 rw [e]
 refine Sem.seq (h1.mono fun e G' h=>?_)
 cases e with
 | normal=>
   obtain ⟨s,hw,hj⟩:=h
   exact Sem.weak hw (h2 s hj)
 | exit id=>exact h
 | ret=>exact h
end
section
variable {c : Cfg} {G : Sta} {K : Ex → Sta → Prop} {x : Code}
theorem Sem.cast {S S':Sta} (e:S=S') (h:Sem P c x S K):Sem P c x S' K:=e▸h
theorem kcast {S S':Sta} (e:S=S') (h:K .normal S):K .normal S':=e▸h
end
theorem nrm:(∀ (α β:Type) (f:α→β) (l:List α),(List.map f l).length=l.length)∧(∀ (α:Type) (l m:List α),(l++m).length=l.length+m.length)∧(∀ (α:Type) (a:α) (l:List α),(a :: l).length=l.length+1)∧
 (∀ (α:Type),([]:List α).length=0)∧(∀ (α:Type) (l:List α) (i:Nat) (a:α),(l.set i a).length=l.length)∧(∀ (α:Type) (n:Nat) (a:α),(List.replicate n a).length=n)∧
 (∀ (α:Type) (l:List α),l.drop 0=l)∧(∀ (α:Type) (l:List α),l.take l.length=l)∧(∀ (α β:Type) (f:α→β),List.map f []=[])∧(∀ (α β:Type) (f:α→β) (a:α) (l:List α),List.map f (a :: l)=f a :: List.map f l)∧
 (∀ (α β:Type) (f:α→β) (l m:List α),List.map f (l++m)=List.map f l++List.map f m)∧(∀ (α β:Type) (f:α→β) (l:List α) (i:Nat) (a:α),List.map f (l.set i a)=(List.map f l).set i (f a))∧
 (∀ (α β:Type) (f:α→β) (l:List α) (i:Nat),List.map f (l.take i)=(List.map f l).take i)∧(∀ (α β:Type) (f:α→β) (l:List α) (i:Nat),List.map f (l.drop i)=(List.map f l).drop i)∧
 (∀ (α β:Type) (f:α→β) (n:Nat) (a:α),List.map f (List.replicate n a)=List.replicate n (f a))∧(∀ n:Nat,((n:Int)).toNat=n)∧(∀ n:Nat,0+n=n)∧(∀ (α:Type) (n:Nat) (a:α) (l:List α),(a :: l).take (n+1)=a :: l.take n)∧
 (∀ (α:Type) (l:List α),l.take 0=[])∧(∀ (α:Type) (n:Nat),([]:List α).take n=[])∧(∀ n:Nat,n - 0=n)∧(∀ (α:Type) (l:List α),l++[]=l)∧(∀ (α:Type) (l:List α),[]++l=l)∧
 (∀ (α:Type) (E:TypeId) (enc:α→FV) (l:List α),oL E enc l=.own E (List.map enc l))∧(∀ (α:Type) (enc:α→FV) (l:List α),vL enc l=.f (.sl (List.map enc l)))∧(∀ (α:Type) (enc:α→FV) (l:List α),fL enc l=.sl (List.map enc l))∧
 (∀ n,vi n=.f (.pv (.int .i64 n)))∧(∀ k n,vI k n=.f (.pv (.int k n)))∧(∀ b,vB b=.f (.pv (.bool b)))∧(∀ b,vS b=.f (.pv (.string b)))∧(∀ n,fi n=.pv (.int .i64 n))∧(∀ b,fB b=.pv (.bool b))∧((0:Int).toNat=0)∧(∀ (α:Type) (l:List α),l.drop l.length=[]):=by
 refine ⟨?_,?_,?_,?_,?_,?_,?_,?_,?_,?_,?_,?_,?_,?_,?_,?_,?_,?_,?_,?_,?_,?_,?_,?_,?_,?_,?_,?_,?_,?_,?_,?_,?_,?_⟩<;>intros<;>first | rfl | simp
def entryF:Nat→Nat→List AV→List AV→Sta
 | 0,_,_,_=>[]
 | n+1,i,x :: xs,v :: vs=>(tb i,x) :: (ob i,v) :: entryF n (i+1) xs vs
 | n+1,i,x :: xs,[]=>(tb i,x) :: entryF n (i+1) xs []
 | n+1,i,[],v :: vs=>(ob i,v) :: entryF n (i+1) [] vs
 | _+1,_,[],[]=>[]
theorem zfj:∀ (n i:Nat) (xs vs:List AV),xs.length+vs.length≤n→entryF n i xs vs=entry i xs vs
 | 0,i,[],[],h=>by simp [entryF,entry]
 | 0,i,x :: xs,vs,h=>by simp at h
 | 0,i,[],v :: vs,h=>by simp at h
 | n+1,i,x :: xs,v :: vs,h=>by simp only [entryF,entry];rw [zfj n (i+1) xs vs (by simp at h;omega)]
 | n+1,i,x :: xs,[],h=>by simp only [entryF,entry];rw [zfj n (i+1) xs [] (by simp at h;simp;omega)]
 | n+1,i,[],v :: vs,h=>by simp only [entryF,entry];rw [zfj n (i+1) [] vs (by simp at h;simp;omega)]
 | n+1,i,[],[],h=>by simp [entryF,entry]
theorem obN:AllP []:=trivial
theorem obC {p:Prop} {l:List Prop} (h:p) (k:AllP l):AllP (p :: l):=⟨h,k⟩
theorem zef {c:Cfg} {fn:Func} {x:Code} {g:FuncId} {args outs outs':List AV} {r:AV} (hc:COk P c) (hf:P.funcs[g]?=some fn)
 (hnm:(fn.name == "runtime.NumGoroutine")=false) (hb:fn.body=some x) (hnt:c.nt=fn.ntmps) (hlen:args.length≤fn.ntmps) (ha:args.all (shut1 false fun _=>true)=true) (ho:outs.all (shut1 true fun _=>true)=true)
 (hl2:args.length+outs.length≤64) (h:Sem P c x (entryF 64 0 args outs) fun e G=>∃ G',Wk P c.nt G G'∧endK (CallE P) c fn.results.toList outs.length (fun r' o'=>r'=r∧o'=outs') e G'):CallE P g args outs r outs':=by
 refine ⟨⟨fn,hf,hnm,by rw [hb];rfl⟩,fun own w vs hO hA=>?_⟩
 rw [← callsIn_wide (n:=0)]
 have s0:=st_entry (nt:=c.nt) (by rw [hnt];exact hlen) ha ho hO hA
 rw [zfj _ _ _ _ hl2] at h
 refine callsIn_of_wp_marks hf hb trivial ?_
 rw [← hnt]
 refine h own _ w _ _ _ ⟨wideF,fun _=>rfl⟩ s0 ?_
 rintro e G0 own0 a' w' ⟨G',hw,hk⟩ s' t' d'
 obtain ⟨own',s',t2⟩:=hw own0 a' w' s'
 replace d':=d'.tr t2
 replace t':=t'.trans t2
 cases e with
 | normal=>exact end_marks (outs:=outs) hc rfl s' t' d' (RM.wq_wp _ [] hk)
 | ret=>exact end_marks (outs:=outs) hc rfl s' t' d' (RM.wq_wp _ [] hk)
 | exit id=>exact hk.elim
def strInts (s:ByteArray):List Int:=s.toList.map fun b=>(b.toNat:Int)
theorem strElems_of (s:ByteArray) (enc:Int→FV) (h:∀ n,enc n=.pv (.int .u8 n)):strElems s=List.map enc (strInts s):=by
 simp [strElems,strInts,h,Function.comp_def]
def byteAt (s:ByteArray) (i:Int):UInt8:=(s[i.toNat]?).getD 0
theorem zhV (s:ByteArray) (i:Int) (h0:0≤i) (h:i < s.size):s[i.toNat]?=some (byteAt s i):=by
 have:i.toNat < s.size:=by omega
 simp [byteAt,this]
section
variable {c : Cfg} {G G' : Sta} {K : Ex → Sta → Prop} {x : Code}
theorem sR (hc:COk P c) (q:List Ora) (keep:List Nat) (G':Sta) {obs:List Prop} (e:x=.seq (sq1 x) (sq2 x)) (h:evReg P c (sq1 x) q [] keep G=some (obs,G')) (ho:AllP obs) (hk:Sem P c (sq2 x) G' K):Sem P c x G K:=Sem.seqR hc e h ho hk
theorem wkE {nt:Nat} (fz:List (Nat×Nat)) (keep:List Nat) (h:Ev.tidy fz keep G=G'):Wk P nt G G':=Wk.eq h
theorem wkS (keep:List Nat) (G':Sta) (h:Ev.tidy [] keep G=G') (k:Sem P c x G' K):Sem P c x G K:=Sem.weak (Wk.eq h) k
end
end Go.Ev
set_option linter.unusedVariables false
set_option linter.unusedSimpArgs false
namespace Go.Ev
open Go Go.RowKit
variable {P : Program}
def no:Own:=fun _=>none
theorem cell_lt {w:World} {a:Addr} {v:Value} (h:w.cell? a=some v):a.block < w.heap.size:=by
 unfold World.cell? at h
 rcases Nat.lt_or_ge a.block w.heap.size with h1 | h1
 ·exact h1
 ·simp [Array.getElem?_eq_none h1] at h
theorem below_of_tr {own':Own} {w w':World} (h:Tr no w own' w'):Below w.heap.size w w':=
 ⟨h.os,h.tape,h.output,h.size,fun k hk=>(h.keep k hk rfl).2⟩
theorem outs_nil (w:World):Outs P no w []:=
 ⟨fun i v h=>by simp at h,fun k k' o h=>(nomatch h),fun k o h=>(nomatch h)⟩
theorem law_walk {g:FuncId} {args:List AV} {b:Bool} {vs:Array Value} {w:World}
 (h:CallE P g args [] (vB b) []) (ha:Args P no w args vs) :
 Calls P g vs w fun e w'=>e=.returned (.bool b)∧Below w.heap.size w w':=by
 refine (h.2 no w vs (outs_nil w) ha).mono fun e w' ⟨u,own',he,ht,_,hr⟩=>?_
 refine ⟨?_,below_of_tr ht⟩
 have hr:RF own' w' (.pv (.bool b)) u:=hr.2
 cases hr
 exact he
theorem r1_ints {w:World} {k:IntKind} {enc:Int→FV} (he:∀ n,enc n=.pv (.int k n)) {a:Option Addr} {len cap:Nat} {zs:List Int}
 (h:(a=none∧len=0∧cap=0∧zs=[])∨
   ∃ x,a=some x∧len≤cap∧cap≤maxLen∧zs.length=cap∧(∀ i,i < zs.length→w.cell? (x.add i)=some (.int k (zs.getD i 0)))∧∀ n∈zs,(Lit.int k n).wf=true) :
 R1 P [] no w (vL enc (zs.take len)) (.slice a len cap):=by
 refine ⟨rfl,?_⟩
 rcases h with ⟨rfl,rfl,rfl,rfl⟩ | ⟨x,rfl,hl,hm,hz,hcell,hwf⟩
 ·exact RF.nil
 ·rcases Nat.eq_zero_or_pos len with rfl | hp
  ·exact RF.nil
  obtain ⟨b,off,rfl,hc⟩:=ints_at hcell (by omega)
  have e1:∀ (i:Nat) y,(List.map enc (zs.take len))[i]?=some y→i < zs.length∧y=.pv (.int k (zs.getD i 0)):=by
   intro i y h
   rw [List.getElem?_map,List.getElem?_take] at h
   split at h
   ·rename_i hi
    have:i < zs.length:=by omega
    rw [List.getElem?_eq_getElem this] at h
    simp only [Option.map_some,Option.some.injEq] at h
    exact ⟨this,by rw [← h,he];simp [List.getD,this]⟩
   ·simp at h
  have e2:∀ (i:Nat) y (j:Nat) u,(List.map enc (zs.take len))[i]?=some y→y.cells[j]?=some u→j=0∧u=.pv (.int k (zs.getD i 0))∧i < zs.length:=by
   intro i y j u hy hu
   obtain ⟨hi,rfl⟩:=e1 i y hy
   match j,hu with
   | 0,hu=>exact ⟨rfl,by simpa [FV.cells] using hu.symm,hi⟩
   | j+1,hu=>simp [FV.cells] at hu
  refine RF.sl _ _ _ _ ⟨b,off,none⟩ 1 (by simp;omega) hl (fun _=>⟨rfl,rfl,rfl,?_⟩) ?_ ?_ ?_
  ·exact cell_lt (hc 0 (by omega))
  ·intro y hy
   obtain ⟨n,-,rfl⟩:=List.mem_map.1 hy
   rw [he];rfl
  ·intro i y j u hy hu
   obtain ⟨rfl,-,hi⟩:=e2 i y j u hy hu
   have h2:=hc i hi
   exact ⟨_,by simp only [Nat.mul_one,Nat.add_zero];exact h2⟩
  ·intro i y j u v hy hu hv
   obtain ⟨rfl,rfl,hi⟩:=e2 i y j u hy hu
   have h2:=hc i hi
   simp only [Nat.mul_one,Nat.add_zero] at hv
   rw [h2] at hv
   cases hv
   exact .pv _ rfl
theorem args_cons {w:World} {x:AV} {v:Value} {l:List AV} {vs:List Value} (h:R1 P [] no w x v) (k:Args P no w l vs.toArray):Args P no w (x :: l) (v :: vs).toArray:=
 ⟨by simp [k.1],fun j y u hy hu=>by
   match j,hy,hu with
   | 0,hy,hu=>simp at hy hu;subst hy;subst hu;exact h
   | j+1,hy,hu=>exact k.2 j y u (by simpa using hy) (by simpa using hu)⟩
theorem args_nil {w:World}:Args P no w [] #[]:=⟨rfl,fun j y u hy hu=>by simp at hy⟩
end Go.Ev
set_option linter.unusedVariables false
set_option linter.unusedSimpArgs false
namespace Go.Ev
open Go Go.RowKit
variable {P : Program}
theorem run_callF {g:FuncId} {fn:Func} (hf:P.funcs[g]?=some fn) (hname:(fn.name == "runtime.NumGoroutine")=false) (hb:fn.body.isNone=false) (args:Array Value) (w:World) :
 (callFunc g args).run P w=.ok (.enter g args) w:=by
 simp only [beq_eq_false_iff_ne,ne_eq] at hname
 simp only [Option.isNone_eq_false_iff] at hb
 simp [callFunc,hf,hname,Option.isSome_iff_ne_none.1 hb]
theorem zb7 {w:World} {l:Nat} {o:Obj}:(w.putObj l o).heap.size=w.heap.size:=by simp [World.putObj]
theorem Tr.norm {own own':Own} {w w':World} {l:Nat} {X:Obj} (t:Tr own w own' w') (hl:l < w.heap.size) (ho:own l=none):Tr own (w.putObj l X) own' (w'.putObj l X):=by
 have hl':l < w'.heap.size:=Nat.lt_of_lt_of_le hl t.size
 refine ⟨by rw [zb7,zb7];exact t.size,fun k hk hk0=>?_,t.os,t.tape,t.output,fun k o hk=>?_,t.bx⟩
 ·rw [zb7] at hk
  obtain ⟨q1,q2⟩:=t.keep k hk hk0
  refine ⟨q1,?_⟩
  by_cases e:k=l
  ·subst e;rw [World.putObj_heap_same hl',World.putObj_heap_same hl]
  ·rw [World.putObj_heap_other e,World.putObj_heap_other e];exact q2
 ·have e:k≠l:=by rintro rfl;rw [ho] at hk;cases hk
  obtain ⟨q1,q2⟩:=t.al k o hk
  exact ⟨q1,by rw [World.putObj_heap_other e,World.putObj_heap_other e];exact q2⟩
structure KU (U:Nat→Prop) (w w':World):Prop where
 size:w.heap.size≤w'.heap.size
 keep:∀ k,U k→w'.heap[k]?=w.heap[k]?
 os:w'.os=w.os
 tape:w'.tape=w.tape
 output:w'.output=w.output
theorem KU.put {U:Nat→Prop} {w w':World} (h:KU U w w') {l:Nat} (o:Obj) (hl:∀ k,U k→k≠l):KU U w (w'.putObj l o):=
 ⟨by rw [zb7];exact h.size,fun k hk=>(World.putObj_heap_other (hl k hk)).trans (h.keep k hk),h.os,h.tape,h.output⟩
structure Grow (w w':World):Prop where
 size:w.heap.size≤w'.heap.size
 keep:∀ k,k < w.heap.size→w'.heap[k]?=w.heap[k]?
 os:w'.os=w.os
 tape:w'.tape=w.tape
 output:w'.output=w.output
theorem Grow.tr {w w':World} (h:Grow w w') {own:Own} (hl:∀ k o,own k=some o→k < w.heap.size):Tr own w own w':=
 ⟨h.size,fun k hk ho=>⟨ho,h.keep k hk⟩,h.os,h.tape,h.output,fun k o e=>⟨e,h.keep k (hl _ _ e)⟩,fun _ _ _ e=>e⟩
theorem Grow.ku {w w' w0:World} {U:Nat→Prop} (h:Grow w w') (k:KU U w0 w) (hu:∀ k,U k→k < w0.heap.size):KU U w0 w':=
 ⟨Nat.le_trans k.size h.size,fun i hi=>(h.keep i (Nat.lt_of_lt_of_le (hu i hi) k.size)).trans (k.keep i hi),h.os.trans k.os,h.tape.trans k.tape,h.output.trans k.output⟩
def Gives (P:Program) (g:FuncId) (lb:Array Value) (N:Nat) (ok:Nat→Array Value→Prop) (U:Nat→Prop) (w0:World):Prop:=
 (∃ fn,P.funcs[g]?=some fn∧(fn.name == "runtime.NumGoroutine")=false∧fn.body.isNone=false)∧
 ∀ (F:Fence) (n l:Nat) (J:Nat→World→Prop) (W:World),WideF P F→F.round=none→KU U w0 W→
   (∀ i W1 W2,J i W1→Grow W1 W2→J i W2)→(∀ m i x W1,J i W1→i < N→ok i x→KU U w0 W1→YieldAt F m P l x W1 fun e W'=>e=.returned (.bool true)∧J (i+1) W'∧KU U w0 W')→
   J 0 W→CallsIn F n P g (#[.func (.yield l) #[] #[]]++lb) W fun e W'=>(∃ v,e=.returned v)∧J N W'
def roundEnd (K:World→Prop):Exit→Act→World→Prop
 | .normal,_,w=>K w
 | _,_,_=>False
theorem range_wp {F:Fence} {n:Nat} {g:Operand} {ps:Array Tmp} {assign body:Code} {Q:Exit→Act→World→Prop} {a:Act} {w:World}
 (hF:WideF P F) (hro:F.round=none) {gf:FuncId} {lb:Array Value} (hg:a.eval g=.func (.func gf) #[] lb) {N:Nat} {ok:Nat→Array Value→Prop} {U:Nat→Prop} (hs:Gives P gf lb N ok U w)
 (hU:∀ k,U k→k < w.heap.size) (hps:∀ i x,ok i x→x.size=ps.size) (I:Loop→Nat→World→Prop) (hst:∀ rec i W W',I rec i W→w.heap.size+1 < W.heap.size→Grow W W'→I rec i W')
 (hround:∀ (fn:FuncId) (rec:Loop) (i:Nat) (x:Array Value) (m:Nat) (W:World),rec.state=.ready→rec.pending=none→i < N→ok i x→I rec i W→W.heap[w.heap.size+1]?=some (Obj.loop rec)→W.heap[w.heap.size]?=some (Obj.deferred (some []))→KU U w W→
   assign.wpIn (F.inRound (w.heap.size+1)) m P (Exit.then (fun a₁ w₁=>w₁.heap[w.heap.size+1]?=some (Obj.loop rec)∧body.wpIn (F.inRound (w.heap.size+1)) m P
    (roundEnd fun W3=>W3.heap[w.heap.size+1]?=some (Obj.loop { rec with state:=.busy })∧W3.heap[w.heap.size]?=some (Obj.deferred (some []))∧KU U w W3∧I rec (i+1) (W3.putObj (w.heap.size+1) (Obj.loop rec))) a₁ (w₁.putObj (w.heap.size+1) (Obj.loop { rec with state:=.busy }))) (fun _ _ _=>False))
    { tmps:=(ps.zip x).foldl (fun t (p,v)=>t.setIfInBounds p v) a.tmps,defers:=[] } W)
 (h0:∀ rec:Loop,I rec 0 ((w.alloc (Obj.deferred (some []))).alloc (Obj.loop rec)))
 (hdone:∀ (rec:Loop) (W:World),I rec N W→W.heap[w.heap.size+1]?=some (Obj.loop rec)→W.heap[w.heap.size]?=some (Obj.deferred (some []))→Q .normal { a with defers:=mark w.heap.size :: a.defers } (W.putObj (w.heap.size+1) (Obj.loop { rec with state:=.exhausted }))) :
 (Code.rangeFunc g ps assign body).wpIn F n P Q a w:=by
 refine wpIn_rangeFunc ?_
 intro fn hfn
 rw [hro]
 obtain ⟨⟨gfn,f1,f2,f3⟩,hgive⟩:=hs
 have eg:∀ args w,(callFunc gf args).run P w=.ok (.enter gf args) w:=run_callF f1 f2 f3
 obtain ⟨rec,hrec⟩:∃ rec:Loop,rec={ state:=.ready,pending:=none,fn,tmps:=a.tmps,params:=ps,assign,body,defers:=w.heap.size }:=⟨_,rfl⟩
 obtain ⟨W1,hW1⟩:∃ W1,(w.alloc (.deferred (some []))).alloc (.loop rec)=W1:=⟨_,rfl⟩
 have hsz:w.heap.size+2=W1.heap.size:=by rw [← hW1];simp
 have hL1:W1.heap[w.heap.size+1]?=some (.loop rec):=by
  rw [← hW1];have:=World.alloc_heap_new (w.alloc (.deferred (some []))) (.loop rec);rwa [World.size_alloc] at this
 have hK1:W1.heap[w.heap.size]?=some (.deferred (some [])):=by
  rw [← hW1];exact (Below.heap_alloc _ _ _ (by simp)).trans (World.alloc_heap_new w _)
 have hold:∀ k,k < w.heap.size→W1.heap[k]?=w.heap[k]?:=fun k hk=>by
  rw [← hW1];exact (Below.heap_alloc _ _ _ (by simp;omega)).trans (Below.heap_alloc _ _ _ hk)
 refine ⟨w.heap.size+1,[mark w.heap.size],W1,{ target:=.fn (.func gf) lb,args:=#[.func (.yield (w.heap.size+1)) #[] #[]] },W1,gf,
  #[.func (.yield (w.heap.size+1)) #[] #[]]++lb,W1,?_,?_,fun f' _=>hF.fn f',?_,fun e=>(by rw [hF.deep] at e;cases e),?_⟩
 ·rw [← hW1,hrec];exact run_enterLoop_outer _ _ _ _ _
 ·simp only [resolve,hg]
  simp [go_sem]
 ·simp [invoke,go_sem,eg]
 ·refine (hgive F (n - 1) (w.heap.size+1) (fun i W=>I rec i W∧W.heap[w.heap.size+1]?=some (.loop rec)∧W.heap[w.heap.size]?=some (.deferred (some []))) W1 hF hro ⟨by omega,fun k hk=>hold k (hU k hk),by rw [← hW1];rfl,by rw [← hW1];rfl,by rw [← hW1];rfl⟩ (fun i Wa Wb ⟨q1,q2,q3⟩ hg=>?_) ?_ ⟨by rw [← hW1];exact h0 rec,hL1,hK1⟩).mono ?_
  ·have hlt:w.heap.size+1 < Wa.heap.size:=(Array.getElem?_eq_some_iff.1 q2).1
   exact ⟨hst rec i Wa Wb q1 hlt hg,(hg.keep _ hlt).trans q2,(hg.keep _ (by omega)).trans q3⟩
  ·rintro m i x W ⟨hi,hl,hk⟩ hn hx hu
   have hlt:w.heap.size+1 < W.heap.size:=(Array.getElem?_eq_some_iff.1 hl).1
   have hy:=run_yield (P:=P) (args:=x) hl (by rw [hrec];exact hps i x hx)
   rw [hrec] at hy
   refine ⟨fn,_,assign,body,hy,roundIn_of_wpIn (hF.fn _) (wpIn_mono (hround fn rec i x m W (by rw [hrec]) (by rw [hrec]) hn hx hi hl hk hu) ?_)⟩
   rintro e a1 W2 hp
   cases e with
   | normal=>
     obtain ⟨hl2,hb⟩:=hp
     refine ⟨_,run_beginRound hl2 (by rw [hrec]),wpIn_mono hb ?_⟩
     rintro e a3 W3 hp3
     cases e with
     | normal=>
       obtain ⟨q1,q2,q3,q4⟩:=hp3
       refine ⟨_,_,run_endRound (P:=P) none q1,rfl,⟨?_,?_,?_⟩,?_⟩
       ·rw [hrec] at q4 ⊢;exact q4
       ·rw [hrec];exact World.putObj_heap_same (Array.getElem?_eq_some_iff.1 q1).1
       ·exact (World.putObj_heap_other (by omega)).trans q2
       ·exact q3.put _ fun k hk=>by have:=hU k hk;omega
     | _=>exact hp3.elim
   | _=>exact hp.elim
  ·rintro e W2 ⟨⟨v,rfl⟩,hi,hl,hk⟩
   refine ⟨none,_,?_,hdone rec W2 hi hl hk⟩
   have:=run_endLoop (P:=P) hl (by rw [hrec];simp)
   rw [hrec] at this ⊢;exact this
end Go.Ev
set_option linter.unusedVariables false
set_option linter.unusedSimpArgs false
namespace Go.Ev
open Go Go.RowKit
variable {P : Program}
section
variable {c : Cfg} {ops : Array Oper}
theorem zhH {draw:Bool}:∀ (r:List Oper) {p rest:List Oper} {log log':List Lg} {G G':Sta} {q:List Ora} {obs:List Prop},ops.toList=p++(r++rest)→evOps (CallE P) c ops draw r p.length log G q=some (obs,log',G')→AllP obs→
 ∃ es,es.map (·.i)=List.range' p.length r.length∧Runs (CallE P) (stepRM c ops) es G G'∧(draw=true→log'=log++es.map Ent.lg)
 | [],p,rest,log,log',G,G',q,obs,hp,h,ho=>by
   unfold evOps at h
   split at h
   ·simp only [Option.some.injEq,Prod.mk.injEq] at h;obtain ⟨rfl,rfl,rfl⟩:=h;exact ⟨[],rfl,rfl,fun _=>by simp⟩
   ·cases h
 | o :: r,p,rest,log,log',G,G',q,obs,hp,h,ho=>by
   have hop:ops[p.length]?=some o:=by
    rw [← Array.getElem?_toList,hp,List.getElem?_append_right (Nat.le_refl _)];simp
   unfold evOps at h
   split at h
   ·rename_i obs1 q' U T h1
    split at h
    ·rename_i obs2 log2 G2 h2
     simp only [Option.some.injEq,Prod.mk.injEq] at h
     obtain ⟨rfl,rfl,rfl⟩:=h
     obtain ⟨ho1,ho2⟩:=zds ho
     have hl:(p++[o]).length=p.length+1:=by simp
     rw [← hl] at h2
     obtain ⟨es,e1,e2,e3⟩:=zhH r (p:=p++[o]) (rest:=rest) (by rw [hp];simp) h2 ho2
     refine ⟨⟨p.length,U,T⟩ :: es,by simp [e1,List.range'_succ],⟨?_,e2⟩,fun hd=>?_⟩
     ·rw [zfM hop]
      exact le_guard _ _ _ _ (RM2.ev_wp _ h1 ho1 ⟨rfl,rfl⟩)
     ·subst hd
      rw [e3 rfl];simp [Ent.lg,Ent.reads]
    ·cases h
   ·cases h
end
section
variable {CE : CEx} {c : Cfg} {F : Fence} {n : Nat} {Q : Exit → Act → World → Prop} {ops : Array Oper}
theorem runs_pre (hc:CfgOk P c) (hip:IpsOk P c) (hCE:∀ g args outs r outs',CE g args outs r outs'→CallE P g args outs r outs') (hF:WideF P F) (rest:List Nat):∀ (es:List Ent) {G G':Sta} {own:Own} {a:Act} {w:World},
 St P c.nt G own a w→Runs CE (stepRM c ops) es G G'→(∀ own' a' w',St P c.nt G' own' a' w'→Tr own w own' w'→a'.defers=a.defers→wpOpsIn F n P ops Q rest a' w')→wpOpsIn F n P ops Q (es.map (·.i)++rest) a w
 | [],G,G',own,a,w,s,h,hq=>by
   have:G=G':=h
   subst this
   exact hq own a w s (Tr.refl _ _) rfl
 | y :: es,G,G',own,a,w,s,h,hq=>by
   rw [List.map_cons,List.cons_append,wpOpsIn_cons]
   refine zdd hc hip hCE hF s h.1 fun own' a' w' s' t' d'=>?_
   exact runs_pre hc hip hCE hF rest es s' h.2 fun own2 a2 w2 s2 t2 d2=>hq own2 a2 w2 s2 (t'.trans t2) (d2.trans d')
theorem wpOps_pre (hc:COk P c) (hF:WideF P F) {pre rest:List Oper} (hp:ops.toList=pre++rest) {q:List Ora} {G G':Sta} {obs:List Prop} {log:List Lg} {own:Own} {a:Act} {w:World}
 (h:evOps (CallE P) c ops false pre 0 [] G q=some (obs,log,G')) (ho:AllP obs) (s:St P c.nt G own a w)
 (hq:∀ own' a' w',St P c.nt G' own' a' w'→Tr own w own' w'→a'.defers=a.defers→wpOpsIn F n P ops Q (List.range' pre.length rest.length) a' w'):wpOpsIn F n P ops Q (List.range ops.size) a w:=by
 obtain ⟨es,e1,e2,_⟩:=zhH (P:=P) (p:=[]) (rest:=rest) pre (by simpa using hp) h ho
 have e1:es.map (·.i)=List.range' 0 pre.length:=by simpa using e1
 have hsz:ops.size=pre.length+rest.length:=by rw [← Array.length_toList,hp,List.length_append]
 have:List.range ops.size=es.map (·.i)++List.range' pre.length rest.length:=by
  rw [e1,hsz,List.range_eq_range',← List.range'_append_1];simp
 rw [this]
 exact runs_pre hc.cfg hc.ip (fun _ _ _ _ _ h=>h) hF _ es s e2 hq
end
end Go.Ev
set_option linter.unusedVariables false
set_option linter.unusedSimpArgs false
namespace Go.Ev
open Go Go.RowKit
variable {P : Program}
theorem KU.tr {own:Own} {w w':World} (h:KU (fun k=>k < w.heap.size∧(own k=none∨∃ o,own k=some (.al o))) w w') (hl:∀ k o,own k=some o→k < w.heap.size):Tr own w own w':=
 ⟨h.size,fun k hk h0=>⟨h0,h.keep k ⟨hk,.inl h0⟩⟩,h.os,h.tape,h.output,fun k o e=>⟨e,h.keep k ⟨hl _ _ e,.inr ⟨o,e⟩⟩⟩,fun _ _ _ e=>e⟩
theorem Tr.ku {own own':Own} {w w':World} (t:Tr own w own' w'):KU (fun k=>k < w.heap.size∧(own k=none∨∃ o,own k=some (.al o))) w w':=
 ⟨t.size,fun k hk=>by
   obtain ⟨h1,h2 | ⟨o,h2⟩⟩:=hk
   ·exact (t.keep k h1 h2).2
   ·exact (t.al k o h2).2,t.os,t.tape,t.output⟩
end Go.Ev
set_option linter.unusedVariables false
set_option linter.unusedSimpArgs false
namespace Go.Ev
open Go Go.RowKit
variable {P : Program}
theorem look_sub {G1 G2:Sta} (h:∀ b v,get G2 b=some v→get G1 b=some v) {b:Nat} {o:Option Nat} {v:AV} (e:look G2 b o=some v):look G1 b o=some v:=by
 cases o with
 | none=>exact h b v e
 | some o=>
   simp only [look] at e ⊢
   cases hg:get G2 b with
   | none=>rw [hg] at e;cases e
   | some x=>rw [hg] at e;rw [h b x hg];exact e
theorem zdN {G1 G2:Sta} (h:∀ b v,get G2 b=some v→get G1 b=some v) {own:Own} {w:World} {v:AV} {u:Value} (r:R0 P G1 own w v u):R0 P G2 own w v u:=by
 cases v with
 | rf b o i n=>
   simp only [R0,SlV] at r ⊢
   cases hg:look G2 b (some o) with
   | none=>trivial
   | some x=>rw [look_sub h hg] at r;exact r
 | ep b o i n=>
   simp only [R0,EpV] at r ⊢
   cases hg:look G2 b (some o) with
   | none=>trivial
   | some x=>rw [look_sub h hg] at r;exact r
 | _=>exact r
theorem zes {G1 G2:Sta} (h:∀ b v,get G2 b=some v→get G1 b=some v) {own:Own} {w:World} {b o:Nat} {v:AV} {u:Value} (r:RO P G1 own w b o v u):RO P G2 own w b o v u:=by
 cases v with
 | own E l=>exact r
 | _=>
   all_goals
    rw [zeE (by simp)] at r ⊢
    exact zdN h r
theorem r1_sub {G1 G2:Sta} (h:∀ b v,get G2 b=some v→get G1 b=some v) {own:Own} {w:World} {v:AV} {u:Value} (r:R1 P G1 own w v u):R1 P G2 own w v u:=by
 cases v with
 | agg l=>obtain ⟨arr,h1,h2,h3⟩:=r;exact ⟨arr,h1,h2,fun j x v e1 e2=>zdN h (h3 j x v e1 e2)⟩
 | bad=>exact zdN (P:=P) (own:=own) (w:=w) (u:=u) (v:=.bad) h r
 | f x=>exact zdN (P:=P) (own:=own) (w:=w) (u:=u) (v:=.f x) h r
 | ptr b o=>exact zdN (P:=P) (own:=own) (w:=w) (u:=u) (v:=.ptr b o) h r
 | fp x o=>exact zdN (P:=P) (own:=own) (w:=w) (u:=u) (v:=.fp x o) h r
 | ep a b c d=>exact zdN (P:=P) (own:=own) (w:=w) (u:=u) (v:=.ep a b c d) h r
 | rf a b c d=>exact zdN (P:=P) (own:=own) (w:=w) (u:=u) (v:=.rf a b c d) h r
 | own E l=>exact zdN (P:=P) (own:=own) (w:=w) (u:=u) (v:=.own E l) h r
 | clo g l=>exact zdN (P:=P) (own:=own) (w:=w) (u:=u) (v:=.clo g l) h r
 | tup l=>exact zdN (P:=P) (own:=own) (w:=w) (u:=u) (v:=.tup l) h r
theorem rl_sub {G1 G2:Sta} (h:∀ b v,get G2 b=some v→get G1 b=some v) {own:Own} {w:World} {b:Nat} {v:AV} {u:Value} (r:RL P G1 own w b v u):RL P G2 own w b v u:=by
 cases v with
 | agg l=>obtain ⟨arr,h1,h2,h3⟩:=r;exact ⟨arr,h1,h2,fun j x v e1 e2=>zes h (h3 j x v e1 e2)⟩
 | tup l=>obtain ⟨arr,h1,h2,h3⟩:=r;exact ⟨arr,h1,h2,fun j x v e1 e2=>r1_sub h (h3 j x v e1 e2)⟩
 | bad=>exact zes (P:=P) (own:=own) (w:=w) (b:=b) (u:=u) (v:=.bad) (o:=0) h r
 | f x=>exact zes (P:=P) (own:=own) (w:=w) (b:=b) (u:=u) (v:=.f x) (o:=0) h r
 | ptr b o=>exact zes (P:=P) (own:=own) (w:=w) (b:=b) (u:=u) (v:=.ptr b o) (o:=0) h r
 | fp x o=>exact zes (P:=P) (own:=own) (w:=w) (b:=b) (u:=u) (v:=.fp x o) (o:=0) h r
 | ep a b c d=>exact zes (P:=P) (own:=own) (w:=w) (b:=b) (u:=u) (v:=.ep a b c d) (o:=0) h r
 | rf a b c d=>exact zes (P:=P) (own:=own) (w:=w) (b:=b) (u:=u) (v:=.rf a b c d) (o:=0) h r
 | own E l=>exact zes (P:=P) (own:=own) (w:=w) (b:=b) (u:=u) (v:=.own E l) (o:=0) h r
 | clo g l=>exact zes (P:=P) (own:=own) (w:=w) (b:=b) (u:=u) (v:=.clo g l) (o:=0) h r
theorem St.sub {nt:Nat} {G1 G2:Sta} {own:Own} {a:Act} {w:World} (h:∀ b v,get G2 b=some v→get G1 b=some v) (s:St P nt G1 own a w):St P nt G2 own a w:=
 ⟨s.size,fun t v e=>let ⟨u,e1,e2⟩:=s.temps t v (h _ _ e);⟨u,e1,rl_sub h e2⟩,
  fun b v hb e=>let ⟨k,arr,T,e1,e2,e3⟩:=s.boxes b v hb (h _ _ e);⟨k,arr,T,e1,e2,e3.1,fun j x u q1 q2=>zes h (e3.2 j x u q1 q2)⟩,
  s.one,s.lt⟩
def SubP (G1:Sta):Sta→Prop
 | []=>True
 | (b,v) :: r=>get G1 b=some v∧SubP G1 r
theorem SubP.get {G1:Sta}:∀ {G2:Sta},SubP G1 G2→∀ b v,get G2 b=some v→get G1 b=some v
 | [],_,b,v,h=>by cases h
 | (c,x) :: r,hs,b,v,h=>by
   unfold Ev.get at h
   split at h
   ·rename_i e;cases h;rw [e];exact hs.1
   ·exact SubP.get hs.2 b v h
theorem Wk.sub {nt:Nat} {G1 G2:Sta} (h:SubP G1 G2):Wk P nt G1 G2:=fun own a w s=>⟨own,s.sub h.get,Tr.refl _ _⟩
def zs:List Nat→List AV→Sta
 | b :: bs,v :: vs=>(b,v) :: zs bs vs
 | _,_=>[]
def zo:Nat→List AV→Sta
 | _,[]=>[]
 | i,v :: vs=>(ob i,v) :: zo (i+1) vs
theorem zdU {b:Nat}:∀ {G1 G2:Sta},get (G1++G2) b=(get G1 b).or (get G2 b)
 | [],G2=>by simp [get]
 | (c,x) :: r,G2=>by
   simp only [List.cons_append,get]
   split
   ·rfl
   ·exact zdU
theorem get_zs {b:Nat} {v:AV}:∀ {bs:List Nat} {vs:List AV},get (zs bs vs) b=some v→∃ i:Nat,bs[i]?=some b∧vs[i]?=some v
 | [],_,h=>by simp [zs,get] at h
 | _ :: _,[],h=>by simp [zs,get] at h
 | c :: bs,x :: vs,h=>by
   simp only [zs,get] at h
   split at h
   ·rename_i e;cases h;exact ⟨0,by simp [e],rfl⟩
   ·obtain ⟨i,h1,h2⟩:=get_zs h;exact ⟨i+1,by simpa using h1,by simpa using h2⟩
theorem zhv {b:Nat} {v:AV}:∀ {bs:List Nat} {vs:List AV} {i:Nat},bs.Nodup→bs[i]?=some b→vs[i]?=some v→get (zs bs vs) b=some v
 | [],_,i,_,h,_=>by simp at h
 | _ :: _,[],i,_,_,h=>by simp at h
 | c :: bs,x :: vs,0,hn,h1,h2=>by simp at h1 h2;subst h1 h2;simp [zs,get]
 | c :: bs,x :: vs,i+1,hn,h1,h2=>by
   simp only [List.getElem?_cons_succ] at h1 h2
   rw [List.nodup_cons] at hn
   have:b≠c:=by rintro rfl;exact hn.1 (List.mem_of_getElem? h1)
   simp only [zs,get,if_neg this];exact zhv hn.2 h1 h2
theorem get_zo {b:Nat} {v:AV}:∀ {vs:List AV} {i:Nat},get (zo i vs) b=some v→∃ j,b=ob (i+j)∧vs[j]?=some v
 | [],i,h=>by simp [zo,get] at h
 | x :: vs,i,h=>by
   simp only [zo,get] at h
   split at h
   ·rename_i e;cases h;exact ⟨0,by simp [e],rfl⟩
   ·obtain ⟨j,h1,h2⟩:=get_zo h;exact ⟨j+1,by rw [h1];congr 1;omega,by simpa using h2⟩
theorem get_all {p:Nat×AV→Bool} {b:Nat} {v:AV}:∀ {G:Sta},G.all p=true→get G b=some v→p (b,v)=true
 | [],_,h=>by cases h
 | (c,x) :: r,ha,h=>by
   simp only [List.all_cons,Bool.and_eq_true] at ha
   unfold get at h
   split at h
   ·rename_i e;cases h;rw [e];exact ha.1
   ·exact get_all ha.2 h
theorem get_renG {f:Nat→Nat} {b:Nat}:∀ {G:Sta},get (G.map fun p=>(p.1,ren1 f p.2)) b=(get G b).map (ren1 f)
 | []=>rfl
 | (c,x) :: r=>by
   simp only [List.map_cons,get]
   split
   ·rfl
   ·exact get_renG
def gtOk (bs:List Nat) (gt:Sta):Bool:=gt.all fun p=>p.1 % 3 == 1 && shut1 false bs.contains p.2
def csOk (bs:List Nat) (cs:List AV):Bool:=cs.length == bs.length && cs.all (shut1 true bs.contains)
def bsOk (bs:List Nat):Bool:=bs.all (fun b=>b % 3 != 1)
def rst (gt:Sta) (bs:List Nat) (cs:List AV) (p0 p1:Tmp) (i:Int) (y:FV):Sta:=
 (tb p0,.f (.pv (.int .i64 i))) :: (tb p1,asAV y) :: ((gt.map fun p=>(p.1,ren1 (toOut bs) p.2))++zo 0 (cs.map (ren1 (toOut bs))))
theorem shut1_shut2 {p:Nat→Bool} {v:AV} (h:shut1 false p v=true):shut2 p v=true∧ren2=ren2:=by
 refine ⟨?_,rfl⟩
 have h0:∀ v,shut0 false p v=true→shut0 true p v=true:=by intro v hv;cases v<;>first | exact hv | rfl
 cases v with
 | agg l=>exact List.all_eq_true.2 fun x hx=>h0 x (List.all_eq_true.1 h x hx)
 | tup l=>simp [shut1,shut0,capIn] at h
 | _=>simp only [shut1] at h;simp only [shut2,shut1];exact h0 _ h
theorem shut1_notup {o:Bool} {p:Nat→Bool} {v:AV} (h:shut1 o p v=true):∀ l,v≠.tup l:=by rintro l rfl;simp [shut1,shut0,capIn] at h
theorem shut_rl {p:Nat→Bool} {G G':Sta} {own own':Own} {w:World} {f:Nat→Nat} {b b':Nat} {v:AV} {u:Value} (hs:shut1 false p v=true) (hn:∀ k,own k=none→own' k=none) (hb:∀ k b,p b=true→own k=some (.box b)→own' k=some (.box (f b)))
 (h:RL P G own w b v u):RL P G' own' w b' (ren1 f v) u:=by
 have h2:=(shut1_shut2 hs).1
 have hnt:=shut1_notup hs
 have h0:∀ (j:Nat) v u,shut0 false p v=true→RO P G own w b j v u→RO P G' own' w b' j (ren0 f v) u:=by
  intro j v u hv h
  have hne:∀ E l,v≠.own E l:=by rintro E l rfl;simp [shut0] at hv
  rw [zeE hne] at h
  have:=zgm (P:=P) (G:=G) (G':=G') (own':=own') hn hb h hv
  rw [zeE];exact this
  intro E l e;cases v<;>simp [ren0] at e;exact hne _ _ rfl
 cases v with
 | agg l=>
   obtain ⟨arr,e1,e2,e3⟩:=h
   refine ⟨arr,e1,by simpa using e2,fun j x y q1 q2=>?_⟩
   rw [List.getElem?_map] at q1
   cases hj:l[j]? with
   | none=>rw [hj] at q1;cases q1
   | some z=>rw [hj] at q1;cases q1;exact h0 j z y (List.all_eq_true.1 hs z (List.mem_of_getElem? hj)) (e3 j z y hj q2)
 | tup l=>exact absurd rfl (hnt l)
 | bad=>exact h0 0 .bad u hs h
 | f x=>exact h0 0 (.f x) u hs h
 | ptr b o=>exact h0 0 (.ptr b o) u hs h
 | fp x o=>exact h0 0 (.fp x o) u hs h
 | clo g l=>exact h0 0 (.clo g l) u hs h
 | _=>simp [shut1,shut0,capIn] at hs
theorem asAV_rl {G:Sta} {own:Own} {w:World} {b:Nat} {y:FV} {u:Value} {sz:Nat} (hy:y.fits sz=true) (h:RF own w y u):RL P G own w b (asAV y) u:=by
 cases h with
 | pv=>rename_i h;exact ⟨rfl,.pv _ h⟩
 | agg l arr hl hh=>
   refine ⟨arr,rfl,by simpa using hl,fun j x v e1 e2=>?_⟩
   rw [List.getElem?_map] at e1
   cases hj:l[j]? with
   | none=>rw [hj] at e1;cases e1
   | some z=>
     rw [hj] at e1;cases e1
     simp only [FV.fits,FV.cells,Bool.and_eq_true,List.all_eq_true] at hy
     exact ⟨hy.2 z (List.mem_of_getElem? hj),hh j z v hj e2⟩
 | sl l a n c ad sz hn hc ha hsz hcell hv=>exact ⟨rfl,.sl l a n c ad sz hn hc ha hsz hcell hv⟩
def okBack (own:Own) (w:World) (l:List FV) (i:Nat) (x:Array Value):Prop:=
 ∃ y u,l[l.length - 1 - i]?=some y∧x=#[.int .i64 ((l.length:Int) - 1 - i),u]∧RF own w y u
def BackOk (P:Program) (gf:FuncId) {α:Type} (enc:α→FV):Prop:=
 ∀ (xs:List α) (own:Own) (w:World) (lb:Value),(xs.length:Int)≤9223372036854775807→RC own w (.fp (.sl (xs.map enc)) 0) lb→(∀ k k' o,own k=some o→own k'=some o→k=k')→(∀ k o,own k=some o→k < w.heap.size)→
   Gives P gf #[lb] xs.length (okBack own w (xs.map enc)) (fun k=>k < w.heap.size∧(own k=none∨∃ o,own k=some (.al o))) w
theorem zg7 {F:Fence} (h:WideF P F) (l:Nat):WideF P (F.inRound l):=⟨h.fn,h.deep,fun m g vs w R k=>h.calls m g vs w R k⟩
theorem Tr.put {own own':Own} {w w':World} (h:Tr own w own' w') {l:Nat} (hl:w.heap.size≤l) (o:Obj) (hlt:∀ k o,own k=some o→k < w.heap.size):Tr own w own' (w'.putObj l o):=
 ⟨by rw [zb7];exact h.size,fun k hk hn=>⟨(h.keep k hk hn).1,(World.putObj_heap_other (by omega)).trans (h.keep k hk hn).2⟩,h.os,h.tape,h.output,
  fun k o e=>⟨(h.al k o e).1,(World.putObj_heap_other (by have:=hlt _ _ e;omega)).trans (h.al k o e).2⟩,h.bx⟩
theorem zhf {w:World} {l:Nat} {o:Obj} (h:w.heap[l]?=some o):w.putObj l o=w:=by
 unfold World.putObj
 have:w.heap.setIfInBounds l o=w.heap:=by
  apply Array.ext_getElem?
  intro i
  rw [Array.getElem?_setIfInBounds]
  split
  ·rename_i e;subst e;rw [h];simp [(Array.getElem?_eq_some_iff.1 h).1]
  ·rfl
 rw [this]
theorem ze7 {w:World} {l:Nat} {o o':Obj}:(w.putObj l o).putObj l o'=w.putObj l o':=by
 unfold World.putObj
 have:(w.heap.setIfInBounds l o).setIfInBounds l o'=w.heap.setIfInBounds l o':=by
  apply Array.ext_getElem?
  intro i
  simp only [Array.getElem?_setIfInBounds,Array.size_setIfInBounds]
  split<;>rfl
 simp only [this]
end Go.Ev
set_option linter.unusedVariables false
set_option linter.unusedSimpArgs false
namespace Go.Ev
open Go Go.RowKit
variable {P : Program}
section
variable {c : Cfg} {G : Sta} {own own' : Own} {a : Act} {w w' : World}
theorem zis {bs:List Nat} {gt:Sta} (h:gtOk bs gt=true) {b:Nat} {v:AV} (e:get gt b=some v):b % 3=1∧shut1 false bs.contains v=true:=by
 have:=get_all h e
 simpa using this
theorem rk_get {bs:List Nat} {gt:Sta} {cs:List AV} (h1:gtOk bs gt=true) (h3:bsOk bs=true) {b:Nat} {v:AV} (e:get (gt++zs bs cs) b=some v) :
 (b % 3=1∧shut1 false bs.contains v=true∧get gt b=some v)∨(b % 3≠1∧∃ i:Nat,bs[i]?=some b∧cs[i]?=some v):=by
 rw [zdU] at e
 cases hg:get gt b with
 | some x=>rw [hg] at e;simp at e;subst e;exact .inl ⟨(zis h1 hg).1,(zis h1 hg).2,rfl⟩
 | none=>
   rw [hg] at e;simp at e
   obtain ⟨i,q1,q2⟩:=get_zs e
   have:=List.all_eq_true.1 h3 b (List.mem_of_getElem? q1)
   exact .inr ⟨by simpa using this,i,q1,q2⟩
theorem round_st {nt:Nat} {gt:Sta} {bs:List Nat} {cs:List AV} (h1:gtOk bs gt=true) (h2:csOk bs cs=true) (h3:bsOk bs=true) (hn:bs.Nodup) (s:St P nt (gt++zs bs cs) own a w) {p0 p1:Tmp} (hp0:p0 < nt) (hp1:p1 < nt) (hp:p0≠p1)
 {i:Int} {y:FV} {u:Value} {sz:Nat} (hy:y.fits sz=true) (hu:RF own w y u) :
 St P nt (rst gt bs cs p0 p1 i y) (ownC bs own) { tmps:=((#[p0,p1]:Array Tmp).zip #[.int .i64 i,u]).foldl (fun t (p,v)=>t.setIfInBounds p v) a.tmps,defers:=[] } w:=by
 have htm:((#[p0,p1]:Array Tmp).zip (#[.int .i64 i,u]:Array Value)).foldl (fun t (x:Tmp×Value)=>t.setIfInBounds x.1 x.2) a.tmps=(a.tmps.setIfInBounds p0 (.int .i64 i)).setIfInBounds p1 u:=by
  simp [List.zip_toArray]
 have hnn:∀ k,own k=none→ownC bs own k=none:=fun k hk=>by simp [ownC,hk]
 have hbx:∀ k b,bs.contains b=true→own k=some (.box b)→ownC bs own k=some (.box (toOut bs b)):=fun k b hb hk=>by
  simp only [ownC,hk,Option.map_some,toOwn];rw [if_pos hb]
 simp only [csOk,Bool.and_eq_true,beq_iff_eq] at h2
 have htr:∀ x u,RF own w x u→RF (ownC bs own) w x u:=fun x u h=>h.mono0 hnn
 refine ⟨by rw [htm];simp [s.size],fun t v e=>?_,fun b v hb e=>?_,fun k k' x e e'=>?_,fun k x e=>?_⟩
 ·rw [htm]
  simp only [rst,get] at e
  split at e
  ·rename_i ht;cases e
   have:=tb_inj ht;subst this
   refine ⟨.int .i64 i,by rw [Array.getElem?_setIfInBounds_ne (fun e=>hp e.symm),Array.getElem?_setIfInBounds_self_of_lt (by rw [s.size];exact hp0)],⟨rfl,.pv _ rfl⟩⟩
  ·rename_i hne0
   split at e
   ·rename_i ht;cases e
    have:=tb_inj ht;subst this
    refine ⟨u,by rw [Array.getElem?_setIfInBounds_self_of_lt (by simp [s.size];exact hp1)],asAV_rl hy (htr _ _ hu)⟩
   ·rename_i hne1
    rw [zdU,get_renG] at e
    cases hg:get gt (tb t) with
    | none=>
      rw [hg] at e;simp at e
      obtain ⟨j,q1,q2⟩:=get_zo e
      exfalso;simp only [tb,ob] at q1;omega
    | some x=>
      rw [hg] at e;simp at e;subst e
      obtain ⟨u',q1,q2⟩:=s.temps t x (by rw [zdU,hg];rfl)
      refine ⟨u',?_,shut_rl (zis h1 hg).2 hnn hbx q2⟩
      rw [Array.getElem?_setIfInBounds_ne (by rintro rfl;exact hne1 rfl),Array.getElem?_setIfInBounds_ne (by rintro rfl;exact hne0 rfl)];exact q1
 ·simp only [rst,get] at e
  split at e
  ·rename_i ht;subst ht;simp [tb] at hb
  ·split at e
   ·rename_i ht;subst ht;simp [tb] at hb
   ·rw [zdU,get_renG] at e
    cases hg:get gt b with
    | some x=>exact absurd (zis h1 hg).1 hb
    | none=>
      rw [hg] at e;simp at e
      obtain ⟨j,q1,q2⟩:=get_zo e
      rw [Nat.zero_add] at q1
      rw [List.getElem?_map] at q2
      cases hj:cs[j]? with
      | none=>rw [hj] at q2;cases q2
      | some y'=>
        rw [hj] at q2;cases q2
        have hlt:j < bs.length:=by have:=(List.getElem?_eq_some_iff.1 hj).1;omega
        obtain ⟨b0,hb0⟩:∃ b0,bs[j]?=some b0:=⟨bs[j],by simp⟩
        have hmem:=List.mem_of_getElem? hb0
        have hb03:b0 % 3≠1:=by have:=List.all_eq_true.1 h3 b0 hmem;simpa using this
        have hgg:get (gt++zs bs cs) b0=some y':=by
         rw [zdU]
         cases hq:get gt b0 with
         | some z=>exact absurd (zis h1 hq).1 hb03
         | none=>simp;exact zhv hn hb0 hj
        obtain ⟨k,arr,TT,e1,e2,e3⟩:=s.boxes b0 y' hb03 hgg
        have hto:=zcZ hn hb0
        subst q1
        refine ⟨k,arr,TT,by rw [← hto];exact hbx k b0 (by simpa using hmem) e1,e2,?_⟩
        refine ren_rb hnn hbx ?_ e3 (List.all_eq_true.1 h2.2 y' (List.mem_of_getElem? hj))
        intro k j hk
        simp only [ownC,hk,Option.map_some,toOwn]
        rw [if_pos (by simpa using hmem),hto]
 ·simp only [ownC] at e e'
  cases q:own k with
  | none=>rw [q] at e;cases e
  | some y=>
    cases q':own k' with
    | none=>rw [q'] at e';cases e'
    | some y'=>
      rw [q] at e;rw [q'] at e'
      simp only [Option.map_some,Option.some.injEq] at e e'
      have:=toOwn_inj hn e e'
      subst this
      exact s.one k k' y q q'
 ·simp only [ownC] at e
  cases q:own k with
  | none=>rw [q] at e;cases e
  | some y=>exact s.lt k y q
theorem round_back {gt:Sta} {bs:List Nat} {cs cs':List AV} (h1:gtOk bs gt=true) (h2:csOk bs cs=true) (h2':csOk bs cs'=true) (h3:bsOk bs=true) (hn:bs.Nodup) (hlen:sameLens cs cs'=true) (s:St P c.nt (gt++zs bs cs) own a w)
 {G3:Sta} {a3:Act} (s3:St P c.nt G3 own' a3 w') (hG:evOuts bs.length 0 G3=some (cs'.map (ren1 (toOut bs)))) (tr:Tr (ownC bs own) w own' w') :
 ∃ own2,St P c.nt (gt++zs bs cs') own2 a w'∧Tr own w own2 w':=by
 have h2a:=h2;have h2b:=h2'
 simp only [csOk,Bool.and_eq_true,beq_iff_eq] at h2a h2b
 have hshut:∀ v,v∈cs'→shut1 true bs.contains v=true:=fun v hv=>List.all_eq_true.1 h2b.2 v hv
 have hin:∀ b,bs.contains b=true→∃ i:Nat,bs[i]?=some b:=fun b hb=>List.mem_iff_getElem?.1 (by simpa using hb)
 have hr0:∀ o v,shut0 o bs.contains v=true→shut0 o (isOut bs.length) (ren0 (toOut bs) v)=true∧ren0 (back bs) (ren0 (toOut bs) v)=v:=by
  intro o v hv
  have hc:∀ v,capIn bs.contains v=true→capIn (isOut bs.length) (renC (toOut bs) v)=true∧renC (back bs) (renC (toOut bs) v)=v:=by
   intro v hv
   cases v with
   | ptr b off=>
     obtain ⟨i,hi⟩:=hin b hv
     have hto:=zcZ hn hi
     refine ⟨?_,?_⟩
     ·show isOut bs.length (toOut bs b)=true
      rw [hto];exact zgY (List.getElem?_eq_some_iff.1 hi).1
     ·simp only [renC];rw [hto,back_ob hi]
   | _=>exact ⟨hv,rfl⟩
  cases v with
  | clo g caps=>
    simp only [shut0,List.all_eq_true] at hv ⊢
    refine ⟨?_,?_⟩
    ·simp only [ren0,shut0,List.all_map,List.all_eq_true]
     exact fun x hx=>(hc x (hv x hx)).1
    ·simp only [ren0,List.map_map,AV.clo.injEq,true_and]
     conv=>rhs;rw [← List.map_id caps]
     exact List.map_congr_left fun x hx=>(hc x (hv x hx)).2
  | own E l=>exact ⟨hv,rfl⟩
  | ptr b off=>exact hc (.ptr b off) hv
  | _=>exact ⟨hv,rfl⟩
 have hr1:∀ o v,shut1 o bs.contains v=true→shut1 o (isOut bs.length) (ren1 (toOut bs) v)=true∧ren1 (back bs) (ren1 (toOut bs) v)=v:=by
  intro o v hv
  rcases zbZ (f:=toOut bs) hv with ⟨l,rfl,hl⟩ | ⟨q1,q2,q3,q4⟩
  ·refine ⟨?_,?_⟩
   ·simp only [ren1,shut1,List.all_map,List.all_eq_true]
    exact fun x hx=>(hr0 o x (List.all_eq_true.1 hl x hx)).1
   ·simp only [ren1,List.map_map,AV.agg.injEq]
    conv=>rhs;rw [← List.map_id l]
    exact List.map_congr_left fun x hx=>(hr0 o x (List.all_eq_true.1 hl x hx)).2
  ·have key:=hr0 o v q1
   rw [q3]
   have hne:∀ l,ren0 (toOut bs) v≠.agg l:=fun l e=>by rw [e] at q4;simp [AV.isLeaf] at q4
   generalize hx:ren0 (toOut bs) v=x at key hne
   cases x with
   | agg l=>exact absurd rfl (hne l)
   | _=>exact key
 obtain ⟨outs,houts⟩:∃ outs,outs=cs'.map (ren1 (toOut bs)):=⟨_,rfl⟩
 have ho:Outs P own' w' outs:=by
  have hsp:=zeK (K:=fun l=>l=outs) hG houts.symm
  obtain ⟨l,rfl,hl⟩:=zdk hsp
  refine ⟨fun i v hv=>?_,s3.one,s3.lt⟩
  obtain ⟨k,arr,TT,e1,e2,e3⟩:=s3.boxes (ob i) v (by simp only [ob];omega) (by have:=hl i v hv;rwa [Nat.zero_add] at this)
  have hv':∃ z,z∈cs'∧v=ren1 (toOut bs) z:=by
   rw [houts,List.getElem?_map] at hv
   cases hz:cs'[i]? with
   | none=>rw [hz] at hv;cases hv
   | some z=>rw [hz] at hv;cases hv;exact ⟨z,List.mem_of_getElem? hz,rfl⟩
  obtain ⟨z,hz,rfl⟩:=hv'
  have hs:=(hr1 true z (hshut z hz)).1
  refine ⟨k,arr,TT,e1,e2,?_⟩
  have:=ren_rb (P:=P) (G':=[]) (own':=own') (f:=fun b=>b) (p:=isOut bs.length) (fun k h=>h) (fun k b _ h=>h) (b:=ob i) (b':=ob i) (fun k j h=>h) e3 hs
  have hid:ren1 (fun b=>b) (ren1 (toOut bs) z)=ren1 (toOut bs) z:=by
   generalize ren1 (toOut bs) z=v
   have h0:∀ v,ren0 (fun b=>b) v=v:=by
    intro v
    cases v with
    | clo g caps=>
      simp only [ren0,AV.clo.injEq,true_and]
      conv=>rhs;rw [← List.map_id caps]
      exact List.map_congr_left fun x _=>by cases x<;>rfl
    | _=>rfl
   cases v with
   | agg l=>
     simp only [ren1,AV.agg.injEq]
     conv=>rhs;rw [← List.map_id l]
     exact List.map_congr_left fun x _=>h0 x
   | _=>simp only [ren1];exact h0 _
  rw [hid] at this;exact this
 have g1:outs.length=bs.length:=by rw [houts,List.length_map];exact h2b.1
 have g3:outs.all (shut1 true (isOut bs.length))=true:=by
  rw [houts,List.all_map,List.all_eq_true]
  exact fun x hx=>(hr1 true x (hshut x hx)).1
 have h3':∀ b∈bs,b % 3≠1:=fun b hb=>by have:=List.all_eq_true.1 h3 b hb;simpa using this
 have hcs:∀ (i:Nat) b v,bs[i]?=some b→cs[i]?=some v→get (gt++zs bs cs) b=some v:=by
  intro i b v hb hv
  rw [zdU]
  cases hq:get gt b with
  | some z=>exact absurd (zis h1 hq).1 (h3' b (List.mem_of_getElem? hb))
  | none=>simp;exact zhv hn hb hv
 have hlm:∀ v:AV,(ren1 (toOut bs) v).leaves.length=v.leaves.length→True:=fun _ _=>trivial
 have g2:sameLens cs outs=true:=by
  rw [houts]
  have hx:∀ (cs cs':List AV),sameLens cs cs'=true→(∀ v∈cs',shut1 true bs.contains v=true)→sameLens cs (cs'.map (ren1 (toOut bs)))=true:=by
   intro cs
   induction cs with
   | nil=>intro cs' _ _;cases cs'<;>rfl
   | cons x cs ih=>
     intro cs' h hs
     cases cs' with
     | nil=>simp [sameLens] at h
     | cons y cs'=>
       simp only [sameLens,List.map_cons,Bool.and_eq_true,beq_iff_eq] at h ⊢
       refine ⟨?_,ih cs' h.2 fun v hv=>hs v (List.mem_cons_of_mem _ hv)⟩
       rw [(zdh (f:=toOut bs) (hs y (List.mem_cons_self ..))).1,List.length_map];exact h.1
  exact hx cs cs' hlen hshut
 obtain ⟨s4,t4⟩:=call_back (c:=c) (d:=none) (r:=.tup []) (u:=.tuple #[]) s h2a.1.symm hcs h3' hn rfl g1 g2 g3 rfl tr ho ⟨#[],rfl,rfl,fun j x v h=>by simp at h⟩
 refine ⟨_,⟨s4.size,fun t v e=>?_,fun b v hb e=>?_,s4.one,s4.lt⟩,t4⟩
 ·rcases rk_get h1 h3 e with ⟨q1,q2,q3⟩ | ⟨q1,_⟩
  ·have hS:outS bs none (tb t)=false:=by
    have:tb t∉bs:=fun hb=>h3' _ hb (by simp [tb])
    simp [outS,dIs,this]
   have hg:=get_out (r:=ren2 (back bs) (.tup [])) (G:=gt++zs bs cs) (back bs) g1.symm hS
   have hg2:get (gt++zs bs cs) (tb t)=some v:=by rw [zdU,q3];rfl
   rw [hg2,Option.map_some] at hg
   have hk:AV.map2 (killS (outS bs none)) v=v:=by
    have h0:∀ o v,shut0 o bs.contains v=true→killS (outS bs none) v=v:=by
     intro o v hv;cases v<;>first | rfl | simp [shut0,capIn] at hv
    rcases zbZ (f:=toOut bs) q2 with ⟨l,rfl,hl⟩ | ⟨z1,z2,_,_⟩
    ·simp only [AV.map2,AV.agg.injEq]
     conv=>rhs;rw [← List.map_id l]
     exact List.map_congr_left fun x hx=>h0 false x (List.all_eq_true.1 hl x hx)
    ·rw [zbD (zW z2).1 (zW z2).2];exact h0 false v z1
   rw [hk] at hg
   obtain ⟨u,e1,e2⟩:=s4.temps t v hg
   refine ⟨u,e1,?_⟩
   have:=shut_rl (P:=P) (G':=gt++zs bs cs') (own':=ownR bs none own own') (f:=fun b=>b) (b':=tb t) q2 (fun k h=>h) (fun k b _ h=>h) e2
   have hid:ren1 (fun b=>b) v=v:=by
    have h0:∀ v,ren0 (fun b=>b) v=v:=by
     intro v
     cases v with
     | clo g caps=>
       simp only [ren0,AV.clo.injEq,true_and]
       conv=>rhs;rw [← List.map_id caps]
       exact List.map_congr_left fun x _=>by cases x<;>rfl
     | _=>rfl
    cases v with
    | agg l=>
      simp only [ren1,AV.agg.injEq]
      conv=>rhs;rw [← List.map_id l]
      exact List.map_congr_left fun x _=>h0 x
    | _=>simp only [ren1];exact h0 _
   rwa [hid] at this
  ·exact absurd (show tb t % 3=1 by simp only [tb];omega) q1
 ·rcases rk_get h1 h3 e with ⟨q1,_⟩ | ⟨q1,i,q2,q3⟩
  ·exact absurd q1 hb
  ·have hv:outs[i]?=some (ren1 (toOut bs) v):=by rw [houts,List.getElem?_map,q3];rfl
   obtain ⟨x,hx⟩:∃ x,cs[i]?=some x:=by
    have:i < cs.length:=by have:=(List.getElem?_eq_some_iff.1 q2).1;omega
    exact ⟨cs[i],by simp⟩
   have hlen':(ren1 (back bs) (ren1 (toOut bs) v)).leaves.length=x.leaves.length:=by
    rw [(hr1 true v (hshut v (List.mem_of_getElem? q3))).2];exact zdI hlen i x v hx q3
   have hg:=zhy (d:=none) (r:=ren2 (back bs) (.tup [])) (G:=gt++zs bs cs) (back bs) g1.symm hn q2 hv hb (fun v hv S=>shut_kill (List.all_eq_true.1 g3 v hv) S) ⟨x,hcs i b x q2 hx,hlen'⟩
   rw [(hr1 true v (hshut v (List.mem_of_getElem? q3))).2] at hg
   obtain ⟨k,arr,TT,e1,e2,e3⟩:=s4.boxes b v hb hg
   refine ⟨k,arr,TT,e1,e2,?_⟩
   have:=ren_rb (P:=P) (G':=gt++zs bs cs') (own':=ownR bs none own own') (f:=fun b=>b) (p:=bs.contains) (fun k h=>h) (fun k b _ h=>h) (b:=b) (b':=b) (fun k j h=>h) e3 (hshut v (List.mem_of_getElem? q3))
   have hid:ren1 (fun b=>b) v=v:=by
    have h0:∀ v,ren0 (fun b=>b) v=v:=by
     intro v
     cases v with
     | clo g caps=>
       simp only [ren0,AV.clo.injEq,true_and]
       conv=>rhs;rw [← List.map_id caps]
       exact List.map_congr_left fun x _=>by cases x<;>rfl
     | _=>rfl
    cases v with
    | agg l=>
      simp only [ren1,AV.agg.injEq]
      conv=>rhs;rw [← List.map_id l]
      exact List.map_congr_left fun x _=>h0 x
    | _=>simp only [ren1];exact h0 _
   rwa [hid] at this
end
end Go.Ev
