import Derived.Test.YtdjaimobmmgobaaGreatA01
import Derived.Tactics
import Derived.RangeFuncRecord
import Derived.OpenShut
import Derived.Below
import Derived.RangeFuncSeq
import Derived.KernelRfl
set_option linter.unusedVariables false
set_option linter.unusedSimpArgs false
namespace Go.Ev
open Go Go.RowKit
variable {P : Program}
def RM.wq (CE:CEx) (G:Sta):RM→(List Up→Prop)→Prop
 | .ret U,K=>K U
 | .fail,_=>False
 | .ask b o k,K=>match look G b o with
   | some v=>v.ok=true∧(k v).wq CE G K
   | none=>False
 | .peek b k,K=>match get G b with
   | some v=>(k v.leaves.length).wq CE G K
   | none=>False
 | .call g args outs k,K=>∃ r outs',CE g args outs r outs'∧(k r outs').wq CE G K
theorem RM.wq_wp {CE:CEx} {G:Sta} {K:List Up→Prop}:∀ (m:RM) (T:List Acc),m.wq CE G K→m.wp CE G T fun U _=>K U
 | .ret U,T,h=>h
 | .fail,T,h=>h
 | .ask b o k,T,h=>by
   simp only [RM.wq] at h
   split at h
   ·rename_i v hv;exact ⟨v,hv,h.1,RM.wq_wp _ _ h.2⟩
   ·exact h.elim
 | .peek b k,T,h=>by
   simp only [RM.wq] at h
   split at h
   ·rename_i v hv;exact ⟨v,hv,RM.wq_wp _ _ h⟩
   ·exact h.elim
 | .call g args outs k,T,h=>by
   obtain ⟨r,o,h1,h2⟩:=h
   exact ⟨r,o,h1,RM.wq_wp _ _ h2⟩
def guardRM (c:Cfg) (ops:Array Oper) (o:Oper):RM:=
 match o.guard with
 | none=>opRM c o
 | some (j,want)=>match (ops[j]?).bind (·.dst) with
   | none=>.fail
   | some t=>.ask (tb t) none fun v=>match v with
     | .f (.pv (.bool b))=>if b=want then opRM c o else fin c o.dst [] (.tup [])
     | .tup []=>fin c o.dst [] (.tup [])
     | _=>.fail
theorem zfe {c:Cfg} {ops:Array Oper} {i:Nat} {o:Oper} (h:ops[i]?=some o):stepRM c ops i=guardRM c ops o:=by
 simp only [stepRM,h];rfl
structure Lg where
 i:Nat
 R:List Acc
 W:List Acc
def Ent.lg (x:Ent):Lg:=⟨x.i,x.reads,Ups.writes x.U⟩
section
variable {CE : CEx} {c : Cfg} {ops : Array Oper}
end
def apartB (A B:List Acc):Bool:=A.all fun a=>B.all fun b=>!a.meets b
theorem zjv {A B:List Acc} (h:apartB A B=true):Apart A B:=by
 intro a ha b hb
 have:=List.all_eq_true.1 (List.all_eq_true.1 h a ha) b hb
 simpa using this
def indB (x y:Ent):Bool:=apartB (x.reads++Ups.writes x.U) (Ups.writes y.U) && apartB y.reads (Ups.writes x.U)
theorem indB_spec {x y:Ent} (h:indB x y=true):x.ind y:=by
 simp only [indB,Bool.and_eq_true] at h
 exact ⟨zjv h.1,zjv h.2⟩
def ancOk (ops:Array Oper) (tab:List (List Nat)):Bool:=
 (List.range ops.size).all fun i=>(tab.getD i []).all fun j=>match ops[i]? with
   | none=>false
   | some o=>o.after.toList.any fun e=>Region.binds .any e && (e.on == j || (tab.getD e.on []).contains j)
def ancT (tab:List (List Nat)) (j i:Nat):Bool:=(tab.getD i []).contains j
theorem zhu {ops:Array Oper} {tab:List (List Nat)} (htopo:topo ops=true) (h:ancOk ops tab=true):∀ (f i j:Nat),i < f→i < ops.size→ancT tab j i=true→anc ops f j i=true
 | 0,i,j,hf,_,_=>absurd hf (Nat.not_lt_zero _)
 | f+1,i,j,hf,hi,ht=>by
   have h1:=List.all_eq_true.1 h i (List.mem_range.2 hi)
   have h2:=List.all_eq_true.1 h1 j (by simpa [ancT] using ht)
   obtain ⟨o,ho⟩:∃ o,ops[i]?=some o:=⟨ops[i],by simp [hi]⟩
   rw [ho] at h2
   simp only [anc,ho]
   obtain ⟨e,he',hh⟩:=List.any_eq_true.1 h2
   have he:=Array.mem_toList_iff.1 he'
   simp only [Bool.and_eq_true,Bool.or_eq_true,beq_iff_eq] at hh
   refine List.any_eq_true.2 ⟨e,he',?_⟩
   simp only [Bool.and_eq_true,Bool.or_eq_true,beq_iff_eq]
   have hlt:=topo_spec htopo ho he hh.1
   exact ⟨hh.1,hh.2.imp id fun h3=>zhu htopo h f e.on j (by omega) (by omega) h3⟩
def lgOk (x y:Lg):Bool:=apartB (x.R++x.W) y.W && apartB y.R x.W
def logOk (tab:List (List Nat)):List Lg→Bool
 | []=>true
 | x :: r=>r.all (fun y=>ancT tab x.i y.i || lgOk x y) && logOk tab r
def entOkB (tab:List (List Nat)) (es:List Ent):Bool:=logOk tab (es.map Ent.lg)
theorem zfU {ops:Array Oper} {tab:List (List Nat)} (htopo:topo ops=true) (h:ancOk ops tab=true):∀ {es:List Ent},(∀ x∈es,x.i < ops.size)→entOkB tab es=true→entOk ops es
 | [],_,_=>trivial
 | x :: r,hlt,hes=>by
   simp only [entOkB,List.map_cons,logOk,Bool.and_eq_true] at hes
   refine ⟨fun y hy hn=>?_,zfU htopo h (fun z hz=>hlt z (List.mem_cons_of_mem _ hz)) hes.2⟩
   have:=List.all_eq_true.1 hes.1 y.lg (List.mem_map.2 ⟨y,hy,rfl⟩)
   simp only [Bool.or_eq_true] at this
   rcases this with h1 | h1
   ·have hy:=hlt y (List.mem_cons_of_mem _ hy)
    rw [zhu htopo h ops.size y.i x.i hy hy h1] at hn;cases hn
   ·exact indB_spec h1
def dropN (dead:Nat→Bool):Sta→Sta
 | []=>[]
 | (b,v) :: r=>if dead b=true then dropN dead r else (b,v) :: dropN dead r
theorem zdt {dead:Nat→Bool} {b:Nat}:∀ {G:Sta},get (dropN dead G) b=if dead b=true then none else get G b
 | []=>by simp [dropN,get]
 | (c,v) :: r=>by
   have ih:=zdt (dead:=dead) (b:=b) (G:=r)
   simp only [dropN]
   by_cases hc:dead c=true
   ·rw [if_pos hc,ih]
    by_cases hb:dead b=true
    ·rw [if_pos hb,if_pos hb]
    ·rw [if_neg hb,if_neg hb]
     have:b≠c:=fun e=>hb (by rw [e];exact hc)
     simp [get,this]
   ·rw [if_neg hc]
    simp only [get]
    by_cases hbc:b=c
    ·subst hbc;rw [if_pos rfl,if_neg hc,if_pos rfl]
    ·rw [if_neg hbc,ih,if_neg hbc]
theorem zj0 {dead:Nat→Bool} {b:Nat} {o:Option Nat} {G:Sta}:look (dropN dead G) b o=if dead b=true then none else look G b o:=by
 cases o with
 | none=>exact zdt
 | some o=>
   simp only [look,zdt]
   split<;>rfl
section
variable {nt : Nat} {G : Sta} {own : Own} {a : Act} {w : World}
theorem zia {dead:Nat→Bool} {b o i n:Nat} {u:Value} (h:SlV P G own w b o i n u):SlV P (dropN dead G) own w b o i n u:=by
 unfold SlV at h ⊢
 rw [zj0]
 by_cases hd:dead b=true
 ·rw [if_pos hd];trivial
 ·rw [if_neg hd];exact h
theorem zil {dead:Nat→Bool} {b o i n:Nat} {u:Value} (h:EpV P G own w b o i n u):EpV P (dropN dead G) own w b o i n u:=by
 unfold EpV at h ⊢
 rw [zj0]
 by_cases hd:dead b=true
 ·rw [if_pos hd];trivial
 ·rw [if_neg hd];exact h
theorem r0_drop {dead:Nat→Bool} {v:AV} {u:Value} (h:R0 P G own w v u):R0 P (dropN dead G) own w v u:=by
 cases v with
 | rf b o i n=>exact zia h
 | ep b o i n=>exact zil h
 | _=>exact h
theorem ro_drop {dead:Nat→Bool} {b o:Nat} {v:AV} {u:Value} (h:RO P G own w b o v u):RO P (dropN dead G) own w b o v u:=by
 cases v with
 | rf b o i n=>exact zia h
 | ep b o i n=>exact zil h
 | _=>exact h
theorem r1_drop {dead:Nat→Bool} {v:AV} {u:Value} (h:R1 P G own w v u):R1 P (dropN dead G) own w v u:=by
 cases v with
 | agg l=>obtain ⟨arr,e1,e2,e3⟩:=h;exact ⟨arr,e1,e2,fun j x y h1 h2=>r0_drop (e3 j x y h1 h2)⟩
 | rf b o i n=>exact zia h
 | ep b o i n=>exact zil h
 | _=>exact h
theorem rl_drop {dead:Nat→Bool} {b:Nat} {v:AV} {u:Value} (h:RL P G own w b v u):RL P (dropN dead G) own w b v u:=by
 cases v with
 | agg l=>obtain ⟨arr,e1,e2,e3⟩:=h;exact ⟨arr,e1,e2,fun j x y h1 h2=>ro_drop (e3 j x y h1 h2)⟩
 | tup l=>obtain ⟨arr,e1,e2,e3⟩:=h;exact ⟨arr,e1,e2,fun j x y h1 h2=>r1_drop (e3 j x y h1 h2)⟩
 | rf b o i n=>exact zia h
 | ep b o i n=>exact zil h
 | _=>exact h
theorem rb_drop {dead:Nat→Bool} {b:Nat} {v:AV} {arr:Array Value} (h:RB P G own w b v arr):RB P (dropN dead G) own w b v arr:=
 ⟨h.1,fun j x u h1 h2=>ro_drop (h.2 j x u h1 h2)⟩
theorem St.drop (s:St P nt G own a w) (dead:Nat→Bool):St P nt (dropN dead G) own a w:=by
 refine ⟨s.size,fun t v h=>?_,fun b v hb hm h=>?_,fun b v hm h=>?_,fun b v hm h=>?_,s.one,s.lt⟩
 ·rw [zdt] at h
  split at h
  ·cases h
  ·obtain ⟨u,h1,h2⟩:=s.temps t v h;exact ⟨u,h1,rl_drop h2⟩
 ·rw [zdt] at h
  split at h
  ·cases h
  ·obtain ⟨k,arr,T,h1,h2,h3⟩:=s.boxes b v hb hm h;exact ⟨k,arr,T,h1,h2,rb_drop h3⟩
 ·rw [zdt] at h
  split at h
  ·cases h
  ·exact s.maps b v hm h
 ·rw [zdt] at h
  split at h
  ·cases h
  ·obtain ⟨h1,u,h2⟩:=s.ghosts b v hm h;exact ⟨h1,u,ro_drop h2⟩
end
inductive Ex where
 | normal
 | exit (id:Nat)
 | ret
def Ex.to:Ex→Exit
 | .normal=>.normal
 | .exit id=>.exit id
 | .ret=>.ret
def seqK (K:Ex→Sta→Prop) (N:Sta→Prop):Ex→Sta→Prop
 | .normal,G=>N G
 | e,G=>K e G
def blockK (id:Nat) (K:Ex→Sta→Prop):Ex→Sta→Prop
 | .exit j,G=>if j=id then K .normal G else K (.exit j) G
 | e,G=>K e G
end Go.Ev
namespace Go.Ev
open Go Go.RowKit
variable {P : Program}
def entry:Nat→List AV→List AV→Sta
 | i,x :: xs,v :: vs=>(tb i,x) :: (ob i,v) :: entry (i+1) xs vs
 | i,x :: xs,[]=>(tb i,x) :: entry (i+1) xs []
 | i,[],v :: vs=>(ob i,v) :: entry (i+1) [] vs
 | _,[],[]=>[]
theorem zds (b:Nat):∀ (i:Nat) (xs vs:List AV) (v:AV),get (entry i xs vs) b=some v→(∃ j,b=tb (i+j)∧xs[j]?=some v)∨(∃ j,b=ob (i+j)∧vs[j]?=some v)
 | i,x :: xs,y :: vs,v,h=>by
   simp only [entry,get] at h
   split at h
   ·rename_i e;cases h;exact .inl ⟨0,e,rfl⟩
   ·split at h
    ·rename_i e;cases h;exact .inr ⟨0,e,rfl⟩
    ·rcases zds b (i+1) xs vs v h with ⟨j,e1,e2⟩ | ⟨j,e1,e2⟩
     ·exact .inl ⟨j+1,by rw [e1];congr 1;omega,by simpa using e2⟩
     ·exact .inr ⟨j+1,by rw [e1];congr 1;omega,by simpa using e2⟩
 | i,x :: xs,[],v,h=>by
   simp only [entry,get] at h
   split at h
   ·rename_i e;cases h;exact .inl ⟨0,e,rfl⟩
   ·rcases zds b (i+1) xs [] v h with ⟨j,e1,e2⟩ | ⟨j,e1,e2⟩
    ·exact .inl ⟨j+1,by rw [e1];congr 1;omega,by simpa using e2⟩
    ·simp at e2
 | i,[],y :: vs,v,h=>by
   simp only [entry,get] at h
   split at h
   ·rename_i e;cases h;exact .inr ⟨0,e,rfl⟩
   ·rcases zds b (i+1) [] vs v h with ⟨j,e1,e2⟩ | ⟨j,e1,e2⟩
    ·simp at e2
    ·exact .inr ⟨j+1,by rw [e1];congr 1;omega,by simpa using e2⟩
 | _,[],[],v,h=>by simp [entry,get] at h
section
variable {G G' : Sta} {own own' : Own} {w : World}
theorem shut0_r0 {v:AV} {u:Value} (hv:shut0 false (fun _=>true) v=true) (h:R0 P G own w v u):R0 P G' own w v u:=by
 cases v<;>first | exact h | simp [shut0,capIn] at hv
theorem shut1_r1 {v:AV} {u:Value} (hv:shut1 false (fun _=>true) v=true) (h:R1 P G own w v u):R1 P G' own w v u:=by
 rcases zb2 (f:=id) hv with ⟨l,rfl,h1⟩ | ⟨h1,h2,_,_⟩
 ·obtain ⟨arr,e1,e2,e3⟩:=h
  exact ⟨arr,e1,e2,fun j x y q1 q2=>shut0_r0 (List.all_eq_true.1 h1 x (List.mem_of_getElem? q1)) (e3 j x y q1 q2)⟩
 ·rw [r1_r0 (zH h2).1] at h ⊢
  exact shut0_r0 h1 h
theorem shut0_ro {b o:Nat} {v:AV} {u:Value} (hv:shut0 true (fun _=>true) v=true) (h:RO P G own w b o v u):RO P G' own w b o v u:=by
 cases v<;>first | exact h | simp [shut0,capIn] at hv
theorem r1_rl {b:Nat} {v:AV} {u:Value} (h:R1 P G own w v u) (hv:∀ l,v≠.tup l):RL P G own w b v u:=by
 refine RV.at ?_
 cases v<;>first | exact h | exact absurd rfl (hv _)
end
def argOk:AV→Bool
 | .own _ _=>true
 | x=>shut1 false (fun _=>true) x
theorem argOk_of {x:AV} (h:shut1 false (fun _=>true) x=true):argOk x=true:=by
 cases x<;>first | exact h | rfl
theorem argOk_all {l:List AV} (h:l.all (shut1 false fun _=>true)=true):l.all argOk=true:=
 List.all_eq_true.2 fun x hx=>argOk_of (List.all_eq_true.1 h x hx)
theorem st_entry {nt:Nat} {own:Own} {w:World} {args outs:List AV} {vs:Array Value} (hlen:args.length≤nt) (ha:args.all argOk=true) (ho:outs.all (shut1 true fun _=>true)=true)
 (hO:Outs P own w outs) (hA:Args P own w args vs):St P nt (entry 0 args outs) own { tmps:=vs++Array.replicate (nt - vs.size) undef,defers:=[] } w:=by
 have hsz:=hA.1
 refine ⟨by simp;omega,fun t v h=>?_,fun b v hb _ h=>?_,fun b v hm h=>?_,fun b v hm h=>?_,hO.one,hO.lt⟩
 ·rcases zds _ _ _ _ _ h with ⟨j,e1,e2⟩ | ⟨j,e1,e2⟩
  ·have:t=j:=by have:=tb_inj e1;omega
   subst this
   have hlt:t < vs.size:=by have:=(List.getElem?_eq_some_iff.1 e2).1;omega
   have hs:=List.all_eq_true.1 ha v (List.mem_of_getElem? e2)
   refine ⟨vs[t],by rw [Array.getElem?_append_left hlt];simp [hlt],?_⟩
   have hr:=hA.2 t v vs[t] e2 (by simp [hlt])
   by_cases ho:∃ E l,v=.own E l
   ·obtain ⟨E,l,rfl⟩:=ho
    exact hr
   ·have hno:∀ E l,v≠.own E l:=fun E l e=>ho ⟨E,l,e⟩
    rw [argR_r1 hno] at hr
    have hs:shut1 false (fun _=>true) v=true:=by cases v<;>first | exact hs | exact absurd rfl (hno _ _)
    refine r1_rl (shut1_r1 hs hr) ?_
    intro l e;subst e;simp [shut1,shut0,capIn] at hs
  ·exfalso;simp only [tb,ob] at e1;omega
 ·rcases zds _ _ _ _ _ h with ⟨j,e1,e2⟩ | ⟨j,e1,e2⟩
  ·subst e1;simp [tb] at hb
  ·rw [Nat.zero_add] at e1;subst e1
   obtain ⟨k,arr,T,h1,h2,h3⟩:=hO.boxes j v e2
   have hs:=List.all_eq_true.1 ho v (List.mem_of_getElem? e2)
   exact ⟨k,arr,T,h1,h2,h3.1,fun i x u q1 q2=>shut0_ro ((zd8 (f:=id) hs).2 x (List.mem_of_getElem? q1)) (h3.2 i x u q1 q2)⟩
 ·exfalso
  replace hm:=zew hm
  rcases zds _ _ _ _ _ h with ⟨j,e1,e2⟩ | ⟨j,e1,e2⟩
  ·subst e1;exact zej hm (by simp only [tb];omega)
  ·rw [Nat.zero_add] at e1;subst e1;rw [zgB] at hm;cases hm
 ·exfalso
  replace hm:=isM_G hm
  rcases zds _ _ _ _ _ h with ⟨j,e1,e2⟩ | ⟨j,e1,e2⟩
  ·subst e1;exact zej hm (by simp only [tb];omega)
  ·rw [Nat.zero_add] at e1;subst e1;rw [zgB] at hm;cases hm
def res1 (q:Nat) (v:AV):RM:=
 match v with
 | .own E l=>.ret [.set 0 (.own E l)]
 | .agg l=>cpoL l fun l U=>if U.all (frzOff q)=true then .ret (.set 0 (.agg l) :: U) else .fail
 | v=>cp v fun x U=>.ret (.set 0 x :: U)
def cellFits (i:TI):AV→Bool
 | .agg l=>isAggD i.desc && l.length == i.size
 | .tup _=>false
 | _=>!isAggD i.desc
def cellR (c:Cfg) (a:Tmp) (T:TypeId) (k:Nat→AV→RM):RM:=
 .ask (tb a) none fun p=>match p,c.ti T with
  | .ptr b 0,some i=>if b % 3=2∧isM b=false then .ask b none fun v=>if cellFits i v=true then k b v else .fail else .fail
  | _,_=>.fail
def rdR (c:Cfg) (r:ResultVar) (k:AV→RM):RM:=
 match r with
 | .tmp t=>.ask (tb t) none fun v=>k (vw (tb t) v)
 | .cell a T=>cellR c a T fun b v=>k (vw b v)
def rdRs (c:Cfg):List ResultVar→(List AV→RM)→RM
 | [],k=>k []
 | r :: rs,k=>rdR c r fun v=>rdRs c rs fun l=>k (v :: l)
def resOw (c:Cfg) (rs:List ResultVar):RM:=
 match rs with
 | .tmp t :: r=>.ask (tb t) none fun v=>match v with
   | .own E l=>rdRs c r fun vs=>cps vs fun xs U=>match U with
     | []=>.ret [.set 0 (.tup (.own E l :: xs))]
     | _=>.fail
   | _=>.fail
 | _=>.fail
def resRM (c:Cfg):List ResultVar→RM
 | [.tmp t]=>.ask (tb t) none (res1 (tb t))
 | [.cell a T]=>cellR c a T res1
 | rs=>match c.ownR with
   | true=>resOw c rs
   | false=>rdRs c rs fun vs=>cps vs fun xs U=>.ret (.set 0 (.tup xs) :: U)
def outsOf:Nat→Nat→Sta→(List AV→Prop)→Prop
 | 0,_,_,K=>K []
 | n+1,i,G,K=>∃ v,get G (ob i)=some v∧outsOf n (i+1) G fun l=>K (v :: l)
theorem zdo {G:Sta}:∀ {n i:Nat} {K:List AV→Prop},outsOf n i G K→∃ l,K l∧∀ (j:Nat) v,l[j]?=some v→get G (ob (i+j))=some v
 | 0,i,K,h=>⟨[],h,fun j v h=>by simp at h⟩
 | n+1,i,K,h=>by
   obtain ⟨v,h1,h2⟩:=h
   obtain ⟨l,h3,h4⟩:=zdo h2
   refine ⟨v :: l,h3,fun j x hx=>?_⟩
   cases j with
   | zero=>simp at hx;subst hx;exact h1
   | succ j=>simp at hx;rw [← h4 j x hx];congr 2;omega
def endU (n:Nat) (R:AV→List AV→Prop) (G:Sta):List Up→Prop
 | .set _ x :: W=>outsOf n 0 (app W G) (R x)
 | _=>False
def endK (CE:CEx) (c:Cfg) (rs:List ResultVar) (n:Nat) (R:AV→List AV→Prop):Ex→Sta→Prop
 | .exit _,_=>False
 | _,G=>(resRM c rs).wq CE G (endU n R G)
def resOwn (b:Nat) (own:Own):Own:=fun k=>
 match own k with
 | some (.sl c j)=>if c=b then some (.sl 0 j) else if c=0 then none else some (.sl c j)
 | x=>x
section
variable {own : Own} {w : World} {b : Nat}
theorem zdl {k c:Nat}:own k=some (.box c)→resOwn b own k=some (.box c):=by intro h;simp only [resOwn,h]
theorem zb3 {k:Nat} (h:own k=none):resOwn b own k=none:=by simp only [resOwn,h]
theorem resOwn_sl {k c j:Nat} (h:own k=some (.sl c j)) (h1:c≠b) (h2:c≠0):resOwn b own k=some (.sl c j):=by simp only [resOwn,h,if_neg h1,if_neg h2]
theorem ziC {k j:Nat} (h:own k=some (.sl b j)):resOwn b own k=some (.sl 0 j):=by simp only [resOwn,h,if_true]
theorem resOwn_tr:Tr own w (resOwn b own) w:=
 ⟨Nat.le_refl _,fun k _ h=>⟨zb3 h,rfl⟩,rfl,rfl,rfl,fun k o h=>⟨by simp only [resOwn,h],rfl⟩,fun k c _ h=>zdl h⟩
theorem resOwn_lt {n:Nat} (h2:∀ k o,own k=some o→k < n) (k:Nat) (o:Owner) (h:resOwn b own k=some o):k < n:=by
 simp only [resOwn] at h
 split at h
 ·rename_i hk;exact h2 k _ hk
 ·exact h2 k o h
theorem zjR (h1:∀ k k' o,own k=some o→own k'=some o→k=k') (k k':Nat) (o:Owner) (h:resOwn b own k=some o) (h':resOwn b own k'=some o):k=k':=by
 simp only [resOwn] at h h'
 split at h
 ·rename_i c j hk
  split at h
  ·rename_i e;subst e;cases h
   split at h'
   ·rename_i c' j' hk'
    split at h'
    ·rename_i e;subst e;cases h';exact h1 _ _ _ hk hk'
    ·split at h'
     ·cases h'
     ·rename_i e1 e2;cases h';exact absurd rfl e2
   ·rename_i hne;exact absurd h' (hne 0 j)
  ·split at h
   ·cases h
   ·rename_i e1 e2;cases h
    split at h'
    ·rename_i c' j' hk'
     split at h'
     ·cases h';exact absurd rfl e2
     ·split at h'
      ·cases h'
      ·cases h';exact h1 _ _ _ hk hk'
    ·exact h1 _ _ _ hk h'
 ·rename_i hne
  split at h'
  ·rename_i c' j' hk'
   split at h'
   ·cases h';exact absurd h (hne 0 j')
   ·split at h'
    ·cases h'
    ·cases h';exact absurd h (hne c' j')
  ·exact h1 _ _ _ h h'
end
section
variable {G : Sta} {own own' : Own} {w : World}
theorem slv_nil {b o i n:Nat} {u:Value}:SlV P [] own w b o i n u:=by unfold SlV;simp [look,get]
theorem epv_nil {b o i n:Nat} {u:Value}:EpV P [] own w b o i n u:=by unfold EpV;simp [look,get]
theorem zcF (hn:∀ k,own k=none→own' k=none) (hb:∀ k b,own k=some (.box b)→own' k=some (.box b)) {v:AV} {u:Value} (h:RC own w v u):RC own' w v u:=by
 cases v with
 | bad=>trivial
 | f x=>exact ⟨h.1,h.2.mono0 hn⟩
 | ptr b o=>obtain ⟨k,h1,h2⟩:=h;exact ⟨k,hb k b h1,h2⟩
 | fp x o=>
   obtain ⟨k,q,h1,h2,h3,h4⟩:=h
   exact ⟨k,q,h1,hn _ h2,h3,fun j y hy=>let ⟨z,e1,e2⟩:=h4 j y hy;⟨z,e1,e2.mono0 hn⟩⟩
 | ln n=>exact h
 | _=>exact h.elim
theorem r0_weak (hn:∀ k,own k=none→own' k=none) (hb:∀ k b,own k=some (.box b)→own' k=some (.box b)) {v:AV} {u:Value} (h:R0 P G own w v u):R0 P [] own' w v u:=by
 cases v with
 | rf b o i n=>exact slv_nil (P:=P) (own:=own') (w:=w) (b:=b) (o:=o) (i:=i) (n:=n) (u:=u)
 | ep b o i n=>exact epv_nil (P:=P) (own:=own') (w:=w) (b:=b) (o:=o) (i:=i) (n:=n) (u:=u)
 | clo g caps=>obtain ⟨arr,e1,e2,e3⟩:=h;exact ⟨arr,e1,e2,fun j x y h1 h2=>zcF hn hb (e3 j x y h1 h2)⟩
 | bad=>trivial
 | f x=>exact zcF (w:=w) (u:=u) (v:=.f x) hn hb h
 | ptr b o=>exact zcF (w:=w) (u:=u) (v:=.ptr b o) hn hb h
 | fp x o=>exact zcF (w:=w) (u:=u) (v:=.fp x o) hn hb h
 | ln n=>exact h
 | _=>exact h.elim
theorem ownl_weak {b b' o:Nat} (hn:∀ k,own k=none→own' k=none) (hs:∀ k j,own k=some (.sl b j)→own' k=some (.sl b' j)) {E:TypeId} {l:List FV} {u:Value} (h:OwnL P own w b o E l u):OwnL P own' w b' o E l u:=by
 obtain ⟨a,c,e1,e2,e3⟩:=h
 refine ⟨a,c,e1,e2,e3.imp id ?_⟩
 rintro ⟨k,e4,e5,arr,e6,e7,e8,e9⟩
 exact ⟨k,e4,hs _ _ e5,arr,e6,e7,e8,fun i x j y h1 h2=>let ⟨z,q1,q2⟩:=e9 i x j y h1 h2;⟨z,q1,q2.mono0 hn⟩⟩
theorem ro_weak {b b' o:Nat} (hn:∀ k,own k=none→own' k=none) (hb:∀ k b,own k=some (.box b)→own' k=some (.box b)) (hs:∀ k j,own k=some (.sl b j)→own' k=some (.sl b' j)) {v:AV} {u:Value} (h:RO P G own w b o v u):RO P [] own' w b' o v u:=by
 cases v with
 | own E l=>exact ownl_weak hn hs h
 | rf b o i n=>exact slv_nil (P:=P) (own:=own') (w:=w) (b:=b) (o:=o) (i:=i) (n:=n) (u:=u)
 | ep b o i n=>exact epv_nil (P:=P) (own:=own') (w:=w) (b:=b) (o:=o) (i:=i) (n:=n) (u:=u)
 | clo g caps=>exact r0_weak (P:=P) (G:=G) (w:=w) (u:=u) (v:=.clo g caps) hn hb h
 | bad=>trivial
 | f x=>exact zcF (w:=w) (u:=u) (v:=.f x) hn hb h
 | ptr b o=>exact zcF (w:=w) (u:=u) (v:=.ptr b o) hn hb h
 | fp x o=>exact zcF (w:=w) (u:=u) (v:=.fp x o) hn hb h
 | ln n=>exact h
 | _=>exact h.elim
theorem r1_weak (hn:∀ k,own k=none→own' k=none) (hb:∀ k b,own k=some (.box b)→own' k=some (.box b)) {v:AV} {u:Value} (h:R1 P G own w v u):R1 P [] own' w v u:=by
 cases v with
 | agg l=>obtain ⟨arr,e1,e2,e3⟩:=h;exact ⟨arr,e1,e2,fun j x y h1 h2=>r0_weak hn hb (e3 j x y h1 h2)⟩
 | rf b o i n=>exact slv_nil (P:=P) (own:=own') (w:=w) (b:=b) (o:=o) (i:=i) (n:=n) (u:=u)
 | ep b o i n=>exact epv_nil (P:=P) (own:=own') (w:=w) (b:=b) (o:=o) (i:=i) (n:=n) (u:=u)
 | clo g caps=>exact r0_weak (P:=P) (G:=G) (w:=w) (u:=u) (v:=.clo g caps) hn hb h
 | bad=>trivial
 | f x=>exact zcF (w:=w) (u:=u) (v:=.f x) hn hb h
 | ptr b o=>exact zcF (w:=w) (u:=u) (v:=.ptr b o) hn hb h
 | fp x o=>exact zcF (w:=w) (u:=u) (v:=.fp x o) hn hb h
 | ln n=>exact h
 | _=>exact h.elim
theorem rv_rl_weak {b:Nat} (hn:∀ k,own k=none→own' k=none) (hb:∀ k b,own k=some (.box b)→own' k=some (.box b)) {v:AV} {u:Value} (h:RV P G own w v u):RL P [] own' w b v u:=by
 refine RV.at ?_
 cases v with
 | tup l=>obtain ⟨arr,e1,e2,e3⟩:=h;exact ⟨arr,e1,e2,fun j x y h1 h2=>r1_weak hn hb (e3 j x y h1 h2)⟩
 | agg l=>exact r1_weak (P:=P) (G:=G) (w:=w) (u:=u) (v:=.agg l) hn hb h
 | rf b o i n=>exact slv_nil (P:=P) (own:=own') (w:=w) (b:=b) (o:=o) (i:=i) (n:=n) (u:=u)
 | ep b o i n=>exact epv_nil (P:=P) (own:=own') (w:=w) (b:=b) (o:=o) (i:=i) (n:=n) (u:=u)
 | clo g caps=>exact r0_weak (P:=P) (G:=G) (w:=w) (u:=u) (v:=.clo g caps) hn hb h
 | bad=>trivial
 | f x=>exact zcF (w:=w) (u:=u) (v:=.f x) hn hb h
 | ptr b o=>exact zcF (w:=w) (u:=u) (v:=.ptr b o) hn hb h
 | fp x o=>exact zcF (w:=w) (u:=u) (v:=.fp x o) hn hb h
 | ln n=>exact h
 | _=>exact h.elim
theorem ziJ {nt:Nat} {a:Act} (s:St P nt G own a w) {l:List AV} (hl:∀ (j:Nat) v,l[j]?=some v→get G (ob j)=some v) (hn:∀ k,own k=none→own' k=none) (hb:∀ k b,own k=some (.box b)→own' k=some (.box b))
 (hs:∀ i k j,own k=some (.sl (ob i) j)→own' k=some (.sl (ob i) j)) (h1:∀ k k' o,own' k=some o→own' k'=some o→k=k') (h2:∀ k o,own' k=some o→k < w.heap.size):Outs P own' w l:=by
 refine ⟨fun i v hv=>?_,h1,h2⟩
 obtain ⟨k,arr,T,e1,e2,e3⟩:=s.boxes (ob i) v (by simp only [ob];omega) (zgB i) (hl i v hv)
 exact ⟨k,arr,T,hb _ _ e1,e2,e3.1,fun j x u q1 q2=>ro_weak hn hb (hs i) (e3.2 j x u q1 q2)⟩
end
section
variable {CE : CEx} {G : Sta} {own : Own} {a : Act} {w : World} {nt n : Nat} {R : AV → List AV → Prop}
def Ends (P:Program) (R:AV→List AV→Prop) (own:Own) (w:World) (u:Value):Prop:=
 ∃ own' r outs',R r outs'∧Tr own w own' w∧Outs P own' w outs'∧resR P own' w r u
theorem zeS (s:St P nt G own a w) {t:Nat} {v:AV} (h:get G (tb t)=some v):RL P G own w (tb t) v (a.tmps.getD t undef):=by
 obtain ⟨u,h1,h2⟩:=s.temps t v h
 rw [Array.getD_eq_getD_getElem?,h1];exact h2
theorem zka {W:List Up} {own1:Own} {x:AV} {u:Value} (s:St P nt (app W G) own1 a w) (ht:Tr own w own1 w) (hx:RV P (app W G) own1 w x u) (h:outsOf n 0 (app W G) (R x)):Ends P R own w u:=by
 obtain ⟨l,h1,h2⟩:=zdo h
 refine ⟨own1,x,l,h1,ht,ziJ s (fun j v hv=>by have:=h2 j v hv;rwa [Nat.zero_add] at this) (fun _ h=>h) (fun _ _ h=>h) (fun _ _ _ h=>h) s.one s.lt,rl_resR (rv_rl_weak (fun _ h=>h) (fun _ _ h=>h) hx)⟩
theorem zjq {c:Cfg} (hc:CfgOk P c) (s:St P nt G own a w) {x:Tmp} {t:TypeId} {k:Nat→AV→RM} {T:List Acc} {K:List Up→List Acc→Prop} (h:(cellR c x t k).wp CE G T K) :
 ∃ b v u T',b % 3=2∧get G b=some v∧RL P G own w b v u∧(∀ ad,asAddr (a.tmps.getD x undef)=Pure.pure ad→(loadVar t ad).run P w=.ok u w)∧(∃ ad,asAddr (a.tmps.getD x undef)=Pure.pure ad)∧(k b v).wp CE G T' K:=by
 obtain ⟨p,T1,h1,h2⟩:=zaM h
 have hr:=zeS s h1
 split at h2
 ·rename_i b i hi
  split at h2
  ·rename_i hb'
   obtain ⟨hb,hmm⟩:=hb'
   obtain ⟨k',hk,hu⟩:=RC.ptr (w:=w) hr hmm
   obtain ⟨v,T2,h3,h4⟩:=zaM h2
   split at h4
   ·rename_i hfit
    obtain ⟨kk,arr,TT,e1,e2,e3⟩:=s.boxes b v (by omega) hmm h3
    have:=s.one _ _ _ e1 hk;subst this
    have hcell:∀ (j:Nat) y,arr[j]?=some y→w.cell? ⟨kk,j,none⟩=some y:=fun j y hy=>by simp [World.cell?,e2,hy]
    have hasa:∀ ad,asAddr (a.tmps.getD x undef)=Pure.pure ad→ad=⟨kk,0,none⟩:=by
     intro ad had
     rw [hu] at had
     have:=congrArg (fun m=>m.run P w) had
     simp [asAddr] at this
     exact this.symm
    have hex:∃ ad,asAddr (a.tmps.getD x undef)=Pure.pure ad:=⟨⟨kk,0,none⟩,by rw [hu];rfl⟩
    have one:isAggD i.desc=false→(∀ l,v≠.agg l)→(∀ l,v≠.tup l)→∃ u,RL P G own w b v u∧(loadVar t ⟨kk,0,none⟩).run P w=.ok u w:=by
     intro hag n1 n2
     have hlf:v.isLeaf=true:=by cases v<;>first | rfl | exact absurd rfl (n1 _) | exact absurd rfl (n2 _)
     have hlen:=e3.1
     rw [zeh hlf] at hlen
     obtain ⟨y,hy⟩:∃ y,arr[0]?=some y:=⟨arr[0]'(by simp at hlen;omega),by simp⟩
     refine ⟨y,?_,zcm hc hi hag (hcell 0 y hy)⟩
     rw [rl_ro hlf]
     exact e3.2 0 v y (by rw [zeh hlf];rfl) hy
    have key:∃ u,RL P G own w b v u∧(loadVar t ⟨kk,0,none⟩).run P w=.ok u w:=by
     cases v with
     | agg l=>
       simp only [cellFits,Bool.and_eq_true,beq_iff_eq] at hfit
       have hlen:=e3.1
       simp only [AV.leaves] at hlen
       refine ⟨.agg arr.toList.toArray,⟨arr,by simp,hlen,fun j y u f1 f2=>e3.2 j y u f1 f2⟩,?_⟩
       refine zdn hc hi hfit.1 (by simp;omega) (fun j u hu=>?_)
       rw [Nat.zero_add];exact hcell j u (by simpa using hu)
     | tup l=>simp [cellFits] at hfit
     | _=>exact one (by simpa [cellFits] using hfit) (by simp) (by simp)
    obtain ⟨u,k1,k2⟩:=key
    exact ⟨b,v,u,T2,hb,h3,k1,fun ad had=>by rw [hasa ad had];exact k2,hex,h4⟩
   ·exact h4.elim
  ·exact h2.elim
 ·exact h2.elim
def resVal (r:ResultVar) (tmps:Array Value):Sem Value:=
 match r with
 | .tmp t=>pure (tmps.getD t undef)
 | .cell a t=>do loadVar t (← asAddr (tmps.getD a undef))
theorem rdR_sound {c:Cfg} (hc:CfgOk P c) (s:St P nt G own a w) {r:ResultVar} {k:AV→RM} {T:List Acc} {K:List Up→List Acc→Prop} (h:(rdR c r k).wp CE G T K) :
 ∃ v u T',RV P G own w v u∧(resVal r a.tmps).run P w=.ok u w∧(k v).wp CE G T' K:=by
 cases r with
 | tmp t=>
   obtain ⟨v,T',h1,h2⟩:=zaM h
   exact ⟨_,_,T',RL.view (zeS s h1) h1,rfl,h2⟩
 | cell x t=>
   obtain ⟨b,v,u,T',h1,h2,h3,h4,⟨ad,h5⟩,h6⟩:=zjq hc s h
   refine ⟨_,u,T',RL.view h3 h2,?_,h6⟩
   simp only [resVal,h5]
   simpa using h4 ad h5
theorem zhf {c:Cfg} (hc:CfgOk P c) (s:St P nt G own a w):∀ {rs:List ResultVar} {k:List AV→RM} {T:List Acc} {K:List Up→List Acc→Prop},(rdRs c rs k).wp CE G T K→
 ∃ (vs:List AV) (us:List Value) (T':List Acc),vs.length=us.length∧rs.length=us.length∧(∀ (j:Nat) v u,vs[j]?=some v→us[j]?=some u→RV P G own w v u)∧
   (∀ (j:Nat) r u,rs[j]?=some r→us[j]?=some u→(resVal r a.tmps).run P w=.ok u w)∧(k vs).wp CE G T' K
 | [],k,T,K,h=>⟨[],[],T,rfl,rfl,fun j v u h=>by simp at h,fun j v u h=>by simp at h,h⟩
 | r :: rs,k,T,K,h=>by
   obtain ⟨v,u,T1,h1,h2,h3⟩:=rdR_sound hc s h
   obtain ⟨vs,us,T2,k1,k2,k3,k4,k5⟩:=zhf hc s h3
   refine ⟨v :: vs,u :: us,T2,by simp [k1],by simp [k2],fun j x y e1 e2=>?_,fun j x y e1 e2=>?_,k5⟩
   ·cases j with
    | zero=>simp at e1 e2;subst e1 e2;exact h1
    | succ j=>simp at e1 e2;exact k3 j x y e1 e2
   ·cases j with
    | zero=>simp at e1 e2;subst e1 e2;exact h2
    | succ j=>simp at e1 e2;exact k4 j x y e1 e2
theorem run_mapM {α:Type} (f:α→Sem Value):∀ (l:List α) (us:List Value),l.length=us.length→(∀ (j:Nat) x u,l[j]?=some x→us[j]?=some u→(f x).run P w=.ok u w)→(l.mapM f).run P w=.ok us w
 | [],[],_,_=>by simp
 | x :: l,u :: us,hl,h=>by
   have ih:=run_mapM f l us (by simpa using hl) (fun j x u e1 e2=>h (j+1) x u (by simpa using e1) (by simpa using e2))
   have h0:=h 0 x u rfl rfl
   simp [List.mapM_cons,h0,ih]
 | [],_ :: _,h,_=>by simp at h
 | _ :: _,[],h,_=>by simp at h
theorem zd7 {fn:Func} {tmps:Array Value} {us:List Value} (hl:fn.results.toList.length=us.length) (h:∀ (j:Nat) r u,fn.results.toList[j]?=some r→us[j]?=some u→(resVal r tmps).run P w=.ok u w) :
 (results fn tmps).run P w=.ok (if h:us.toArray.size=1 then us.toArray[0] else .tuple us.toArray) w:=by
 have e:results fn tmps=(do let vs ← fn.results.mapM fun r=>resVal r tmps;pure (if h:vs.size=1 then vs[0] else .tuple vs)):=by
  unfold results
  congr 1
 rw [e,Array.mapM_eq_mapM_toList]
 simp [run_mapM (P:=P) (w:=w) (fun r=>resVal r tmps) _ _ hl h]
theorem zjS {q:Nat} (hq:∀ i,ob i≠q) {v:AV} {u:Value} {T:List Acc} (s:St P nt G own a w) (hr:RL P G own w q v u) (h:(res1 q v).wp CE G T fun U _=>endU n R G U):Ends P R own w u:=by
 have key:∀ {W:List Up} {own1:Own} {x:AV},FrzOnly W→St P nt (app W G) own1 a w→Tr own w own1 w→(x.isLeaf=true→RO P (app W G) own1 w q 0 x u)→(∀ l,x=.agg l→RL P (app W G) own1 w q x u)→
  (x.isLeaf=true∨∃ l,x=.agg l)→outsOf n 0 (app W G) (R x)→Ends P R own w u:=by
  intro W own1 x hW s1 ht hx1 hx2 hx3 ho
  obtain ⟨l,h1,h2⟩:=zdo ho
  refine ⟨resOwn q own1,x,l,h1,ht.trans resOwn_tr,ziJ s1 (fun j v hv=>by have:=h2 j v hv;rwa [Nat.zero_add] at this) (fun _ h=>zb3 h) (fun _ _ h=>zdl h)
   (fun i k j h=>resOwn_sl h (hq i) (by simp only [ob];omega)) (zjR s1.one) (resOwn_lt s1.lt),rl_resR ?_⟩
  rcases hx3 with hl | ⟨m,rfl⟩
  ·rw [rl_ro hl]
   exact ro_weak (fun _ h=>zb3 h) (fun _ _ h=>zdl h) (fun _ _ h=>ziC h) (hx1 hl)
  ·obtain ⟨arr,e1,e2,e3⟩:=hx2 m rfl
   exact ⟨arr,e1,e2,fun j x y q1 q2=>ro_weak (fun _ h=>zb3 h) (fun _ _ h=>zdl h) (fun _ _ h=>ziC h) (e3 j x y q1 q2)⟩
 have plain:(∀ E l,v≠.own E l)→(∀ l,v≠.agg l)→(∀ l,v≠.tup l)→(cp v fun x U=>.ret (.set 0 x :: U)).wp CE G T (fun U _=>endU n R G U)→Ends P R own w u:=by
  intro n1 n2 n3 h
  have hlf:v.isLeaf=true:=by cases v<;>first | rfl | exact absurd rfl (n2 _) | exact absurd rfl (n3 _)
  have hrv:RV P G own w v u:=by
   rw [rv_r0 n2 n3]
   rw [rl_ro hlf,zgp n1] at hr
   exact hr
  obtain ⟨x,W,T2,own1,k1,k2,k3,k4,k5,k6⟩:=zgO (U:=[]) FrzOnly.nil s hrv h
  simp only [List.nil_append] at k2 k3 k4
  exact zka k2 k3.tr k4 k6
 cases v with
 | own E l=>
   refine key (W:=[]) (x:=.own E l) FrzOnly.nil s (Tr.refl _ _) (fun _=>hr) (fun l e=>by cases e) (.inl rfl) h
 | agg l=>
   obtain ⟨arr,e1,e2,e3⟩:=hr
   obtain ⟨xs,W,T2,k1,k2,k3,k4,k6⟩:=zfj (U:=[]) (j0:=0) (ow:=fun j v u=>RO P G own w q j v u) FrzOnly.nil s (us:=arr.toList) ⟨by simpa using e2,fun j v u q1 q2=>by
    have:=e3 j v u q1 (by simpa using q2)
    cases v with
    | own E l=>exact .inl ⟨E,l,rfl,by rw [Nat.zero_add];exact this⟩
    | _=>exact .inr this⟩ h
   simp only [List.nil_append] at k2 k3 k4
   split at k6
   ·rename_i hoff
    refine key (x:=.agg xs) k1 k2 k3.tr (fun h=>by simp [AV.isLeaf] at h) (fun m hm=>?_) (.inr ⟨_,rfl⟩) k6
    refine ⟨arr,e1,by simpa using k4.1,fun j x y q1 q2=>?_⟩
    rcases k4.2 j x y q1 (by simpa using q2) with ⟨E,l,rfl,h1⟩ | ⟨h1,h2⟩
    ·rw [Nat.zero_add] at h1
     exact (zgF (sb:=q) k1 hoff (G:=G) (own:=own)).2 j E l y h1
    ·cases x<;>first | exact h2 | simp [AV.plain0] at h1
   ·exact k6.elim
 | tup l=>exact h.elim
 | _=>exact plain (by simp) (by simp) (by simp) h
theorem end_sound {c:Cfg} (hc:CfgOk P c) {fn:Func} (s:St P nt G own a w) (h:(resRM c fn.results.toList).wp CE G [] fun U _=>endU n R G U):∃ u,(results fn a.tmps).run P w=.ok u w∧Ends P R own w u:=by
 have one:∀ {r:ResultVar} {u:Value},fn.results.toList=[r]→(resVal r a.tmps).run P w=.ok u w→(results fn a.tmps).run P w=.ok u w:=by
  intro r u e hr
  rw [zd7 (us:=[u]) (by rw [e];rfl) (fun j x y e1 e2=>by
   rw [e] at e1
   cases j with
   | zero=>simp at e1 e2;subst e1 e2;exact hr
   | succ j=>simp at e1)]
  rfl
 unfold resRM at h
 split at h
 ·rename_i t e
  obtain ⟨v,T',h1,h2⟩:=zaM h
  exact ⟨_,one e rfl,zjS (fun i=>by simp only [ob,tb];omega) s (zeS s h1) h2⟩
 ·rename_i x t e
  obtain ⟨b,v,u,T',h1,h2,h3,h4,⟨ad,h5⟩,h6⟩:=zjq hc s h
  refine ⟨u,one e ?_,zjS (fun i=>by intro e;rw [← e] at h1;simp only [ob] at h1;omega) s h3 h6⟩
  simp only [resVal,h5]
  simpa using h4 ad h5
 ·rename_i hn1 hn2
  split at h
  ·unfold resOw at h
   split at h
   ·rename_i t r hrs
    obtain ⟨v,T0,g1,g2⟩:=zaM h
    split at g2
    ·rename_i E l
     obtain ⟨vs,us,T1,h1,h2,h3,h4,h5⟩:=zhf hc s g2
     obtain ⟨xs,W,T2,own1,k1,k2,k3,k4,k5,k6⟩:=zdZ (U:=[]) FrzOnly.nil s (us:=us) ⟨h1,h3⟩ h5
     simp only [List.nil_append] at k2 k3 k4 k6
     split at k6
     ·have k2:St P nt G own1 a w:=k2
      have h0:OwnL P own1 w (tb t) 0 E l (a.tmps.getD t undef):=zeS k2 g1
      have hlen:¬ (a.tmps.getD t undef :: us).toArray.size=1:=by
       intro e
       simp only [List.size_toArray,List.length_cons] at e
       have:r=[]:=List.length_eq_zero_iff.1 (by omega)
       rw [this] at hrs
       exact hn1 t hrs
      refine ⟨_,zd7 (us:=a.tmps.getD t undef :: us) (by rw [hrs];simp [h2]) (fun j x y e1 e2=>?_),?_⟩
      ·rw [hrs] at e1
       cases j with
       | zero=>simp only [List.getElem?_cons_zero,Option.some.injEq] at e1 e2;subst e1 e2;rfl
       | succ j=>simp only [List.getElem?_cons_succ] at e1 e2;exact h4 j x y e1 e2
      ·rw [dif_neg hlen]
       obtain ⟨m,m1,m2⟩:=zdo k6
       refine ⟨resOwn (tb t) own1,_,m,m1,k3.tr.trans resOwn_tr,ziJ k2 (fun j v hv=>?_) (fun _ h=>zb3 h) (fun _ _ h=>zdl h)
        (fun i k j h=>resOwn_sl h (by simp only [ob,tb];omega) (by simp only [ob];omega)) (zjR k2.one) (resOwn_lt k2.lt),?_⟩
       ·have:=m2 j v hv
        rwa [Nat.zero_add] at this
       ·refine ⟨a.tmps.getD t undef,_,rfl,by simpa using k4.1,by simp,ownl_weak (fun _ h=>zb3 h) (fun _ _ h=>ziC h) h0,fun j x y e1 e2=>?_⟩
        have hr:=k4.2 j x y e1 (by simpa using e2)
        have hp:=k5 x (List.mem_of_getElem? e1)
        refine r1_weak (G:=G) (fun _ h=>zb3 h) (fun _ _ h=>zdl h) ?_
        cases x<;>first | exact hr | simp [AV.plain1,AV.plain0] at hp
     ·exact k6.elim
    ·exact g2.elim
   ·exact h.elim
  obtain ⟨vs,us,T1,h1,h2,h3,h4,h5⟩:=zhf hc s h
  have hlen:¬ us.toArray.size=1:=by
   intro e
   simp only [List.size_toArray] at e
   rw [e] at h2
   match hrs:fn.results.toList,h2 with
   | [r],_=>cases r with
     | tmp t=>exact hn1 t hrs
     | cell x t=>exact hn2 x t hrs
  refine ⟨_,zd7 h2 h4,?_⟩
  rw [dif_neg hlen]
  obtain ⟨xs,W,T2,own1,k1,k2,k3,k4,k5,k6⟩:=zdZ (U:=[]) FrzOnly.nil s (us:=us) ⟨h1,h3⟩ h5
  simp only [List.nil_append] at k2 k3 k4
  refine zka k2 k3.tr (x:=.tup xs) ⟨_,rfl,by simpa using k4.1,fun j x v e1 e2=>?_⟩ k6
  have hr:=k4.2 j x v e1 (by simpa using e2)
  have hp:=k5 x (List.mem_of_getElem? e1)
  cases x<;>first | exact hr | simp [AV.plain1,AV.plain0] at hp
end
theorem wideF:WideF P Fence.wide:=⟨fun _=>trivial,rfl,fun _ _ _ _ _ h=>callsIn_wide.2 h⟩
end Go.Ev
namespace Go.Ev
open Go Go.RowKit
def zcells (P:Program):Nat→TypeId→List AV
 | 0,_=>[]
 | n+1,t=>match P.underlying t with
   | some (.struct fs)=>fs.toList.flatMap fun f=>zcells P n f.type
   | some (.array m E)=>(List.replicate m (zcells P n E)).flatten
   | some (.slice E)=>[.own E []]
   | _=>match (P.info? t).bind (·.zero) with
     | some v=>[.f (.pv v)]
     | none=>[]
def zeroLeafB:AV→Value→Bool
 | .f (.pv v),u=>v.oneCell' && sameV v u
 | .own _ [],.slice none 0 0=>true
 | _,_=>false
 where sameV:Value→Value→Bool
 | .bool a,.bool b=>a == b
 | .int k a,.int l b=>k == l && a == b
 | .string a,.string b=>a.toList == b.toList && a.size == 0 && b.size == 0
 | .pointer none,.pointer none=>true
 | .nilIface,.nilIface=>true
 | .nilFunc,.nilFunc=>true
 | .map none,.map none=>true
 | _,_=>false
def zeroLs:List AV→List Value→Bool
 | [],[]=>true
 | x :: l,v :: m=>zeroLeafB x v && zeroLs l m
 | _,_=>false
def zeroFitsB:AV→Value→Bool
 | .agg l,.agg a=>zeroLs l a.toList
 | .agg _,_=>false
 | v,u=>zeroLeafB v u
theorem sameV_eq {u v:Value} (h:zeroLeafB.sameV u v=true):v=u:=by
 unfold zeroLeafB.sameV at h
 split at h<;>simp_all
theorem zfA {x:AV} {v:Value} (h:zeroLeafB x v=true):zeroLeaf x v:=by
 unfold zeroLeafB at h
 split at h
 ·simp only [Bool.and_eq_true] at h;exact ⟨sameV_eq h.2,h.1⟩
 ·rfl
 ·cases h
theorem zir:∀ {l:List AV} {m:List Value},zeroLs l m=true→l.length=m.length∧∀ (j:Nat) x v,l[j]?=some x→m[j]?=some v→zeroLeaf x v
 | [],[],_=>⟨rfl,fun j x v h=>by simp at h⟩
 | x :: l,v :: m,h=>by
   simp only [zeroLs,Bool.and_eq_true] at h
   obtain ⟨h1,h2⟩:=zir h.2
   refine ⟨by simp [h1],fun j y u e1 e2=>?_⟩
   cases j with
   | zero=>simp at e1 e2;subst e1 e2;exact zfA h.1
   | succ j=>simp at e1 e2;exact h2 j y u e1 e2
 | [],_ :: _,h=>by simp [zeroLs] at h
 | _ :: _,[],h=>by simp [zeroLs] at h
theorem zjC {z:AV} {v:Value} (h:zeroFitsB z v=true):zeroFits z v:=by
 unfold zeroFitsB at h
 split at h
 ·rename_i l a
  obtain ⟨h1,h2⟩:=zir h
  exact ⟨a,rfl,by simpa using h1,fun j x u e1 e2=>h2 j x u e1 (by simpa using e2)⟩
 ·cases h
 ·rename_i hn
  have:=zfA h
  cases z<;>first | exact this | exact this.elim
def zeroOf (P:Program) (d:TypeDesc) (t:TypeId) (f:TypeInfo):Option AV:=
 let z:=if isAggD d=true then some (AV.agg (zcells P 8 t)) else (zcells P 8 t)[0]?
 match z,f.zero with
 | some z,some v=>if zeroFitsB z v=true then some z else none
 | _,_=>none
def tiOf (P:Program) (t:TypeId):Option TI:=
 match P.underlying t,P.info? t with
 | some d,some f=>some ⟨d,f.size,f.bytes,zeroOf P d t f⟩
 | _,_=>none
theorem tiOf_ok {P:Program} {t:TypeId} {i:TI} (h:tiOf P t=some i):TiOk P t i:=by
 unfold tiOf at h
 split at h
 ·rename_i d f hd hf
  cases h
  refine ⟨hd,f,hf,rfl,rfl,fun z hz=>?_⟩
  simp only [zeroOf] at hz
  split at hz
  ·rename_i z' v h1 h2
   split at hz
   ·rename_i h3;cases hz;exact ⟨v,h2,zjC h3⟩
   ·cases hz
  ·cases hz
 ·cases h
theorem zG {P:Program} {t:TypeId} {d:TypeDesc} {f:TypeInfo} {z:Option AV} (h1:P.underlying t=some d) (h2:P.info? t=some f) (h3:zeroOf P d t f=z):tiOf P t=some ⟨d,f.size,f.bytes,z⟩:=by
 simp only [tiOf,h1,h2,h3]
section
variable {CE : CEx} {c : Cfg} {ops : Array Oper} {G : Sta}
end
def tabGo:List Oper→List (List Nat)→List (List Nat)
 | [],t=>t
 | o :: r,t=>
   let ps:=(o.after.toList.filter (Region.binds .any)).map (·.on)
   tabGo r (t++[addNew [] (ps++ps.flatMap fun p=>t.getD p [])])
def tabOf (ops:Array Oper):List (List Nat):=tabGo ops.toList []
theorem wrap64 {m:Int} (h0:-9223372036854775808≤m) (h:m < 9223372036854775808):IntKind.i64.wrap m=m:=by
 simp [IntKind.wrap,IntKind.bits,IntKind.signed]
 omega
end Go.Ev
namespace Go.Ev
open Go Go.RowKit
variable {P : Program}
inductive RM2 where
 | of (m:RM)
 | ask (b:Nat) (o:Option Nat) (k:AV→RM2)
 | need (p:Prop) (m:RM2)
 | elem (l:List FV) (n:Nat) (k:FV→RM2)
 | lst (x:Option (List FV)) (k:List FV→RM2)
 | byte (s:ByteArray) (n:Nat) (k:UInt8→RM2)
 | br (b:Bool) (x y:RM2)
 | peek (b:Nat) (k:Nat→RM2)
 | num (n:Int) (len:Nat) (k:Nat→RM2)
def RM2.wp (CE:CEx) (G:Sta):RM2→List Acc→(List Up→List Acc→Prop)→Prop
 | .of m,T,K=>m.wp CE G T K
 | .ask b o k,T,K=>∃ v,look G b o=some v∧v.ok=true∧(k v).wp CE G (T++accOf b o :: v.refs) K
 | .need p m,T,K=>p∧m.wp CE G T K
 | .elem l n k,T,K=>∃ e,l[n]?=some e∧(k e).wp CE G T K
 | .lst x k,T,K=>∃ l,x=some l∧(k l).wp CE G T K
 | .byte s n k,T,K=>∃ y,s[n]?=some y∧(k y).wp CE G T K
 | .br b x y,T,K=>(b=true∧x.wp CE G T K)∨(b=false∧y.wp CE G T K)
 | .peek b k,T,K=>∃ v,get G b=some v∧(k v.leaves.length).wp CE G (T++[.id b]) K
 | .num n _ k,T,K=>∃ m:Nat,n=m∧(k m).wp CE G T K
def Le (m2:RM2) (m:RM):Prop:=∀ CE G T K,m2.wp CE G T K→m.wp CE G T K
theorem Le.of (m:RM):Le (.of m) m:=fun _ _ _ _ h=>h
theorem Le.ask {b:Nat} {o:Option Nat} {k2:AV→RM2} {k:AV→RM} (h:∀ v,Le (k2 v) (k v)):Le (.ask b o k2) (.ask b o k):=by
 rintro CE G T K ⟨v,h1,h2,h3⟩;exact ⟨v,h1,h2,h v _ _ _ _ h3⟩
theorem Le.need {p:Prop} {m2:RM2} {m:RM} (h:p→Le m2 m):Le (.need p m2) m:=by
 rintro CE G T K ⟨h1,h2⟩;exact h h1 _ _ _ _ h2
theorem Le.elem {l:List FV} {n:Nat} {k:FV→RM2} {m:RM} (h:∀ e,l[n]?=some e→Le (k e) m):Le (.elem l n k) m:=by
 rintro CE G T K ⟨e,h1,h2⟩;exact h e h1 _ _ _ _ h2
theorem Le.lst {x:Option (List FV)} {k:List FV→RM2} {m:RM} (h:∀ l,x=some l→Le (k l) m):Le (.lst x k) m:=by
 rintro CE G T K ⟨e,h1,h2⟩;exact h e h1 _ _ _ _ h2
theorem Le.byte {s:ByteArray} {n:Nat} {k:UInt8→RM2} {m:RM} (h:∀ e,s[n]?=some e→Le (k e) m):Le (.byte s n k) m:=by
 rintro CE G T K ⟨e,h1,h2⟩;exact h e h1 _ _ _ _ h2
theorem Le.br {b:Bool} {x y:RM2} {m:RM} (h1:b=true→Le x m) (h2:b=false→Le y m):Le (.br b x y) m:=by
 rintro CE G T K (⟨e,h⟩ | ⟨e,h⟩)
 ·exact h1 e _ _ _ _ h
 ·exact h2 e _ _ _ _ h
theorem Le.peek {b:Nat} {k2:Nat→RM2} {k:Nat→RM} (h:∀ m,Le (k2 m) (k m)):Le (.peek b k2) (.peek b k):=by
 rintro CE G T K ⟨v,h1,h2⟩;exact ⟨v,h1,h _ _ _ _ _ h2⟩
theorem Le.num {n:Int} {len:Nat} {k:Nat→RM2} {m:RM} (h:∀ j:Nat,n=j→Le (k j) m):Le (.num n len k) m:=by
 rintro CE G T K ⟨j,h1,h2⟩;exact h j h1 _ _ _ _ h2
theorem Le.fail {m:RM}:Le (.of .fail) m:=fun _ _ _ _ h=>h.elim
theorem Le.eq {m m':RM} (h:m=m'):Le (.of m) m':=by subst h;exact Le.of m
def rdO2 (x:Operand) (k:AV→RM2):RM2:=
 match x with
 | .tmp t=>.ask (tb t) none fun v=>k (vw (tb t) v)
 | .const v=>match constAV v with
   | some a=>k a
   | none=>.of .fail
 | .func g=>k (.clo g [])
 | .global _=>.of .fail
theorem zbL {x:Operand} {k2:AV→RM2} {k:AV→RM} (h:∀ v,Le (k2 v) (k v)):Le (rdO2 x k2) (rdO x k):=by
 cases x with
 | tmp t=>exact Le.ask fun v=>h _
 | const v=>
   simp only [rdO2,rdO]
   cases constAV v with
   | some a=>exact h _
   | none=>exact Le.fail
 | func g=>exact h _
 | global g=>exact Le.fail
def bin2 (c:Cfg) (d:Option Tmp) (op:BinOp) (T:TypeId) (x y:AV):RM2:=
 match x,y with
 | .f (.pv (.int k a)),.f (.pv (.int k' b))=>match op with
   | .quo=>if k=k' then .need (b≠0) (.of (fin c d [] (.f (.pv (.int k (k.wrap (a.tdiv b))))))) else .of .fail
   | .rem=>if k=k' then .need (b≠0) (.of (fin c d [] (.f (.pv (.int k (a.tmod b)))))) else .of .fail
   | .shl=>.need (0≤b) (.of (fin c d [] (.f (.pv (.int k (k.wrap (a * 2 ^ min b.toNat k.bits)))))))
   | .shr=>.need (0≤b) (.of (fin c d [] (.f (.pv (.int k (a.fdiv (2 ^ min b.toNat k.bits)))))))
   | _=>.of (optRM c d (binAV c op T x y))
 | .f (.pv (.string s)),.f (.pv (.string t))=>match op with
   | .add=>.need (((s.size+t.size:Nat):Int)≤IntKind.i64.max) (.of (fin c d [] (.f (.pv (.string (s++t))))))
   | _=>.of (optRM c d (binAV c op T x y))
 | _,_=>.of (optRM c d (binAV c op T x y))
theorem le_bin {c:Cfg} {d:Option Tmp} {op:BinOp} {T:TypeId} {x y:AV}:Le (bin2 c d op T x y) (optRM c d (binAV c op T x y)):=by
 unfold bin2
 split
 ·rename_i k a k' b
  split
  ·split
   ·rename_i h;subst h
    refine Le.need fun h=>Le.eq ?_
    simp [binAV,isShift,intOp,h,optRM]
   ·exact Le.fail
  ·split
   ·rename_i h;subst h
    refine Le.need fun h=>Le.eq ?_
    simp [binAV,isShift,intOp,h,optRM]
   ·exact Le.fail
  ·refine Le.need fun h=>Le.eq ?_
   have h':¬ b < 0:=by omega
   simp [binAV,isShift,shiftOp,h',optRM]
  ·refine Le.need fun h=>Le.eq ?_
   have h':¬ b < 0:=by omega
   simp [binAV,isShift,shiftOp,h',optRM]
  ·exact Le.of _
 ·split
  ·refine Le.need fun h=>Le.eq ?_
   simp only [binAV,strOp,optRM]
   rw [if_neg (Int.not_lt.2 h)]
   rfl
  ·exact Le.of _
 ·exact Le.of _
def seen2 (v:AV) (k:RM2):RM2:=
 match v with
 | .rf b o i n=>.ask b (some o) fun y=>match sliceOf y with
   | some _=>k
   | none=>.of .fail
 | .ep b o i n=>.ask b (some o) fun y=>match sliceOf y with
   | some _=>k
   | none=>.of .fail
 | _=>k
theorem le_seen {v:AV} {k2:RM2} {k:RM} (h:Le k2 k):Le (seen2 v k2) (seen v k):=by
 cases v with
 | rf b o i n=>
   refine Le.ask fun v=>?_
   cases sliceOf v with
   | some _=>exact h
   | none=>exact Le.fail
 | ep b o i n=>
   refine Le.ask fun v=>?_
   cases sliceOf v with
   | some _=>exact h
   | none=>exact Le.fail
 | _=>exact h
def indexAddr2 (c:Cfg) (d:Option Tmp) (T:TypeId) (v ix:AV):RM2:=
 match ix,c.ti T with
 | .f (.pv (.int k n)),some { desc:=.slice E,.. }=>match c.ti E with
   | some t=>.need (0≤n) (match v with
     | .f (.sl l)=>.elem l n.toNat fun e=>if e.size=t.size then .of (fin c d [] (.fp e 0)) else .of .fail
     | .rf b o i m=>.need (n.toNat < m) (.ask b (some o) fun y=>match y with
        | .own E' l=>if E'=E then .of (fin c d [] (.ep b o (i+n.toNat) 0)) else .of .fail
        | .f (.sl l)=>.elem l (i+n.toNat) fun e=>if e.size=t.size then .of (fin c d [] (.fp e 0)) else .of .fail
        | _=>.of .fail)
     | _=>.of .fail)
   | none=>.of .fail
 | .f (.pv (.int k n)),some { desc:=.array len E,.. }=>.num n len fun m=>.of (indexAddrRM c d T v (.f (.pv (.int k (m:Int)))))
 | _,_=>.of (indexAddrRM c d T v ix)
theorem le_indexAddr {c:Cfg} {d:Option Tmp} {T:TypeId} {v ix:AV}:Le (indexAddr2 c d T v ix) (indexAddrRM c d T v ix):=by
 unfold indexAddr2
 split
 ·rename_i k n E s b z ht
  split
  ·rename_i t hE
   refine Le.need fun h0=>?_
   unfold indexAddrRM
   simp only [ht,if_pos h0]
   cases v with
   | f x=>cases x with
     | sl l=>
       refine Le.elem fun e he=>?_
       simp only [he,hE]
       split
       ·exact Le.of _
       ·exact Le.fail
     | _=>exact Le.fail
   | rf b o i m=>
     refine Le.need fun hm=>?_
     simp only [if_pos hm]
     refine Le.ask fun y=>?_
     simp only [hE]
     cases y with
     | own E' l=>
       dsimp only
       split
       ·exact Le.of _
       ·exact Le.fail
     | f x=>cases x with
       | sl l=>
         refine Le.elem fun e he=>?_
         simp only [he]
         split
         ·exact Le.of _
         ·exact Le.fail
       | _=>exact Le.fail
     | _=>exact Le.fail
   | _=>exact Le.fail
  ·exact Le.fail
 ·exact Le.num fun j hj=>Le.eq (by rw [hj])
 ·exact Le.of _
def index2 (c:Cfg) (d:Option Tmp) (T:TypeId) (v ix:AV):RM2:=
 match ix,v,c.ti T with
 | .f (.pv (.int k n)),.f (.pv (.string s)),some { desc:=.string,.. }=>
   .need (0≤n) (.byte s n.toNat fun b=>.of (fin c d [] (.f (.pv (.int .u8 b.toNat)))))
 | _,_,_=>.of (indexRM c d T v ix)
theorem le_index {c:Cfg} {d:Option Tmp} {T:TypeId} {v ix:AV}:Le (index2 c d T v ix) (indexRM c d T v ix):=by
 unfold index2
 split
 ·rename_i k n s _ _ _ ht
  refine Le.need fun h0=>Le.byte fun y hy=>Le.eq ?_
  unfold indexRM
  simp only [ht,if_pos h0,hy]
 ·exact Le.of _
def load2 (c:Cfg) (T:TypeId) (d:Option Tmp) (p:AV):RM2:=
 match c.ti T,p with
 | some i,.ep b o j cc=>.ask b (some o) fun y=>match sliceOf y with
   | some es=>.elem es j fun e=>match ofCells (isAggD i.desc) i.size e.cells cc with
     | some v=>.of (fin c d [] v)
     | none=>.of .fail
   | none=>.of .fail
 | _,_=>.of (loadRM c T d p)
theorem le_load {c:Cfg} {d:Option Tmp} {T:TypeId} {p:AV}:Le (load2 c T d p) (loadRM c T d p):=by
 unfold load2
 split
 ·rename_i i b o j cc ht
  unfold loadRM
  simp only [ht]
  refine Le.ask fun y=>?_
  cases sliceOf y with
  | some es=>
    refine Le.elem fun e he=>?_
    simp only [he]
    cases ofCells (isAggD i.desc) i.size e.cells cc with
    | some v=>exact Le.of _
    | none=>exact Le.fail
  | none=>exact Le.fail
 ·exact Le.of _
def cpL2:List AV→(List AV→List Up→RM2)→RM2
 | [],k=>k [] []
 | v :: r,k=>match v with
   | .rf b o i n=>.ask b (some o) fun x=>match x with
     | .own _ l=>cpL2 r fun l' W=>k (.f (.sl ((l.drop i).take n)) :: l') ([.frz b o]++W)
     | .f (.sl l)=>cpL2 r fun l' W=>k (.f (.sl ((l.drop i).take n)) :: l') ([]++W)
     | _=>.of .fail
   | .f x=>cpL2 r fun l W=>k (.f x :: l) ([]++W)
   | .ptr b o=>cpL2 r fun l W=>k (.ptr b o :: l) ([]++W)
   | .fp x o=>cpL2 r fun l W=>k (.fp x o :: l) ([]++W)
   | .clo g caps=>cpL2 r fun l W=>k (.clo g caps :: l) ([]++W)
   | _=>.of .fail
theorem le_cpL:∀ {l:List AV} {k2:List AV→List Up→RM2} {k:List AV→List Up→RM},(∀ x U,Le (k2 x U) (k x U))→Le (cpL2 l k2) (cpL l k)
 | [],k2,k,h=>h [] []
 | v :: r,k2,k,h=>by
   have ih:∀ (x:AV) (U:List Up),Le (cpL2 r fun l W=>k2 (x :: l) (U++W)) (cpL r fun l W=>k (x :: l) (U++W)):=fun x U=>le_cpL fun l W=>h _ _
   cases v<;>simp only [cpL2,cpL,cp1]<;>try exact Le.fail
   all_goals try exact ih _ _
   refine Le.ask fun x=>?_
   cases x with
   | own E l=>exact ih _ _
   | f x=>cases x<;>first | exact Le.fail | exact ih _ _
   | _=>exact Le.fail
def stEl2 (i:TI) (x:Operand) (b o j cc:Nat):RM2:=
 rdO2 x fun v=>cpL2 v.leaves fun l U=>.ask b (some o) fun y=>match y,fLeaves l with
  | .own E es,some fs=>.elem es j fun e=>if fs.length=i.size∧0 < i.size∧cc+fs.length≤e.size∧U.all (frzOff b)=true then .of (.ret (U++[.upo b o (.own E (es.set j (setcs e cc fs)))])) else .of .fail
  | _,_=>.of .fail
theorem le_stEl {i:TI} {x:Operand} {b o j cc:Nat}:Le (stEl2 i x b o j cc) (stEl i x b o j cc):=by
 unfold stEl2 stEl
 refine zbL fun v=>le_cpL fun l U=>Le.ask fun y=>?_
 cases y with
 | own E es=>cases fLeaves l with
   | some fs=>
     refine Le.elem fun e he=>?_
     simp only [he]
     split
     ·exact Le.of _
     ·exact Le.fail
   | none=>exact Le.fail
 | _=>exact Le.fail
def store2 (c:Cfg) (T:TypeId) (x:Operand) (p:AV):RM2:=
 match c.ti T,p with
 | some i,.ep b o j cc=>stEl2 i x b o j cc
 | _,_=>.of (storeRM c T x p)
theorem le_store {c:Cfg} {T:TypeId} {x:Operand} {p:AV}:Le (store2 c T x p) (storeRM c T x p):=by
 unfold store2
 split
 ·rename_i ht
  unfold storeRM
  simp only [ht]
  exact le_stEl
 ·exact Le.of _
def mvL2 (b0:Nat):Nat→List AV→(List LI→RM2)→RM2
 | _,[],k=>k []
 | j0,v :: r,k=>match v with
   | .rf sb j i n=>.ask sb (some j) fun y=>match y with
     | .own E l=>.need (i=0∧n=l.length) (mvL2 b0 (j0+1) r fun ls=>k (.mv sb j E l :: ls))
     | .f (.sl l)=>mvL2 b0 (j0+1) r fun ls=>k (.pl (.f (.sl ((l.drop i).take n))) :: ls)
     | _=>.of .fail
   | .f x=>mvL2 b0 (j0+1) r fun ls=>k (.pl (.f x) :: ls)
   | .own E l=>mvL2 b0 (j0+1) r fun ls=>k (.mv b0 j0 E l :: ls)
   | _=>.of .fail
theorem le_mvL {b0:Nat}:∀ {l:List AV} {j0:Nat} {k2:List LI→RM2} {k:List LI→RM},(∀ x,Le (k2 x) (k x))→Le (mvL2 b0 j0 l k2) (mvL b0 j0 l k)
 | [],j0,k2,k,h=>h []
 | v :: r,j0,k2,k,h=>by
   have ih:∀ (x:LI),Le (mvL2 b0 (j0+1) r fun ls=>k2 (x :: ls)) (mvL b0 (j0+1) r fun ls=>k (x :: ls)):=fun x=>le_mvL fun ls=>h _
   cases v<;>simp only [mvL2,mvL]<;>try exact Le.fail
   ·exact ih _
   ·refine Le.ask fun y=>?_
    cases y with
    | own E l=>
      refine Le.need fun h=>?_
      simp only [if_pos h];exact ih _
    | f x=>cases x<;>first | exact Le.fail | exact ih _
    | _=>exact Le.fail
   ·exact ih _
def storeMv2 (c:Cfg) (T:TypeId) (t:Tmp) (p:AV):RM2:=
 match p,c.ti T with
 | .ptr b off,some i=>.peek b fun m=>if off+i.size≤m∧(b % 3≠1∧isM b=false)∧b≠0 then .ask (tb t) none fun v=>match v with
    | .agg l=>mvL2 (tb t) 0 l fun ls=>if ls.length=i.size∧noDupB (ls.flatMap LI.src)=true∧(ls.flatMap LI.src).all (fun p=>p.1 != b)=true then .of (.ret (stMv b off ls)) else .of .fail
    | _=>.of .fail
   else .of .fail
 | _,_=>.of .fail
theorem le_storeMv {c:Cfg} {T:TypeId} {t:Tmp} {p:AV}:Le (storeMv2 c T t p) (storeMv c T t p):=by
 unfold storeMv2
 split
 ·rename_i b off i hi
  unfold storeMv
  simp only [hi]
  refine Le.peek fun m=>?_
  split
  ·refine Le.ask fun v=>?_
   cases v with
   | agg l=>
     refine le_mvL fun ls=>?_
     split
     ·exact Le.of _
     ·exact Le.fail
   | _=>exact Le.fail
  ·exact Le.fail
 ·exact Le.fail
def storeX2 (c:Cfg) (T:TypeId) (x:Operand) (p:AV):RM2:=
 match mvS c x with
 | some t=>storeMv2 c T t p
 | none=>match vsS c x with
   | true=>.of (storeVw c T x p)
   | false=>store2 c T x p
theorem le_storeX {c:Cfg} {T:TypeId} {x:Operand} {p:AV}:Le (storeX2 c T x p) (storeX c T x p):=by
 unfold storeX2 storeX
 cases mvS c x with
 | some t=>exact le_storeMv
 | none=>cases vsS c x with
   | true=>exact Le.of _
   | false=>exact le_store
def apGo2 (c:Cfg) (d:Option Tmp) (E:TypeId) (i:TI) (ys:AV) (l:List FV) (bo:Option (Nat×Nat)):RM2:=
 cpL2 [ys] fun y W=>if boOk W bo=true then match y with
  | [.f (.sl m)]=>.need ((l.length+m.length) * i.bytes≤2 ^ 47) (.need (m.all (FV.fits i.size)=true) (.of (finNew c d (W++boUps l.length bo) E (l++m))))
  | [.f (.pv (.string s))]=>.need ((l.length+s.size) * i.bytes≤2 ^ 47) (if i.size=1 then .of (finNew c d (W++boUps l.length bo) E (l++strElems s)) else .of .fail)
  | _=>.of .fail
 else .of .fail
theorem le_cp1 {v:AV} {k2:List AV→List Up→RM2} {k:AV→List Up→RM} (h:∀ x U,Le (k2 [x] U) (k x U)):Le (cpL2 [v] k2) (cp1 v k):=by
 cases v<;>simp only [cpL2,cp1,List.append_nil]<;>try exact Le.fail
 all_goals try exact h _ _
 refine Le.ask fun x=>?_
 cases x with
 | own E l=>exact h _ _
 | f x=>cases x<;>first | exact Le.fail | exact h _ _
 | _=>exact Le.fail
theorem le_apGo {c:Cfg} {d:Option Tmp} {E:TypeId} {i:TI} {ys:AV} {l:List FV} {bo:Option (Nat×Nat)}:Le (apGo2 c d E i ys l bo) (apGo c d E i ys l bo):=by
 unfold apGo2 apGo
 refine le_cp1 fun y W=>?_
 split
 ·split
  ·rename_i heq;simp at heq;subst heq
   refine Le.need fun h1=>Le.need fun h2=>?_
   simp only [if_pos (And.intro h1 h2)];exact Le.of _
  ·rename_i heq;simp at heq;subst heq
   refine Le.need fun h1=>?_
   split
   ·rename_i h2;simp only [if_pos (And.intro h1 h2)];exact Le.of _
   ·exact Le.fail
  ·exact Le.fail
 ·exact Le.fail
def apBase2 (c:Cfg) (d:Option Tmp) (E:TypeId) (i:TI) (x:Operand) (ys:AV):RM2:=
 match x with
 | .const (.slice none 0 0)=>apGo2 c d E i ys [] none
 | .tmp t=>.ask (tb t) none fun v=>match v with
   | .rf b o j n=>.ask b (some o) fun y=>match y with
     | .own E' l=>if E'=E then .need (j=0∧n=l.length) (apGo2 c d E i ys l (some (b,o))) else .of .fail
     | _=>.of .fail
   | .own E' l=>if E'=E then apGo2 c d E i ys l (some (tb t,0)) else .of .fail
   | _=>.of .fail
 | _=>.of .fail
theorem le_apBase {c:Cfg} {d:Option Tmp} {E:TypeId} {i:TI} {x:Operand} {ys:AV}:Le (apBase2 c d E i x ys) (apBase c d E i x ys):=by
 unfold apBase2 apBase
 split
 ·exact le_apGo
 ·refine Le.ask fun v=>?_
  cases v with
  | rf b o j n=>
    refine Le.ask fun y=>?_
    cases y with
    | own E' l=>
      dsimp only
      split
      ·rename_i hE
       refine Le.need fun h=>?_
       rw [if_pos ⟨h.1,h.2,hE⟩];exact le_apGo
      ·exact Le.fail
    | _=>exact Le.fail
  | own E' l=>
    dsimp only
    split
    ·exact le_apGo
    ·exact Le.fail
  | _=>exact Le.fail
 ·exact Le.fail
def append2 (c:Cfg) (d:Option Tmp) (T T2:TypeId) (x:Operand) (ys:AV):RM2:=
 match c.ti T,c.ti T2 with
 | some { desc:=.slice E,.. },some i2=>match c.ti E with
   | some i=>match i.zero with
     | some z=>if isSrcD i2.desc=true∧0 < i.bytes∧0 < i.size∧z.leaves.length=i.size then apBase2 c d E i x ys else .of .fail
     | none=>.of .fail
   | none=>.of .fail
 | _,_=>.of .fail
theorem le_append {c:Cfg} {d:Option Tmp} {T T2:TypeId} {x:Operand} {ys:AV}:Le (append2 c d T T2 x ys) (appendRM c d T T2 x ys):=by
 unfold append2
 split
 ·rename_i h1 h2
  unfold appendRM
  simp only [h1,h2]
  cases hE:c.ti _ with
  | some i=>cases hz:i.zero with
    | some z=>
      simp only [hz]
      split
      ·exact le_apBase
      ·exact Le.fail
    | none=>simp only [hz];exact Le.fail
  | none=>exact Le.fail
 ·exact Le.fail
def bnd2 (x:Option AV) (dflt:Nat):Option (Prop×Nat):=
 match x with
 | none=>some (True,dflt)
 | some (.f (.pv (.int _ n)))=>some (0≤n,n.toNat)
 | _=>none
def slice2 (c:Cfg) (d:Option Tmp) (T:TypeId) (v:AV) (lo hi:Option AV):RM2:=
 match v,c.ti T with
 | .f (.pv (.string s)),some { desc:=.string,.. }=>match bnd2 lo 0,bnd2 hi s.size with
   | some (p,l),some (q,h)=>.need (p∧q∧l≤h∧h≤s.size) (.of (fin c d [] (.f (.pv (.string (s.extract l h))))))
   | _,_=>.of .fail
 | .f (.sl es),some { desc:=.slice E,.. }=>match bnd2 lo 0,bnd2 hi es.length,c.ti E with
   | some (p,l),some (q,h),some i=>.need (p∧q∧l≤h∧h≤es.length∧es.all (FV.fits i.size)=true) (.of (fin c d [] (.f (.sl ((es.drop l).take (h - l))))))
   | _,_,_=>.of .fail
 | .rf b o j n,some { desc:=.slice E,.. }=>match bnd2 lo 0,bnd2 hi n,c.ti E with
   | some (p,l),some (q,h),some i=>.need (p∧q∧l=0∧h≤n) (seen2 (.rf b o j n) (.of (fin c d [] (.rf b o j h))))
   | _,_,_=>.of .fail
 | _,_=>.of (sliceRM c d T v lo hi)
def bnd1 (x:Option AV) (dflt:Nat):Option Nat:=
 match x with
 | none=>some dflt
 | some (.f (.pv (.int _ n)))=>if 0≤n then some n.toNat else none
 | _=>none
theorem zd2 {x:Option AV} {dflt:Nat} {p:Prop} {l:Nat} (h:bnd2 x dflt=some (p,l)) (hp:p):bnd1 x dflt=some l:=by
 unfold bnd2 at h
 unfold bnd1
 split at h
 ·simp only [Option.some.injEq,Prod.mk.injEq] at h;simp [h.2]
 ·simp only [Option.some.injEq,Prod.mk.injEq] at h;obtain ⟨rfl,rfl⟩:=h;simp [hp]
 ·cases h
theorem zif {c:Cfg} {d:Option Tmp} {T:TypeId} {v:AV} {lo hi:Option AV}:Le (slice2 c d T v lo hi) (sliceRM c d T v lo hi):=by
 have e:sliceRM c d T v lo hi=(match v,c.ti T with
 | .f (.pv (.string s)),some { desc:=.string,.. }=>match bnd1 lo 0,bnd1 hi s.size with
   | some l,some h=>if l≤h∧h≤s.size then fin c d [] (.f (.pv (.string (s.extract l h)))) else .fail
   | _,_=>.fail
 | .f (.sl es),some { desc:=.slice E,.. }=>match bnd1 lo 0,bnd1 hi es.length,c.ti E with
   | some l,some h,some i=>if l≤h∧h≤es.length∧es.all (FV.fits i.size)=true then fin c d [] (.f (.sl ((es.drop l).take (h - l)))) else .fail
   | _,_,_=>.fail
 | .rf b o j n,some { desc:=.slice E,.. }=>match bnd1 lo 0,bnd1 hi n,c.ti E with
   | some l,some h,some i=>if l≤h∧h≤n then (if l=0 then seen (.rf b o j n) (fin c d [] (.rf b o j h)) else .fail) else .fail
   | _,_,_=>.fail
 | _,_=>.fail):=rfl
 unfold slice2
 split
 ·rename_i s _ _ _ ht
  rw [e]
  simp only [ht]
  split
  ·rename_i h1 h2
   refine Le.need fun h=>?_
   obtain ⟨hp,hq,h3⟩:=h
   simp only [zd2 h1 hp,zd2 h2 hq,if_pos h3];exact Le.of _
  ·exact Le.fail
 ·rename_i es E _ _ _ ht
  rw [e]
  simp only [ht]
  split
  ·rename_i h1 h2 h4
   refine Le.need fun h=>?_
   obtain ⟨hp,hq,h3⟩:=h
   simp only [zd2 h1 hp,zd2 h2 hq,h4,if_pos h3];exact Le.of _
  ·exact Le.fail
 ·rename_i b o j n E _ _ _ ht
  rw [e]
  simp only [ht]
  split
  ·rename_i h1 h2 h4
   refine Le.need fun h=>?_
   obtain ⟨hp,hq,h3,h5⟩:=h
   subst h3
   simp only [zd2 h1 hp,zd2 h2 hq,h4,if_pos (And.intro (Nat.zero_le _) h5),if_true];exact le_seen (Le.of _)
  ·exact Le.fail
 ·exact Le.of _
def makeSlice2 (c:Cfg) (d:Option Tmp) (T:TypeId) (l cp:AV):RM2:=
 match l,cp,c.ti T with
 | .f (.pv (.int _ n)),.f (.pv (.int _ m)),some { desc:=.slice E,.. }=>match c.ti E with
   | some { size:=sz,bytes:=by_,zero:=some z,.. }=>match z.elem with
     | some e=>.need (0≤n∧n≤m∧m < 2 ^ 40∧by_ * m≤2 ^ 47) (if 0 < sz∧e.fits sz=true then .of (finNew c d [] E (List.replicate n.toNat e)) else .of .fail)
     | none=>.of .fail
   | _=>.of .fail
 | _,_,_=>.of .fail
theorem le_makeSlice {c:Cfg} {d:Option Tmp} {T:TypeId} {l cp:AV}:Le (makeSlice2 c d T l cp) (makeSliceRM c d T l cp):=by
 unfold makeSlice2
 split
 ·rename_i _ n _ m E _ _ _ ht
  unfold makeSliceRM
  simp only [ht]
  split
  ·rename_i hE
   simp only [hE]
   split
   ·rename_i e he
    refine Le.need fun h=>?_
    simp only [he]
    split
    ·rename_i h2
     rw [if_pos ⟨h.1,h.2.1,h.2.2.1,h.2.2.2,h2.1,h2.2⟩];exact Le.of _
    ·exact Le.fail
   ·exact Le.fail
  ·exact Le.fail
 ·exact Le.fail
def ipGo2 (c:Cfg) (d:Option Tmp) (f:List FV→Option (List FV)) (back:Bool) (b o:Nat) (E:TypeId) (l:List FV):RM2:=
 .lst (f l) fun l'=>
  if back=true then (match d with
   | some t=>if t < c.nt then .of (.ret [.leaf b o .bad,.set (tb t) (.own E l')]) else .of .fail
   | none=>.of .fail)
  else .need (l'.length=l.length) (.of (fin c d [.upo b o (.own E l')] (.tup [])))
theorem le_ipGo {c:Cfg} {d:Option Tmp} {f:List FV→Option (List FV)} {back:Bool} {b o:Nat} {E:TypeId} {l:List FV}:Le (ipGo2 c d f back b o E l) (ipGo c d f back b o E l):=by
 unfold ipGo2 ipGo
 refine Le.lst fun l' h=>?_
 simp only [h]
 split
 ·cases d with
  | some t=>
    dsimp only
    split
    ·exact Le.of _
    ·exact Le.fail
  | none=>exact Le.fail
 ·refine Le.need fun h=>?_
  rw [if_pos h];exact Le.of _
def ip2 (c:Cfg) (d:Option Tmp) (f:List FV→Option (List FV)) (back:Bool) (t:Tmp):RM2:=
 .ask (tb t) none fun v=>match v with
  | .rf b o i n=>.ask b (some o) fun y=>match y with
    | .own E l=>.need (i=0∧n=l.length) (ipGo2 c d f back b o E l)
    | _=>.of .fail
  | .own E l=>ipGo2 c d f back (tb t) 0 E l
  | _=>.of .fail
theorem le_ip {c:Cfg} {d:Option Tmp} {f:List FV→Option (List FV)} {back:Bool} {t:Tmp}:Le (ip2 c d f back t) (ipRM c d f back t):=by
 unfold ip2 ipRM
 refine Le.ask fun v=>?_
 cases v with
 | rf b o i n=>
   refine Le.ask fun y=>?_
   cases y with
   | own E l=>
     refine Le.need fun h=>?_
     simp only [if_pos h];exact le_ipGo
   | _=>exact Le.fail
 | own E l=>exact le_ipGo
 | _=>exact Le.fail
def tk2 (c:Cfg) (d:Option Tmp) (t:Tmp):RM2:=
 .ask (tb t) none fun v=>match v with
  | .rf b o j n=>.ask b (some o) fun y=>match y with
    | .own E m=>.need (j=0∧n=m.length) (.of (finOwn c d b o E m))
    | _=>.of .fail
  | _=>.of .fail
theorem le_tk {c:Cfg} {d:Option Tmp} {t:Tmp}:Le (tk2 c d t) (tkRM c d t):=by
 unfold tk2 tkRM
 refine Le.ask fun v=>?_
 cases v with
 | rf b o j n=>
   refine Le.ask fun y=>?_
   cases y with
   | own E m=>
     refine Le.need fun h=>?_
     simp only [if_pos h];exact Le.of _
   | _=>exact Le.fail
 | _=>exact Le.fail
def sliceOp2 (c:Cfg) (d:Option Tmp) (t:TypeId) (x:Operand) (lo hi:Option Operand):RM2:=
 rdO2 x fun v=>match lo,hi with
  | none,none=>slice2 c d t v none none
  | some l,none=>rdO2 l fun a=>slice2 c d t v (some a) none
  | none,some h=>rdO2 h fun b=>slice2 c d t v none (some b)
  | some l,some h=>rdO2 l fun a=>rdO2 h fun b=>slice2 c d t v (some a) (some b)
theorem le_sliceOp {c:Cfg} {d:Option Tmp} {t:TypeId} {x:Operand} {lo hi:Option Operand}:Le (sliceOp2 c d t x lo hi) (sliceOpRM c d t x lo hi):=by
 unfold sliceOp2 sliceOpRM
 refine zbL fun v=>?_
 cases lo<;>cases hi
 ·exact zif
 ·exact zbL fun b=>zif
 ·exact zbL fun b=>zif
 ·exact zbL fun b=>zbL fun b'=>zif
def grow2 (c:Cfg) (d:Option Tmp) (E:TypeId) (v:AV):RM2:=
 match v with
 | .f (.pv (.int .i64 n))=>.need (0≤n∧n≤2 ^ 40) (.of (finNew c d [] E []))
 | _=>.of .fail
theorem le_grow {c:Cfg} {d:Option Tmp} {E:TypeId} {v:AV}:Le (grow2 c d E v) (growRM c d E v):=by
 unfold grow2
 split
 ·refine Le.need fun h=>?_
  simp only [growRM,if_pos h];exact Le.of _
 ·exact Le.fail
def copyGo2 (c:Cfg) (d:Option Tmp) (E:TypeId) (i:TI) (b q:Nat) (l:List FV) (v:AV):RM2:=
 match v with
 | .f (.sl m)=>.need (m.all (FV.fits i.size)=true) (.of (fin c d [.upo b q (.own E (m.take l.length++l.drop m.length))] (.f (.pv (.int .i64 ((min m.length l.length:Nat):Int))))))
 | _=>.of .fail
def make02 (c:Cfg) (d:Option Tmp) (T:TypeId) (l cp:AV):RM2:=
 match l,cp,c.ti T with
 | .f (.pv (.int _ n)),.f (.pv (.int _ m)),some { desc:=.slice E,.. }=>match c.ti E with
   | some { size:=sz,bytes:=by_,zero:=some z,.. }=>.need (n=0∧0≤m∧m < 2 ^ 40∧by_ * m≤2 ^ 47) (if 0 < sz∧z.leaves.length=sz then .of (finNew c d [] E []) else .of .fail)
   | _=>.of .fail
 | _,_,_=>.of .fail
theorem le_make0 {c:Cfg} {d:Option Tmp} {T:TypeId} {l cp:AV}:Le (make02 c d T l cp) (make0RM c d T l cp):=by
 unfold make02
 split
 ·rename_i _ n _ m E _ _ _ ht
  unfold make0RM
  simp only [ht]
  split
  ·rename_i hE
   simp only [hE]
   refine Le.need fun h=>?_
   split
   ·rename_i h2
    rw [if_pos ⟨h.1,h.2.1,h.2.2.1,h.2.2.2,h2.1,h2.2⟩];exact Le.of _
   ·exact Le.fail
  ·exact Le.fail
 ·exact Le.fail
def make2 (c:Cfg) (d:Option Tmp) (T:TypeId) (l cp:AV):RM2:=if noElem c T=true then make02 c d T l cp else makeSlice2 c d T l cp
theorem le_make {c:Cfg} {d:Option Tmp} {T:TypeId} {l cp:AV}:Le (make2 c d T l cp) (makeRM c d T l cp):=by
 unfold make2 makeRM
 split
 ·exact le_make0
 ·exact le_makeSlice
def toStr2 (c:Cfg) (d:Option Tmp) (v:AV):RM2:=
 cpL2 [v] fun y W=>match y with
  | [.f (.sl m)]=>.need (m.all isByteF=true) (.of (fin c d W (.f (.pv (.string (bytesT m))))))
  | _=>.of .fail
theorem le_toStr {c:Cfg} {d:Option Tmp} {v:AV}:Le (toStr2 c d v) (toStrGo c d v):=by
 unfold toStr2 toStrGo
 refine le_cp1 fun y W=>?_
 split
 ·rename_i heq;simp at heq;subst heq
  refine Le.need fun h=>?_
  simp only [if_pos h];exact Le.of _
 ·exact Le.fail
def conv2 (c:Cfg) (d:Option Tmp) (src dst:TypeId) (v:AV):RM2:=
 match cvKind c src dst with
 | .str e=>if isU8 c e=true then toStr2 c d v else .of .fail
 | .bytes e=>if isU8 c e=true then .of (toBytesGo c d v) else .of .fail
 | .other=>.of (optRM c d (convAV c src dst v))
theorem le_conv {c:Cfg} {d:Option Tmp} {src dst:TypeId} {v:AV}:Le (conv2 c d src dst v) (convRM c d src dst v):=by
 unfold conv2 convRM
 cases cvKind c src dst with
 | str e=>
   dsimp only
   split
   ·exact le_toStr
   ·exact Le.fail
 | bytes e=>
   dsimp only
   split
   ·exact Le.of _
   ·exact Le.fail
 | other=>exact Le.of _
def mapUpGo2 (iK:TI) (b:Nat) (kv:Value) (y:FV):RM2:=
 .ask b none fun z=>match z with
  | .f (.sl L)=>.need (L.all (keyIs iK.desc)=true) (.of (.ret [.set b (.f (.sl (putE kv y L)))]))
  | _=>.of .fail
theorem le_mapUpGo {iK:TI} {b:Nat} {kv:Value} {y:FV}:Le (mapUpGo2 iK b kv y) (mapUpGo iK b kv y):=by
 unfold mapUpGo2 mapUpGo
 refine Le.ask fun z=>?_
 cases z with
 | f x=>cases x with
   | sl L=>
     refine Le.need fun h=>?_
     simp only [if_pos h];exact Le.of _
   | _=>exact Le.fail
 | _=>exact Le.fail
def mapUp2 (c:Cfg) (T:TypeId) (m k x:Operand):RM2:=
 match c.ti T with
 | some { desc:=.map K _,.. }=>match c.ti K with
   | some iK=>rdO2 m fun vm=>match vm with
     | .ptr b _=>if isMM b=true then rdO2 k fun vk=>match vk with
        | .f (.pv kv)=>if keyV iK.desc kv=true then rdO2 x fun vx=>match vx.elem with
           | some y=>mapUpGo2 iK b kv y
           | none=>.of .fail
          else .of .fail
        | _=>.of .fail
       else .of .fail
     | _=>.of .fail
   | none=>.of .fail
 | _=>.of .fail
theorem le_mapUp {c:Cfg} {T:TypeId} {m k x:Operand}:Le (mapUp2 c T m k x) (mapUpRM c T m k x):=by
 unfold mapUp2
 split
 ·rename_i hT
  split
  ·rename_i iK hK
   unfold mapUpRM
   simp only [hT,hK]
   refine zbL fun vm=>?_
   cases vm with
   | ptr b q=>
     dsimp only
     split
     ·refine zbL fun vk=>?_
      cases vk with
      | f z=>cases z with
        | pv kv=>
          dsimp only
          split
          ·refine zbL fun vx=>?_
           cases vx.elem with
           | some y=>exact le_mapUpGo
           | none=>exact Le.fail
          ·exact Le.fail
        | _=>exact Le.fail
      | _=>exact Le.fail
     ·exact Le.fail
   | _=>exact Le.fail
  ·exact Le.fail
 ·exact Le.fail
def op2 (c:Cfg) (o:Oper):RM2:=
 match o.op with
 | .mapUpdate T m k x=>if o.dst.isNone=true then mapUp2 c T m k x else .of .fail
 | .pick q a b=>rdO2 q fun v=>match v with
   | .f (.pv (.bool t))=>.br t (.of (rdO a (fin c o.dst []))) (.of (rdO b (fin c o.dst [])))
   | _=>.of .fail
 | .load T a=>rdO2 a fun p=>load2 c T o.dst p
 | .store T a x=>if o.dst.isNone=true then rdO2 a fun p=>storeX2 c T x p else .of .fail
 | .binOp op T x y _=>rdO2 x fun a=>rdO2 y fun b=>bin2 c o.dst op T a b
 | .makeSlice t l n=>rdO2 l fun a=>rdO2 n fun b=>make2 c o.dst t a b
 | .convert s t x=>rdO2 x fun v=>conv2 c o.dst s t v
 | .slice t x lo hi none=>sliceOp2 c o.dst t x lo hi
 | .indexAddr t x i=>rdO2 x fun v=>rdO2 i fun w=>indexAddr2 c o.dst t v w
 | .index t x i=>rdO2 x fun v=>rdO2 i fun w=>index2 c o.dst t v w
 | .assign x=>match tkS c x with
   | some t=>tk2 c o.dst t
   | none=>.of (opRM c o)
 | .call { callee:=.builtin .append,args,argTypes }=>match args.toList,argTypes.toList with
   | [x,y],[T,T2]=>rdO2 y fun v=>append2 c o.dst T T2 x v
   | _,_=>.of .fail
 | .call { callee:=.value f,args,.. }=>match ipOf c f args.toList with
   | some (_,f,back,t)=>ip2 c o.dst f back t
   | none=>match grOf c f args.toList with
     | some (_,E,y)=>rdO2 y (grow2 c o.dst E)
     | none=>.of (opRM c o)
 | _=>.of (opRM c o)
theorem le_op {c:Cfg} {o:Oper}:Le (op2 c o) (opRM c o):=by
 unfold op2
 split
 ·rename_i h
  simp only [opRM,h]
  split
  ·exact le_mapUp
  ·exact Le.fail
 ·rename_i h
  simp only [opRM,h]
  refine zbL fun v=>?_
  cases v with
  | f x=>cases x with
    | pv u=>cases u with
      | bool t=>
        refine Le.br (fun e=>?_) (fun e=>?_)
        ·subst e;exact Le.of _
        ·subst e;exact Le.of _
      | _=>exact Le.fail
    | _=>exact Le.fail
  | _=>exact Le.fail
 ·rename_i h
  simp only [opRM,h]
  exact zbL fun v=>le_load
 ·rename_i h
  simp only [opRM,h]
  split
  ·exact zbL fun v=>le_storeX
  ·exact Le.fail
 ·rename_i h
  simp only [opRM,h]
  exact zbL fun v=>zbL fun w=>le_bin
 ·rename_i h
  simp only [opRM,h]
  exact zbL fun v=>zbL fun w=>le_make
 ·rename_i h
  simp only [opRM,h]
  exact zbL fun v=>le_conv
 ·rename_i h
  simp only [opRM,h]
  exact le_sliceOp
 ·rename_i h
  simp only [opRM,h]
  exact zbL fun v=>zbL fun w=>le_indexAddr
 ·rename_i h
  simp only [opRM,h]
  exact zbL fun v=>zbL fun w=>le_index
 ·rename_i h
  split
  ·rename_i h1
   simp only [opRM,h,h1];exact le_tk
  ·exact Le.of _
 ·rename_i h
  simp only [opRM,h]
  split
  ·rename_i x y T T2 h1 h2
   simp only [h1,h2,builtinRM]
   exact zbL fun v=>le_append
  ·exact Le.fail
 ·rename_i h
  split
  ·rename_i h1
   simp only [opRM,h,h1]
   exact le_ip
  ·rename_i h1
   split
   ·rename_i h2
    simp only [opRM,h,h1,h2]
    exact zbL fun v=>le_grow
   ·exact Le.of _
 ·exact Le.of _
def guard2 (c:Cfg) (ops:Array Oper) (o:Oper):RM2:=
 match o.guard with
 | none=>op2 c o
 | some (j,want)=>match (ops[j]?).bind (·.dst) with
   | none=>.of .fail
   | some t=>.ask (tb t) none fun v=>match v with
     | .f (.pv (.bool b))=>.br (b == want) (op2 c o) (.of (fin c o.dst [] (.tup [])))
     | .tup []=>.of (fin c o.dst [] (.tup []))
     | _=>.of .fail
theorem le_guard {c:Cfg} {ops:Array Oper} {o:Oper}:Le (guard2 c ops o) (guardRM c ops o):=by
 unfold guard2 guardRM
 cases o.guard with
 | none=>exact le_op
 | some p=>
   obtain ⟨j,want⟩:=p
   dsimp only
   cases (ops[j]?).bind (·.dst) with
   | none=>exact Le.fail
   | some t=>
     refine Le.ask fun v=>?_
     cases v with
     | f x=>cases x with
       | pv u=>cases u with
         | bool b=>
           refine Le.br (fun e=>?_) (fun e=>?_)
           ·simp only [if_pos (show b=want by simpa using e)];exact le_op
           ·simp only [if_neg (show ¬ b=want by simpa using e)];exact Le.of _
         | _=>exact Le.fail
       | _=>exact Le.fail
     | tup l=>cases l with
       | nil=>exact Le.of _
       | cons x r=>exact Le.fail
     | _=>exact Le.fail
inductive Ora where
 | e (x:FV)
 | l (x:List FV)
 | y (x:UInt8)
 | b (x:Bool)
 | c (r:AV) (outs:List AV)
 | n (m:Nat)
def AllP:List Prop→Prop
 | []=>True
 | p :: r=>p∧AllP r
theorem zes:∀ {l m:List Prop},AllP (l++m)→AllP l∧AllP m
 | [],m,h=>⟨trivial,h⟩
 | p :: r,m,h=>let ⟨h1,h2⟩:=zes h.2;⟨⟨h.1,h1⟩,h2⟩
abbrev EvR:=Option (List Prop×List Ora×List Up×List Acc)
def addOb (p:Prop):EvR→EvR
 | some (obs,r)=>some (p :: obs,r)
 | none=>none
def RM.ev (CE:CEx) (G:Sta):RM→List Acc→List Ora→EvR
 | .ret U,T,q=>some ([],q,U,T)
 | .fail,_,_=>none
 | .ask b o k,T,q=>match look G b o with
   | some v=>match v.ok with
     | true=>(k v).ev CE G (T++accOf b o :: v.refs) q
     | false=>none
   | none=>none
 | .peek b k,T,q=>match get G b with
   | some v=>(k v.leaves.length).ev CE G (T++[.id b]) q
   | none=>none
 | .call g args outs k,T,q=>match q with
   | .c r outs' :: q=>addOb (CE g args outs r outs') ((k r outs').ev CE G T q)
   | _=>none
def RM2.ev (CE:CEx) (G:Sta):RM2→List Acc→List Ora→EvR
 | .of m,T,q=>m.ev CE G T q
 | .ask b o k,T,q=>match look G b o with
   | some v=>match v.ok with
     | true=>(k v).ev CE G (T++accOf b o :: v.refs) q
     | false=>none
   | none=>none
 | .need p m,T,q=>addOb p (m.ev CE G T q)
 | .elem l n k,T,q=>match q with
   | .e x :: q=>addOb (l[n]?=some x) ((k x).ev CE G T q)
   | _=>none
 | .lst x k,T,q=>match q with
   | .l y :: q=>addOb (x=some y) ((k y).ev CE G T q)
   | _=>none
 | .byte s n k,T,q=>match q with
   | .y x :: q=>addOb (s[n]?=some x) ((k x).ev CE G T q)
   | _=>none
 | .br b x y,T,q=>match q with
   | .b true :: q=>addOb (b=true) (x.ev CE G T q)
   | .b false :: q=>addOb (b=false) (y.ev CE G T q)
   | _=>none
 | .peek b k,T,q=>match get G b with
   | some v=>(k v.leaves.length).ev CE G (T++[.id b]) q
   | none=>none
 | .num n _ k,T,q=>match q with
   | .n m :: q=>addOb (n=m) ((k m).ev CE G T q)
   | q=>match n with
     | .ofNat m=>(k m).ev CE G T q
     | .negSucc _=>none
theorem zbV {p:Prop} {x:EvR} {obs:List Prop} {r:List Ora×List Up×List Acc} (h:addOb p x=some (obs,r)):∃ o,x=some (o,r)∧obs=p :: o:=by
 unfold addOb at h
 split at h
 ·simp only [Option.some.injEq,Prod.mk.injEq] at h;obtain ⟨rfl,rfl⟩:=h;exact ⟨_,rfl,rfl⟩
 ·cases h
theorem RM.ev_wp {CE:CEx} {G:Sta}:∀ (m:RM) {T:List Acc} {q q':List Ora} {obs:List Prop} {U:List Up} {T':List Acc} {K:List Up→List Acc→Prop},
 m.ev CE G T q=some (obs,q',U,T')→AllP obs→K U T'→m.wp CE G T K
 | .ret U,T,q,q',obs,U',T',K,h,ho,hk=>by simp only [RM.ev,Option.some.injEq,Prod.mk.injEq] at h;obtain ⟨rfl,rfl,rfl,rfl⟩:=h;exact hk
 | .fail,T,q,q',obs,U',T',K,h,ho,hk=>by cases h
 | .ask b o k,T,q,q',obs,U',T',K,h,ho,hk=>by
   simp only [RM.ev] at h
   split at h
   ·rename_i v hv
    split at h
    ·rename_i hok;exact ⟨v,hv,hok,RM.ev_wp _ h ho hk⟩
    ·cases h
   ·cases h
 | .peek b k,T,q,q',obs,U',T',K,h,ho,hk=>by
   simp only [RM.ev] at h
   split at h
   ·rename_i v hv;exact ⟨v,hv,RM.ev_wp _ h ho hk⟩
   ·cases h
 | .call g args outs k,T,q,q',obs,U',T',K,h,ho,hk=>by
   unfold RM.ev at h
   split at h
   ·obtain ⟨o,h1,rfl⟩:=zbV h;exact ⟨_,_,ho.1,RM.ev_wp _ h1 ho.2 hk⟩
   ·cases h
theorem RM2.ev_wp {CE:CEx} {G:Sta}:∀ (m:RM2) {T:List Acc} {q q':List Ora} {obs:List Prop} {U:List Up} {T':List Acc} {K:List Up→List Acc→Prop},
 m.ev CE G T q=some (obs,q',U,T')→AllP obs→K U T'→m.wp CE G T K
 | .of m,T,q,q',obs,U',T',K,h,ho,hk=>RM.ev_wp m h ho hk
 | .ask b o k,T,q,q',obs,U',T',K,h,ho,hk=>by
   unfold RM2.ev at h
   try dsimp only at h
   split at h
   ·rename_i v hv
    split at h
    ·rename_i hok;exact ⟨v,hv,hok,RM2.ev_wp _ h ho hk⟩
    ·cases h
   ·cases h
 | .need p m,T,q,q',obs,U',T',K,h,ho,hk=>by
   unfold RM2.ev at h
   try dsimp only at h
   obtain ⟨o,h1,rfl⟩:=zbV h;exact ⟨ho.1,RM2.ev_wp _ h1 ho.2 hk⟩
 | .elem l n k,T,q,q',obs,U',T',K,h,ho,hk=>by
   unfold RM2.ev at h
   try dsimp only at h
   split at h
   ·obtain ⟨o,h1,rfl⟩:=zbV h;exact ⟨_,ho.1,RM2.ev_wp _ h1 ho.2 hk⟩
   ·cases h
 | .lst l k,T,q,q',obs,U',T',K,h,ho,hk=>by
   unfold RM2.ev at h
   try dsimp only at h
   split at h
   ·obtain ⟨o,h1,rfl⟩:=zbV h;exact ⟨_,ho.1,RM2.ev_wp _ h1 ho.2 hk⟩
   ·cases h
 | .byte s n k,T,q,q',obs,U',T',K,h,ho,hk=>by
   unfold RM2.ev at h
   try dsimp only at h
   split at h
   ·obtain ⟨o,h1,rfl⟩:=zbV h;exact ⟨_,ho.1,RM2.ev_wp _ h1 ho.2 hk⟩
   ·cases h
 | .br b x y,T,q,q',obs,U',T',K,h,ho,hk=>by
   unfold RM2.ev at h
   try dsimp only at h
   split at h
   ·obtain ⟨o,h1,rfl⟩:=zbV h;exact .inl ⟨ho.1,RM2.ev_wp _ h1 ho.2 hk⟩
   ·obtain ⟨o,h1,rfl⟩:=zbV h;exact .inr ⟨ho.1,RM2.ev_wp _ h1 ho.2 hk⟩
   ·cases h
 | .peek b k,T,q,q',obs,U',T',K,h,ho,hk=>by
   unfold RM2.ev at h
   try dsimp only at h
   split at h
   ·rename_i v hv;exact ⟨v,hv,RM2.ev_wp _ h ho hk⟩
   ·cases h
 | .num n len k,T,q,q',obs,U',T',K,h,ho,hk=>by
   unfold RM2.ev at h
   split at h
   ·obtain ⟨o,h1,rfl⟩:=zbV h;exact ⟨_,ho.1,RM2.ev_wp _ h1 ho.2 hk⟩
   ·split at h
    ·exact ⟨_,rfl,RM2.ev_wp _ h ho hk⟩
    ·cases h
def evOps (CE:CEx) (c:Cfg) (ops:Array Oper) (draw:Bool):List Oper→Nat→List Lg→Sta→List Ora→Option (List Prop×List Lg×Sta)
 | [],_,log,G,q=>match q with
   | []=>some ([],log,G)
   | _=>none
 | o :: r,i,log,G,q=>match (guard2 c ops o).ev CE G [] q with
   | some (obs,q',U,T)=>match evOps CE c ops draw r (i+1) (match draw with | true=>log++[⟨i,T++Ups.refs U,Ups.writes U⟩] | false=>[]) (app U G) q' with
     | some (obs',log',G')=>some (obs++obs',log',G')
     | none=>none
   | none=>none
end Go.Ev
namespace Go.Ev
open Go Go.RowKit
variable {P : Program}
structure CK (w w':World):Prop where
 size:w.heap.size≤w'.heap.size
 cells:∀ (k:Nat) (arr:Array Value) (T:TypeId) (z:Nat×Nat),w.heap[k]?=some (Obj.cells arr T z)→w'.heap[k]?=some (Obj.cells arr T z)
 maps:∀ (k:Nat) (es:Array MapEntry) (ck:Nat),w.heap[k]?=some (Obj.map es ck)→w'.heap[k]?=some (Obj.map es ck)
theorem CK.refl (w:World):CK w w:=⟨Nat.le_refl _,fun _ _ _ _ h=>h,fun _ _ _ h=>h⟩
theorem CK.trans {a b c:World} (h:CK a b) (k:CK b c):CK a c:=⟨Nat.le_trans h.size k.size,fun i x T z e=>k.cells i x T z (h.cells i x T z e),fun i x z e=>k.maps i x z (h.maps i x z e)⟩
theorem CK.cell {w w':World} (h:CK w w') {p:Addr} {v:Value} (e:w.cell? p=some v):w'.cell? p=some v:=by
 have hb:∃ arr T z,w.heap[p.block]?=some (Obj.cells arr T z):=by
  unfold World.cell? at e
  split at e
  ·rename_i hb;exact ⟨_,_,_,hb⟩
  ·cases e
 obtain ⟨arr,T,z,hb⟩:=hb
 rw [World.cell?_of_block (w:=w) (by rw [hb];exact h.cells _ _ _ _ hb)];exact e
section
variable {own : Own} {w w' : World} {G : Sta}
theorem RF.ck (h:CK w w') {x:FV} {v:Value} (r:RF own w x v):RF own w' x v:=by
 induction r with
 | pv v h=>exact .pv v h
 | agg l arr hl _ ih=>exact .agg l arr hl ih
 | sl l a n c ad sz hn' hc ha hsz hcell _ ih=>
   refine .sl l a n c ad sz hn' hc (fun hne=>let ⟨h1,h2,h3,h4⟩:=ha hne;⟨h1,h2,h3,Nat.lt_of_lt_of_le h4 h.size⟩) hsz ?_ ?_
   ·intro i x j y e1 e2
    obtain ⟨v,e⟩:=hcell i x j y e1 e2
    exact ⟨v,h.cell e⟩
   ·intro i x j y v e1 e2 e3
    obtain ⟨v',e⟩:=hcell i x j y e1 e2
    rw [h.cell e] at e3;cases e3
    exact ih i x j y v e1 e2 e
theorem RMp.ck (h:CK w w') {v:AV} {es:Array MapEntry} (r:RMp own w v es):RMp own w' v es:=by
 rcases r with r | ⟨L,hL,h1,h2⟩
 ·exact .inl r
 ·refine .inr ⟨L,hL,h1,fun i x e e1 e2=>?_⟩
  obtain ⟨k,y,e3,e4,e5⟩:=h2 i x e e1 e2
  exact ⟨k,y,e3,e4.ck h,e5.ck h⟩
theorem RC.ck (h:CK w w') {v:AV} {u:Value} (r:RC own w v u):RC own w' v u:=by
 cases v with
 | f x=>exact ⟨r.1,r.2.ck h⟩
 | fp x o=>
   obtain ⟨k,q,h1,h2,h3,h4⟩:=r
   exact ⟨k,q,h1,h2,Nat.lt_of_lt_of_le h3 h.size,fun j y hy=>let ⟨z,e1,e2⟩:=h4 j y hy;⟨z,h.cell e1,e2.ck h⟩⟩
 | _=>exact r
theorem OwnB.ck (h:CK w w') {b o:Nat} {E:TypeId} {k:Nat} {l:List FV} {c:Nat} (r:OwnB P own w b o E k l c):OwnB P own w' b o E k l c:=by
 obtain ⟨e1,arr,e2,e3,e4,e5⟩:=r
 exact ⟨e1,arr,h.cells _ _ _ _ e2,e3,e4,fun i x j y h1 h2=>let ⟨v,q1,q2⟩:=e5 i x j y h1 h2;⟨v,q1,q2.ck h⟩⟩
theorem R0.ck (h:CK w w') {v:AV} {u:Value} (r:R0 P G own w v u):R0 P G own w' v u:=by
 cases v with
 | ln n=>exact r
 | rf b o i n=>
   simp only [R0,SlV] at r ⊢
   cases hg:look G b (some o) with
   | none=>trivial
   | some x=>
     rw [hg] at r
     cases x with
     | own E l=>
       obtain ⟨e1,a,c,e2,e3,e4⟩:=r
       exact ⟨e1,a,c,e2,e3,e4.imp id fun ⟨k,e5,e6⟩=>⟨k,e5,e6.ck h⟩⟩
     | f x=>cases x with
       | sl l=>exact ⟨r.1,r.2.ck h⟩
       | _=>trivial
     | _=>trivial
 | ep b o i c=>
   simp only [R0,EpV] at r ⊢
   cases hg:look G b (some o) with
   | none=>trivial
   | some x=>
     rw [hg] at r
     cases x with
     | own E l=>obtain ⟨e1,k,c,e2,e3⟩:=r;exact ⟨e1,k,c,e2,e3.ck h⟩
     | f x=>cases x with
       | sl l=>obtain ⟨x,e1,e2⟩:=r;exact ⟨x,e1,RC.ck h e2⟩
       | _=>trivial
     | _=>trivial
 | clo g caps=>
   obtain ⟨arr,h1,h2,h3⟩:=r
   exact ⟨arr,h1,h2,fun j x y e1 e2=>RC.ck h (h3 j x y e1 e2)⟩
 | bad=>trivial
 | f x=>exact RC.ck (own:=own) (u:=u) (v:=.f x) h r
 | ptr b o=>exact RC.ck (own:=own) (u:=u) (v:=.ptr b o) h r
 | fp x o=>exact RC.ck (own:=own) (u:=u) (v:=.fp x o) h r
 | own E l=>exact RC.ck (own:=own) (u:=u) (v:=.own E l) h r
 | agg l=>exact RC.ck (own:=own) (u:=u) (v:=.agg l) h r
 | tup l=>exact RC.ck (own:=own) (u:=u) (v:=.tup l) h r
theorem RO.ck (h:CK w w') {b o:Nat} {v:AV} {u:Value} (r:RO P G own w b o v u):RO P G own w' b o v u:=by
 cases v with
 | own E l=>
   obtain ⟨a,c,h1,h2,h3⟩:=r
   exact ⟨a,c,h1,h2,h3.imp id fun ⟨k,e1,e2⟩=>⟨k,e1,e2.ck h⟩⟩
 | bad=>trivial
 | f x=>exact R0.ck (P:=P) (G:=G) (own:=own) (u:=u) (v:=.f x) h r
 | ptr b o=>exact R0.ck (P:=P) (G:=G) (own:=own) (u:=u) (v:=.ptr b o) h r
 | fp x o=>exact R0.ck (P:=P) (G:=G) (own:=own) (u:=u) (v:=.fp x o) h r
 | rf b o i n=>exact R0.ck (P:=P) (G:=G) (own:=own) (u:=u) (v:=.rf b o i n) h r
 | ep b o i n=>exact R0.ck (P:=P) (G:=G) (own:=own) (u:=u) (v:=.ep b o i n) h r
 | clo g caps=>exact R0.ck (P:=P) (G:=G) (own:=own) (u:=u) (v:=.clo g caps) h r
 | ln n=>exact r
 | agg l=>exact R0.ck (P:=P) (G:=G) (own:=own) (u:=u) (v:=.agg l) h r
 | tup l=>exact R0.ck (P:=P) (G:=G) (own:=own) (u:=u) (v:=.tup l) h r
theorem R1.ck (h:CK w w') {v:AV} {u:Value} (r:R1 P G own w v u):R1 P G own w' v u:=by
 cases v with
 | agg l=>
   obtain ⟨arr,h1,h2,h3⟩:=r
   exact ⟨arr,h1,h2,fun j x y e1 e2=>R0.ck h (h3 j x y e1 e2)⟩
 | bad=>trivial
 | f x=>exact R0.ck (P:=P) (G:=G) (own:=own) (u:=u) (v:=.f x) h r
 | ptr b o=>exact R0.ck (P:=P) (G:=G) (own:=own) (u:=u) (v:=.ptr b o) h r
 | fp x o=>exact R0.ck (P:=P) (G:=G) (own:=own) (u:=u) (v:=.fp x o) h r
 | rf b o i n=>exact R0.ck (P:=P) (G:=G) (own:=own) (u:=u) (v:=.rf b o i n) h r
 | ep b o i n=>exact R0.ck (P:=P) (G:=G) (own:=own) (u:=u) (v:=.ep b o i n) h r
 | clo g caps=>exact R0.ck (P:=P) (G:=G) (own:=own) (u:=u) (v:=.clo g caps) h r
 | ln n=>exact r
 | own E l=>exact R0.ck (P:=P) (G:=G) (own:=own) (u:=u) (v:=.own E l) h r
 | tup l=>exact R0.ck (P:=P) (G:=G) (own:=own) (u:=u) (v:=.tup l) h r
theorem RL.ck (h:CK w w') {b:Nat} {v:AV} {u:Value} (r:RL P G own w b v u):RL P G own w' b v u:=by
 cases v with
 | agg l=>
   obtain ⟨arr,h1,h2,h3⟩:=r
   exact ⟨arr,h1,h2,fun j x y e1 e2=>RO.ck h (h3 j x y e1 e2)⟩
 | tup l=>
   obtain ⟨arr,h1,h2,h3⟩:=r
   exact ⟨arr,h1,h2,fun j x y e1 e2=>R1.ck h (h3 j x y e1 e2)⟩
 | bad=>trivial
 | f x=>exact RO.ck (P:=P) (G:=G) (own:=own) (b:=b) (o:=0) (u:=u) (v:=.f x) h r
 | ptr b o=>exact RO.ck (P:=P) (G:=G) (own:=own) (b:=b) (o:=0) (u:=u) (v:=.ptr b o) h r
 | fp x o=>exact RO.ck (P:=P) (G:=G) (own:=own) (b:=b) (o:=0) (u:=u) (v:=.fp x o) h r
 | rf b o i n=>exact RO.ck (P:=P) (G:=G) (own:=own) (b:=b) (o:=0) (u:=u) (v:=.rf b o i n) h r
 | ep b o i n=>exact RO.ck (P:=P) (G:=G) (own:=own) (b:=b) (o:=0) (u:=u) (v:=.ep b o i n) h r
 | clo g caps=>exact RO.ck (P:=P) (G:=G) (own:=own) (b:=b) (o:=0) (u:=u) (v:=.clo g caps) h r
 | ln n=>exact r
 | own E l=>exact RO.ck (P:=P) (G:=G) (own:=own) (b:=b) (o:=0) (u:=u) (v:=.own E l) h r
theorem RB.ck (h:CK w w') {b:Nat} {v:AV} {arr:Array Value} (r:RB P G own w b v arr):RB P G own w' b v arr:=
 ⟨r.1,fun j x u e1 e2=>RO.ck h (r.2 j x u e1 e2)⟩
theorem St.ck {nt:Nat} {a:Act} (s:St P nt G own a w) (h:CK w w'):St P nt G own a w':=
 ⟨s.size,fun t v e=>let ⟨u,e1,e2⟩:=s.temps t v e;⟨u,e1,RL.ck h e2⟩,
  fun b v hb hm e=>let ⟨k,arr,T,e1,e2,e3⟩:=s.boxes b v hb hm e;⟨k,arr,T,e1,h.cells _ _ _ _ e2,RB.ck h e3⟩,
  fun b v hm e=>let ⟨k,es,ck,e1,e2,e3⟩:=s.maps b v hm e;⟨k,es,ck,e1,h.maps _ _ _ e2,e3.ck h⟩,
  fun b v hm e=>let ⟨e1,u,e2⟩:=s.ghosts b v hm e;⟨e1,u,RO.ck h e2⟩,
  s.one,fun k o e=>Nat.lt_of_lt_of_le (s.lt k o e) h.size⟩
end
def mark (D:Nat):Deferred:={ target:=.collected D,args:=#[] }
def Mks (w:World) (own':Own) (w':World) (a a':Act):Prop:=
 ∃ ds:List Nat,a'.defers=ds.map mark++a.defers∧ds.Nodup∧∀ D∈ds,w.heap.size≤D∧own' D=none∧w'.heap[D]?=some (Obj.deferred (some []))
theorem Mks.same {w w':World} {own':Own} {a a':Act} (h:a'.defers=a.defers):Mks w own' w' a a':=⟨[],by simpa using h,List.nodup_nil,fun D h=>by simp at h⟩
theorem Mks.trans {own own1 own2:Own} {w w1 w2:World} {a a1 a2:Act} (h:Mks w own1 w1 a a1) (t1:Tr own w own1 w1) (t2:Tr own1 w1 own2 w2) (k:Mks w1 own2 w2 a1 a2):Mks w own2 w2 a a2:=by
 obtain ⟨d1,e1,n1,h1⟩:=h
 obtain ⟨d2,e2,n2,h2⟩:=k
 have lt1:∀ D∈d1,D < w1.heap.size:=fun D hD=>(Array.getElem?_eq_some_iff.1 (h1 D hD).2.2).1
 refine ⟨d2++d1,by rw [e2,e1];simp,List.nodup_append.2 ⟨n2,n1,fun x hx y hy e=>?_⟩,fun D hD=>?_⟩
 ·have:=lt1 y hy;have:=(h2 x hx).1;omega
 ·rcases List.mem_append.1 hD with hD | hD
  ·obtain ⟨q1,q2,q3⟩:=h2 D hD
   exact ⟨Nat.le_trans t1.size q1,q2,q3⟩
  ·obtain ⟨q1,q2,q3⟩:=h1 D hD
   obtain ⟨r1,r2⟩:=t2.keep D (lt1 D hD) q2
   exact ⟨q1,r1,by rw [r2];exact q3⟩
theorem Mks.tr {own1 own2:Own} {w w1:World} {a a1:Act} (h:Mks w own1 w1 a a1) (t:Tr own1 w1 own2 w1):Mks w own2 w1 a a1:=by
 obtain ⟨d1,e1,n1,h1⟩:=h
 refine ⟨d1,e1,n1,fun D hD=>?_⟩
 obtain ⟨q1,q2,q3⟩:=h1 D hD
 exact ⟨q1,(t.keep D (Array.getElem?_eq_some_iff.1 q3).1 q2).1,q3⟩
theorem CK.put {w:World} {D:Nat} {o o':Obj} (h:w.heap[D]?=some o) (hc:∀ arr T z,o≠Obj.cells arr T z) (hc2:∀ es ck,o≠Obj.map es ck):CK w (w.putObj D o'):=
 ⟨by simp [World.putObj],fun k arr T z e=>by
   have:k≠D:=by rintro rfl;rw [h] at e;cases e;exact hc _ _ _ rfl
   rw [World.putObj_heap_other this];exact e,fun k es ck e=>by
   have:k≠D:=by rintro rfl;rw [h] at e;cases e;exact hc2 _ _ rfl
   rw [World.putObj_heap_other this];exact e⟩
theorem zeQ {F:Fence} {n:Nat} {fn:Func} {R:Ending→World→Prop} {tmps:Array Value}:∀ (ds:List Nat) (w:World),ds.Nodup→(∀ D∈ds,w.heap[D]?=some (Obj.deferred (some [])))→
 (∀ w2,CK w w2→w2.os=w.os→w2.tape=w.tape→w2.output=w.output→(∀ k,k∉ds→w2.heap[k]?=w.heap[k]?)→∃ v,(results fn tmps).run P w2=.ok v w2∧R (.returned v) w2)→
 LeavesInM F n P fn tmps R (ds.map mark) .returning w
 | [],w,_,_,h=>h w (CK.refl w) rfl rfl rfl (fun _ _=>rfl)
 | D :: ds,w,hn,hd,h=>by
   obtain ⟨hn1,hn2⟩:=List.nodup_cons.1 hn
   have h0:=hd D (List.mem_cons_self ..)
   refine ⟨by simp,.inl ⟨D,_,rfl,run_takeDeferred h0,?_⟩⟩
   have hck:CK w (w.putObj D (Obj.deferred none)):=CK.put h0 (fun _ _ _ e=>by cases e) (fun _ _ e=>by cases e)
   refine zeQ ds _ hn2 (fun E hE=>?_) (fun w2 k1 k2 k3 k4 k5=>h w2 (hck.trans k1) k2 k3 k4 fun k hk=>?_)
   ·rw [World.putObj_heap_other (by rintro rfl;exact hn1 hE)];exact hd E (List.mem_cons_of_mem _ hE)
   ·rw [k5 k (fun hm=>hk (List.mem_cons_of_mem _ hm)),World.putObj_heap_other (by rintro rfl;exact hk (List.mem_cons_self ..))]
end Go.Ev
namespace Go.Ev
open Go Go.RowKit
variable {P : Program}
structure COk (P:Program) (c:Cfg):Prop where
 cfg:CfgOk P c
 ip:IpsOk P c
 ro:P.follows .mixedOrders=true
def Wk (P:Program) (nt:Nat) (G G':Sta):Prop:=∀ own a w,St P nt G own a w→∃ own',St P nt G' own' a w∧Tr own w own' w
theorem Wk.refl {nt:Nat} {G:Sta}:Wk P nt G G:=fun own a w s=>⟨own,s,Tr.refl _ _⟩
theorem Wk.trans {nt:Nat} {G1 G2 G3:Sta} (h:Wk P nt G1 G2) (k:Wk P nt G2 G3):Wk P nt G1 G3:=by
 intro own a w s
 obtain ⟨o2,s2,t2⟩:=h own a w s
 obtain ⟨o3,s3,t3⟩:=k o2 a w s2
 exact ⟨o3,s3,t2.trans t3⟩
theorem Wk.drop {nt:Nat} {G:Sta} (d:Nat→Bool):Wk P nt G (dropN d G):=fun own a w s=>⟨own,s.drop d,Tr.refl _ _⟩
theorem Wk.frz {nt:Nat} {G:Sta} (b o:Nat):Wk P nt G ((Up.frz b o).app G):=fun own a w s=>by
 have:=s.frz b o
 exact ⟨_,this.1,this.2.tr⟩
def keepN (l:List Nat) (G:Sta):Sta:=dropN (fun b=>!l.contains b) G
def frzs:List (Nat×Nat)→Sta→Sta
 | [],G=>G
 | (b,o) :: r,G=>frzs r ((Up.frz b o).app G)
def tidy (fz:List (Nat×Nat)) (keep:List Nat) (G:Sta):Sta:=keepN keep (frzs fz G)
theorem Wk.frzs {nt:Nat}:∀ {fz:List (Nat×Nat)} {G:Sta},Wk P nt G (frzs fz G)
 | [],G=>Wk.refl
 | (b,o) :: r,G=>(Wk.frz b o).trans Wk.frzs
theorem Wk.tidy {nt:Nat} {fz:List (Nat×Nat)} {keep:List Nat} {G:Sta}:Wk P nt G (tidy fz keep G):=Wk.frzs.trans (Wk.drop _)
theorem Wk.eq {nt:Nat} {fz:List (Nat×Nat)} {keep:List Nat} {G G':Sta} (h:Ev.tidy fz keep G=G'):Wk P nt G G':=by rw [← h];exact Wk.tidy
def WideC (P:Program) (c:Cfg) (F:Fence):Prop:=WideF P F∧(c.rnd=false→F.round=none)
def Sem (P:Program) (c:Cfg) (x:Code) (G:Sta) (K:Ex→Sta→Prop):Prop:=
 ∀ (own:Own) (a:Act) (w:World) (F:Fence) (n:Nat) (Q:Exit→Act→World→Prop),WideC P c F→St P c.nt G own a w→
   (∀ e G' own' a' w',K e G'→St P c.nt G' own' a' w'→Tr own w own' w'→Mks w own' w' a a'→Q e.to a' w')→x.wpIn F n P Q a w
section
variable {c : Cfg} {G G' : Sta} {K K' : Ex → Sta → Prop} {x y z : Code}
theorem Sem.mono (h:Sem P c x G K) (hk:∀ e G',K e G'→K' e G'):Sem P c x G K':=fun own a w F n Q hF s hQ=>
 h own a w F n Q hF s fun e G' own' a' w' k s' t' d'=>hQ e G' own' a' w' (hk e G' k) s' t' d'
theorem Sem.weak (hw:Wk P c.nt G G') (h:Sem P c x G' K):Sem P c x G K:=fun own a w F n Q hF s hQ=>by
 obtain ⟨own',s',t'⟩:=hw own a w s
 exact h own' a w F n Q hF s' fun e G2 own2 a2 w2 k s2 t2 d2=>hQ e G2 own2 a2 w2 k s2 (t'.trans t2) d2
theorem Sem.skip (hw:Wk P c.nt G G') (h:K .normal G'):Sem P c .skip G K:=fun own a w F n Q hF s hQ=>by
 obtain ⟨own',s',t'⟩:=hw own a w s
 exact wpIn_skip (hQ .normal G' own' a w h s' t' (.same rfl))
theorem Sem.label {l:Nat} (hw:Wk P c.nt G G') (h:K .normal G'):Sem P c (.label l) G K:=fun own a w F n Q hF s hQ=>by
 obtain ⟨own',s',t'⟩:=hw own a w s
 exact wpIn_label (hQ .normal G' own' a w h s' t' (.same rfl))
theorem Sem.exit {i:Nat} (hw:Wk P c.nt G G') (h:K (.exit i) G'):Sem P c (.exit i) G K:=fun own a w F n Q hF s hQ=>by
 obtain ⟨own',s',t'⟩:=hw own a w s
 exact wpIn_exit (hQ (.exit i) G' own' a w h s' t' (.same rfl))
theorem Sem.ret (hw:Wk P c.nt G G') (h:K .ret G'):Sem P c .ret G K:=fun own a w F n Q hF s hQ=>by
 obtain ⟨own',s',t'⟩:=hw own a w s
 exact wpIn_ret (hQ .ret G' own' a w h s' t' (.same rfl))
theorem Sem.seq (h:Sem P c x G (seqK K fun G'=>Sem P c y G' K)):Sem P c (.seq x y) G K:=fun own a w F n Q hF s hQ=>by
 refine wpIn_seq (h own a w F n _ hF s ?_)
 intro e G' own' a' w' hk s' t' d'
 cases e with
 | normal=>exact hk own' a' w' F n Q hF s' fun e2 G2 own2 a2 w2 hk2 s2 t2 d2=>hQ e2 G2 own2 a2 w2 hk2 s2 (t'.trans t2) (d'.trans t' t2 d2)
 | exit id=>exact hQ _ G' own' a' w' hk s' t' d'
 | ret=>exact hQ _ G' own' a' w' hk s' t' d'
theorem Sem.cond {t:Nat} {b:Bool} (hg:get G (tb t)=some (.f (.pv (.bool b)))) (h1:b=true→Sem P c y G K) (h2:b=false→Sem P c z G K):Sem P c (.cond (.tmp t) y z) G K:=fun own a w F n Q hF s hQ=>by
 refine wpIn_cond (zbt (P:=P) (G:=G) (own:=own) (w:=w) (s.temp hg)) ?_
 cases b with
 | true=>exact h1 rfl own a w F n Q hF s hQ
 | false=>exact h2 rfl own a w F n Q hF s hQ
theorem Sem.condc {b:Bool} (h1:b=true→Sem P c y G K) (h2:b=false→Sem P c z G K):Sem P c (.cond (.const (.bool b)) y z) G K:=fun own a w F n Q hF s hQ=>by
 have hb:a.eval (.const (.bool b))=.bool b:=rfl
 refine wpIn_cond hb ?_
 cases b with
 | true=>exact h1 rfl own a w F n Q hF s hQ
 | false=>exact h2 rfl own a w F n Q hF s hQ
theorem Sem.block {id:Nat} (h:Sem P c x G (blockK id K)):Sem P c (.block id x) G K:=fun own a w F n Q hF s hQ=>by
 refine wpIn_block (h own a w F n _ hF s ?_)
 intro e G' own' a' w' hk s' t' d'
 cases e with
 | normal=>exact hQ _ G' own' a' w' hk s' t' d'
 | ret=>exact hQ _ G' own' a' w' hk s' t' d'
 | exit j=>
   simp only [blockK] at hk
   simp only [Ex.to,Exit.inBlock]
   split at hk
   ·rename_i e;rw [if_pos e];exact hQ .normal G' own' a' w' hk s' t' d'
   ·rename_i e;rw [if_neg e];exact hQ (.exit j) G' own' a' w' hk s' t' d'
theorem Sem.loop {σ:Type} (st:σ→Sta) (Inv:σ→Prop) (μ:σ→Nat) (s0:σ) (h0:Wk P c.nt G (st s0)) (hI:Inv s0)
 (step:∀ s,Inv s→Sem P c x (st s) (seqK K fun G'=>∃ s',Wk P c.nt G' (st s')∧Inv s'∧μ s' < μ s)):Sem P c (.loop x) G K:=fun own a w F n Q hF s hQ=>by
 have ex:∀ a' w',(∃ m s own',m=μ s∧Inv s∧St P c.nt (st s) own' a' w'∧Tr own w own' w'∧Mks w own' w' a a')→∃ m,(∃ s own',m=μ s∧Inv s∧St P c.nt (st s) own' a' w'∧Tr own w own' w'∧Mks w own' w' a a')∧
  ∀ m',m' < m→¬ ∃ s own',m'=μ s∧Inv s∧St P c.nt (st s) own' a' w'∧Tr own w own' w'∧Mks w own' w' a a':=by
  rintro a' w' ⟨m,hm⟩
  induction m using Nat.strongRecOn with
  | _ m ih=>
    by_cases hlt:∃ m',m' < m∧∃ s own',m'=μ s∧Inv s∧St P c.nt (st s) own' a' w'∧Tr own w own' w'∧Mks w own' w' a a'
    ·obtain ⟨m',h1,h2⟩:=hlt;exact ih m' h1 h2
    ·exact ⟨m,hm,fun m' h1 h2=>hlt ⟨m',h1,h2⟩⟩
 classical
 let J:Act→World→Prop:=fun a' w'=>∃ m s own',m=μ s∧Inv s∧St P c.nt (st s) own' a' w'∧Tr own w own' w'∧Mks w own' w' a a'
 let ν:Act→World→Nat:=fun a' w'=>if h:J a' w' then (ex a' w' h).choose else 0
 obtain ⟨own0,st0,t0⟩:=h0 own a w s
 refine wpIn_loop J ν ⟨_,s0,own0,rfl,hI,st0,t0,.same rfl⟩ ?_
 intro a1 w1 hJ
 have hν:ν a1 w1=(ex a1 w1 hJ).choose:=by simp only [ν];rw [dif_pos hJ]
 obtain ⟨⟨s1,own1,m1,i1,st1,t1,d1⟩,_⟩:=(ex a1 w1 hJ).choose_spec
 refine step s1 i1 own1 a1 w1 F n _ hF st1 ?_
 intro e G' own' a' w' hk s' t' d'
 cases e with
 | exit id=>exact hQ _ G' own' a' w' hk s' (t1.trans t') (d1.trans t1 t' d')
 | ret=>exact hQ _ G' own' a' w' hk s' (t1.trans t') (d1.trans t1 t' d')
 | normal=>
   obtain ⟨s2,hw,hi',hlt⟩:=hk
   obtain ⟨own2,st2,t2⟩:=hw own' a' w' s'
   have hJ':J a' w':=⟨_,s2,own2,rfl,hi',st2,(t1.trans t').trans t2,(d1.trans t1 t' d').tr t2⟩
   refine ⟨hJ',?_⟩
   have hν':ν a' w'=(ex a' w' hJ').choose:=by simp only [ν];rw [dif_pos hJ']
   rw [hν,hν',m1]
   refine Nat.lt_of_le_of_lt (Nat.le_of_not_lt fun hlt'=>?_) hlt
   exact (ex a' w' hJ').choose_spec.2 _ hlt' ⟨s2,own2,rfl,hi',st2,(t1.trans t').trans t2,(d1.trans t1 t' d').tr t2⟩
end
section
variable {c : Cfg} {ops : Array Oper}
theorem zj8 {draw:Bool}:∀ (r:List Oper) {p:List Oper} {log log':List Lg} {G G':Sta} {q:List Ora} {obs:List Prop},ops.toList=p++r→evOps (CallE P) c ops draw r p.length log G q=some (obs,log',G')→AllP obs→
 ∃ es,es.map (·.i)=List.range' p.length r.length∧Runs (CallE P) (stepRM c ops) es G G'∧(draw=true→log'=log++es.map Ent.lg)
 | [],p,log,log',G,G',q,obs,hp,h,ho=>by
   unfold evOps at h
   split at h
   ·simp only [Option.some.injEq,Prod.mk.injEq] at h;obtain ⟨rfl,rfl,rfl⟩:=h;exact ⟨[],rfl,rfl,fun _=>by simp⟩
   ·cases h
 | o :: r,p,log,log',G,G',q,obs,hp,h,ho=>by
   have hop:ops[p.length]?=some o:=by
    rw [← Array.getElem?_toList,hp,List.getElem?_append_right (Nat.le_refl _)];simp
   unfold evOps at h
   split at h
   ·rename_i obs1 q' U T h1
    split at h
    ·rename_i obs2 log2 G2 h2
     simp only [Option.some.injEq,Prod.mk.injEq] at h
     obtain ⟨rfl,rfl,rfl⟩:=h
     obtain ⟨ho1,ho2⟩:=zes ho
     have hl:(p++[o]).length=p.length+1:=by simp
     rw [← hl] at h2
     obtain ⟨es,e1,e2,e3⟩:=zj8 r (p:=p++[o]) (by rw [hp];simp) h2 ho2
     refine ⟨⟨p.length,U,T⟩ :: es,by simp [e1,List.range'_succ],⟨?_,e2⟩,fun hd=>?_⟩
     ·rw [zfe hop]
      exact le_guard _ _ _ _ (RM2.ev_wp _ h1 ho1 ⟨rfl,rfl⟩)
     ·subst hd
      rw [e3 rfl];simp [Ent.lg,Ent.reads]
    ·cases h
   ·cases h
def evReg (P:Program) (c:Cfg) (x:Code) (q:List Ora) (fz:List (Nat×Nat)) (keep:List Nat) (G:Sta):Option (List Prop×Sta):=
 match x with
 | .region _ ops draw=>match evOps (CallE P) c ops draw ops.toList 0 [] G q with
   | some (obs,log,G')=>match draw with
     | true=>match topo ops && (ancOk ops (tabOf ops) && logOk (tabOf ops) log) with
       | true=>some (obs,tidy fz keep G')
       | false=>none
     | false=>some (obs,tidy fz keep G')
   | none=>none
 | _=>none
theorem Sem.region (hc:COk P c) {x:Code} {q:List Ora} {fz:List (Nat×Nat)} {keep:List Nat} {G G':Sta} {obs:List Prop} {K:Ex→Sta→Prop} (h:evReg P c x q fz keep G=some (obs,G')) (ho:AllP obs) (hk:K .normal G'):Sem P c x G K:=by
 intro own a w F n Q hF s hQ
 unfold evReg at h
 split at h
 ·rename_i id ops draw
  split at h
  ·rename_i obs' log G1 hev
   have hev':obs'=obs∧tidy fz keep G1=G'∧(draw=true→topo ops=true∧ancOk ops (tabOf ops)=true∧logOk (tabOf ops) log=true):=by
    cases draw with
    | true=>
      dsimp only at h
      split at h
      ·rename_i hb
       simp only [Bool.and_eq_true] at hb
       simp only [Option.some.injEq,Prod.mk.injEq] at h
       exact ⟨h.1,h.2,fun _=>hb⟩
      ·cases h
    | false=>
      simp only [Option.some.injEq,Prod.mk.injEq] at h
      exact ⟨h.1,h.2,fun h=>by cases h⟩
   obtain ⟨rfl,rfl,hd⟩:=hev'
   obtain ⟨es,e1,e2,e3⟩:=zj8 (P:=P) (p:=[]) _ rfl hev ho
   have e1:es.map (·.i)=List.range ops.size:=by rw [e1,List.range_eq_range'];simp
   have hlt:∀ x∈es,x.i < ops.size:=fun x hx=>by
    have:x.i∈es.map (·.i):=List.mem_map.2 ⟨x,hx,rfl⟩
    rw [e1] at this;exact List.mem_range.1 this
   have fin:∀ own' a' w',St P c.nt G1 own' a' w'→Tr own w own' w'→a'.defers=a.defers→Q .normal a' w':=by
    intro own' a' w' s' t' d'
    obtain ⟨own2,s2,t2⟩:=(Wk.tidy (P:=P) (fz:=fz) (keep:=keep)) own' a' w' s'
    exact hQ .normal _ own2 a' w' hk s2 (t'.trans t2) (.same d')
   cases draw with
   | true=>
     obtain ⟨htopo,htab,hlog⟩:=hd rfl
     obtain ⟨s1,t1⟩:=s.drawn (w.drawn+1)
     refine wpIn_region_any hc.ro ?_
     refine runs_any hc.cfg hc.ip (fun _ _ _ _ _ h=>h) hF.1 htopo ops.size es (by have:=congrArg List.length e1;simp at this;omega) (by simp) ?_ ?_ hlt (by rw [e1];exact List.pairwise_lt_range) (zfU htopo htab hlt (by rw [e3 rfl,List.nil_append] at hlog;exact hlog)) s1 e2
      (fun own' a' w' s' t' d'=>fin own' a' w' s' (t1.trans t') d')
     ·intro i o ho hl
      have hi:=(Array.getElem?_eq_some_iff.1 ho).1
      simp [Array.getD_eq_getD_getElem?,hi] at hl
     ·intro i hi
      rw [e1];simp [Array.getD_eq_getD_getElem?,hi]
   | false=>
     refine wpIn_region ?_
     rw [← e1]
     exact ziA hc.cfg hc.ip (fun _ _ _ _ _ h=>h) hF.1 es s e2 fin
  ·cases h
 ·cases h
end
def evOuts:Nat→Nat→Sta→Option (List AV)
 | 0,_,_=>some []
 | n+1,i,G=>match get G (ob i) with
   | some v=>match evOuts n (i+1) G with
     | some l=>some (v :: l)
     | none=>none
   | none=>none
theorem zeo {G:Sta}:∀ {n i:Nat} {l:List AV} {K:List AV→Prop},evOuts n i G=some l→K l→outsOf n i G K
 | 0,i,l,K,h,hk=>by simp only [evOuts,Option.some.injEq] at h;subst h;exact hk
 | n+1,i,l,K,h,hk=>by
   unfold evOuts at h
   split at h
   ·rename_i v hv
    split at h
    ·rename_i l' hl
     simp only [Option.some.injEq] at h;subst h
     exact ⟨v,hv,zeo hl hk⟩
    ·cases h
   ·cases h
def evEnd (P:Program) (c:Cfg) (rs:List ResultVar) (n:Nat) (G:Sta):Option (AV×List AV):=
 match (resRM c rs).ev (CallE P) G [] [] with
 | some ([],_,.set _ x :: W,_)=>match evOuts n 0 (app W G) with
   | some l=>some (x,l)
   | none=>none
 | _=>none
theorem RM.ev_wq {CE:CEx} {G:Sta}:∀ (m:RM) {T:List Acc} {q q':List Ora} {obs:List Prop} {U:List Up} {T':List Acc} {K:List Up→Prop},
 m.ev CE G T q=some (obs,q',U,T')→AllP obs→K U→m.wq CE G K
 | .ret U,T,q,q',obs,U',T',K,h,ho,hk=>by simp only [RM.ev,Option.some.injEq,Prod.mk.injEq] at h;obtain ⟨rfl,rfl,rfl,rfl⟩:=h;exact hk
 | .fail,T,q,q',obs,U',T',K,h,ho,hk=>by cases h
 | .ask b o k,T,q,q',obs,U',T',K,h,ho,hk=>by
   simp only [RM.ev] at h
   split at h
   ·rename_i v hv
    split at h
    ·rename_i hok
     simp only [RM.wq,hv];exact ⟨hok,RM.ev_wq _ h ho hk⟩
    ·cases h
   ·cases h
 | .peek b k,T,q,q',obs,U',T',K,h,ho,hk=>by
   simp only [RM.ev] at h
   split at h
   ·rename_i v hv;simp only [RM.wq,hv];exact RM.ev_wq _ h ho hk
   ·cases h
 | .call g args outs k,T,q,q',obs,U',T',K,h,ho,hk=>by
   unfold RM.ev at h
   split at h
   ·obtain ⟨o,h1,rfl⟩:=zbV h;exact ⟨_,_,ho.1,RM.ev_wq _ h1 ho.2 hk⟩
   ·cases h
theorem zcI {c:Cfg} {rs:List ResultVar} {n:Nat} {G:Sta} {x:AV} {l:List AV} {R:AV→List AV→Prop} (h:evEnd P c rs n G=some (x,l)) (hR:R x l):endK (CallE P) c rs n R .ret G∧endK (CallE P) c rs n R .normal G:=by
 have key:(resRM c rs).wq (CallE P) G (endU n R G):=by
  unfold evEnd at h
  split at h
  ·rename_i hev
   split at h
   ·rename_i hl
    simp only [Option.some.injEq,Prod.mk.injEq] at h
    obtain ⟨rfl,rfl⟩:=h
    exact RM.ev_wq _ hev trivial (zeo hl hR)
   ·cases h
  ·cases h
 exact ⟨key,key⟩
theorem end_marks {c:Cfg} {fn:Func} {F:Fence} {n:Nat} {own:Own} {a a':Act} {w w':World} {G':Sta} {own':Own} {r:AV} {outs outs':List AV} (hc:COk P c) (ha:a.defers=[])
 (s':St P c.nt G' own' a' w') (t':Tr own w own' w') (d':Mks w own' w' a a') {m:Nat}
 (hk:(resRM c fn.results.toList).wp (CallE P) G' [] (fun U _=>endU m (fun r' o'=>r'=r∧o'=outs') G' U)) :
 LeavesInM F n P fn a'.tmps (fun e w'=>∃ u own',e=.returned u∧Tr own w own' w'∧Outs P own' w' outs'∧resR P own' w' r u) a'.defers .returning w':=by
 obtain ⟨ds,e1,n1,h1⟩:=d'
 rw [e1,ha,List.append_nil]
 refine zeQ ds w' n1 (fun D hD=>(h1 D hD).2.2) ?_
 intro w2 ck k2 k3 k4 k5
 have t2:Tr own w own' w2:=⟨Nat.le_trans t'.size ck.size,fun k hk ho=>by
  obtain ⟨q1,q2⟩:=t'.keep k hk ho
  exact ⟨q1,(k5 k fun hm=>absurd (h1 k hm).1 (by omega)).trans q2⟩,k2.trans t'.os,k3.trans t'.tape,k4.trans t'.output,fun k o ho=>by
  obtain ⟨q1,q2⟩:=t'.al k o ho
  exact ⟨q1,(k5 k fun hm=>by have:=(h1 k hm).2.1;rw [q1] at this;cases this).trans q2⟩,t'.bx⟩
 obtain ⟨u,q1,own2,r',o',⟨rfl,rfl⟩,t3,ho2,hr⟩:=end_sound hc.cfg (s'.ck ck) hk
 exact ⟨u,q1,u,own2,rfl,t2.trans t3,ho2,hr⟩
end Go.Ev
namespace Go.Ev
open Go Go.RowKit
variable {P : Program}
abbrev vI (k:IntKind) (n:Int):AV:=.f (.pv (.int k n))
abbrev vi (n:Int):AV:=.f (.pv (.int .i64 n))
abbrev vB (b:Bool):AV:=.f (.pv (.bool b))
abbrev vS (s:ByteArray):AV:=.f (.pv (.string s))
abbrev vL {α:Type} (enc:α→FV) (l:List α):AV:=.f (.sl (List.map enc l))
abbrev oL {α:Type} (E:TypeId) (enc:α→FV) (l:List α):AV:=.own E (List.map enc l)
abbrev fi (n:Int):FV:=.pv (.int .i64 n)
abbrev fB (b:Bool):FV:=.pv (.bool b)
abbrev fL {α:Type} (enc:α→FV) (l:List α):FV:=.sl (List.map enc l)
abbrev gd {α:Type} [Inhabited α] (l:List α) (i:Int):α:=List.getD l (Int.toNat i) default
abbrev w64 (n:Int):Int:=IntKind.wrap .i64 n
def sq1:Code→Code
 | .seq a _=>a
 | .block _ a=>a
 | .loop a=>a
 | .cond _ a _=>a
 | .rangeFunc _ _ a _=>a
 | x=>x
def sq2:Code→Code
 | .seq _ b=>b
 | .cond _ _ b=>b
 | .rangeFunc _ _ _ b=>b
 | x=>x
def bodyOf (f:Func):Code:=match f.body with
 | some x=>x
 | none=>.skip
def tabTI:List (Nat×TI)→Nat→Option TI
 | [],_=>none
 | (a,i) :: r,t=>match Nat.beq a t with
   | true=>some i
   | false=>tabTI r t
theorem zgj:∀ {l:List (Nat×TI)} {t:Nat} {i:TI},tabTI l t=some i→(t,i)∈l
 | [],t,i,h=>by cases h
 | (a,j) :: r,t,i,h=>by
   unfold tabTI at h
   split at h
   ·rename_i e
    simp only [Option.some.injEq] at h;subst h
    rw [Nat.eq_of_beq_eq_true e];exact List.mem_cons_self ..
   ·exact List.mem_cons_of_mem _ (zgj h)
def TabOk (P:Program):List (Nat×TI)→Prop
 | []=>True
 | (t,i) :: r=>tiOf P t=some i∧TabOk P r
theorem zgk:∀ {l:List (Nat×TI)},TabOk P l→∀ p∈l,tiOf P p.1=some p.2
 | [],_,p,h=>by cases h
 | (t,i) :: r,h,p,hp=>by
   rcases List.mem_cons.1 hp with rfl | hp
   ·exact h.1
   ·exact zgk h.2 p hp
theorem zch {c c':Cfg} (h:IpsOk P c) (e:c'.ip=c.ip) (e2:c'.gr=c.gr) (e3:c'.eqT=c.eqT) (e4:c'.nw=c.nw):IpsOk P c':=⟨fun g f back hg=>h.1 g f back (by rw [← e];exact hg),fun g E hg=>h.2.1 g E (by rw [← e2];exact hg),fun t ht=>h.2.2.1 t (by rw [← e3];exact ht),fun g f hg=>h.2.2.2 g f (by rw [← e4];exact hg)⟩
def Cfg.own (c:Cfg):Cfg:={ c with ownR:=true }
theorem COk.own {c:Cfg} (h:COk P c):COk P c.own:=⟨h.cfg,zch h.ip rfl rfl rfl rfl,h.ro⟩
def Cfg.wt (c:Cfg) (l:List Nat):Cfg:={ c with tk:=fun t=>l.contains t }
theorem COk.wt {c:Cfg} (h:COk P c) (l:List Nat):COk P (c.wt l):=⟨h.cfg,zch h.ip rfl rfl rfl rfl,h.ro⟩
def Cfg.wv (c:Cfg) (l:List Nat):Cfg:={ c with vs:=fun t=>l.contains t }
theorem COk.wv {c:Cfg} (h:COk P c) (l:List Nat):COk P (c.wv l):=⟨h.cfg,zch h.ip rfl rfl rfl rfl,h.ro⟩
theorem COk.withAp {c:Cfg} (h:COk P c) (ap:FuncId→Bool):COk P { c with ap:=ap }:=⟨h.cfg,zch h.ip rfl rfl rfl rfl,h.ro⟩
def mkCfgN (tab:List (Nat×TI)) (ip:FuncId→Option ((List FV→Option (List FV))×Bool)) (gr:FuncId→Option TypeId) (eq:TypeId→Bool) (nw:FuncId→Option (List AV→Option AV)) (mv:List Nat) (nt:Nat):Cfg:={ ti:=tabTI tab,mv:=fun t=>mv.contains t,nt:=nt,dead:=fun _=>false,deadL:=fun _=>false,ip:=ip,gr:=gr,eqT:=eq,nw:=nw }
theorem mkCfgN_ok {tab:List (Nat×TI)} {mv:List Nat} {nt:Nat} {ip:FuncId→Option ((List FV→Option (List FV))×Bool)} {gr:FuncId→Option TypeId} {eq:TypeId→Bool} {nw:FuncId→Option (List AV→Option AV)} (ht:TabOk P tab) (hro:P.follows .mixedOrders=true) (hi:IpsOk P (mkCfgN tab ip gr eq nw [] 0)):COk P (mkCfgN tab ip gr eq nw mv nt):=
 ⟨fun t i h=>tiOf_ok (zgk ht _ (zgj h)),zch hi rfl rfl rfl rfl,hro⟩
section
variable {c : Cfg} {G G' : Sta} {K : Ex → Sta → Prop} {x : Code}
theorem Sem.seq' (e:x=.seq (sq1 x) (sq2 x)) (h:Sem P c (sq1 x) G (seqK K fun G'=>Sem P c (sq2 x) G' K)):Sem P c x G K:=by
 rw [e];exact Sem.seq h
theorem Sem.seqR (hc:COk P c) {q:List Ora} {fz:List (Nat×Nat)} {keep:List Nat} {G':Sta} {obs:List Prop} (e:x=.seq (sq1 x) (sq2 x)) (h:evReg P c (sq1 x) q fz keep G=some (obs,G')) (ho:AllP obs) (hk:Sem P c (sq2 x) G' K):Sem P c x G K:=by
 rw [e];exact Sem.seq (Sem.region hc h ho hk)
theorem Sem.cond' {t:Nat} {b:Bool} (e:x=.cond (.tmp t) (sq1 x) (sq2 x)) (hg:get G (tb t)=some (.f (.pv (.bool b)))) (h1:b=true→Sem P c (sq1 x) G K) (h2:b=false→Sem P c (sq2 x) G K):Sem P c x G K:=by
 rw [e];exact Sem.cond hg h1 h2
theorem Sem.block' {id:Nat} (e:x=.block id (sq1 x)) (h:Sem P c (sq1 x) G (blockK id K)):Sem P c x G K:=by
 rw [e];exact Sem.block h
theorem Sem.exit' {i:Nat} (e:x=.exit i) (hw:Wk P c.nt G G') (h:K (.exit i) G'):Sem P c x G K:=by
 rw [e];exact Sem.exit hw h
theorem Sem.ret' (e:x=.ret) (hw:Wk P c.nt G G') (h:K .ret G'):Sem P c x G K:=by
 rw [e];exact Sem.ret hw h
theorem Sem.skip' (e:x=.skip) (hw:Wk P c.nt G G') (h:K .normal G'):Sem P c x G K:=by
 rw [e];exact Sem.skip hw h
theorem Sem.loop' {σ:Type} (e:x=.loop (sq1 x)) (st:σ→Sta) (Inv:σ→Prop) (μ:σ→Nat) (s0:σ) (h0:Wk P c.nt G (st s0)) (hI:Inv s0)
 (step:∀ s,Inv s→Sem P c (sq1 x) (st s) (seqK K fun G'=>∃ s',Wk P c.nt G' (st s')∧Inv s'∧μ s' < μ s)):Sem P c x G K:=by
 rw [e];exact Sem.loop st Inv μ s0 h0 hI step
end
theorem getElem?_map_getD {α β:Type} [Inhabited α] (f:α→β) (l:List α) (i:Nat) (h:i < l.length):(l.map f)[i]?=some (f (l.getD i default)):=by
 rw [List.getElem?_map,List.getElem?_eq_getElem h];simp [List.getD,List.getElem?_eq_getElem h]
theorem zbu {α:Type} [Inhabited α] (f:α→FV) (l:List α) (i:Int) (y:FV) (hy:f (l.getD i.toNat default)=y) (h0:0≤i) (h:i < l.length):(l.map f)[i.toNat]?=some y:=by
 rw [getElem?_map_getD f l i.toNat (by omega),hy]
theorem zbM {α:Type} [Inhabited α] (f:α→FV) (l:List α) (i:Nat) (y:FV) (hy:f (l.getD i default)=y) (h:i < l.length):(l.map f)[i]?=some y:=by
 rw [getElem?_map_getD f l i h,hy]
section
variable {c : Cfg} {G G' : Sta} {K : Ex → Sta → Prop} {x : Code}
theorem Sem.seqJ {σ:Type} (J:σ→Prop) (st:σ→Sta) (e:x=.seq (sq1 x) (sq2 x)) (h2:∀ s,J s→Sem P c (sq2 x) (st s) K)
 (h1:Sem P c (sq1 x) G (seqK K fun G'=>∃ s,Wk P c.nt G' (st s)∧J s)):Sem P c x G K:=by
 rw [e]
 refine Sem.seq (h1.mono fun e G' h=>?_)
 cases e with
 | normal=>
   obtain ⟨s,hw,hj⟩:=h
   exact Sem.weak hw (h2 s hj)
 | exit id=>exact h
 | ret=>exact h
end
section
variable {c : Cfg} {G : Sta} {K : Ex → Sta → Prop} {x : Code}
theorem Sem.cast {S S':Sta} (e:S=S') (h:Sem P c x S K):Sem P c x S' K:=e▸h
theorem kcast {S S':Sta} (e:S=S') (h:K .normal S):K .normal S':=e▸h
end
theorem nrm:(∀ (α β:Type) (f:α→β) (l:List α),(List.map f l).length=l.length)∧(∀ (α:Type) (l m:List α),(l++m).length=l.length+m.length)∧(∀ (α:Type) (a:α) (l:List α),(a :: l).length=l.length+1)∧
 (∀ (α:Type),([]:List α).length=0)∧(∀ (α:Type) (l:List α) (i:Nat) (a:α),(l.set i a).length=l.length)∧(∀ (α:Type) (n:Nat) (a:α),(List.replicate n a).length=n)∧
 (∀ (α:Type) (l:List α),l.drop 0=l)∧(∀ (α:Type) (l:List α),l.take l.length=l)∧(∀ (α β:Type) (f:α→β),List.map f []=[])∧(∀ (α β:Type) (f:α→β) (a:α) (l:List α),List.map f (a :: l)=f a :: List.map f l)∧
 (∀ (α β:Type) (f:α→β) (l m:List α),List.map f (l++m)=List.map f l++List.map f m)∧(∀ (α β:Type) (f:α→β) (l:List α) (i:Nat) (a:α),List.map f (l.set i a)=(List.map f l).set i (f a))∧
 (∀ (α β:Type) (f:α→β) (l:List α) (i:Nat),List.map f (l.take i)=(List.map f l).take i)∧(∀ (α β:Type) (f:α→β) (l:List α) (i:Nat),List.map f (l.drop i)=(List.map f l).drop i)∧
 (∀ (α β:Type) (f:α→β) (n:Nat) (a:α),List.map f (List.replicate n a)=List.replicate n (f a))∧(∀ n:Nat,((n:Int)).toNat=n)∧(∀ n:Nat,0+n=n)∧(∀ (α:Type) (n:Nat) (a:α) (l:List α),(a :: l).take (n+1)=a :: l.take n)∧
 (∀ (α:Type) (l:List α),l.take 0=[])∧(∀ (α:Type) (n:Nat),([]:List α).take n=[])∧(∀ n:Nat,n - 0=n)∧(∀ (α:Type) (l:List α),l++[]=l)∧(∀ (α:Type) (l:List α),[]++l=l)∧
 (∀ (α:Type) (E:TypeId) (enc:α→FV) (l:List α),oL E enc l=.own E (List.map enc l))∧(∀ (α:Type) (enc:α→FV) (l:List α),vL enc l=.f (.sl (List.map enc l)))∧(∀ (α:Type) (enc:α→FV) (l:List α),fL enc l=.sl (List.map enc l))∧
 (∀ n,vi n=.f (.pv (.int .i64 n)))∧(∀ k n,vI k n=.f (.pv (.int k n)))∧(∀ b,vB b=.f (.pv (.bool b)))∧(∀ b,vS b=.f (.pv (.string b)))∧(∀ n,fi n=.pv (.int .i64 n))∧(∀ b,fB b=.pv (.bool b))∧((0:Int).toNat=0)∧(∀ (α:Type) (l:List α),l.drop l.length=[]):=by
 refine ⟨?_,?_,?_,?_,?_,?_,?_,?_,?_,?_,?_,?_,?_,?_,?_,?_,?_,?_,?_,?_,?_,?_,?_,?_,?_,?_,?_,?_,?_,?_,?_,?_,?_,?_⟩<;>intros<;>first | rfl | simp
def entryF:Nat→Nat→List AV→List AV→Sta
 | 0,_,_,_=>[]
 | n+1,i,x :: xs,v :: vs=>(tb i,x) :: (ob i,v) :: entryF n (i+1) xs vs
 | n+1,i,x :: xs,[]=>(tb i,x) :: entryF n (i+1) xs []
 | n+1,i,[],v :: vs=>(ob i,v) :: entryF n (i+1) [] vs
 | _+1,_,[],[]=>[]
theorem zeY:∀ (n i:Nat) (xs vs:List AV),xs.length+vs.length≤n→entryF n i xs vs=entry i xs vs
 | 0,i,[],[],h=>by simp [entryF,entry]
 | 0,i,x :: xs,vs,h=>by simp at h
 | 0,i,[],v :: vs,h=>by simp at h
 | n+1,i,x :: xs,v :: vs,h=>by simp only [entryF,entry];rw [zeY n (i+1) xs vs (by simp at h;omega)]
 | n+1,i,x :: xs,[],h=>by simp only [entryF,entry];rw [zeY n (i+1) xs [] (by simp at h;simp;omega)]
 | n+1,i,[],v :: vs,h=>by simp only [entryF,entry];rw [zeY n (i+1) [] vs (by simp at h;simp;omega)]
 | n+1,i,[],[],h=>by simp [entryF,entry]
theorem obN:AllP []:=trivial
theorem obC {p:Prop} {l:List Prop} (h:p) (k:AllP l):AllP (p :: l):=⟨h,k⟩
theorem zd1 {c:Cfg} {fn:Func} {x:Code} {g:FuncId} {args outs outs':List AV} {r:AV} (hc:COk P c) (hf:P.funcs[g]?=some fn)
 (hnm:(fn.name == "runtime.NumGoroutine")=false) (hb:fn.body=some x) (hnt:c.nt=fn.ntmps) (hlen:args.length≤fn.ntmps) (ha:args.all argOk=true) (ho:outs.all (shut1 true fun _=>true)=true)
 (hl2:args.length+outs.length≤64) (h:Sem P c x (entryF 64 0 args outs) fun e G=>∃ G',Wk P c.nt G G'∧endK (CallE P) c fn.results.toList outs.length (fun r' o'=>r'=r∧o'=outs') e G'):CallE P g args outs r outs':=by
 refine ⟨⟨fn,hf,hnm,by rw [hb];rfl⟩,fun own w vs hO hA=>?_⟩
 rw [← callsIn_wide (n:=0)]
 have s0:=st_entry (nt:=c.nt) (by rw [hnt];exact hlen) ha ho hO hA
 rw [zeY _ _ _ _ hl2] at h
 refine callsIn_of_wp_marks hf hb trivial ?_
 rw [← hnt]
 refine h own _ w _ _ _ ⟨wideF,fun _=>rfl⟩ s0 ?_
 rintro e G0 own0 a' w' ⟨G',hw,hk⟩ s' t' d'
 obtain ⟨own',s',t2⟩:=hw own0 a' w' s'
 replace d':=d'.tr t2
 replace t':=t'.trans t2
 cases e with
 | normal=>exact end_marks (outs:=outs) hc rfl s' t' d' (RM.wq_wp _ [] hk)
 | ret=>exact end_marks (outs:=outs) hc rfl s' t' d' (RM.wq_wp _ [] hk)
 | exit id=>exact hk.elim
def strInts (s:ByteArray):List Int:=s.toList.map fun b=>(b.toNat:Int)
theorem strElems_of (s:ByteArray) (enc:Int→FV) (h:∀ n,enc n=.pv (.int .u8 n)):strElems s=List.map enc (strInts s):=by
 simp [strElems,strInts,h,Function.comp_def]
def byteAt (s:ByteArray) (i:Int):UInt8:=(s[i.toNat]?).getD 0
theorem byte_ok (s:ByteArray) (i:Int) (h0:0≤i) (h:i < s.size):s[i.toNat]?=some (byteAt s i):=by
 have:i.toNat < s.size:=by omega
 simp [byteAt,this]
section
variable {c : Cfg} {G G' : Sta} {K : Ex → Sta → Prop} {x : Code}
theorem sR (hc:COk P c) (q:List Ora) (keep:List Nat) (G':Sta) {obs:List Prop} (e:x=.seq (sq1 x) (sq2 x)) (h:evReg P c (sq1 x) q [] keep G=some (obs,G')) (ho:AllP obs) (hk:Sem P c (sq2 x) G' K):Sem P c x G K:=Sem.seqR hc e h ho hk
theorem wkE {nt:Nat} (fz:List (Nat×Nat)) (keep:List Nat) (h:Ev.tidy fz keep G=G'):Wk P nt G G':=Wk.eq h
theorem wkS (keep:List Nat) (G':Sta) (h:Ev.tidy [] keep G=G') (k:Sem P c x G' K):Sem P c x G K:=Sem.weak (Wk.eq h) k
end
end Go.Ev
namespace Go.Ev
open Go Go.RowKit
variable {P : Program}
def no:Own:=fun _=>none
theorem cell_lt {w:World} {a:Addr} {v:Value} (h:w.cell? a=some v):a.block < w.heap.size:=by
 unfold World.cell? at h
 rcases Nat.lt_or_ge a.block w.heap.size with h1 | h1
 ·exact h1
 ·simp [Array.getElem?_eq_none h1] at h
theorem below_of_tr {own':Own} {w w':World} (h:Tr no w own' w'):Below w.heap.size w w':=
 ⟨h.os,h.tape,h.output,h.size,fun k hk=>(h.keep k hk rfl).2⟩
theorem outs_nil (w:World):Outs P no w []:=
 ⟨fun i v h=>by simp at h,fun k k' o h=>(nomatch h),fun k o h=>(nomatch h)⟩
theorem law_walk {g:FuncId} {args:List AV} {b:Bool} {vs:Array Value} {w:World}
 (h:CallE P g args [] (vB b) []) (ha:Args P no w args vs) :
 Calls P g vs w fun e w'=>e=.returned (.bool b)∧Below w.heap.size w w':=by
 refine (h.2 no w vs (outs_nil w) ha).mono fun e w' ⟨u,own',he,ht,_,hr⟩=>?_
 refine ⟨?_,below_of_tr ht⟩
 have hr:RF own' w' (.pv (.bool b)) u:=hr.2
 cases hr
 exact he
theorem r1_int (w:World) (k:IntKind) (n:Int):R1 P [] no w (vI k n) (.int k n):=⟨rfl,.pv _ rfl⟩
theorem r1_ints {w:World} {k:IntKind} {enc:Int→FV} (he:∀ n,enc n=.pv (.int k n)) {a:Option Addr} {len cap:Nat} {zs:List Int}
 (h:(a=none∧len=0∧cap=0∧zs=[])∨
   ∃ x,a=some x∧len≤cap∧cap≤maxLen∧zs.length=cap∧(∀ i,i < zs.length→w.cell? (x.add i)=some (.int k (zs.getD i 0)))∧∀ n∈zs,(Lit.int k n).wf=true) :
 R1 P [] no w (vL enc (zs.take len)) (.slice a len cap):=by
 refine ⟨rfl,?_⟩
 rcases h with ⟨rfl,rfl,rfl,rfl⟩ | ⟨x,rfl,hl,hm,hz,hcell,hwf⟩
 ·exact RF.nil
 ·rcases Nat.eq_zero_or_pos len with rfl | hp
  ·exact RF.nil
  obtain ⟨b,off,rfl,hc⟩:=ints_at hcell (by omega)
  have e1:∀ (i:Nat) y,(List.map enc (zs.take len))[i]?=some y→i < zs.length∧y=.pv (.int k (zs.getD i 0)):=by
   intro i y h
   rw [List.getElem?_map,List.getElem?_take] at h
   split at h
   ·rename_i hi
    have:i < zs.length:=by omega
    rw [List.getElem?_eq_getElem this] at h
    simp only [Option.map_some,Option.some.injEq] at h
    exact ⟨this,by rw [← h,he];simp [List.getD,this]⟩
   ·simp at h
  have e2:∀ (i:Nat) y (j:Nat) u,(List.map enc (zs.take len))[i]?=some y→y.cells[j]?=some u→j=0∧u=.pv (.int k (zs.getD i 0))∧i < zs.length:=by
   intro i y j u hy hu
   obtain ⟨hi,rfl⟩:=e1 i y hy
   match j,hu with
   | 0,hu=>exact ⟨rfl,by simpa [FV.cells] using hu.symm,hi⟩
   | j+1,hu=>simp [FV.cells] at hu
  refine RF.sl _ _ _ _ ⟨b,off,none⟩ 1 (by simp;omega) hl (fun _=>⟨rfl,rfl,rfl,?_⟩) ?_ ?_ ?_
  ·exact cell_lt (hc 0 (by omega))
  ·intro y hy
   obtain ⟨n,-,rfl⟩:=List.mem_map.1 hy
   rw [he];rfl
  ·intro i y j u hy hu
   obtain ⟨rfl,-,hi⟩:=e2 i y j u hy hu
   have h2:=hc i hi
   exact ⟨_,by simp only [Nat.mul_one,Nat.add_zero];exact h2⟩
  ·intro i y j u v hy hu hv
   obtain ⟨rfl,rfl,hi⟩:=e2 i y j u hy hu
   have h2:=hc i hi
   simp only [Nat.mul_one,Nat.add_zero] at hv
   rw [h2] at hv
   cases hv
   exact .pv _ rfl
theorem argR_of {own:Own} {w:World} {j:Nat} {x:AV} {v:Value} (h:R1 P [] own w x v):argR P own w j x v:=by
 cases x<;>first | exact h | exact h.elim
theorem argR_no {w:World} {j j':Nat} {x:AV} {v:Value} (h:argR P no w j x v):argR P no w j' x v:=by
 cases x with
 | own E l=>
   obtain ⟨a,c,e1,e2,e3⟩:=h
   refine ⟨a,c,e1,e2,e3.imp id ?_⟩
   rintro ⟨k,_,e4,_⟩
   cases e4
 | _=>exact h
theorem args_cons {w:World} {x:AV} {v:Value} {l:List AV} {vs:List Value} (h:R1 P [] no w x v) (k:Args P no w l vs.toArray):Args P no w (x :: l) (v :: vs).toArray:=
 ⟨by simp [k.1],fun j y u hy hu=>by
   match j,hy,hu with
   | 0,hy,hu=>simp at hy hu;subst hy;subst hu;exact argR_of h
   | j+1,hy,hu=>exact argR_no (k.2 j y u (by simpa using hy) (by simpa using hu))⟩
theorem args_nil {w:World}:Args P no w [] #[]:=⟨rfl,fun j y u hy hu=>by simp at hy⟩
end Go.Ev
namespace Go.Ev
open Go Go.RowKit
variable {P : Program}
theorem run_callF {g:FuncId} {fn:Func} (hf:P.funcs[g]?=some fn) (hname:(fn.name == "runtime.NumGoroutine")=false) (hb:fn.body.isNone=false) (args:Array Value) (w:World) :
 (callFunc g args).run P w=.ok (.enter g args) w:=by
 simp only [beq_eq_false_iff_ne,ne_eq] at hname
 simp only [Option.isNone_eq_false_iff] at hb
 simp [callFunc,hf,hname,Option.isSome_iff_ne_none.1 hb]
theorem zaE {w:World} {l:Nat} {o:Obj}:(w.putObj l o).heap.size=w.heap.size:=by simp [World.putObj]
theorem Tr.norm {own own':Own} {w w':World} {l:Nat} {X:Obj} (t:Tr own w own' w') (hl:l < w.heap.size) (ho:own l=none):Tr own (w.putObj l X) own' (w'.putObj l X):=by
 have hl':l < w'.heap.size:=Nat.lt_of_lt_of_le hl t.size
 refine ⟨by rw [zaE,zaE];exact t.size,fun k hk hk0=>?_,t.os,t.tape,t.output,fun k o hk=>?_,t.bx⟩
 ·rw [zaE] at hk
  obtain ⟨q1,q2⟩:=t.keep k hk hk0
  refine ⟨q1,?_⟩
  by_cases e:k=l
  ·subst e;rw [World.putObj_heap_same hl',World.putObj_heap_same hl]
  ·rw [World.putObj_heap_other e,World.putObj_heap_other e];exact q2
 ·have e:k≠l:=by rintro rfl;rw [ho] at hk;cases hk
  obtain ⟨q1,q2⟩:=t.al k o hk
  exact ⟨q1,by rw [World.putObj_heap_other e,World.putObj_heap_other e];exact q2⟩
theorem zea {w:World} {l:Nat} {o:Obj} (h:w.heap[l]?=some o):w.putObj l o=w:=by
 unfold World.putObj
 have:w.heap.setIfInBounds l o=w.heap:=by
  apply Array.ext_getElem?
  intro i
  rw [Array.getElem?_setIfInBounds]
  split
  ·rename_i e;subst e;rw [h];simp [(Array.getElem?_eq_some_iff.1 h).1]
  ·rfl
 rw [this]
theorem zbR {w:World} {l:Nat} {o o':Obj}:(w.putObj l o).putObj l o'=w.putObj l o':=by
 unfold World.putObj
 have:(w.heap.setIfInBounds l o).setIfInBounds l o'=w.heap.setIfInBounds l o':=by
  apply Array.ext_getElem?
  intro i
  simp only [Array.getElem?_setIfInBounds,Array.size_setIfInBounds]
  split<;>rfl
 simp only [this]
structure KU (U:Nat→Prop) (w w':World):Prop where
 size:w.heap.size≤w'.heap.size
 keep:∀ k,U k→w'.heap[k]?=w.heap[k]?
 os:w'.os=w.os
 tape:w'.tape=w.tape
 output:w'.output=w.output
theorem KU.put {U:Nat→Prop} {w w':World} (h:KU U w w') {l:Nat} (o:Obj) (hl:∀ k,U k→k≠l):KU U w (w'.putObj l o):=
 ⟨by rw [zaE];exact h.size,fun k hk=>(World.putObj_heap_other (hl k hk)).trans (h.keep k hk),h.os,h.tape,h.output⟩
structure Grow (w w':World):Prop where
 size:w.heap.size≤w'.heap.size
 keep:∀ k,k < w.heap.size→w'.heap[k]?=w.heap[k]?
 os:w'.os=w.os
 tape:w'.tape=w.tape
 output:w'.output=w.output
theorem Grow.put {w w':World} (h:Grow w w') {l:Nat} {X:Obj} (hl:l < w.heap.size):Grow (w.putObj l X) (w'.putObj l X):=
 ⟨by rw [zaE,zaE];exact h.size,fun k hk=>by
   rw [zaE] at hk
   by_cases e:k=l
   ·subst e;rw [World.putObj_heap_same (Nat.lt_of_lt_of_le hl h.size),World.putObj_heap_same hl]
   ·rw [World.putObj_heap_other e,World.putObj_heap_other e];exact h.keep k hk,h.os,h.tape,h.output⟩
theorem Grow.tr {w w':World} (h:Grow w w') {own:Own} (hl:∀ k o,own k=some o→k < w.heap.size):Tr own w own w':=
 ⟨h.size,fun k hk ho=>⟨ho,h.keep k hk⟩,h.os,h.tape,h.output,fun k o e=>⟨e,h.keep k (hl _ _ e)⟩,fun _ _ _ e=>e⟩
theorem Grow.ku {w w' w0:World} {U:Nat→Prop} (h:Grow w w') (k:KU U w0 w) (hu:∀ k,U k→k < w0.heap.size):KU U w0 w':=
 ⟨Nat.le_trans k.size h.size,fun i hi=>(h.keep i (Nat.lt_of_lt_of_le (hu i hi) k.size)).trans (k.keep i hi),h.os.trans k.os,h.tape.trans k.tape,h.output.trans k.output⟩
def Gives (P:Program) (g:FuncId) (lb:Array Value) (N:Nat) (ok:Nat→Array Value→Prop) (U:Nat→Prop) (w0:World):Prop:=
 (∃ fn,P.funcs[g]?=some fn∧(fn.name == "runtime.NumGoroutine")=false∧fn.body.isNone=false)∧
 ∀ (F:Fence) (n l:Nat) (J:Nat→World→Prop) (S:World→Prop) (W:World),WideF P F→F.round=none→KU U w0 W→
   (∀ i W1 W2,J i W1→Grow W1 W2→J i W2)→(∀ W1 W2,S W1→Grow W1 W2→S W2)→
   (∀ m i x W1,J i W1→i < N→ok i x→KU U w0 W1→YieldAt F m P l x W1 fun e W'=>((e=.returned (.bool true)∧J (i+1) W')∨(e=.returned (.bool false)∧S W'))∧KU U w0 W')→
   J 0 W→CallsIn F n P g (#[.func (.yield l) #[] #[]]++lb) W fun e W'=>(∃ v,e=.returned v)∧(J N W'∨S W')
theorem Gives.mono {g:FuncId} {lb:Array Value} {N:Nat} {ok ok':Nat→Array Value→Prop} {U:Nat→Prop} {w0:World} (h:Gives P g lb N ok U w0) (hk:∀ i x,i < N→ok i x→ok' i x):Gives P g lb N ok' U w0:=
 ⟨h.1,fun F n l J S W q1 q2 q3 q4 q5 q6 q7=>h.2 F n l J S W q1 q2 q3 q4 q5 (fun m i x W1 z1 z2 z3 z4=>q6 m i x W1 z1 z2 (hk i x z2 z3) z4) q7⟩
def roundEnd (K K2:World→Prop):Exit→Act→World→Prop
 | .normal,_,w=>K w
 | .ret,_,w=>K2 w
 | _,_,_=>False
theorem range_wp {F:Fence} {n:Nat} {g:Operand} {ps:Array Tmp} {assign body:Code} {Q:Exit→Act→World→Prop} {a:Act} {w:World}
 (hF:WideF P F) (hro:F.round=none) {gf:FuncId} {lb:Array Value} (hg:a.eval g=.func (.func gf) #[] lb) {N:Nat} {ok:Nat→Array Value→Prop} {U:Nat→Prop} (hs:Gives P gf lb N ok U w)
 (hU:∀ k,U k→k < w.heap.size) (hps:∀ i x,i < N→ok i x→x.size=ps.size) (I:Loop→Nat→World→Prop) (D:Loop→World→Prop) (hst:∀ rec i W W',I rec i W→w.heap.size+1 < W.heap.size→Grow W W'→I rec i W') (hsd:∀ rec W W',D rec W→w.heap.size+1 < W.heap.size→Grow W W'→D rec W')
 (hround:∀ (fn:FuncId) (rec:Loop) (i:Nat) (x:Array Value) (m:Nat) (W:World),rec.state=.ready→rec.pending=none→i < N→ok i x→I rec i W→W.heap[w.heap.size+1]?=some (Obj.loop rec)→W.heap[w.heap.size]?=some (Obj.deferred (some []))→KU U w W→
   assign.wpIn (F.inRound (w.heap.size+1)) m P (Exit.then (fun a₁ w₁=>w₁.heap[w.heap.size+1]?=some (Obj.loop rec)∧body.wpIn (F.inRound (w.heap.size+1)) m P
    (roundEnd (fun W3=>W3.heap[w.heap.size+1]?=some (Obj.loop { rec with state:=.busy })∧W3.heap[w.heap.size]?=some (Obj.deferred (some []))∧KU U w W3∧I rec (i+1) (W3.putObj (w.heap.size+1) (Obj.loop rec)))
      (fun W3=>W3.heap[w.heap.size+1]?=some (Obj.loop { rec with state:=.busy })∧W3.heap[w.heap.size]?=some (Obj.deferred (some []))∧KU U w W3∧D rec (W3.putObj (w.heap.size+1) (Obj.loop rec)))) a₁ (w₁.putObj (w.heap.size+1) (Obj.loop { rec with state:=.busy }))) (fun _ _ _=>False))
    { tmps:=(ps.zip x).foldl (fun t (p,v)=>t.setIfInBounds p v) a.tmps,defers:=[] } W)
 (h0:∀ rec:Loop,I rec 0 ((w.alloc (Obj.deferred (some []))).alloc (Obj.loop rec)))
 (hdone:∀ (rec:Loop) (W:World),I rec N W→W.heap[w.heap.size+1]?=some (Obj.loop rec)→W.heap[w.heap.size]?=some (Obj.deferred (some []))→Q .normal { a with defers:=mark w.heap.size :: a.defers } (W.putObj (w.heap.size+1) (Obj.loop { rec with state:=.exhausted })))
 (hstop:∀ (rec:Loop) (W:World),D rec (W.putObj (w.heap.size+1) (Obj.loop rec))→W.heap[w.heap.size+1]?=some (Obj.loop { rec with state:=.done,pending:=some .ret })→W.heap[w.heap.size]?=some (Obj.deferred (some []))→Q .ret { a with defers:=mark w.heap.size :: a.defers } (W.putObj (w.heap.size+1) (Obj.loop { rec with state:=.exhausted,pending:=some .ret }))) :
 (Code.rangeFunc g ps assign body).wpIn F n P Q a w:=by
 refine wpIn_rangeFunc ?_
 intro fn hfn
 rw [hro]
 obtain ⟨⟨gfn,f1,f2,f3⟩,hgive⟩:=hs
 have eg:∀ args w,(callFunc gf args).run P w=.ok (.enter gf args) w:=run_callF f1 f2 f3
 obtain ⟨rec,hrec⟩:∃ rec:Loop,rec={ state:=.ready,pending:=none,fn,tmps:=a.tmps,params:=ps,assign,body,defers:=w.heap.size }:=⟨_,rfl⟩
 obtain ⟨W1,hW1⟩:∃ W1,(w.alloc (.deferred (some []))).alloc (.loop rec)=W1:=⟨_,rfl⟩
 have hsz:w.heap.size+2=W1.heap.size:=by rw [← hW1];simp
 have hL1:W1.heap[w.heap.size+1]?=some (.loop rec):=by
  rw [← hW1];have:=World.alloc_heap_new (w.alloc (.deferred (some []))) (.loop rec);rwa [World.size_alloc] at this
 have hK1:W1.heap[w.heap.size]?=some (.deferred (some [])):=by
  rw [← hW1];exact (Below.heap_alloc _ _ _ (by simp)).trans (World.alloc_heap_new w _)
 have hold:∀ k,k < w.heap.size→W1.heap[k]?=w.heap[k]?:=fun k hk=>by
  rw [← hW1];exact (Below.heap_alloc _ _ _ (by simp;omega)).trans (Below.heap_alloc _ _ _ hk)
 refine ⟨w.heap.size+1,[mark w.heap.size],W1,{ target:=.fn (.func gf) lb,args:=#[.func (.yield (w.heap.size+1)) #[] #[]] },W1,gf,
  #[.func (.yield (w.heap.size+1)) #[] #[]]++lb,W1,?_,?_,fun f' _=>hF.fn f',?_,fun e=>(by rw [hF.deep] at e;cases e),?_⟩
 ·rw [← hW1,hrec];exact run_enterLoop_outer _ _ _ _ _
 ·simp only [resolve,hg]
  simp [go_sem]
 ·simp [invoke,go_sem,eg]
 ·refine (hgive F (n - 1) (w.heap.size+1) (fun i W=>I rec i W∧W.heap[w.heap.size+1]?=some (.loop rec)∧W.heap[w.heap.size]?=some (.deferred (some [])))
   (fun W=>D rec (W.putObj (w.heap.size+1) (.loop rec))∧W.heap[w.heap.size+1]?=some (.loop { rec with state:=.done,pending:=some .ret })∧W.heap[w.heap.size]?=some (.deferred (some []))) W1 hF hro ⟨by omega,fun k hk=>hold k (hU k hk),by rw [← hW1];rfl,by rw [← hW1];rfl,by rw [← hW1];rfl⟩ (fun i Wa Wb ⟨q1,q2,q3⟩ hg=>?_) (fun Wa Wb ⟨q1,q2,q3⟩ hg=>?_) ?_ ⟨by rw [← hW1];exact h0 rec,hL1,hK1⟩).mono ?_
  ·have hlt:w.heap.size+1 < Wa.heap.size:=(Array.getElem?_eq_some_iff.1 q2).1
   exact ⟨hst rec i Wa Wb q1 hlt hg,(hg.keep _ hlt).trans q2,(hg.keep _ (by omega)).trans q3⟩
  ·have hlt:w.heap.size+1 < Wa.heap.size:=(Array.getElem?_eq_some_iff.1 q2).1
   exact ⟨hsd rec _ _ q1 (by rw [zaE];exact hlt) (hg.put hlt),(hg.keep _ hlt).trans q2,(hg.keep _ (by omega)).trans q3⟩
  ·rintro m i x W ⟨hi,hl,hk⟩ hn hx hu
   have hlt:w.heap.size+1 < W.heap.size:=(Array.getElem?_eq_some_iff.1 hl).1
   have hy:=run_yield (P:=P) (args:=x) hl (by rw [hrec];exact hps i x hn hx)
   rw [hrec] at hy
   refine ⟨fn,_,assign,body,hy,roundIn_of_wpIn (hF.fn _) (wpIn_mono (hround fn rec i x m W (by rw [hrec]) (by rw [hrec]) hn hx hi hl hk hu) ?_)⟩
   rintro e a1 W2 hp
   cases e with
   | normal=>
     obtain ⟨hl2,hb⟩:=hp
     refine ⟨_,run_beginRound hl2 (by rw [hrec]),wpIn_mono hb ?_⟩
     rintro e a3 W3 hp3
     cases e with
     | normal=>
       obtain ⟨q1,q2,q3,q4⟩:=hp3
       refine ⟨_,_,run_endRound (P:=P) none q1,.inl ⟨rfl,?_,?_,?_⟩,?_⟩
       ·rw [hrec] at q4 ⊢;exact q4
       ·rw [hrec];exact World.putObj_heap_same (Array.getElem?_eq_some_iff.1 q1).1
       ·exact (World.putObj_heap_other (by omega)).trans q2
       ·exact q3.put _ fun k hk=>by have:=hU k hk;omega
     | ret=>
       obtain ⟨q1,q2,q3,q4⟩:=hp3
       refine ⟨_,_,run_endRound (P:=P) (some .ret) q1,.inr ⟨rfl,?_,?_,?_⟩,?_⟩
       ·rw [zbR];rw [hrec] at q4 ⊢;exact q4
       ·rw [hrec];exact World.putObj_heap_same (Array.getElem?_eq_some_iff.1 q1).1
       ·exact (World.putObj_heap_other (by omega)).trans q2
       ·exact q3.put _ fun k hk=>by have:=hU k hk;omega
     | _=>exact hp3.elim
   | _=>exact hp.elim
  ·rintro e W2 ⟨⟨v,rfl⟩,⟨hi,hl,hk⟩ | ⟨hd,hl,hk⟩⟩
   ·refine ⟨none,_,?_,hdone rec W2 hi hl hk⟩
    have:=run_endLoop (P:=P) hl (by rw [hrec];simp)
    rw [hrec] at this ⊢;exact this
   ·refine ⟨some .ret,_,?_,wpIn_ret (hstop rec W2 hd hl hk)⟩
    have:=run_endLoop (P:=P) hl (by simp)
    rw [hrec] at this ⊢;exact this
end Go.Ev
namespace Go.Ev
open Go Go.RowKit
variable {P : Program}
section
variable {c : Cfg} {ops : Array Oper}
theorem zje {draw:Bool}:∀ (r:List Oper) {p rest:List Oper} {log log':List Lg} {G G':Sta} {q:List Ora} {obs:List Prop},ops.toList=p++(r++rest)→evOps (CallE P) c ops draw r p.length log G q=some (obs,log',G')→AllP obs→
 ∃ es,es.map (·.i)=List.range' p.length r.length∧Runs (CallE P) (stepRM c ops) es G G'∧(draw=true→log'=log++es.map Ent.lg)
 | [],p,rest,log,log',G,G',q,obs,hp,h,ho=>by
   unfold evOps at h
   split at h
   ·simp only [Option.some.injEq,Prod.mk.injEq] at h;obtain ⟨rfl,rfl,rfl⟩:=h;exact ⟨[],rfl,rfl,fun _=>by simp⟩
   ·cases h
 | o :: r,p,rest,log,log',G,G',q,obs,hp,h,ho=>by
   have hop:ops[p.length]?=some o:=by
    rw [← Array.getElem?_toList,hp,List.getElem?_append_right (Nat.le_refl _)];simp
   unfold evOps at h
   split at h
   ·rename_i obs1 q' U T h1
    split at h
    ·rename_i obs2 log2 G2 h2
     simp only [Option.some.injEq,Prod.mk.injEq] at h
     obtain ⟨rfl,rfl,rfl⟩:=h
     obtain ⟨ho1,ho2⟩:=zes ho
     have hl:(p++[o]).length=p.length+1:=by simp
     rw [← hl] at h2
     obtain ⟨es,e1,e2,e3⟩:=zje r (p:=p++[o]) (rest:=rest) (by rw [hp];simp) h2 ho2
     refine ⟨⟨p.length,U,T⟩ :: es,by simp [e1,List.range'_succ],⟨?_,e2⟩,fun hd=>?_⟩
     ·rw [zfe hop]
      exact le_guard _ _ _ _ (RM2.ev_wp _ h1 ho1 ⟨rfl,rfl⟩)
     ·subst hd
      rw [e3 rfl];simp [Ent.lg,Ent.reads]
    ·cases h
   ·cases h
end
section
variable {CE : CEx} {c : Cfg} {F : Fence} {n : Nat} {Q : Exit → Act → World → Prop} {ops : Array Oper}
theorem runs_pre (hc:CfgOk P c) (hip:IpsOk P c) (hCE:∀ g args outs r outs',CE g args outs r outs'→CallE P g args outs r outs') (hF:WideF P F) (rest:List Nat):∀ (es:List Ent) {G G':Sta} {own:Own} {a:Act} {w:World},
 St P c.nt G own a w→Runs CE (stepRM c ops) es G G'→(∀ own' a' w',St P c.nt G' own' a' w'→Tr own w own' w'→a'.defers=a.defers→wpOpsIn F n P ops Q rest a' w')→wpOpsIn F n P ops Q (es.map (·.i)++rest) a w
 | [],G,G',own,a,w,s,h,hq=>by
   have:G=G':=h
   subst this
   exact hq own a w s (Tr.refl _ _) rfl
 | y :: es,G,G',own,a,w,s,h,hq=>by
   rw [List.map_cons,List.cons_append,wpOpsIn_cons]
   refine zd6 hc hip hCE hF s h.1 fun own' a' w' s' t' d'=>?_
   exact runs_pre hc hip hCE hF rest es s' h.2 fun own2 a2 w2 s2 t2 d2=>hq own2 a2 w2 s2 (t'.trans t2) (d2.trans d')
theorem wpOps_pre (hc:COk P c) (hF:WideF P F) {pre rest:List Oper} (hp:ops.toList=pre++rest) {q:List Ora} {G G':Sta} {obs:List Prop} {log:List Lg} {own:Own} {a:Act} {w:World}
 (h:evOps (CallE P) c ops false pre 0 [] G q=some (obs,log,G')) (ho:AllP obs) (s:St P c.nt G own a w)
 (hq:∀ own' a' w',St P c.nt G' own' a' w'→Tr own w own' w'→a'.defers=a.defers→wpOpsIn F n P ops Q (List.range' pre.length rest.length) a' w'):wpOpsIn F n P ops Q (List.range ops.size) a w:=by
 obtain ⟨es,e1,e2,_⟩:=zje (P:=P) (p:=[]) (rest:=rest) pre (by simpa using hp) h ho
 have e1:es.map (·.i)=List.range' 0 pre.length:=by simpa using e1
 have hsz:ops.size=pre.length+rest.length:=by rw [← Array.length_toList,hp,List.length_append]
 have:List.range ops.size=es.map (·.i)++List.range' pre.length rest.length:=by
  rw [e1,hsz,List.range_eq_range',← List.range'_append_1];simp
 rw [this]
 exact runs_pre hc.cfg hc.ip (fun _ _ _ _ _ h=>h) hF _ es s e2 hq
end
end Go.Ev
namespace Go.Ev
open Go Go.RowKit
variable {P : Program}
theorem KU.tr {own:Own} {w w':World} (h:KU (fun k=>k < w.heap.size∧(own k=none∨∃ o,own k=some (.al o))) w w') (hl:∀ k o,own k=some o→k < w.heap.size):Tr own w own w':=
 ⟨h.size,fun k hk h0=>⟨h0,h.keep k ⟨hk,.inl h0⟩⟩,h.os,h.tape,h.output,fun k o e=>⟨e,h.keep k ⟨hl _ _ e,.inr ⟨o,e⟩⟩⟩,fun _ _ _ e=>e⟩
theorem Tr.ku {own own':Own} {w w':World} (t:Tr own w own' w'):KU (fun k=>k < w.heap.size∧(own k=none∨∃ o,own k=some (.al o))) w w':=
 ⟨t.size,fun k hk=>by
   obtain ⟨h1,h2 | ⟨o,h2⟩⟩:=hk
   ·exact (t.keep k h1 h2).2
   ·exact (t.al k o h2).2,t.os,t.tape,t.output⟩
end Go.Ev
namespace Go.Ev
open Go Go.RowKit
variable {P : Program}
theorem look_sub {G1 G2:Sta} (h:∀ b v,get G2 b=some v→get G1 b=some v) {b:Nat} {o:Option Nat} {v:AV} (e:look G2 b o=some v):look G1 b o=some v:=by
 cases o with
 | none=>exact h b v e
 | some o=>
   simp only [look] at e ⊢
   cases hg:get G2 b with
   | none=>rw [hg] at e;cases e
   | some x=>rw [hg] at e;rw [h b x hg];exact e
theorem zeK {G1 G2:Sta} (h:∀ b v,get G2 b=some v→get G1 b=some v) {own:Own} {w:World} {v:AV} {u:Value} (r:R0 P G1 own w v u):R0 P G2 own w v u:=by
 cases v with
 | rf b o i n=>
   simp only [R0,SlV] at r ⊢
   cases hg:look G2 b (some o) with
   | none=>trivial
   | some x=>rw [look_sub h hg] at r;exact r
 | ep b o i n=>
   simp only [R0,EpV] at r ⊢
   cases hg:look G2 b (some o) with
   | none=>trivial
   | some x=>rw [look_sub h hg] at r;exact r
 | _=>exact r
theorem zeJ {G1 G2:Sta} (h:∀ b v,get G2 b=some v→get G1 b=some v) {own:Own} {w:World} {b o:Nat} {v:AV} {u:Value} (r:RO P G1 own w b o v u):RO P G2 own w b o v u:=by
 cases v with
 | own E l=>exact r
 | _=>
   all_goals
    rw [zgp (by simp)] at r ⊢
    exact zeK h r
theorem r1_sub {G1 G2:Sta} (h:∀ b v,get G2 b=some v→get G1 b=some v) {own:Own} {w:World} {v:AV} {u:Value} (r:R1 P G1 own w v u):R1 P G2 own w v u:=by
 cases v with
 | agg l=>obtain ⟨arr,h1,h2,h3⟩:=r;exact ⟨arr,h1,h2,fun j x v e1 e2=>zeK h (h3 j x v e1 e2)⟩
 | bad=>exact zeK (P:=P) (own:=own) (w:=w) (u:=u) (v:=.bad) h r
 | f x=>exact zeK (P:=P) (own:=own) (w:=w) (u:=u) (v:=.f x) h r
 | ptr b o=>exact zeK (P:=P) (own:=own) (w:=w) (u:=u) (v:=.ptr b o) h r
 | fp x o=>exact zeK (P:=P) (own:=own) (w:=w) (u:=u) (v:=.fp x o) h r
 | ep a b c d=>exact zeK (P:=P) (own:=own) (w:=w) (u:=u) (v:=.ep a b c d) h r
 | rf a b c d=>exact zeK (P:=P) (own:=own) (w:=w) (u:=u) (v:=.rf a b c d) h r
 | own E l=>exact zeK (P:=P) (own:=own) (w:=w) (u:=u) (v:=.own E l) h r
 | clo g l=>exact zeK (P:=P) (own:=own) (w:=w) (u:=u) (v:=.clo g l) h r
 | ln n=>exact r
 | tup l=>exact zeK (P:=P) (own:=own) (w:=w) (u:=u) (v:=.tup l) h r
theorem rl_sub {G1 G2:Sta} (h:∀ b v,get G2 b=some v→get G1 b=some v) {own:Own} {w:World} {b:Nat} {v:AV} {u:Value} (r:RL P G1 own w b v u):RL P G2 own w b v u:=by
 cases v with
 | agg l=>obtain ⟨arr,h1,h2,h3⟩:=r;exact ⟨arr,h1,h2,fun j x v e1 e2=>zeJ h (h3 j x v e1 e2)⟩
 | tup l=>obtain ⟨arr,h1,h2,h3⟩:=r;exact ⟨arr,h1,h2,fun j x v e1 e2=>r1_sub h (h3 j x v e1 e2)⟩
 | bad=>exact zeJ (P:=P) (own:=own) (w:=w) (b:=b) (u:=u) (v:=.bad) (o:=0) h r
 | f x=>exact zeJ (P:=P) (own:=own) (w:=w) (b:=b) (u:=u) (v:=.f x) (o:=0) h r
 | ptr b o=>exact zeJ (P:=P) (own:=own) (w:=w) (b:=b) (u:=u) (v:=.ptr b o) (o:=0) h r
 | fp x o=>exact zeJ (P:=P) (own:=own) (w:=w) (b:=b) (u:=u) (v:=.fp x o) (o:=0) h r
 | ep a b c d=>exact zeJ (P:=P) (own:=own) (w:=w) (b:=b) (u:=u) (v:=.ep a b c d) (o:=0) h r
 | rf a b c d=>exact zeJ (P:=P) (own:=own) (w:=w) (b:=b) (u:=u) (v:=.rf a b c d) (o:=0) h r
 | own E l=>exact zeJ (P:=P) (own:=own) (w:=w) (b:=b) (u:=u) (v:=.own E l) (o:=0) h r
 | clo g l=>exact zeJ (P:=P) (own:=own) (w:=w) (b:=b) (u:=u) (v:=.clo g l) (o:=0) h r
 | ln n=>exact r
theorem St.sub {nt:Nat} {G1 G2:Sta} {own:Own} {a:Act} {w:World} (h:∀ b v,get G2 b=some v→get G1 b=some v) (s:St P nt G1 own a w):St P nt G2 own a w:=
 ⟨s.size,fun t v e=>let ⟨u,e1,e2⟩:=s.temps t v (h _ _ e);⟨u,e1,rl_sub h e2⟩,
  fun b v hb hm e=>let ⟨k,arr,T,e1,e2,e3⟩:=s.boxes b v hb hm (h _ _ e);⟨k,arr,T,e1,e2,e3.1,fun j x u q1 q2=>zeJ h (e3.2 j x u q1 q2)⟩,
  fun b v hm e=>s.maps b v hm (h _ _ e),fun b v hm e=>let ⟨e1,u,e2⟩:=s.ghosts b v hm (h _ _ e);⟨e1,u,zeJ h e2⟩,s.one,s.lt⟩
def zs:List Nat→List AV→Sta
 | b :: bs,v :: vs=>(b,v) :: zs bs vs
 | _,_=>[]
def zo:Nat→List AV→Sta
 | _,[]=>[]
 | i,v :: vs=>(ob i,v) :: zo (i+1) vs
theorem zc4 {b:Nat}:∀ {G1 G2:Sta},get (G1++G2) b=(get G1 b).or (get G2 b)
 | [],G2=>by simp [get]
 | (c,x) :: r,G2=>by
   simp only [List.cons_append,get]
   split
   ·rfl
   ·exact zc4
theorem get_zs {b:Nat} {v:AV}:∀ {bs:List Nat} {vs:List AV},get (zs bs vs) b=some v→∃ i:Nat,bs[i]?=some b∧vs[i]?=some v
 | [],_,h=>by simp [zs,get] at h
 | _ :: _,[],h=>by simp [zs,get] at h
 | c :: bs,x :: vs,h=>by
   simp only [zs,get] at h
   split at h
   ·rename_i e;cases h;exact ⟨0,by simp [e],rfl⟩
   ·obtain ⟨i,h1,h2⟩:=get_zs h;exact ⟨i+1,by simpa using h1,by simpa using h2⟩
theorem zgD {b:Nat} {v:AV}:∀ {bs:List Nat} {vs:List AV} {i:Nat},bs.Nodup→bs[i]?=some b→vs[i]?=some v→get (zs bs vs) b=some v
 | [],_,i,_,h,_=>by simp at h
 | _ :: _,[],i,_,_,h=>by simp at h
 | c :: bs,x :: vs,0,hn,h1,h2=>by simp at h1 h2;subst h1 h2;simp [zs,get]
 | c :: bs,x :: vs,i+1,hn,h1,h2=>by
   simp only [List.getElem?_cons_succ] at h1 h2
   rw [List.nodup_cons] at hn
   have:b≠c:=by rintro rfl;exact hn.1 (List.mem_of_getElem? h1)
   simp only [zs,get,if_neg this];exact zgD hn.2 h1 h2
theorem get_zo {b:Nat} {v:AV}:∀ {vs:List AV} {i:Nat},get (zo i vs) b=some v→∃ j,b=ob (i+j)∧vs[j]?=some v
 | [],i,h=>by simp [zo,get] at h
 | x :: vs,i,h=>by
   simp only [zo,get] at h
   split at h
   ·rename_i e;cases h;exact ⟨0,by simp [e],rfl⟩
   ·obtain ⟨j,h1,h2⟩:=get_zo h;exact ⟨j+1,by rw [h1];congr 1;omega,by simpa using h2⟩
theorem get_all {p:Nat×AV→Bool} {b:Nat} {v:AV}:∀ {G:Sta},G.all p=true→get G b=some v→p (b,v)=true
 | [],_,h=>by cases h
 | (c,x) :: r,ha,h=>by
   simp only [List.all_cons,Bool.and_eq_true] at ha
   unfold get at h
   split at h
   ·rename_i e;cases h;rw [e];exact ha.1
   ·exact get_all ha.2 h
theorem zij {f:Nat→Nat} {b:Nat}:∀ {G:Sta},get (G.map fun p=>(p.1,ren1 f p.2)) b=(get G b).map (ren1 f)
 | []=>rfl
 | (c,x) :: r=>by
   simp only [List.map_cons,get]
   split
   ·rfl
   ·exact zij
def gtOk (bs:List Nat) (gt:Sta):Bool:=gt.all fun p=>p.1 % 3 == 1 && shut1 false bs.contains p.2
def csOk (bs:List Nat) (cs:List AV):Bool:=cs.length == bs.length && cs.all (shut1 true bs.contains)
def bsOk (bs:List Nat):Bool:=bs.all (fun b=>b % 3 != 1 && !isM b)
def rsg (gt:Sta) (bs:List Nat) (cs:List AV) (ps:List Tmp) (ys:List FV):Sta:=
 zs (ps.map tb) (ys.map asAV)++((gt.map fun p=>(p.1,ren1 (toOut bs) p.2))++zo 0 (cs.map (ren1 (toOut bs))))
def rst (gt:Sta) (bs:List Nat) (cs:List AV) (p0 p1:Tmp) (i:Int) (y:FV):Sta:=rsg gt bs cs [p0,p1] [.pv (.int .i64 i),y]
theorem shut1_shut2 {p:Nat→Bool} {v:AV} (h:shut1 false p v=true):shut2 p v=true∧ren2=ren2:=by
 refine ⟨?_,rfl⟩
 have h0:∀ v,shut0 false p v=true→shut0 true p v=true:=by intro v hv;cases v<;>first | exact hv | rfl
 cases v with
 | agg l=>exact List.all_eq_true.2 fun x hx=>h0 x (List.all_eq_true.1 h x hx)
 | tup l=>simp [shut1,shut0,capIn] at h
 | _=>simp only [shut1] at h;simp only [shut2,shut1];exact h0 _ h
theorem shut1_notup {o:Bool} {p:Nat→Bool} {v:AV} (h:shut1 o p v=true):∀ l,v≠.tup l:=by rintro l rfl;simp [shut1,shut0,capIn] at h
theorem shut_rl {p:Nat→Bool} {G G':Sta} {own own':Own} {w:World} {f:Nat→Nat} {b b':Nat} {v:AV} {u:Value} (hs:shut1 false p v=true) (hn:∀ k,own k=none→own' k=none) (hb:∀ k b,p b=true→own k=some (.box b)→own' k=some (.box (f b))) (hmf:∀ b,p b=true→isM b=false→isM (f b)=false)
 (h:RL P G own w b v u):RL P G' own' w b' (ren1 f v) u:=by
 have h2:=(shut1_shut2 hs).1
 have hnt:=shut1_notup hs
 have h0:∀ (j:Nat) v u,shut0 false p v=true→RO P G own w b j v u→RO P G' own' w b' j (ren0 f v) u:=by
  intro j v u hv h
  have hne:∀ E l,v≠.own E l:=by rintro E l rfl;simp [shut0] at hv
  rw [zgp hne] at h
  have:=zhG (P:=P) (G:=G) (G':=G') (own':=own') hn hb hmf h hv
  rw [zgp];exact this
  intro E l e;cases v<;>simp [ren0] at e;exact hne _ _ rfl
 cases v with
 | agg l=>
   obtain ⟨arr,e1,e2,e3⟩:=h
   refine ⟨arr,e1,by simpa using e2,fun j x y q1 q2=>?_⟩
   rw [List.getElem?_map] at q1
   cases hj:l[j]? with
   | none=>rw [hj] at q1;cases q1
   | some z=>rw [hj] at q1;cases q1;exact h0 j z y (List.all_eq_true.1 hs z (List.mem_of_getElem? hj)) (e3 j z y hj q2)
 | tup l=>exact absurd rfl (hnt l)
 | bad=>exact h0 0 .bad u hs h
 | f x=>exact h0 0 (.f x) u hs h
 | ptr b o=>exact h0 0 (.ptr b o) u hs h
 | fp x o=>exact h0 0 (.fp x o) u hs h
 | clo g l=>exact h0 0 (.clo g l) u hs h
 | _=>simp [shut1,shut0,capIn] at hs
theorem asAV_rl {G:Sta} {own:Own} {w:World} {b:Nat} {y:FV} {u:Value} {sz:Nat} (hy:y.fits sz=true) (h:RF own w y u):RL P G own w b (asAV y) u:=by
 cases h with
 | pv=>rename_i h;exact ⟨rfl,.pv _ h⟩
 | agg l arr hl hh=>
   refine ⟨arr,rfl,by simpa using hl,fun j x v e1 e2=>?_⟩
   rw [List.getElem?_map] at e1
   cases hj:l[j]? with
   | none=>rw [hj] at e1;cases e1
   | some z=>
     rw [hj] at e1;cases e1
     simp only [FV.fits,FV.cells,Bool.and_eq_true,List.all_eq_true] at hy
     exact ⟨hy.2 z (List.mem_of_getElem? hj),hh j z v hj e2⟩
 | sl l a n c ad sz hn hc ha hsz hcell hv=>exact ⟨rfl,.sl l a n c ad sz hn hc ha hsz hcell hv⟩
def okBack (own:Own) (w:World) (l:List FV) (i:Nat) (x:Array Value):Prop:=
 ∃ y u,l[l.length - 1 - i]?=some y∧x=#[.int .i64 ((l.length:Int) - 1 - i),u]∧RF own w y u
def BackOk (P:Program) (gf:FuncId) {α:Type} (enc:α→FV):Prop:=
 ∀ (xs:List α) (own:Own) (w:World) (lb:Value),(xs.length:Int)≤9223372036854775807→RC own w (.fp (.sl (xs.map enc)) 0) lb→(∀ k k' o,own k=some o→own k'=some o→k=k')→(∀ k o,own k=some o→k < w.heap.size)→
   Gives P gf #[lb] xs.length (okBack own w (xs.map enc)) (fun k=>k < w.heap.size∧(own k=none∨∃ o,own k=some (.al o))) w
def okAr (own:Own) (w:World) (ar:Nat→List FV) (i:Nat) (x:Array Value):Prop:=
 ∃ us:List Value,x=us.toArray∧us.length=(ar i).length∧∀ (j:Nat) y u,(ar i)[j]?=some y→us[j]?=some u→RF own w y u
def ItOk (P:Program) (gf:FuncId) (cap:AV) (N:Nat) (ar:Nat→List FV):Prop:=
 ∀ (own:Own) (w:World) (lb:Value),RC own w cap lb→(∀ k k' o,own k=some o→own k'=some o→k=k')→(∀ k o,own k=some o→k < w.heap.size)→
   Gives P gf #[lb] N (okAr own w ar) (fun k=>k < w.heap.size∧(own k=none∨∃ o,own k=some (.al o))) w
theorem BackOk.it {gf:FuncId} {α:Type} {enc:α→FV} (h:BackOk P gf enc) {xs:List α} (hl:(xs.length:Int)≤9223372036854775807) :
 ItOk P gf (.fp (.sl (xs.map enc)) 0) xs.length fun i=>[.pv (.int .i64 ((xs.length:Int) - 1 - i)),((xs[xs.length - 1 - i]?).map enc).getD (.sl [])]:=fun own w lb h1 h2 h3=>
 (h xs own w lb hl h1 h2 h3).mono fun i x _ ⟨y,u,q1,q2,q3⟩=>by
   rw [List.length_map] at q1 q2
   rw [List.getElem?_map] at q1
   refine ⟨[_,u],q2,rfl,fun j z v e1 e2=>?_⟩
   match j with
   | 0=>cases e1;cases e2;exact .pv _ rfl
   | 1=>dsimp only [List.getElem?_cons_succ,List.getElem?_cons_zero] at e1;rw [q1] at e1;cases e1;cases e2;exact q3
   | _+2=>cases e1
theorem zis {F:Fence} (h:WideF P F) (l:Nat):WideF P (F.inRound l):=⟨h.fn,h.deep,fun m g vs w R k=>h.calls m g vs w R k⟩
theorem Tr.put {own own':Own} {w w':World} (h:Tr own w own' w') {l:Nat} (hl:w.heap.size≤l) (o:Obj) (hlt:∀ k o,own k=some o→k < w.heap.size):Tr own w own' (w'.putObj l o):=
 ⟨by rw [zaE];exact h.size,fun k hk hn=>⟨(h.keep k hk hn).1,(World.putObj_heap_other (by omega)).trans (h.keep k hk hn).2⟩,h.os,h.tape,h.output,
  fun k o e=>⟨(h.al k o e).1,(World.putObj_heap_other (by have:=hlt _ _ e;omega)).trans (h.al k o e).2⟩,h.bx⟩
end Go.Ev
namespace Go.Ev
open Go Go.RowKit
variable {P : Program}
section
variable {c : Cfg} {G : Sta} {own own' : Own} {a : Act} {w w' : World}
theorem zi1 {bs:List Nat} {gt:Sta} (h:gtOk bs gt=true) {b:Nat} {v:AV} (e:get gt b=some v):b % 3=1∧shut1 false bs.contains v=true:=by
 have:=get_all h e
 simpa using this
theorem rk_get {bs:List Nat} {gt:Sta} {cs:List AV} (h1:gtOk bs gt=true) (h3:bsOk bs=true) {b:Nat} {v:AV} (e:get (gt++zs bs cs) b=some v) :
 (b % 3=1∧shut1 false bs.contains v=true∧get gt b=some v)∨(b % 3≠1∧∃ i:Nat,bs[i]?=some b∧cs[i]?=some v):=by
 rw [zc4] at e
 cases hg:get gt b with
 | some x=>rw [hg] at e;simp at e;subst e;exact .inl ⟨(zi1 h1 hg).1,(zi1 h1 hg).2,rfl⟩
 | none=>
   rw [hg] at e;simp at e
   obtain ⟨i,q1,q2⟩:=get_zs e
   have:=List.all_eq_true.1 h3 b (List.mem_of_getElem? q1)
   simp only [Bool.and_eq_true,bne_iff_ne,ne_eq] at this
   exact .inr ⟨this.1,i,q1,q2⟩
theorem zkc {bs:List Nat} (h3:bsOk bs=true) {b:Nat} (h:b∈bs):b % 3≠1∧isM b=false:=by
 have:=List.all_eq_true.1 h3 b h
 simpa using this
def fset (l:List (Tmp×Value)) (A:Array Value):Array Value:=l.foldl (fun t (x:Tmp×Value)=>t.setIfInBounds x.1 x.2) A
theorem fset_size:∀ {l:List (Tmp×Value)} {A:Array Value},(fset l A).size=A.size
 | [],_=>rfl
 | x :: r,A=>by show (fset r _).size=_;rw [fset_size];simp
theorem fset_ne {t:Tmp}:∀ {ps:List Tmp} {us:List Value} {A:Array Value},t∉ps→(fset (ps.zip us) A)[t]?=A[t]?
 | [],_,_,_=>rfl
 | _ :: _,[],_,_=>rfl
 | p :: ps,u :: us,A,h=>by
   rw [List.mem_cons,not_or] at h
   show (fset (ps.zip us) _)[t]?=_
   rw [fset_ne h.2,Array.getElem?_setIfInBounds_ne (fun e=>h.1 e.symm)]
theorem fset_eq {t:Tmp} {u:Value}:∀ {ps:List Tmp} {us:List Value} {A:Array Value} {i:Nat},ps.Nodup→ps[i]?=some t→us[i]?=some u→t < A.size→(fset (ps.zip us) A)[t]?=some u
 | [],_,_,i,_,h,_,_=>by simp at h
 | _ :: _,[],_,i,_,_,h,_=>by simp at h
 | p :: ps,v :: us,A,0,hn,h1,h2,ht=>by
   simp at h1 h2;subst h1 h2
   rw [List.nodup_cons] at hn
   show (fset (ps.zip us) _)[p]?=_
   rw [fset_ne hn.1,Array.getElem?_setIfInBounds_self_of_lt ht]
 | p :: ps,v :: us,A,i+1,hn,h1,h2,ht=>by
   rw [List.nodup_cons] at hn
   exact fset_eq (A:=A.setIfInBounds p v) hn.2 (by simpa using h1) (by simpa using h2) (by simpa using ht)
theorem round_st {nt:Nat} {gt:Sta} {bs:List Nat} {cs:List AV} (h1:gtOk bs gt=true) (h2:csOk bs cs=true) (h3:bsOk bs=true) (hn:bs.Nodup) (s:St P nt (gt++zs bs cs) own a w) {ps:List Tmp} {ys:List FV} {us:List Value} (hp0:∀ p∈ps,p < nt) (hp:ps.Nodup) (hy0:ys.length=ps.length) (hu0:us.length=ps.length)
 (hy:∀ y∈ys,∃ sz,y.fits sz=true) (hu:∀ (j:Nat) y u,ys[j]?=some y→us[j]?=some u→RF own w y u) :
 St P nt (rsg gt bs cs ps ys) (ownC bs own) { tmps:=(ps.toArray.zip us.toArray).foldl (fun t (p,v)=>t.setIfInBounds p v) a.tmps,defers:=[] } w:=by
 have htm:(ps.toArray.zip us.toArray).foldl (fun t (x:Tmp×Value)=>t.setIfInBounds x.1 x.2) a.tmps=fset (ps.zip us) a.tmps:=by
  simp [List.zip_toArray,fset]
 have hfst:∀ {b v},get (zs (ps.map tb) (ys.map asAV)) b=some v→∃ (i:Nat) (t:Tmp) (y:FV),ps[i]?=some t∧b=tb t∧ys[i]?=some y∧v=asAV y:=by
  intro b v e
  obtain ⟨i,q1,q2⟩:=get_zs e
  rw [List.getElem?_map] at q1 q2
  cases h1:ps[i]? with
  | none=>rw [h1] at q1;cases q1
  | some t=>
    cases h2:ys[i]? with
    | none=>rw [h2] at q2;cases q2
    | some y=>rw [h1] at q1;rw [h2] at q2;cases q1;cases q2;exact ⟨i,t,y,h1,rfl,h2,rfl⟩
 have hnn:∀ k,own k=none→ownC bs own k=none:=fun k hk=>by simp [ownC,hk]
 have hbx:∀ k b,bs.contains b=true→own k=some (.box b)→ownC bs own k=some (.box (toOut bs b)):=fun k b hb hk=>by
  simp only [ownC,hk,Option.map_some,toOwn];rw [if_pos hb]
 simp only [csOk,Bool.and_eq_true,beq_iff_eq] at h2
 have htr:∀ x u,RF own w x u→RF (ownC bs own) w x u:=fun x u h=>h.mono0 hnn
 have nomap:∀ b v,isM b=true→get (rsg gt bs cs ps ys) b=some v→False:=by
  intro b v hm e
  have hb:=zej hm
  rw [rsg,zc4] at e
  cases hz:get (zs (ps.map tb) (ys.map asAV)) b with
  | some v'=>
    obtain ⟨i,t',y,q1,rfl,_⟩:=hfst hz
    exact hb (by simp only [tb];omega)
  | none=>
     rw [hz] at e;simp at e
     rw [zc4,zij] at e
     cases hg:get gt b with
     | some x=>exact absurd (zi1 h1 hg).1 hb
     | none=>
       rw [hg] at e;simp at e
       obtain ⟨j,q1,q2⟩:=get_zo e
       rw [Nat.zero_add] at q1
       rw [q1,zgB] at hm;cases hm
 refine ⟨by rw [htm];simp [fset_size,s.size],fun t v e=>?_,fun b v hb _ e=>?_,fun b v hm e=>(nomap b v (zew hm) e).elim,fun b v hm e=>(nomap b v (isM_G hm) e).elim,fun k k' x e e'=>?_,fun k x e=>?_⟩
 ·rw [htm]
  rw [rsg,zc4] at e
  cases hz:get (zs (ps.map tb) (ys.map asAV)) (tb t) with
  | some v'=>
    rw [hz] at e;simp at e;subst e
    obtain ⟨i,t',y,q1,q2,q3,rfl⟩:=hfst hz
    have:=tb_inj q2;subst this
    obtain ⟨u,hu1⟩:∃ u,us[i]?=some u:=⟨us[i]'(by have:=(List.getElem?_eq_some_iff.1 q1).1;omega),by simp⟩
    obtain ⟨sz,hsz⟩:=hy y (List.mem_of_getElem? q3)
    exact ⟨u,fset_eq hp q1 hu1 (by rw [s.size];exact hp0 t (List.mem_of_getElem? q1)),asAV_rl hsz (htr _ _ (hu i y u q3 hu1))⟩
  | none=>
     have hnt:t∉ps:=by
      intro hmem
      obtain ⟨i,hi⟩:=List.mem_iff_getElem?.1 hmem
      have hlt:=(List.getElem?_eq_some_iff.1 hi).1
      have hnd:(ps.map tb).Nodup:=by
       refine List.Pairwise.map tb (fun a b h e=>h (tb_inj e)) hp
      have:=zgD (bs:=ps.map tb) (vs:=ys.map asAV) (i:=i) (b:=tb t) (v:=asAV (ys[i]'(by omega))) hnd (by rw [List.getElem?_map,hi];rfl) (by rw [List.getElem?_map,List.getElem?_eq_getElem (by omega)];rfl)
      rw [hz] at this;cases this
     rw [hz] at e;simp at e
     rw [zc4,zij] at e
     cases hg:get gt (tb t) with
     | none=>
       rw [hg] at e;simp at e
       obtain ⟨j,q1,q2⟩:=get_zo e
       exfalso;simp only [tb,ob] at q1;omega
     | some x=>
       rw [hg] at e;simp at e;subst e
       obtain ⟨u',q1,q2⟩:=s.temps t x (by rw [zc4,hg];rfl)
       refine ⟨u',?_,shut_rl (zi1 h1 hg).2 hnn hbx (fun b _ _=>zgB _) q2⟩
       rw [fset_ne hnt];exact q1
 ·rw [rsg,zc4] at e
  cases hz:get (zs (ps.map tb) (ys.map asAV)) b with
  | some v'=>
    obtain ⟨i,t',y,q1,rfl,_⟩:=hfst hz
    simp [tb] at hb
  | none=>
     rw [hz] at e;simp at e
     rw [zc4,zij] at e
     cases hg:get gt b with
     | some x=>exact absurd (zi1 h1 hg).1 hb
     | none=>
       rw [hg] at e;simp at e
       obtain ⟨j,q1,q2⟩:=get_zo e
       rw [Nat.zero_add] at q1
       rw [List.getElem?_map] at q2
       cases hj:cs[j]? with
       | none=>rw [hj] at q2;cases q2
       | some y'=>
         rw [hj] at q2;cases q2
         have hlt:j < bs.length:=by have:=(List.getElem?_eq_some_iff.1 hj).1;omega
         obtain ⟨b0,hb0⟩:∃ b0,bs[j]?=some b0:=⟨bs[j],by simp⟩
         have hmem:=List.mem_of_getElem? hb0
         have hb03:=(zkc h3 hmem).1
         have hgg:get (gt++zs bs cs) b0=some y':=by
          rw [zc4]
          cases hq:get gt b0 with
          | some z=>exact absurd (zi1 h1 hq).1 hb03
          | none=>simp;exact zgD hn hb0 hj
         obtain ⟨k,arr,TT,e1,e2,e3⟩:=s.boxes b0 y' hb03 (zkc h3 hmem).2 hgg
         have hto:=zdO hn hb0
         subst q1
         refine ⟨k,arr,TT,by rw [← hto];exact hbx k b0 (by simpa using hmem) e1,e2,?_⟩
         refine ziD hnn hbx (fun b _ _=>zgB _) ?_ e3 (List.all_eq_true.1 h2.2 y' (List.mem_of_getElem? hj))
         intro k j hk
         simp only [ownC,hk,Option.map_some,toOwn]
         rw [if_pos (by simpa using hmem),hto]
 ·simp only [ownC] at e e'
  cases q:own k with
  | none=>rw [q] at e;cases e
  | some y=>
    cases q':own k' with
    | none=>rw [q'] at e';cases e'
    | some y'=>
      rw [q] at e;rw [q'] at e'
      simp only [Option.map_some,Option.some.injEq] at e e'
      have:=ziw hn e e'
      subst this
      exact s.one k k' y q q'
 ·simp only [ownC] at e
  cases q:own k with
  | none=>rw [q] at e;cases e
  | some y=>exact s.lt k y q
theorem zjQ {gt:Sta} {bs:List Nat} {cs cs':List AV} (h1:gtOk bs gt=true) (h2:csOk bs cs=true) (h2':csOk bs cs'=true) (h3:bsOk bs=true) (hn:bs.Nodup) (hlen:sameLens cs cs'=true) (s:St P c.nt (gt++zs bs cs) own a w)
 {G3:Sta} {a3:Act} (s3:St P c.nt G3 own' a3 w') (hG:evOuts bs.length 0 G3=some (cs'.map (ren1 (toOut bs)))) (tr:Tr (ownC bs own) w own' w') :
 ∃ own2,St P c.nt (gt++zs bs cs') own2 a w'∧Tr own w own2 w':=by
 have h2a:=h2;have h2b:=h2'
 simp only [csOk,Bool.and_eq_true,beq_iff_eq] at h2a h2b
 have hshut:∀ v,v∈cs'→shut1 true bs.contains v=true:=fun v hv=>List.all_eq_true.1 h2b.2 v hv
 have hin:∀ b,bs.contains b=true→∃ i:Nat,bs[i]?=some b:=fun b hb=>List.mem_iff_getElem?.1 (by simpa using hb)
 have hr0:∀ o v,shut0 o bs.contains v=true→shut0 o (isOut bs.length) (ren0 (toOut bs) v)=true∧ren0 (back bs) (ren0 (toOut bs) v)=v:=by
  intro o v hv
  have hc:∀ v,capIn bs.contains v=true→capIn (isOut bs.length) (renC (toOut bs) v)=true∧renC (back bs) (renC (toOut bs) v)=v:=by
   intro v hv
   cases v with
   | ptr b off=>
     simp only [capIn,Bool.and_eq_true,Bool.not_eq_true'] at hv
     obtain ⟨i,hi⟩:=hin b hv.1
     have hto:=zdO hn hi
     refine ⟨?_,?_⟩
     ·show (isOut bs.length (toOut bs b) && !isM (toOut bs b))=true
      rw [hto,zig (List.getElem?_eq_some_iff.1 hi).1,zgB];rfl
     ·simp only [renC];rw [hto,back_ob hi]
   | _=>exact ⟨hv,rfl⟩
  cases v with
  | clo g caps=>
    simp only [shut0,List.all_eq_true] at hv ⊢
    refine ⟨?_,?_⟩
    ·simp only [ren0,shut0,List.all_map,List.all_eq_true]
     exact fun x hx=>(hc x (hv x hx)).1
    ·simp only [ren0,List.map_map,AV.clo.injEq,true_and]
     conv=>rhs;rw [← List.map_id caps]
     exact List.map_congr_left fun x hx=>(hc x (hv x hx)).2
  | own E l=>exact ⟨hv,rfl⟩
  | ptr b off=>exact hc (.ptr b off) hv
  | _=>exact ⟨hv,rfl⟩
 have hr1:∀ o v,shut1 o bs.contains v=true→shut1 o (isOut bs.length) (ren1 (toOut bs) v)=true∧ren1 (back bs) (ren1 (toOut bs) v)=v:=by
  intro o v hv
  rcases zb2 (f:=toOut bs) hv with ⟨l,rfl,hl⟩ | ⟨q1,q2,q3,q4⟩
  ·refine ⟨?_,?_⟩
   ·simp only [ren1,shut1,List.all_map,List.all_eq_true]
    exact fun x hx=>(hr0 o x (List.all_eq_true.1 hl x hx)).1
   ·simp only [ren1,List.map_map,AV.agg.injEq]
    conv=>rhs;rw [← List.map_id l]
    exact List.map_congr_left fun x hx=>(hr0 o x (List.all_eq_true.1 hl x hx)).2
  ·have key:=hr0 o v q1
   rw [q3]
   have hne:∀ l,ren0 (toOut bs) v≠.agg l:=fun l e=>by rw [e] at q4;simp [AV.isLeaf] at q4
   generalize hx:ren0 (toOut bs) v=x at key hne
   cases x with
   | agg l=>exact absurd rfl (hne l)
   | _=>exact key
 obtain ⟨outs,houts⟩:∃ outs,outs=cs'.map (ren1 (toOut bs)):=⟨_,rfl⟩
 have ho:Outs P own' w' outs:=by
  have hsp:=zeo (K:=fun l=>l=outs) hG houts.symm
  obtain ⟨l,rfl,hl⟩:=zdo hsp
  refine ⟨fun i v hv=>?_,s3.one,s3.lt⟩
  obtain ⟨k,arr,TT,e1,e2,e3⟩:=s3.boxes (ob i) v (by simp only [ob];omega) (zgB i) (by have:=hl i v hv;rwa [Nat.zero_add] at this)
  have hv':∃ z,z∈cs'∧v=ren1 (toOut bs) z:=by
   rw [houts,List.getElem?_map] at hv
   cases hz:cs'[i]? with
   | none=>rw [hz] at hv;cases hv
   | some z=>rw [hz] at hv;cases hv;exact ⟨z,List.mem_of_getElem? hz,rfl⟩
  obtain ⟨z,hz,rfl⟩:=hv'
  have hs:=(hr1 true z (hshut z hz)).1
  refine ⟨k,arr,TT,e1,e2,?_⟩
  have:=ziD (P:=P) (G':=[]) (own':=own') (f:=fun b=>b) (p:=isOut bs.length) (fun k h=>h) (fun k b _ h=>h) (fun b _ h=>h) (b:=ob i) (b':=ob i) (fun k j h=>h) e3 hs
  have hid:ren1 (fun b=>b) (ren1 (toOut bs) z)=ren1 (toOut bs) z:=by
   generalize ren1 (toOut bs) z=v
   have h0:∀ v,ren0 (fun b=>b) v=v:=by
    intro v
    cases v with
    | clo g caps=>
      simp only [ren0,AV.clo.injEq,true_and]
      conv=>rhs;rw [← List.map_id caps]
      exact List.map_congr_left fun x _=>by cases x<;>rfl
    | _=>rfl
   cases v with
   | agg l=>
     simp only [ren1,AV.agg.injEq]
     conv=>rhs;rw [← List.map_id l]
     exact List.map_congr_left fun x _=>h0 x
   | _=>simp only [ren1];exact h0 _
  rw [hid] at this;exact this
 have g1:outs.length=bs.length:=by rw [houts,List.length_map];exact h2b.1
 have g3:outs.all (shut1 true (isOut bs.length))=true:=by
  rw [houts,List.all_map,List.all_eq_true]
  exact fun x hx=>(hr1 true x (hshut x hx)).1
 have h3':∀ b∈bs,b % 3≠1:=fun b hb=>(zkc h3 hb).1
 have hcs:∀ (i:Nat) b v,bs[i]?=some b→cs[i]?=some v→get (gt++zs bs cs) b=some v:=by
  intro i b v hb hv
  rw [zc4]
  cases hq:get gt b with
  | some z=>exact absurd (zi1 h1 hq).1 (h3' b (List.mem_of_getElem? hb))
  | none=>simp;exact zgD hn hb hv
 have hlm:∀ v:AV,(ren1 (toOut bs) v).leaves.length=v.leaves.length→True:=fun _ _=>trivial
 have g2:sameLens cs outs=true:=by
  rw [houts]
  have hx:∀ (cs cs':List AV),sameLens cs cs'=true→(∀ v∈cs',shut1 true bs.contains v=true)→sameLens cs (cs'.map (ren1 (toOut bs)))=true:=by
   intro cs
   induction cs with
   | nil=>intro cs' _ _;cases cs'<;>rfl
   | cons x cs ih=>
     intro cs' h hs
     cases cs' with
     | nil=>simp [sameLens] at h
     | cons y cs'=>
       simp only [sameLens,List.map_cons,Bool.and_eq_true,beq_iff_eq] at h ⊢
       refine ⟨?_,ih cs' h.2 fun v hv=>hs v (List.mem_cons_of_mem _ hv)⟩
       rw [(zd8 (f:=toOut bs) (hs y (List.mem_cons_self ..))).1,List.length_map];exact h.1
  exact hx cs cs' hlen hshut
 obtain ⟨s4,t4⟩:=call_back (c:=c) (d:=none) (r:=.tup []) (u:=.tuple #[]) s h2a.1.symm hcs h3' (fun b hb=>(zkc h3 hb).2) hn rfl g1 g2 g3 rfl tr ho ⟨#[],rfl,rfl,fun j x v h=>by simp at h⟩
 have nm:∀ b v,isM b=true→get (gt++zs bs cs') b=some v→False:=by
  intro b v hm e
  rcases rk_get h1 h3 e with ⟨q1,_⟩ | ⟨q1,i,q2,q3⟩
  ·exact zej hm q1
  ·rw [(zkc h3 (List.mem_of_getElem? q2)).2] at hm;cases hm
 refine ⟨_,⟨s4.size,fun t v e=>?_,fun b v hb _ e=>?_,fun b v hm e=>(nm b v (zew hm) e).elim,fun b v hm e=>(nm b v (isM_G hm) e).elim,s4.one,s4.lt⟩,t4⟩
 ·rcases rk_get h1 h3 e with ⟨q1,q2,q3⟩ | ⟨q1,_⟩
  ·have hS:outS bs none (tb t)=false:=by
    have:tb t∉bs:=fun hb=>h3' _ hb (by simp [tb])
    simp [outS,dIs,this]
   have hg:=get_out (r:=ren2 (back bs) (.tup [])) (G:=gt++zs bs cs) (back bs) g1.symm hS
   have hg2:get (gt++zs bs cs) (tb t)=some v:=by rw [zc4,q3];rfl
   rw [hg2,Option.map_some] at hg
   have hk:AV.map2 (killS (outS bs none)) v=v:=by
    have h0:∀ o v,shut0 o bs.contains v=true→killS (outS bs none) v=v:=by
     intro o v hv;cases v<;>first | rfl | simp [shut0,capIn] at hv
    rcases zb2 (f:=toOut bs) q2 with ⟨l,rfl,hl⟩ | ⟨z1,z2,_,_⟩
    ·simp only [AV.map2,AV.agg.injEq]
     conv=>rhs;rw [← List.map_id l]
     exact List.map_congr_left fun x hx=>h0 false x (List.all_eq_true.1 hl x hx)
    ·rw [zaX (zH z2).1 (zH z2).2];exact h0 false v z1
   rw [hk] at hg
   obtain ⟨u,e1,e2⟩:=s4.temps t v hg
   refine ⟨u,e1,?_⟩
   have:=shut_rl (P:=P) (G':=gt++zs bs cs') (own':=ownR bs none own own') (f:=fun b=>b) (b':=tb t) q2 (fun k h=>h) (fun k b _ h=>h) (fun b _ h=>h) e2
   have hid:ren1 (fun b=>b) v=v:=by
    have h0:∀ v,ren0 (fun b=>b) v=v:=by
     intro v
     cases v with
     | clo g caps=>
       simp only [ren0,AV.clo.injEq,true_and]
       conv=>rhs;rw [← List.map_id caps]
       exact List.map_congr_left fun x _=>by cases x<;>rfl
     | _=>rfl
    cases v with
    | agg l=>
      simp only [ren1,AV.agg.injEq]
      conv=>rhs;rw [← List.map_id l]
      exact List.map_congr_left fun x _=>h0 x
    | _=>simp only [ren1];exact h0 _
   rwa [hid] at this
  ·exact absurd (show tb t % 3=1 by simp only [tb];omega) q1
 ·rcases rk_get h1 h3 e with ⟨q1,_⟩ | ⟨q1,i,q2,q3⟩
  ·exact absurd q1 hb
  ·have hv:outs[i]?=some (ren1 (toOut bs) v):=by rw [houts,List.getElem?_map,q3];rfl
   obtain ⟨x,hx⟩:∃ x,cs[i]?=some x:=by
    have:i < cs.length:=by have:=(List.getElem?_eq_some_iff.1 q2).1;omega
    exact ⟨cs[i],by simp⟩
   have hlen':(ren1 (back bs) (ren1 (toOut bs) v)).leaves.length=x.leaves.length:=by
    rw [(hr1 true v (hshut v (List.mem_of_getElem? q3))).2];exact zeG hlen i x v hx q3
   have hg:=zi4 (d:=none) (r:=ren2 (back bs) (.tup [])) (G:=gt++zs bs cs) (back bs) g1.symm hn q2 hv hb (fun v hv S=>shut_kill (List.all_eq_true.1 g3 v hv) S) ⟨x,hcs i b x q2 hx,hlen'⟩
   rw [(hr1 true v (hshut v (List.mem_of_getElem? q3))).2] at hg
   obtain ⟨k,arr,TT,e1,e2,e3⟩:=s4.boxes b v hb (zkc h3 (List.mem_of_getElem? q2)).2 hg
   refine ⟨k,arr,TT,e1,e2,?_⟩
   have:=ziD (P:=P) (G':=gt++zs bs cs') (own':=ownR bs none own own') (f:=fun b=>b) (p:=bs.contains) (fun k h=>h) (fun k b _ h=>h) (fun b _ h=>h) (b:=b) (b':=b) (fun k j h=>h) e3 (hshut v (List.mem_of_getElem? q3))
   have hid:ren1 (fun b=>b) v=v:=by
    have h0:∀ v,ren0 (fun b=>b) v=v:=by
     intro v
     cases v with
     | clo g caps=>
       simp only [ren0,AV.clo.injEq,true_and]
       conv=>rhs;rw [← List.map_id caps]
       exact List.map_congr_left fun x _=>by cases x<;>rfl
     | _=>rfl
    cases v with
    | agg l=>
      simp only [ren1,AV.agg.injEq]
      conv=>rhs;rw [← List.map_id l]
      exact List.map_congr_left fun x _=>h0 x
    | _=>simp only [ren1];exact h0 _
   rwa [hid] at this
end
end Go.Ev
namespace Go.Ev
open Go Go.RowKit
variable {P : Program}
section
variable {c : Cfg} {G : Sta} {K : Ex → Sta → Prop} {x : Code}
def rndK (P:Program) (c:Cfg) (bs:List Nat) (J:List AV→Prop):Ex→Sta→Prop
 | .normal,G=>∃ G' cs',Wk P c.nt G G'∧evOuts bs.length 0 G'=some (cs'.map (ren1 (toOut bs)))∧J cs'
 | _,_=>False
def rndS (P:Program) (c:Cfg) (bs:List Nat) (J S:List AV→Prop):Ex→Sta→Prop
 | .normal,G=>∃ G' cs',Wk P c.nt G G'∧evOuts bs.length 0 G'=some (cs'.map (ren1 (toOut bs)))∧J cs'
 | .ret,G=>∃ G' cs',Wk P c.nt G G'∧evOuts bs.length 0 G'=some (cs'.map (ren1 (toOut bs)))∧S cs'
 | _,_=>False
theorem Sem.rangeG {σ:Type} (hr:c.rnd=false) {tg:Tmp} {ps:List Tmp} (e:x=.rangeFunc (.tmp tg) ps.toArray (sq1 x) (sq2 x))
 {gf:FuncId} {cap:AV} {N:Nat} {ar:Nat→List FV} (hg:get G (tb tg)=some (.clo gf [cap])) (hb:ItOk P gf cap N ar) (hl:∀ i,i < N→(ar i).length=ps.length∧∀ y∈ar i,∃ sz,y.fits sz=true)
 (gt:Sta) (bs:List Nat) (cs:σ→List AV) (Inv:Nat→σ→Prop) (Stp:σ→Prop) (s0:σ) (hw:Wk P c.nt G (gt++zs bs (cs s0))) (hi:Inv 0 s0)
 (k1:gtOk bs gt=true) (k2:∀ s,csOk bs (cs s)=true) (k3:bsOk bs=true) (k4:bs.Nodup) (k5:∀ s s',sameLens (cs s) (cs s')=true) (k6:∀ p∈ps,p < c.nt) (k8:ps.Nodup)
 (round:∀ i s,i < N→Inv i s→Sem P { c with rnd:=true } (sq1 x) (rsg gt bs (cs s) ps (ar i))
   fun e G'=>e=.normal∧Sem P { c with rnd:=true } (sq2 x) G' (rndS P c bs (fun l=>∃ s',l=cs s'∧Inv (i+1) s') fun l=>∃ s',l=cs s'∧Stp s'))
 (done:∀ s,Inv N s→∃ G',Wk P c.nt (gt++zs bs (cs s)) G'∧K .normal G')
 (stop:∀ s,Stp s→∃ G',Wk P c.nt (gt++zs bs (cs s)) G'∧K .ret G'):Sem P c x G K:=by
 rw [e]
 intro own a w F n Q hF s hQ
 obtain ⟨hF,hro⟩:=hF
 have hro:=hro hr
 obtain ⟨u,hu,hru⟩:=s.temps tg _ hg
 obtain ⟨arr,ha1,ha2,ha3⟩:∃ arr,u=.func (.func gf) #[] arr∧([cap]:List AV).length=arr.size∧∀ (j:Nat) x v,[cap][j]?=some x→arr[j]?=some v→RC own w x v:=hru
 obtain ⟨lb,rfl⟩:∃ lb,arr=#[lb]:=by
  match arr,ha2 with
  | ⟨[lb]⟩,_=>exact ⟨lb,rfl⟩
 have hlb:RC own w cap lb:=ha3 0 _ lb rfl rfl
 have hgive:=hb own w lb hlb s.one s.lt
 have hev:a.eval (.tmp tg)=.func (.func gf) #[] #[lb]:=by
  show a.tmps.getD tg _=_
  rw [Array.getD_eq_getD_getElem?,hu,← ha1];rfl
 obtain ⟨own0,s00,t00⟩:=hw own a w s
 refine range_wp (P:=P) hF hro hev hgive (fun k hk=>hk.1) (fun i y hi hy=>by obtain ⟨us,rfl,q,_⟩:=hy;simp [q,(hl i hi).1])
  (fun rec i W=>∃ st own',Inv i st∧St P c.nt (gt++zs bs (cs st)) own' a W∧Tr own w own' W∧own' w.heap.size=none∧own' (w.heap.size+1)=none∧w.heap.size+1 < W.heap.size)
  (fun rec W=>∃ st own',Stp st∧St P c.nt (gt++zs bs (cs st)) own' a W∧Tr own w own' W∧own' w.heap.size=none∧own' (w.heap.size+1)=none∧w.heap.size+1 < W.heap.size) ?_ ?_ ?_ ?_ ?_ ?_
 ·rintro rec i W W' ⟨st,own',hinv,s1,t1,o1,o2,hsz⟩ _ hg
  refine ⟨st,own',hinv,s1.ck ⟨hg.size,fun k arr T z hk=>(hg.keep k (Array.getElem?_eq_some_iff.1 hk).1).trans hk,fun k es ck hk=>(hg.keep k (Array.getElem?_eq_some_iff.1 hk).1).trans hk⟩,t1.trans (hg.tr s1.lt),o1,o2,Nat.lt_of_lt_of_le hsz hg.size⟩
 ·rintro rec W W' ⟨st,own',hinv,s1,t1,o1,o2,hsz⟩ _ hg
  refine ⟨st,own',hinv,s1.ck ⟨hg.size,fun k arr T z hk=>(hg.keep k (Array.getElem?_eq_some_iff.1 hk).1).trans hk,fun k es ck hk=>(hg.keep k (Array.getElem?_eq_some_iff.1 hk).1).trans hk⟩,t1.trans (hg.tr s1.lt),o1,o2,Nat.lt_of_lt_of_le hsz hg.size⟩
 ·rintro fn rec i xx m W hrdy hpd hlt ⟨us,rfl,hus,hrf⟩ ⟨st,own',hinv,s1,t1,o1,o2,hsz⟩ hL hD hku
  have s2:=round_st k1 (k2 st) k3 k4 s1 k6 k8 (hl i hlt).1 (hus.trans (hl i hlt).1) (hl i hlt).2 (fun j y u q1 q2=>(hrf j y u q1 q2).mono t1)
  have hnn:∀ k,own' k=none→ownC bs own' k=none:=fun k hk=>by simp [ownC,hk]
  have hrnd:=round i st hlt hinv
  refine hrnd _ _ W (F.inRound (w.heap.size+1)) m _ ⟨zis hF _,fun h=>(by cases h)⟩ s2 ?_
  rintro e2 G2 own2 a2 w2 ⟨rfl,hsem⟩ s3 t3 _
  have hL2:w2.heap[w.heap.size+1]?=some (Obj.loop rec):=(t3.keep _ hsz (hnn _ o2)).2.trans hL
  refine ⟨hL2,?_⟩
  have hck:CK w2 (w2.putObj (w.heap.size+1) (Obj.loop { rec with state:=.busy })):=CK.put hL2 (fun _ _ _ e=>by cases e) (fun _ _ e=>by cases e)
  refine hsem own2 a2 _ (F.inRound (w.heap.size+1)) m _ ⟨zis hF _,fun h=>(by cases h)⟩ (s3.ck hck) ?_
  intro e3 G3 own3 a3 w3 hk s4 t4 _
  cases e3 with
  | exit id=>exact hk.elim
  | normal=>
    obtain ⟨G4,cs',hwk,hout,st',rfl,hinv'⟩:=hk
    obtain ⟨own4,s5,t5⟩:=hwk own3 a3 w3 s4
    have hsz2:w.heap.size+1 < w2.heap.size:=Nat.lt_of_lt_of_le hsz t3.size
    have o2':own2 (w.heap.size+1)=none:=(t3.keep _ hsz (hnn _ o2)).1
    have o1':own2 w.heap.size=none:=(t3.keep _ (by omega) (hnn _ o1)).1
    have t45:Tr own2 (w2.putObj (w.heap.size+1) (Obj.loop { rec with state:=.busy })) own4 w3:=t4.trans t5
    have hL3:w3.heap[w.heap.size+1]?=some (Obj.loop { rec with state:=.busy }):=
     (t45.keep _ (by rw [zaE];exact hsz2) o2').2.trans (World.putObj_heap_same hsz2)
    have hD2:w2.heap[w.heap.size]?=some (Obj.deferred (some [])):=(t3.keep _ (by omega) (hnn _ o1)).2.trans hD
    have hD3:w3.heap[w.heap.size]?=some (Obj.deferred (some [])):=
     (t45.keep _ (by rw [zaE];omega) o1').2.trans ((World.putObj_heap_other (by omega)).trans hD2)
    have t6:=t45.norm (X:=Obj.loop rec) (l:=w.heap.size+1) (by rw [zaE];exact hsz2) o2'
    rw [zbR,zea hL2] at t6
    have t7:Tr (ownC bs own') W own4 (w3.putObj (w.heap.size+1) (Obj.loop rec)):=t3.trans t6
    have hck3:CK w3 (w3.putObj (w.heap.size+1) (Obj.loop rec)):=CK.put hL3 (fun _ _ _ e=>by cases e) (fun _ _ e=>by cases e)
    obtain ⟨own5,s6,t8⟩:=zjQ k1 (k2 st) (k2 st') k3 k4 (k5 st st') s1 (s5.ck hck3) hout t7
    have t9:Tr own w own5 (w3.putObj (w.heap.size+1) (Obj.loop rec)):=t1.trans t8
    refine ⟨hL3,hD3,?_,⟨st',own5,hinv',s6,t9,(t8.keep _ (by omega) o1).1,(t8.keep _ hsz o2).1,Nat.lt_of_lt_of_le hsz t8.size⟩⟩
    have hku2:=t9.ku
    have h3e:w3=(w3.putObj (w.heap.size+1) (Obj.loop rec)).putObj (w.heap.size+1) (Obj.loop { rec with state:=.busy }):=by
     rw [zbR,zea hL3]
    rw [h3e]
    exact hku2.put _ fun k hk=>by have:=hk.1;omega
  | ret=>
    obtain ⟨G4,cs',hwk,hout,st',rfl,hstp'⟩:=hk
    obtain ⟨own4,s5,t5⟩:=hwk own3 a3 w3 s4
    have hsz2:w.heap.size+1 < w2.heap.size:=Nat.lt_of_lt_of_le hsz t3.size
    have o2':own2 (w.heap.size+1)=none:=(t3.keep _ hsz (hnn _ o2)).1
    have o1':own2 w.heap.size=none:=(t3.keep _ (by omega) (hnn _ o1)).1
    have t45:Tr own2 (w2.putObj (w.heap.size+1) (Obj.loop { rec with state:=.busy })) own4 w3:=t4.trans t5
    have hL3:w3.heap[w.heap.size+1]?=some (Obj.loop { rec with state:=.busy }):=
     (t45.keep _ (by rw [zaE];exact hsz2) o2').2.trans (World.putObj_heap_same hsz2)
    have hD2:w2.heap[w.heap.size]?=some (Obj.deferred (some [])):=(t3.keep _ (by omega) (hnn _ o1)).2.trans hD
    have hD3:w3.heap[w.heap.size]?=some (Obj.deferred (some [])):=
     (t45.keep _ (by rw [zaE];omega) o1').2.trans ((World.putObj_heap_other (by omega)).trans hD2)
    have t6:=t45.norm (X:=Obj.loop rec) (l:=w.heap.size+1) (by rw [zaE];exact hsz2) o2'
    rw [zbR,zea hL2] at t6
    have t7:Tr (ownC bs own') W own4 (w3.putObj (w.heap.size+1) (Obj.loop rec)):=t3.trans t6
    have hck3:CK w3 (w3.putObj (w.heap.size+1) (Obj.loop rec)):=CK.put hL3 (fun _ _ _ e=>by cases e) (fun _ _ e=>by cases e)
    obtain ⟨own5,s6,t8⟩:=zjQ k1 (k2 st) (k2 st') k3 k4 (k5 st st') s1 (s5.ck hck3) hout t7
    have t9:Tr own w own5 (w3.putObj (w.heap.size+1) (Obj.loop rec)):=t1.trans t8
    refine ⟨hL3,hD3,?_,⟨st',own5,hstp',s6,t9,(t8.keep _ (by omega) o1).1,(t8.keep _ hsz o2).1,Nat.lt_of_lt_of_le hsz t8.size⟩⟩
    have hku2:=t9.ku
    have h3e:w3=(w3.putObj (w.heap.size+1) (Obj.loop rec)).putObj (w.heap.size+1) (Obj.loop { rec with state:=.busy }):=by
     rw [zbR,zea hL3]
    rw [h3e]
    exact hku2.put _ fun k hk=>by have:=hk.1;omega
 ·intro rec
  have hsz:((w.alloc (Obj.deferred (some []))).alloc (Obj.loop rec)).heap.size=w.heap.size+2:=by simp
  have hold:∀ k,k < w.heap.size→((w.alloc (Obj.deferred (some []))).alloc (Obj.loop rec)).heap[k]?=w.heap[k]?:=fun k hk=>
   (Below.heap_alloc _ _ _ (by simp;omega)).trans (Below.heap_alloc _ _ _ hk)
  have hlt0:=s00.lt
  have tt:Tr own0 w own0 ((w.alloc (Obj.deferred (some []))).alloc (Obj.loop rec)):=
   ⟨by rw [hsz];omega,fun k hk h=>⟨h,hold k hk⟩,rfl,rfl,rfl,fun k o h=>⟨h,hold k (hlt0 _ _ h)⟩,fun _ _ _ h=>h⟩
  refine ⟨s0,own0,hi,?_,t00.trans tt,?_,?_,by rw [hsz];omega⟩
  ·refine s00.ck ⟨by rw [hsz];omega,fun k arr T z hk=>?_,fun k es ck hk=>?_⟩
   ·rw [hold k (Array.getElem?_eq_some_iff.1 hk).1];exact hk
   ·rw [hold k (Array.getElem?_eq_some_iff.1 hk).1];exact hk
  ·cases h:own0 w.heap.size with
   | none=>rfl
   | some o=>have:=hlt0 _ _ h;omega
  ·cases h:own0 (w.heap.size+1) with
   | none=>rfl
   | some o=>have:=hlt0 _ _ h;omega
 ·rintro rec W ⟨st,own',hinv,s1,t1,o1,o2,hsz⟩ hL hD
  have hck:CK W (W.putObj (w.heap.size+1) (Obj.loop { rec with state:=.exhausted })):=CK.put hL (fun _ _ _ e=>by cases e) (fun _ _ e=>by cases e)
  have s2':=s1.ck hck
  obtain ⟨G',hwk,hkk⟩:=done st hinv
  obtain ⟨own'',s2,t2⟩:=hwk own' a _ s2'
  refine hQ .normal _ own'' { a with defers:=mark w.heap.size :: a.defers } _ hkk ⟨s2.size,s2.temps,s2.boxes,s2.maps,s2.ghosts,s2.one,s2.lt⟩ ((t1.put (by omega) _ s.lt).trans t2) ?_
  refine ⟨[w.heap.size],rfl,by simp,fun D hD'=>?_⟩
  simp only [List.mem_singleton] at hD'
  subst hD'
  exact ⟨Nat.le_refl _,(t2.keep _ (by rw [zaE];omega) o1).1,(World.putObj_heap_other (by omega)).trans hD⟩
 ·rintro rec W0 ⟨st,own',hstp,s1,t1,o1,o2,hsz⟩ hL hD
  rw [zaE] at hsz
  have hck:CK (W0.putObj (w.heap.size+1) (Obj.loop rec)) ((W0.putObj (w.heap.size+1) (Obj.loop rec)).putObj (w.heap.size+1) (Obj.loop { rec with state:=.exhausted,pending:=some .ret })):=CK.put (World.putObj_heap_same hsz) (fun _ _ _ e=>by cases e) (fun _ _ e=>by cases e)
  have s2':=s1.ck hck
  have t1':=t1.put (l:=w.heap.size+1) (by omega) (Obj.loop { rec with state:=.exhausted,pending:=some .ret }) s.lt
  rw [zbR] at s2' t1'
  obtain ⟨G',hwk,hkk⟩:=stop st hstp
  obtain ⟨own'',s2,t2⟩:=hwk own' a _ s2'
  refine hQ .ret _ own'' { a with defers:=mark w.heap.size :: a.defers } _ hkk ⟨s2.size,s2.temps,s2.boxes,s2.maps,s2.ghosts,s2.one,s2.lt⟩ (t1'.trans t2) ?_
  refine ⟨[w.heap.size],rfl,by simp,fun D hD'=>?_⟩
  simp only [List.mem_singleton] at hD'
  subst hD'
  exact ⟨Nat.le_refl _,(t2.keep _ (by rw [zaE];omega) o1).1,(World.putObj_heap_other (by omega)).trans hD⟩
theorem Sem.range {σ:Type} (hr:c.rnd=false) {tg p0 p1:Tmp} (e:x=.rangeFunc (.tmp tg) #[p0,p1] (sq1 x) (sq2 x))
 {gf:FuncId} {α:Type} {enc:α→FV} {xs:List α} {sz:Nat} (hg:get G (tb tg)=some (.clo gf [.fp (.sl (xs.map enc)) 0])) (hb:BackOk P gf enc) {ey:α→FV} (he:∀ x,enc x=ey x) (hl:∀ x,(enc x).fits sz=true) (hll:(xs.length:Int)≤9223372036854775807)
 (gt:Sta) (bs:List Nat) (cs:σ→List AV) (Inv:Nat→σ→Prop) (s0:σ) (hw:Wk P c.nt G (gt++zs bs (cs s0))) (hi:Inv 0 s0)
 (k1:gtOk bs gt=true) (k2:∀ s,csOk bs (cs s)=true) (k3:bsOk bs=true) (k4:bs.Nodup) (k5:∀ s s',sameLens (cs s) (cs s')=true) (k6:p0 < c.nt) (k7:p1 < c.nt) (k8:p0≠p1)
 (round:∀ i s y,i < xs.length→xs[xs.length - 1 - i]?=some y→Inv i s→Sem P { c with rnd:=true } (sq1 x) (rst gt bs (cs s) p0 p1 ((xs.length:Int) - 1 - i) (ey y))
   fun e G'=>e=.normal∧Sem P { c with rnd:=true } (sq2 x) G' (rndK P c bs fun l=>∃ s',l=cs s'∧Inv (i+1) s'))
 (done:∀ s,Inv xs.length s→∃ G',Wk P c.nt (gt++zs bs (cs s)) G'∧K .normal G'):Sem P c x G K:=by
 refine Sem.rangeG hr (ps:=[p0,p1]) e hg (hb.it hll) (fun i h=>⟨rfl,fun y hy=>?_⟩) gt bs cs Inv (fun _=>False) s0 hw hi k1 k2 k3 k4 k5 (fun p hp=>?_) (by simpa using k8) (fun i s hlt hinv=>?_) done (fun _ h=>h.elim)
 ·rw [List.getElem?_eq_getElem (by omega)] at hy
  simp only [List.mem_cons,List.not_mem_nil,or_false] at hy
  rcases hy with rfl | rfl
  ·exact ⟨1,rfl⟩
  ·exact ⟨sz,hl _⟩
 ·simp only [List.mem_cons,List.not_mem_nil,or_false] at hp
  rcases hp with rfl | rfl<;>assumption
 ·have hy:xs[xs.length - 1 - i]?=some (xs[xs.length - 1 - i]'(by omega)):=List.getElem?_eq_getElem (by omega)
  have h:=round i s _ hlt hy hinv
  rw [← he] at h
  rw [hy]
  refine h.mono fun e G' ⟨q1,q2⟩=>⟨q1,q2.mono fun e G' q=>?_⟩
  cases e with
  | normal=>exact q
  | exit id=>exact q.elim
  | ret=>exact q.elim
end
end Go.Ev
namespace Go.Ev
open Go Go.RowKit
variable {P : Program}
def opsOf (x:Code):List Oper:=match x with
 | .region _ ops _=>ops.toList
 | _=>[]
section
variable {F : Fence} {n : Nat} {a : Act} {w : World} {next next' : Act → World → Prop} {Q Q' : Exit → Act → World → Prop} {o : Oper}
theorem zhH {a:Act} {t:Tmp} {d:Option Tmp} {v:Value} (h:d≠some t):(a.put d v).tmps[t]?=a.tmps[t]?:=by
 cases d with
 | none=>rfl
 | some s=>rw [zd9,Array.getElem?_setIfInBounds_ne (by rintro rfl;exact h rfl)]
theorem uponIn_keep {t:Tmp} (ht:o.dst≠some t) (hn:∀ a' w',next' a' w'→a'.tmps[t]?=a.tmps[t]?→next a' w') (hq:∀ e a w,e≠.normal→Q' e a w→Q e a w) {r:Result Next} (h:o.uponIn F n P a next' Q' r):o.uponIn F n P a next Q r:=by
 have hlets:LetsOut Q'→LetsOut Q:=fun ⟨a,w,h⟩=>⟨a,w,hq _ _ _ (by simp) h⟩
 unfold Oper.uponIn at h ⊢
 split at h
 ·exact hn _ _ h (zhH ht)
 ·exact hn _ _ h (zhH ht)
 ·exact hn _ _ h (zhH (a:={ a with defers:=_ :: a.defers }) ht)
 ·refine ⟨h.1,h.2.mono ?_⟩
  intro e w' h'
  cases e with
  | returned v=>exact hn _ _ h' (zhH ht)
  | panicked c=>exact hq _ _ _ (by simp) h'
  | outgrown=>exact hlets h'
 ·refine ⟨h.1,h.2.mono ?_⟩
  intro e w' h'
  exact hn _ _ h' (zhH ht)
 ·refine ⟨h.1,h.2.mono ?_⟩
  intro e w' h'
  cases e with
  | returned v=>exact hn _ _ h' (zhH ht)
  | panicked c=>exact hq _ _ _ (by simp) h'
  | outgrown=>exact hlets h'
 ·exact hq _ _ _ (by simp) h
 ·exact h.elim
theorem zcC {ops:Array Oper} {t:Tmp}:∀ (l:List Nat) {a:Act} {w:World},(∀ i∈l,∀ o,ops[i]?=some o→o.dst≠some t)→
 wpOpsIn F n P ops (fun e a' w'=>(e=.normal→a'.tmps[t]?=a.tmps[t]?)→Q e a' w') l a w→wpOpsIn F n P ops Q l a w
 | [],a,w,_,h=>h fun _=>rfl
 | i :: r,a,w,hl,h=>by
   have hr:=fun j hj=>hl j (List.mem_cons_of_mem _ hj)
   unfold wpOpsIn at h ⊢
   split
   ·rename_i ho;rw [ho] at h;exact zcC r hr h
   ·rename_i o ho
    rw [ho] at h
    dsimp only at h ⊢
    have hd:=hl i (List.mem_cons_self ..) o ho
    have key:∀ a' w',wpOpsIn F n P ops (fun e a' w'=>(e=.normal→a'.tmps[t]?=a.tmps[t]?)→Q e a' w') r a' w'→a'.tmps[t]?=a.tmps[t]?→wpOpsIn F n P ops Q r a' w':=by
     intro a' w' h2 e
     rw [← e] at h2
     exact zcC r hr h2
    split at h
    ·rename_i hw
     rw [if_pos hw]
     exact ⟨h.1,uponIn_keep hd key (fun e a w hne hq=>hq fun e'=>absurd e' hne) h.2⟩
    ·rename_i hw
     rw [if_neg hw]
     exact ⟨h.1,key _ _ h.2 (zhH hd)⟩
end
section
variable {c : Cfg} {F : Fence} {n : Nat} {Q : Exit → Act → World → Prop} {ops : Array Oper}
theorem regX (hc:COk P c) (hF:WideF P F) {id:Nat} {q:List Ora} {G G':Sta} {obs:List Prop} {log:List Lg} {own:Own} {a:Act} {w:World} (h:evOps (CallE P) c ops false ops.toList 0 [] G q=some (obs,log,G')) (ho:AllP obs)
 (hd:ops.toList.all (fun o=>o.dst != some 0 && o.dst != some 1)=true) (s:St P c.nt G own a w)
 (hq:∀ own' a' w',St P c.nt G' own' a' w'→Tr own w own' w'→a'.defers=a.defers→a'.tmps[0]?=a.tmps[0]?→a'.tmps[1]?=a.tmps[1]?→Q .normal a' w'):(Code.region id ops false).wpIn F n P Q a w:=by
 have hdd:∀ (i:Nat) o,ops[i]?=some o→o.dst≠some 0∧o.dst≠some 1:=fun i o h=>by
  have:=List.all_eq_true.1 hd o (by rw [← Array.getElem?_toList] at h;exact List.mem_of_getElem? h)
  simpa using this
 refine wpIn_region (zcC (t:=0) _ (fun i _ o h=>(hdd i o h).1) (zcC (t:=1) _ (fun i _ o h=>(hdd i o h).2) ?_))
 refine wpOps_pre hc hF (pre:=ops.toList) (rest:=[]) (by simp) h ho s ?_
 intro own' a' w' s' t' d' h1 h0
 exact hq own' a' w' s' t' d' (h0 rfl) (h1 rfl)
theorem fp_no {own:Own} {w:World} {x:FV} {o:Nat} {u:Value} (h:RC own w (.fp x o) u):RC no w (.fp x o) u:=by
 obtain ⟨k,q,h1,h2,h3,h4⟩:=h
 exact ⟨k,q,h1,rfl,h3,fun j y e=>let ⟨v,e1,e2⟩:=h4 j y e;⟨v,e1,e2.mono0 fun _ _=>rfl⟩⟩
theorem ziv {own':Own} {w w':World} (t:Tr no w own' w'):Grow w w':=⟨t.size,fun k hk=>(t.keep k hk rfl).2,t.os,t.tape,t.output⟩
theorem run_callY {a:Act} {w:World} {o:Oper} {t:Tmp} {args:Array Operand} {ats:Array TypeId} {l:Nat} (ho:o.op=.call { callee:=.value (.tmp t),args,argTypes:=ats })
 (hv:a.eval (.tmp t)=.func (.yield l) #[] #[]):(execOp a.eval o).run P w=(Instr.yield l (args.map a.eval)).run P w:=by
 simp only [execOp,ho,resolve,hv,Deferred.ofValue,Sem.run_bind,Sem.run_pure,Result.andThen_ok,invoke,Array.empty_append,Array.append_empty]
theorem rc_pv {own:Own} {w:World} {v u:Value} (h:RC own w (.f (.pv v)) u):u=v:=by
 obtain ⟨_,h⟩:=h
 cases h;rfl
theorem zeB {G:Sta} {own:Own} {a:Act} {w:World} {t:Tmp} {v:Value} (s:St P c.nt G own a w) (h:get G (tb t)=some (.f (.pv v))):a.tmps[t]?=some v:=by
 obtain ⟨u,h1,h2⟩:=s.temps t _ h
 rw [h1,rc_pv (show RC own w (.f (.pv v)) u from h2)]
theorem zi5 {l:Array Value} {t:Nat} {v d:Value} (h:l[t]?=some v):l.getD t d=v:=by
 rw [Array.getD_eq_getD_getElem?,h];rfl
def encX (agg:Bool) (sz:Nat) (f:Nat→Value):FV:=
 match agg with
 | true=>.agg ((List.range sz).map fun j=>.pv (f j))
 | false=>.pv (f 0)
def isAggF:FV→Bool
 | .agg _=>true
 | _=>false
theorem rf_one {own:Own} {w:World} {y:FV} {v:Value} (h:RF own w y v) (hy:y.one=true):v.oneCell'=true:=by
 cases h with
 | pv=>assumption
 | agg=>simp [FV.one] at hy
 | sl=>rfl
theorem exact_list {own:Own} {w:World} {α:Type} {enc:α→FV} {xs:List α} {s:Value} {sz:Nat} {agg:Bool} (hfit:∀ x,(enc x).fits sz=true) (hagg:∀ x,isAggF (enc x)=agg) (hsz:agg=false→sz=1) (h:RF own w (.sl (xs.map enc)) s) :
 ∃ fs:List (Nat→Value),fs.length=xs.length∧RF own w (.sl (fs.map (encX agg sz))) s∧
   ∀ (i:Nat) x f,xs[i]?=some x→fs[i]?=some f→∀ u own' w' b,RL P [] own' w' b (asAV (encX agg sz f)) u→RF own w (enc x) u:=by
 cases h with
 | sl _ a n c ad sz' hn hc ha hsz' hcell hv=>
 have hcells:∀ (x:α),(enc x).cells.length=sz∧∀ y∈(enc x).cells,y.one=true:=fun x=>by
  have:=hfit x
  simp only [FV.fits,FV.size,Bool.and_eq_true,beq_iff_eq,List.all_eq_true] at this
  exact this
 let f:Nat→Nat→Value:=fun i j=>((w.cell? ⟨ad.block,ad.off+(i * sz'+j),none⟩).getD undef)
 have hfc:∀ (i:Nat) x (j:Nat) y,xs[i]?=some x→(enc x).cells[j]?=some y→w.cell? ⟨ad.block,ad.off+(i * sz'+j),none⟩=some (f i j)∧RF own w y (f i j):=by
  intro i x j y hx hy
  have hxe:(xs.map enc)[i]?=some (enc x):=by rw [List.getElem?_map,hx];rfl
  obtain ⟨v,e1⟩:=hcell i (enc x) j y hxe hy
  have:f i j=v:=by simp only [f,e1];rfl
  rw [this]
  exact ⟨e1,hv i (enc x) j y v hxe hy e1⟩
 have hxl:(encX agg sz fun _=>undef).cells.length=sz:=by
  cases agg with
  | true=>simp [encX,FV.cells]
  | false=>simp [encX,FV.cells,hsz rfl]
 have hxc:∀ (g:Nat→Value) (j:Nat) y,(encX agg sz g).cells[j]?=some y→j < sz∧y=.pv (g j):=by
  intro g j y h
  cases agg with
  | true=>
    simp only [encX,FV.cells,List.getElem?_map] at h
    by_cases hj:j < sz
    ·rw [List.getElem?_range hj] at h;simp at h;exact ⟨hj,h.symm⟩
    ·rw [List.getElem?_eq_none (by simpa using hj)] at h;simp at h
  | false=>
    simp only [encX,FV.cells] at h
    cases j with
    | zero=>simp at h;exact ⟨by rw [hsz rfl];omega,h.symm⟩
    | succ j=>simp at h
 have hsize:∀ g,(encX agg sz g).size=sz:=fun g=>by
  cases agg with
  | true=>simp [encX,FV.size,FV.cells]
  | false=>simp [encX,FV.size,FV.cells,hsz rfl]
 have hget:∀ (i:Nat),((List.range xs.length).map f)[i]?=if i < xs.length then some (f i) else none:=fun i=>by
  rw [List.getElem?_map]
  split
  ·rename_i h;rw [List.getElem?_range h];rfl
  ·rename_i h;rw [List.getElem?_eq_none (by simpa using h)];rfl
 refine ⟨(List.range xs.length).map f,by simp,?_,?_⟩
 ·have hne:((List.range xs.length).map f).map (encX agg sz)≠[]→xs.map enc≠[]:=by
   intro h e
   have:xs=[]:=by simpa using e
   subst this;simp at h
  have hcell':∀ (i:Nat) x (j:Nat) y,(((List.range xs.length).map f).map (encX agg sz))[i]?=some x→x.cells[j]?=some y→w.cell? ⟨ad.block,ad.off+(i * sz'+j),none⟩=some (f i j)∧y=.pv (f i j)∧(f i j).oneCell'=true:=by
   intro i x j y hx hy
   rw [List.getElem?_map,hget] at hx
   split at hx
   ·rename_i hi
    simp only [Option.map_some,Option.some.injEq] at hx
    subst hx
    obtain ⟨hj,rfl⟩:=hxc _ _ _ hy
    obtain ⟨x0,hx0⟩:∃ x0,xs[i]?=some x0:=⟨xs[i],by simp⟩
    obtain ⟨y0,hy0⟩:∃ y0,(enc x0).cells[j]?=some y0:=⟨(enc x0).cells[j]'(by rw [(hcells x0).1];exact hj),by simp⟩
    obtain ⟨q1,q2⟩:=hfc i x0 j y0 hx0 hy0
    exact ⟨q1,rfl,rf_one q2 ((hcells x0).2 y0 (List.mem_of_getElem? hy0))⟩
   ·simp at hx
  have hsz2:xs≠[]→sz'=sz:=by
   intro hne
   cases xs with
   | nil=>exact absurd rfl hne
   | cons x r=>rw [← hsz' (enc x) (by simp)];exact (hcells x).1
  refine .sl _ a n c ad sz' (by simpa using hn) hc (fun h=>ha (hne h)) ?_ (fun i x j y hx hy=>⟨_,(hcell' i x j y hx hy).1⟩) ?_
  ·intro x hx
   obtain ⟨g,_,rfl⟩:=List.mem_map.1 hx
   rw [hsize,hsz2]
   rintro rfl;simp at hx
  ·intro i x j y v hx hy hw
   obtain ⟨q1,rfl,q3⟩:=hcell' i x j y hx hy
   rw [q1] at hw;cases hw
   exact .pv _ q3
 ·intro i x g hx hg u own' w' b hr
  rw [hget] at hg
  have hi:i < xs.length:=(List.getElem?_eq_some_iff.1 hx).1
  rw [if_pos hi] at hg;cases hg
  have hlen:=(hcells x).1
  have hl:=hagg x
  cases agg with
  | true=>
    cases hx':enc x with
    | agg l=>
      obtain ⟨arr,rfl,e2,e3⟩:=hr
      rw [hx'] at hlen
      simp only [FV.cells] at hlen
      refine .agg l arr (by rw [← e2];simp [hlen]) fun j y v e4 e5=>?_
      have hj:j < sz:=by rw [← hlen];exact (List.getElem?_eq_some_iff.1 e4).1
      have e6:=e3 j (.f (.pv (f i j))) v (by simp [hj]) e5
      rw [rc_pv (show RC own' w' (.f (.pv (f i j))) v from e6)]
      exact (hfc i x j y hx (by rw [hx'];exact e4)).2
    | _=>rw [hx'] at hl;cases hl
  | false=>
    have hu:u=f i 0:=rc_pv (show RC own' w' (.f (.pv (f i 0))) u from hr)
    rw [hu]
    cases hx':enc x with
    | agg l=>rw [hx'] at hl;cases hl
    | pv v=>exact (hfc i x 0 _ hx (by rw [hx'];rfl)).2
    | sl l=>exact (hfc i x 0 _ hx (by rw [hx'];rfl)).2
def nu3 (a:Act):Nat:=match a.tmps[3]? with
 | some (Value.int _ v)=>(v+1).toNat
 | _=>0
theorem back_of (hc:COk P c) {gf:FuncId} {fn:Func} (hf:P.funcs[gf]?=some fn) (hnm:(fn.name == "runtime.NumGoroutine")=false) (hnt:c.nt=fn.ntmps) (hnt2:fn.ntmps=19) (hres:fn.results=#[])
 {oA oB o3 oD:Array Oper} {iA iB i3 iD:Nat} {α:Type} {enc:α→FV} {agg:Bool} {sz:Nat} (hfit:∀ x,(enc x).fits sz=true) (hagg:∀ x,isAggF (enc x)=agg) (hsz:agg=false→sz=1)
 (hb:fn.body=some (.seq (.region iA oA false) (.block 0 (.loop (.seq (.seq (.region iB oB false) (.cond (.tmp 8) .skip (.exit 0))) (.seq (.block 1 (.seq (.region i3 o3 false) (.cond (.tmp 18) .ret .skip))) (.region iD oD false)))))))
 (dA:oA.toList.all (fun o=>o.dst != some 0 && o.dst != some 1)=true) (dB:oB.toList.all (fun o=>o.dst != some 0 && o.dst != some 1)=true) (d3:o3.toList.all (fun o=>o.dst != some 0 && o.dst != some 1)=true) (dD:oD.toList.all (fun o=>o.dst != some 0 && o.dst != some 1)=true)
 {pre:List Oper} {oc on:Oper} {ats:Array TypeId} (h3:o3.toList=pre++[oc,on]) (hoc:oc.op=.call { callee:=.value (.tmp 11),args:=#[.tmp 12,.tmp 16],argTypes:=ats }) (hocd:oc.dst=some 17) (hocg:oc.guard=none)
 (kA:∀ (yv:Value) (xs:List (Nat→Value)),∃ log G',evOps (CallE P) c oA false oA.toList 0 [] [(1,.f (.pv yv)),(4,.fp (.sl (xs.map (encX agg sz))) 0)] []=some ([],log,G')∧get G' 10=some (.f (.pv (.int .i64 (IntKind.wrap .i64 (((xs.map (encX agg sz)).length:Int) - 1))))))
 (kB:∀ (yv:Value) (xs:List (Nat→Value)) (i:Int),∃ log G',evOps (CallE P) c oB false oB.toList 0 [] [(1,.f (.pv yv)),(4,.fp (.sl (xs.map (encX agg sz))) 0),(10,.f (.pv (.int .i64 i)))] []=some ([],log,G')∧get G' 10=some (.f (.pv (.int .i64 i)))∧get G' 25=some (.f (.pv (.bool (decide (i≥0))))))
 (kD:∀ (yv:Value) (xs:List (Nat→Value)) (i:Int),∃ log G',evOps (CallE P) c oD false oD.toList 0 [] [(1,.f (.pv yv)),(4,.fp (.sl (xs.map (encX agg sz))) 0),(10,.f (.pv (.int .i64 i)))] []=some ([],log,G')∧get G' 10=some (.f (.pv (.int .i64 (IntKind.wrap .i64 (i - 1))))))
 (k3:∀ (yv:Value) (xs:List (Nat→Value)) (i:Int) (x:Nat→Value),∃ log G',evOps (CallE P) c o3 false pre 0 [] [(1,.f (.pv yv)),(4,.fp (.sl (xs.map (encX agg sz))) 0),(10,.f (.pv (.int .i64 i)))] [.e (encX agg sz x)]=some ([0≤i,(xs.map (encX agg sz))[i.toNat]?=some (encX agg sz x)],log,G')∧
   get G' 10=some (.f (.pv (.int .i64 i)))∧get G' 34=some (.f (.pv yv))∧get G' 37=some (.f (.pv (.int .i64 i)))∧get G' 49=some (asAV (encX agg sz x)))
 (kN:∀ b,∃ log G',evOps (CallE P) c o3 false [on] (pre.length+1) [] [(52,.f (.pv (.bool b)))] []=some ([],log,G')∧get G' 55=some (.f (.pv (.bool (!b)))))
 (hond:on.dst≠some 3):BackOk P gf enc:=by
 intro xs own w0 lb hll hlb hone hlt0
 refine ⟨⟨fn,hf,hnm,by rw [hb];rfl⟩,?_⟩
 intro F n lp J S W hF hro hku hst hss hyield hJ
 have hn19:c.nt=19:=hnt.trans hnt2
 obtain ⟨fs,hfl,hfb,hfx⟩:∃ fs:List (Nat→Value),fs.length=xs.length∧RC own w0 (.fp (.sl (fs.map (encX agg sz))) 0) lb∧
  ∀ (i:Nat) x f,xs[i]?=some x→fs[i]?=some f→∀ u own' w' b,RL P [] own' w' b (asAV (encX agg sz f)) u→RF own w0 (enc x) u:=by
  obtain ⟨k,o,q1,q2,q3,q4⟩:=hlb
  obtain ⟨s,e1,e2⟩:=q4 0 _ rfl
  obtain ⟨fs,h1,h2,h3⟩:=exact_list (P:=P) hfit hagg hsz e2
  refine ⟨fs,h1,⟨k,o,q1,q2,q3,fun j y hy=>?_⟩,h3⟩
  cases j with
  | zero=>cases hy;exact ⟨s,e1,h2⟩
  | succ j=>simp [FV.cells] at hy
 obtain ⟨yv,hyv⟩:∃ yv,yv=Value.func (.yield lp) #[] #[]:=⟨_,rfl⟩
 rw [← hyv]
 have hU:∀ k,(k < w0.heap.size∧(own k=none∨∃ o,own k=some (.al o)))→k < w0.heap.size:=fun k h=>h.1
 have hyc:yv.oneCell'=true:=by rw [hyv];rfl
 have base:∀ (a:Act) (w:World) (i:Int),a.tmps.size=19→a.tmps[0]?=some yv→a.tmps[1]?=some lb→a.tmps[3]?=some (.int .i64 i)→KU (fun k=>k < w0.heap.size∧(own k=none∨∃ o,own k=some (.al o))) w0 w→
  St P c.nt [(1,.f (.pv yv)),(4,.fp (.sl (fs.map (encX agg sz))) 0),(10,.f (.pv (.int .i64 i)))] no a w:=by
  intro a w i hs h0 h1 h2 hk
  refine ⟨hs.trans hn19.symm,fun t v e=>?_,fun b v hb _ e=>?_,fun b v hm e=>(by have hb:=zej (zew hm);simp only [get] at e;exfalso;split at e;(rename_i ht;omega);split at e;(rename_i ht;omega);split at e;(rename_i ht;omega);cases e),fun b v hm e=>(by have hb:=isG_box hm;simp only [get] at e;exfalso;split at e;(rename_i ht;omega);split at e;(rename_i ht;omega);split at e;(rename_i ht;omega);cases e),fun k k' o h=>(nomatch h),fun k o h=>(nomatch h)⟩
  ·simp only [get] at e
   split at e
   ·rename_i ht;cases e
    have:t=0:=by simp only [tb] at ht;omega
    subst this;exact ⟨yv,h0,⟨rfl,.pv _ hyc⟩⟩
   ·split at e
    ·rename_i ht;cases e
     have:t=1:=by simp only [tb] at ht;omega
     subst this;exact ⟨lb,h1,fp_no (RC.fp_mono (hk.tr hlt0) hfb)⟩
    ·split at e
     ·rename_i ht;cases e
      have:t=3:=by simp only [tb] at ht;omega
      subst this;exact ⟨_,h2,⟨rfl,.pv _ rfl⟩⟩
     ·cases e
  ·simp only [get] at e
   split at e
   ·rename_i ht;omega
   ·split at e
    ·rename_i ht;omega
    ·split at e
     ·rename_i ht;omega
     ·cases e
 refine callsIn_of_wp_marks hf hb (hF.fn _) ?_ hro
 have hpost:∀ (a:Act) (w:World),a.defers=[]→(J xs.length w∨S w)→LeavesInM F n P fn a.tmps (fun e W'=>(∃ v,e=.returned v)∧(J xs.length W'∨S W')) a.defers .returning w:=by
  intro a w hd hJ
  rw [hd]
  exact ⟨.tuple #[],by simp [results,hres,go_sem],⟨_,rfl⟩,hJ⟩
 have s0:St P c.nt [(1,.f (.pv yv)),(4,.fp (.sl (fs.map (encX agg sz))) 0)] no { tmps:=(#[yv]++#[lb])++Array.replicate (fn.ntmps - (#[yv]++#[lb]).size) undef,defers:=[] } W:=by
  refine ⟨by simp [hn19,hnt2],fun t v e=>?_,fun b v hb _ e=>?_,fun b v hm e=>(by have hb:=zej (zew hm);simp only [get] at e;exfalso;split at e;(rename_i ht;omega);split at e;(rename_i ht;omega);cases e),fun b v hm e=>(by have hb:=isG_box hm;simp only [get] at e;exfalso;split at e;(rename_i ht;omega);split at e;(rename_i ht;omega);cases e),fun k k' o h=>(nomatch h),fun k o h=>(nomatch h)⟩
  ·simp only [get] at e
   split at e
   ·rename_i ht;cases e
    have:t=0:=by simp only [tb] at ht;omega
    subst this;exact ⟨yv,(Array.getElem?_append_left (by simp)).trans rfl,⟨rfl,.pv _ hyc⟩⟩
   ·split at e
    ·rename_i ht;cases e
     have:t=1:=by simp only [tb] at ht;omega
     subst this;exact ⟨lb,(Array.getElem?_append_left (by simp)).trans rfl,fp_no (RC.fp_mono (hku.tr hlt0) hfb)⟩
    ·cases e
  ·simp only [get] at e
   split at e
   ·rename_i ht;omega
   ·split at e
    ·rename_i ht;omega
    ·cases e
 refine wpIn_seq ?_
 obtain ⟨logA,GA,eA,gA⟩:=kA yv fs
 refine regX hc hF eA trivial dA s0 ?_
 intro ownA aA wA sA tA dfA q0 q1
 have q0:aA.tmps[0]?=some yv:=by rw [q0];exact (Array.getElem?_append_left (by simp)).trans rfl
 have q1:aA.tmps[1]?=some lb:=by rw [q1];exact (Array.getElem?_append_left (by simp)).trans rfl
 have q3:=zeB (t:=3) sA gA
 have hlen:(fs.map (encX agg sz)).length=xs.length:=by rw [List.length_map,hfl]
 rw [hlen,wrap64 (by omega) (by omega)] at q3
 show (Code.block 0 _).wpIn _ _ _ _ _ _
 refine wpIn_block ?_
 let U:Nat→Prop:=fun k=>k < w0.heap.size∧(own k=none∨∃ o,own k=some (.al o))
 let Inv:Act→World→Prop:=fun a w=>∃ i:Nat,i≤xs.length∧J i w∧KU U w0 w∧a.tmps.size=19∧a.tmps[0]?=some yv∧a.tmps[1]?=some lb∧a.tmps[3]?=some (.int .i64 ((xs.length:Int) - 1 - i))∧a.defers=[]
 refine wpIn_loop Inv (fun a _=>nu3 a) ⟨0,Nat.zero_le _,hst _ _ _ hJ (ziv tA),(ziv tA).ku hku hU,by rw [sA.size,hn19],q0,q1,by rw [q3];simp,dfA⟩ ?_
 rintro a1 w1 ⟨i,hi,hJ1,hk1,z1,z2,z3,z4,z5⟩
 have hν1:nu3 a1=xs.length - i:=by
  unfold nu3;rw [z4];dsimp only;omega
 refine wpIn_seq (wpIn_seq ?_)
 obtain ⟨logB,GB,eB,gB,gB2⟩:=kB yv fs ((xs.length:Int) - 1 - i)
 refine regX hc hF eB trivial dB (base a1 w1 _ z1 z2 z3 z4 hk1) ?_
 intro ownB aB wB sB tB dfB p0 p1
 have p3:=zeB (t:=3) sB gB
 have p8:=zeB (t:=8) sB gB2
 have hJB:=hst _ _ _ hJ1 (ziv tB)
 have hkB:=(ziv tB).ku hk1 hU
 have zB:aB.tmps.size=19:=by rw [sB.size,hn19]
 refine wpIn_cond (show aB.eval (.tmp 8)=.bool (decide ((xs.length:Int) - 1 - i≥0)) from zi5 p8) ?_
 rcases Nat.lt_or_ge i xs.length with hlt | hlt'
 case' inr=>
  have hge:decide ((xs.length:Int) - 1 - i≥0)=false:=by simp;omega
  rw [hge]
  refine wpIn_exit ?_
  have hie:i=xs.length:=by omega
  subst hie
  exact hpost aB wB (dfB.trans z5) (.inl hJB)
 have hge:decide ((xs.length:Int) - 1 - i≥0)=true:=by simp;omega
 rw [hge]
 refine wpIn_skip ?_
 show (Code.seq _ _).wpIn _ _ _ _ _ _
 refine wpIn_seq (wpIn_block (wpIn_seq ?_))
 obtain ⟨x,hx⟩:∃ x,xs[xs.length - 1 - i]?=some x:=⟨xs[xs.length - 1 - i]'(by omega),by simp⟩
 obtain ⟨f,hf'⟩:∃ f,fs[xs.length - 1 - i]?=some f:=⟨fs[xs.length - 1 - i]'(by omega),by simp⟩
 obtain ⟨log3,G3,e3,g3,g34,g37,g49⟩:=k3 yv fs ((xs.length:Int) - 1 - i) f
 have hidx:((xs.length:Int) - 1 - i).toNat=xs.length - 1 - i:=by omega
 have hget:(fs.map (encX agg sz))[((xs.length:Int) - 1 - i).toNat]?=some (encX agg sz f):=by rw [hidx,List.getElem?_map,hf'];rfl
 have hdd:∀ (i:Nat) o,o3[i]?=some o→o.dst≠some 0∧o.dst≠some 1:=fun i o h=>by
  have:=List.all_eq_true.1 d3 o (by rw [← Array.getElem?_toList] at h;exact List.mem_of_getElem? h)
  simpa using this
 refine wpIn_region (zcC (t:=0) _ (fun i _ o h=>(hdd i o h).1) (zcC (t:=1) _ (fun i _ o h=>(hdd i o h).2) ?_))
 refine wpOps_pre hc hF (pre:=pre) (rest:=[oc,on]) h3 e3 ⟨by omega,hget,trivial⟩ (base aB wB _ zB (p0.trans z2) (p1.trans z3) p3 hkB) ?_
 intro own3 a3 w3 s3 t3 df3
 have r3:=zeB (t:=3) s3 g3
 have r11:=zeB (t:=11) s3 g34
 have r12:=zeB (t:=12) s3 g37
 obtain ⟨u16,r16,hr16⟩:=s3.temps 16 _ g49
 have hJ3:=hst _ _ _ hJB (ziv t3)
 have hk3:=(ziv t3).ku hkB hU
 show wpOpsIn F n P o3 _ (pre.length :: (pre.length+1) :: []) a3 w3
 have hocI:o3[pre.length]?=some oc:=by
  rw [← Array.getElem?_toList,h3,List.getElem?_append_right (Nat.le_refl _)];simp
 unfold wpOpsIn
 rw [hocI]
 dsimp only
 rw [if_pos (by simp [Region.wanted,hocg])]
 have hv11:a3.eval (.tmp 11)=.func (.yield lp) #[] #[]:=by rw [← hyv];show a3.tmps.getD 11 _=_;exact zi5 r11
 refine zeA hF.fn (by simp [hoc]) ?_
 have hargs:(#[Operand.tmp 12,Operand.tmp 16]:Array Operand).map a3.eval=#[.int .i64 ((xs.length:Int) - 1 - i),u16]:=by
  have e1:a3.eval (.tmp 12)=.int .i64 ((xs.length:Int) - 1 - i):=by show a3.tmps.getD 12 _=_;exact zi5 r12
  have e2:a3.eval (.tmp 16)=u16:=by show a3.tmps.getD 16 _=_;exact zi5 r16
  simp [e1,e2]
 rw [run_callY hoc hv11,hargs]
 have hok:okBack own w0 (xs.map enc) i #[.int .i64 ((xs.length:Int) - 1 - i),u16]:=
  ⟨enc x,u16,by rw [List.length_map,List.getElem?_map,hx];rfl,by rw [List.length_map],hfx _ x f hx hf' u16 own3 w3 (tb 16) (rl_sub (fun b v e=>by simp [get] at e) hr16)⟩
 obtain ⟨fn',tmps',as',bd',hrun,hround⟩:=hyield (n - 1) i _ w3 hJ3 hlt hok hk3
 rw [hrun,Oper.uponIn_round]
 refine ⟨fun e=>(by rw [hF.deep] at e;cases e),hround.mono ?_⟩
 rintro e w4 ⟨hJS,hk4⟩
 obtain ⟨b,rfl,hB⟩:∃ b,e=.returned (.bool b)∧((b=true∧J (i+1) w4)∨(b=false∧S w4)):=by
  rcases hJS with ⟨rfl,h⟩ | ⟨rfl,h⟩
  ·exact ⟨true,rfl,.inl ⟨rfl,h⟩⟩
  ·exact ⟨false,rfl,.inr ⟨rfl,h⟩⟩
 dsimp only
 rw [hocd]
 have s4:St P c.nt [(52,.f (.pv (.bool b)))] no (a3.put (some 17) (.bool b)) w4:=by
  have s00:St P c.nt [] no a3 w4:=⟨s3.size,fun t v e=>(by cases e),fun b v hb _ e=>(by cases e),fun b v hm e=>(by cases e),fun b v hm e=>(by cases e),fun k k' o h=>(nomatch h),fun k o h=>(nomatch h)⟩
  exact s00.set_pure (t:=17) (by omega) ⟨rfl,.pv _ rfl⟩
 obtain ⟨logN,GN,eN,gN⟩:=kN b
 have honI:o3[pre.length+1]?=some on:=by
  rw [← Array.getElem?_toList,h3,List.getElem?_append_right (by omega)];simp
 refine zcC (t:=3) _ (fun i hi o h=>?_) ?_
 ·simp only [List.mem_singleton] at hi
  subst hi
  rw [honI] at h;cases h
  exact hond
 obtain ⟨es,x1,x2,_⟩:=zje (P:=P) (c:=c) (obs:=[]) [on] (p:=pre++[oc]) (rest:=[]) (by rw [h3];simp) (by rw [List.length_append];exact eN) trivial
 have hes:[pre.length+1]=es.map (·.i)++[]:=by rw [x1,List.length_append];rfl
 rw [hes]
 refine runs_pre hc.cfg hc.ip (fun _ _ _ _ _ h=>h) hF _ es s4 x2 ?_
 intro own5 a5 w5 s5 t5 df5 c3 c1 c0
 have y0:a5.tmps[0]?=some yv:=(c0 rfl).trans (p0.trans z2)
 have y1:a5.tmps[1]?=some lb:=(c1 rfl).trans (p1.trans z3)
 have y3:a5.tmps[3]?=some (.int .i64 ((xs.length:Int) - 1 - i)):=(c3 rfl).trans ((zhH (by simp)).trans r3)
 have yd:a5.defers=[]:=df5.trans (df3.trans (dfB.trans z5))
 have hk5:=(ziv t5).ku hk4 hU
 refine wpIn_cond (show a5.eval (.tmp 18)=.bool (!b) from zi5 (zeB (t:=18) s5 gN)) ?_
 rcases hB with ⟨rfl,hJ4⟩ | ⟨rfl,hS4⟩
 case' inr=>exact wpIn_ret (hpost a5 w5 yd (.inr (hss _ _ hS4 (ziv t5))))
 have hJ5:=hst _ _ _ hJ4 (ziv t5)
 refine wpIn_skip ?_
 obtain ⟨logD,GD,eD,gD⟩:=kD yv fs ((xs.length:Int) - 1 - i)
 refine regX hc hF eD trivial dD (base a5 w5 _ (by rw [s5.size,hn19]) y0 y1 y3 hk5) ?_
 intro own6 a6 w6 s6 t6 df6 v0 v1
 have v3:=zeB (t:=3) s6 gD
 rw [wrap64 (by omega) (by omega)] at v3
 have v3':a6.tmps[3]?=some (.int .i64 ((xs.length:Int) - 1 - ((i+1:Nat):Int))):=by rw [v3];congr 2;omega
 refine ⟨⟨i+1,hlt,hst _ _ _ hJ5 (ziv t6),(ziv t6).ku hk5 hU,by rw [s6.size,hn19],v0.trans y0,v1.trans y1,v3',df6.trans yd⟩,?_⟩
 rw [hν1]
 unfold nu3;rw [v3'];dsimp only;omega
end
end Go.Ev
namespace Go.Ev
open Go Go.RowKit
variable {P : Program}
def fpzC (b:Nat) (x:FV):AV→AV
 | .ptr c o=>if c=b then .fp x o else .ptr c o
 | v=>v
def fpz0 (b:Nat) (x:FV):AV→AV
 | .ptr c o=>if c=b then .fp x o else .ptr c o
 | .clo g caps=>.clo g (caps.map (fpzC b x))
 | .rf _ _ _ _=>.bad
 | .ep _ _ _ _=>.bad
 | v=>v
def fpz1 (b:Nat) (x:FV):AV→AV
 | .agg l=>.agg (l.map (fpz0 b x))
 | v=>fpz0 b x v
def fpz2 (b:Nat) (x:FV):AV→AV
 | .tup l=>.tup (l.map (fpz1 b x))
 | .agg l=>.agg (l.map (fpz0 b x))
 | v=>fpz0 b x v
def ownX (own:Own) (b:Nat):Own:=fun k=>if own k=some (.box b) then none else own k
def fpzS (b:Nat) (x:FV):Sta→Sta
 | []=>[]
 | (c,v) :: r=>if c=b then fpzS b x r else (c,fpz2 b x v) :: fpzS b x r
theorem zgE {b c:Nat} {x:FV}:∀ {G:Sta},get (fpzS b x G) c=if c=b then none else (get G c).map (fpz2 b x)
 | []=>by simp [fpzS,get]
 | (d,v) :: r=>by
   have ih:=zgE (b:=b) (c:=c) (x:=x) (G:=r)
   simp only [fpzS]
   by_cases hd:d=b
   ·rw [if_pos hd,ih]
    by_cases hc:c=b
    ·rw [if_pos hc,if_pos hc]
    ·rw [if_neg hc,if_neg hc];simp only [get];rw [if_neg (fun e=>hc (e.trans hd))]
   ·rw [if_neg hd]
    simp only [get]
    by_cases hc:c=d
    ·subst hc;simp [hd]
    ·rw [if_neg hc,ih,if_neg hc]
def toFV:AV→Option FV
 | .agg l=>(fLeaves l).map .agg
 | .f x=>if x.one=true then some x else none
 | _=>none
theorem zhM:∀ {l:List AV} {m:List FV},fLeaves l=some m→l=m.map .f∧∀ y∈m,y.one=true
 | [],m,h=>by simp [fLeaves] at h;subst h;exact ⟨rfl,fun y h=>by simp at h⟩
 | v :: r,m,h=>by
   unfold fLeaves at h
   split at h
   ·rename_i x l h1 h2
    simp only [Option.some.injEq] at h;subst h
    obtain ⟨e1,e2⟩:=zhM h2
    have:v=.f x∧x.one=true:=by
     unfold AV.leafF at h1
     split at h1
     ·split at h1
      ·rename_i hx;cases h1;exact ⟨rfl,hx⟩
      ·cases h1
     ·cases h1
    refine ⟨by rw [this.1,e1];rfl,fun y hy=>?_⟩
    rcases List.mem_cons.1 hy with rfl | hy
    ·exact this.2
    ·exact e2 y hy
   ·cases h
theorem toFV_leaves {v:AV} {x:FV} (h:toFV v=some x):v.leaves=x.cells.map .f:=by
 unfold toFV at h
 split at h
 ·rename_i l
  simp only [Option.map_eq_some_iff] at h
  obtain ⟨m,h1,rfl⟩:=h
  exact (zhM h1).1
 ·rename_i y
  split at h
  ·rename_i hy;cases h
   cases x with
   | agg l=>simp [FV.one] at hy
   | _=>rfl
  ·cases h
 ·cases h
section
variable {nt b : Nat} {x : FV} {G : Sta} {own : Own} {a : Act} {w : World}
theorem Wk.fpz {v:AV} (hb6:b % 6=2) (hg:get G b=some v) (hx:toFV v=some x):Wk P nt G (fpzS b x G):=by
 intro own a w s
 have hb:b % 3=2:=by omega
 have hbm:isM b=false:=by rw [isM,hb6];rfl
 obtain ⟨k0,arr,T,e1,e2,e3⟩:=s.boxes b v (by omega) hbm hg
 have hn:∀ k,own k=none→ownX own b k=none:=fun k h=>by simp [ownX,h]
 have hk0:ownX own b k0=none:=by simp [ownX,e1]
 have hklt:k0 < w.heap.size:=s.lt _ _ e1
 have hbb:∀ {k c},c≠b→own k=some (.box c)→ownX own b k=some (.box c):=fun {k c} hc h=>by
  simp only [ownX];rw [if_neg (by rw [h];simp [hc])];exact h
 have hss:∀ {k c o},own k=some (.sl c o)→ownX own b k=some (.sl c o):=fun {k c o} h=>by
  simp only [ownX];rw [if_neg (by rw [h];simp)];exact h
 have hlv:=toFV_leaves hx
 have hfp:∀ o u,RC own w (.ptr b o) u→RC (ownX own b) w (.fp x o) u:=by
  rintro o u h
  obtain ⟨k,h1,rfl⟩:=RC.ptr (w:=w) h hbm
  have:k=k0:=s.one _ _ _ h1 e1
  subst this
  refine ⟨k,0,by simp,hk0,hklt,fun j y hy=>?_⟩
  have hl:v.leaves[j]?=some (.f y):=by rw [hlv,List.getElem?_map,hy];rfl
  have hj:j < arr.size:=by rw [← e3.1];exact (List.getElem?_eq_some_iff.1 hl).1
  have hr:=e3.2 j (.f y) arr[j] hl (by simp [hj])
  refine ⟨arr[j],?_,(show RC own w (.f y) arr[j] from hr).2.mono0 hn⟩
  simp [World.cell?,e2,hj]
 have hC:∀ v u,RC own w v u→RC (ownX own b) w (fpzC b x v) u:=by
  intro v u h
  cases v with
  | ptr c o=>
    simp only [fpzC]
    split
    ·rename_i e;subst e;exact hfp o u h
    ·rename_i e;obtain ⟨k,h1,h2⟩:=h;exact ⟨k,hbb e h1,h2⟩
  | f y=>exact ⟨h.1,h.2.mono0 hn⟩
  | fp y o=>obtain ⟨k,q,h1,h2,h3,h4⟩:=h;exact ⟨k,q,h1,hn _ h2,h3,fun j z hz=>let ⟨t,q1,q2⟩:=h4 j z hz;⟨t,q1,q2.mono0 hn⟩⟩
  | bad=>trivial
  | _=>exact h.elim
 have h0:∀ {v u},R0 P G own w v u→R0 P (fpzS b x G) (ownX own b) w (fpz0 b x v) u:=by
  intro v u h
  cases v with
  | clo g caps=>
    obtain ⟨ar,h1,h2,h3⟩:=h
    refine ⟨ar,h1,by simpa using h2,fun j y z q1 q2=>?_⟩
    rw [List.getElem?_map] at q1
    cases hj:caps[j]? with
    | none=>rw [hj] at q1;cases q1
    | some t=>rw [hj] at q1;cases q1;exact hC _ _ (h3 j t z hj q2)
  | rf c o i n=>trivial
  | ep c o i n=>trivial
  | ptr c o=>
    have:=hC (.ptr c o) u h
    simp only [fpz0,fpzC] at this ⊢
    split
    ·rename_i e;rw [if_pos e] at this;exact this
    ·rename_i e;rw [if_neg e] at this;exact this
  | f y=>exact hC (.f y) u h
  | fp y o=>exact hC (.fp y o) u h
  | bad=>trivial
  | ln n=>exact h
  | _=>exact h.elim
 have hO:∀ {c j v u},c≠b→RO P G own w c j v u→RO P (fpzS b x G) (ownX own b) w c j (fpz0 b x v) u:=by
  intro c j v u hc h
  cases v with
  | own E l=>
    obtain ⟨ad,cp,h1,h2,h3⟩:=h
    refine ⟨ad,cp,h1,h2,h3.imp id ?_⟩
    rintro ⟨k,q1,q2,arr',q3,q4,q5,q6⟩
    exact ⟨k,q1,hss q2,arr',q3,q4,q5,fun i y j z z1 z2=>let ⟨t,t1,t2⟩:=q6 i y j z z1 z2;⟨t,t1,t2.mono0 hn⟩⟩
  | _=>
    all_goals
     rw [zgp (by simp)] at h
     have h':=h0 h
     rw [zgp];exact h'
     intro E l e;simp only [fpz0] at e;first | (split at e<;>cases e) | cases e
 have h1:∀ {v u},R1 P G own w v u→R1 P (fpzS b x G) (ownX own b) w (fpz1 b x v) u:=by
  intro v u h
  have key:∀ v,(∀ l,v≠.agg l)→R1 P G own w v u→R1 P (fpzS b x G) (ownX own b) w (fpz0 b x v) u:=by
   intro v hv h
   rw [r1_r0 hv] at h
   have h':=h0 h
   rw [r1_r0];exact h'
   intro l e
   cases v<;>simp only [fpz0] at e<;>first | exact hv _ rfl | (split at e<;>cases e) | cases e
  cases v with
  | agg l=>
    obtain ⟨ar,z1,z2,z3⟩:=h
    refine ⟨ar,z1,by simpa using z2,fun j y z q1 q2=>?_⟩
    rw [List.getElem?_map] at q1
    cases hj:l[j]? with
    | none=>rw [hj] at q1;cases q1
    | some t=>rw [hj] at q1;cases q1;exact h0 (z3 j t z hj q2)
  | _=>exact key _ (by simp) h
 have hL:∀ {c v u},c≠b→RL P G own w c v u→RL P (fpzS b x G) (ownX own b) w c (fpz2 b x v) u:=by
  intro c v u hc h
  cases v with
  | agg l=>
    obtain ⟨ar,z1,z2,z3⟩:=h
    refine ⟨ar,z1,by simpa using z2,fun j y z q1 q2=>?_⟩
    rw [List.getElem?_map] at q1
    cases hj:l[j]? with
    | none=>rw [hj] at q1;cases q1
    | some t=>rw [hj] at q1;cases q1;exact hO hc (z3 j t z hj q2)
  | tup l=>
    obtain ⟨ar,z1,z2,z3⟩:=h
    refine ⟨ar,z1,by simpa using z2,fun j y z q1 q2=>?_⟩
    rw [List.getElem?_map] at q1
    cases hj:l[j]? with
    | none=>rw [hj] at q1;cases q1
    | some t=>rw [hj] at q1;cases q1;exact h1 (z3 j t z hj q2)
  | bad=>exact hO (j:=0) (u:=u) (v:=.bad) hc h
  | ptr d o=>
    have:=hO (j:=0) (u:=u) (v:=.ptr d o) hc h
    simp only [fpz0,fpz2] at this ⊢
    split
    ·rename_i e;rw [if_pos e] at this;exact this
    ·rename_i e;rw [if_neg e] at this;exact this
  | f y=>exact hO (j:=0) (u:=u) (v:=.f y) hc h
  | fp y o=>exact hO (j:=0) (u:=u) (v:=.fp y o) hc h
  | ep q1 q2 q3 q4=>exact hO (j:=0) (u:=u) (v:=.ep q1 q2 q3 q4) hc h
  | rf q1 q2 q3 q4=>exact hO (j:=0) (u:=u) (v:=.rf q1 q2 q3 q4) hc h
  | own E l=>exact hO (j:=0) (u:=u) (v:=.own E l) hc h
  | clo g caps=>exact hO (j:=0) (u:=u) (v:=.clo g caps) hc h
  | ln n=>exact hO (j:=0) (u:=u) (v:=.ln n) hc h
 have hleaves:∀ v:AV,(fpz2 b x v).leaves.length=v.leaves.length∧(∀ (j:Nat) y,(fpz2 b x v).leaves[j]?=some y→(∃ z,v.leaves[j]?=some z∧y=fpz0 b x z)∨∃ l,v=.tup l):=by
  intro v
  have key:∀ v,fpz2 b x v=fpz0 b x v→(∀ l,v≠.agg l)→(fpz2 b x v).leaves.length=v.leaves.length∧(∀ (j:Nat) y,(fpz2 b x v).leaves[j]?=some y→(∃ z,v.leaves[j]?=some z∧y=fpz0 b x z)∨∃ l,v=.tup l):=by
   intro v e hv
   have l1:v.leaves=[v]:=by cases v<;>first | rfl | exact absurd rfl (hv _)
   have l2:(fpz0 b x v).leaves=[fpz0 b x v]:=by
    cases v<;>simp only [fpz0]<;>first | rfl | exact absurd rfl (hv _) | (split<;>rfl)
   rw [e,l1,l2]
   refine ⟨rfl,fun j y h=>.inl ?_⟩
   cases j with
   | zero=>simp at h;exact ⟨v,rfl,h.symm⟩
   | succ j=>simp at h
  cases v with
  | agg l=>
    refine ⟨by simp [fpz2,AV.leaves],fun j y h=>.inl ?_⟩
    simp only [fpz2,AV.leaves,List.getElem?_map] at h ⊢
    cases hj:l[j]? with
    | none=>rw [hj] at h;cases h
    | some z=>rw [hj] at h;cases h;exact ⟨z,rfl,rfl⟩
  | tup l=>exact ⟨rfl,fun j y h=>.inr ⟨l,rfl⟩⟩
  | _=>exact key _ rfl (by simp)
 refine ⟨ownX own b,⟨s.size,fun t v' e=>?_,fun c v' hc hm e=>?_,fun c v' hm e=>?_,fun c v' hm e=>?_,fun k k' o q1 q2=>?_,fun k o q=>?_⟩,⟨Nat.le_refl _,fun k hk h=>⟨hn k h,rfl⟩,rfl,rfl,rfl,fun k o h=>⟨?_,rfl⟩,fun k c hc h=>?_⟩⟩
 ·rw [zgE] at e
  split at e
  ·cases e
  ·rename_i hne
   cases hq:get G (tb t) with
   | none=>rw [hq] at e;cases e
   | some z=>rw [hq] at e;cases e;obtain ⟨u,u1,u2⟩:=s.temps t z hq;exact ⟨u,u1,hL hne u2⟩
 ·rw [zgE] at e
  split at e
  ·cases e
  ·rename_i hne
   cases hq:get G c with
   | none=>rw [hq] at e;cases e
   | some z=>
     rw [hq] at e;cases e
     obtain ⟨k,ar,TT,z1,z2,z3⟩:=s.boxes c z hc hm hq
     obtain ⟨l1,l2⟩:=hleaves z
     refine ⟨k,ar,TT,hbb hne z1,z2,by rw [l1];exact z3.1,fun j y u q1 q2=>?_⟩
     rcases l2 j y q1 with ⟨y',q3,rfl⟩ | ⟨l,rfl⟩
     ·exact hO hne (z3.2 j y' u q3 q2)
     ·exfalso
      have hj:j=0:=by
       have:=(List.getElem?_eq_some_iff.1 q1).1
       simp [fpz2,AV.leaves] at this;exact this
      subst hj
      exact z3.2 0 (.tup l) u rfl q2
 ·rw [zgE] at e
  split at e
  ·cases e
  ·rename_i hne
   cases hq:get G c with
   | none=>rw [hq] at e;cases e
   | some z=>
     rw [hq] at e;cases e
     obtain ⟨k,es,ck,z1,z2,z3⟩:=s.maps c z hm hq
     refine ⟨k,es,ck,hbb hne z1,z2,?_⟩
     rcases z3 with rfl | ⟨L,rfl,q1,q2⟩
     ·exact .inl rfl
     ·refine .inr ⟨L,rfl,q1,fun i x e h1 h2=>?_⟩
      obtain ⟨y,t,h3,h4,h5⟩:=q2 i x e h1 h2
      exact ⟨y,t,h3,h4.mono0 hn,h5.mono0 hn⟩
 ·rw [zgE] at e
  split at e
  ·cases e
  ·rename_i hne
   cases hq:get G c with
   | none=>rw [hq] at e;cases e
   | some z=>
     rw [hq] at e;cases e
     obtain ⟨e1,u,e2⟩:=s.ghosts c z hm hq
     have e3:fpz2 b x z=fpz0 b x z:=by cases z<;>first | rfl | simp [AV.isLeaf] at e1
     rw [e3]
     refine ⟨?_,u,hO hne e2⟩
     cases z<;>simp only [fpz0]<;>first | rfl | (simp [AV.isLeaf] at e1;done) | (split<;>rfl)
 ·have g:∀ {k o},ownX own b k=some o→own k=some o:=fun {k o} h=>by simp only [ownX] at h;split at h;cases h;exact h
  exact s.one _ _ _ (g q1) (g q2)
 ·have g:∀ {k o},ownX own b k=some o→own k=some o:=fun {k o} h=>by simp only [ownX] at h;split at h;cases h;exact h
  exact s.lt _ _ (g q)
 ·simp only [ownX];rw [if_neg (by rw [h];simp)];exact h
 ·simp only [ownX];rw [if_neg (by rw [h];simp;omega)];exact h
end
end Go.Ev
namespace Go.Ev
open Go Go.RowKit
variable {P : Program}
def pickS:List Nat→Sta→Sta
 | [],_=>[]
 | b :: r,G=>match get G b with
   | some v=>(b,v) :: pickS r G
   | none=>pickS r G
theorem zi3 {b:Nat} {v:AV} {G:Sta}:∀ {l:List Nat},get (pickS l G) b=some v→get G b=some v
 | [],h=>by cases h
 | c :: r,h=>by
   unfold pickS at h
   split at h
   ·rename_i x hx
    simp only [get] at h
    split at h
    ·rename_i e;cases h;rw [e];exact hx
    ·exact zi3 h
   ·exact zi3 h
theorem Wk.pick {nt:Nat} {G G':Sta} (l:List Nat) (h:pickS l G=G'):Wk P nt G G':=by
 subst h
 exact fun own a w s=>⟨own,s.sub (fun b v e=>zi3 e),Tr.refl _ _⟩
theorem rndE {c:Cfg} {bs:List Nat} {J:List AV→Prop} {G G':Sta} {cs':List AV} (hw:Wk P c.nt G G') (h1:evOuts bs.length 0 G'=some (cs'.map (ren1 (toOut bs)))) (h2:J cs') :
 rndK P c bs J .normal G:=⟨G',cs',hw,h1,h2⟩
end Go.Ev
namespace Go.Ev
open Go Go.RowKit
variable {P : Program}
def insS (b:Nat) (v:AV):Sta→Sta
 | []=>[(b,v)]
 | (a,x) :: m=>match Nat.blt b a with
   | true=>(b,v) :: (a,x) :: m
   | false=>match Nat.beq b a with
     | true=>(b,v) :: m
     | false=>(a,x) :: insS b v m
def inss:Sta→Sta→Sta
 | [],G=>G
 | (b,v) :: r,G=>inss r (insS b v G)
def edt (dr:List Nat) (ch:Sta) (G:Sta):Sta:=inss ch (dropN (fun b=>dr.contains b) G)
def keysOf:Sta→List Nat
 | []=>[]
 | (b,_) :: r=>b :: keysOf r
section
variable {c : Cfg} {G G' : Sta} {K : Ex → Sta → Prop} {x : Code}
theorem sD (hc:COk P c) (q:List Ora) (dr:List Nat) (ch:Sta) {obs:List Prop} (ho:AllP obs) (hk:Sem P c (sq2 x) (edt dr ch G) K) (e:x=.seq (sq1 x) (sq2 x):=by kernel_rfl)
 (h:evReg P c (sq1 x) q [] (keysOf (edt dr ch G)) G=some (obs,edt dr ch G):=by kernel_rfl):Sem P c x G K:=Sem.seqR hc e h ho hk
theorem rD (hc:COk P c) (q:List Ora) (dr:List Nat) (ch:Sta) {obs:List Prop} (ho:AllP obs) (hk:K .normal (edt dr ch G))
 (h:evReg P c x q [] (keysOf (edt dr ch G)) G=some (obs,edt dr ch G):=by kernel_rfl):Sem P c x G K:=Sem.region hc h ho hk
theorem wkD (dr:List Nat) (k:Sem P c x (edt dr [] G) K):Sem P c x G K:=Sem.weak (Wk.drop _) k
theorem cD {t:Nat} {b:Bool} (h1:b=true→Sem P c (sq1 x) G K) (h2:b=false→Sem P c (sq2 x) G K) (e:x=.cond (.tmp t) (sq1 x) (sq2 x):=by kernel_rfl) (hg:get G (tb t)=some (.f (.pv (.bool b))):=by kernel_rfl):Sem P c x G K:=Sem.cond' e hg h1 h2
theorem qD (h:Sem P c (sq1 x) G (seqK K fun G'=>Sem P c (sq2 x) G' K)) (e:x=.seq (sq1 x) (sq2 x):=by kernel_rfl):Sem P c x G K:=Sem.seq' e h
theorem xD {i:Nat} (h:K (.exit i) G) (e:x=.exit i:=by kernel_rfl):Sem P c x G K:=Sem.exit' e Wk.refl h
theorem tD (h:K .ret G) (e:x=.ret:=by kernel_rfl):Sem P c x G K:=Sem.ret' e Wk.refl h
theorem kD (h:K .normal G) (e:x=.skip:=by kernel_rfl):Sem P c x G K:=Sem.skip' e Wk.refl h
theorem bD {id:Nat} (h:Sem P c (sq1 x) G (blockK id K)) (e:x=.block id (sq1 x):=by kernel_rfl):Sem P c x G K:=Sem.block' e h
theorem jD {nt:Nat} {σ:Type} {J:σ→Prop} {st:σ→Sta} (s:σ) (fz:List (Nat×Nat)) (h:J s) (hw:Ev.tidy fz (keysOf (st s)) G=st s:=by kernel_rfl):∃ s,Wk P nt G (st s)∧J s:=⟨s,Wk.eq hw,h⟩
theorem lD {nt:Nat} {σ:Type} {Inv:σ→Prop} {st:σ→Sta} {μ:σ→Nat} {s0:σ} (s:σ) (fz:List (Nat×Nat)) (h:Inv s∧μ s < μ s0) (hw:Ev.tidy fz (keysOf (st s)) G=st s:=by kernel_rfl):∃ s',Wk P nt G (st s')∧Inv s'∧μ s' < μ s0:=⟨s,Wk.eq hw,h⟩
theorem sjD {σ:Type} (J:σ→Prop) (st:σ→Sta) (h2:∀ s,J s→Sem P c (sq2 x) (st s) K)
 (h1:Sem P c (sq1 x) G (seqK K fun G'=>∃ s,Wk P c.nt G' (st s)∧J s)) (e:x=.seq (sq1 x) (sq2 x):=by kernel_rfl):Sem P c x G K:=Sem.seqJ J st e h2 h1
end
theorem fD {c:Cfg} {fn:Func} {x:Code} {g:FuncId} {args outs outs':List AV} {r:AV} (hc:COk P c) (hf:P.funcs[g]?=some fn)
 (h:Sem P c x (entryF 64 0 args outs) fun e G=>∃ G',Wk P c.nt G G'∧endK (CallE P) c fn.results.toList outs.length (fun r' o'=>r'=r∧o'=outs') e G')
 (hnm:(fn.name == "runtime.NumGoroutine")=false:=by rfl) (hb:fn.body=some x:=by rfl) (hnt:c.nt=fn.ntmps:=by rfl) (hlen:args.length≤fn.ntmps:=by exact Nat.le_of_ble_eq_true rfl) (ha:args.all argOk=true:=by rfl) (ho:outs.all (shut1 true fun _=>true)=true:=by rfl)
 (hl2:args.length+outs.length≤64:=by exact Nat.le_of_ble_eq_true rfl):CallE P g args outs r outs':=zd1 hc hf hnm hb hnt hlen ha ho hl2 h
theorem gtt {b:Bool} (h:b=true):(b == true)=true:=by rw [h];rfl
theorem gtf {b:Bool} (h:b=false):(b == true)=false:=by rw [h];rfl
theorem sM {c:Cfg} {G:Sta} {K:Ex→Sta→Prop} {x:Code} (dr:List Nat) (ch:Sta) (h:Sem P c (sq2 x) (edt dr ch G) K) (k:Sem P c (sq2 x) (edt dr ch G) K→Sem P c x G K):Sem P c x G K:=k h
theorem rM {c:Cfg} {G:Sta} {K:Ex→Sta→Prop} {x:Code} (dr:List Nat) (ch:Sta) (h:K .normal (edt dr ch G)) (k:K .normal (edt dr ch G)→Sem P c x G K):Sem P c x G K:=k h
theorem n0:(∀ (α:Type) (l:List α),l.drop 0=l)∧(∀ (α:Type) (l:List α),l.take l.length=l):=⟨fun _ _=>rfl,fun _ _=>List.take_length⟩
theorem nm:((∀ (α β:Type) (f:α→β) (l:List α),(List.map f l).length=l.length)∧(∀ (α:Type) (l m:List α),(l++m).length=l.length+m.length)∧(∀ (α:Type) (a:α) (l:List α),(a :: l).length=l.length+1)∧
 (∀ (α:Type),([]:List α).length=0)∧(∀ (α:Type) (l:List α) (i:Nat) (a:α),(l.set i a).length=l.length)∧(∀ (α:Type) (n:Nat) (a:α),(List.replicate n a).length=n)∧
 (∀ (α:Type) (l:List α),l.drop 0=l)∧(∀ (α:Type) (l:List α),l.take l.length=l)∧(∀ (α β:Type) (f:α→β),List.map f []=[])∧(∀ (α β:Type) (f:α→β) (a:α) (l:List α),List.map f (a :: l)=f a :: List.map f l)∧
 (∀ (α β:Type) (f:α→β) (l m:List α),List.map f (l++m)=List.map f l++List.map f m)∧(∀ (α β:Type) (f:α→β) (l:List α) (i:Nat) (a:α),List.map f (l.set i a)=(List.map f l).set i (f a))∧
 (∀ (α β:Type) (f:α→β) (l:List α) (i:Nat),List.map f (l.take i)=(List.map f l).take i)∧(∀ (α β:Type) (f:α→β) (l:List α) (i:Nat),List.map f (l.drop i)=(List.map f l).drop i)∧
 (∀ (α β:Type) (f:α→β) (n:Nat) (a:α),List.map f (List.replicate n a)=List.replicate n (f a))∧(∀ n:Nat,((n:Int)).toNat=n)∧(∀ n:Nat,0+n=n)∧(∀ (α:Type) (n:Nat) (a:α) (l:List α),(a :: l).take (n+1)=a :: l.take n)∧
 (∀ (α:Type) (l:List α),l.take 0=[])∧(∀ (α:Type) (n:Nat),([]:List α).take n=[])∧(∀ n:Nat,n - 0=n)∧(∀ (α:Type) (l:List α),l++[]=l)∧(∀ (α:Type) (l:List α),[]++l=l)∧
 (∀ (α:Type) (E:TypeId) (enc:α→FV) (l:List α),oL E enc l=.own E (List.map enc l))∧(∀ (α:Type) (enc:α→FV) (l:List α),vL enc l=.f (.sl (List.map enc l)))∧(∀ (α:Type) (enc:α→FV) (l:List α),fL enc l=.sl (List.map enc l))∧
 (∀ n,vi n=.f (.pv (.int .i64 n)))∧(∀ k n,vI k n=.f (.pv (.int k n)))∧(∀ b,vB b=.f (.pv (.bool b)))∧(∀ b,vS b=.f (.pv (.string b)))∧(∀ n,fi n=.pv (.int .i64 n))∧(∀ b,fB b=.pv (.bool b))∧((0:Int).toNat=0)∧(∀ (α:Type) (l:List α),l.drop l.length=[]))∧
 (∀ (α:Type) (a b:α),(if True then a else b)=a)∧(∀ (α:Type) (a:α),(a=a)=True)∧(∀ p:Prop,(True∧p)=p)∧(∀ p:Prop,(p∧True)=p)∧(∀ n:Nat,(n≤n)=True)∧(∀ n:Nat,(0≤n)=True)∧(∀ (α β:Type) (f:α→β) (l:List α),(List.map f l).take l.length=List.map f l):=
 ⟨nrm,fun _ _ _=>if_pos trivial,fun _ _=>by simp,fun _=>by simp,fun _=>by simp,fun _=>by simp,fun _=>by simp,fun _ _ _ _=>by rw [← List.map_take,List.take_length]⟩
def sput {α:Type} [DecidableEq α] (k:α):List α→List α
 | []=>[k]
 | a :: r=>if k=a then k :: r else a :: sput k r
theorem putE_set {α:Type} [DecidableEq α] (kf:α→Value) (enc:α→FV) (he:∀ a,enc a=.agg [.pv (kf a),.agg []]) (hk:∀ a b,keyEq (kf a) (kf b)=decide (a=b)) (k:α):∀ l:List α,putE (kf k) (.agg []) (List.map enc l)=List.map enc (sput k l)
 | []=>by simp [putE,sput,he]
 | a :: r=>by
   simp only [List.map_cons,putE,sput,he,entIs,hk,decide_eq_true_eq]
   split
   ·simp [he]
   ·simp [he,putE_set kf enc he hk k r]
theorem keyEq_str (a b:ByteArray):keyEq (.string a) (.string b)=decide (a=b):=by
 rw [Bool.eq_iff_iff];simp [keyEq,MapKept.bytes_beq]
theorem keyEq_int (k k':IntKind) (a b:Int):keyEq (.int k a) (.int k' b)=decide (a=b):=by
 rw [Bool.eq_iff_iff];simp [keyEq]
end Go.Ev
