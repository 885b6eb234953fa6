import Derived.Below
import Derived.OrdersIn
import Derived.RangeFuncIn
import Derived.ChangeKeysEq
import Derived.Laws.StructEq
import Derived.Laws.Cells
set_option linter.unusedVariables false
namespace Go.Ev
open Go
inductive FV where
 | pv (v:Value)
 | agg (l:List FV)
 | sl (l:List FV)
 deriving Inhabited
def FV.cells:FV→List FV
 | .agg l=>l
 | .pv v=>[.pv v]
 | .sl l=>[.sl l]
def FV.size (x:FV):Nat:=x.cells.length
inductive AV where
 | bad
 | f (x:FV)
 | ptr (b off:Nat)
 | fp (x:FV) (off:Nat)
 | ep (b off i c:Nat)
 | rf (b off i n:Nat)
 | own (E:TypeId) (l:List FV)
 | clo (g:FuncId) (caps:List AV)
 | agg (l:List AV)
 | tup (l:List AV)
 | ln (n:Nat)
 deriving Inhabited
def AV.leaves:AV→List AV
 | .agg l=>l
 | v=>[v]
abbrev Sta:=List (Nat×AV)
def tb (t:Nat):Nat:=3 * t+1
def xb (t:Nat):Nat:=6 * t+2
def mb (t:Nat):Nat:=12 * t+5
def gb (t:Nat):Nat:=12 * t+11
def isM (b:Nat):Bool:=Nat.beq (b % 6) 5
def isMM (b:Nat):Bool:=Nat.beq (b % 12) 5
def isG (b:Nat):Bool:=Nat.beq (b % 12) 11
def ob (i:Nat):Nat:=3 * i+3
def get:Sta→Nat→Option AV
 | [],_=>none
 | (a,x) :: m,b=>if b=a then some x else get m b
def ins (b:Nat) (v:AV):Sta→Sta
 | []=>[(b,v)]
 | (a,x) :: m=>if b < a then (b,v) :: (a,x) :: m else if b=a then (b,v) :: m else (a,x) :: ins b v m
def mapv (g:AV→AV):Sta→Sta
 | []=>[]
 | (a,x) :: m=>(a,g x) :: mapv g m
def upd (b:Nat) (g:AV→AV):Sta→Sta
 | []=>[]
 | (a,x) :: m=>if b=a then (a,g x) :: m else (a,x) :: upd b g m
def AV.map1 (g:AV→AV):AV→AV
 | .agg l=>.agg (l.map g)
 | v=>g v
def AV.map2 (g:AV→AV):AV→AV
 | .tup l=>.tup (l.map (AV.map1 g))
 | .agg l=>.agg (l.map g)
 | v=>g v
def killr (b:Nat) (o:Option Nat):AV→AV
 | .rf c p i n=>if c=b∧(o=none∨o=some p) then .bad else .rf c p i n
 | .ep c p i n=>if c=b∧(o=none∨o=some p) then .bad else .ep c p i n
 | v=>v
def AV.isPtr (b:Nat):AV→Bool
 | .ptr c _=>c == b
 | _=>false
def killp (b:Nat):AV→AV
 | .ptr c o=>if c=b then .bad else .ptr c o
 | .clo g caps=>if caps.any (AV.isPtr b) then .bad else .clo g caps
 | v=>v
def killb (b:Nat) (v:AV):AV:=killr b none (killp b v)
def AV.toLeaf:AV→AV
 | .agg _=>.bad
 | .tup _=>.bad
 | v=>v
def putV (v:AV) (x:AV):AV:=if v.leaves.length=x.leaves.length then v else x
def setLeaf (o:Nat) (v:AV):AV→AV
 | .agg l=>.agg (l.set o v.toLeaf)
 | x=>if o=0 then v.toLeaf else x
def frz:AV→AV
 | .own _ l=>.f (.sl l)
 | v=>v
def mapLeaf (o:Nat) (g:AV→AV):AV→AV
 | .agg l=>.agg (l.modify o g)
 | x=>if o=0 then g x else x
inductive Up where
 | set (b:Nat) (v:AV)          -- a temp,or a new box
 | put (b:Nat) (v:AV)          -- an old box's content
 | leaf (b o:Nat) (v:AV)
 | upo (b o:Nat) (v:AV)        -- an owned slice's elements turn;views of it stay
 | frz (b o:Nat)
 | newbox (b:Nat) (v:AV)
def Up.app:Up→Sta→Sta
 | .set b v,G=>ins b v (mapv (AV.map2 (killr b none)) G)
 | .put b v,G=>upd b (putV v) (mapv (AV.map2 (killr b none)) G)
 | .leaf b o v,G=>upd b (setLeaf o v) (mapv (AV.map2 (killr b (some o))) G)
 | .upo b o v,G=>upd b (setLeaf o v) G
 | .frz b o,G=>upd b (mapLeaf o Ev.frz) G
 | .newbox b v,G=>ins b v (mapv (AV.map2 (killb b)) G)
def app:List Up→Sta→Sta
 | [],G=>G
 | u :: r,G=>app r (u.app G)
inductive Acc where
 | all (b:Nat)
 | leaf (b o:Nat)
 | id (b:Nat)
 deriving DecidableEq
def Acc.meets:Acc→Acc→Bool
 | .all a,.all b=>a == b
 | .all a,.leaf b _=>a == b
 | .leaf a _,.all b=>a == b
 | .leaf a o,.leaf b p=>a == b && o == p
 | .id a,.id b=>a == b
 | _,_=>false
def Up.writes:Up→List Acc
 | .set b _=>[.all b,.id b]
 | .put b _=>[.all b]
 | .leaf b o _=>[.leaf b o]
 | .upo b o _=>[.leaf b o]
 | .frz b o=>[.leaf b o]
 | .newbox b _=>[.all b,.id b]
def AV.refs0:AV→List Acc
 | .rf b o _ _=>[.leaf b o]
 | .ep b o _ _=>[.leaf b o]
 | .ptr b _=>[.id b]
 | .clo _ caps=>caps.filterMap fun | .ptr b _=>some (.id b) | _=>none
 | _=>[]
def AV.refs1:AV→List Acc
 | .agg l=>l.flatMap AV.refs0
 | v=>v.refs0
def AV.refs:AV→List Acc
 | .tup l=>l.flatMap AV.refs1
 | v=>v.refs1
def AV.isBad:AV→Bool
 | .bad=>true
 | _=>false
def AV.ok1:AV→Bool
 | .agg l=>l.all fun v=>!v.isBad
 | v=>!v.isBad
def AV.ok:AV→Bool
 | .tup l=>l.all AV.ok1
 | v=>v.ok1
def Up.refs:Up→List Acc
 | .set _ v=>v.refs
 | .put _ v=>v.refs
 | .leaf _ _ v=>v.refs
 | .upo _ _ v=>v.refs
 | .newbox _ v=>v.refs
 | _=>[]
def AV.isLeaf:AV→Bool
 | .agg _=>false
 | .tup _=>false
 | _=>true
def look (G:Sta) (b:Nat):Option Nat→Option AV
 | none=>get G b
 | some o=>(get G b).bind fun v=>(v.leaves[o]?).filter AV.isLeaf
inductive RM where
 | ret (U:List Up)
 | fail
 | ask (b:Nat) (o:Option Nat) (k:AV→RM)
 | peek (b:Nat) (k:Nat→RM)
 | call (g:FuncId) (args outs:List AV) (k:AV→List AV→RM)
abbrev CEx:=FuncId→List AV→List AV→AV→List AV→Prop
def accOf (b:Nat):Option Nat→Acc
 | none=>.all b
 | some o=>.leaf b o
def RM.wp (CE:CEx) (G:Sta):RM→List Acc→(List Up→List Acc→Prop)→Prop
 | .ret U,T,K=>K U T
 | .fail,_,_=>False
 | .ask b o k,T,K=>∃ v,look G b o=some v∧v.ok=true∧(k v).wp CE G (T++accOf b o :: v.refs) K
 | .peek b k,T,K=>∃ v,get G b=some v∧(k v.leaves.length).wp CE G (T++[.id b]) K
 | .call g args outs k,T,K=>∃ r outs',CE g args outs r outs'∧(k r outs').wp CE G T K
end Go.Ev
set_option linter.unusedSimpArgs false
namespace Go.Ev
open Go
theorem zaK (b:Nat) (v:AV) (c:Nat):∀ G,get (ins b v G) c=if c=b then some v else get G c
 | []=>by simp [ins,get]
 | (a,x) :: m=>by
   have ih:=zaK b v c m
   unfold ins
   split
   ·simp [get]
   ·split
    ·rename_i h;subst h;simp only [get];split<;>simp_all
    ·rename_i h1 h2
     simp only [get,ih]
     by_cases hc:c=a
     ·subst hc;rw [if_pos rfl,if_pos rfl,if_neg (fun e=>h2 e.symm)]
     ·rw [if_neg hc,if_neg hc]
theorem zab (g:AV→AV) (c:Nat):∀ G,get (mapv g G) c=(get G c).map g
 | []=>rfl
 | (a,x) :: m=>by simp only [mapv,get,zab g c m];split<;>rfl
theorem zaj (b:Nat) (g:AV→AV) (c:Nat):∀ G,get (upd b g G) c=if c=b then (get G b).map g else get G c
 | []=>by simp [upd,get]
 | (a,x) :: m=>by
   have ih:=zaj b g c m
   unfold upd
   split
   ·rename_i h;subst h;simp only [get];by_cases hc:c=b<;>simp [hc]
   ·rename_i h
    simp only [get,ih]
    by_cases hc:c=a
    ·subst hc;rw [if_pos rfl,if_neg (fun e=>h e.symm),if_pos rfl]
    ·rw [if_neg hc,if_neg hc];by_cases hb:c=b
     ·rw [if_pos hb,if_pos hb,if_neg h]
     ·rw [if_neg hb,if_neg hb]
theorem ins_comm {b c:Nat} (h:b≠c) (v u:AV):∀ G,ins b v (ins c u G)=ins c u (ins b v G)
 | []=>by
   by_cases h1:b < c
   ·have h2:¬ c < b:=by omega
    have h3:¬ c=b:=by omega
    simp [ins,h1,h2,h3]
   ·have h2:c < b:=by omega
    have h3:¬ b=c:=by omega
    simp [ins,h1,h2,h3]
 | (a,x) :: m=>by
   have ih:=ins_comm h v u m
   rcases Nat.lt_trichotomy b a with h1 | h1 | h1<;>rcases Nat.lt_trichotomy c a with h2 | h2 | h2
   ·rcases Nat.lt_or_ge b c with h3 | h3
    ·have e1:¬ c < b:=by omega
     have e2:¬ c=b:=by omega
     simp [ins,h1,h2,h3,e1,e2]
    ·have e0:c < b:=by omega
     have e1:¬ b < c:=by omega
     have e2:¬ b=c:=by omega
     simp [ins,h1,h2,e0,e1,e2]
   ·subst h2
    have e1:¬ c < b:=by omega
    have e2:¬ c=b:=by omega
    simp [ins,h1,e1,e2]
   ·have e0:b < c:=by omega
    have e1:¬ c < b:=by omega
    have e2:¬ c=b:=by omega
    have e3:¬ c < a:=by omega
    have e4:¬ c=a:=by omega
    simp [ins,h1,e1,e2,e3,e4]
   ·subst h1
    have e1:¬ b < c:=by omega
    have e2:¬ b=c:=by omega
    simp [ins,h2,e1,e2]
   ·exact absurd (h1.trans h2.symm) h
   ·subst h1
    have e1:¬ c < b:=by omega
    have e2:¬ c=b:=by omega
    simp [ins,e1,e2]
   ·have e0:c < b:=by omega
    have e1:¬ b < c:=by omega
    have e2:¬ b=c:=by omega
    have e3:¬ b < a:=by omega
    have e4:¬ b=a:=by omega
    simp [ins,h2,e1,e2,e3,e4]
   ·subst h2
    have e1:¬ b < c:=by omega
    have e2:¬ b=c:=by omega
    simp [ins,e1,e2]
   ·have e1:¬ b < a:=by omega
    have e2:¬ b=a:=by omega
    have e3:¬ c < a:=by omega
    have e4:¬ c=a:=by omega
    simp [ins,e1,e2,e3,e4,ih]
theorem ins_upd {b c:Nat} (h:b≠c) (v:AV) (g:AV→AV):∀ G,ins b v (upd c g G)=upd c g (ins b v G)
 | []=>by simp [ins,upd];intro e;exact absurd e.symm h
 | (a,x) :: m=>by
   have ih:=ins_upd h v g m
   have hcb:¬ c=b:=fun e=>h e.symm
   by_cases h2:c=a
   ·subst h2
    rcases Nat.lt_or_ge b c with h1 | h1
    ·simp [ins,upd,h1,hcb]
    ·have e1:¬ b < c:=by omega
     simp [ins,upd,e1,h]
   ·rcases Nat.lt_trichotomy b a with h1 | h1 | h1
    ·simp [ins,upd,h1,h2,hcb]
    ·subst h1;simp [ins,upd,hcb]
    ·have e1:¬ b < a:=by omega
     have e2:¬ b=a:=by omega
     simp [ins,upd,e1,e2,h2,ih]
theorem zfd {b c:Nat} (h:b≠c) (f g:AV→AV):∀ G,upd b f (upd c g G)=upd c g (upd b f G)
 | []=>rfl
 | (a,x) :: m=>by
   have ih:=zfd h f g m
   by_cases h1:b=a<;>by_cases h2:c=a
   ·exact absurd (h1.trans h2.symm) h
   ·subst h1;simp [upd,h2]
   ·subst h2;simp [upd,h1]
   ·simp [upd,h1,h2,ih]
theorem zgh {b:Nat} {f g:AV→AV} (h:∀ x,f (g x)=g (f x)):∀ G,upd b f (upd b g G)=upd b g (upd b f G)
 | []=>rfl
 | (a,x) :: m=>by
   have ih:=zgh (b:=b) h m
   by_cases h1:b=a
   ·subst h1;simp [upd,h]
   ·simp [upd,h1,ih]
theorem mapv_ins {g:AV→AV} (b:Nat) {v:AV} (h:g v=v):∀ G,mapv g (ins b v G)=ins b v (mapv g G)
 | []=>by simp [ins,mapv,h]
 | (a,x) :: m=>by
   have ih:=mapv_ins b h m
   simp only [ins,mapv]
   split
   ·simp [mapv,h]
   ·split<;>simp [mapv,h,ih]
theorem zgw {g f:AV→AV} (b:Nat) (h:∀ x,g (f x)=f (g x)):∀ G,mapv g (upd b f G)=upd b f (mapv g G)
 | []=>rfl
 | (a,x) :: m=>by
   have ih:=zgw b h m
   simp only [upd,mapv]
   split<;>simp [mapv,h,ih]
theorem mapv_mapv {f g:AV→AV} (h:∀ x,f (g x)=g (f x)):∀ G,mapv f (mapv g G)=mapv g (mapv f G)
 | []=>rfl
 | (a,x) :: m=>by simp [mapv,h,mapv_mapv h m]
structure Kl (φ:AV→AV):Prop where
 bad:φ .bad=.bad
 or:∀ v,φ v=v∨φ v=.bad
 agg:∀ l,φ (.agg l)=.agg l
 tup:∀ l,φ (.tup l)=.tup l
 frz:∀ v,φ (Ev.frz v)=Ev.frz (φ v)
theorem zbG (b:Nat) (o:Option Nat):Kl (killr b o):=by
 refine ⟨rfl,fun v=>?_,fun _=>rfl,fun _=>rfl,fun v=>?_⟩
 ·cases v with
  | rf c p i n=>simp only [killr];split;exact .inr rfl;exact .inl rfl
  | ep c p i n=>simp only [killr];split;exact .inr rfl;exact .inl rfl
  | _=>exact .inl rfl
 ·cases v with
  | rf c p i n=>simp only [killr,frz];split<;>rfl
  | ep c p i n=>simp only [killr,frz];split<;>rfl
  | _=>rfl
theorem kl_killp (b:Nat):Kl (killp b):=by
 refine ⟨rfl,fun v=>?_,fun _=>rfl,fun _=>rfl,fun v=>?_⟩
 ·cases v with
  | ptr c o=>simp only [killp];split;exact .inr rfl;exact .inl rfl
  | clo g caps=>simp only [killp];split;exact .inr rfl;exact .inl rfl
  | _=>exact .inl rfl
 ·cases v with
  | ptr c o=>simp only [killp,frz];split<;>rfl
  | clo g caps=>simp only [killp,frz];split<;>rfl
  | _=>rfl
theorem Kl.comp {f g:AV→AV} (hf:Kl f) (hg:Kl g):Kl (fun v=>f (g v)):=by
 refine ⟨by rw [hg.bad,hf.bad],fun v=>?_,fun l=>by rw [hg.agg,hf.agg],fun l=>by rw [hg.tup,hf.tup],fun v=>by rw [hg.frz,hf.frz]⟩
 rcases hg.or v with h | h<;>simp only [h]
 ·exact hf.or v
 ·rw [hf.bad];exact .inr rfl
theorem kl_killb (b:Nat):Kl (killb b):=(zbG b none).comp (kl_killp b)
theorem Kl.comm {f g:AV→AV} (hf:Kl f) (hg:Kl g) (v:AV):f (g v)=g (f v):=by
 rcases hf.or v with h1 | h1<;>rcases hg.or v with h2 | h2
 ·rw [h1,h2,h1]
 ·rw [h1,h2,hf.bad]
 ·rw [h1,h2,h1,hg.bad]
 ·rw [h1,h2,hf.bad,hg.bad]
theorem Kl.map1_comm {f g:AV→AV} (hf:Kl f) (hg:Kl g) (v:AV):AV.map1 f (AV.map1 g v)=AV.map1 g (AV.map1 f v):=by
 have key:∀ v:AV,(∀ l,v≠.agg l)→AV.map1 f (AV.map1 g v)=AV.map1 g (AV.map1 f v):=by
  intro v hv
  have e:∀ (φ:AV→AV),Kl φ→AV.map1 φ v=φ v∧(φ v=v∨φ v=.bad):=fun φ h=>⟨by cases v<;>first | rfl | exact absurd rfl (hv _),h.or v⟩
  obtain ⟨e1,e2⟩:=e f hf
  obtain ⟨e3,e4⟩:=e g hg
  rw [e1,e3]
  rcases e2 with h1 | h1<;>rcases e4 with h2 | h2<;>rw [h1,h2]
  ·rw [e1,e3,h1,h2]
  ·rw [e3,h2];simp [AV.map1,hf.bad]
  ·rw [e1,h1];simp [AV.map1,hg.bad]
  ·simp [AV.map1,hf.bad,hg.bad]
 cases v with
 | agg l=>simp [AV.map1,hf.comm hg]
 | _=>exact key _ (by simp)
theorem Kl.map2_comm {f g:AV→AV} (hf:Kl f) (hg:Kl g) (v:AV):AV.map2 f (AV.map2 g v)=AV.map2 g (AV.map2 f v):=by
 have key:∀ v:AV,(∀ l,v≠.agg l)→(∀ l,v≠.tup l)→AV.map2 f (AV.map2 g v)=AV.map2 g (AV.map2 f v):=by
  intro v hv ht
  have e:∀ (φ:AV→AV),Kl φ→AV.map2 φ v=φ v∧(φ v=v∨φ v=.bad):=fun φ h=>⟨by cases v<;>first | rfl | exact absurd rfl (hv _) | exact absurd rfl (ht _),h.or v⟩
  obtain ⟨e1,e2⟩:=e f hf
  obtain ⟨e3,e4⟩:=e g hg
  rw [e1,e3]
  rcases e2 with h1 | h1<;>rcases e4 with h2 | h2<;>rw [h1,h2]
  ·rw [e1,e3,h1,h2]
  ·rw [e3,h2];simp [AV.map2,hf.bad]
  ·rw [e1,h1];simp [AV.map2,hg.bad]
  ·simp [AV.map2,hf.bad,hg.bad]
 cases v with
 | agg l=>simp [AV.map2,hf.comm hg]
 | tup l=>simp only [AV.map2,List.map_map];congr 1;apply List.map_congr_left;intro x _;exact hf.map1_comm hg x
 | _=>exact key _ (by simp) (by simp)
def Up.kill:Up→AV→AV
 | .set b _=>killr b none
 | .put b _=>killr b none
 | .leaf b o _=>killr b (some o)
 | .newbox b _=>Ev.killb b
 | _=>fun v=>v
theorem kl_id:Kl (fun v=>v):=⟨rfl,fun v=>.inl rfl,fun _=>rfl,fun _=>rfl,fun _=>rfl⟩
theorem zc3 (v:AV):AV.map2 (fun v=>v) v=v:=by
 cases v<;>simp [AV.map2]
 rename_i l
 have:∀ l:List AV,l.map (AV.map1 fun v=>v)=l:=by
  intro l
  conv=>rhs;rw [← List.map_id l]
  apply List.map_congr_left
  intro x _
  cases x<;>simp [AV.map1]
 exact this l
theorem mapv_id:∀ G,mapv (AV.map2 fun v=>v) G=G
 | []=>rfl
 | (a,x) :: m=>by simp [mapv,zc3,mapv_id m]
theorem Up.kl (u:Up):Kl u.kill:=by
 cases u<;>simp only [Up.kill]<;>first | exact zbG _ _ | exact kl_killb _ | exact kl_id
inductive Md where
 | ins (b:Nat) (v:AV)
 | upd (b:Nat) (g:AV→AV)
 | no
def Md.app:Md→Sta→Sta
 | .ins b v,G=>Ev.ins b v G
 | .upd b g,G=>Ev.upd b g G
 | .no,G=>G
def Up.md:Up→Md
 | .set b v=>.ins b v
 | .put b v=>.upd b (putV v)
 | .leaf b o v=>.upd b (setLeaf o v)
 | .upo b o v=>.upd b (setLeaf o v)
 | .frz b o=>.upd b (mapLeaf o Ev.frz)
 | .newbox b v=>.ins b v
theorem Up.app_eq (u:Up) (G:Sta):u.app G=u.md.app (mapv (AV.map2 u.kill) G):=by
 cases u<;>simp [Up.app,Up.md,Md.app,Up.kill,mapv_id]
def Apart (A B:List Acc):Prop:=∀ a∈A,∀ b∈B,a.meets b=false
theorem zei {u:Up} {v:AV} (h:Apart v.refs0 u.writes):u.kill v=v:=by
 cases u<;>simp only [Up.kill]
 case set b w | put b w=>
  cases v<;>simp only [killr]<;>(try rfl)
  all_goals
   rw [if_neg]
   rintro ⟨rfl,_⟩
   have:=h _ (List.mem_cons_self ..) _ (List.mem_cons_self ..)
   simp [Acc.meets] at this
 case leaf b o w=>
  cases v<;>simp only [killr]<;>(try rfl)
  all_goals
   rw [if_neg]
   rintro ⟨rfl,h2⟩
   rcases h2 with h2 | h2
   ·cases h2
   ·cases h2
    have:=h _ (List.mem_cons_self ..) _ (List.mem_cons_self ..)
    simp [Acc.meets] at this
 case newbox b w=>
  have hb:∀ a∈v.refs0,a.meets (.all b)=false∧a.meets (.id b)=false:=fun a ha=>⟨h a ha _ (List.mem_cons_self ..),h a ha _ (by simp [Up.writes])⟩
  cases v with
  | ptr c o=>
    simp only [killb,killp];rw [if_neg];· rfl
    rintro rfl
    have:=(hb _ (List.mem_cons_self ..)).2
    simp [Acc.meets] at this
  | clo g caps=>
    simp only [killb,killp];rw [if_neg];· rfl
    intro hany
    obtain ⟨x,hx,hp⟩:=List.any_eq_true.1 hany
    cases x with
    | ptr c o=>
      simp only [AV.isPtr,beq_iff_eq] at hp;subst hp
      have:=(hb (.id c) (List.mem_filterMap.2 ⟨_,hx,rfl⟩)).2
      simp [Acc.meets] at this
    | _=>simp [AV.isPtr] at hp
  | rf c p i n=>
    simp only [killb,killp,killr];rw [if_neg]
    rintro ⟨rfl,_⟩
    have:=(hb _ (List.mem_cons_self ..)).1
    simp [Acc.meets] at this
  | ep c p i n=>
    simp only [killb,killp,killr];rw [if_neg]
    rintro ⟨rfl,_⟩
    have:=(hb _ (List.mem_cons_self ..)).1
    simp [Acc.meets] at this
  | _=>rfl
theorem ziU {u:Up} {v:AV} (h:Apart v.refs1 u.writes):AV.map1 u.kill v=v:=by
 cases v with
 | agg l=>
   simp only [AV.map1];congr 1
   conv=>rhs;rw [← List.map_id l]
   exact List.map_congr_left fun x hx=>zei fun a ha b hb=>h a (List.mem_flatMap.2 ⟨x,hx,ha⟩) b hb
 | _=>exact zei h
theorem zcH {u:Up} {v:AV} (h:Apart v.refs u.writes):AV.map2 u.kill v=v:=by
 cases v with
 | agg l=>exact ziU (v:=.agg l) h
 | tup l=>
   simp only [AV.map2];congr 1
   conv=>rhs;rw [← List.map_id l]
   exact List.map_congr_left fun x hx=>ziU fun a ha b hb=>h a (List.mem_flatMap.2 ⟨x,hx,ha⟩) b hb
 | _=>exact zei h
theorem kill_leaf {u:Up} {v:AV} (h:Apart v.refs u.writes):u.kill v.toLeaf=v.toLeaf:=by
 cases v with
 | agg l=>exact u.kl.bad
 | tup l=>exact u.kl.bad
 | _=>exact zei h
theorem zcE (v:AV):(∀ l,v.toLeaf≠.agg l)∧(∀ l,v.toLeaf≠.tup l):=by cases v<;>simp [AV.toLeaf]
theorem zaX {φ:AV→AV} {v:AV} (h1:∀ l,v≠.agg l) (h2:∀ l,v≠.tup l):AV.map2 φ v=φ v:=by
 cases v<;>first | rfl | exact absurd rfl (h1 _) | exact absurd rfl (h2 _)
theorem zbo {x:AV} (h1:∀ l,x≠.agg l) (h2:∀ l,x≠.tup l) :
 (∀ φ,AV.map2 φ x=φ x)∧(∀ o v,setLeaf o v x=if o=0 then v.toLeaf else x)∧(∀ o g,mapLeaf o g x=if o=0 then g x else x):=by
 cases x<;>first | exact ⟨fun _=>rfl,fun _ _=>rfl,fun _ _=>rfl⟩ | exact absurd rfl (h1 _) | exact absurd rfl (h2 _)
theorem Kl.nonagg {φ:AV→AV} (k:Kl φ) {x:AV} (h1:∀ l,x≠.agg l) (h2:∀ l,x≠.tup l):(∀ l,φ x≠.agg l)∧(∀ l,φ x≠.tup l):=by
 rcases k.or x with h | h<;>rw [h]
 ·exact ⟨h1,h2⟩
 ·exact ⟨by simp,by simp⟩
theorem zid {φ:AV→AV} (k:Kl φ) (x:AV):(AV.map2 φ x).leaves.length=x.leaves.length:=by
 cases x with
 | agg l=>simp [AV.map2,AV.leaves]
 | tup l=>rfl
 | _=>
   all_goals
    simp only [AV.map2]
    rcases k.or _ with e | e<;>rw [e]<;>rfl
theorem ziy {φ:AV→AV} (k:Kl φ) {o:Nat} {v:AV} (h:φ v.toLeaf=v.toLeaf) (x:AV):AV.map2 φ (setLeaf o v x)=setLeaf o v (AV.map2 φ x):=by
 have hl:AV.map2 φ v.toLeaf=v.toLeaf:=by rw [zaX (zcE v).1 (zcE v).2,h]
 have key:∀ x:AV,(∀ l,x≠.agg l)→(∀ l,x≠.tup l)→AV.map2 φ (setLeaf o v x)=setLeaf o v (AV.map2 φ x):=by
  intro x h1 h2
  obtain ⟨e1,e2,_⟩:=zbo h1 h2
  obtain ⟨k1,k2⟩:=k.nonagg h1 h2
  rw [e2,e1,(zbo k1 k2).2.1]
  split
  ·exact hl
  ·exact e1 φ
 cases x with
 | agg l=>simp only [setLeaf,AV.map2,List.map_set,h]
 | tup l=>
   by_cases h0:o=0
   ·simp only [setLeaf,h0,if_true];rw [hl];simp only [AV.map2,setLeaf,if_true]
   ·simp only [setLeaf,h0,if_false,AV.map2]
 | _=>exact key _ (by simp) (by simp)
theorem mapLeaf_map {φ:AV→AV} (k:Kl φ) {o:Nat} (x:AV):AV.map2 φ (mapLeaf o Ev.frz x)=mapLeaf o Ev.frz (AV.map2 φ x):=by
 have key:∀ x:AV,(∀ l,x≠.agg l)→(∀ l,x≠.tup l)→AV.map2 φ (mapLeaf o Ev.frz x)=mapLeaf o Ev.frz (AV.map2 φ x):=by
  intro x h1 h2
  obtain ⟨e1,_,e3⟩:=zbo h1 h2
  obtain ⟨k1,k2⟩:=k.nonagg h1 h2
  rw [e3,e1,(zbo k1 k2).2.2]
  split
  ·rw [← k.frz]
   exact zaX (by cases x<;>simp [frz]<;>exact absurd rfl (h1 _)) (by cases x<;>simp [frz]<;>exact absurd rfl (h2 _))
  ·exact e1 φ
 cases x with
 | agg l=>
   simp only [mapLeaf,AV.map2];congr 1
   apply List.ext_getElem?
   intro j
   simp only [List.getElem?_map,List.getElem?_modify]
   by_cases hj:o=j
   ·subst hj;cases l[o]?<;>simp [k.frz]
   ·simp [hj]
 | tup l=>
   by_cases h0:o=0
   ·simp only [mapLeaf,h0,if_true,AV.map2,frz]
   ·simp only [mapLeaf,h0,if_false,AV.map2]
 | _=>exact key _ (by simp) (by simp)
theorem leafs_comm {o p:Nat} (h:o≠p) (v u:AV) (x:AV):setLeaf o v (setLeaf p u x)=setLeaf p u (setLeaf o v x):=by
 have key:∀ x:AV,(∀ l,x≠.agg l)→setLeaf o v (setLeaf p u x)=setLeaf p u (setLeaf o v x):=by
  intro x h1
  have e:∀ q (w:AV) (y:AV),(∀ l,y≠.agg l)→setLeaf q w y=if q=0 then w.toLeaf else y:=by
   intro q w y hy;cases y<;>first | rfl | exact absurd rfl (hy _)
  rw [e p u x h1,e o v x h1]
  by_cases hp:p=0<;>by_cases ho:o=0
  ·omega
  ·rw [if_pos hp,if_neg ho,e _ _ _ (zcE u).1,if_neg ho,e _ _ _ h1,if_pos hp]
  ·rw [if_neg hp,if_pos ho,e _ _ _ h1,if_pos ho,e _ _ _ (zcE v).1,if_neg hp]
  ·rw [if_neg hp,if_neg ho,e _ _ _ h1,if_neg ho,e _ _ _ h1,if_neg hp]
 cases x with
 | agg l=>simp only [setLeaf];rw [List.set_comm _ _ (fun e=>h e.symm)]
 | _=>exact key _ (by simp)
theorem frz_agg {x:AV} (h:∀ l,x≠.agg l):∀ l,frz x≠.agg l:=by cases x<;>simp [frz]<;>exact absurd rfl (h _)
theorem ziT {o p:Nat} (h:o≠p) (v:AV) (x:AV):setLeaf o v (mapLeaf p Ev.frz x)=mapLeaf p Ev.frz (setLeaf o v x):=by
 have key:∀ x:AV,(∀ l,x≠.agg l)→setLeaf o v (mapLeaf p Ev.frz x)=mapLeaf p Ev.frz (setLeaf o v x):=by
  intro x h1
  have e:∀ q (w:AV) (y:AV),(∀ l,y≠.agg l)→setLeaf q w y=if q=0 then w.toLeaf else y:=by
   intro q w y hy;cases y<;>first | rfl | exact absurd rfl (hy _)
  have e':∀ q (y:AV),(∀ l,y≠.agg l)→mapLeaf q Ev.frz y=if q=0 then Ev.frz y else y:=by
   intro q y hy;cases y<;>first | rfl | exact absurd rfl (hy _)
  rw [e' p x h1,e o v x h1]
  by_cases hp:p=0<;>by_cases ho:o=0
  ·omega
  ·rw [if_pos hp,if_neg ho,e _ _ _ (frz_agg h1),if_neg ho,e' _ _ h1,if_pos hp]
  ·rw [if_neg hp,if_pos ho,e _ _ _ h1,if_pos ho,e' _ _ (zcE v).1,if_neg hp]
  ·rw [if_neg hp,if_neg ho,e _ _ _ h1,if_neg ho,e' _ _ h1,if_neg hp]
 cases x with
 | agg l=>
   simp only [setLeaf,mapLeaf];congr 1
   apply List.ext_getElem?
   intro j
   simp only [List.getElem?_set,List.getElem?_modify,List.length_modify]
   by_cases hj:o=j
   ·subst hj;simp [show ¬ p=o from fun e=>h e.symm]
   ·simp [hj]
 | _=>exact key _ (by simp)
theorem frz_comm (o p:Nat) (x:AV):mapLeaf o Ev.frz (mapLeaf p Ev.frz x)=mapLeaf p Ev.frz (mapLeaf o Ev.frz x):=by
 by_cases h:o=p
 ·subst h;rfl
 have key:∀ x:AV,(∀ l,x≠.agg l)→mapLeaf o Ev.frz (mapLeaf p Ev.frz x)=mapLeaf p Ev.frz (mapLeaf o Ev.frz x):=by
  intro x h1
  have e':∀ q (y:AV),(∀ l,y≠.agg l)→mapLeaf q Ev.frz y=if q=0 then Ev.frz y else y:=by
   intro q y hy;cases y<;>first | rfl | exact absurd rfl (hy _)
  rw [e' p x h1,e' o x h1]
  by_cases hp:p=0<;>by_cases ho:o=0
  ·omega
  ·rw [if_pos hp,if_neg ho,e' _ _ (frz_agg h1),if_neg ho,e' _ _ h1,if_pos hp]
  ·rw [if_neg hp,if_pos ho,e' _ _ h1,if_pos ho,e' _ _ (frz_agg h1),if_neg hp]
  ·rw [if_neg hp,if_neg ho,e' _ _ h1,if_neg ho,e' _ _ h1,if_neg hp]
 cases x with
 | agg l=>
   simp only [mapLeaf];congr 1
   apply List.ext_getElem?
   intro j
   simp only [List.getElem?_modify]
   by_cases h1:o=j<;>by_cases h2:p=j<;>cases l[j]?<;>simp [h1,h2]
 | _=>exact key _ (by simp)
theorem Up.md_kill {u w:Up} (h:Apart u.refs w.writes) (G:Sta):mapv (AV.map2 w.kill) (u.md.app G)=u.md.app (mapv (AV.map2 w.kill) G):=by
 cases u<;>simp only [Up.md,Md.app]
 case set b v=>exact mapv_ins b (zcH h) G
 case newbox b v=>exact mapv_ins b (zcH h) G
 case put b v=>exact zgw b (fun x=>by simp only [putV,zid w.kl];split;exact zcH h;rfl) G
 case leaf b o v=>exact zgw b (ziy w.kl (kill_leaf h)) G
 case upo b o v=>exact zgw b (ziy w.kl (kill_leaf h)) G
 case frz b o=>exact zgw b (mapLeaf_map w.kl) G
theorem Up.md_comm {u w:Up} (h:Apart u.writes w.writes) (G:Sta):u.md.app (w.md.app G)=w.md.app (u.md.app G):=by
 have hn:∀ {a b},a∈u.writes→b∈w.writes→a.meets b=false:=fun ha hb=>h _ ha _ hb
 cases u<;>cases w<;>simp only [Up.md,Md.app]
 all_goals (have h1:=hn (List.mem_cons_self ..) (List.mem_cons_self ..);simp [Acc.meets] at h1)
 all_goals first
  | exact ins_comm h1 _ _ G
  | exact ins_upd h1 _ _ G
  | exact (ins_upd (fun e=>h1 e.symm) _ _ G).symm
  | exact zfd h1 _ _ G
  | (rename_i b o v c p x
     by_cases hb:b=c
     ·subst hb;exact zgh (leafs_comm (h1 rfl) _ _) G
     ·exact zfd hb _ _ G)
  | (rename_i b o v c p
     by_cases hb:b=c
     ·subst hb;exact zgh (ziT (h1 rfl) _) G
     ·exact zfd hb _ _ G)
  | (rename_i b o c p v
     by_cases hb:b=c
     ·subst hb;exact zgh (fun x=>(ziT (fun e=>h1 rfl e.symm) v x).symm) G
     ·exact zfd hb _ _ G)
  | (rename_i b o c p
     by_cases hb:b=c
     ·subst hb;exact zgh (frz_comm _ _) G
     ·exact zfd hb _ _ G)
theorem Acc.meets_comm (a b:Acc):a.meets b=b.meets a:=by
 cases a<;>cases b<;>simp only [Acc.meets]<;>first | rfl | (simp only [Bool.beq_comm])
theorem Apart.symm {A B:List Acc} (h:Apart A B):Apart B A:=fun b hb a ha=>by rw [Acc.meets_comm];exact h a ha b hb
theorem Up.comm {u w:Up} (h:Apart u.writes w.writes) (h1:Apart u.refs w.writes) (h2:Apart w.refs u.writes) (G:Sta):u.app (w.app G)=w.app (u.app G):=by
 rw [Up.app_eq,Up.app_eq w,Up.app_eq w,Up.app_eq u]
 rw [Up.md_kill h2,Up.md_kill h1,Up.md_comm h,mapv_mapv (u.kl.map2_comm w.kl)]
theorem ok_map1 {φ:AV→AV} (k:Kl φ) {v:AV} (h:(AV.map1 φ v).ok1=true):AV.map1 φ v=v:=by
 cases v with
 | agg l=>
   simp only [AV.map1,AV.ok1,List.all_map,List.all_eq_true,Function.comp] at h ⊢
   congr 1
   conv=>rhs;rw [← List.map_id l]
   refine List.map_congr_left fun x hx=>?_
   rcases k.or x with e | e
   ·exact e
   ·have:=h x hx;rw [e] at this;simp [AV.isBad] at this
 | _=>
   all_goals
    simp only [AV.map1] at h ⊢
    rcases k.or _ with e | e
    ·exact e
    ·rw [e] at h;simp [AV.ok1,AV.isBad] at h
theorem ok_map2 {φ:AV→AV} (k:Kl φ) {v:AV} (h:(AV.map2 φ v).ok=true):AV.map2 φ v=v:=by
 have key:∀ v:AV,(∀ l,v≠.tup l)→AV.map2 φ v=AV.map1 φ v∧(v.ok=v.ok1):=by
  intro v hv;cases v<;>first | exact ⟨rfl,rfl⟩ | exact absurd rfl (hv _)
 cases v with
 | tup l=>
   simp only [AV.map2,AV.ok,List.all_map,List.all_eq_true,Function.comp] at h ⊢
   congr 1
   conv=>rhs;rw [← List.map_id l]
   exact List.map_congr_left fun x hx=>ok_map1 k (h x hx)
 | agg l=>exact ok_map1 k (v:=.agg l) (by simpa [AV.map2,AV.map1,AV.ok] using h)
 | _=>
   all_goals
    simp only [AV.map2] at h ⊢
    rcases k.or _ with e | e
    ·exact e
    ·rw [e] at h;simp [AV.ok,AV.ok1,AV.isBad] at h
theorem Kl.leaf {φ:AV→AV} (k:Kl φ) (x:AV):(φ x).isLeaf=x.isLeaf:=by
 cases x with
 | agg l=>rw [k.agg]
 | tup l=>rw [k.tup]
 | _=>rcases k.or _ with e | e<;>rw [e]<;>rfl
theorem zH {x:AV} (h:x.isLeaf=true):(∀ m,x≠.agg m)∧(∀ m,x≠.tup m):=by
 cases x<;>simp [AV.isLeaf] at h ⊢
theorem zeV {φ:AV→AV} (k:Kl φ) (o:Option AV):(o.map φ).filter AV.isLeaf=(o.filter AV.isLeaf).map (AV.map2 φ):=by
 cases o with
 | none=>rfl
 | some x=>
   simp only [Option.map_some,Option.filter_some,k.leaf]
   by_cases h:x.isLeaf=true
   ·simp [h,zaX (zH h).1 (zH h).2]
   ·simp [h]
theorem ziQ {φ:AV→AV} (k:Kl φ) (G:Sta) (b:Nat) (o:Option Nat) :
 look (mapv (AV.map2 φ) G) b o=(look G b o).map (AV.map2 φ):=by
 cases o with
 | none=>simp [look,zab]
 | some p=>
   simp only [look,zab]
   cases hg:get G b with
   | none=>rfl
   | some v=>
     simp only [Option.map_some,Option.bind_some]
     have key:∀ v:AV,(∀ l,v≠.agg l)→(∀ l,v≠.tup l)→((AV.map2 φ v).leaves[p]?).filter AV.isLeaf=((v.leaves[p]?).filter AV.isLeaf).map (AV.map2 φ):=by
      intro v h1 h2
      have e1:v.leaves=[v]:=by cases v<;>first | rfl | exact absurd rfl (h1 _)
      have e2:(AV.map2 φ v).leaves=[φ v]:=by
       rw [zaX h1 h2]
       rcases k.or v with e | e<;>rw [e]
       ·exact e1
       ·rfl
      rw [e1,e2,← zeV k]
      cases p<;>simp
     cases v with
     | agg l=>simp only [AV.map2,AV.leaves,List.getElem?_map];exact zeV k _
     | tup l=>cases p<;>simp [AV.map2,AV.leaves,Option.filter_some,AV.isLeaf]
     | _=>exact key _ (by simp) (by simp)
theorem look_md {u:Up} {b:Nat} {o:Option Nat} (h:Apart [accOf b o] u.writes) (G:Sta):look (u.md.app G) b o=look G b o:=by
 have hn:∀ {a},a∈u.writes→(accOf b o).meets a=false:=fun ha=>h _ (List.mem_cons_self ..) _ ha
 have set_:∀ c g,(∀ p,o=some p→b=c→∀ x:AV,((g x).leaves[p]?).filter AV.isLeaf=(x.leaves[p]?).filter AV.isLeaf)→(o=none→b≠c)→look (upd c g G) b o=look G b o:=by
  intro c g h1 h2
  cases o with
  | none=>simp only [look,zaj,if_neg (h2 rfl)]
  | some p=>
    simp only [look,zaj]
    by_cases hb:b=c
    ·subst hb;rw [if_pos rfl];cases get G b<;>simp [h1 p rfl rfl]
    ·rw [if_neg hb]
 have other:∀ {p q:Nat},p≠q→∀ (v x:AV),((setLeaf q v x).leaves[p]?).filter AV.isLeaf=(x.leaves[p]?).filter AV.isLeaf:=by
  intro p q hpq v x
  have key:∀ x:AV,(∀ l,x≠.agg l)→((setLeaf q v x).leaves[p]?).filter AV.isLeaf=(x.leaves[p]?).filter AV.isLeaf:=by
   intro x h1
   have e:setLeaf q v x=if q=0 then v.toLeaf else x:=by cases x<;>first | rfl | exact absurd rfl (h1 _)
   have e1:∀ y:AV,(∀ l,y≠.agg l)→y.leaves=[y]:=by intro y hy;cases y<;>first | rfl | exact absurd rfl (hy _)
   rw [e]
   by_cases hq:q=0
   ·rw [if_pos hq,e1 _ (zcE v).1,e1 _ h1]
    cases p with
    | zero=>exact absurd hq.symm hpq
    | succ p=>rfl
   ·rw [if_neg hq]
  cases x with
  | agg l=>simp only [setLeaf,AV.leaves];rw [List.getElem?_set_ne (fun e=>hpq e.symm)]
  | _=>exact key _ (by simp)
 have otherf:∀ {p q:Nat},p≠q→∀ (x:AV),((mapLeaf q Ev.frz x).leaves[p]?).filter AV.isLeaf=(x.leaves[p]?).filter AV.isLeaf:=by
  intro p q hpq x
  have key:∀ x:AV,(∀ l,x≠.agg l)→((mapLeaf q Ev.frz x).leaves[p]?).filter AV.isLeaf=(x.leaves[p]?).filter AV.isLeaf:=by
   intro x h1
   have e:mapLeaf q Ev.frz x=if q=0 then Ev.frz x else x:=by cases x<;>first | rfl | exact absurd rfl (h1 _)
   have e1:∀ y:AV,(∀ l,y≠.agg l)→y.leaves=[y]:=by intro y hy;cases y<;>first | rfl | exact absurd rfl (hy _)
   rw [e]
   by_cases hq:q=0
   ·rw [if_pos hq,e1 _ (frz_agg h1),e1 _ h1]
    cases p with
    | zero=>exact absurd hq.symm hpq
    | succ p=>rfl
   ·rw [if_neg hq]
  cases x with
  | agg l=>simp only [mapLeaf,AV.leaves];rw [List.getElem?_modify];simp [show ¬ q=p from fun e=>hpq e.symm]
  | _=>exact key _ (by simp)
 cases u<;>simp only [Up.md,Md.app]
 all_goals (try have h1:=hn (List.mem_cons_self ..))
 case set c v=>
  have hb:b≠c:=by cases o<;>simpa [accOf,Acc.meets] using h1
  cases o<;>simp [look,zaK,hb]
 case newbox c v=>
  have hb:b≠c:=by cases o<;>simpa [accOf,Acc.meets] using h1
  cases o<;>simp [look,zaK,hb]
 case put c v=>
  have hb:b≠c:=by cases o<;>simpa [accOf,Acc.meets] using h1
  exact set_ c _ (fun _ _ e=>absurd e hb) (fun _=>hb)
 case leaf c q v=>
  exact set_ c _ (fun p hp hb x=>other (by subst hp hb;simpa [accOf,Acc.meets] using h1) v x) (fun ho=>by subst ho;simpa [accOf,Acc.meets] using h1)
 case upo c q v=>
  exact set_ c _ (fun p hp hb x=>other (by subst hp hb;simpa [accOf,Acc.meets] using h1) v x) (fun ho=>by subst ho;simpa [accOf,Acc.meets] using h1)
 case frz c q=>
  exact set_ c _ (fun p hp hb x=>otherf (by subst hp hb;simpa [accOf,Acc.meets] using h1) x) (fun ho=>by subst ho;simpa [accOf,Acc.meets] using h1)
theorem look_fwd {u:Up} {G:Sta} {b:Nat} {o:Option Nat} {v:AV} (h:look G b o=some v) (ha:Apart (accOf b o :: v.refs) u.writes):look (u.app G) b o=some v:=by
 rw [Up.app_eq,look_md (fun x hx=>ha x (by simp only [List.mem_singleton] at hx;subst hx;exact List.mem_cons_self ..)),ziQ u.kl,h,Option.map_some,zcH (fun x hx=>ha x (List.mem_cons_of_mem _ hx))]
theorem look_back {u:Up} {G:Sta} {b:Nat} {o:Option Nat} {v:AV} (h:look (u.app G) b o=some v) (hv:v.ok=true) (ha:Apart [accOf b o] u.writes):look G b o=some v:=by
 rw [Up.app_eq,look_md ha,ziQ u.kl] at h
 cases hg:look G b o with
 | none=>rw [hg] at h;cases h
 | some x=>
   rw [hg,Option.map_some] at h
   injection h with h
   rw [← h] at hv ⊢
   rw [ok_map2 u.kl hv]
def Ups.writes (U:List Up):List Acc:=U.flatMap Up.writes
def Ups.refs (U:List Up):List Acc:=U.flatMap Up.refs
theorem zbU {A B C:List Acc}:Apart A (B++C)↔Apart A B∧Apart A C:=by
 constructor
 ·exact fun h=>⟨fun a ha b hb=>h a ha b (List.mem_append_left _ hb),fun a ha b hb=>h a ha b (List.mem_append_right _ hb)⟩
 ·rintro ⟨h1,h2⟩ a ha b hb
  rcases List.mem_append.1 hb with h | h
  ·exact h1 a ha b h
  ·exact h2 a ha b h
theorem looks_fwd {b:Nat} {o:Option Nat} {v:AV}:∀ (U:List Up) {G:Sta},look G b o=some v→Apart (accOf b o :: v.refs) (Ups.writes U)→look (app U G) b o=some v
 | [],_,h,_=>h
 | u :: U,G,h,ha=>by
   have hh:=zbU.1 (show Apart _ (u.writes++Ups.writes U) from ha)
   exact looks_fwd U (look_fwd h hh.1) hh.2
theorem zjZ {b:Nat} {o:Option Nat} {v:AV} (hv:v.ok=true):∀ (U:List Up) {G:Sta},look (app U G) b o=some v→Apart [accOf b o] (Ups.writes U)→look G b o=some v
 | [],_,h,_=>h
 | u :: U,G,h,ha=>by
   have hh:=zbU.1 (show Apart _ (u.writes++Ups.writes U) from ha)
   exact look_back (zjZ hv U h hh.2) hv hh.1
theorem RM.wp_mono {CE:CEx} {G:Sta} {K K':List Up→List Acc→Prop} (h:∀ U T,K U T→K' U T):∀ (m:RM) (T:List Acc),m.wp CE G T K→m.wp CE G T K'
 | .ret U,T,hw=>h _ _ hw
 | .fail,T,hw=>hw
 | .ask b o k,T,⟨v,h1,h2,h3⟩=>⟨v,h1,h2,RM.wp_mono h (k v) _ h3⟩
 | .peek b k,T,⟨v,h1,h2⟩=>⟨v,h1,RM.wp_mono h (k _) _ h2⟩
 | .call g args outs k,T,⟨r,o,h1,h2⟩=>⟨r,o,h1,RM.wp_mono h (k r o) _ h2⟩
theorem RM.wp_sub {CE:CEx} {G:Sta} {U:List Up} {T':List Acc}:∀ (m:RM) (T:List Acc),m.wp CE G T (fun U' T''=>U'=U∧T''=T')→∀ x∈T,x∈T'
 | .ret _,T,⟨_,h⟩=>fun x hx=>h▸hx
 | .fail,T,hw=>hw.elim
 | .ask b o k,T,⟨v,h1,h2,h3⟩=>fun x hx=>RM.wp_sub (k v) _ h3 x (List.mem_append_left _ hx)
 | .peek b k,T,⟨v,h1,h2⟩=>fun x hx=>RM.wp_sub (k _) _ h2 x (List.mem_append_left _ hx)
 | .call g args outs k,T,⟨r,o,h1,h2⟩=>fun x hx=>RM.wp_sub (k r o) _ h2 x hx
def lenOf (G:Sta) (b:Nat):Option Nat:=(get G b).map (·.leaves.length)
theorem zhC (o:Nat) (v x:AV):(setLeaf o v x).leaves.length=x.leaves.length:=by
 have e:v.toLeaf.leaves.length=1:=by cases v<;>rfl
 cases x with
 | agg l=>simp [setLeaf,AV.leaves]
 | _=>
   all_goals
    simp only [setLeaf]
    split
    ·rw [e];rfl
    ·rfl
theorem mapLeaf_len' (o:Nat) (x:AV):(mapLeaf o Ev.frz x).leaves.length=x.leaves.length:=by
 have e:∀ y:AV,(∀ l,y≠.agg l)→(Ev.frz y).leaves.length=1:=by intro y hy;cases y<;>first | rfl | exact absurd rfl (hy _)
 cases x with
 | agg l=>simp [mapLeaf,AV.leaves]
 | _=>
   all_goals
    simp only [mapLeaf]
    split
    ·exact e _ (by simp)
    ·rfl
theorem ziS {u:Up} {b:Nat} (h:Apart [.id b] u.writes) (G:Sta):lenOf (u.app G) b=lenOf G b:=by
 have hm:∀ φ,Kl φ→lenOf (mapv (AV.map2 φ) G) b=lenOf G b:=by
  intro φ k;simp only [lenOf,zab,Option.map_map,Function.comp_def,zid k]
 have hu:∀ c (g:AV→AV) H,(∀ x,(g x).leaves.length=x.leaves.length)→lenOf (upd c g H) b=lenOf H b:=by
  intro c g H hg
  simp only [lenOf,zaj]
  by_cases e:b=c
  ·subst e;rw [if_pos rfl];simp [Option.map_map,Function.comp_def,hg]
  ·rw [if_neg e]
 have hi:∀ c v H,b≠c→lenOf (ins c v H) b=lenOf H b:=by
  intro c v H e;simp only [lenOf,zaK,if_neg e]
 rw [Up.app_eq]
 rw [← hm u.kill u.kl]
 cases u<;>simp only [Up.md,Md.app]
 case set c v=>exact hi c v _ (by have:=h (.id b) (List.mem_cons_self ..) (.id c) (by simp [Up.writes]);simpa [Acc.meets] using this)
 case newbox c v=>exact hi c v _ (by have:=h (.id b) (List.mem_cons_self ..) (.id c) (by simp [Up.writes]);simpa [Acc.meets] using this)
 case put c v=>exact hu c _ _ (fun x=>by simp only [putV];split<;>simp_all)
 case leaf c o v=>exact hu c _ _ (zhC o v)
 case upo c o v=>exact hu c _ _ (zhC o v)
 case frz c o=>exact hu c _ _ (mapLeaf_len' o)
theorem lens_app {b:Nat}:∀ (U:List Up) (G:Sta),Apart [.id b] (Ups.writes U)→lenOf (app U G) b=lenOf G b
 | [],_,_=>rfl
 | u :: U,G,h=>by
   have hh:=zbU.1 (show Apart _ (u.writes++Ups.writes U) from h)
   exact (lens_app U _ hh.2).trans (ziS hh.1 G)
theorem RM.wp_look {CE:CEx} {G D:Sta} {U:List Up} {T':List Acc} (hl:∀ b o v,look G b o=some v→v.ok=true→(∀ x∈accOf b o :: v.refs,x∈T')→look D b o=some v)
 (hn:∀ b,.id b∈T'→lenOf D b=lenOf G b) :
 ∀ (m:RM) (T:List Acc),m.wp CE G T (fun U' T''=>U'=U∧T''=T')→m.wp CE D T (fun U' T''=>U'=U∧T''=T')
 | .ret _,T,h=>h
 | .fail,T,hw=>hw.elim
 | .ask b o k,T,⟨v,h1,h2,h3⟩=>
   ⟨v,hl b o v h1 h2 (fun x hx=>RM.wp_sub (k v) _ h3 x (List.mem_append_right _ hx)),h2,RM.wp_look hl hn (k v) _ h3⟩
 | .peek b k,T,⟨v,h1,h2⟩=>by
   have:=hn b (RM.wp_sub (k _) _ h2 _ (by simp))
   simp only [lenOf,h1,Option.map_some] at this
   cases hd:get D b with
   | none=>rw [hd] at this;cases this
   | some v'=>
     rw [hd] at this
     simp only [Option.map_some,Option.some.injEq] at this
     exact ⟨v',hd,by rw [this];exact RM.wp_look hl hn (k _) _ h2⟩
 | .call g args outs k,T,⟨r,o,h1,h2⟩=>⟨r,o,h1,RM.wp_look hl hn (k r o) _ h2⟩
theorem app_comm1 {u:Up}:∀ (W:List Up) (G:Sta),Apart u.writes (Ups.writes W)→Apart u.refs (Ups.writes W)→Apart (Ups.refs W) u.writes→u.app (app W G)=app W (u.app G)
 | [],_,_,_,_=>rfl
 | w :: W,G,h1,h2,h3=>by
   have a:=zbU.1 (show Apart _ (w.writes++Ups.writes W) from h1)
   have b:=zbU.1 (show Apart _ (w.writes++Ups.writes W) from h2)
   have c:=zbU.1 (show Apart _ (w.refs++Ups.refs W) from h3.symm)
   show u.app (app W (w.app G))=app W (w.app (u.app G))
   rw [app_comm1 W _ a.2 b.2 c.2.symm,Up.comm a.1 b.1 c.1.symm]
theorem app_comm:∀ (U W:List Up) (G:Sta),Apart (Ups.writes U) (Ups.writes W)→Apart (Ups.refs U) (Ups.writes W)→Apart (Ups.refs W) (Ups.writes U)→app U (app W G)=app W (app U G)
 | [],_,_,_,_,_=>rfl
 | u :: U,W,G,h1,h2,h3=>by
   have a:=zbU.1 (show Apart _ (u.writes++Ups.writes U) from h1.symm)
   have b:=zbU.1 (show Apart _ (u.refs++Ups.refs U) from h2.symm)
   have c:=zbU.1 (show Apart _ (u.writes++Ups.writes U) from h3)
   show app U (u.app (app W G))=app W (app U (u.app G))
   rw [app_comm1 W G a.1.symm b.1.symm c.1,app_comm U W _ a.2.symm b.2.symm c.2]
structure Ent where
 i:Nat
 U:List Up
 T:List Acc
def Ent.reads (x:Ent):List Acc:=x.T++Ups.refs x.U
def Ent.ind (x y:Ent):Prop:=Apart (x.reads++Ups.writes x.U) (Ups.writes y.U)∧Apart y.reads (Ups.writes x.U)
def Runs (CE:CEx) (R:Nat→RM):List Ent→Sta→Sta→Prop
 | [],G,G'=>G=G'
 | x :: r,G,G'=>(R x.i).wp CE G [] (fun U' T'=>U'=x.U∧T'=x.T)∧Runs CE R r (app x.U G) G'
theorem Ent.swap {CE:CEx} {R:Nat→RM} {x y:Ent} {r:List Ent} {G G':Sta} (hi:x.ind y) (h:Runs CE R (x :: y :: r) G G'):Runs CE R (y :: x :: r) G G':=by
 obtain ⟨h1,h2,h3⟩:=h
 obtain ⟨i1,i2⟩:=hi
 have ix:Apart (x.T++Ups.refs x.U) (Ups.writes y.U):=fun a ha b hb=>i1 a (List.mem_append_left _ ha) b hb
 refine ⟨RM.wp_look (fun b o v hl hv hT=>zjZ hv _ hl ?_) (fun b hb=>(lens_app _ _ ?_).symm) _ _ h2,RM.wp_look (fun b o v hl hv hT=>looks_fwd _ hl ?_) (fun b hb=>lens_app _ _ ?_) _ _ h1,?_⟩
 ·intro a ha c hc
  simp only [List.mem_singleton] at ha;subst ha
  exact i2 _ (List.mem_append_left _ (hT _ (List.mem_cons_self ..))) c hc
 ·intro a ha c hc
  simp only [List.mem_singleton] at ha;subst ha
  exact i2 _ (List.mem_append_left _ hb) c hc
 ·exact fun a ha c hc=>ix a (List.mem_append_left _ (hT a ha)) c hc
 ·intro a ha c hc
  simp only [List.mem_singleton] at ha;subst ha
  exact ix _ (List.mem_append_left _ hb) c hc
 ·rw [app_comm]
  ·exact h3
  ·exact fun a ha b hb=>i1 a (List.mem_append_right _ ha) b hb
  ·exact fun a ha b hb=>ix a (List.mem_append_right _ ha) b hb
  ·exact fun a ha b hb=>i2 a (List.mem_append_right _ ha) b hb
theorem Runs.front {CE:CEx} {R:Nat→RM} {y:Ent} {r:List Ent}:∀ {p:List Ent} {G G':Sta},(∀ x∈p,x.ind y)→Runs CE R (p++y :: r) G G'→Runs CE R (y :: (p++r)) G G'
 | [],_,_,_,h=>h
 | x :: p,G,G',hi,h=>by
   obtain ⟨h1,h2⟩:=h
   exact Ent.swap (hi x (List.mem_cons_self ..)) ⟨h1,Runs.front (fun z hz=>hi z (List.mem_cons_of_mem _ hz)) h2⟩
end Go.Ev
namespace Go.Ev
open Go Go.RowKit
inductive Owner where
 | box (b:Nat)
 | sl (b o:Nat)
 | al (x:Owner)          -- a caller's
 deriving DecidableEq
abbrev Own:=Nat→Option Owner
def FV.one:FV→Bool
 | .agg _=>false
 | _=>true
inductive RF (own:Own) (w:World):FV→Value→Prop where
 | pv (v:Value) (h:v.oneCell'=true):RF own w (.pv v) v
 | agg (l:List FV) (arr:Array Value) (hl:l.length=arr.size) (h:∀ (j:Nat) x v,l[j]?=some x→arr[j]?=some v→RF own w x v):RF own w (.agg l) (.agg arr)
 | sl (l:List FV) (a:Option Addr) (n c:Nat) (ad:Addr) (sz:Nat) (hn:n=l.length) (hc:n≤c)
    (ha:l≠[]→a=some ad∧ad.spot=none∧own ad.block=none∧ad.block < w.heap.size)
    (hsz:∀ x∈l,x.size=sz)
    (hcell:∀ (i:Nat) x (j:Nat) y,l[i]?=some x→x.cells[j]?=some y→∃ v,w.cell? ⟨ad.block,ad.off+(i * sz+j),none⟩=some v)
    (hv:∀ (i:Nat) x (j:Nat) y v,l[i]?=some x→x.cells[j]?=some y→w.cell? ⟨ad.block,ad.off+(i * sz+j),none⟩=some v→RF own w y v) :
    RF own w (.sl l) (.slice a n c)
structure Tr (own:Own) (w:World) (own':Own) (w':World):Prop where
 size:w.heap.size≤w'.heap.size
 keep:∀ k,k < w.heap.size→own k=none→own' k=none∧w'.heap[k]?=w.heap[k]?
 os:w'.os=w.os
 tape:w'.tape=w.tape
 output:w'.output=w.output
 al:∀ k o,own k=some (.al o)→own' k=some (.al o)∧w'.heap[k]?=w.heap[k]?
 bx:∀ k b,b % 3=0→own k=some (.box b)→own' k=some (.box b)
theorem Tr.refl (own:Own) (w:World):Tr own w own w:=⟨Nat.le_refl _,fun _ _ h=>⟨h,rfl⟩,rfl,rfl,rfl,fun _ _ h=>⟨h,rfl⟩,fun _ _ _ h=>h⟩
theorem Tr.trans {o1 o2 o3:Own} {w1 w2 w3:World} (h:Tr o1 w1 o2 w2) (k:Tr o2 w2 o3 w3):Tr o1 w1 o3 w3:=
 ⟨Nat.le_trans h.size k.size,fun i hi ho=>by
   obtain ⟨a,b⟩:=h.keep i hi ho
   obtain ⟨c,d⟩:=k.keep i (Nat.lt_of_lt_of_le hi h.size) a
   exact ⟨c,d.trans b⟩,k.os.trans h.os,k.tape.trans h.tape,k.output.trans h.output,fun i o e=>⟨(k.al i o (h.al i o e).1).1,(k.al i o (h.al i o e).1).2.trans (h.al i o e).2⟩,fun i b hb e=>k.bx i b hb (h.bx i b hb e)⟩
theorem Tr.cell {own own':Own} {w w':World} (h:Tr own w own' w') {p:Addr} (hp:p.block < w.heap.size) (ho:own p.block=none):w'.cell? p=w.cell? p:=
 World.cell?_of_block (w:=w) (h.keep p.block hp ho).2
theorem RF.mono {own own':Own} {w w':World} (ht:Tr own w own' w') {x:FV} {v:Value} (h:RF own w x v):RF own' w' x v:=by
 induction h with
 | pv v h=>exact .pv v h
 | agg l arr hl _ ih=>exact .agg l arr hl ih
 | sl l a n c ad sz hn hc ha hsz hcell _ ih=>
   by_cases hl:l=[]
   ·subst hl
    exact .sl [] a n c ad sz hn hc (fun h=>absurd rfl h) (fun x hx=>by cases hx) (fun i x j y h=>by simp at h) (fun i x j y v h=>by simp at h)
   ·obtain ⟨h1,h2,h3,h4⟩:=ha hl
    have hk:∀ o,w'.cell? ⟨ad.block,o,none⟩=w.cell? ⟨ad.block,o,none⟩:=fun o=>ht.cell (p:=⟨ad.block,o,none⟩) h4 h3
    refine .sl l a n c ad sz hn hc (fun _=>⟨h1,h2,(ht.keep _ h4 h3).1,Nat.lt_of_lt_of_le h4 ht.size⟩) hsz ?_ ?_
    ·intro i x j y e1 e2;rw [hk];exact hcell i x j y e1 e2
    ·intro i x j y v e1 e2 e3;rw [hk] at e3;exact ih i x j y v e1 e2 e3
theorem RF.nil {own:Own} {w:World} {a:Option Addr} {c:Nat}:RF own w (.sl []) (.slice a 0 c):=
 .sl [] a 0 c ⟨0,0,none⟩ 0 rfl (Nat.zero_le _) (fun h=>absurd rfl h) (fun x hx=>by cases hx) (fun i x j y h=>by simp at h) (fun i x j y v h=>by simp at h)
section
variable (P : Program)
def esz (E:TypeId):Nat:=P.cellsOf E
def OwnB (own:Own) (w:World) (b o:Nat) (E:TypeId) (k:Nat) (l:List FV) (c:Nat):Prop:=
 own k=some (.sl b o)∧∃ arr,w.heap[k]?=some (.cells arr E (0,0))∧c * esz P E≤arr.size∧(∀ x∈l,x.size=esz P E)∧
  ∀ (i:Nat) x (j:Nat) y,l[i]?=some x→x.cells[j]?=some y→∃ v,arr[i * esz P E+j]?=some v∧RF own w y v
def OwnL (own:Own) (w:World) (b o:Nat) (E:TypeId) (l:List FV) (u:Value):Prop:=
 ∃ a c,u=.slice a l.length c∧l.length≤c∧((a=none∧l=[]∧c=0)∨∃ k,a=some ⟨k,0,none⟩∧OwnB P own w b o E k l c)
def FCells (own:Own) (w:World) (k o:Nat) (l:List FV):Prop:=
 own k=none∧k < w.heap.size∧∀ (j:Nat) y,l[j]?=some y→∃ v,w.cell? ⟨k,o+j,none⟩=some v∧RF own w y v
def RC (own:Own) (w:World):AV→Value→Prop
 | .bad,_=>True
 | .f x,u=>x.one=true∧RF own w x u
 | .ptr b off,u=>∃ k,own k=some (.box b)∧u=if isM b=true then .map (some k) else .pointer (some ⟨k,off,none⟩)
 | .fp x off,u=>∃ k o,u=.pointer (some ⟨k,o+off,none⟩)∧FCells own w k o x.cells
 | _,_=>False
def SlV (G:Sta) (own:Own) (w:World) (b o i n:Nat) (u:Value):Prop:=
 match look G b (some o) with
 | some (.own E l)=>i+n≤l.length∧∃ a c,u=.slice a n c∧n≤c∧((a=none∧l=[]∧c=0)∨∃ k,a=some ⟨k,i * esz P E,none⟩∧OwnB P own w b o E k l (i+c))
 | some (.f (.sl l))=>i+n≤l.length∧RF own w (.sl ((l.drop i).take n)) u
 | _=>True
def EpV (G:Sta) (own:Own) (w:World) (b o i c:Nat) (u:Value):Prop:=
 match look G b (some o) with
 | some (.own E l)=>i < l.length∧∃ k cap,u=.pointer (some ⟨k,i * esz P E+c,none⟩)∧OwnB P own w b o E k l cap
 | some (.f (.sl l))=>∃ x,l[i]?=some x∧RC own w (.fp x c) u
 | _=>True
def R0 (G:Sta) (own:Own) (w:World):AV→Value→Prop
 | .rf b o i n,u=>SlV P G own w b o i n u
 | .ep b o i c,u=>EpV P G own w b o i c u
 | .clo g caps,u=>∃ arr,u=.func (.func g) #[] arr∧caps.length=arr.size∧∀ (j:Nat) x v,caps[j]?=some x→arr[j]?=some v→RC own w x v
 | .ln n,u=>∃ a c,u=.slice a n c
 | v,u=>RC own w v u
def RO (G:Sta) (own:Own) (w:World) (b o:Nat):AV→Value→Prop
 | .own E l,u=>OwnL P own w b o E l u
 | v,u=>R0 P G own w v u
def R1 (G:Sta) (own:Own) (w:World):AV→Value→Prop
 | .agg l,u=>∃ arr,u=.agg arr∧l.length=arr.size∧∀ (j:Nat) x v,l[j]?=some x→arr[j]?=some v→R0 P G own w x v
 | v,u=>R0 P G own w v u
def RL (G:Sta) (own:Own) (w:World) (b:Nat):AV→Value→Prop
 | .agg l,u=>∃ arr,u=.agg arr∧l.length=arr.size∧∀ (j:Nat) x v,l[j]?=some x→arr[j]?=some v→RO P G own w b j x v
 | .tup l,u=>∃ arr,u=.tuple arr∧l.length=arr.size∧∀ (j:Nat) x v,l[j]?=some x→arr[j]?=some v→R1 P G own w x v
 | v,u=>RO P G own w b 0 v u
def RB (G:Sta) (own:Own) (w:World) (b:Nat) (v:AV) (arr:Array Value):Prop:=
 v.leaves.length=arr.size∧∀ (j:Nat) x u,v.leaves[j]?=some x→arr[j]?=some u→RO P G own w b j x u
def RMp (own:Own) (w:World) (v:AV) (es:Array MapEntry):Prop:=
 v=.bad∨∃ L,v=.f (.sl L)∧L.length=es.size∧∀ (i:Nat) x e,L[i]?=some x→es[i]?=some e→∃ k y,x=.agg [k,y]∧RF own w k e.key∧RF own w y e.val
structure St (nt:Nat) (G:Sta) (own:Own) (a:Act) (w:World):Prop where
 size:a.tmps.size=nt
 temps:∀ t v,get G (tb t)=some v→∃ u,a.tmps[t]?=some u∧RL P G own w (tb t) v u
 boxes:∀ b v,b % 3≠1→isM b=false→get G b=some v→∃ k arr T,own k=some (.box b)∧w.heap[k]?=some (.cells arr T (0,0))∧RB P G own w b v arr
 maps:∀ b v,isMM b=true→get G b=some v→∃ k es ck,own k=some (.box b)∧w.heap[k]?=some (.map es ck)∧RMp own w v es
 ghosts:∀ b v,isG b=true→get G b=some v→v.isLeaf=true∧∃ u,RO P G own w b 0 v u
 one:∀ k k' o,own k=some o→own k'=some o→k=k'
 lt:∀ k o,own k=some o→k < w.heap.size
structure Keep (G:Sta) (own:Own) (w:World) (G':Sta) (own':Own) (w':World) (φ:AV→AV) (ov:Nat→Nat→Prop):Prop where
 kl:Kl φ
 ko:∀ E l,φ (.own E l)=.own E l
 tr:Tr own w own' w'
 box:∀ k b off,own k=some (.box b)→φ (.ptr b off)=.ptr b off→own' k=some (.box b)
 clo:∀ g caps,φ (.clo g caps)=.clo g caps→∀ b off,AV.ptr b off∈caps→φ (.ptr b off)=.ptr b off
 sv:∀ b o i n u,φ (.rf b o i n)=.rf b o i n→SlV P G own w b o i n u→SlV P G' own' w' b o i n u
 ev:∀ b o i n u,φ (.ep b o i n)=.ep b o i n→EpV P G own w b o i n u→EpV P G' own' w' b o i n u
 ro:∀ b o E l u,ov b o→look G b (some o)=some (.own E l)→OwnL P own w b o E l u→OwnL P own' w' b o E l u
variable {P}
theorem OwnB.mono {own own':Own} {w w':World} {b o:Nat} {E:TypeId} {k:Nat} {l:List FV} {c:Nat} (ht:Tr own w own' w') (h:OwnB P own w b o E k l c)
 (ho:own' k=some (.sl b o)) (hw:w'.heap[k]?=w.heap[k]?):OwnB P own' w' b o E k l c:=by
 obtain ⟨_,arr,h2,h3,h4,h5⟩:=h
 exact ⟨ho,arr,hw.trans h2,h3,h4,fun i x j y e1 e2=>let ⟨v,e3,e4⟩:=h5 i x j y e1 e2;⟨v,e3,e4.mono ht⟩⟩
theorem OwnB.mono' {own own':Own} {w:World} {b o b' o':Nat} {E:TypeId} {k:Nat} {l:List FV} {c:Nat} (h:OwnB P own w b o E k l c) (ht:Tr own w own' w)
 (ho:own' k=some (.sl b' o')):OwnB P own' w b' o' E k l c:=by
 obtain ⟨_,arr,h2,h3,h4,h5⟩:=h
 exact ⟨ho,arr,h2,h3,h4,fun i x j y e1 e2=>let ⟨v,e3,e4⟩:=h5 i x j y e1 e2;⟨v,e3,e4.mono ht⟩⟩
theorem FCells.mono {own own':Own} {w w':World} {k o:Nat} {l:List FV} (ht:Tr own w own' w') (h:FCells own w k o l):FCells own' w' k o l:=by
 obtain ⟨h1,h2,h3⟩:=h
 refine ⟨(ht.keep k h2 h1).1,Nat.lt_of_lt_of_le h2 ht.size,fun j y e=>?_⟩
 obtain ⟨v,e1,e2⟩:=h3 j y e
 exact ⟨v,(ht.cell (p:=⟨k,o+j,none⟩) h2 h1).trans e1,e2.mono ht⟩
theorem RC.keep {G G':Sta} {own own':Own} {w w':World} {φ:AV→AV} {ov:Nat→Nat→Prop} (K:Keep P G own w G' own' w' φ ov) {v:AV} {u:Value} (h:RC own w v u) (hv:φ v=v):RC own' w' v u:=by
 cases v with
 | bad=>trivial
 | f x=>exact ⟨h.1,RF.mono K.tr h.2⟩
 | ptr b off=>obtain ⟨k,h1,h2⟩:=h;exact ⟨k,K.box k b off h1 hv,h2⟩
 | fp x off=>obtain ⟨k,o,h1,h2⟩:=h;exact ⟨k,o,h1,h2.mono K.tr⟩
 | _=>exact h.elim
theorem RC.fp_mono {own own':Own} {w w':World} {x:FV} {c:Nat} {u:Value} (ht:Tr own w own' w') (h:RC own w (.fp x c) u):RC own' w' (.fp x c) u:=by
 obtain ⟨k,o,h1,h2⟩:=h;exact ⟨k,o,h1,h2.mono ht⟩
theorem R0.keep {G G':Sta} {own own':Own} {w w':World} {φ:AV→AV} {ov:Nat→Nat→Prop} (K:Keep P G own w G' own' w' φ ov) {v:AV} {u:Value} (h:R0 P G own w v u):R0 P G' own' w' (φ v) u:=by
 rcases K.kl.or v with hv | hv
 ·rw [hv]
  cases v with
  | rf b o i n=>exact K.sv b o i n u hv h
  | ep b o i n=>exact K.ev b o i n u hv h
  | clo g caps=>
    obtain ⟨arr,h1,h2,h3⟩:=h
    refine ⟨arr,h1,h2,fun j x v e1 e2=>?_⟩
    have:=h3 j x v e1 e2
    cases x with
    | ptr b off=>
      obtain ⟨k,h4,h5⟩:=this
      exact ⟨k,K.box k b off h4 (K.clo g caps hv b off (List.mem_of_getElem? e1)),h5⟩
    | f x=>exact ⟨this.1,RF.mono K.tr this.2⟩
    | fp x off=>exact RC.fp_mono K.tr this
    | bad=>trivial
    | _=>exact this.elim
  | bad=>trivial
  | ln n=>exact h
  | f x=>exact RC.keep K (v:=.f x) h hv
  | ptr b off=>exact RC.keep K (v:=.ptr b off) h hv
  | fp x off=>exact RC.keep K (v:=.fp x off) h hv
  | own E l=>exact h.elim
  | agg l=>exact h.elim
  | tup l=>exact h.elim
 ·rw [hv];trivial
theorem RC.ptr {own:Own} {w:World} {b off:Nat} {u:Value} (h:RC own w (.ptr b off) u) (hm:isM b=false):∃ k,own k=some (.box b)∧u=.pointer (some ⟨k,off,none⟩):=by
 obtain ⟨k,h1,h2⟩:=h;exact ⟨k,h1,by rw [h2,hm];rfl⟩
theorem zgp {G:Sta} {own:Own} {w:World} {b o:Nat} {v:AV} {u:Value} (h:∀ E l,v≠.own E l):RO P G own w b o v u=R0 P G own w v u:=by
 cases v<;>first | rfl | exact absurd rfl (h _ _)
theorem RO.keep {G G':Sta} {own own':Own} {w w':World} {φ:AV→AV} {ov:Nat→Nat→Prop} (K:Keep P G own w G' own' w' φ ov) {b o:Nat} {v:AV} {u:Value} (h:RO P G own w b o v u)
 (hl:look G b (some o)=some v) (hlv:ov b o):RO P G' own' w' b o (φ v) u:=by
 cases v with
 | own E l=>
   rw [K.ko]
   exact K.ro b o E l u hlv hl h
 | _=>
   all_goals
    rw [zgp (by simp)] at h
    have h':=R0.keep K h
    rcases K.kl.or _ with e | e
    ·rw [e] at h' ⊢;rw [zgp (by simp)];exact h'
    ·rw [e];trivial
theorem R1.keep {G G':Sta} {own own':Own} {w w':World} {φ:AV→AV} {ov:Nat→Nat→Prop} (K:Keep P G own w G' own' w' φ ov) {v:AV} {u:Value} (h:R1 P G own w v u):R1 P G' own' w' (AV.map1 φ v) u:=by
 have key:∀ v:AV,(∀ l,v≠.agg l)→R1 P G own w v u→R1 P G' own' w' (AV.map1 φ v) u:=by
  intro v hv h
  have h0:R0 P G own w v u:=by cases v<;>first | exact h | exact absurd rfl (hv _)
  have h1:=R0.keep K h0
  have e1:AV.map1 φ v=φ v:=by cases v<;>first | rfl | exact absurd rfl (hv _)
  rw [e1]
  have hn:∀ l,φ v≠.agg l:=by
   intro l e
   rcases K.kl.or v with h2 | h2<;>rw [h2] at e
   ·exact hv l e
   ·cases e
  generalize φ v=x at h1 hn
  cases x<;>first | exact h1 | exact absurd rfl (hn _)
 cases v with
 | agg l=>
   obtain ⟨arr,h1,h2,h3⟩:=h
   refine ⟨arr,h1,by simpa using h2,fun j x v e1 e2=>?_⟩
   rw [List.getElem?_map] at e1
   cases hj:l[j]? with
   | none=>rw [hj] at e1;cases e1
   | some y=>rw [hj] at e1;cases e1;exact R0.keep K (h3 j y v hj e2)
 | _=>exact key _ (by simp) h
theorem zbK {G:Sta} {b j:Nat} {l:List AV} {x:AV} (hg:get G b=some (.agg l)) (hj:l[j]?=some x) (hx:x.isLeaf=true):look G b (some j)=some x:=by
 simp [look,hg,AV.leaves,hj,hx]
theorem za6 {G:Sta} {b:Nat} {v:AV} (hg:get G b=some v) (hx:v.isLeaf=true):look G b (some 0)=some v:=by
 have:v.leaves=[v]:=by cases v<;>first | rfl | simp [AV.isLeaf] at hx
 simp [look,hg,this,hx]
theorem r0_leaf {G:Sta} {own:Own} {w:World} {v:AV} {u:Value} (h:R0 P G own w v u):v.isLeaf=true:=by
 cases v<;>first | rfl | exact h.elim
theorem zaP {G:Sta} {own:Own} {w:World} {b o:Nat} {v:AV} {u:Value} (h:RO P G own w b o v u):v.isLeaf=true:=by
 cases v<;>first | rfl | exact h.elim
theorem RB.keep {G G':Sta} {own own':Own} {w w':World} {φ:AV→AV} {ov:Nat→Nat→Prop} (K:Keep P G own w G' own' w' φ ov) {b:Nat} {v:AV} {arr:Array Value} (h:RB P G own w b v arr)
 (hg:get G b=some v) (hlv:∀ o,ov b o):RB P G' own' w' b (AV.map2 φ v) arr:=by
 obtain ⟨h1,h2⟩:=h
 have key:∀ v:AV,(∀ l,v≠.agg l)→get G b=some v→v.leaves.length=arr.size→(∀ (j:Nat) x u,v.leaves[j]?=some x→arr[j]?=some u→RO P G own w b j x u)→RB P G' own' w' b (AV.map2 φ v) arr:=by
  intro v hv hg h1 h2
  have e1:v.leaves=[v]:=by cases v<;>first | rfl | exact absurd rfl (hv _)
  rw [e1] at h1 h2
  obtain ⟨u,hu⟩:∃ u,arr[0]?=some u:=⟨arr[0]'(by simp at h1;omega),by simp⟩
  have hr:=h2 0 v u rfl hu
  have hlf:=zaP hr
  have hr':=RO.keep K hr (za6 hg hlf) (hlv 0)
  have e2:AV.map2 φ v=φ v:=zaX (zH hlf).1 (zH hlf).2
  have e3:(φ v).leaves=[φ v]:=by
   have:=K.kl.leaf v;rw [hlf] at this
   generalize φ v=x at this
   cases x<;>first | rfl | simp [AV.isLeaf] at this
  rw [e2]
  refine ⟨by rw [e3];exact h1,fun j x u' hj hu'=>?_⟩
  rw [e3] at hj
  cases j with
  | zero=>simp at hj;subst hj;rw [hu] at hu';cases hu';exact hr'
  | succ j=>simp at hj
 cases v with
 | agg l=>
   refine ⟨by simpa [AV.map2,AV.leaves] using h1,fun j x u hj hu=>?_⟩
   simp only [AV.map2,AV.leaves,List.getElem?_map] at hj
   cases hx:l[j]? with
   | none=>rw [hx] at hj;cases hj
   | some y=>
     rw [hx] at hj;cases hj
     have hr:=h2 j y u (by simpa [AV.leaves] using hx) hu
     exact RO.keep K hr (zbK hg hx (zaP hr)) (hlv j)
 | _=>exact key _ (by simp) hg h1 h2
theorem RL.keep {G G':Sta} {own own':Own} {w w':World} {φ:AV→AV} {ov:Nat→Nat→Prop} (K:Keep P G own w G' own' w' φ ov) {b:Nat} {v:AV} {u:Value} (h:RL P G own w b v u)
 (hg:get G b=some v) (hlv:∀ o,ov b o):RL P G' own' w' b (AV.map2 φ v) u:=by
 have key:∀ v:AV,(∀ l,v≠.agg l)→(∀ l,v≠.tup l)→get G b=some v→RL P G own w b v u→RL P G' own' w' b (AV.map2 φ v) u:=by
  intro v h1 h2 hg h
  have h0:RO P G own w b 0 v u:=by cases v<;>first | exact h | exact absurd rfl (h1 _) | exact absurd rfl (h2 _)
  have hlf:=zaP h0
  have h3:=RO.keep K h0 (za6 hg hlf) (hlv 0)
  rw [zaX h1 h2]
  obtain ⟨n1,n2⟩:=K.kl.nonagg h1 h2
  generalize φ v=x at h3 n1 n2
  cases x<;>first | exact h3 | exact absurd rfl (n1 _) | exact absurd rfl (n2 _)
 cases v with
 | agg l=>
   obtain ⟨arr,h1,h2,h3⟩:=h
   refine ⟨arr,h1,by simpa using h2,fun j x u hj hu=>?_⟩
   rw [List.getElem?_map] at hj
   cases hx:l[j]? with
   | none=>rw [hx] at hj;cases hj
   | some y=>
     rw [hx] at hj;cases hj
     have hr:=h3 j y u hx hu
     exact RO.keep K hr (zbK hg hx (zaP hr)) (hlv j)
 | tup l=>
   obtain ⟨arr,h1,h2,h3⟩:=h
   refine ⟨arr,h1,by simpa using h2,fun j x u hj hu=>?_⟩
   rw [List.getElem?_map] at hj
   cases hx:l[j]? with
   | none=>rw [hx] at hj;cases hj
   | some y=>rw [hx] at hj;cases hj;exact R1.keep K (h3 j y u hx hu)
 | _=>exact key _ (by simp) (by simp) hg h
theorem zej {b:Nat} (h:isM b=true):b % 3≠1:=by
 have:=Nat.eq_of_beq_eq_true h
 omega
theorem ziX (t:Nat):isM (xb t)=false:=by
 have:(6 * t+2) % 6=2:=by omega
 rw [isM,xb,this];rfl
theorem zgB (i:Nat):isM (ob i)=false:=by
 cases h:isM (ob i) with
 | false=>rfl
 | true=>have:=Nat.eq_of_beq_eq_true h;simp only [ob] at this;omega
theorem isM_mb (t:Nat):isM (mb t)=true:=by
 have:(12 * t+5) % 6=5:=by omega
 rw [isM,mb,this];rfl
theorem isMM_mb (t:Nat):isMM (mb t)=true:=by
 have:(12 * t+5) % 12=5:=by omega
 rw [isMM,mb,this];rfl
theorem isG_gb (t:Nat):isG (gb t)=true:=by
 have:(12 * t+11) % 12=11:=by omega
 rw [isG,gb,this];rfl
theorem zew {b:Nat} (h:isMM b=true):isM b=true:=by
 have:=Nat.eq_of_beq_eq_true h
 have e:b % 6=5:=by omega
 rw [isM,e];rfl
theorem isM_G {b:Nat} (h:isG b=true):isM b=true:=by
 have:=Nat.eq_of_beq_eq_true h
 have e:b % 6=5:=by omega
 rw [isM,e];rfl
theorem isG_MM {b:Nat} (h:isMM b=true) (hg:isG b=true):False:=by
 have:=Nat.eq_of_beq_eq_true h
 have:=Nat.eq_of_beq_eq_true hg
 omega
theorem isG_box {b:Nat} (h:isG b=true):b % 3≠1:=zej (isM_G h)
theorem RMp.mono {own own':Own} {w w':World} {v:AV} {es:Array MapEntry} (ht:Tr own w own' w') (h:RMp own w v es):RMp own' w' v es:=by
 rcases h with h | ⟨L,hL,h1,h2⟩
 ·exact .inl h
 ·refine .inr ⟨L,hL,h1,fun i x e e1 e2=>?_⟩
  obtain ⟨k,y,e3,e4,e5⟩:=h2 i x e e1 e2
  exact ⟨k,y,e3,e4.mono ht,e5.mono ht⟩
theorem RMp.map2 {own:Own} {w:World} {φ:AV→AV} (k:Kl φ) {v:AV} {es:Array MapEntry} (h:RMp own w v es):RMp own w (AV.map2 φ v) es:=by
 rcases h with rfl | ⟨L,rfl,h⟩
 ·exact .inl k.bad
 ·rcases k.or (.f (.sl L)) with e | e
  ·exact .inr ⟨L,e,h⟩
  ·exact .inl e
theorem RMp.setBad {own:Own} {w:World} {v:AV} {es:Array MapEntry} (o:Nat) (h:RMp own w v es):RMp own w (setLeaf o .bad v) es:=by
 rcases h with rfl | ⟨L,rfl,h⟩
 ·simp only [setLeaf,AV.toLeaf];split<;>exact .inl rfl
 ·simp only [setLeaf,AV.toLeaf];split
  ·exact .inl rfl
  ·exact .inr ⟨L,rfl,h⟩
theorem RMp.frz {own:Own} {w:World} {v:AV} {es:Array MapEntry} (o:Nat) (h:RMp own w v es):RMp own w (mapLeaf o Ev.frz v) es:=by
 rcases h with rfl | ⟨L,rfl,h⟩
 ·simp only [mapLeaf,Ev.frz];split<;>exact .inl rfl
 ·simp only [mapLeaf,Ev.frz];split<;>exact .inr ⟨L,rfl,h⟩
theorem St.step {nt:Nat} {G G':Sta} {own own':Own} {a a':Act} {w w':World} {φ:AV→AV} {ov:Nat→Nat→Prop} (s:St P nt G own a w) (K:Keep P G own w G' own' w' φ ov)
 (hs:a'.tmps.size=nt)
 (ht:∀ t v',get G' (tb t)=some v'→(∃ u,a'.tmps[t]?=some u∧RL P G' own' w' (tb t) v' u)∨
   (∃ v,get G (tb t)=some v∧v'=AV.map2 φ v∧a'.tmps[t]?=a.tmps[t]?∧∀ o,ov (tb t) o))
 (hb:∀ b v',b % 3≠1→get G' b=some v'→(isM b=false∧∃ k arr T,own' k=some (.box b)∧w'.heap[k]?=some (.cells arr T (0,0))∧RB P G' own' w' b v' arr)∨
   (isM b=true∧(isMM b=true→∃ k es ck,own' k=some (.box b)∧w'.heap[k]?=some (.map es ck)∧RMp own' w' v' es)∧(isG b=true→v'.isLeaf=true∧∃ u,RO P G' own' w' b 0 v' u))∨
   (∃ v,get G b=some v∧v'=AV.map2 φ v∧(∀ o,ov b o)∧∀ k,own k=some (.box b)→own' k=some (.box b)∧w'.heap[k]?=w.heap[k]?))
 (h1:∀ k k' o,own' k=some o→own' k'=some o→k=k') (h2:∀ k o,own' k=some o→k < w'.heap.size):St P nt G' own' a' w':=by
 refine ⟨hs,fun t v' hg=>?_,fun b v' hb3 hm hg=>?_,fun b v' hm hg=>?_,fun b v' hm hg=>?_,h1,h2⟩
 ·rcases ht t v' hg with h | ⟨v,hv,rfl,ha,hl⟩
  ·exact h
  ·obtain ⟨u,hu,hr⟩:=s.temps t v hv
   exact ⟨u,ha.trans hu,RL.keep K hr hv hl⟩
 ·rcases hb b v' hb3 hg with h | h | ⟨v,hv,rfl,hl,hk⟩
  ·exact h.2
  ·rw [hm] at h;cases h.1
  ·obtain ⟨k,arr,T,e1,e2,e3⟩:=s.boxes b v hb3 hm hv
   exact ⟨k,arr,T,(hk k e1).1,(hk k e1).2.trans e2,RB.keep K e3 hv hl⟩
 ·rcases hb b v' (zej (zew hm)) hg with h | h | ⟨v,hv,rfl,hl,hk⟩
  ·rw [zew hm] at h;cases h.1
  ·exact h.2.1 hm
  ·obtain ⟨k,es,ck,e1,e2,e3⟩:=s.maps b v hm hv
   exact ⟨k,es,ck,(hk k e1).1,(hk k e1).2.trans e2,(e3.map2 K.kl).mono K.tr⟩
 ·rcases hb b v' (isG_box hm) hg with h | h | ⟨v,hv,rfl,hl,hk⟩
  ·rw [isM_G hm] at h;cases h.1
  ·exact h.2.2 hm
  ·obtain ⟨e1,u,e2⟩:=s.ghosts b v hm hv
   have:=RO.keep K e2 (za6 hv e1) (hl 0)
   rw [zaX (zH e1).1 (zH e1).2]
   exact ⟨(K.kl.leaf v).trans e1,u,this⟩
def live (φ:AV→AV) (b o:Nat):Prop:=φ (.rf b o 0 0)=.rf b o 0 0
theorem Up.ko (u:Up) (E:TypeId) (l:List FV):u.kill (.own E l)=.own E l:=by cases u<;>rfl
theorem Up.live_rf {u:Up} {b o i n:Nat} (h:u.kill (.rf b o i n)=.rf b o i n):live u.kill b o:=by
 cases u<;>simp only [Up.kill,live,killr,killb,killp] at h ⊢<;>(try rfl)
 all_goals (split at h;cases h;rename_i hh;rw [if_neg hh])
theorem Up.live_ep {u:Up} {b o i n:Nat} (h:u.kill (.ep b o i n)=.ep b o i n):live u.kill b o:=by
 cases u<;>simp only [Up.kill,live,killr,killb,killp] at h ⊢<;>(try rfl)
 all_goals (split at h;cases h;rename_i hh;rw [if_neg hh])
theorem Up.live_apart {u:Up} (h1:∀ b o,u≠.frz b o) (h2:∀ b o v,u≠.upo b o v) {b o:Nat} (h:live u.kill b o):Apart [accOf b (some o)] u.writes:=by
 intro a ha c hc
 simp only [List.mem_singleton] at ha;subst ha
 cases u with
 | frz b o=>exact absurd rfl (h1 b o)
 | upo b o v=>exact absurd rfl (h2 b o v)
 | set d v=>
   simp only [Up.writes,List.mem_cons,List.not_mem_nil,or_false] at hc
   simp only [live,Up.kill,killr] at h
   split at h;cases h
   rename_i hh
   rcases hc with rfl | rfl
   ·simp only [accOf,Acc.meets,beq_eq_false_iff_ne];exact fun e=>hh (by simp [e])
   ·rfl
 | put d v=>
   simp only [Up.writes,List.mem_singleton] at hc;subst hc
   simp only [live,Up.kill,killr] at h
   split at h;cases h
   rename_i hh;simp only [accOf,Acc.meets,beq_eq_false_iff_ne];exact fun e=>hh (by simp [e])
 | leaf d p v=>
   simp only [Up.writes,List.mem_singleton] at hc;subst hc
   simp only [live,Up.kill,killr] at h
   split at h;cases h
   rename_i hh
   simp only [accOf,Acc.meets,Bool.and_eq_false_iff,beq_eq_false_iff_ne]
   by_cases e:b=d
   ·right;exact fun e2=>hh ⟨e,.inr (by rw [e2])⟩
   ·exact .inl e
 | newbox d v=>
   simp only [Up.writes,List.mem_cons,List.not_mem_nil,or_false] at hc
   simp only [live,Up.kill,killb,killp,killr] at h
   split at h;cases h
   rename_i hh
   rcases hc with rfl | rfl
   ·simp only [accOf,Acc.meets,beq_eq_false_iff_ne];exact fun e=>hh (by simp [e])
   ·rfl
theorem Up.clo_ptr {u:Up} (g:FuncId) (caps:List AV) (h:u.kill (.clo g caps)=.clo g caps) (b off:Nat) (hm:AV.ptr b off∈caps):u.kill (.ptr b off)=.ptr b off:=by
 cases u<;>(try rfl)
 rename_i d v
 simp only [Up.kill,killb,killp] at h ⊢
 split at h
 ·cases h
 ·rename_i hh
  rw [if_neg];· rfl
  intro e;exact hh (List.any_eq_true.2 ⟨_,hm,by simp [AV.isPtr,e]⟩)
theorem zbS {u:Up} {G:Sta} {own own':Own} {w w':World} (h1:∀ b o,u≠.frz b o) (h2:∀ b o v,u≠.upo b o v) (ht:Tr own w own' w')
 (hb:∀ k b off,own k=some (.box b)→u.kill (.ptr b off)=.ptr b off→own' k=some (.box b))
 (ho:∀ b o E l k c,live u.kill b o→look G b (some o)=some (.own E l)→OwnB P own w b o E k l c→OwnB P own' w' b o E k l c) :
 Keep P G own w (u.app G) own' w' u.kill (live u.kill):=by
 have lk:∀ b o x,live u.kill b o→look (u.app G) b (some o)=some x→x.ok=true→look G b (some o)=some x:=
  fun b o x hl hg hx=>look_back hg hx (u.live_apart h1 h2 hl)
 refine ⟨u.kl,u.ko,ht,hb,fun g caps h b off hm=>u.clo_ptr g caps h b off hm,?_,?_,?_⟩
 ·intro b o i n v hr h
  have hl:=u.live_rf hr
  unfold SlV at h ⊢
  cases hg:look (u.app G) b (some o) with
  | none=>trivial
  | some x=>
    cases x with
    | own E l=>
      have hg':=lk b o _ hl hg rfl
      rw [hg'] at h
      obtain ⟨e1,a,c,e2,e3,e4⟩:=h
      refine ⟨e1,a,c,e2,e3,e4.imp id ?_⟩
      rintro ⟨k,e5,e6⟩
      exact ⟨k,e5,ho b o E l k _ hl hg' e6⟩
    | f x=>
      cases x with
      | sl l=>rw [lk b o _ hl hg rfl] at h;exact ⟨h.1,h.2.mono ht⟩
      | _=>trivial
    | _=>trivial
 ·intro b o i n v hr h
  have hl:=u.live_ep hr
  unfold EpV at h ⊢
  cases hg:look (u.app G) b (some o) with
  | none=>trivial
  | some x=>
    cases x with
    | own E l=>
      have hg':=lk b o _ hl hg rfl
      rw [hg'] at h
      obtain ⟨e1,k,c,e2,e3⟩:=h
      exact ⟨e1,k,c,e2,ho b o E l k _ hl hg' e3⟩
    | f x=>
      cases x with
      | sl l=>rw [lk b o _ hl hg rfl] at h;obtain ⟨x,e1,e2⟩:=h;exact ⟨x,e1,RC.fp_mono ht e2⟩
      | _=>trivial
    | _=>trivial
 ·rintro b o E l v hl hg ⟨a,c,e1,e2,e3⟩
  refine ⟨a,c,e1,e2,e3.imp id ?_⟩
  rintro ⟨k,e4,e5⟩
  exact ⟨k,e4,ho b o E l k c hl hg e5⟩
theorem zaf {b c o:Nat} {p:Option Nat} (h:¬ (c=b∧(p=none∨p=some o))):live (killr b p) c o:=by
 simp only [live,killr];rw [if_neg h]
theorem zcG {b c o:Nat} (h:c≠b):live (killb b) c o:=by
 simp only [live,killb,killp];exact zaf (fun e=>h e.1)
theorem tb_ne {s t:Nat} (h:s≠t):tb s≠tb t:=by simp only [tb];omega
theorem tb_inj {s t:Nat} (h:tb s=tb t):s=t:=by simp only [tb] at h;omega
theorem zd9 (a:Act) (t:Nat) (u:Value):(a.put (some t) u).tmps=a.tmps.setIfInBounds t u:=rfl
theorem St.set {nt:Nat} {G:Sta} {own own':Own} {a:Act} {w w':World} (s:St P nt G own a w) {t:Nat} (hlt:t < nt) {v:AV} {u:Value} (ht:Tr own w own' w')
 (hb:∀ k b,own k=some (.box b)→own' k=some (.box b)∧w'.heap[k]?=w.heap[k]?)
 (ho:∀ b o E l k c,b≠tb t→look G b (some o)=some (.own E l)→OwnB P own w b o E k l c→OwnB P own' w' b o E k l c)
 (hv:RL P ((Up.set (tb t) v).app G) own' w' (tb t) v u)
 (h1:∀ k k' o,own' k=some o→own' k'=some o→k=k') (h2:∀ k o,own' k=some o→k < w'.heap.size) :
 St P nt ((Up.set (tb t) v).app G) own' (a.put (some t) u) w':=by
 have hne:∀ {b o},live (Up.set (tb t) v).kill b o→b≠tb t:=by
  intro b o h e;subst e
  simp only [live,Up.kill,killr] at h
  rw [if_pos (by simp)] at h;cases h
 have K:Keep P G own w ((Up.set (tb t) v).app G) own' w' (Up.set (tb t) v).kill (live (Up.set (tb t) v).kill):=
  zbS (by intros;simp) (by intros;simp) ht (fun k b off h _=>(hb k b h).1) (fun b o E l k c hl=>ho b o E l k c (hne hl))
 refine s.step K ?_ ?_ ?_ h1 h2
 ·rw [zd9,Array.size_setIfInBounds];exact s.size
 ·intro r v' hg
  simp only [Up.app,zaK,zab] at hg
  by_cases hr:r=t
  ·subst hr
   rw [if_pos rfl] at hg;cases hg
   exact .inl ⟨u,by rw [zd9,Array.getElem?_setIfInBounds_self_of_lt (by rw [s.size];exact hlt)],hv⟩
  ·rw [if_neg (tb_ne hr)] at hg
   cases hx:get G (tb r) with
   | none=>rw [hx] at hg;cases hg
   | some x=>
     rw [hx] at hg;cases hg
     exact .inr ⟨x,rfl,rfl,by rw [zd9,Array.getElem?_setIfInBounds_ne (Ne.symm hr)],fun o=>zaf (fun e=>tb_ne hr e.1)⟩
 ·intro b v' hb3 hg
  have hbt:b≠tb t:=by intro e;subst e;simp [tb] at hb3
  simp only [Up.app,zaK,zab,if_neg hbt] at hg
  cases hx:get G b with
  | none=>rw [hx] at hg;cases hg
  | some x=>
    rw [hx] at hg;cases hg
    exact .inr (.inr ⟨x,rfl,rfl,fun o=>zaf (fun e=>hbt e.1),fun k hk=>hb k b hk⟩)
theorem St.set_pure {nt:Nat} {G:Sta} {own:Own} {a:Act} {w:World} (s:St P nt G own a w) {t:Nat} (hlt:t < nt) {v:AV} {u:Value}
 (hv:RL P ((Up.set (tb t) v).app G) own w (tb t) v u):St P nt ((Up.set (tb t) v).app G) own (a.put (some t) u) w:=
 s.set hlt (Tr.refl _ _) (fun k b h=>⟨h,rfl⟩) (fun _ _ _ _ _ _ _ _ h=>h) hv s.one s.lt
def vwLeaf (b o:Nat):AV→AV
 | .own _ l=>.rf b o 0 l.length
 | v=>v
def vwL (b:Nat):Nat→List AV→List AV
 | _,[]=>[]
 | o,x :: r=>vwLeaf b o x :: vwL b (o+1) r
def vw (b:Nat):AV→AV
 | .agg l=>.agg (vwL b 0 l)
 | .tup l=>.tup l
 | v=>vwLeaf b 0 v
variable (P) in
def RV (G:Sta) (own:Own) (w:World):AV→Value→Prop
 | .tup l,u=>∃ arr,u=.tuple arr∧l.length=arr.size∧∀ (j:Nat) x v,l[j]?=some x→arr[j]?=some v→R1 P G own w x v
 | v,u=>R1 P G own w v u
theorem vwL_get (b:Nat):∀ (l:List AV) (o j:Nat),(vwL b o l)[j]?=(l[j]?).map (vwLeaf b (o+j))
 | [],_,_=>by simp [vwL]
 | x :: r,o,0=>by simp [vwL]
 | x :: r,o,j+1=>by simp only [vwL,List.getElem?_cons_succ,vwL_get b r (o+1) j];rw [show o+1+j=o+(j+1) by omega]
theorem zjJ (b:Nat):∀ (l:List AV) (o:Nat),(vwL b o l).length=l.length
 | [],_=>rfl
 | x :: r,o=>by simp [vwL,zjJ b r]
theorem RO.view {G:Sta} {own:Own} {w:World} {b o:Nat} {v:AV} {u:Value} (h:RO P G own w b o v u) (hl:look G b (some o)=some v):R0 P G own w (vwLeaf b o v) u:=by
 cases v with
 | own E l=>
   obtain ⟨a,c,h1,h2,h3⟩:=h
   show SlV P G own w b o 0 l.length u
   unfold SlV;rw [hl]
   refine ⟨by omega,a,c,h1,h2,?_⟩
   simpa using h3
 | _=>
   all_goals
    rw [zgp (by simp)] at h
    exact h
theorem RL.view {G:Sta} {own:Own} {w:World} {b:Nat} {v:AV} {u:Value} (h:RL P G own w b v u) (hg:get G b=some v):RV P G own w (vw b v) u:=by
 have key:∀ v:AV,(∀ l,v≠.agg l)→(∀ l,v≠.tup l)→RL P G own w b v u→get G b=some v→RV P G own w (vwLeaf b 0 v) u:=by
  intro v h1 h2 h hg
  have h0:RO P G own w b 0 v u:=by cases v<;>first | exact h | exact absurd rfl (h1 _) | exact absurd rfl (h2 _)
  have h3:=RO.view h0 (za6 hg (zaP h0))
  have:=r0_leaf h3
  generalize vwLeaf b 0 v=x at h3 this
  cases x<;>first | exact h3 | simp [AV.isLeaf] at this
 cases v with
 | agg l=>
   obtain ⟨arr,h1,h2,h3⟩:=h
   refine ⟨arr,h1,by rw [zjJ];exact h2,fun j x v e1 e2=>?_⟩
   rw [vwL_get] at e1
   cases hj:l[j]? with
   | none=>rw [hj] at e1;cases e1
   | some y=>
     rw [hj] at e1;cases e1
     have h0:=h3 j y v hj e2
     rw [Nat.zero_add]
     exact RO.view h0 (zbK hg hj (zaP h0))
 | tup l=>exact h
 | _=>exact key _ (by simp) (by simp) h hg
theorem R1.fix {G G':Sta} {own own':Own} {w w':World} {φ:AV→AV} {ov:Nat→Nat→Prop} (K:Keep P G own w G' own' w' φ ov) {v:AV} {u:Value} (h:R1 P G own w v u) (hv:AV.map1 φ v=v):R1 P G' own' w' v u:=by
 have:=R1.keep K h;rwa [hv] at this
theorem RV.keep {G G':Sta} {own own':Own} {w w':World} {φ:AV→AV} {ov:Nat→Nat→Prop} (K:Keep P G own w G' own' w' φ ov) {v:AV} {u:Value} (h:RV P G own w v u) (hv:AV.map2 φ v=v):RV P G' own' w' v u:=by
 have key:∀ v:AV,(∀ l,v≠.tup l)→RV P G own w v u→AV.map2 φ v=v→RV P G' own' w' v u:=by
  intro v h1 h hv
  have h0:R1 P G own w v u:=by cases v<;>first | exact h | exact absurd rfl (h1 _)
  have e:AV.map1 φ v=v:=by cases v<;>first | exact hv | exact absurd rfl (h1 _)
  have:=R1.fix K h0 e
  cases v<;>first | exact this | exact absurd rfl (h1 _)
 cases v with
 | tup l=>
   obtain ⟨arr,h1,h2,h3⟩:=h
   refine ⟨arr,h1,h2,fun j x v e1 e2=>R1.fix K (h3 j x v e1 e2) ?_⟩
   simp only [AV.map2] at hv
   injection hv with hv
   have:=congrArg (fun l=>l[j]?) hv
   simp only [List.getElem?_map,e1,Option.map_some] at this
   exact Option.some.inj this
 | _=>exact key _ (by simp) h hv
theorem RV.at {G:Sta} {own:Own} {w:World} {b:Nat} {v:AV} {u:Value} (h:RV P G own w v u):RL P G own w b v u:=by
 have e:∀ {o:Nat} {x:AV} {y:Value},R0 P G own w x y→RO P G own w b o x y:=by
  intro o x y hx
  cases x with
  | own E l=>exact hx.elim
  | _=>exact hx
 cases v with
 | agg l=>obtain ⟨arr,h1,h2,h3⟩:=h;exact ⟨arr,h1,h2,fun j x v e1 e2=>e (h3 j x v e1 e2)⟩
 | tup l=>exact h
 | own E l=>exact h.elim
 | bad=>exact e (o:=0) (x:=.bad) (y:=u) h
 | f x=>exact e (o:=0) (x:=.f x) (y:=u) h
 | ptr b o=>exact e (o:=0) (x:=.ptr b o) (y:=u) h
 | fp x o=>exact e (o:=0) (x:=.fp x o) (y:=u) h
 | ln n=>exact e (o:=0) (x:=.ln n) (y:=u) h
 | ep b o i c=>exact e (o:=0) (x:=.ep b o i c) (y:=u) h
 | rf b o i c=>exact e (o:=0) (x:=.rf b o i c) (y:=u) h
 | clo g c=>exact e (o:=0) (x:=.clo g c) (y:=u) h
def AV.free (b:Nat) (v:AV):Bool:=v.refs.all fun a=>!a.meets (.all b)
theorem AV.free_apart {b:Nat} {v:AV} (h:v.free b=true):Apart v.refs [.all b]:=by
 intro a ha c hc
 simp only [List.mem_singleton] at hc;subst hc
 simpa using List.all_eq_true.1 h a ha
theorem St.set_view {nt:Nat} {G:Sta} {own:Own} {a:Act} {w:World} (s:St P nt G own a w) {t:Nat} (hlt:t < nt) {v:AV} {u:Value}
 (hv:RV P G own w v u) (hf:v.free (tb t)=true):St P nt ((Up.set (tb t) v).app G) own (a.put (some t) u) w:=by
 refine s.set_pure hlt (RV.at ?_)
 have K:Keep P G own w ((Up.set (tb t) v).app G) own w (Up.set (tb t) v).kill (live (Up.set (tb t) v).kill):=
  zbS (by intros;simp) (by intros;simp) (Tr.refl _ _) (fun k b off h _=>h) (fun _ _ _ _ _ _ _ _ h=>h)
 exact hv.keep K (by rw [show (Up.set (tb t) v).kill=(Up.put (tb t) v).kill from rfl];exact zcH (AV.free_apart hf))
theorem zaH (w:World) (o:Obj) {k:Nat} (h:k < w.heap.size):(w.alloc o).heap[k]?=w.heap[k]?:=Below.heap_alloc w o k h
theorem zaV (w:World) (o:Obj):(w.alloc o).heap[w.heap.size]?=some o:=by show (w.heap.push o)[w.heap.size]?=some o;simp
def ownBox (own:Own) (n b:Nat):Own:=fun k=>if k=n then some (.box b) else if own k=some (.box b) then none else own k
theorem St.newobj_keep {nt:Nat} {G:Sta} {own:Own} {a:Act} {w:World} (s:St P nt G own a w) (b:Nat) (hb2:b % 3=2) (z:AV) (ob:Obj) :
 Keep P G own w ((Up.newbox b z).app G) (ownBox own w.heap.size b) (w.alloc ob) (killb b) (live (killb b)):=by
 have hlt:∀ k o,own k=some o→k≠w.heap.size:=fun k o h=>Nat.ne_of_lt (s.lt k o h)
 have ht:Tr own w (ownBox own w.heap.size b) (w.alloc ob):=by
  refine ⟨by simp,fun k hk ho=>⟨?_,zaH _ _ hk⟩,rfl,rfl,rfl,fun k o h=>⟨?_,zaH _ _ (s.lt k _ h)⟩,fun k c hc h=>?_⟩
  ·simp [ownBox,Nat.ne_of_lt hk,ho]
  ·simp [ownBox,hlt k _ h,h]
  ·simp [ownBox,hlt k _ h,h,show c≠b by omega]
 have K:Keep P G own w ((Up.newbox b z).app G) (ownBox own w.heap.size b) (w.alloc ob) (Up.newbox b z).kill (live (Up.newbox b z).kill):=by
  refine zbS (by intros;simp) (by intros;simp) ht ?_ ?_
  ·intro k c off h hk
   have hc:c≠b:=by
    intro e;subst e;simp [Up.kill,killb,killp,killr] at hk
   simp [ownBox,hlt k _ h,h,hc]
  ·intro c o E l k cc hl hg h
   have hne:=hlt k _ h.1
   refine h.mono ht ?_ (zaH _ _ (s.lt k _ h.1))
   simp [ownBox,hne,h.1]
 exact K
theorem St.newbox_keep {nt:Nat} {G:Sta} {own:Own} {a:Act} {w:World} (s:St P nt G own a w) (b:Nat) (hb2:b % 3=2) (z:AV) (arr:Array Value) (T:TypeId) :
 Keep P G own w ((Up.newbox b z).app G) (ownBox own w.heap.size b) (w.alloc (.cells arr T)) (killb b) (live (killb b)):=s.newobj_keep b hb2 z _
theorem St.newbox {nt:Nat} {G:Sta} {own:Own} {a:Act} {w:World} (s:St P nt G own a w) {b:Nat} (hb2:b % 3=2) (hm:isM b=false) {z:AV} {arr:Array Value} {T:TypeId}
 (hz:RB P ((Up.newbox b z).app G) (ownBox own w.heap.size b) (w.alloc (.cells arr T)) b z arr) :
 St P nt ((Up.newbox b z).app G) (ownBox own w.heap.size b) a (w.alloc (.cells arr T)):=by
 have hlt:∀ k o,own k=some o→k≠w.heap.size:=fun k o h=>Nat.ne_of_lt (s.lt k o h)
 have K:=s.newbox_keep b hb2 z arr T
 refine s.step K s.size ?_ ?_ ?_ ?_
 ·intro r v' hg
  have hrb:tb r≠b:=by intro e;subst e;simp [tb] at hb2
  simp only [Up.app,zaK,zab,if_neg hrb] at hg
  cases hx:get G (tb r) with
  | none=>rw [hx] at hg;cases hg
  | some x=>rw [hx] at hg;cases hg;exact .inr ⟨x,rfl,rfl,rfl,fun o=>zcG hrb⟩
 ·intro c v' hc hg
  by_cases hcb:c=b
  ·subst hcb
   simp only [Up.app,zaK,if_true] at hg
   cases hg
   exact .inl ⟨hm,w.heap.size,arr,T,by simp [ownBox],zaV _ _,hz⟩
  ·simp only [Up.app,zaK,zab,if_neg hcb] at hg
   cases hx:get G c with
   | none=>rw [hx] at hg;cases hg
   | some x=>
     rw [hx] at hg;cases hg
     refine .inr (.inr ⟨x,rfl,rfl,fun o=>zcG hcb,fun k hk=>⟨by simp [ownBox,hlt k _ hk,hk,hcb],zaH _ _ (s.lt k _ hk)⟩⟩)
 ·intro k k' o h h'
  simp only [ownBox] at h h'
  by_cases e:k=w.heap.size<;>by_cases e':k'=w.heap.size
  ·omega
  ·rw [if_pos e] at h;rw [if_neg e'] at h'
   split at h'
   ·cases h'
   ·rename_i hn;cases h;exact absurd h' hn
  ·rw [if_neg e] at h;rw [if_pos e'] at h'
   split at h
   ·cases h
   ·rename_i hn;cases h';exact absurd h hn
  ·rw [if_neg e] at h;rw [if_neg e'] at h'
   split at h;cases h
   split at h';cases h'
   exact s.one k k' o h h'
 ·intro k o h
  simp only [ownBox] at h
  simp only [World.size_alloc]
  split at h
  ·omega
  ·split at h
   ·cases h
   ·have:=s.lt k o h;omega
theorem z8 (w:World) (p:Addr) (u:Value) {k:Nat} (h:k≠p.block):(w.setCell p u).heap[k]?=w.heap[k]?:=Below.heap_setCell w p u k h
theorem zeR (w:World) {k off:Nat} (u:Value) {arr:Array Value} {T:TypeId} {fz:Nat×Nat} (h:w.heap[k]?=some (.cells arr T fz)) :
 (w.setCell ⟨k,off,none⟩ u).heap[k]?=some (.cells (arr.setIfInBounds off u) T fz):=by
 simp only [World.setCell,Array.getElem?_modify,if_true,h,Option.map_some]
 rfl
theorem za4 {v x:AV} {o j:Nat} (hv:v.isLeaf=true) (hx:(∃ l,x=.agg l)∨x.isLeaf=true) :
 (setLeaf o v x).leaves[j]?=if j=o∧o < x.leaves.length then some v else x.leaves[j]?:=by
 have e:v.toLeaf=v:=by cases v<;>first | rfl | simp [AV.isLeaf] at hv
 have ev:v.leaves=[v]:=by cases v<;>first | rfl | simp [AV.isLeaf] at hv
 rcases hx with ⟨l,rfl⟩ | hx
 ·simp only [setLeaf,AV.leaves,e,List.getElem?_set]
  by_cases h:o=j
  ·subst h;by_cases h2:o < l.length<;>simp [h2]
  ·simp [h,show ¬ j=o from fun e=>h e.symm]
 ·have ex:x.leaves=[x]:=by cases x<;>first | rfl | simp [AV.isLeaf] at hx
  have es:setLeaf o v x=if o=0 then v.toLeaf else x:=by cases x<;>first | rfl | simp [AV.isLeaf] at hx
  rw [e] at es
  rw [es,ex]
  by_cases h:o=0
  ·subst h;rw [if_pos rfl,ev];cases j<;>simp
  ·rw [if_neg h,ex];have:¬ o < 1:=by omega
   simp [this]
theorem zdm {v x:AV} {o:Nat} (hv:v.isLeaf=true) (hx:(∃ l,x=.agg l)∨x.isLeaf=true):(setLeaf o v x).leaves.length=x.leaves.length:=by
 have e:v.toLeaf=v:=by cases v<;>first | rfl | simp [AV.isLeaf] at hv
 have ev:v.leaves=[v]:=by cases v<;>first | rfl | simp [AV.isLeaf] at hv
 rcases hx with ⟨l,rfl⟩ | hx
 ·simp [setLeaf,AV.leaves]
 ·have ex:x.leaves=[x]:=by cases x<;>first | rfl | simp [AV.isLeaf] at hx
  have es:setLeaf o v x=if o=0 then v.toLeaf else x:=by cases x<;>first | rfl | simp [AV.isLeaf] at hx
  rw [e] at es
  rw [es,ex]
  by_cases h:o=0
  ·rw [if_pos h,ev];rfl
  ·rw [if_neg h,ex]
theorem zee {φ:AV→AV} (k:Kl φ) {x:AV} (hx:(∃ l,x=.agg l)∨x.isLeaf=true):(AV.map2 φ x).leaves=x.leaves.map φ∧((∃ l,AV.map2 φ x=.agg l)∨(AV.map2 φ x).isLeaf=true):=by
 rcases hx with ⟨l,rfl⟩ | hx
 ·exact ⟨rfl,.inl ⟨_,rfl⟩⟩
 ·have e:=zaX (φ:=φ) (zH hx).1 (zH hx).2
  have hl:=k.leaf x;rw [hx] at hl
  have ex:x.leaves=[x]:=by cases x<;>first | rfl | simp [AV.isLeaf] at hx
  have e2:(φ x).leaves=[φ x]:=by
   generalize φ x=y at hl;cases y<;>first | rfl | simp [AV.isLeaf] at hl
  rw [e,e2,ex];exact ⟨rfl,.inr hl⟩
theorem rb_form {G:Sta} {own:Own} {w:World} {b:Nat} {x:AV} {arr:Array Value} (h:RB P G own w b x arr):(∃ l,x=.agg l)∨x.isLeaf=true:=by
 cases x with
 | agg l=>exact .inl ⟨l,rfl⟩
 | tup l=>
   have h1:=h.1;simp only [AV.leaves,List.length_singleton] at h1
   have:=h.2 0 (.tup l) (arr[0]'(by omega)) rfl (by simp)
   exact absurd (zaP this) (by simp [AV.isLeaf])
 | _=>exact .inr rfl
theorem St.leaf {nt:Nat} {G:Sta} {own own':Own} {a:Act} {w:World} (s:St P nt G own a w) {b o k:Nat} (hb3:b % 3≠1) (hm:isM b=false) {x v:AV} {u:Value} (hx:get G b=some x) (ho:o < x.leaves.length)
 (hk:own k=some (.box b)) (hvl:v.isLeaf=true)
 (hbx:∀ k c,own k=some (.box c)↔own' k=some (.box c)) (hnn:∀ k,own k=none→own' k=none) (hal:∀ k o,own k=some (.al o)→own' k=some (.al o))
 (hob:∀ c p E l k c',¬ (c=b∧p=o)→look G c (some p)=some (.own E l)→OwnB P own w c p E k l c'→own' k=some (.sl c p))
 (hv:Tr own w own' (w.setCell ⟨k,o,none⟩ u)→RO P ((Up.leaf b o v).app G) own' (w.setCell ⟨k,o,none⟩ u) b o v u)
 (h1:∀ k k' o,own' k=some o→own' k'=some o→k=k') (h2:∀ k o,own' k=some o→k < w.heap.size) :
 St P nt ((Up.leaf b o v).app G) own' a (w.setCell ⟨k,o,none⟩ u)∧
  Keep P G own w ((Up.leaf b o v).app G) own' (w.setCell ⟨k,o,none⟩ u) (killr b (some o)) (live (killr b (some o))):=by
 have ht:Tr own w own' (w.setCell ⟨k,o,none⟩ u):=by
  refine ⟨by simp,fun j hj hn=>⟨hnn j hn,z8 _ _ _ ?_⟩,rfl,rfl,rfl,fun j x hn=>⟨hal j x hn,z8 _ _ _ ?_⟩,fun j c _ h=>(hbx j c).1 h⟩
  all_goals (intro e;simp only at e;rw [e,hk] at hn;cases hn)
 have K:Keep P G own w ((Up.leaf b o v).app G) own' (w.setCell ⟨k,o,none⟩ u) (Up.leaf b o v).kill (live (Up.leaf b o v).kill):=by
  refine zbS (by intros;simp) (by intros;simp) ht (fun j c off h _=>(hbx j c).1 h) ?_
  intro c p E l j c' hl hg h
  have hn:¬ (c=b∧p=o):=by
   rintro ⟨rfl,rfl⟩
   simp [live,Up.kill,killr] at hl
  refine h.mono ht (hob c p E l j c' hn hg h) (z8 _ _ _ ?_)
  intro e;simp only at e;rw [e] at h;have:=h.1;rw [hk] at this;cases this
 refine ⟨s.step K s.size ?_ ?_ h1 (fun k o h=>by simpa using h2 k o h),K⟩
 ·intro r v' hg
  have hrb:tb r≠b:=by intro e;subst e;simp [tb] at hb3
  simp only [Up.app,zaj,zab,if_neg hrb] at hg
  cases hr:get G (tb r) with
  | none=>rw [hr] at hg;cases hg
  | some y=>rw [hr] at hg;cases hg;exact .inr ⟨y,rfl,rfl,rfl,fun o=>zaf (fun e=>hrb e.1)⟩
 ·intro c v' hc hg
  by_cases hcb:c=b
  ·subst hcb
   simp only [Up.app,zaj,zab,if_true,hx,Option.map_some] at hg
   cases hg
   obtain ⟨j,arr,T,e1,e2,e3⟩:=s.boxes c x hc hm hx
   have hj:j=k:=s.one _ _ _ e1 hk
   subst hj
   refine .inl ⟨hm,j,_,T,(hbx j c).1 hk,zeR _ _ e2,?_⟩
   have hf:=rb_form e3
   obtain ⟨m1,m2⟩:=zee (zbG c (some o)) hf
   have hlen:(AV.map2 (killr c (some o)) x).leaves.length=x.leaves.length:=by rw [m1];simp
   refine ⟨by rw [zdm hvl m2,hlen,Array.size_setIfInBounds];exact e3.1,fun i y y' h3 h4=>?_⟩
   rw [za4 hvl m2,hlen] at h3
   by_cases hi:i=o
   ·subst hi
    rw [if_pos ⟨rfl,ho⟩] at h3;cases h3
    rw [Array.getElem?_setIfInBounds_self_of_lt (by rw [← e3.1];exact ho)] at h4;cases h4
    exact hv ht
   ·rw [if_neg (fun e=>hi e.1),m1,List.getElem?_map] at h3
    rw [Array.getElem?_setIfInBounds_ne (fun e=>hi e.symm)] at h4
    cases hy:x.leaves[i]? with
    | none=>rw [hy] at h3;cases h3
    | some z=>
      rw [hy] at h3;cases h3
      have hro:=e3.2 i z y' hy h4
      have hlf:=zaP hro
      refine RO.keep K hro ?_ (zaf (by rintro ⟨_,e | e⟩<;>simp at e;exact hi e.symm))
      simp [look,hx,hy,hlf]
  ·simp only [Up.app,zaj,zab,if_neg hcb] at hg
   cases hr:get G c with
   | none=>rw [hr] at hg;cases hg
   | some y=>
     rw [hr] at hg;cases hg
     refine .inr (.inr ⟨y,rfl,rfl,fun o=>zaf (fun e=>hcb e.1),fun j hj=>⟨(hbx j c).1 hj,z8 _ _ _ ?_⟩⟩)
     intro e;simp only at e;rw [e,hk] at hj;cases hj;exact hcb rfl
theorem St.bad {nt:Nat} {G:Sta} {own:Own} {a:Act} {w:World} (s:St P nt G own a w) (b o:Nat) :
 St P nt ((Up.leaf b o .bad).app G) own a w∧Keep P G own w ((Up.leaf b o .bad).app G) own w (killr b (some o)) (live (killr b (some o))):=by
 have K:Keep P G own w ((Up.leaf b o .bad).app G) own w (Up.leaf b o .bad).kill (live (Up.leaf b o .bad).kill):=
  zbS (by intros;simp) (by intros;simp) (Tr.refl _ _) (fun j c off h _=>h) (fun _ _ _ _ _ _ _ _ h=>h)
 have hlv:∀ {j},j≠o→live (killr b (some o)) b j:=fun h=>zaf (by rintro ⟨_,e | e⟩<;>simp at e;exact h e.symm)
 have scal:∀ v:AV,(∀ l,v≠.agg l)→(∀ l,v≠.tup l)→setLeaf o .bad (AV.map2 (killr b (some o)) v)=if o=0 then .bad else killr b (some o) v:=by
  intro v h1 h2
  obtain ⟨k1,k2⟩:=(zbG b (some o)).nonagg h1 h2
  rw [zaX h1 h2,(zbo k1 k2).2.1];rfl
 refine ⟨s.step K s.size ?_ ?_ s.one s.lt,K⟩
 ·intro r v' hg
  by_cases hr:tb r=b
  ·subst hr
   simp only [Up.app,zaj,zab,if_true] at hg
   cases hx:get G (tb r) with
   | none=>rw [hx] at hg;cases hg
   | some v=>
     rw [hx] at hg;cases hg
     obtain ⟨u,hu,hrl⟩:=s.temps r v hx
     refine .inl ⟨u,hu,?_⟩
     have key:∀ v:AV,(∀ l,v≠.agg l)→(∀ l,v≠.tup l)→get G (tb r)=some v→RL P G own w (tb r) v u→
      RL P ((Up.leaf (tb r) o .bad).app G) own w (tb r) (setLeaf o .bad (AV.map2 (killr (tb r) (some o)) v)) u:=by
      intro v h1 h2 hx hrl
      rw [scal v h1 h2]
      by_cases h0:o=0
      ·rw [if_pos h0];trivial
      ·rw [if_neg h0]
       have h3:RO P G own w (tb r) 0 v u:=by cases v<;>first | exact hrl | exact absurd rfl (h1 _) | exact absurd rfl (h2 _)
       have h4:=RO.keep K h3 (za6 hx (zaP h3)) (hlv (fun e=>h0 e.symm))
       obtain ⟨k1,k2⟩:=(zbG (tb r) (some o)).nonagg h1 h2
       have h5:RO P ((Up.leaf (tb r) o .bad).app G) own w (tb r) 0 (killr (tb r) (some o) v) u:=h4
       generalize killr (tb r) (some o) v=x at h5 k1 k2
       cases x<;>first | exact h5 | exact absurd rfl (k1 _) | exact absurd rfl (k2 _)
     cases v with
     | agg l=>
       obtain ⟨arr,e1,e2,e3⟩:=hrl
       refine ⟨arr,e1,by simpa using e2,fun j x y h3 h4=>?_⟩
       simp only [List.getElem?_set,List.getElem?_map] at h3
       by_cases hj:o=j
       ·subst hj
        rw [if_pos rfl] at h3
        split at h3
        ·cases h3;trivial
        ·cases h3
       ·rw [if_neg hj] at h3
        cases hy:l[j]? with
        | none=>rw [hy] at h3;cases h3
        | some z=>
          rw [hy] at h3;cases h3
          have hro:=e3 j z y hy h4
          exact RO.keep K hro (zbK hx hy (zaP hro)) (hlv (fun e=>hj e.symm))
     | tup l=>
       by_cases h0:o=0
       ·simp only [AV.map2,setLeaf,h0,if_true];trivial
       ·simp only [AV.map2,setLeaf,h0,if_false]
        obtain ⟨arr,e1,e2,e3⟩:=hrl
        refine ⟨arr,e1,by simpa using e2,fun j x y h3 h4=>?_⟩
        rw [List.getElem?_map] at h3
        cases hy:l[j]? with
        | none=>rw [hy] at h3;cases h3
        | some z=>rw [hy] at h3;cases h3;exact R1.keep K (e3 j z y hy h4)
     | _=>exact key _ (by simp) (by simp) hx hrl
  ·simp only [Up.app,zaj,zab,if_neg hr] at hg
   cases hx:get G (tb r) with
   | none=>rw [hx] at hg;cases hg
   | some x=>rw [hx] at hg;cases hg;exact .inr ⟨x,rfl,rfl,rfl,fun o=>zaf (fun e=>hr e.1)⟩
 ·intro c v' hc hg
  by_cases hcb:c=b
  ·subst hcb
   simp only [Up.app,zaj,zab,if_true] at hg
   cases hx:get G c with
   | none=>rw [hx] at hg;cases hg
   | some x=>
     rw [hx] at hg;cases hg
     cases hm:isM c with
     | true=>
       refine .inr (.inl ⟨rfl,fun hm=>?_,fun hm=>?_⟩)
       ·obtain ⟨k,es,ck,e1,e2,e3⟩:=s.maps c x hm hx
        exact ⟨k,es,ck,e1,e2,(e3.map2 (zbG c (some o))).setBad o⟩
       ·obtain ⟨e1,u,e2⟩:=s.ghosts c x hm hx
        have e3:=zaX (φ:=killr c (some o)) (zH e1).1 (zH e1).2
        have e4:=((zbG c (some o)).leaf x).trans e1
        rw [e3,(zbo (zH e4).1 (zH e4).2).2.1]
        by_cases h0:o=0
        ·rw [if_pos h0];exact ⟨rfl,u,trivial⟩
        ·rw [if_neg h0];exact ⟨e4,u,RO.keep K e2 (za6 hx e1) (hlv (fun e=>h0 e.symm))⟩
     | false=>
     obtain ⟨k,arr,T,e1,e2,e3⟩:=s.boxes c x hc hm hx
     refine .inl ⟨rfl,k,arr,T,e1,e2,?_⟩
     have hf:=rb_form e3
     obtain ⟨m1,m2⟩:=zee (zbG c (some o)) hf
     have hlen:(AV.map2 (killr c (some o)) x).leaves.length=x.leaves.length:=by rw [m1];simp
     refine ⟨by rw [zdm rfl m2,hlen];exact e3.1,fun i y y' h3 h4=>?_⟩
     rw [za4 rfl m2,hlen] at h3
     by_cases hi:i=o
     ·subst hi
      split at h3
      ·cases h3;trivial
      ·rename_i hn
       have:=(Array.getElem?_eq_some_iff.1 h4).1
       exact absurd ⟨rfl,by rw [e3.1];exact this⟩ hn
     ·rw [if_neg (fun e=>hi e.1),m1,List.getElem?_map] at h3
      cases hy:x.leaves[i]? with
      | none=>rw [hy] at h3;cases h3
      | some z=>
        rw [hy] at h3;cases h3
        have hro:=e3.2 i z y' hy h4
        have hlf:=zaP hro
        exact RO.keep K hro (by simp [look,hx,hy,hlf]) (hlv hi)
  ·simp only [Up.app,zaj,zab,if_neg hcb] at hg
   cases hx:get G c with
   | none=>rw [hx] at hg;cases hg
   | some x=>rw [hx] at hg;cases hg;exact .inr (.inr ⟨x,rfl,rfl,fun o=>zaf (fun e=>hcb e.1),fun k hk=>⟨hk,rfl⟩⟩)
theorem St.lnd {nt:Nat} {G:Sta} {own:Own} {a:Act} {w:World} (s:St P nt G own a w) {b o:Nat} {E0:TypeId} {l0:List FV} (hl0:look G b (some o)=some (.own E0 l0)) :
 St P nt ((Up.leaf b o (.ln l0.length)).app G) own a w∧Keep P G own w ((Up.leaf b o (.ln l0.length)).app G) own w (killr b (some o)) (live (killr b (some o))):=by
 have K:Keep P G own w ((Up.leaf b o (.ln l0.length)).app G) own w (Up.leaf b o (.ln l0.length)).kill (live (Up.leaf b o (.ln l0.length)).kill):=
  zbS (by intros;simp) (by intros;simp) (Tr.refl _ _) (fun j c off h _=>h) (fun _ _ _ _ _ _ _ _ h=>h)
 have hlv:∀ {j},j≠o→live (killr b (some o)) b j:=fun h=>zaf (by rintro ⟨_,e | e⟩<;>simp at e;exact h e.symm)
 have scal:∀ v:AV,(∀ l,v≠.agg l)→(∀ l,v≠.tup l)→setLeaf o (.ln l0.length) (AV.map2 (killr b (some o)) v)=if o=0 then .ln l0.length else killr b (some o) v:=by
  intro v h1 h2
  obtain ⟨k1,k2⟩:=(zbG b (some o)).nonagg h1 h2
  rw [zaX h1 h2,(zbo k1 k2).2.1];rfl
 have hz:∀ {x:AV} {u:Value} {G':Sta} {b' o':Nat},look G b (some o)=some x→RO P G own w b o x u→RO P G' own w b' o' (.ln l0.length) u:=by
  intro x u G' b' o' h1 h2
  rw [hl0] at h1;cases h1
  obtain ⟨a',c',e1,_⟩:=h2
  exact ⟨a',c',e1⟩
 refine ⟨s.step K s.size ?_ ?_ s.one s.lt,K⟩
 ·intro r v' hg
  by_cases hr:tb r=b
  ·subst hr
   simp only [Up.app,zaj,zab,if_true] at hg
   cases hx:get G (tb r) with
   | none=>rw [hx] at hg;cases hg
   | some v=>
     rw [hx] at hg;cases hg
     obtain ⟨u,hu,hrl⟩:=s.temps r v hx
     refine .inl ⟨u,hu,?_⟩
     have key:∀ v:AV,(∀ l,v≠.agg l)→(∀ l,v≠.tup l)→get G (tb r)=some v→RL P G own w (tb r) v u→
      RL P ((Up.leaf (tb r) o (.ln l0.length)).app G) own w (tb r) (setLeaf o (.ln l0.length) (AV.map2 (killr (tb r) (some o)) v)) u:=by
      intro v h1 h2 hx hrl
      rw [scal v h1 h2]
      by_cases h0:o=0
      ·rw [if_pos h0];subst h0
       have h3:RO P G own w (tb r) 0 v u:=by cases v<;>first | exact hrl | exact absurd rfl (h1 _) | exact absurd rfl (h2 _)
       exact hz (G':=G) (b':=tb r) (o':=0) (za6 hx (zaP h3)) h3
      ·rw [if_neg h0]
       have h3:RO P G own w (tb r) 0 v u:=by cases v<;>first | exact hrl | exact absurd rfl (h1 _) | exact absurd rfl (h2 _)
       have h4:=RO.keep K h3 (za6 hx (zaP h3)) (hlv (fun e=>h0 e.symm))
       obtain ⟨k1,k2⟩:=(zbG (tb r) (some o)).nonagg h1 h2
       have h5:RO P ((Up.leaf (tb r) o (.ln l0.length)).app G) own w (tb r) 0 (killr (tb r) (some o) v) u:=h4
       generalize killr (tb r) (some o) v=x at h5 k1 k2
       cases x<;>first | exact h5 | exact absurd rfl (k1 _) | exact absurd rfl (k2 _)
     cases v with
     | agg l=>
       obtain ⟨arr,e1,e2,e3⟩:=hrl
       refine ⟨arr,e1,by simpa using e2,fun j x y h3 h4=>?_⟩
       simp only [List.getElem?_set,List.getElem?_map] at h3
       by_cases hj:o=j
       ·subst hj
        rw [if_pos rfl] at h3
        split at h3
        ·rename_i hlt
         cases h3
         obtain ⟨z,hz1⟩:∃ z,l[o]?=some z:=⟨l[o]'(by simpa using hlt),by simp⟩
         have hro:=e3 o z y hz1 h4
         exact hz (G':=G) (b':=tb r) (o':=o) (zbK hx hz1 (zaP hro)) hro
        ·cases h3
       ·rw [if_neg hj] at h3
        cases hy:l[j]? with
        | none=>rw [hy] at h3;cases h3
        | some z=>
          rw [hy] at h3;cases h3
          have hro:=e3 j z y hy h4
          exact RO.keep K hro (zbK hx hy (zaP hro)) (hlv (fun e=>hj e.symm))
     | tup l=>
       by_cases h0:o=0
       ·subst h0;simp [look,hx,AV.leaves,AV.isLeaf] at hl0
       ·simp only [AV.map2,setLeaf,h0,if_false]
        obtain ⟨arr,e1,e2,e3⟩:=hrl
        refine ⟨arr,e1,by simpa using e2,fun j x y h3 h4=>?_⟩
        rw [List.getElem?_map] at h3
        cases hy:l[j]? with
        | none=>rw [hy] at h3;cases h3
        | some z=>rw [hy] at h3;cases h3;exact R1.keep K (e3 j z y hy h4)
     | _=>exact key _ (by simp) (by simp) hx hrl
  ·simp only [Up.app,zaj,zab,if_neg hr] at hg
   cases hx:get G (tb r) with
   | none=>rw [hx] at hg;cases hg
   | some x=>rw [hx] at hg;cases hg;exact .inr ⟨x,rfl,rfl,rfl,fun o=>zaf (fun e=>hr e.1)⟩
 ·intro c v' hc hg
  by_cases hcb:c=b
  ·subst hcb
   simp only [Up.app,zaj,zab,if_true] at hg
   cases hx:get G c with
   | none=>rw [hx] at hg;cases hg
   | some x=>
     rw [hx] at hg;cases hg
     cases hm:isM c with
     | true=>
       refine .inr (.inl ⟨rfl,fun hm=>?_,fun hm=>?_⟩)
       ·obtain ⟨k,es,ck,e1,e2,e3⟩:=s.maps c x hm hx
        rcases e3 with rfl | ⟨L,rfl,_⟩<;>(exfalso;cases o<;>simp [look,hx,AV.leaves,AV.isLeaf] at hl0)
       ·obtain ⟨e1,u,e2⟩:=s.ghosts c x hm hx
        have e3:=zaX (φ:=killr c (some o)) (zH e1).1 (zH e1).2
        have e4:=((zbG c (some o)).leaf x).trans e1
        rw [e3,(zbo (zH e4).1 (zH e4).2).2.1]
        by_cases h0:o=0
        ·subst h0;rw [if_pos rfl];exact ⟨rfl,u,hz (G':=(Up.leaf c 0 (.ln l0.length)).app G) (b':=c) (o':=0) (za6 hx e1) e2⟩
        ·rw [if_neg h0];exact ⟨e4,u,RO.keep K e2 (za6 hx e1) (hlv (fun e=>h0 e.symm))⟩
     | false=>
     obtain ⟨k,arr,T,e1,e2,e3⟩:=s.boxes c x hc hm hx
     refine .inl ⟨rfl,k,arr,T,e1,e2,?_⟩
     have hf:=rb_form e3
     obtain ⟨m1,m2⟩:=zee (zbG c (some o)) hf
     have hlen:(AV.map2 (killr c (some o)) x).leaves.length=x.leaves.length:=by rw [m1];simp
     refine ⟨by rw [zdm rfl m2,hlen];exact e3.1,fun i y y' h3 h4=>?_⟩
     rw [za4 rfl m2,hlen] at h3
     by_cases hi:i=o
     ·subst hi
      split at h3
      ·rename_i hlt
       cases h3
       obtain ⟨z,hz1⟩:∃ z,x.leaves[i]?=some z:=⟨x.leaves[i]'(by have:=hlt.2;omega),by simp⟩
       have hro:=e3.2 i z y' hz1 h4
       exact hz (by simp [look,hx,hz1,zaP hro]) hro
      ·rename_i hn
       have:=(Array.getElem?_eq_some_iff.1 h4).1
       exact absurd ⟨rfl,by rw [e3.1];exact this⟩ hn
     ·rw [if_neg (fun e=>hi e.1),m1,List.getElem?_map] at h3
      cases hy:x.leaves[i]? with
      | none=>rw [hy] at h3;cases h3
      | some z=>
        rw [hy] at h3;cases h3
        have hro:=e3.2 i z y' hy h4
        have hlf:=zaP hro
        exact RO.keep K hro (by simp [look,hx,hy,hlf]) (hlv hi)
  ·simp only [Up.app,zaj,zab,if_neg hcb] at hg
   cases hx:get G c with
   | none=>rw [hx] at hg;cases hg
   | some x=>rw [hx] at hg;cases hg;exact .inr (.inr ⟨x,rfl,rfl,fun o=>zaf (fun e=>hcb e.1),fun k hk=>⟨hk,rfl⟩⟩)
def relab (own:Own) (b0 o0 b o:Nat):Own:=fun k=>if own k=some (.sl b0 o0) then some (.sl b o) else if own k=some (.sl b o) then none else own k
def Dead (G:Sta) (b o:Nat):Prop:=∀ E l,look G b (some o)≠some (.own E l)
theorem zgr (own:Own) (b0 o0 b o:Nat) (w:World):Tr own w (relab own b0 o0 b o) w:=
 ⟨Nat.le_refl _,fun k _ h=>⟨by simp [relab,h],rfl⟩,rfl,rfl,rfl,fun k o h=>⟨by simp [relab,h],rfl⟩,fun k o _ h=>by simp [relab,h]⟩
theorem zdP (own:Own) (b0 o0 b o:Nat) (k c:Nat):own k=some (.box c)↔relab own b0 o0 b o k=some (.box c):=by
 simp only [relab]
 constructor
 ·intro h;simp [h]
 ·intro h;split at h;cases h;split at h;cases h;exact h
theorem ziF {own:Own} {b0 o0 b o:Nat} (h1:∀ k k' o,own k=some o→own k'=some o→k=k') (k k':Nat) (x:Owner) (h:relab own b0 o0 b o k=some x) (h':relab own b0 o0 b o k'=some x):k=k':=by
 simp only [relab] at h h'
 by_cases e:own k=some (.sl b0 o0)<;>by_cases e':own k'=some (.sl b0 o0)
 ·exact h1 _ _ _ e e'
 ·rw [if_pos e] at h;rw [if_neg e'] at h';cases h
  split at h';cases h'
  rename_i hn;exact absurd h' hn
 ·rw [if_neg e] at h;rw [if_pos e'] at h';cases h'
  split at h;cases h
  rename_i hn;exact absurd h hn
 ·rw [if_neg e] at h;rw [if_neg e'] at h'
  split at h;cases h
  split at h';cases h'
  exact h1 _ _ _ h h'
theorem relab_lt {own:Own} {b0 o0 b o n:Nat} (h2:∀ k o,own k=some o→k < n) (k:Nat) (x:Owner) (h:relab own b0 o0 b o k=some x):k < n:=by
 simp only [relab] at h
 split at h
 ·rename_i e;exact h2 k _ e
 ·split at h
  ·cases h
  ·exact h2 k x h
theorem OwnL.relab {own:Own} {w:World} {b0 o0 b o:Nat} {E:TypeId} {l:List FV} {u:Value} (h:OwnL P own w b0 o0 E l u):OwnL P (relab own b0 o0 b o) w b o E l u:=by
 obtain ⟨a,c,e1,e2,e3⟩:=h
 refine ⟨a,c,e1,e2,e3.imp id ?_⟩
 rintro ⟨k,e4,e5⟩
 exact ⟨k,e4,OwnB.mono' e5 (zgr _ _ _ _ _ _) (by simp [Ev.relab,e5.1])⟩
end
end Go.Ev
namespace Go.Ev
open Go Go.RowKit
variable {P : Program}
theorem St.set_move {nt:Nat} {G:Sta} {own:Own} {a:Act} {w:World} (s:St P nt G own a w) {t:Nat} (hlt:t < nt) {b0 o0:Nat} {E:TypeId} {l:List FV} {u:Value}
 (hd:Dead G b0 o0) (hv:OwnL P own w b0 o0 E l u) :
 St P nt ((Up.set (tb t) (.own E l)).app G) (relab own b0 o0 (tb t) 0) (a.put (some t) u) w∧Tr own w (relab own b0 o0 (tb t) 0) w:=by
 refine ⟨s.set hlt (zgr _ _ _ _ _ _) (fun k b h=>⟨(zdP own b0 o0 (tb t) 0 k b).1 h,rfl⟩) ?_ hv.relab (ziF s.one) (relab_lt s.lt),zgr _ _ _ _ _ _⟩
 intro b o E' l' k c hb hl h
 refine h.mono (zgr _ _ _ _ _ _) ?_ rfl
 have h1:¬ (b=b0∧o=o0):=by rintro ⟨rfl,rfl⟩;exact hd _ _ hl
 have h2:¬ (b=tb t∧o=0):=fun e=>hb e.1
 simp only [relab,h.1,Option.some.injEq,Owner.sl.injEq,if_neg h1,if_neg h2]
def ownSl (own:Own) (n b o:Nat):Own:=fun k=>if k=n then some (.sl b o) else if own k=some (.sl b o) then none else own k
theorem St.set_new {nt:Nat} {G:Sta} {own:Own} {a:Act} {w w':World} (s:St P nt G own a w) {t:Nat} (hlt:t < nt) {E:TypeId} {l:List FV} {u:Value} {n:Nat}
 (hn:w.heap.size≤n) (hsz:n < w'.heap.size) (hkeep:∀ k,k < w.heap.size→w'.heap[k]?=w.heap[k]?) (hos:w'.os=w.os) (htp:w'.tape=w.tape) (hout:w'.output=w.output)
 (hv:Tr own w (ownSl own n (tb t) 0) w'→OwnL P (ownSl own n (tb t) 0) w' (tb t) 0 E l u) :
 St P nt ((Up.set (tb t) (.own E l)).app G) (ownSl own n (tb t) 0) (a.put (some t) u) w'∧Tr own w (ownSl own n (tb t) 0) w':=by
 have hne:∀ {k o},own k=some o→k≠n:=fun h=>by have:=s.lt _ _ h;omega
 have ht:Tr own w (ownSl own n (tb t) 0) w':=by
  refine ⟨by omega,fun k hk ho=>⟨?_,hkeep k hk⟩,hos,htp,hout,fun k o h=>⟨?_,hkeep k (s.lt _ _ h)⟩,fun k c _ h=>?_⟩
  ·simp [ownSl,ho,show k≠n by omega]
  ·have:=s.lt _ _ h;simp [ownSl,h,show k≠n by omega]
  ·have:=s.lt _ _ h;simp [ownSl,h,show k≠n by omega]
 refine ⟨s.set hlt ht (fun k b h=>⟨by simp [ownSl,hne h,h],hkeep k (s.lt _ _ h)⟩) ?_ (hv ht) ?_ ?_,ht⟩
 ·intro b o E' l' k c hb hl h
  refine h.mono ht ?_ (hkeep k (s.lt _ _ h.1))
  simp [ownSl,hne h.1,h.1,hb]
 ·intro k k' o h h'
  simp only [ownSl] at h h'
  by_cases e:k=n<;>by_cases e':k'=n
  ·omega
  ·rw [if_pos e] at h;rw [if_neg e'] at h';cases h
   split at h';cases h'
   rename_i hn';exact absurd h' hn'
  ·rw [if_neg e] at h;rw [if_pos e'] at h';cases h'
   split at h;cases h
   rename_i hn';exact absurd h hn'
  ·rw [if_neg e] at h;rw [if_neg e'] at h'
   split at h;cases h
   split at h';cases h'
   exact s.one _ _ _ h h'
 ·intro k o h
  simp only [ownSl] at h
  split at h
  ·omega
  ·split at h
   ·cases h
   ·have:=s.lt k o h;have:=ht.size;omega
def ownFrz (own:Own) (b o:Nat):Own:=fun k=>if own k=some (.sl b o) then none else own k
theorem frz_tr (own:Own) (b o:Nat) (w:World):Tr own w (ownFrz own b o) w:=
 ⟨Nat.le_refl _,fun k _ h=>⟨by simp [ownFrz,h],rfl⟩,rfl,rfl,rfl,fun k o h=>⟨by simp [ownFrz,h],rfl⟩,fun k o _ h=>by simp [ownFrz,h]⟩
theorem own_cell {own:Own} {w:World} {b o:Nat} {E:TypeId} {k:Nat} {l:List FV} {c:Nat} (h:OwnB P own w b o E k l c) {i:Nat} {x:FV} {j:Nat} {y:FV}
 (hi:l[i]?=some x) (hj:x.cells[j]?=some y):∃ v,w.cell? ⟨k,i * esz P E+j,none⟩=some v∧RF own w y v:=by
 obtain ⟨_,arr,h2,h3,h4,h5⟩:=h
 obtain ⟨v,e1,e2⟩:=h5 i x j y hi hj
 exact ⟨v,by simp [World.cell?,h2,e1],e2⟩
theorem own_rf {own own':Own} {w:World} {b o:Nat} {E:TypeId} {k:Nat} {l:List FV} {c i n c':Nat} (h:OwnB P own w b o E k l c) (ht:Tr own w own' w) (hk:own' k=none) (hlt:k < w.heap.size)
 (hin:i+n≤l.length) (hc:n≤c'):RF own' w (.sl ((l.drop i).take n)) (.slice (some ⟨k,i * esz P E,none⟩) n c'):=by
 have hx:∀ (p:Nat) x,((l.drop i).take n)[p]?=some x→l[i+p]?=some x:=by
  intro p x hp
  rw [List.getElem?_take] at hp
  split at hp
  ·rwa [List.getElem?_drop] at hp
  ·cases hp
 have hcell:∀ (p:Nat) x (j:Nat) y,((l.drop i).take n)[p]?=some x→x.cells[j]?=some y→∃ v,w.cell? ⟨k,i * esz P E+(p * esz P E+j),none⟩=some v∧RF own' w y v:=by
  intro p x j y h1 h2
  obtain ⟨v,e1,e2⟩:=own_cell h (hx p x h1) h2
  rw [Nat.add_mul,Nat.add_assoc] at e1
  exact ⟨v,e1,e2.mono ht⟩
 refine .sl _ _ _ _ ⟨k,i * esz P E,none⟩ (esz P E) ?_ hc (fun _=>⟨rfl,rfl,hk,hlt⟩) ?_ ?_ ?_
 ·rw [List.length_take,List.length_drop];omega
 ·intro x hm
  obtain ⟨_,arr,h2,h3,h4,h5⟩:=h
  exact h4 x (List.mem_of_mem_drop (List.mem_of_mem_take hm))
 ·intro p x j y h1 h2;obtain ⟨v,e1,_⟩:=hcell p x j y h1 h2;exact ⟨v,e1⟩
 ·intro p x j y v h1 h2 h3
  obtain ⟨v',e1,e2⟩:=hcell p x j y h1 h2
  rw [e1] at h3;cases h3;exact e2
theorem zeg {G:Sta} {b o c p:Nat} (h:¬ (c=b∧p=o)):look ((Up.frz b o).app G) c (some p)=look G c (some p):=by
 have:=look_md (u:=.frz b o) (b:=c) (o:=some p) (by intro a ha d hd;simp only [List.mem_singleton,Up.writes] at ha hd;subst ha hd;simp only [accOf,Acc.meets,Bool.and_eq_false_iff,beq_eq_false_iff_ne];by_cases e:c=b;exact .inr (fun e2=>h ⟨e,e2⟩);exact .inl e) G
 simpa [Up.app,Up.md,Md.app] using this
theorem zdr {G:Sta} {b o:Nat} {x:AV} (h:look G b (some o)=some x):look ((Up.frz b o).app G) b (some o)=some (Ev.frz x):=by
 simp only [look] at h ⊢
 simp only [Up.app,zaj,if_true]
 cases hg:get G b with
 | none=>rw [hg] at h;cases h
 | some v=>
   rw [hg] at h
   simp only [Option.map_some,Option.bind_some] at h ⊢
   have fl:∀ y:AV,(Ev.frz y).isLeaf=y.isLeaf:=by intro y;cases y<;>rfl
   cases v with
   | agg l=>
     simp only [AV.leaves,mapLeaf] at h ⊢
     rw [List.getElem?_modify]
     cases hl:l[o]? with
     | none=>rw [hl] at h;cases h
     | some y=>
       rw [hl] at h
       simp only [if_true,Option.map_eq_map,Option.map_some,Option.filter_some,fl] at h ⊢
       split at h
       ·cases h;rename_i hy;rw [if_pos hy]
       ·cases h
   | _=>
     all_goals
      simp only [AV.leaves] at h
      cases o with
      | succ o=>cases h
      | zero=>
        simp only [List.getElem?_cons_zero,Option.filter_some,AV.isLeaf] at h
        first
         | (cases h;done)
         | (simp only [if_true,Option.some.injEq] at h;subst h;rfl)
theorem St.frz {nt:Nat} {G:Sta} {own:Own} {a:Act} {w:World} (s:St P nt G own a w) (b o:Nat) :
 St P nt ((Up.frz b o).app G) (ownFrz own b o) a w∧Keep P G own w ((Up.frz b o).app G) (ownFrz own b o) w (fun v=>v) (fun c p=>¬ (c=b∧p=o)):=by
 have ht:=frz_tr own b o w
 have hob:∀ {c p E k l n},¬ (c=b∧p=o)→OwnB P own w c p E k l n→OwnB P (ownFrz own b o) w c p E k l n:=by
  intro c p E k l n hn h
  refine h.mono ht ?_ rfl
  simp only [ownFrz,h.1,Option.some.injEq,Owner.sl.injEq,if_neg hn]
 have K:Keep P G own w ((Up.frz b o).app G) (ownFrz own b o) w (fun v=>v) (fun c p=>¬ (c=b∧p=o)):=by
  refine ⟨kl_id,fun _ _=>rfl,ht,fun k c off h _=>by simp [ownFrz,h],fun _ _ _ _ _ _=>rfl,?_,?_,?_⟩
  ·intro c p i n u _ h
   by_cases hcp:c=b∧p=o
   ·obtain ⟨rfl,rfl⟩:=hcp
    unfold SlV at h ⊢
    cases hg:look G c (some p) with
    | none=>
      cases hg':look ((Up.frz c p).app G) c (some p) with
      | none=>trivial
      | some y=>
        simp only [look,Up.app,zaj,if_true] at hg hg'
        cases hq:get G c with
        | none=>rw [hq] at hg';cases hg'
        | some v=>
          rw [hq] at hg hg'
          simp only [Option.map_some,Option.bind_some] at hg hg'
          exfalso
          have fl:∀ y:AV,(Ev.frz y).isLeaf=y.isLeaf:=by intro y;cases y<;>rfl
          cases v with
          | agg l=>
            simp only [AV.leaves,mapLeaf,List.getElem?_modify] at hg hg'
            cases hl:l[p]? with
            | none=>rw [hl] at hg';cases hg'
            | some z=>
              rw [hl] at hg hg'
              simp only [if_true,Option.map_eq_map,Option.map_some,Option.filter_some,fl] at hg hg'
              split at hg
              ·cases hg
              ·rename_i hz;rw [if_neg hz] at hg';cases hg'
          | _=>
            all_goals
             cases p with
             | succ p=>simp [AV.leaves,mapLeaf] at hg'
             | zero=>first | (simp [AV.leaves,AV.isLeaf] at hg;done) | (simp [AV.leaves,AV.isLeaf,mapLeaf,Ev.frz] at hg';done) | (simp [AV.leaves,AV.isLeaf,mapLeaf,Ev.frz] at hg';obtain ⟨rfl,hh⟩:=hg';simp at hh)
    | some x=>
      rw [zdr hg]
      rw [hg] at h
      cases x with
      | own E l=>
        obtain ⟨e1,a',c',e2,e3,e4⟩:=h
        refine ⟨e1,?_⟩
        rcases e4 with ⟨rfl,rfl,rfl⟩ | ⟨k,rfl,e6⟩
        ·subst e2
         have:n=0:=by simp at e1;omega
         subst this
         simpa using RF.nil
        ·subst e2
         exact own_rf e6 ht (by simp [ownFrz,e6.1]) (s.lt _ _ e6.1) e1 e3
      | f x=>
        cases x with
        | sl l=>exact ⟨h.1,h.2.mono ht⟩
        | _=>trivial
      | _=>trivial
   ·unfold SlV at h ⊢
    rw [zeg hcp]
    cases hg:look G c (some p) with
    | none=>trivial
    | some x=>
      rw [hg] at h
      cases x with
      | own E l=>
        obtain ⟨e1,a',c',e2,e3,e4⟩:=h
        refine ⟨e1,a',c',e2,e3,e4.imp id ?_⟩
        rintro ⟨k,e5,e6⟩
        exact ⟨k,e5,hob hcp e6⟩
      | f x=>
        cases x with
        | sl l=>exact ⟨h.1,h.2.mono ht⟩
        | _=>trivial
      | _=>trivial
  ·intro c p i n u _ h
   by_cases hcp:c=b∧p=o
   ·obtain ⟨rfl,rfl⟩:=hcp
    unfold EpV at h ⊢
    cases hg:look G c (some p) with
    | none=>
      cases hg':look ((Up.frz c p).app G) c (some p) with
      | none=>trivial
      | some y=>
        simp only [look,Up.app,zaj,if_true] at hg hg'
        cases hq:get G c with
        | none=>rw [hq] at hg';cases hg'
        | some v=>
          rw [hq] at hg hg'
          simp only [Option.map_some,Option.bind_some] at hg hg'
          exfalso
          have fl:∀ y:AV,(Ev.frz y).isLeaf=y.isLeaf:=by intro y;cases y<;>rfl
          cases v with
          | agg l=>
            simp only [AV.leaves,mapLeaf,List.getElem?_modify] at hg hg'
            cases hl:l[p]? with
            | none=>rw [hl] at hg';cases hg'
            | some z=>
              rw [hl] at hg hg'
              simp only [if_true,Option.map_eq_map,Option.map_some,Option.filter_some,fl] at hg hg'
              split at hg
              ·cases hg
              ·rename_i hz;rw [if_neg hz] at hg';cases hg'
          | _=>
            all_goals
             cases p with
             | succ p=>simp [AV.leaves,mapLeaf] at hg'
             | zero=>first | (simp [AV.leaves,AV.isLeaf] at hg;done) | (simp [AV.leaves,AV.isLeaf,mapLeaf,Ev.frz] at hg';done) | (simp [AV.leaves,AV.isLeaf,mapLeaf,Ev.frz] at hg';obtain ⟨rfl,hh⟩:=hg';simp at hh)
    | some x=>
      rw [zdr hg]
      rw [hg] at h
      cases x with
      | own E l=>
        obtain ⟨e1,k,cap,e2,e3⟩:=h
        refine ⟨l[i],by simp [e1],k,i * esz P E,e2,by simp [ownFrz,e3.1],s.lt _ _ e3.1,fun j y hj=>?_⟩
        obtain ⟨v,e4,e5⟩:=own_cell e3 (i:=i) (x:=l[i]) (by simp [e1]) hj
        exact ⟨v,e4,e5.mono ht⟩
      | f x=>
        cases x with
        | sl l=>obtain ⟨x,e1,e2⟩:=h;exact ⟨x,e1,RC.fp_mono ht e2⟩
        | _=>trivial
      | _=>trivial
   ·unfold EpV at h ⊢
    rw [zeg hcp]
    cases hg:look G c (some p) with
    | none=>trivial
    | some x=>
      rw [hg] at h
      cases x with
      | own E l=>
        obtain ⟨e1,k,cap,e2,e3⟩:=h
        exact ⟨e1,k,cap,e2,hob hcp e3⟩
      | f x=>
        cases x with
        | sl l=>obtain ⟨x,e1,e2⟩:=h;exact ⟨x,e1,RC.fp_mono ht e2⟩
        | _=>trivial
      | _=>trivial
  ·rintro c p E l u hcp hg ⟨a',c',e1,e2,e3⟩
   refine ⟨a',c',e1,e2,e3.imp id ?_⟩
   rintro ⟨k,e4,e5⟩
   exact ⟨k,e4,hob hcp e5⟩
 have leafcase:∀ {x:AV} {u:Value},RO P G own w b o x u→look G b (some o)=some x→RO P ((Up.frz b o).app G) (ownFrz own b o) w b o (Ev.frz x) u:=by
  intro x u h hl
  cases x with
  | own E l=>
    obtain ⟨a',c',e1,e2,e3⟩:=h
    refine ⟨rfl,?_⟩
    subst e1
    rcases e3 with ⟨rfl,rfl,rfl⟩ | ⟨k,rfl,e5⟩
    ·exact RF.nil
    ·have:=own_rf (i:=0) (n:=l.length) e5 ht (by simp [ownFrz,e5.1]) (s.lt _ _ e5.1) (by omega) e2
     simpa using this
  | _=>
    all_goals
     rw [zgp (by simp)] at h
     have h':=R0.keep K h
     simp only [Ev.frz]
     rw [zgp (by simp)]
     exact h'
 refine ⟨s.step K s.size ?_ ?_ ?_ ?_,K⟩
 ·intro r v' hg
  by_cases hr:tb r=b
  ·subst hr
   simp only [Up.app,zaj,if_true] at hg
   cases hx:get G (tb r) with
   | none=>rw [hx] at hg;cases hg
   | some v=>
     rw [hx] at hg;cases hg
     obtain ⟨u,hu,hrl⟩:=s.temps r v hx
     refine .inl ⟨u,hu,?_⟩
     have key:∀ v:AV,(∀ l,v≠.agg l)→(∀ l,v≠.tup l)→get G (tb r)=some v→RL P G own w (tb r) v u→
      RL P ((Up.frz (tb r) o).app G) (ownFrz own (tb r) o) w (tb r) (mapLeaf o Ev.frz v) u:=by
      intro v h1 h2 hx hrl
      rw [(zbo h1 h2).2.2]
      have h3:RO P G own w (tb r) 0 v u:=by cases v<;>first | exact hrl | exact absurd rfl (h1 _) | exact absurd rfl (h2 _)
      have hlk:=za6 hx (zaP h3)
      have hlf:=zaP h3
      have h4:RO P ((Up.frz (tb r) o).app G) (ownFrz own (tb r) o) w (tb r) 0 (if o=0 then Ev.frz v else v) u:=by
       by_cases h0:o=0
       ·subst h0;rw [if_pos rfl];exact leafcase h3 hlk
       ·rw [if_neg h0];exact RO.keep K h3 hlk (fun e=>h0 e.2.symm)
      have h5:(if o=0 then Ev.frz v else v).isLeaf=true:=by split;(cases v<;>first | rfl | simp [AV.isLeaf] at hlf);exact hlf
      generalize (if o=0 then Ev.frz v else v)=x at h4 h5
      cases x<;>first | exact h4 | simp [AV.isLeaf] at h5
     cases v with
     | agg l=>
       obtain ⟨arr,e1,e2,e3⟩:=hrl
       refine ⟨arr,e1,by simpa using e2,fun j x y h3 h4=>?_⟩
       rw [List.getElem?_modify] at h3
       cases hy:l[j]? with
       | none=>rw [hy] at h3;cases h3
       | some z=>
         rw [hy] at h3
         have hro:=e3 j z y hy h4
         have hlk:=zbK hx hy (zaP hro)
         by_cases hj:o=j
         ·subst hj;simp at h3;subst h3;exact leafcase hro hlk
         ·simp [hj] at h3;subst h3;exact RO.keep K hro hlk (fun e=>hj e.2.symm)
     | tup l=>
       have:mapLeaf o Ev.frz (.tup l)=.tup l:=by simp only [mapLeaf];split<;>rfl
       rw [this]
       obtain ⟨arr,e1,e2,e3⟩:=hrl
       refine ⟨arr,e1,e2,fun j x y h3 h4=>?_⟩
       have:=R1.keep K (e3 j x y h3 h4)
       have e:AV.map1 (fun v=>v) x=x:=by cases x<;>simp [AV.map1]
       rwa [e] at this
     | _=>exact key _ (by simp) (by simp) hx hrl
  ·simp only [Up.app,zaj,if_neg hr] at hg
   exact .inr ⟨v',hg,(zc3 v').symm,rfl,fun o' e=>hr e.1⟩
 ·intro c v' hc hg
  by_cases hcb:c=b
  ·subst hcb
   simp only [Up.app,zaj,if_true] at hg
   cases hx:get G c with
   | none=>rw [hx] at hg;cases hg
   | some x=>
     rw [hx] at hg;cases hg
     cases hm:isM c with
     | true=>
       refine .inr (.inl ⟨rfl,fun hm=>?_,fun hm=>?_⟩)
       ·obtain ⟨k,es,ck,e1,e2,e3⟩:=s.maps c x hm hx
        exact ⟨k,es,ck,by simp [ownFrz,e1],e2,(e3.frz o).mono K.tr⟩
       ·obtain ⟨e1,u,e2⟩:=s.ghosts c x hm hx
        rw [(zbo (zH e1).1 (zH e1).2).2.2]
        by_cases h0:o=0
        ·subst h0
         rw [if_pos rfl];exact ⟨by cases x<;>first | rfl | simp [AV.isLeaf] at e1,u,leafcase e2 (za6 hx e1)⟩
        ·rw [if_neg h0];exact ⟨e1,u,RO.keep K e2 (za6 hx e1) (fun e=>h0 e.2.symm)⟩
     | false=>
     obtain ⟨k,arr,T,e1,e2,e3⟩:=s.boxes c x hc hm hx
     refine .inl ⟨rfl,k,arr,T,by simp [ownFrz,e1],e2,?_⟩
     have hf:=rb_form e3
     have hlv:(mapLeaf o Ev.frz x).leaves=x.leaves.modify o Ev.frz:=by
      rcases hf with ⟨l,rfl⟩ | hf
      ·rfl
      ·have ex:x.leaves=[x]:=by cases x<;>first | rfl | simp [AV.isLeaf] at hf
       rw [(zbo (zH hf).1 (zH hf).2).2.2,ex]
       cases o with
       | zero=>rw [if_pos rfl];cases x<;>first | rfl | simp [AV.isLeaf] at hf
       | succ o=>rw [if_neg (by omega),ex];simp
     refine ⟨by rw [hlv,List.length_modify];exact e3.1,fun i y y' h3 h4=>?_⟩
     rw [hlv,List.getElem?_modify] at h3
     cases hy:x.leaves[i]? with
     | none=>rw [hy] at h3;cases h3
     | some z=>
       rw [hy] at h3
       have hro:=e3.2 i z y' hy h4
       have hlk:look G c (some i)=some z:=by simp [look,hx,hy,zaP hro]
       by_cases hj:o=i
       ·subst hj;simp at h3;subst h3;exact leafcase hro hlk
       ·simp [hj] at h3;subst h3;exact RO.keep K hro hlk (fun e=>hj e.2.symm)
  ·simp only [Up.app,zaj,if_neg hcb] at hg
   exact .inr (.inr ⟨v',hg,(zc3 v').symm,fun o' e=>hcb e.1,fun k hk=>⟨by simp [ownFrz,hk],rfl⟩⟩)
 ·intro k k' x h h'
  simp only [ownFrz] at h h'
  split at h;cases h
  split at h';cases h'
  exact s.one _ _ _ h h'
 ·intro k x h
  simp only [ownFrz] at h
  split at h;cases h
  exact s.lt k x h
def FV.setc (x:FV) (c:Nat) (y:FV):FV:=
 match x with
 | .agg l=>.agg (l.set c y)
 | _=>y
theorem FV.one_cells {y:FV} (h:y.one=true):y.cells=[y]:=by cases y<;>first | rfl | simp [FV.one] at h
theorem FV.setc_cells {c:Nat} {x y:FV} (h:y.one=true) (hc:c < x.size):(x.setc c y).cells=x.cells.set c y:=by
 cases x with
 | agg l=>rfl
 | pv v=>simp [FV.size,FV.cells] at hc;subst hc;exact FV.one_cells h
 | sl l=>simp [FV.size,FV.cells] at hc;subst hc;exact FV.one_cells h
theorem zef {G:Sta} {b o c p:Nat} {v:AV} (h:¬ (c=b∧p=o)):look ((Up.upo b o v).app G) c (some p)=look G c (some p):=by
 have:=look_md (u:=.upo b o v) (b:=c) (o:=some p) (by intro a ha d hd;simp only [List.mem_singleton,Up.writes] at ha hd;subst ha hd;simp only [accOf,Acc.meets,Bool.and_eq_false_iff,beq_eq_false_iff_ne];by_cases e:c=b;exact .inr (fun e2=>h ⟨e,e2⟩);exact .inl e) G
 simpa [Up.app,Up.md,Md.app] using this
theorem zdq {G:Sta} {b o:Nat} {x:AV} (h:look G b (some o)=some x):x.isLeaf=true∧∃ v,get G b=some v∧v.leaves[o]?=some x∧((∃ l,v=.agg l)∨v.isLeaf=true):=by
 simp only [look] at h
 cases hg:get G b with
 | none=>rw [hg] at h;cases h
 | some v=>
   rw [hg] at h
   simp only [Option.bind_some] at h
   cases hv:v.leaves[o]? with
   | none=>rw [hv] at h;cases h
   | some y=>
     rw [hv,Option.filter_some] at h
     split at h
     ·cases h
      rename_i hy
      refine ⟨hy,v,rfl,hv,?_⟩
      cases v with
      | agg l=>exact .inl ⟨l,rfl⟩
      | tup l=>cases o with
        | zero=>simp [AV.leaves] at hv;subst hv;simp [AV.isLeaf] at hy
        | succ o=>simp [AV.leaves] at hv
      | _=>exact .inr rfl
     ·cases h
theorem zdp {G:Sta} {b o:Nat} {x v:AV} (hv:v.isLeaf=true) (h:look G b (some o)=some x):look ((Up.upo b o v).app G) b (some o)=some v:=by
 obtain ⟨hx,y,hg,hy,hf⟩:=zdq h
 simp only [look,Up.app,zaj,if_true,hg,Option.map_some,Option.bind_some]
 rw [za4 hv hf,if_pos ⟨rfl,(List.getElem?_eq_some_iff.1 hy).1⟩]
 simp [hv]
theorem St.upo {nt:Nat} {G:Sta} {own:Own} {a:Act} {w:World} (s:St P nt G own a w) {b o k:Nat} {E:TypeId} {l:List FV} {i c cap:Nat} {x y:FV} {u:Value}
 (hl:look G b (some o)=some (.own E l)) (hB:OwnB P own w b o E k l cap) (hi:l[i]?=some x) (hc:c < x.size) (hy1:y.one=true) (hy:RF own w y u) :
 St P nt ((Up.upo b o (.own E (l.set i (x.setc c y)))).app G) own a (w.setCell ⟨k,i * esz P E+c,none⟩ u)∧
  Keep P G own w ((Up.upo b o (.own E (l.set i (x.setc c y)))).app G) own (w.setCell ⟨k,i * esz P E+c,none⟩ u) (fun v=>v) (fun d p=>¬ (d=b∧p=o))∧
  OwnB P own (w.setCell ⟨k,i * esz P E+c,none⟩ u) b o E k (l.set i (x.setc c y)) cap:=by
 have hil:i < l.length:=(List.getElem?_eq_some_iff.1 hi).1
 have ht:Tr own w own (w.setCell ⟨k,i * esz P E+c,none⟩ u):=by
  refine ⟨by simp,fun j hj hn=>⟨hn,z8 _ _ _ ?_⟩,rfl,rfl,rfl,fun j x hn=>⟨hn,z8 _ _ _ ?_⟩,fun _ _ _ h=>h⟩
  all_goals (intro e;simp only at e;rw [e,hB.1] at hn;cases hn)
 have hblk:∀ {d p E' k' l' n},¬ (d=b∧p=o)→OwnB P own w d p E' k' l' n→OwnB P own (w.setCell ⟨k,i * esz P E+c,none⟩ u) d p E' k' l' n:=by
  intro d p E' k' l' n hn h
  refine h.mono ht h.1 (z8 _ _ _ ?_)
  intro e;simp only at e;rw [e] at h;have:=h.1;rw [hB.1] at this;injection this with this;injection this with e1 e2;exact hn ⟨e1.symm,e2.symm⟩
 have hnew:∀ {n},OwnB P own w b o E k l n→OwnB P own (w.setCell ⟨k,i * esz P E+c,none⟩ u) b o E k (l.set i (x.setc c y)) n:=by
  rintro n ⟨e1,arr,e2,e3,e4,e5⟩
  have hxs:x.size=esz P E:=e4 x (List.mem_of_getElem? hi)
  refine ⟨e1,_,zeR _ _ e2,by simpa using e3,?_,?_⟩
  ·intro z hz
   rcases List.mem_or_eq_of_mem_set hz with hz | rfl
   ·exact e4 z hz
   ·rw [FV.size,FV.setc_cells hy1 hc,List.length_set];exact hxs
  ·intro p z j q h1 h2
   rw [List.getElem?_set] at h1
   by_cases hp:i=p
   ·subst hp
    rw [if_pos rfl,if_pos hil] at h1;cases h1
    rw [FV.setc_cells hy1 hc,List.getElem?_set] at h2
    by_cases hj:c=j
    ·subst hj
     rw [if_pos rfl,if_pos (show c < x.cells.length from hc)] at h2;cases h2
     obtain ⟨v,e6,_⟩:=e5 i x c (x.cells[c]'hc) hi (by simp [FV.size] at hc;simp [hc])
     have hlt:=(Array.getElem?_eq_some_iff.1 e6).1
     exact ⟨u,Array.getElem?_setIfInBounds_self_of_lt hlt,hy.mono ht⟩
    ·rw [if_neg hj] at h2
     obtain ⟨v,e6,e7⟩:=e5 i x j q hi h2
     exact ⟨v,by rw [Array.getElem?_setIfInBounds_ne (by omega)];exact e6,e7.mono ht⟩
   ·rw [if_neg hp] at h1
    obtain ⟨v,e6,e7⟩:=e5 p z j q h1 h2
    refine ⟨v,?_,e7.mono ht⟩
    rw [Array.getElem?_setIfInBounds_ne];exact e6
    have hj:j < esz P E:=by
     have:=(List.getElem?_eq_some_iff.1 h2).1
     have:=e4 z (List.mem_of_getElem? h1);simp only [FV.size] at this;omega
    have hc':c < esz P E:=by omega
    intro e
    rcases Nat.lt_or_gt_of_ne hp with h | h
    ·have:(i+1) * esz P E≤p * esz P E:=Nat.mul_le_mul_right _ h
     rw [Nat.add_mul] at this;omega
    ·have:(p+1) * esz P E≤i * esz P E:=Nat.mul_le_mul_right _ h
     rw [Nat.add_mul] at this;omega
 have huniq:∀ {k' n l'},OwnB P own w b o E k' l' n→k'=k:=fun h=>s.one _ _ _ h.1 hB.1
 have K:Keep P G own w ((Up.upo b o (.own E (l.set i (x.setc c y)))).app G) own (w.setCell ⟨k,i * esz P E+c,none⟩ u) (fun v=>v) (fun d p=>¬ (d=b∧p=o)):=by
  refine ⟨kl_id,fun _ _=>rfl,ht,fun k c off h _=>h,fun _ _ _ _ _ _=>rfl,?_,?_,?_⟩
  ·intro d p i' n v _ h
   by_cases hdp:d=b∧p=o
   ·obtain ⟨rfl,rfl⟩:=hdp
    unfold SlV at h ⊢
    rw [zdp (v:=.own E (l.set i (x.setc c y))) rfl hl]
    rw [hl] at h
    obtain ⟨h1,a',c',h2,h3,h4⟩:=h
    refine ⟨by simpa using h1,a',c',h2,h3,?_⟩
    rcases h4 with ⟨_,h6,_⟩ | ⟨k',h5,h6⟩
    ·rw [h6] at hil;simp at hil
    ·right
     have:=huniq h6;subst this
     exact ⟨k',h5,hnew h6⟩
   ·unfold SlV at h ⊢
    rw [zef hdp]
    cases hg:look G d (some p) with
    | none=>trivial
    | some z=>
      rw [hg] at h
      cases z with
      | own E l=>
        obtain ⟨e1,a',c',e2,e3,e4⟩:=h
        refine ⟨e1,a',c',e2,e3,e4.imp id ?_⟩
        rintro ⟨k,e5,e6⟩
        exact ⟨k,e5,hblk hdp e6⟩
      | f x=>
        cases x with
        | sl l=>exact ⟨h.1,h.2.mono ht⟩
        | _=>trivial
      | _=>trivial
  ·intro d p i' n v _ h
   by_cases hdp:d=b∧p=o
   ·obtain ⟨rfl,rfl⟩:=hdp
    unfold EpV at h ⊢
    rw [zdp (v:=.own E (l.set i (x.setc c y))) rfl hl]
    rw [hl] at h
    obtain ⟨h1,k',cap',h2,h3⟩:=h
    have:=huniq h3;subst this
    exact ⟨by simpa using h1,k',cap',h2,hnew h3⟩
   ·unfold EpV at h ⊢
    rw [zef hdp]
    cases hg:look G d (some p) with
    | none=>trivial
    | some z=>
      rw [hg] at h
      cases z with
      | own E l=>
        obtain ⟨e1,k,cap,e2,e3⟩:=h
        exact ⟨e1,k,cap,e2,hblk hdp e3⟩
      | f x=>
        cases x with
        | sl l=>obtain ⟨x,e1,e2⟩:=h;exact ⟨x,e1,RC.fp_mono ht e2⟩
        | _=>trivial
      | _=>trivial
  ·rintro d p E' l' v hdp hg ⟨a',c',e1,e2,e3⟩
   refine ⟨a',c',e1,e2,e3.imp id ?_⟩
   rintro ⟨k,e4,e5⟩
   exact ⟨k,e4,hblk hdp e5⟩
 have leafcase:∀ {v:Value},RO P G own w b o (.own E l) v→RO P ((Up.upo b o (.own E (l.set i (x.setc c y)))).app G) own (w.setCell ⟨k,i * esz P E+c,none⟩ u) b o (.own E (l.set i (x.setc c y))) v:=by
  rintro v ⟨a',c',e1,e2,e3⟩
  refine ⟨a',c',by simpa using e1,by simpa using e2,?_⟩
  rcases e3 with ⟨_,h6,_⟩ | ⟨k',h5,h6⟩
  ·rw [h6] at hil;simp at hil
  ·right
   have:=huniq h6;subst this
   exact ⟨k',h5,hnew h6⟩
 obtain ⟨_,vb,hgb,hyb,hfb⟩:=zdq hl
 refine ⟨s.step K s.size ?_ ?_ s.one (fun k o h=>by simpa using s.lt k o h),K,hnew hB⟩
 ·intro r v' hg
  by_cases hr:tb r=b
  ·subst hr
   simp only [Up.app,zaj,if_true,hgb,Option.map_some,Option.some.injEq] at hg
   subst hg
   obtain ⟨u',hu,hrl⟩:=s.temps r vb hgb
   refine .inl ⟨u',hu,?_⟩
   rcases hfb with ⟨q,rfl⟩ | hfb
   ·obtain ⟨arr,e1,e2,e3⟩:=hrl
    refine ⟨arr,e1,by simpa using e2,fun j z v h3 h4=>?_⟩
    simp only [AV.leaves] at hyb
    simp only [AV.toLeaf,List.getElem?_set] at h3
    by_cases hj:o=j
    ·subst hj
     rw [if_pos rfl,if_pos (List.getElem?_eq_some_iff.1 hyb).1] at h3;cases h3
     exact leafcase (e3 o _ v hyb h4)
    ·rw [if_neg hj] at h3
     have hro:=e3 j z v h3 h4
     exact RO.keep K hro (zbK hgb h3 (zaP hro)) (fun e=>hj e.2.symm)
   ·have ex:vb.leaves=[vb]:=by cases vb<;>first | rfl | simp [AV.isLeaf] at hfb
    rw [ex] at hyb
    cases o with
    | succ o=>simp at hyb
    | zero=>
      simp at hyb;subst hyb
      exact leafcase hrl
  ·simp only [Up.app,zaj,if_neg hr] at hg
   exact .inr ⟨v',hg,(zc3 v').symm,rfl,fun o' e=>hr e.1⟩
 ·intro d v' hd hg
  by_cases hdb:d=b
  ·subst hdb
   simp only [Up.app,zaj,if_true,hgb,Option.map_some,Option.some.injEq] at hg
   subst hg
   cases hm:isM d with
   | true=>
     refine .inr (.inl ⟨rfl,fun hm=>?_,fun hm=>?_⟩)
     ·obtain ⟨k',es',ck,e1,e2,e3⟩:=s.maps d vb hm hgb
      rcases e3 with rfl | ⟨L,rfl,_⟩<;>(cases o<;>simp [AV.leaves] at hyb)
     ·obtain ⟨e1,u',e2⟩:=s.ghosts d vb hm hgb
      have ex:vb.leaves=[vb]:=by cases vb<;>first | rfl | simp [AV.isLeaf] at e1
      rw [ex] at hyb
      cases o with
      | succ o=>simp at hyb
      | zero=>
        simp at hyb;subst hyb
        exact ⟨rfl,u',leafcase e2⟩
   | false=>
   obtain ⟨k',arr,T,e1,e2,e3⟩:=s.boxes d vb hd hm hgb
   refine .inl ⟨rfl,k',arr,T,e1,?_,?_⟩
   ·rw [z8];exact e2
    intro e;simp only at e;rw [e,hB.1] at e1;cases e1
   ·refine ⟨by rw [zdm rfl hfb];exact e3.1,fun j z v h3 h4=>?_⟩
    rw [za4 rfl hfb] at h3
    by_cases hj:j=o
    ·subst hj
     rw [if_pos ⟨rfl,(List.getElem?_eq_some_iff.1 hyb).1⟩] at h3;cases h3
     exact leafcase (e3.2 j _ v hyb h4)
    ·rw [if_neg (fun e=>hj e.1)] at h3
     have hro:=e3.2 j z v h3 h4
     exact RO.keep K hro (by simp [look,hgb,h3,zaP hro]) (fun e=>hj e.2)
  ·simp only [Up.app,zaj,if_neg hdb] at hg
   refine .inr (.inr ⟨v',hg,(zc3 v').symm,fun o' e=>hdb e.1,fun k' hk=>⟨hk,z8 _ _ _ ?_⟩⟩)
   intro e;simp only at e;rw [e,hB.1] at hk;cases hk
end Go.Ev
namespace Go.Ev
open Go
structure TI where
 desc:TypeDesc
 size:Nat
 bytes:Nat
 zero:Option AV
def isAggD:TypeDesc→Bool
 | .struct _=>true
 | .array _ _=>true
 | _=>false
structure Cfg where
 ti:TypeId→Option TI
 mv:Nat→Bool
 nt:Nat
 dead:Nat→Bool        -- what is forgotten behind a region
 deadL:Nat→Bool       -- what is forgotten at a loop's head
 gr:FuncId→Option TypeId:=fun _=>none       -- functions that make room behind nil: of which elements
 ip:FuncId→Option ((List FV→Option (List FV))×Bool):=fun _=>none  -- functions that turn a slice in place ('true': and hand it back,shorter)
 rnd:Bool:=false      -- a round's body,of a range over a function
 eqT:TypeId→Bool:=fun _=>false  -- struct types that are compared
 vs:Nat→Bool:=fun _=>false      -- temps whose slice is stored as a view: the temp goes on owning it
 nw:FuncId→Option (List AV→Option AV):=fun _=>none  -- functions that make a box of their arguments,and hand a pointer to it back
 ap:FuncId→Bool:=fun _=>false   -- functions that take a slice over,and hand one back
 tk:Nat→Bool:=fun _=>false      -- temps that see a slice,which goes along where they are assigned
 ownR:Bool:=false                   -- the first of the results is a slice that is handed on
def constLeaf:Value→Option AV
 | .slice none 0 0=>some (.f (.sl []))
 | .bool b=>some (.f (.pv (.bool b)))
 | .int k n=>some (.f (.pv (.int k n)))
 | .string s=>some (.f (.pv (.string s)))
 | .pointer none=>some (.f (.pv (.pointer none)))
 | .nilIface=>some (.f (.pv .nilIface))
 | .nilFunc=>some (.f (.pv .nilFunc))
 | .map none=>some (.f (.pv (.map none)))
 | .iface t v=>some (.f (.pv (.iface t v)))
 | _=>none
def constL:List Value→Option (List AV)
 | []=>some []
 | v :: r=>match constLeaf v,constL r with
   | some x,some l=>some (x :: l)
   | _,_=>none
def constAV:Value→Option AV
 | .agg cs=>match constL cs.toList with
   | some l=>some (.agg l)
   | none=>none
 | v=>constLeaf v
def rdO (x:Operand) (k:AV→RM):RM:=
 match x with
 | .tmp t=>.ask (tb t) none fun v=>k (vw (tb t) v)
 | .const v=>match constAV v with
   | some a=>k a
   | none=>.fail
 | .func g=>k (.clo g [])
 | .global _=>.fail
def rdL:List Operand→(List AV→RM)→RM
 | [],k=>k []
 | x :: r,k=>rdO x fun v=>rdL r fun l=>k (v :: l)
def fin (c:Cfg) (d:Option Tmp) (U:List Up) (v:AV):RM:=
 match d with
 | some t=>if t < c.nt then (if v.free (tb t)=true then .ret (U++[.set (tb t) v]) else .fail) else .fail
 | none=>.ret U
def finOwn (c:Cfg) (d:Option Tmp) (b o:Nat) (E:TypeId) (l:List FV):RM:=
 match d with
 | some t=>if t < c.nt then .ret [.leaf b o .bad,.set (tb t) (.own E l)] else .fail
 | none=>.fail
def sliceOf:AV→Option (List FV)
 | .own _ l=>some l
 | .f (.sl l)=>some l
 | _=>none
def seen (v:AV) (k:RM):RM:=
 match v with
 | .rf b o i n=>.ask b (some o) fun y=>match sliceOf y with
   | some _=>k
   | none=>.fail
 | .ep b o i n=>.ask b (some o) fun y=>match sliceOf y with
   | some _=>k
   | none=>.fail
 | _=>k
def cp1 (v:AV) (k:AV→List Up→RM):RM:=
 match v with
 | .rf b o i n=>.ask b (some o) fun x=>match x with
   | .own _ l=>k (.f (.sl ((l.drop i).take n))) [.frz b o]
   | .f (.sl l)=>k (.f (.sl ((l.drop i).take n))) []
   | _=>.fail
 | .f x=>k (.f x) []
 | .ptr b o=>k (.ptr b o) []
 | .fp x o=>k (.fp x o) []
 | .clo g caps=>k (.clo g caps) []
 | _=>.fail
def cpL:List AV→(List AV→List Up→RM)→RM
 | [],k=>k [] []
 | v :: r,k=>cp1 v fun x U=>cpL r fun l W=>k (x :: l) (U++W)
def cp (v:AV) (k:AV→List Up→RM):RM:=
 match v with
 | .agg l=>cpL l fun l U=>k (.agg l) U
 | v=>cp1 v k
def cps:List AV→(List AV→List Up→RM)→RM
 | [],k=>k [] []
 | v :: r,k=>cp v fun x U=>cps r fun l W=>k (x :: l) (U++W)
def moveRM (c:Cfg) (d:Option Tmp) (x:Operand):RM:=
 match x,d with
 | .tmp t,some t'=>
   if c.mv t'=true then .ask (tb t) none fun v=>match v with
    | .own E l=>finOwn c d (tb t) 0 E l
    | v=>fin c d [] (vw (tb t) v)
   else rdO x (fin c d [])
 | _,_=>rdO x (fin c d [])
def asgRM (c:Cfg) (d:Option Tmp) (ty:TypeId) (x:Operand):RM:=
 match x with
 | .const (.slice none 0 0)=>match c.ti ty,d with
   | some { desc:=.slice E,.. },some t=>if t < c.nt then .ret [.set (tb t) (.own E [])] else .fail
   | _,_=>.fail
 | .tmp t=>.ask (tb t) none fun v=>match v with
   | .own E l=>if d=some t then .fail else finOwn c d (tb t) 0 E l
   | .rf b o i n=>
     if d.map tb=some b∧o=0∧i=0 then .ask b (some 0) fun y=>match y with
      | .own E l=>finOwn c d b 0 E (l.take n)
      | .f (.sl l)=>fin c d [] (.f (.sl (l.take n)))
      | _=>.fail
     else cp1 (.rf b o i n) fun v U=>fin c d U v
   | .ep b o i n=>fin c d [] (.ep b o i n)
   | v=>cp (vw (tb t) v) fun v U=>fin c d U v
 | x=>rdO x (fin c d [])
def FV.fits (n:Nat) (e:FV):Bool:=e.size == n && e.cells.all FV.one
def AV.leafF:AV→Option FV
 | .f x=>if x.one=true then some x else none
 | _=>none
def fLeaves:List AV→Option (List FV)
 | []=>some []
 | v :: r=>match v.leafF,fLeaves r with
   | some x,some l=>some (x :: l)
   | _,_=>none
def AV.elem:AV→Option FV
 | .agg l=>(fLeaves l).map .agg
 | v=>v.leafF
def asAV:FV→AV
 | .agg l=>.agg (l.map .f)
 | x=>.f x
def setcs (x:FV) (c:Nat):List FV→FV
 | []=>x
 | y :: r=>setcs (x.setc c y) (c+1) r
def frzOff (b:Nat):Up→Bool
 | .frz c _=>c != b
 | _=>true
def stL (s:Nat):Nat→Nat→Nat→List AV→List Up
 | _,_,_,[]=>[]
 | j,b,o,.own E l :: r=>.leaf s j .bad :: .leaf b o (.own E l) :: stL s (j+1) b (o+1) r
 | j,b,o,v :: r=>.leaf b o v :: stL s (j+1) b (o+1) r
def cpo1 (v:AV) (k:AV→List Up→RM):RM:=
 match v with
 | .own E l=>k (.own E l) []
 | v=>cp1 v k
def cpoL:List AV→(List AV→List Up→RM)→RM
 | [],k=>k [] []
 | v :: r,k=>cpo1 v fun x U=>cpoL r fun l W=>k (x :: l) (U++W)
def stNil (i:TI) (b off:Nat):RM:=
 match i.desc with
 | .slice E=>if i.size=1 then .ret [.leaf b off (.own E [])] else .fail
 | _=>.fail
def stRaw (i:TI) (t b off:Nat) (v:AV):RM:=
 cpoL v.leaves fun l U=>if l.length=i.size then (if U.all (frzOff (tb t))=true then .ret (U++stL (tb t) 0 b off l) else .fail) else .fail
def stTmp (i:TI) (t b off:Nat) (v:AV):RM:=
 match v with
 | .rf b' o' j n=>
   if b'=b∧o'=off∧j=0 then .ask b (some off) fun y=>match y with
    | .own E l=>if i.size=1 then .ret [.leaf b off .bad,.leaf b off (.own E (l.take n))] else .fail
    | _=>.fail
   else cp1 (.rf b' o' j n) fun v U=>if i.size=1 then .ret (U++[.leaf b off v]) else .fail
 | .agg l=>stRaw i t b off (.agg l)
 | .own E l=>stRaw i t b off (.own E l)
 | .f x=>stRaw i t b off (.f x)
 | .ptr d p=>stRaw i t b off (.ptr d p)
 | .fp x p=>stRaw i t b off (.fp x p)
 | .clo g l=>stRaw i t b off (.clo g l)
 | _=>.fail
def stAny (i:TI) (x:Operand) (b off:Nat):RM:=
 rdO x fun v=>cpL v.leaves fun l U=>if l.length=i.size then .ret (U++stL 0 0 b off l) else .fail
def stSrc (i:TI) (x:Operand) (b off:Nat):RM:=
 match x with
 | .const (.slice none 0 0)=>stNil i b off
 | .tmp t=>.ask (tb t) none fun v=>stTmp i t b off v
 | x=>stAny i x b off
def stEl (i:TI) (x:Operand) (b o j cc:Nat):RM:=
 rdO x fun v=>cpL v.leaves fun l U=>.ask b (some o) fun y=>match y,fLeaves l with
  | .own E es,some fs=>match es[j]? with
    | some e=>if fs.length=i.size∧0 < i.size∧cc+fs.length≤e.size∧U.all (frzOff b)=true then .ret (U++[.upo b o (.own E (es.set j (setcs e cc fs)))]) else .fail
    | none=>.fail
  | _,_=>.fail
def storeRM (c:Cfg) (T:TypeId) (x:Operand) (p:AV):RM:=
 match c.ti T with
 | none=>.fail
 | some i=>match p with
   | .ptr b off=>.peek b fun m=>if off+i.size≤m∧(b % 3≠1∧isM b=false)∧b≠0 then stSrc i x b off else .fail
   | .ep b o j cc=>stEl i x b o j cc
   | _=>.fail
inductive LI where
 | pl (v:AV)
 | mv (sb j:Nat) (E:TypeId) (l:List FV)
def stMv (b:Nat):Nat→List LI→List Up
 | _,[]=>[]
 | o,.pl v :: r=>.leaf b o v :: stMv b (o+1) r
 | o,.mv sb j E l :: r=>.leaf sb j .bad :: .leaf b o (.own E l) :: stMv b (o+1) r
def mvL (b0:Nat):Nat→List AV→(List LI→RM)→RM
 | _,[],k=>k []
 | j0,v :: r,k=>match v with
   | .rf sb j i n=>.ask sb (some j) fun y=>match y with
     | .own E l=>if i=0∧n=l.length then mvL b0 (j0+1) r fun ls=>k (.mv sb j E l :: ls) else .fail
     | .f (.sl l)=>mvL b0 (j0+1) r fun ls=>k (.pl (.f (.sl ((l.drop i).take n))) :: ls)
     | _=>.fail
   | .f x=>mvL b0 (j0+1) r fun ls=>k (.pl (.f x) :: ls)
   | .own E l=>mvL b0 (j0+1) r fun ls=>k (.mv b0 j0 E l :: ls)
   | _=>.fail
def LI.src:LI→List (Nat×Nat)
 | .pl _=>[]
 | .mv sb j _ _=>[(sb,j)]
def noDupB:List (Nat×Nat)→Bool
 | []=>true
 | (a,b) :: r=>r.all (fun p=>!(p.1 == a && p.2 == b)) && noDupB r
def storeMv (c:Cfg) (T:TypeId) (t:Tmp) (p:AV):RM:=
 match c.ti T,p with
 | some i,.ptr b off=>.peek b fun m=>if off+i.size≤m∧(b % 3≠1∧isM b=false)∧b≠0 then .ask (tb t) none fun v=>match v with
    | .agg l=>mvL (tb t) 0 l fun ls=>if ls.length=i.size∧noDupB (ls.flatMap LI.src)=true∧(ls.flatMap LI.src).all (fun p=>p.1 != b)=true then .ret (stMv b off ls) else .fail
    | _=>.fail
   else .fail
 | _,_=>.fail
def mvS (c:Cfg) (x:Operand):Option Tmp:=
 match x with
 | .tmp t=>match c.mv t with
   | true=>some t
   | false=>none
 | _=>none
def vsS (c:Cfg) (x:Operand):Bool:=
 match x with
 | .tmp t=>c.vs t
 | _=>false
def storeVw (c:Cfg) (T:TypeId) (x:Operand) (p:AV):RM:=
 match c.ti T,p with
 | some i,.ptr b off=>.peek b fun m=>if off+i.size≤m∧(b % 3≠1∧isM b=false)∧b≠0∧i.size=1 then rdO x fun v=>match v with
    | .rf sb q j n=>if sb≠b then .ask sb (some q) fun y=>match y with
       | .own _ _=>.ret [.leaf b off (.rf sb q j n)]
       | _=>.fail
      else .fail
    | _=>.fail
   else .fail
 | _,_=>.fail
def storeX (c:Cfg) (T:TypeId) (x:Operand) (p:AV):RM:=
 match mvS c x with
 | some t=>storeMv c T t p
 | none=>match vsS c x with
   | true=>storeVw c T x p
   | false=>storeRM c T x p
def askL (b:Nat):Nat→Nat→(List AV→RM)→RM
 | _,0,k=>k []
 | o,n+1,k=>.ask b (some o) fun v=>askL b (o+1) n fun l=>k (vwLeaf b o v :: l)
def ofCells (agg:Bool) (n:Nat) (cs:List FV) (off:Nat):Option AV:=
 if agg=true then (if off+n≤cs.length∧cs.all FV.one=true then some (.agg (((cs.drop off).take n).map .f)) else none)
 else match cs[off]? with
  | some y=>if y.one=true then some (.f y) else none
  | none=>none
def loadRM (c:Cfg) (T:TypeId) (d:Option Tmp) (p:AV):RM:=
 match c.ti T with
 | none=>.fail
 | some i=>match p with
   | .ptr b off=>
     if b % 3=1∨isM b=true then .fail
     else if isAggD i.desc=true then askL b off i.size fun l=>fin c d [] (.agg l)
     else .ask b (some off) fun v=>match v with
      | .own E l=>(match d with
        | some t=>if c.mv t=true then finOwn c d b off E l else fin c d [] (vwLeaf b off (.own E l))
        | none=>fin c d [] (vwLeaf b off (.own E l)))
      | v=>fin c d [] (vwLeaf b off v)
   | .fp x off=>match ofCells (isAggD i.desc) i.size x.cells off with
     | some v=>fin c d [] v
     | none=>.fail
   | .ep b o j cc=>.ask b (some o) fun y=>match sliceOf y with
     | some es=>match es[j]? with
       | some e=>match ofCells (isAggD i.desc) i.size e.cells cc with
         | some v=>fin c d [] v
         | none=>.fail
       | none=>.fail
     | none=>.fail
   | _=>.fail
def AV.plus (v:AV) (n:Nat):Option AV:=
 match v with
 | .ptr b o=>match isM b with
   | true=>none
   | false=>some (.ptr b (o+n))
 | .fp x o=>some (.fp x (o+n))
 | .ep b o i c=>some (.ep b o i (c+n))
 | _=>none
def fieldOff (c:Cfg) (S:TypeId) (fld:Nat):Option (Nat×Nat×Bool):=
 match c.ti S with
 | some { desc:=.struct fs,.. }=>match fs[fld]? with
   | some f=>match c.ti f.type with
     | some i=>some (f.offset,i.size,isAggD i.desc)
     | none=>none
   | none=>none
 | _=>none
def fieldAddrRM (c:Cfg) (d:Option Tmp) (S:TypeId) (fld:Nat) (p:AV):RM:=
 match fieldOff c S fld with
 | some (o,n,_)=>if n=0 then .fail else match p.plus o with
   | some v=>seen p (fin c d [] v)
   | none=>.fail
 | none=>.fail
def partAV (l:List AV) (o n:Nat) (agg:Bool):Option AV:=
 if agg=true then (if o+n≤l.length then some (.agg ((l.drop o).take n)) else none) else l[o]?
def fieldRM (c:Cfg) (d:Option Tmp) (S:TypeId) (fld:Nat) (v:AV):RM:=
 match fieldOff c S fld,v with
 | some (o,n,ag),.agg l=>match partAV l o n ag with
   | some v=>fin c d [] v
   | none=>.fail
 | _,_=>.fail
def indexAddrRM (c:Cfg) (d:Option Tmp) (T:TypeId) (v ix:AV):RM:=
 match ix,c.ti T with
 | .f (.pv (.int k n)),some { desc:=.slice E,.. }=>
   if 0≤n then match v with
    | .f (.sl l)=>match l[n.toNat]?,c.ti E with
      | some e,some i=>if e.size=i.size then fin c d [] (.fp e 0) else .fail
      | _,_=>.fail
    | .rf b o i m=>if n.toNat < m then .ask b (some o) fun y=>match y,c.ti E with
       | .own E' l,some _=>if E'=E then fin c d [] (.ep b o (i+n.toNat) 0) else .fail
       | .f (.sl l),some t=>(match l[i+n.toNat]? with
         | some e=>if e.size=t.size then fin c d [] (.fp e 0) else .fail
         | none=>.fail)
       | _,_=>.fail
      else .fail
    | _=>.fail
   else .fail
 | .f (.pv (.int k n)),some { desc:=.array len E,.. }=>
   if 0≤n∧n < len then match c.ti E with
    | some i=>match v.plus (n.toNat * i.size) with
      | some x=>seen v (fin c d [] x)
      | none=>.fail
    | none=>.fail
   else .fail
 | _,_=>.fail
def indexRM (c:Cfg) (d:Option Tmp) (T:TypeId) (v ix:AV):RM:=
 match ix,v,c.ti T with
 | .f (.pv (.int k n)),.f (.pv (.string s)),some { desc:=.string,.. }=>
   if 0≤n then match s[n.toNat]? with
    | some b=>fin c d [] (.f (.pv (.int .u8 b.toNat)))
    | none=>.fail
   else .fail
 | .f (.pv (.int k n)),.agg l,some { desc:=.array len E,.. }=>
   if 0≤n∧n < len then match c.ti E with
    | some i=>match partAV l (n.toNat * i.size) i.size (isAggD i.desc) with
      | some v=>fin c d [] v
      | none=>.fail
    | none=>.fail
   else .fail
 | _,_,_=>.fail
def intOp (op:BinOp) (k:IntKind) (a b:Int):Option Value:=
 match op with
 | .add=>some (.int k (k.wrap (a+b)))
 | .sub=>some (.int k (k.wrap (a - b)))
 | .mul=>some (.int k (k.wrap (a * b)))
 | .quo=>if b=0 then none else some (.int k (k.wrap (a.tdiv b)))
 | .rem=>if b=0 then none else some (.int k (a.tmod b))
 | .and=>some (.int k (k.wrap (BitVec.ofInt k.bits a &&& BitVec.ofInt k.bits b).toNat))
 | .or=>some (.int k (k.wrap (BitVec.ofInt k.bits a ||| BitVec.ofInt k.bits b).toNat))
 | .xor=>some (.int k (k.wrap (BitVec.ofInt k.bits a ^^^ BitVec.ofInt k.bits b).toNat))
 | .andNot=>some (.int k (k.wrap (BitVec.ofInt k.bits a &&& ~~~ BitVec.ofInt k.bits b).toNat))
 | .eql=>some (.bool (a == b))
 | .neq=>some (.bool (a != b))
 | .lss=>some (.bool (a < b))
 | .leq=>some (.bool (a≤b))
 | .gtr=>some (.bool (a > b))
 | .geq=>some (.bool (a≥b))
 | _=>none
def shiftOp (op:BinOp) (k:IntKind) (a b:Int):Option Value:=
 if b < 0 then none else match op with
  | .shl=>some (.int k (k.wrap (a * 2 ^ min b.toNat k.bits)))
  | .shr=>some (.int k (a.fdiv (2 ^ min b.toNat k.bits)))
  | _=>none
def strOp (op:BinOp) (x y:ByteArray):Option Value:=
 match op with
 | .add=>if ((x.size+y.size:Nat):Int) > IntKind.i64.max then none else some (.string (x++y))
 | .eql=>some (.bool (x.toList == y.toList))
 | .neq=>some (.bool !(x.toList == y.toList))
 | .lss=>some (.bool (Op.bytesLess x.toList y.toList))
 | .leq=>some (.bool (Op.bytesLess x.toList y.toList || x.toList == y.toList))
 | .gtr=>some (.bool !(Op.bytesLess x.toList y.toList || x.toList == y.toList))
 | .geq=>some (.bool !(Op.bytesLess x.toList y.toList))
 | _=>none
def sameInts:List AV→List AV→Option Bool
 | [],[]=>some true
 | .f (.pv (.int k a)) :: l,.f (.pv (.int k' b)) :: m=>if k=k' then (sameInts l m).map fun r=>a == b && r else none
 | _,_=>none
def sameLeaf (c:Cfg) (E:TypeId):AV→AV→Option Bool
 | .f (.pv (.int k a)),.f (.pv (.int k' b))=>match c.ti E with
   | some { desc:=.int _,.. }=>if k=k' then some (a == b) else none
   | _=>none
 | .f (.pv (.string a)),.f (.pv (.string b))=>match c.ti E with
   | some { desc:=.string,.. }=>some (a.toList == b.toList)
   | _=>none
 | .f (.pv (.bool a)),.f (.pv (.bool b))=>match c.ti E with
   | some { desc:=.bool,.. }=>some (a == b)
   | _=>none
 | _,_=>none
def sameFs (c:Cfg):List Field→Nat→List AV→List AV→Option Bool
 | [],_,[],[]=>some true
 | f :: fs,i,x :: l,y :: m=>if f.offset=i then (match sameLeaf c f.type x y,sameFs c fs (i+1) l m with
   | some p,some q=>some (p && q)
   | _,_=>none) else none
 | _,_,_,_=>none
def isShift:BinOp→Bool
 | .shl=>true
 | .shr=>true
 | _=>false
def binAV (c:Cfg) (op:BinOp) (T:TypeId) (x y:AV):Option AV:=
 match x,y with
 | .f (.pv (.int k a)),.f (.pv (.int k' b))=>
   if isShift op=true then (shiftOp op k a b).map fun v=>.f (.pv v)
   else if k=k' then (intOp op k a b).map fun v=>.f (.pv v) else none
 | .f (.pv (.string a)),.f (.pv (.string b))=>(strOp op a b).map fun v=>.f (.pv v)
 | .f (.pv (.bool a)),.f (.pv (.bool b))=>match op,c.ti T with
   | .eql,some { desc:=.bool,.. }=>some (.f (.pv (.bool (a == b))))
   | .neq,some { desc:=.bool,.. }=>some (.f (.pv (.bool (!(a == b)))))
   | _,_=>none
 | .agg l,.agg m=>match op,c.ti T with
   | .eql,some { desc:=.array n E,.. }=>(match c.ti E with
     | some { desc:=.int k,size:=1,.. }=>if l.length=n then (sameInts l m).map fun r=>.f (.pv (.bool r)) else none
     | _=>none)
   | .neq,some { desc:=.array n E,.. }=>(match c.ti E with
     | some { desc:=.int k,size:=1,.. }=>if l.length=n then (sameInts l m).map fun r=>.f (.pv (.bool (!r))) else none
     | _=>none)
   | .eql,some { desc:=.struct fs,.. }=>if c.eqT T=true then (sameFs c fs.toList 0 l m).map fun r=>.f (.pv (.bool r)) else none
   | .neq,some { desc:=.struct fs,.. }=>if c.eqT T=true then (sameFs c fs.toList 0 l m).map fun r=>.f (.pv (.bool (!r))) else none
   | _,_=>none
 | _,_=>none
def unAV (op:UnOp) (x:AV):Option AV:=
 match op,x with
 | .neg,.f (.pv (.int k n))=>some (.f (.pv (.int k (k.wrap (0 - n)))))
 | .not,.f (.pv (.bool b))=>some (.f (.pv (.bool !b)))
 | .xor,.f (.pv (.int k n))=>(intOp .xor k (if k.signed then -1 else k.max) n).map fun v=>.f (.pv v)
 | _,_=>none
def convAV (c:Cfg) (src dst:TypeId) (x:AV):Option AV:=
 match c.ti src,c.ti dst,x with
 | some _,some { desc:=.int k,.. },.f (.pv (.int _ n))=>some (.f (.pv (.int k (k.wrap n))))
 | some _,some { desc:=.string,.. },.f (.pv (.string s))=>some (.f (.pv (.string s)))
 | _,_,_=>none
def optRM (c:Cfg) (d:Option Tmp) (v:Option AV):RM:=
 match v with
 | some v=>fin c d [] v
 | none=>.fail
def fillL (zero:List AV) (o:Nat):List AV→List AV
 | []=>zero
 | v :: r=>fillL (zero.set o v) (o+1) r
def fillRM (place:Nat→Option (Nat×Nat)):List AV→List (Nat×Operand)→List Up→(List AV→List Up→RM)→RM
 | cells,[],U,k=>k cells U
 | cells,(i,x) :: r,U,k=>rdO x fun v=>cpL v.leaves fun l W=>match place i with
   | some (o,n)=>if l.length=n∧o+n≤cells.length then fillRM place (fillL cells o l) r (U++W) k else .fail
   | none=>.fail
def finAgg (c:Cfg) (d:Option Tmp) (U:List Up) (l:List AV):RM:=
 match d with
 | some t=>if t < c.nt then .ret (U++[.set (tb t) (.agg l)]) else .fail
 | none=>.fail
def placesL (c:Cfg):List Field→Option (List (Nat×Nat))
 | []=>some []
 | f :: r=>match c.ti f.type,placesL c r with
   | some t,some l=>some ((f.offset,t.size) :: l)
   | _,_=>none
def buildRM (c:Cfg) (d:Option Tmp) (t:TypeId) (parts:List (Nat×Operand)):RM:=
 match c.ti t with
 | some { desc:=.struct fs,zero:=some (.agg z),.. }=>match placesL c fs.toList with
   | some pl=>fillRM (pl[·]?) z parts [] fun l U=>finAgg c d U l
   | none=>.fail
 | some { desc:=.array _ E,zero:=some (.agg z),.. }=>match c.ti E with
   | some i=>fillRM (fun j=>some (j * i.size,i.size)) z parts [] fun l U=>finAgg c d U l
   | none=>.fail
 | _=>.fail
def vsPart (c:Cfg) (parts:List (Nat×Operand)):Option (Nat×Tmp):=
 match parts with
 | [(i,.tmp t)]=>match c.vs t with
   | true=>some (i,t)
   | false=>none
 | _=>none
def buildVw (c:Cfg) (d:Option Tmp) (ty:TypeId) (i:Nat) (t:Tmp):RM:=
 match c.ti ty with
 | some { desc:=.struct fs,zero:=some (.agg z),.. }=>match placesL c fs.toList with
   | some pl=>match pl[i]? with
     | some (o,n)=>.ask (tb t) none fun v=>match v with
       | .own E l=>if n=1∧o+1≤z.length∧d≠some t then (match d with
          | some r=>if r < c.nt then .ret [.set (tb r) (.agg (fillL z o [.rf (tb t) 0 0 l.length]))] else .fail
          | none=>.fail) else .fail
       | _=>.fail
     | none=>.fail
   | none=>.fail
 | _=>.fail
def elemsRM:Nat→List (Nat×Operand)→(List FV→List Up→RM)→RM
 | _,[],k=>k [] []
 | i,(j,x) :: r,k=>if i=j then rdO x fun v=>cp v fun v U=>match v.elem with
    | some e=>elemsRM (i+1) r fun l W=>k (e :: l) (U++W)
    | none=>.fail
   else .fail
def finNew (c:Cfg) (d:Option Tmp) (U:List Up) (E:TypeId) (l:List FV):RM:=
 match d with
 | some t=>if t < c.nt then .ret (U++[.set (tb t) (.own E l)]) else .fail
 | none=>.fail
def buildSliceRM (c:Cfg) (d:Option Tmp) (t:TypeId) (n:Nat) (parts:List (Nat×Operand)):RM:=
 match c.ti t with
 | some { desc:=.slice E,.. }=>match c.ti E with
   | some { size:=sz,zero:=some z,.. }=>elemsRM 0 parts fun l U=>if l.length=n∧n * sz≤2 ^ 24∧l.all (FV.fits sz)=true then finNew c d U E l else .fail
   | _=>.fail
 | _=>.fail
def newB (c:Cfg) (d:Option Tmp) (U:List Up) (v:AV):RM:=
 match d with
 | some t=>if t < c.nt then (if v.refs.all (fun a=>!a.meets (.all (xb t)) && !a.meets (.id (xb t)))=true then .ret (U++[.newbox (xb t) v,.set (tb t) (.ptr (xb t) 0)]) else .fail) else .fail
 | none=>.fail
def isFO:AV→Bool
 | .f _=>true
 | .own _ _=>true
 | _=>false
def hasO:AV→Bool
 | .own _ _=>true
 | _=>false
def boxRM (c:Cfg) (d:Option Tmp) (x:Operand):RM:=
 match x,d with
 | .tmp t,some r=>.ask (tb t) none fun v=>match v with
   | .agg l=>if l.any hasO=true then (if l.all isFO=true∧r < c.nt then .ret (.newbox (xb r) (.agg (l.map fun _=>.bad)) :: (stL (tb t) 0 (xb r) 0 l++[.set (tb r) (.ptr (xb r) 0)])) else .fail)
     else cp (vw (tb t) (.agg l)) fun v U=>newB c (some r) U v
   | v=>cp (vw (tb t) v) fun v U=>newB c (some r) U v
 | x,d=>rdO x fun v=>cp v fun v U=>newB c d U v
def AV.cap:AV→Bool
 | .f _=>true
 | .ptr _ _=>true
 | .fp _ _=>true
 | _=>false
def lenRM (c:Cfg) (d:Option Tmp) (v:AV):RM:=
 match v with
 | .f (.sl l)=>fin c d [] (.f (.pv (.int .i64 l.length)))
 | .rf b o i n=>seen (.rf b o i n) (fin c d [] (.f (.pv (.int .i64 n))))
 | .ln n=>fin c d [] (.f (.pv (.int .i64 n)))
 | _=>.fail
def lenSRM (c:Cfg) (d:Option Tmp) (v:AV):RM:=
 match v with
 | .f (.pv (.string s))=>fin c d [] (.f (.pv (.int .i64 s.size)))
 | _=>.fail
def maxGo (mx:Bool) (k:IntKind):Int→List AV→Option AV
 | a,[]=>some (.f (.pv (.int k a)))
 | a,.f (.pv (.int _ b)) :: r=>maxGo mx k (if mx=true then (if b > a then b else a) else (if b < a then b else a)) r
 | _,_=>none
def maxAV (mx:Bool):List AV→Option AV
 | .f (.pv (.int k a)) :: r=>maxGo mx k a r
 | _=>none
def strElems (s:ByteArray):List FV:=s.toList.map fun b=>.pv (.int .u8 b.toNat)
def frzNe (b o:Nat):Up→Bool
 | .frz c p=>!(c == b && p == o)
 | _=>true
def boOk (W:List Up):Option (Nat×Nat)→Bool
 | some (b,o)=>W.all (frzNe b o)
 | none=>true
def boUps (n:Nat):Option (Nat×Nat)→List Up
 | some (b,o)=>[.leaf b o (.ln n)]
 | none=>[]
def apGo (c:Cfg) (d:Option Tmp) (E:TypeId) (i:TI) (ys:AV) (l:List FV) (bo:Option (Nat×Nat)):RM:=
 cp1 ys fun y W=>
  if boOk W bo=true then match y with
   | .f (.sl m)=>if (l.length+m.length) * i.bytes≤2 ^ 47∧m.all (FV.fits i.size)=true then finNew c d (W++boUps l.length bo) E (l++m) else .fail
   | .f (.pv (.string s))=>if (l.length+s.size) * i.bytes≤2 ^ 47∧i.size=1 then finNew c d (W++boUps l.length bo) E (l++strElems s) else .fail
   | _=>.fail
  else .fail
def apBase (c:Cfg) (d:Option Tmp) (E:TypeId) (i:TI) (x:Operand) (ys:AV):RM:=
 match x with
 | .const (.slice none 0 0)=>apGo c d E i ys [] none
 | .tmp t=>.ask (tb t) none fun v=>match v with
   | .rf b o j n=>.ask b (some o) fun y=>match y with
     | .own E' l=>if j=0∧n=l.length∧E'=E then apGo c d E i ys l (some (b,o)) else .fail
     | _=>.fail
   | .own E' l=>if E'=E then apGo c d E i ys l (some (tb t,0)) else .fail
   | _=>.fail
 | _=>.fail
def isSrcD:TypeDesc→Bool
 | .slice _=>true
 | .string=>true
 | _=>false
def appendRM (c:Cfg) (d:Option Tmp) (T T2:TypeId) (x:Operand) (ys:AV):RM:=
 match c.ti T,c.ti T2 with
 | some { desc:=.slice E,.. },some i2=>match c.ti E with
   | some i=>match i.zero with
     | some z=>if isSrcD i2.desc=true∧0 < i.bytes∧0 < i.size∧z.leaves.length=i.size then apBase c d E i x ys else .fail
     | none=>.fail
   | none=>.fail
 | _,_=>.fail
def sliceRM (c:Cfg) (d:Option Tmp) (T:TypeId) (v:AV) (lo hi:Option AV):RM:=
 let bnd (x:Option AV) (dflt:Nat):Option Nat:=match x with
  | none=>some dflt
  | some (.f (.pv (.int _ n)))=>if 0≤n then some n.toNat else none
  | _=>none
 match v,c.ti T with
 | .f (.pv (.string s)),some { desc:=.string,.. }=>match bnd lo 0,bnd hi s.size with
   | some l,some h=>if l≤h∧h≤s.size then fin c d [] (.f (.pv (.string (s.extract l h)))) else .fail
   | _,_=>.fail
 | .f (.sl es),some { desc:=.slice E,.. }=>match bnd lo 0,bnd hi es.length,c.ti E with
   | some l,some h,some i=>if l≤h∧h≤es.length∧es.all (FV.fits i.size)=true then fin c d [] (.f (.sl ((es.drop l).take (h - l)))) else .fail
   | _,_,_=>.fail
 | .rf b o j n,some { desc:=.slice E,.. }=>match bnd lo 0,bnd hi n,c.ti E with
   | some l,some h,some i=>if l≤h∧h≤n then (if l=0 then seen (.rf b o j n) (fin c d [] (.rf b o j h)) else .fail) else .fail
   | _,_,_=>.fail
 | _,_=>.fail
def sliceOpRM (c:Cfg) (d:Option Tmp) (t:TypeId) (x:Operand) (lo hi:Option Operand):RM:=
 rdO x fun v=>match lo,hi with
  | none,none=>sliceRM c d t v none none
  | some l,none=>rdO l fun a=>sliceRM c d t v (some a) none
  | none,some h=>rdO h fun b=>sliceRM c d t v none (some b)
  | some l,some h=>rdO l fun a=>rdO h fun b=>sliceRM c d t v (some a) (some b)
def makeSliceRM (c:Cfg) (d:Option Tmp) (T:TypeId) (l cp:AV):RM:=
 match l,cp,c.ti T with
 | .f (.pv (.int _ n)),.f (.pv (.int _ m)),some { desc:=.slice E,.. }=>match c.ti E with
   | some { size:=sz,bytes:=by_,zero:=some z,.. }=>match z.elem with
     | some e=>if 0≤n∧n≤m∧m < 2 ^ 40∧by_ * m≤2 ^ 47∧0 < sz∧e.fits sz=true then finNew c d [] E (List.replicate n.toNat e) else .fail
     | none=>.fail
   | _=>.fail
 | _,_,_=>.fail
def noElem (c:Cfg) (T:TypeId):Bool:=match c.ti T with
 | some { desc:=.slice E,.. }=>match c.ti E with
   | some { zero:=some z,.. }=>z.elem.isNone
   | _=>false
 | _=>false
def make0RM (c:Cfg) (d:Option Tmp) (T:TypeId) (l cp:AV):RM:=
 match l,cp,c.ti T with
 | .f (.pv (.int _ n)),.f (.pv (.int _ m)),some { desc:=.slice E,.. }=>match c.ti E with
   | some { size:=sz,bytes:=by_,zero:=some z,.. }=>if n=0∧0≤m∧m < 2 ^ 40∧by_ * m≤2 ^ 47∧0 < sz∧z.leaves.length=sz then finNew c d [] E [] else .fail
   | _=>.fail
 | _,_,_=>.fail
def makeRM (c:Cfg) (d:Option Tmp) (T:TypeId) (l cp:AV):RM:=if noElem c T=true then make0RM c d T l cp else makeSliceRM c d T l cp
def zF (n:Int):FV:=.pv (.int .u8 n)
def isByteF:FV→Bool
 | .pv (.int .u8 _)=>true
 | _=>false
def toU8:FV→UInt8
 | .pv (.int .u8 n)=>UInt8.ofNat n.toNat
 | _=>0
def bytesT (l:List FV):ByteArray:=⟨(l.map toU8).toArray⟩
def bytesOf (s:ByteArray):List Int:=s.data.toList.map fun b=>(b.toNat:Int)
def isU8 (c:Cfg) (e:TypeId):Bool:=match c.ti e with
 | some { desc:=.int .u8,.. }=>true
 | _=>false
def toStrGo (c:Cfg) (d:Option Tmp) (v:AV):RM:=
 cp1 v fun y W=>match y with
  | .f (.sl m)=>if m.all isByteF=true then fin c d W (.f (.pv (.string (bytesT m)))) else .fail
  | _=>.fail
def toBytesGo (c:Cfg) (d:Option Tmp) (v:AV):RM:=
 match v with
 | .f (.pv (.string s))=>fin c d [] (.f (.sl (List.map zF (bytesOf s))))
 | _=>.fail
inductive CvK where
 | str (e:TypeId) | bytes (e:TypeId) | other
def cvKind (c:Cfg) (src dst:TypeId):CvK:=
 match c.ti src,c.ti dst with
 | some { desc:=.slice e,.. },some { desc:=.string,.. }=>.str e
 | some { desc:=.string,.. },some { desc:=.slice e,.. }=>.bytes e
 | _,_=>.other
def convRM (c:Cfg) (d:Option Tmp) (src dst:TypeId) (v:AV):RM:=
 match cvKind c src dst with
 | .str e=>if isU8 c e=true then toStrGo c d v else .fail
 | .bytes e=>if isU8 c e=true then toBytesGo c d v else .fail
 | .other=>optRM c d (convAV c src dst v)
def AV.ptrs0:AV→List Nat
 | .ptr b _=>[b]
 | .clo _ caps=>caps.filterMap fun | .ptr b _=>some b | _=>none
 | _=>[]
def AV.ptrs:AV→List Nat
 | .agg l=>l.flatMap AV.ptrs0
 | v=>v.ptrs0
def addNew (l:List Nat):List Nat→List Nat
 | []=>l
 | b :: r=>if l.contains b=true then addNew l r else addNew (l++[b]) r
def gather:Nat→List Nat→List AV→(List Nat→List AV→RM)→RM
 | 0,_,_,_=>.fail
 | n+1,bs,cs,k=>if cs.length=bs.length then k bs cs else match bs[cs.length]? with
   | some b=>.ask b none fun v=>gather n (addNew bs v.ptrs) (cs++[v]) k
   | none=>.fail
def toOut (bs:List Nat) (b:Nat):Nat:=ob (bs.idxOf b)
def back (bs:List Nat) (b:Nat):Nat:=bs.getD (b / 3 - 1) 0
def renC (f:Nat→Nat):AV→AV
 | .ptr b o=>.ptr (f b) o
 | v=>v
def ren0 (f:Nat→Nat):AV→AV
 | .ptr b o=>.ptr (f b) o
 | .clo g caps=>.clo g (caps.map (renC f))
 | v=>v
def ren1 (f:Nat→Nat):AV→AV
 | .agg l=>.agg (l.map (ren0 f))
 | v=>ren0 f v
def ren2 (f:Nat→Nat):AV→AV
 | .tup l=>.tup (l.map (ren1 f))
 | .agg l=>.agg (l.map (ren0 f))
 | v=>ren0 f v
def sameLens:List AV→List AV→Bool
 | [],_=>true
 | c :: cs,o :: os=>c.leaves.length == o.leaves.length && sameLens cs os
 | _ :: _,[]=>false
def putsOf (f:Nat→Nat):List Nat→List AV→List Up
 | b :: bs,v :: vs=>.put b (ren1 f v) :: putsOf f bs vs
 | _,_=>[]
def capIn (p:Nat→Bool):AV→Bool
 | .ptr b _=>p b && !isM b
 | .f _=>true
 | .fp _ _=>true
 | .bad=>true
 | _=>false
def shut0 (own:Bool) (p:Nat→Bool):AV→Bool
 | .own _ _=>own
 | .clo _ caps=>caps.all (capIn p)
 | v=>capIn p v
def shut1 (own:Bool) (p:Nat→Bool):AV→Bool
 | .agg l=>l.all (shut0 own p)
 | v=>shut0 own p v
def shut2 (p:Nat→Bool):AV→Bool
 | .tup l=>l.all (shut1 false p)
 | v=>shut1 true p v
def isOut (n b:Nat):Bool:=b % 3 == 0 && b != 0 && decide (b / 3≤n)
def frzIn (b:Nat):List Up→AV→AV
 | [],v=>v
 | .frz c o :: U,v=>frzIn b U (if c=b then mapLeaf o Ev.frz v else v)
 | _ :: U,v=>frzIn b U v
def frzAll (U:List Up):List Nat→List AV→List AV
 | b :: bs,v :: vs=>frzIn b U v :: frzAll U bs vs
 | _,_=>[]
def setD (d:Option Tmp) (v:AV):List Up:=
 match d with
 | some t=>[.set (tb t) v]
 | none=>[]
def dIn (d:Option Tmp) (n:Nat):Bool:=
 match d with
 | some t=>decide (t < n)
 | none=>true
def callGo (c:Cfg) (d:Option Tmp) (g:FuncId) (args:List AV) (U:List Up) (bs:List Nat) (cs:List AV):RM:=
 if args.all (shut1 false bs.contains)=true∧cs.all (shut1 true bs.contains)=true∧bs.all (fun b=>b % 3 != 1 && !isM b)=true∧bs.Nodup∧dIn d c.nt=true then
  .call g (args.map (ren1 (toOut bs))) (cs.map (ren1 (toOut bs))) fun r outs=>
   if outs.length=bs.length∧sameLens cs outs=true∧outs.all (shut1 true (isOut bs.length))=true∧shut2 (isOut bs.length) r=true then
    .ret (U++(putsOf (back bs) bs outs++setD d (ren2 (back bs) r)))
   else .fail
 else .fail
def callRM (c:Cfg) (d:Option Tmp) (g:FuncId) (args:List AV) (U:List Up):RM:=
 gather 32 (addNew [] (args.flatMap AV.ptrs)) [] fun bs cs=>callGo c d g args U bs (frzAll U bs cs)
def ipOf (c:Cfg) (f:Operand) (args:List Operand):Option (FuncId×(List FV→Option (List FV))×Bool×Tmp):=
 match f,args with
 | .func g,[.tmp t]=>(c.ip g).map fun x=>(g,x.1,x.2,t)
 | _,_=>none
def ipGo (c:Cfg) (d:Option Tmp) (f:List FV→Option (List FV)) (back:Bool) (b o:Nat) (E:TypeId) (l:List FV):RM:=
 match f l with
 | some l'=>
   if back=true then (match d with
    | some t=>if t < c.nt then .ret [.leaf b o .bad,.set (tb t) (.own E l')] else .fail
    | none=>.fail)
   else if l'.length=l.length then fin c d [.upo b o (.own E l')] (.tup []) else .fail
 | none=>.fail
def ipRM (c:Cfg) (d:Option Tmp) (f:List FV→Option (List FV)) (back:Bool) (t:Tmp):RM:=
 .ask (tb t) none fun v=>match v with
  | .rf b o i n=>.ask b (some o) fun y=>match y with
    | .own E l=>if i=0∧n=l.length then ipGo c d f back b o E l else .fail
    | _=>.fail
  | .own E l=>ipGo c d f back (tb t) 0 E l
  | _=>.fail
def grOf (c:Cfg) (f:Operand) (args:List Operand):Option (FuncId×TypeId×Operand):=
 match f,args with
 | .func g,[.const (.slice none 0 0),y]=>(c.gr g).map fun E=>(g,E,y)
 | _,_=>none
def growRM (c:Cfg) (d:Option Tmp) (E:TypeId) (v:AV):RM:=
 match v with
 | .f (.pv (.int .i64 n))=>if 0≤n∧n≤2 ^ 40 then finNew c d [] E [] else .fail
 | _=>.fail
def nwOf (c:Cfg) (f:Operand):Option (FuncId×(List AV→Option AV)):=
 match f with
 | .func g=>(c.nw g).map fun h=>(g,h)
 | _=>none
def nwGo (c:Cfg) (d:Option Tmp) (h:List AV→Option AV) (l:List AV) (U:List Up):RM:=
 match l.all (shut1 false fun _=>false) with
 | true=>match h l with
   | some v=>match shut1 true (fun _=>false) v with
     | true=>(match d with
       | some t=>if t < c.nt then .ret (U++[.newbox (xb t) v,.set (tb t) (.ptr (xb t) 0)]) else .fail
       | none=>.fail)
     | false=>.fail
   | none=>.fail
 | false=>.fail
def ovOf (c:Cfg) (f:Operand) (args:List Operand):Option (FuncId×Tmp×List Operand):=
 match f,args with
 | .func g,.tmp t :: rest=>match c.ap g with
   | true=>some (g,t,rest)
   | false=>none
 | _,_=>none
def ovGo (c:Cfg) (d:Option Tmp) (g:FuncId) (b o:Nat) (E:TypeId) (l:List FV) (xs:List AV):RM:=
 match xs.all (shut1 false fun _=>false),d with
 | true,some t=>.call g (.own E l :: xs) [] fun r outs=>
   if t < c.nt∧outs=[] then match r with
    | .own E' l'=>.ret [.leaf b o .bad,.set (tb t) (.own E' l')]
    | .tup (.own E' l' :: rs)=>match rs.all (shut1 false fun _=>false) && (AV.tup (.rf (gb t) 0 0 l'.length :: rs)).free (tb t) with
      | true=>.ret [.leaf b o .bad,.set (gb t) (.own E' l'),.set (tb t) (.tup (.rf (gb t) 0 0 l'.length :: rs))]
      | false=>.fail
    | _=>.fail
   else .fail
 | _,_=>.fail
def ovRM (c:Cfg) (d:Option Tmp) (g:FuncId) (t:Tmp) (rest:List Operand):RM:=
 rdL rest fun vs=>cps vs fun xs U=>match U with
  | []=>.ask (tb t) none fun v=>match v with
    | .own E l=>ovGo c d g (tb t) 0 E l xs
    | .rf b o i n=>.ask b (some o) fun y=>match y with
      | .own E l=>if i=0∧n=l.length then ovGo c d g b o E l xs else .fail
      | _=>.fail
    | _=>.fail
  | _=>.fail
def tkS (c:Cfg) (x:Operand):Option Tmp:=
 match x with
 | .tmp t=>match c.tk t with
   | true=>some t
   | false=>none
 | _=>none
def tkRM (c:Cfg) (d:Option Tmp) (t:Tmp):RM:=
 .ask (tb t) none fun v=>match v with
  | .rf b o j n=>.ask b (some o) fun y=>match y with
    | .own E m=>if j=0∧n=m.length then finOwn c d b o E m else .fail
    | _=>.fail
  | _=>.fail
def keyV:TypeDesc→Value→Bool
 | .string,.string _=>true
 | .int k,.int k' _=>k' == k
 | .bool,.bool _=>true
 | _,_=>false
def keyIs (d:TypeDesc):FV→Bool
 | .agg [.pv v,_]=>keyV d v
 | _=>false
def keyEq:Value→Value→Bool
 | .string a,.string b=>a == b
 | .int _ a,.int _ b=>a == b
 | .bool a,.bool b=>a == b
 | _,_=>false
def entIs (k:Value):FV→Bool
 | .agg [.pv v,_]=>keyEq k v
 | _=>false
def putE (k:Value) (y:FV):List FV→List FV
 | []=>[.agg [.pv k,y]]
 | x :: r=>if entIs k x=true then .agg [.pv k,y] :: r else x :: putE k y r
def makeMapRM (c:Cfg) (d:Option Tmp):RM:=
 match d with
 | some t=>if t < c.nt then .ret [.newbox (mb t) (.f (.sl [])),.set (tb t) (.ptr (mb t) 0)] else .fail
 | none=>.fail
def mapUpGo (iK:TI) (b:Nat) (kv:Value) (y:FV):RM:=
 .ask b none fun z=>match z with
  | .f (.sl L)=>if L.all (keyIs iK.desc)=true then .ret [.set b (.f (.sl (putE kv y L)))] else .fail
  | _=>.fail
def mapUpRM (c:Cfg) (T:TypeId) (m k x:Operand):RM:=
 match c.ti T with
 | some { desc:=.map K _,.. }=>match c.ti K with
   | some iK=>rdO m fun vm=>match vm with
     | .ptr b _=>if isMM b=true then rdO k fun vk=>match vk with
        | .f (.pv kv)=>if keyV iK.desc kv=true then rdO x fun vx=>match vx.elem with
           | some y=>mapUpGo iK b kv y
           | none=>.fail
          else .fail
        | _=>.fail
       else .fail
     | _=>.fail
   | none=>.fail
 | _=>.fail
def lenMRM (c:Cfg) (d:Option Tmp) (v:AV):RM:=
 match v with
 | .ptr b _=>if isMM b=true then .ask b none fun z=>match z with
    | .f (.sl L)=>fin c d [] (.f (.pv (.int .i64 L.length)))
    | _=>.fail
   else .fail
 | _=>.fail
def builtinRM (c:Cfg) (d:Option Tmp) (b:Builtin) (Ts:List TypeId) (args:List Operand):RM:=
 match b,args,Ts with
 | .len,[x],[T]=>match c.ti T with
   | some { desc:=.slice _,.. }=>rdO x (lenRM c d)
   | some { desc:=.string,.. }=>rdO x (lenSRM c d)
   | some { desc:=.map _ _,.. }=>rdO x (lenMRM c d)
   | _=>.fail
 | .append,[x,y],[T,T2]=>rdO y fun v=>appendRM c d T T2 x v
 | .max,l,_=>rdL l fun vs=>optRM c d (maxAV true vs)
 | .min,l,_=>rdL l fun vs=>optRM c d (maxAV false vs)
 | _,_,_=>.fail
def opRM (c:Cfg) (o:Oper):RM:=
 match o.op with
 | .move x=>moveRM c o.dst x
 | .assign x=>match tkS c x with
   | some t=>tkRM c o.dst t
   | none=>asgRM c o.dst o.type x
 | .pick q a b=>rdO q fun v=>match v with
   | .f (.pv (.bool t))=>if t=true then rdO a (fin c o.dst []) else rdO b (fin c o.dst [])
   | _=>.fail
 | .alloc E=>match c.ti E with
   | some { zero:=some z,.. }=>newB c o.dst [] z
   | _=>.fail
 | .box E x=>boxRM c o.dst x
 | .build t parts=>match vsPart c parts.toList with
   | some (i,x)=>buildVw c o.dst t i x
   | none=>buildRM c o.dst t parts.toList
 | .buildSlice t n parts=>buildSliceRM c o.dst t n parts.toList
 | .load T a=>rdO a fun p=>loadRM c T o.dst p
 | .store T a x=>if o.dst.isNone=true then rdO a fun p=>storeX c T x p else .fail
 | .makeMap _ none=>makeMapRM c o.dst
 | .mapUpdate T m k x=>if o.dst.isNone=true then mapUpRM c T m k x else .fail
 | .nilCheck x=>rdO x fun v=>match v with
   | .ptr b n=>match isM b with
     | true=>.fail
     | false=>fin c o.dst [] (.ptr b n)
   | .fp x n=>fin c o.dst [] (.fp x n)
   | .ep b n i k=>seen (.ep b n i k) (fin c o.dst [] (.ep b n i k))
   | .clo g caps=>fin c o.dst [] (.clo g caps)
   | _=>.fail
 | .binOp op T x y _=>rdO x fun a=>rdO y fun b=>optRM c o.dst (binAV c op T a b)
 | .unOp op _ x=>rdO x fun a=>optRM c o.dst (unAV op a)
 | .convert s t x=>rdO x fun a=>convRM c o.dst s t a
 | .makeFunc (.func g) first caps=>if first.size=0 then rdL caps.toList fun l=>if l.all AV.cap=true then fin c o.dst [] (.clo g l) else .fail else .fail
 | .makeSlice t l n=>rdO l fun a=>rdO n fun b=>makeRM c o.dst t a b
 | .slice t x lo hi none=>sliceOpRM c o.dst t x lo hi
 | .fieldAddr s x n=>rdO x fun v=>fieldAddrRM c o.dst s n v
 | .field s x n=>rdO x fun v=>fieldRM c o.dst s n v
 | .indexAddr t x i=>rdO x fun v=>rdO i fun w=>indexAddrRM c o.dst t v w
 | .index t x i=>rdO x fun v=>rdO i fun w=>indexRM c o.dst t v w
 | .extract x i=>rdO x fun v=>match v with
   | .tup l=>optRM c o.dst l[i]?
   | _=>.fail
 | .call { callee:=.builtin b,args,argTypes }=>builtinRM c o.dst b argTypes.toList args.toList
 | .call { callee:=.value f,args,.. }=>match ipOf c f args.toList with
   | some (_,f,back,t)=>ipRM c o.dst f back t
   | none=>match grOf c f args.toList with
     | some (_,E,y)=>rdO y (growRM c o.dst E)
     | none=>match nwOf c f with
       | some (_,h)=>rdL args.toList fun l=>cps l fun l U=>nwGo c o.dst h l U
       | none=>match ovOf c f args.toList with
         | some (g,t,rest)=>ovRM c o.dst g t rest
         | none=>rdO f fun v=>match v with
           | .clo g caps=>rdL args.toList fun l=>cps l fun l U=>callRM c o.dst g (l++caps) U
           | _=>.fail
 | _=>.fail
def stepRM (c:Cfg) (ops:Array Oper) (i:Nat):RM:=
 match ops[i]? with
 | none=>.ret []
 | some o=>match o.guard with
   | none=>opRM c o
   | some (j,want)=>match (ops[j]?).bind (·.dst) with
     | none=>.fail
     | some t=>.ask (tb t) none fun v=>match v with
       | .f (.pv (.bool b))=>if b=want then opRM c o else fin c o.dst [] (.tup [])
       | .tup []=>fin c o.dst [] (.tup [])
       | _=>.fail
end Go.Ev
namespace Go.Ev
open Go Go.RowKit
variable {P : Program}
def zeroLeaf:AV→Value→Prop
 | .f (.pv v),u=>u=v∧v.oneCell'=true
 | .own _ [],u=>u=.slice none 0 0
 | _,_=>False
def zeroFits:AV→Value→Prop
 | .agg l,u=>∃ arr,u=.agg arr∧l.length=arr.size∧∀ (j:Nat) x v,l[j]?=some x→arr[j]?=some v→zeroLeaf x v
 | v,u=>zeroLeaf v u
structure TiOk (P:Program) (t:TypeId) (i:TI):Prop where
 und:P.underlying t=some i.desc
 info:∃ f,P.info? t=some f∧f.size=i.size∧f.bytes=i.bytes∧∀ z,i.zero=some z→∃ zv,f.zero=some zv∧zeroFits z zv
def CfgOk (P:Program) (c:Cfg):Prop:=∀ t i,c.ti t=some i→TiOk P t i
section runs
variable {t : TypeId} {i : TI}
theorem TiOk.run_und (h:TiOk P t i) (w:World):(underlying t).run P w=.ok i.desc w:=run_underlying h.und w
theorem TiOk.cells (h:TiOk P t i):P.cellsOf t=i.size:=by
 obtain ⟨f,h1,h2,_⟩:=h.info
 simp [Program.cellsOf,h1,h2]
theorem TiOk.run_size (h:TiOk P t i) (w:World):(sizeOf t).run P w=.ok i.size w:=by
 obtain ⟨f,h1,h2,_⟩:=h.info
 simp [sizeOf,typeInfo,h1,h2]
theorem TiOk.run_agg (h:TiOk P t i) (w:World):(isAgg t).run P w=.ok (isAggD i.desc) w:=by
 simp only [isAgg,Sem.run_bind,h.run_und,Result.andThen_ok]
 cases i.desc<;>rfl
theorem TiOk.run_info (h:TiOk P t i) (w:World):∃ f,(typeInfo t).run P w=.ok f w∧f.size=i.size∧f.bytes=i.bytes:=by
 obtain ⟨f,h1,h2,h3,_⟩:=h.info
 exact ⟨f,by simp [typeInfo,h1],h2,h3⟩
theorem TiOk.run_zero (h:TiOk P t i) (w:World) {z:AV} (hz:i.zero=some z):∃ zv,(zeroValue t).run P w=.ok zv w∧zeroFits z zv:=by
 obtain ⟨f,h1,h2,h3,h4⟩:=h.info
 obtain ⟨zv,h5,h6⟩:=h4 z hz
 exact ⟨zv,by simp [zeroValue,typeInfo,h1,h5],h6⟩
end runs
theorem zas (U W:List Up) (G:Sta):app (U++W) G=app W (app U G):=by
 induction U generalizing G with
 | nil=>rfl
 | cons u U ih=>exact ih _
structure Kp (P:Program) (G:Sta) (own:Own) (w:World) (G':Sta) (own':Own) (w':World):Prop where
 tr:Tr own w own' w'
 box:∀ k b,own k=some (.box b)→own' k=some (.box b)
 r0:∀ v u,R0 P G own w v u→R0 P G' own' w' v u
theorem Kp.refl (G:Sta) (own:Own) (w:World):Kp P G own w G own w:=⟨Tr.refl _ _,fun _ _ h=>h,fun _ _ h=>h⟩
theorem Kp.trans {G1 G2 G3:Sta} {o1 o2 o3:Own} {w1 w2 w3:World} (h:Kp P G1 o1 w1 G2 o2 w2) (k:Kp P G2 o2 w2 G3 o3 w3):Kp P G1 o1 w1 G3 o3 w3:=
 ⟨h.tr.trans k.tr,fun i b e=>k.box i b (h.box i b e),fun v u e=>k.r0 v u (h.r0 v u e)⟩
theorem Kp.r1 {G G':Sta} {own own':Own} {w w':World} (K:Kp P G own w G' own' w') {v:AV} {u:Value} (h:R1 P G own w v u):R1 P G' own' w' v u:=by
 have key:∀ v:AV,(∀ l,v≠.agg l)→R1 P G own w v u→R1 P G' own' w' v u:=by
  intro v hv h
  have h0:R0 P G own w v u:=by cases v<;>first | exact h | exact absurd rfl (hv _)
  have:=K.r0 v u h0
  cases v<;>first | exact this | exact absurd rfl (hv _)
 cases v with
 | agg l=>obtain ⟨arr,h1,h2,h3⟩:=h;exact ⟨arr,h1,h2,fun j x v e1 e2=>K.r0 _ _ (h3 j x v e1 e2)⟩
 | _=>exact key _ (by simp) h
theorem Kp.rv {G G':Sta} {own own':Own} {w w':World} (K:Kp P G own w G' own' w') {v:AV} {u:Value} (h:RV P G own w v u):RV P G' own' w' v u:=by
 have key:∀ v:AV,(∀ l,v≠.tup l)→RV P G own w v u→RV P G' own' w' v u:=by
  intro v hv h
  have h0:R1 P G own w v u:=by cases v<;>first | exact h | exact absurd rfl (hv _)
  have:=K.r1 h0
  cases v<;>first | exact this | exact absurd rfl (hv _)
 cases v with
 | tup l=>obtain ⟨arr,h1,h2,h3⟩:=h;exact ⟨arr,h1,h2,fun j x v e1 e2=>K.r1 (h3 j x v e1 e2)⟩
 | _=>exact key _ (by simp) h
theorem Keep.kp {G G':Sta} {own own':Own} {w w':World} {ov:Nat→Nat→Prop} (K:Keep P G own w G' own' w' (fun v=>v) ov):Kp P G own w G' own' w':=
 ⟨K.tr,fun k b h=>K.box k b 0 h rfl,fun v u h=>R0.keep K h⟩
def FrzOnly (U:List Up):Prop:=∀ u∈U,∃ b o,u=.frz b o
theorem FrzOnly.nil:FrzOnly []:=fun _ h=>by cases h
theorem FrzOnly.app {U W:List Up} (h:FrzOnly U) (k:FrzOnly W):FrzOnly (U++W):=fun u hu=>by
 rcases List.mem_append.1 hu with h' | h'
 ·exact h u h'
 ·exact k u h'
theorem frz_frz (y:AV):Ev.frz (Ev.frz y)=Ev.frz y:=by cases y<;>rfl
theorem ziR {b o:Nat} {y:AV}:∀ {U:List Up} (hU:FrzOnly U) {G:Sta},look G b (some o)=some y→look (app U G) b (some o)=some y∨look (app U G) b (some o)=some (Ev.frz y)
 | [],_,_,h=>.inl h
 | u :: U,hU,G,h=>by
   obtain ⟨c,p,rfl⟩:=hU u (List.mem_cons_self ..)
   have hU':FrzOnly U:=fun v hv=>hU v (List.mem_cons_of_mem _ hv)
   show look (app U ((Up.frz c p).app G)) b (some o)=some y∨_
   by_cases e:b=c∧o=p
   ·obtain ⟨rfl,rfl⟩:=e
    have h1:=zdr h
    rcases ziR hU' h1 with h2 | h2
    ·exact .inr h2
    ·rw [frz_frz] at h2;exact .inr h2
   ·have h1:look ((Up.frz c p).app G) b (some o)=some y:=by rw [zeg e];exact h
    exact ziR hU' h1
theorem zaM {CE:CEx} {G:Sta} {b:Nat} {o:Option Nat} {k:AV→RM} {T:List Acc} {K:List Up→List Acc→Prop} (h:(RM.ask b o k).wp CE G T K) :
 ∃ v T',look G b o=some v∧(k v).wp CE G T' K:=let ⟨v,h1,_,h3⟩:=h;⟨v,_,h1,h3⟩
section
variable {nt : Nat} {CE : CEx} {G : Sta} {own : Own} {a : Act} {w : World} {T : List Acc} {K : List Up → List Acc → Prop}
theorem St.temp (s:St P nt G own a w) {t:Nat} {v:AV} (h:get G (tb t)=some v):RL P G own w (tb t) v (a.eval (.tmp t)):=by
 obtain ⟨u,h1,h2⟩:=s.temps t v h
 have:a.eval (.tmp t)=u:=by simp [Act.eval,h1]
 rw [this];exact h2
theorem zhR {v:Value} {x:AV} (h:constLeaf v=some x):R0 P G own w x v∧∃ y,x=.f y:=by
 cases v with
 | slice a n c=>
   cases a with
   | some a=>simp [constLeaf] at h
   | none=>
     cases n with
     | succ n=>simp [constLeaf] at h
     | zero=>cases c with
       | succ c=>simp [constLeaf] at h
       | zero=>simp [constLeaf] at h;subst h;exact ⟨⟨rfl,RF.nil⟩,_,rfl⟩
 | pointer a=>cases a<;>simp [constLeaf] at h;subst h;exact ⟨⟨rfl,RF.pv _ rfl⟩,_,rfl⟩
 | map a=>cases a<;>simp [constLeaf] at h;subst h;exact ⟨⟨rfl,RF.pv _ rfl⟩,_,rfl⟩
 | _=>first | (simp [constLeaf] at h;done) | (simp [constLeaf] at h;subst h;exact ⟨⟨rfl,RF.pv _ rfl⟩,_,rfl⟩)
theorem zjn:∀ {l:List Value} {m:List AV},constL l=some m→l.length=m.length∧∀ (j:Nat) x v,m[j]?=some x→l[j]?=some v→R0 P G own w x v
 | [],m,h=>by simp [constL] at h;subst h;exact ⟨rfl,fun j x v h=>by simp at h⟩
 | v :: r,m,h=>by
   simp only [constL] at h
   split at h
   ·rename_i x l hx hl
    cases h
    obtain ⟨h1,h2⟩:=zjn hl
    refine ⟨by simp [h1],fun j y u hy hu=>?_⟩
    cases j with
    | zero=>simp at hy hu;subst hy hu;exact (zhR hx).1
    | succ j=>simp at hy hu;exact h2 j y u hy hu
   ·cases h
theorem constAV_rv {v:Value} {x:AV} (h:constAV v=some x):RV P G own w x v:=by
 have key:∀ {v:Value},constLeaf v=some x→RV P G own w x v:=by
  intro v h
  obtain ⟨h1,y,rfl⟩:=zhR (P:=P) (G:=G) (own:=own) (w:=w) h
  exact h1
 cases v with
 | agg cs=>
   simp only [constAV] at h
   split at h
   ·rename_i l hl;cases h
    obtain ⟨h1,h2⟩:=zjn (P:=P) (G:=G) (own:=own) (w:=w) hl
    exact ⟨cs,rfl,by rw [← h1];simp,fun j x v hx hv=>h2 j x v hx (by simpa using hv)⟩
   ·cases h
 | _=>exact key h
theorem zJ (s:St P nt G own a w) {x:Operand} {k:AV→RM} (h:(rdO x k).wp CE G T K):∃ v T',RV P G own w v (a.eval x)∧(k v).wp CE G T' K:=by
 cases x with
 | tmp t=>
   obtain ⟨v,T',h1,h2⟩:=zaM h
   exact ⟨_,T',RL.view (s.temp h1) h1,h2⟩
 | const v=>
   simp only [rdO] at h
   split at h
   ·rename_i x hx;exact ⟨x,T,constAV_rv hx,h⟩
   ·exact h.elim
 | func g=>
   refine ⟨.clo g [],T,?_,h⟩
   show R0 P G own w (.clo g []) _
   exact ⟨#[],rfl,rfl,fun j x v h=>by simp at h⟩
 | global g=>exact h.elim
theorem zdQ (s:St P nt G own a w):∀ {xs:List Operand} {k:List AV→RM} {T:List Acc},(rdL xs k).wp CE G T K→
 ∃ vs T',vs.length=xs.length∧(∀ (j:Nat) v x,vs[j]?=some v→xs[j]?=some x→RV P G own w v (a.eval x))∧(k vs).wp CE G T' K
 | [],k,T,h=>⟨[],T,rfl,fun j v x h=>by simp at h,h⟩
 | x :: r,k,T,h=>by
   obtain ⟨v,T1,h1,h2⟩:=zJ s h
   obtain ⟨vs,T2,h3,h4,h5⟩:=zdQ s h2
   refine ⟨v :: vs,T2,by simp [h3],fun j v' x' e1 e2=>?_,h5⟩
   cases j with
   | zero=>simp at e1 e2;subst e1 e2;exact h1
   | succ j=>simp at e1 e2;exact h4 j v' x' e1 e2
def frzsOwn:List Up→Own→Own
 | .frz b o :: r,own=>frzsOwn r (ownFrz own b o)
 | _,own=>own
def AV.plain0:AV→Bool
 | .f _=>true
 | .ptr _ _=>true
 | .fp _ _=>true
 | .clo _ _=>true
 | _=>false
theorem R0.any {G':Sta} {v:AV} {u:Value} (h:R0 P G own w v u) (hv:v.plain0=true):R0 P G' own w v u:=by
 cases v<;>first | exact h | simp [AV.plain0] at hv
theorem zdx {U:List Up} (hU:FrzOnly U) (s:St P nt (app U G) own a w) {v:AV} {u:Value} (hv:R0 P (app U G) own w v u) {k:AV→List Up→RM} (h:(cp1 v k).wp CE G T K) :
 ∃ x W T' own',FrzOnly W∧St P nt (app (U++W) G) own' a w∧Kp P (app U G) own w (app (U++W) G) own' w∧R0 P (app (U++W) G) own' w x u∧x.plain0=true∧(k x W).wp CE G T' K∧own'=frzsOwn W own:=by
 have triv:∀ {x:AV},R0 P (app U G) own w x u→x.plain0=true→(k x []).wp CE G T K→
  ∃ x W T' own',FrzOnly W∧St P nt (app (U++W) G) own' a w∧Kp P (app U G) own w (app (U++W) G) own' w∧R0 P (app (U++W) G) own' w x u∧x.plain0=true∧(k x W).wp CE G T' K∧own'=frzsOwn W own:=
  fun {x} h1 h2 h3=>⟨x,[],T,own,FrzOnly.nil,by simpa using s,by simpa using Kp.refl _ _ _,by simpa using h1,h2,h3,rfl⟩
 cases v with
 | rf b o i n=>
   obtain ⟨y,T1,h1,h2⟩:=zaM h
   have hl:=ziR hU h1
   split at h2
   ·rename_i E l
    obtain ⟨s',K'⟩:=s.frz b o
    refine ⟨_,[.frz b o],T1,_,fun u hu=>by simp at hu;exact ⟨b,o,hu⟩,by rw [zas];exact s',by rw [zas];exact K'.kp,?_,rfl,h2,rfl⟩
    have hr:SlV P ((Up.frz b o).app (app U G)) _ w b o i n u:=K'.sv b o i n u rfl hv
    rw [zas]
    refine ⟨rfl,?_⟩
    have hg:look ((Up.frz b o).app (app U G)) b (some o)=some (.f (.sl l)):=by
     rcases hl with hl | hl
     ·exact zdr hl
     ·exact zdr hl
    unfold SlV at hr
    rw [hg] at hr
    exact hr.2
   ·rename_i l
    have hg:look (app U G) b (some o)=some (.f (.sl l)):=by rcases hl with hl | hl<;>exact hl
    have hr:SlV P (app U G) own w b o i n u:=hv
    unfold SlV at hr
    rw [hg] at hr
    refine ⟨_,[],T1,own,FrzOnly.nil,by simpa using s,by simpa using Kp.refl _ _ _,?_,rfl,h2,rfl⟩
    simpa using (show R0 P (app U G) own w (.f (.sl ((l.drop i).take n))) u from ⟨rfl,hr.2⟩)
   ·exact h2.elim
 | f x=>exact triv hv rfl h
 | ptr b o=>exact triv hv rfl h
 | fp x o=>exact triv hv rfl h
 | clo g l=>exact triv hv rfl h
 | _=>exact h.elim
def AV.plain1:AV→Bool
 | .agg l=>l.all AV.plain0
 | v=>v.plain0
theorem zjl:∀ {vs:List AV} {U:List Up} (hU:FrzOnly U) {own:Own} (s:St P nt (app U G) own a w) {us:List Value} (hv:vs.length=us.length∧∀ (j:Nat) v u,vs[j]?=some v→us[j]?=some u→R0 P (app U G) own w v u)
 {k:List AV→List Up→RM} {T:List Acc},(cpL vs k).wp CE G T K→
 ∃ xs W T' own',FrzOnly W∧St P nt (app (U++W) G) own' a w∧Kp P (app U G) own w (app (U++W) G) own' w∧
   (xs.length=us.length∧∀ (j:Nat) v u,xs[j]?=some v→us[j]?=some u→R0 P (app (U++W) G) own' w v u)∧(∀ x∈xs,x.plain0=true)∧(k xs W).wp CE G T' K
 | [],U,hU,own,s,us,hv,k,T,h=>by
   have:us=[]:=List.length_eq_zero_iff.1 (by have:=hv.1;simpa using this.symm)
   subst this
   exact ⟨[],[],T,own,FrzOnly.nil,by simpa using s,by simpa using Kp.refl _ _ _,⟨rfl,fun j v u h=>by simp at h⟩,fun x hx=>by simp at hx,h⟩
 | v :: r,U,hU,own,s,us,hv,k,T,h=>by
   obtain ⟨hlen,hv⟩:=hv
   cases us with
   | nil=>simp at hlen
   | cons u us=>
     obtain ⟨x,W,T1,own1,h1,h2,h3,h4,h5,h6,_⟩:=zdx hU s (hv 0 v u rfl rfl) h
     obtain ⟨xs,W2,T2,own2,k1,k2,k3,k4,k5,k6⟩:=zjl (hU.app h1) h2 (us:=us) ⟨by simpa using hlen,fun j v' u' e1 e2=>h3.r0 _ _ (hv (j+1) v' u' (by simpa using e1) (by simpa using e2))⟩ h6
     rw [List.append_assoc] at k2 k3 k4
     refine ⟨x :: xs,W++W2,T2,own2,h1.app k1,k2,h3.trans k3,⟨by simp [k4.1],fun j v' u' e1 e2=>?_⟩,?_,k6⟩
     ·cases j with
      | zero=>simp at e1 e2;subst e1 e2;exact k3.r0 _ _ h4
      | succ j=>simp at e1 e2;exact k4.2 j v' u' e1 e2
     ·intro y hy
      rcases List.mem_cons.1 hy with rfl | hy
      ·exact h5
      ·exact k5 y hy
theorem rv_r0 {v:AV} {u:Value} (h1:∀ l,v≠.agg l) (h2:∀ l,v≠.tup l):RV P G own w v u=R0 P G own w v u:=by
 cases v<;>first | rfl | exact absurd rfl (h1 _) | exact absurd rfl (h2 _)
theorem zgO {U:List Up} (hU:FrzOnly U) (s:St P nt (app U G) own a w) {v:AV} {u:Value} (hv:RV P (app U G) own w v u) {k:AV→List Up→RM} (h:(cp v k).wp CE G T K) :
 ∃ x W T' own',FrzOnly W∧St P nt (app (U++W) G) own' a w∧Kp P (app U G) own w (app (U++W) G) own' w∧RV P (app (U++W) G) own' w x u∧x.plain1=true∧(k x W).wp CE G T' K:=by
 have key:∀ {v:AV},(∀ l,v≠.agg l)→(∀ l,v≠.tup l)→RV P (app U G) own w v u→(cp1 v k).wp CE G T K→
  ∃ x W T' own',FrzOnly W∧St P nt (app (U++W) G) own' a w∧Kp P (app U G) own w (app (U++W) G) own' w∧RV P (app (U++W) G) own' w x u∧x.plain1=true∧(k x W).wp CE G T' K:=by
  intro v n1 n2 hv h
  rw [rv_r0 n1 n2] at hv
  obtain ⟨x,W,T1,own1,h1,h2,h3,h4,h5,h6,_⟩:=zdx hU s hv h
  refine ⟨x,W,T1,own1,h1,h2,h3,?_,?_,h6⟩
  ·rw [rv_r0];exact h4
   all_goals (intro l e;subst e;simp [AV.plain0] at h5)
  ·cases x<;>first | exact h5 | simp [AV.plain0] at h5
 cases v with
 | agg l=>
   obtain ⟨arr,rfl,e1,e2⟩:=hv
   obtain ⟨xs,W,T2,own2,k1,k2,k3,k4,k5,k6⟩:=zjl hU s (us:=arr.toList) ⟨by simpa using e1,fun j v u h1 h2=>e2 j v u h1 (by simpa using h2)⟩ h
   exact ⟨.agg xs,W,T2,own2,k1,k2,k3,⟨arr,rfl,by simpa using k4.1,fun j x v h1 h2=>k4.2 j x v h1 (by simpa using h2)⟩,by simpa [AV.plain1] using k5,k6⟩
 | tup l=>exact h.elim
 | _=>exact key (by simp) (by simp) hv h
theorem zdZ:∀ {vs:List AV} {U:List Up} (hU:FrzOnly U) {own:Own} (s:St P nt (app U G) own a w) {us:List Value} (hv:vs.length=us.length∧∀ (j:Nat) v u,vs[j]?=some v→us[j]?=some u→RV P (app U G) own w v u)
 {k:List AV→List Up→RM} {T:List Acc},(cps vs k).wp CE G T K→
 ∃ xs W T' own',FrzOnly W∧St P nt (app (U++W) G) own' a w∧Kp P (app U G) own w (app (U++W) G) own' w∧
   (xs.length=us.length∧∀ (j:Nat) v u,xs[j]?=some v→us[j]?=some u→RV P (app (U++W) G) own' w v u)∧(∀ x∈xs,x.plain1=true)∧(k xs W).wp CE G T' K
 | [],U,hU,own,s,us,hv,k,T,h=>by
   have:us=[]:=List.length_eq_zero_iff.1 (by have:=hv.1;simpa using this.symm)
   subst this
   exact ⟨[],[],T,own,FrzOnly.nil,by simpa using s,by simpa using Kp.refl _ _ _,⟨rfl,fun j v u h=>by simp at h⟩,fun x hx=>by simp at hx,h⟩
 | v :: r,U,hU,own,s,us,hv,k,T,h=>by
   obtain ⟨hlen,hv⟩:=hv
   cases us with
   | nil=>simp at hlen
   | cons u us=>
     obtain ⟨x,W,T1,own1,h1,h2,h3,h4,h5,h6⟩:=zgO hU s (hv 0 v u rfl rfl) h
     obtain ⟨xs,W2,T2,own2,k1,k2,k3,k4,k5,k6⟩:=zdZ (hU.app h1) h2 (us:=us) ⟨by simpa using hlen,fun j v' u' e1 e2=>h3.rv (hv (j+1) v' u' (by simpa using e1) (by simpa using e2))⟩ h6
     rw [List.append_assoc] at k2 k3 k4
     refine ⟨x :: xs,W++W2,T2,own2,h1.app k1,k2,h3.trans k3,⟨by simp [k4.1],fun j v' u' e1 e2=>?_⟩,?_,k6⟩
     ·cases j with
      | zero=>simp at e1 e2;subst e1 e2;exact k3.rv h4
      | succ j=>simp at e1 e2;exact k4.2 j v' u' e1 e2
     ·intro y hy
      rcases List.mem_cons.1 hy with rfl | hy
      ·exact h5
      ·exact k5 y hy
def Kn (P:Program) (nt:Nat) (G:Sta) (own:Own) (a:Act) (w:World) (next:Act→World→Prop) (U:List Up) (_:List Acc):Prop:=
 ∀ own' a' w',St P nt (app U G) own' a' w'→Tr own w own' w'→a'.defers=a.defers→next a' w'
theorem put_defers (a:Act) (d:Option Tmp) (u:Value):(a.put d u).defers=a.defers:=by cases d<;>rfl
theorem zM {c:Cfg} {own':Own} {w':World} {next:Act→World→Prop} {d:Option Tmp} {U:List Up} {v:AV} {u:Value} (s:St P c.nt (app U G) own' a w') (ht:Tr own w own' w')
 (hv:RV P (app U G) own' w' v u) (h:(fin c d U v).wp CE G T (Kn P c.nt G own a w next)):next (a.put d u) w':=by
 cases d with
 | none=>exact h own' a w' s ht rfl
 | some t=>
   simp only [fin] at h
   split at h
   ·rename_i hlt
    split at h
    ·rename_i hf
     exact h own' _ w' (by rw [zas];exact s.set_view hlt hv hf) ht rfl
    ·exact h.elim
   ·exact h.elim
end
end Go.Ev
namespace Go.Ev
open Go Go.RowKit
variable {P : Program}
section
variable {F : Fence} {n : Nat} {o : Oper} {a : Act} {w : World} {next : Act → World → Prop} {Q : Exit → Act → World → Prop}
theorem zeA (hF:∀ f,F.fn f) (hd:∀ c,o.op≠.defer c) (h:o.uponIn F n P a next Q ((execOp a.eval o).run P w)):o.wpIn F n P a w next Q:=
 ⟨fun f _=>hF f,by rw [Oper.semAt_eq _ _ _ hd];exact h⟩
theorem zI (hF:∀ f,F.fn f) (hd:∀ c,o.op≠.defer c) {u:Value} {w':World} (hr:(execOp a.eval o).run P w=.ok (.value u) w') (h:next (a.put o.dst u) w'):o.wpIn F n P a w next Q:=
 zeA hF hd (by rw [hr];exact h)
theorem zfc (hF:∀ f,F.fn f) (hd:∀ c,o.op≠.defer c) {w':World} (hr:(execOp a.eval o).run P w=.ok .skip w') (h:next (a.put o.dst undef) w'):o.wpIn F n P a w next Q:=
 zeA hF hd (by rw [hr];exact h)
end
theorem zgN (G:Sta) (b o:Nat):Dead ((Up.leaf b o .bad).app G) b o:=by
 intro E l h
 obtain ⟨_,v,hg,hv,_⟩:=zdq h
 simp only [Up.app,zaj,if_true] at hg
 cases hx:get (mapv (AV.map2 (killr b (some o))) G) b with
 | none=>rw [hx] at hg;cases hg
 | some x=>
   rw [hx] at hg;cases hg
   cases x with
   | agg m=>
     simp only [setLeaf,AV.leaves,AV.toLeaf,List.getElem?_set,if_true] at hv
     split at hv<;>cases hv
   | _=>
     all_goals
      cases o with
      | zero=>simp [setLeaf,AV.toLeaf,AV.leaves] at hv
      | succ o=>simp [setLeaf,AV.leaves] at hv
theorem dead_ln (G:Sta) (b o n:Nat):Dead ((Up.leaf b o (.ln n)).app G) b o:=by
 intro E l h
 obtain ⟨_,v,hg,hv,_⟩:=zdq h
 simp only [Up.app,zaj,if_true] at hg
 cases hx:get (mapv (AV.map2 (killr b (some o))) G) b with
 | none=>rw [hx] at hg;cases hg
 | some x=>
   rw [hx] at hg;cases hg
   cases x with
   | agg m=>
     simp only [setLeaf,AV.leaves,AV.toLeaf,List.getElem?_set,if_true] at hv
     split at hv<;>cases hv
   | _=>
     all_goals
      cases o with
      | zero=>simp [setLeaf,AV.toLeaf,AV.leaves] at hv
      | succ o=>simp [setLeaf,AV.leaves] at hv
section
variable {CE : CEx} {c : Cfg} {G : Sta} {own : Own} {a : Act} {w : World} {T : List Acc} {next : Act → World → Prop}
theorem zcX (s:St P c.nt G own a w) {d:Option Tmp} {b o:Nat} {E:TypeId} {l:List FV} {u:Value} (hv:OwnL P own w b o E l u)
 (h:(finOwn c d b o E l).wp CE G T (Kn P c.nt G own a w next)):next (a.put d u) w:=by
 cases d with
 | none=>exact h.elim
 | some t=>
   simp only [finOwn] at h
   split at h
   ·rename_i hlt
    obtain ⟨s1,_⟩:=s.bad b o
    obtain ⟨s2,ht⟩:=s1.set_move hlt (zgN G b o) hv
    exact h _ _ w s2 ht rfl
   ·exact h.elim
theorem own_sub {b o:Nat} {E:TypeId} {k:Nat} {l m:List FV} {cc:Nat} (h:OwnB P own w b o E k l cc) (hm:∀ (i:Nat) x,m[i]?=some x→l[i]?=some x):OwnB P own w b o E k m cc:=by
 obtain ⟨h1,arr,h2,h3,h4,h5⟩:=h
 refine ⟨h1,arr,h2,h3,fun x hx=>?_,fun i x j y e1 e2=>h5 i x j y (hm i x e1) e2⟩
 obtain ⟨i,hi⟩:=List.mem_iff_getElem?.1 hx
 exact h4 x (List.mem_of_getElem? (hm i x hi))
theorem zeE {b o n:Nat} {E:TypeId} {l:List FV} {u:Value} (hl:look G b (some o)=some (.own E l)) (h:SlV P G own w b o 0 n u):n≤l.length∧OwnL P own w b o E (l.take n) u:=by
 unfold SlV at h
 rw [hl] at h
 obtain ⟨h1,a,c,h2,h3,h4⟩:=h
 have hn:n≤l.length:=by omega
 have hlen:(l.take n).length=n:=by rw [List.length_take];omega
 refine ⟨hn,a,c,by rw [hlen];exact h2,by rw [hlen];exact h3,?_⟩
 rcases h4 with ⟨e1,e2,e3⟩ | ⟨k,e1,e2⟩
 ·exact .inl ⟨e1,by simp [e2],e3⟩
 ·refine .inr ⟨k,by simpa using e1,own_sub (by simpa using e2) ?_⟩
  intro i x hx
  rw [List.getElem?_take] at hx
  split at hx
  ·exact hx
  ·cases hx
variable {F : Fence} {n : Nat} {o : Oper} {Q : Exit → Act → World → Prop}
theorem op_move (hF:∀ f,F.fn f) (s:St P c.nt G own a w) {x:Operand} (ho:o.op=.move x) (h:(moveRM c o.dst x).wp CE G T (Kn P c.nt G own a w next)):o.wpIn F n P a w next Q:=by
 refine zI hF (by simp [ho]) (u:=a.eval x) (w':=w) (by simp [execOp,ho]) ?_
 have plain:(rdO x (fin c o.dst [])).wp CE G T (Kn P c.nt G own a w next)→next (a.put o.dst (a.eval x)) w:=by
  intro h
  obtain ⟨v,T',h1,h2⟩:=zJ s h
  exact zM (U:=[]) s (Tr.refl _ _) h1 h2
 unfold moveRM at h
 split at h
 ·rename_i t t' hd
  split at h
  ·obtain ⟨v,T',h1,h2⟩:=zaM h
   split at h2
   ·rename_i E l
    exact zcX s (show OwnL P own w (tb t) 0 E l _ from s.temp h1) h2
   ·exact zM (U:=[]) s (Tr.refl _ _) (RL.view (s.temp h1) h1) h2
  ·exact plain h
 ·exact plain h
theorem op_tk (hF:∀ f,F.fn f) (s:St P c.nt G own a w) {t:Tmp} (ho:o.op=.assign (.tmp t)) (h:(tkRM c o.dst t).wp CE G T (Kn P c.nt G own a w next)):o.wpIn F n P a w next Q:=by
 refine zI hF (by simp [ho]) (u:=a.eval (.tmp t)) (w':=w) (by simp [execOp,ho]) ?_
 obtain ⟨v,T',h1,h2⟩:=zaM h
 have hr:=s.temp h1
 split at h2
 ·rename_i b q j m
  obtain ⟨y,T2,h3,h4⟩:=zaM h2
  split at h4
  ·rename_i E z
   split at h4
   ·rename_i hcond
    obtain ⟨rfl,rfl⟩:=hcond
    have hown:=(zeE h3 hr).2
    rw [List.take_length] at hown
    exact zcX s hown h4
   ·exact h4.elim
  ·exact h4.elim
 ·exact h2.elim
theorem op_assign (hc:CfgOk P c) (hF:∀ f,F.fn f) (s:St P c.nt G own a w) {x:Operand} (ho:o.op=.assign x) (h:(asgRM c o.dst o.type x).wp CE G T (Kn P c.nt G own a w next)):o.wpIn F n P a w next Q:=by
 refine zI hF (by simp [ho]) (u:=a.eval x) (w':=w) (by simp [execOp,ho]) ?_
 unfold asgRM at h
 split at h
 ·split at h
  ·rename_i t _ _
   split at h
   ·rename_i hlt
    rw [show o.dst=some t from by assumption]
    have hb:∀ E,OwnL P own w (tb t) 0 E [] (a.eval (.const (.slice none 0 0))):=fun E=>⟨none,0,rfl,Nat.le_refl _,.inl ⟨rfl,rfl,rfl⟩⟩
    refine h own _ w ?_ (Tr.refl _ _) rfl
    exact s.set_pure hlt (hb _)
   ·exact h.elim
  ·exact h.elim
 ·rename_i t
  obtain ⟨v,T',h1,h2⟩:=zaM h
  have hr:=s.temp h1
  split at h2
  ·rename_i E l
   split at h2
   ·exact h2.elim
   ·exact zcX s (show OwnL P own w (tb t) 0 E l _ from hr) h2
  ·rename_i b o' i m
   have hrf:SlV P G own w b o' i m (a.eval (.tmp t)):=hr
   split at h2
   ·rename_i hcond
    obtain ⟨hd,rfl,rfl⟩:=hcond
    obtain ⟨y,T2,h3,h4⟩:=zaM h2
    split at h4
    ·rename_i E l
     exact zcX s (zeE h3 hrf).2 h4
    ·rename_i l
     refine zM (U:=[]) s (Tr.refl _ _) ?_ h4
     unfold SlV at hrf
     rw [h3] at hrf
     exact ⟨rfl,by simpa using hrf.2⟩
    ·exact h4.elim
   ·obtain ⟨v,W,T2,own2,k1,k2,k3,k4,k5,k6,_⟩:=zdx (U:=[]) FrzOnly.nil s (v:=.rf b o' i m) hrf h2
    simp only [List.nil_append] at k2 k3 k4
    refine zM k2 k3.tr ?_ k6
    rw [rv_r0];exact k4
    all_goals (intro l e;subst e;simp [AV.plain0] at k5)
  ·exact zM (U:=[]) s (Tr.refl _ _) (RL.view hr h1) h2
  ·obtain ⟨v',W,T2,own2,k1,k2,k3,k4,k5,k6⟩:=zgO (U:=[]) FrzOnly.nil s (RL.view hr h1) h2
   simp only [List.nil_append] at k2 k3 k4
   exact zM k2 k3.tr k4 k6
 ·obtain ⟨v,T',h1,h2⟩:=zJ s h
  exact zM (U:=[]) s (Tr.refl _ _) h1 h2
theorem zbt {v u:Value} (h:RV P G own w (.f (.pv v)) u):u=v:=by
 have h:RF own w (.pv v) u:=h.2
 cases h;rfl
theorem zaz {v:Value} (h:v.oneCell'=true):RV P G own w (.f (.pv v)) v:=⟨rfl,RF.pv v h⟩
theorem op_pick (hF:∀ f,F.fn f) (s:St P c.nt G own a w) {q x y:Operand} (ho:o.op=.pick q x y)
 (h:(rdO q fun v=>match v with
 | .f (.pv (.bool t))=>if t=true then rdO x (fin c o.dst []) else rdO y (fin c o.dst [])
 | _=>.fail).wp CE G T (Kn P c.nt G own a w next)):o.wpIn F n P a w next Q:=by
 obtain ⟨v,T',h1,h2⟩:=zJ s h
 split at h2
 ·rename_i t
  have hq:=zbt h1
  refine zI hF (by simp [ho]) (u:=if t then a.eval x else a.eval y) (w':=w) (by simp [execOp,ho,asBool,hq]) ?_
  split at h2
  ·rename_i ht;subst ht
   obtain ⟨v,T2,h3,h4⟩:=zJ s h2
   exact zM (U:=[]) s (Tr.refl _ _) h3 h4
  ·rename_i ht
   have:t=false:=by simpa using ht
   subst this
   obtain ⟨v,T2,h3,h4⟩:=zJ s h2
   exact zM (U:=[]) s (Tr.refl _ _) h3 h4
 ·exact h2.elim
theorem za3 {v:AV} {u:Value} (h:R0 P G own w v u) (hv:v.plain0=true):u.oneCell'=true:=by
 cases v with
 | f x=>
   obtain ⟨hx,h⟩:=h
   cases h with
   | pv _ hv'=>exact hv'
   | sl=>rfl
   | agg=>simp [FV.one] at hx
 | ptr b o=>obtain ⟨k,_,rfl⟩:=h;split<;>rfl
 | fp x o=>obtain ⟨k,p,rfl,_⟩:=h;rfl
 | clo g l=>obtain ⟨arr,rfl,_⟩:=h;rfl
 | _=>simp [AV.plain0] at hv
theorem zjX {own':Own} {w':World} {d:Option Tmp} {U:List Up} {v:AV} {arr:Array Value} {E:TypeId} (s:St P c.nt (app U G) own' a w') (ht:Tr own w own' w')
 (hz:∀ t,d=some t→RB P ((Up.newbox (xb t) v).app (app U G)) (ownBox own' w'.heap.size (xb t)) (w'.alloc (.cells arr E)) (xb t) v arr)
 (h:(newB c d U v).wp CE G T (Kn P c.nt G own a w next)):next (a.put d (.pointer (some ⟨w'.heap.size,0,none⟩))) (w'.alloc (.cells arr E)):=by
 cases d with
 | none=>exact h.elim
 | some t=>
   simp only [newB] at h
   split at h
   ·rename_i hlt
    split at h
    ·have s1:=s.newbox (b:=xb t) (by simp only [xb];omega) (ziX t) (hz t rfl)
     have s2:=s1.set_view (t:=t) hlt (v:=.ptr (xb t) 0) (u:=.pointer (some ⟨w'.heap.size,0,none⟩)) ⟨w'.heap.size,by simp [ownBox],by rw [ziX];rfl⟩ rfl
     refine h _ _ _ (by rw [zas];exact s2) (ht.trans ?_) rfl
     exact (s.newbox_keep (xb t) (by simp only [xb];omega) v arr E).tr
    ·exact h.elim
   ·exact h.elim
theorem zd4 {b p:Nat} {x:AV} {u:Value} (h:zeroLeaf x u):RO P G own w b p x u:=by
 unfold zeroLeaf at h
 split at h
 ·obtain ⟨rfl,h⟩:=h;exact ⟨rfl,RF.pv _ h⟩
 ·subst h;exact ⟨none,0,rfl,Nat.le_refl _,.inl ⟨rfl,rfl,rfl⟩⟩
 ·exact h.elim
theorem zd5 {b:Nat} {z:AV} {zv:Value} (h:zeroFits z zv):RB P G own w b z zv.cells:=by
 unfold zeroFits at h
 split at h
 ·obtain ⟨arr,rfl,h1,h2⟩:=h
  exact ⟨h1,fun j x u e1 e2=>zd4 (h2 j x u e1 e2)⟩
 ·rename_i hn
  have hl:z.leaves=[z]:=by cases z<;>first | rfl | exact absurd rfl (hn _)
  have hu:zv.cells=#[zv]:=by
   unfold zeroLeaf at h
   split at h
   ·obtain ⟨rfl,h⟩:=h
    cases zv<;>first | rfl | simp [Value.oneCell'] at h
   ·subst h;rfl
   ·exact h.elim
  refine ⟨by rw [hl,hu];rfl,fun j x u e1 e2=>?_⟩
  rw [hl] at e1;rw [hu] at e2
  cases j with
  | zero=>simp at e1 e2;subst e1 e2;exact zd4 h
  | succ j=>simp at e1
theorem op_alloc (hc:CfgOk P c) (hF:∀ f,F.fn f) (s:St P c.nt G own a w) {E:TypeId} (ho:o.op=.alloc E)
 (h:(match c.ti E with
 | some { zero:=some z,.. }=>newB c o.dst [] z
 | _=>.fail:RM).wp CE G T (Kn P c.nt G own a w next)):o.wpIn F n P a w next Q:=by
 split at h
 ·rename_i D sz by_ z hti
  obtain ⟨zv,h1,h2⟩:=(hc E _ hti).run_zero w rfl
  refine zI hF (by simp [ho]) (u:=.pointer (some ⟨w.heap.size,0,none⟩)) (w':=w.alloc (.cells zv.cells E)) ?_ ?_
  ·simp [execOp,ho,Instr.alloc,h1,newVar,newRow]
  ·exact zjX (U:=[]) (G:=G) s (Tr.refl _ _) (fun t _=>zd5 h2) h
 ·exact h.elim
theorem cells_of_rv {v:AV} {u:Value} (h:RV P G own w v u) (hp:v.plain1=true):v.leaves.length=u.cells.size∧∀ (j:Nat) x y,v.leaves[j]?=some x→u.cells[j]?=some y→R0 P G own w x y:=by
 have key:∀ v:AV,(∀ l,v≠.agg l)→v.plain0=true→R0 P G own w v u→v.leaves.length=u.cells.size∧∀ (j:Nat) x y,v.leaves[j]?=some x→u.cells[j]?=some y→R0 P G own w x y:=by
  intro v hv h0 h
  have e1:v.leaves=[v]:=by cases v<;>first | rfl | exact absurd rfl (hv _)
  have h2:=za3 h h0
  have e2:u.cells=#[u]:=by cases u<;>first | rfl | simp [Value.oneCell'] at h2
  rw [e1,e2]
  refine ⟨rfl,fun j x y a1 a2=>?_⟩
  cases j with
  | zero=>simp at a1 a2;subst a1 a2;exact h
  | succ j=>simp at a1
 cases v with
 | agg l=>obtain ⟨arr,rfl,h1,h2⟩:=h;exact ⟨h1,h2⟩
 | _=>first | exact key _ (by simp) hp h | simp [AV.plain1,AV.plain0] at hp
theorem op_box (hF:∀ f,F.fn f) (s:St P c.nt G own a w) {E:TypeId} {x:Operand} (ho:o.op=.box E x)
 (h:(rdO x fun v=>cp v fun v U=>newB c o.dst U v).wp CE G T (Kn P c.nt G own a w next)):o.wpIn F n P a w next Q:=by
 obtain ⟨v,T1,h1,h2⟩:=zJ s h
 obtain ⟨v',W,T2,own2,k1,k2,k3,k4,k5,k6⟩:=zgO (U:=[]) FrzOnly.nil s h1 h2
 simp only [List.nil_append] at k2 k3 k4
 refine zI hF (by simp [ho]) (u:=.pointer (some ⟨w.heap.size,0,none⟩)) (w':=w.alloc (.cells (a.eval x).cells E)) ?_ ?_
 ·simp [execOp,ho,Instr.box,newVar,newRow]
 ·refine zjX k2 k3.tr (fun t hd=>?_) k6
  have hc:=cells_of_rv k4 k5
  have hfree:∀ y∈v'.leaves,killb (xb t) y=y:=by
   have hch:v'.refs.all (fun a=>!a.meets (.all (xb t)) && !a.meets (.id (xb t)))=true:=by
    rw [hd] at k6
    simp only [newB] at k6
    split at k6
    ·split at k6
     ·assumption
     ·exact k6.elim
    ·exact k6.elim
   have hk2:=zcH (u:=.newbox (xb t) v') (v:=v') (fun x hx y hy=>by
    have:=List.all_eq_true.1 hch x hx
    simp only [Bool.and_eq_true,Bool.not_eq_true'] at this
    simp only [Up.writes,List.mem_cons,List.not_mem_nil,or_false] at hy
    rcases hy with rfl | rfl
    ·exact this.1
    ·exact this.2)
   have hk2:AV.map2 (killb (xb t)) v'=v':=hk2
   have hl:=(zee (kl_killb (xb t)) (x:=v') (by
    cases v' with
    | agg l=>exact .inl ⟨l,rfl⟩
    | tup l=>simp [AV.plain1,AV.plain0] at k5
    | _=>exact .inr rfl)).1
   rw [hk2] at hl
   intro y hy
   obtain ⟨j,hj⟩:=List.mem_iff_getElem?.1 hy
   have:=congrArg (fun l=>l[j]?) hl
   simp only [List.getElem?_map,hj,Option.map_some] at this
   exact (Option.some.inj this).symm
  refine ⟨hc.1,fun j y u e1 e2=>?_⟩
  have hr:=hc.2 j y u e1 e2
  have:=R0.keep (k2.newbox_keep (xb t) (by simp only [xb];omega) v' (a.eval x).cells E) hr
  rw [hfree y (List.mem_of_getElem? e1)] at this
  cases y with
  | own E l=>exact this.elim
  | _=>exact this
theorem zeF {y:AV} {l:List FV} (h:sliceOf y=some l):(∃ E,y=.own E l)∨y=.f (.sl l):=by
 cases y with
 | own E m=>simp [sliceOf] at h;subst h;exact .inl ⟨E,rfl⟩
 | f x=>cases x<;>simp [sliceOf] at h;subst h;exact .inr rfl
 | _=>simp [sliceOf] at h
theorem rf_shape {l:List FV} {u:Value} (h:RF own w (.sl l) u):∃ a c,u=.slice a l.length c∧l.length≤c:=by
 cases h with
 | sl l a n c ad sz hn hc=>subst hn;exact ⟨a,c,rfl,hc⟩
theorem zhb {v:AV} {u:Value} {k:RM} {K:List Up→List Acc→Prop} (hv:R0 P G own w v u) (h:(seen v k).wp CE G T K) :
 ∃ T',k.wp CE G T' K∧(∀ b o i n,v=.rf b o i n→∃ l,(∃ E,look G b (some o)=some (.own E l)∨look G b (some o)=some (.f (.sl l)))∧i+n≤l.length∧∃ a c,u=.slice a n c∧n≤c)∧
   (∀ b o i n,v=.ep b o i n→∃ ad,u=.pointer (some ad)):=by
 cases v with
 | rf b o i n=>
   obtain ⟨y,T1,h1,h2⟩:=zaM h
   split at h2
   ·rename_i l hl
    refine ⟨T1,h2,?_,(by intros;rename_i e;cases e)⟩
    rintro _ _ _ _ ⟨⟩
    have hs:SlV P G own w b o i n u:=hv
    unfold SlV at hs
    rw [h1] at hs
    rcases zeF hl with ⟨E,rfl⟩ | rfl
    ·obtain ⟨e1,a,c,e2,e3,_⟩:=hs
     exact ⟨l,⟨E,.inl h1⟩,e1,a,c,e2,e3⟩
    ·obtain ⟨a,c,e2,e3⟩:=rf_shape hs.2
     have hlen:((l.drop i).take n).length=n:=by rw [List.length_take,List.length_drop];have:=hs.1;omega
     rw [hlen] at e2 e3
     exact ⟨l,⟨0,.inr h1⟩,hs.1,a,c,e2,e3⟩
   ·exact h2.elim
 | ep b o i n=>
   obtain ⟨y,T1,h1,h2⟩:=zaM h
   split at h2
   ·rename_i l hl
    refine ⟨T1,h2,(by intros;rename_i e;cases e),?_⟩
    rintro _ _ _ _ ⟨⟩
    have hs:EpV P G own w b o i n u:=hv
    unfold EpV at hs
    rw [h1] at hs
    rcases zeF hl with ⟨E,rfl⟩ | rfl
    ·obtain ⟨_,k,cap,e2,_⟩:=hs;exact ⟨_,e2⟩
    ·obtain ⟨x,_,k,p,e2,_⟩:=hs;exact ⟨_,e2⟩
   ·exact h2.elim
 | _=>exact ⟨T,h,by (intros;rename_i e;cases e),by (intros;rename_i e;cases e)⟩
theorem op_nilCheck (hF:∀ f,F.fn f) (s:St P c.nt G own a w) {x:Operand} (ho:o.op=.nilCheck x)
 (h:(rdO x fun v=>match v with
 | .ptr b n=>match isM b with
   | true=>.fail
   | false=>fin c o.dst [] (.ptr b n)
 | .fp x n=>fin c o.dst [] (.fp x n)
 | .ep b n i k=>seen (.ep b n i k) (fin c o.dst [] (.ep b n i k))
 | .clo g caps=>fin c o.dst [] (.clo g caps)
 | _=>.fail).wp CE G T (Kn P c.nt G own a w next)):o.wpIn F n P a w next Q:=by
 obtain ⟨v,T',h1,h2⟩:=zJ s h
 have go:∀ {T'},(∀ w,(execOp a.eval o).run P w=.ok (.value (a.eval x)) w)→(fin c o.dst [] v).wp CE G T' (Kn P c.nt G own a w next)→o.wpIn F n P a w next Q:=
  fun hr h2=>zI hF (by simp [ho]) (hr w) (zM (U:=[]) s (Tr.refl _ _) h1 h2)
 split at h2
 ·split at h2
  ·exact h2.elim
  ·rename_i hm
   obtain ⟨k,_,hu⟩:=RC.ptr (w:=w) h1 hm
   exact go (fun w=>by simp [execOp,ho,hu]) h2
 ·obtain ⟨k,p,hu,_⟩:=h1
  exact go (fun w=>by simp [execOp,ho,hu]) h2
 ·rename_i b q i k
  obtain ⟨T2,h3,_,h4⟩:=zhb (v:=.ep b q i k) h1 h2
  obtain ⟨ad,hu⟩:=h4 _ _ _ _ rfl
  exact go (fun w=>by simp [execOp,ho,hu]) h3
 ·obtain ⟨arr,hu,_⟩:=h1
  exact go (fun w=>by simp [execOp,ho,hu]) h2
 ·exact h2.elim
theorem op_makeFunc (hF:∀ f,F.fn f) (s:St P c.nt G own a w) {g:FuncId} {first caps:Array Operand} (ho:o.op=.makeFunc (.func g) first caps)
 (h:(if first.size=0 then rdL caps.toList fun l=>if l.all AV.cap=true then fin c o.dst [] (.clo g l) else .fail else .fail:RM).wp CE G T (Kn P c.nt G own a w next)):o.wpIn F n P a w next Q:=by
 split at h
 ·rename_i hf
  have hf:first=#[]:=by simpa using hf
  obtain ⟨vs,T',h1,h2,h3⟩:=zdQ s h
  split at h3
  ·rename_i hall
   refine zI hF (by simp [ho]) (u:=.func (.func g) #[] (caps.map a.eval)) (w':=w) (by simp [execOp,ho,Instr.makeFunc,hf]) ?_
   refine zM (U:=[]) s (Tr.refl _ _) (v:=.clo g vs) ?_ h3
   show R0 P G own w (.clo g vs) _
   refine ⟨_,rfl,by simpa using h1,fun j x v e1 e2=>?_⟩
   rw [Array.getElem?_map] at e2
   cases hx:caps[j]? with
   | none=>rw [hx] at e2;cases e2
   | some y=>
     rw [hx] at e2;cases e2
     have:=h2 j x y e1 (by simpa using hx)
     have hc:=List.all_eq_true.1 hall x (List.mem_of_getElem? e1)
     cases x with
     | f x=>exact this
     | ptr b q=>exact this
     | fp x q=>exact this
     | _=>simp [AV.cap] at hc
  ·exact h3.elim
 ·exact h.elim
theorem run_intOp {op:BinOp} {k:IntKind} {x y:Int} {v:Value} (hs:isShift op=false) (h:intOp op k x y=some v) (t:TypeId):(binOp op t (.int k x) (.int k y)).run P w=.ok v w∧v.oneCell'=true:=by
 cases op<;>simp [isShift] at hs<;>simp [intOp] at h
 all_goals first
  | (subst h;simp [binOp,Op.intArith,Op.intBits,Op.intCmp,Value.oneCell'])
  | (obtain ⟨h0,h⟩:=h;subst h;simp [binOp,Op.intDiv,h0,Value.oneCell'])
theorem run_shiftOp {op:BinOp} {k k':IntKind} {x y:Int} {v:Value} (h:shiftOp op k x y=some v) (t:TypeId):(binOp op t (.int k x) (.int k' y)).run P w=.ok v w∧v.oneCell'=true:=by
 unfold shiftOp at h
 split at h
 ·cases h
 ·rename_i hy
  cases op<;>simp at h
  all_goals (subst h;simp [binOp,Op.shift,hy,Value.oneCell'])
theorem run_strOp {op:BinOp} {x y:ByteArray} {v:Value} (h:strOp op x y=some v) (t:TypeId):(binOp op t (.string x) (.string y)).run P w=.ok v w∧v.oneCell'=true:=by
 cases op<;>simp [strOp] at h
 all_goals first
  | (subst h;simp [binOp,Op.stringOp,Value.oneCell'])
  | (obtain ⟨h0,h⟩:=h;subst h;simp [binOp,Op.stringOp,Value.oneCell'];omega)
theorem zhE (hc:CfgOk P c) {E:TypeId} {k:IntKind} {sz by_:Nat} {z:Option AV} (hE:c.ti E=some ⟨.int k,1,by_,z⟩) {xs ys:Array Value}:∀ (l m:List AV) (st:Nat) (r:Bool),sameInts l m=some r→
 (∀ (j:Nat) x v,l[j]?=some x→xs[st+j]?=some v→R0 P G own w x v)→(∀ (j:Nat) x v,m[j]?=some x→ys[st+j]?=some v→R0 P G own w x v)→st+l.length≤xs.size→st+m.length≤ys.size→
 (Op.eqItems 9999 E 1 xs ys (List.range' st l.length)).run P w=.ok r w
 | [],[],st,r,h,_,_,_,_=>by simp [sameInts] at h;subst h;simp [Op.eqItems]
 | .f (.pv (.int k1 p)) :: l,.f (.pv (.int k2 q)) :: m,st,r,h,hx,hy,hsx,hsy=>by
   simp only [sameInts] at h
   split at h
   ·rename_i hk
    cases hr:sameInts l m with
    | none=>rw [hr] at h;cases h
    | some r'=>
      rw [hr] at h;cases h
      simp only [List.length_cons] at hsx hsy
      obtain ⟨u,hu⟩:∃ u,xs[st]?=some u:=⟨xs[st]'(by omega),by simp⟩
      obtain ⟨u',hu'⟩:∃ u,ys[st]?=some u:=⟨ys[st]'(by omega),by simp⟩
      have e1:=zbt (P:=P) (G:=G) (hx 0 _ u rfl (by simpa using hu));subst e1
      have e2:=zbt (P:=P) (G:=G) (hy 0 _ u' rfl (by simpa using hu'));subst e2
      have ih:=zhE hc (sz:=sz) hE l m (st+1) r' hr (fun j x v a b=>hx (j+1) x v (by simpa using a) (by rw [show st+(j+1)=st+1+j by omega];exact b))
       (fun j x v a b=>hy (j+1) x v (by simpa using a) (by rw [show st+(j+1)=st+1+j by omega];exact b)) (by omega) (by omega)
      have ha:=(hc E _ hE).run_agg w
      simp only [isAggD] at ha
      have hp:∀ {zs:Array Value} {v},zs[st]?=some v→(part E zs (st * 1)).run P w=.ok v w:=by
       intro zs v hz
       simp [part,ha,hz]
      have he:=run_equalIn_int (P:=P) w 9998 E k1 k p q (hc E _ hE).und
      subst hk
      simp only [List.length_cons,List.range'_succ,Op.eqItems,Sem.run_bind,hp hu,hp hu',he,Result.andThen_ok]
      by_cases hpq:(p == q)=true
      ·simp only [hpq,Bool.not_true,Bool.false_eq_true,if_false,Bool.true_and];exact ih
      ·have:(p == q)=false:=by simpa using hpq
       simp [this]
   ·cases h
theorem zhF:∀ {l m:List AV} {r:Bool},sameInts l m=some r→l.length=m.length
 | [],[],_,_=>rfl
 | x :: l,y :: m,r,h=>by
   unfold sameInts at h
   split at h
   ·simp_all
   ·rename_i a1 a2
    injection a1 with _ a1;injection a2 with _ a2;subst a1 a2
    split at h
    ·cases hq:sameInts l m with
     | none=>rw [hq] at h;cases h
     | some r'=>simp [zhF hq]
    ·cases h
   ·cases h
 | [],y :: m,r,h=>by simp [sameInts] at h
 | x :: l,[],r,h=>by unfold sameInts at h;split at h<;>simp_all
theorem sameLeaf_run (hc:CfgOk P c) {E:TypeId} {x y:AV} {u v:Value} {r:Bool} (h:sameLeaf c E x y=some r) (hx:R0 P G own w x u) (hy:R0 P G own w y v) :
 (Op.equalIn 9999 E u v).run P w=.ok r w∧∃ D,P.underlying E=some D∧isAggD D=false:=by
 unfold sameLeaf at h
 split at h
 ·have e1:=zbt (P:=P) (G:=G) hx;have e2:=zbt (P:=P) (G:=G) hy;subst e1 e2
  split at h
  ·rename_i hE
   split at h
   ·rename_i hk;subst hk;cases h
    exact ⟨run_equalIn_int (P:=P) w 9998 E _ _ _ _ (hc E _ hE).und,_,(hc E _ hE).und,rfl⟩
   ·cases h
  ·cases h
 ·have e1:=zbt (P:=P) (G:=G) hx;have e2:=zbt (P:=P) (G:=G) hy;subst e1 e2
  split at h
  ·rename_i hE
   cases h
   exact ⟨Go.run_equalIn_string (P:=P) w 9998 E _ _ (hc E _ hE).und,_,(hc E _ hE).und,rfl⟩
  ·cases h
 ·have e1:=zbt (P:=P) (G:=G) hx;have e2:=zbt (P:=P) (G:=G) hy;subst e1 e2
  split at h
  ·rename_i hE
   cases h
   exact ⟨run_equalIn_bool' (P:=P) w 9998 E _ _ (hc E _ hE).und,_,(hc E _ hE).und,rfl⟩
  ·cases h
 ·cases h
theorem zjO (hc:CfgOk P c) {xs ys:Array Value}:∀ (fs:List Field) (l m:List AV) (i:Nat) (r:Bool),sameFs c fs i l m=some r→(∀ f∈fs,(f.name != "_")=true)→
 (∀ (j:Nat) x v,l[j]?=some x→xs[i+j]?=some v→R0 P G own w x v)→(∀ (j:Nat) x v,m[j]?=some x→ys[i+j]?=some v→R0 P G own w x v)→i+l.length≤xs.size→i+m.length≤ys.size→
 (Op.eqFields 9999 xs ys fs).run P w=.ok r w
 | [],[],[],i,r,h,_,_,_,_,_=>by simp [sameFs] at h;subst h;simp [Op.eqFields]
 | f :: fs,x :: l,y :: m,i,r,h,hn,hx,hy,hsx,hsy=>by
   simp only [sameFs] at h
   split at h
   ·rename_i ho
    split at h
    ·rename_i p q h1 h2
     cases h
     simp only [List.length_cons] at hsx hsy
     obtain ⟨u,hu⟩:∃ u,xs[i]?=some u:=⟨xs[i]'(by omega),by simp⟩
     obtain ⟨u',hu'⟩:∃ u,ys[i]?=some u:=⟨ys[i]'(by omega),by simp⟩
     obtain ⟨e1,D,e2,e3⟩:=sameLeaf_run (G:=G) (own:=own) hc h1 (hx 0 x u rfl (by simpa using hu)) (hy 0 y u' rfl (by simpa using hu'))
     have ih:=zjO hc fs l m (i+1) q h2 (fun g hg=>hn g (List.mem_cons_of_mem _ hg)) (fun j x v a b=>hx (j+1) x v (by simpa using a) (by rw [show i+(j+1)=i+1+j by omega];exact b))
      (fun j x v a b=>hy (j+1) x v (by simpa using a) (by rw [show i+(j+1)=i+1+j by omega];exact b)) (by omega) (by omega)
     have ha:(isAgg f.type).run P w=.ok false w:=by
      simp only [isAgg,Sem.run_bind,run_underlying e2,Result.andThen_ok]
      rw [← e3];cases D<;>rfl
     have hp:∀ {zs:Array Value} {v},zs[i]?=some v→(part f.type zs f.offset).run P w=.ok v w:=by
      intro zs v hz
      rw [ho]
      simp [part,ha,hz]
     have hnm:f.name≠ "_":=by simpa using hn f (List.mem_cons_self ..)
     simp only [Op.eqFields,hnm,ne_eq,not_false_eq_true,if_true,Sem.run_bind,hp hu,hp hu',e1,Result.andThen_ok]
     cases p
     ·simp
     ·simpa using ih
    ·cases h
   ·cases h
 | [],[],_ :: _,_,_,h,_,_,_,_,_=>by simp [sameFs] at h
 | [],_ :: _,_,_,_,h,_,_,_,_,_=>by simp [sameFs] at h
 | _ :: _,[],_,_,_,h,_,_,_,_,_=>by simp [sameFs] at h
 | _ :: _,_ :: _,[],_,_,h,_,_,_,_,_=>by simp [sameFs] at h
theorem zjP:∀ {fs:List Field} {i:Nat} {l m:List AV} {r:Bool},sameFs c fs i l m=some r→l.length=m.length
 | [],_,[],[],_,_=>rfl
 | f :: fs,i,x :: l,y :: m,r,h=>by
   simp only [sameFs] at h
   split at h
   ·split at h
    ·rename_i h2;simp [zjP h2]
    ·cases h
   ·cases h
 | [],_,[],_ :: _,_,h=>by simp [sameFs] at h
 | [],_,_ :: _,_,_,h=>by simp [sameFs] at h
 | _ :: _,_,[],_,_,h=>by simp [sameFs] at h
 | _ :: _,_,_ :: _,[],_,h=>by simp [sameFs] at h
variable (P) in
def EqsOk (c:Cfg):Prop:=∀ t,c.eqT t=true→P.stoodInHeld t=false∧P.eqGuardType P.depth t=false∧(P.fieldsOf t).toList.all (fun f=>f.name != "_")=true
theorem binAV_sound (hc:CfgOk P c) (hq:EqsOk P c) {op:BinOp} {t:TypeId} {X Y:Operand} {x y z:AV} {u v:Value} (h:binAV c op t x y=some z) (hx:RV P G own w x u) (hy:RV P G own w y v) :
 ∃ r,(do eqGuard op t X Y u v;binOp op t u v:Sem Value).run P w=.ok r w∧RV P G own w z r:=by
 have guard0:∀ {u v:Value},(∀ a,u≠.agg a)→(u≠.nilIface)→(eqGuard op t X Y u v).run P w=.ok () w:=by
  intro u v h1 h2
  cases op<;>first | rfl | (cases u<;>first | rfl | exact absurd rfl h2 | exact absurd rfl (h1 _))
 unfold binAV at h
 split at h
 ·rename_i k p k' q
  have e1:=zbt hx;have e2:=zbt hy;subst e1 e2
  split at h
  ·rename_i hs
   cases hr:shiftOp op k p q with
   | none=>rw [hr] at h;cases h
   | some r=>
     rw [hr] at h;cases h
     obtain ⟨h1,h2⟩:=run_shiftOp (P:=P) (w:=w) (k':=k') hr t
     exact ⟨r,by simp [guard0,h1],zaz h2⟩
  ·rename_i hs
   split at h
   ·rename_i hk;subst hk
    cases hr:intOp op k p q with
    | none=>rw [hr] at h;cases h
    | some r=>
      rw [hr] at h;cases h
      obtain ⟨h1,h2⟩:=run_intOp (P:=P) (w:=w) (by simpa using hs) hr t
      exact ⟨r,by simp [guard0,h1],zaz h2⟩
   ·cases h
 ·rename_i p q
  have e1:=zbt hx;have e2:=zbt hy;subst e1 e2
  cases hr:strOp op p q with
  | none=>rw [hr] at h;cases h
  | some r=>
    rw [hr] at h;cases h
    obtain ⟨h1,h2⟩:=run_strOp (P:=P) (w:=w) hr t
    exact ⟨r,by simp [guard0,h1],zaz h2⟩
 ·rename_i p q
  have e1:=zbt hx;have e2:=zbt hy;subst e1 e2
  split at h
  ·rename_i hti
   cases h
   have:=run_equalIn_bool' (P:=P) w 9999 t p q (hc t _ hti).und
   exact ⟨_,by simp [guard0,binOp,Op.equal,Op.maxDepth,this],zaz rfl⟩
  ·rename_i hti
   cases h
   have:=run_equalIn_bool' (P:=P) w 9999 t p q (hc t _ hti).und
   exact ⟨_,by simp [guard0,binOp,Op.equal,Op.maxDepth,this],zaz rfl⟩
  ·cases h
 ·rename_i l m
  obtain ⟨xs,rfl,h1,h2⟩:=hx
  obtain ⟨ys,rfl,h3,h4⟩:=hy
  have run:∀ {N E D by_ zz k},c.ti t=some ⟨.array N E,D,by_,zz⟩→(∀ {s1 z1},c.ti E=some ⟨.int k,1,s1,z1⟩→l.length=N→∀ r,sameInts l m=some r→
   (eqGuard op t X Y (.agg xs) (.agg ys)).run P w=.ok () w∧(Op.equalIn 10000 t (.agg xs) (.agg ys)).run P w=.ok r w):=by
   intro N E D by_ zz k hti s1 z1 hE hN r hr
   have hg:P.eqGuardType P.depth t=false:=by
    unfold Program.depth
    simp only [Program.eqGuardType,(hc t _ hti).und]
    cases hd:2 * (P.types.size+Made.depth)+1 with
    | zero=>omega
    | succ d=>simp only [Program.eqGuardType,(hc E _ hE).und]
   obtain ⟨f,hf,_⟩:=(hc E _ hE).info
   refine ⟨run_eqGuard_agg w op t X Y xs ys hg,?_⟩
   rw [run_equalIn_array w 9999 xs ys (hc t _ hti).und hf,(hc E _ hE).cells,List.range_eq_range',← hN]
   have hlm:=zhF hr
   exact zhE (G:=G) (own:=own) hc (sz:=0) hE l m 0 r hr (fun j x v a b=>h2 j x v a (by simpa using b)) (fun j x v a b=>h4 j x v a (by simpa using b)) (by omega) (by omega)
  have runS:∀ {fs D by_ zz},c.ti t=some ⟨.struct fs,D,by_,zz⟩→c.eqT t=true→∀ r,sameFs c fs.toList 0 l m=some r→
   (eqGuard op t X Y (.agg xs) (.agg ys)).run P w=.ok () w∧(Op.equalIn 10000 t (.agg xs) (.agg ys)).run P w=.ok r w:=by
   intro fs D by_ zz hti he r hr
   obtain ⟨q1,q2,q3⟩:=hq t he
   have hu:=(hc t _ hti).und
   have hfs:P.fieldsOf t=fs:=by simp only [Program.fieldsOf,hu]
   refine ⟨run_eqGuard_agg w op t X Y xs ys q2,?_⟩
   rw [run_equalIn_struct w 9999 t xs ys (by rw [hfs];exact hu) q1,hfs]
   rw [hfs] at q3
   exact zjO (G:=G) (own:=own) hc fs.toList l m 0 r hr (fun f hf=>List.all_eq_true.1 q3 f hf) (fun j x v a b=>h2 j x v a (by simpa using b)) (fun j x v a b=>h4 j x v a (by simpa using b)) (by omega) (by have:=zjP hr;omega)
  split at h
  ·rename_i N E D by_ zz hti
   split at h
   ·rename_i k s1 z1 hE
    split at h
    ·rename_i hN
     cases hr:sameInts l m with
     | none=>rw [hr] at h;cases h
     | some r=>
       rw [hr] at h;cases h
       obtain ⟨r1,r2⟩:=run hti hE hN r hr
       exact ⟨_,by rw [Sem.run_bind,r1,Result.andThen_ok,run_eql_struct,r2,Result.andThen_ok],zaz rfl⟩
    ·cases h
   ·cases h
  ·rename_i N E D by_ zz hti
   split at h
   ·rename_i k s1 z1 hE
    split at h
    ·rename_i hN
     cases hr:sameInts l m with
     | none=>rw [hr] at h;cases h
     | some r=>
       rw [hr] at h;cases h
       obtain ⟨r1,r2⟩:=run hti hE hN r hr
       exact ⟨_,by rw [Sem.run_bind,r1,Result.andThen_ok,run_neq_struct,r2,Result.andThen_ok],zaz rfl⟩
    ·cases h
   ·cases h
  ·rename_i fs D by_ zz hti
   split at h
   ·rename_i he
    cases hr:sameFs c fs.toList 0 l m with
    | none=>rw [hr] at h;cases h
    | some r=>
      rw [hr] at h;cases h
      obtain ⟨r1,r2⟩:=runS hti he r hr
      exact ⟨_,by rw [Sem.run_bind,r1,Result.andThen_ok,run_eql_struct,r2,Result.andThen_ok],zaz rfl⟩
   ·cases h
  ·rename_i fs D by_ zz hti
   split at h
   ·rename_i he
    cases hr:sameFs c fs.toList 0 l m with
    | none=>rw [hr] at h;cases h
    | some r=>
      rw [hr] at h;cases h
      obtain ⟨r1,r2⟩:=runS hti he r hr
      exact ⟨_,by rw [Sem.run_bind,r1,Result.andThen_ok,run_neq_struct,r2,Result.andThen_ok],zaz rfl⟩
   ·cases h
  ·cases h
 ·cases h
theorem op_binOp (hc:CfgOk P c) (hq:EqsOk P c) (hF:∀ f,F.fn f) (s:St P c.nt G own a w) {op:BinOp} {t t':TypeId} {x y:Operand} (ho:o.op=.binOp op t x y t')
 (h:(rdO x fun p=>rdO y fun q=>optRM c o.dst (binAV c op t p q)).wp CE G T (Kn P c.nt G own a w next)):o.wpIn F n P a w next Q:=by
 obtain ⟨v,T1,h1,h2⟩:=zJ s h
 obtain ⟨v',T2,h3,h4⟩:=zJ s h2
 cases hb:binAV c op t v v' with
 | none=>rw [hb] at h4;exact h4.elim
 | some z=>
   rw [hb] at h4
   obtain ⟨r,hr,hz⟩:=binAV_sound (X:=x) (Y:=y) hc hq hb h1 h3
   refine zI hF (by simp [ho]) (u:=r) (w':=w) ?_ (zM (U:=[]) s (Tr.refl _ _) hz h4)
   simp only [execOp,ho]
   rw [Sem.run_bind,hr];rfl
end
end Go.Ev
namespace Go.Ev
open Go Go.RowKit
variable {P : Program}
section
variable {CE : CEx} {c : Cfg} {G : Sta} {own : Own} {a : Act} {w : World} {T : List Acc} {next : Act → World → Prop}
variable {F : Fence} {n : Nat} {o : Oper} {Q : Exit → Act → World → Prop}
theorem op_unOp (hF:∀ f,F.fn f) (s:St P c.nt G own a w) {op:UnOp} {t:TypeId} {x:Operand} (ho:o.op=.unOp op t x)
 (h:(rdO x fun p=>optRM c o.dst (unAV op p)).wp CE G T (Kn P c.nt G own a w next)):o.wpIn F n P a w next Q:=by
 obtain ⟨v,T1,h1,h2⟩:=zJ s h
 cases hb:unAV op v with
 | none=>rw [hb] at h2;exact h2.elim
 | some z=>
   rw [hb] at h2
   have key:∀ {r},(Op.unary op (a.eval x)).run P w=.ok r w→RV P G own w z r→o.wpIn F n P a w next Q:=by
    intro r hr hz
    refine zI hF (by simp [ho]) (u:=r) (w':=w) ?_ (zM (U:=[]) s (Tr.refl _ _) hz h2)
    simp only [execOp,ho];rw [Sem.run_bind,hr];rfl
   unfold unAV at hb
   split at hb
   ·have:=zbt h1;cases hb;exact key (r:=_) (by rw [this];simp [Op.unary,Op.intArith]) (zaz rfl)
   ·have:=zbt h1;cases hb;exact key (r:=_) (by rw [this];simp [Op.unary]) (zaz rfl)
   ·rename_i k m
    have:=zbt h1
    simp only [intOp,Option.map_some,Option.some.injEq] at hb
    subst hb;exact key (r:=_) (by rw [this];simp [Op.unary,Op.intBits]) (zaz rfl)
   ·cases hb
theorem op_convert (hc:CfgOk P c) (hF:∀ f,F.fn f) (s:St P c.nt G own a w) {t t':TypeId} {x:Operand} (ho:o.op=.convert t t' x)
 (h:(rdO x fun p=>optRM c o.dst (convAV c t t' p)).wp CE G T (Kn P c.nt G own a w next)):o.wpIn F n P a w next Q:=by
 obtain ⟨v,T1,h1,h2⟩:=zJ s h
 cases hb:convAV c t t' v with
 | none=>rw [hb] at h2;exact h2.elim
 | some z=>
   rw [hb] at h2
   have key:∀ {r},(convert t t' (a.eval x)).run P w=.ok r w→RV P G own w z r→o.wpIn F n P a w next Q:=by
    intro r hr hz
    refine zI hF (by simp [ho]) (u:=r) (w':=w) ?_ (zM (U:=[]) s (Tr.refl _ _) hz h2)
    simp only [execOp,ho];rw [Sem.run_bind,hr];rfl
   unfold convAV at hb
   split at hb
   ·rename_i i D sz by_ z' hs ht
    have:=zbt h1;cases hb
    refine key (r:=_) ?_ (zaz rfl)
    rw [this]
    simp only [convert,Sem.run_bind,(hc t _ (by assumption)).run_und,(hc t' _ (by assumption)).run_und,Result.andThen_ok]
    simp [Conv.intToInt]
   ·rename_i i D sz by_ z' hs ht
    have:=zbt h1;cases hb
    refine key (r:=_) ?_ (zaz rfl)
    rw [this]
    simp only [convert,Sem.run_bind,(hc t _ (by assumption)).run_und,(hc t' _ (by assumption)).run_und,Result.andThen_ok]
    rfl
   ·cases hb
theorem op_extract (hF:∀ f,F.fn f) (s:St P c.nt G own a w) {x:Operand} {i:Nat} (ho:o.op=.extract x i)
 (h:(rdO x fun v=>match v with
 | .tup l=>optRM c o.dst l[i]?
 | _=>.fail).wp CE G T (Kn P c.nt G own a w next)):o.wpIn F n P a w next Q:=by
 obtain ⟨v,T1,h1,h2⟩:=zJ s h
 split at h2
 ·rename_i l
  obtain ⟨arr,hu,e1,e2⟩:=h1
  cases hl:l[i]? with
  | none=>rw [hl] at h2;exact h2.elim
  | some y=>
    rw [hl] at h2
    have hlt:=(List.getElem?_eq_some_iff.1 hl).1
    obtain ⟨r,hr⟩:∃ r,arr[i]?=some r:=⟨arr[i]'(by omega),by simp⟩
    have hy:=e2 i y r hl hr
    refine zI hF (by simp [ho]) (u:=r) (w':=w) (by simp [execOp,ho,hu,Instr.extract,hr]) (zM (U:=[]) s (Tr.refl _ _) ?_ h2)
    cases y with
    | tup l=>exact hy.elim
    | _=>exact hy
 ·exact h2.elim
theorem za0 (k p q:Nat):(⟨k,p,none⟩:Addr).add q=⟨k,p+q,none⟩:=by
 unfold Addr.add
 split
 ·rename_i h;subst h;rfl
 ·rfl
theorem plus_isM {b o q:Nat} {x:AV} (h:(AV.ptr b o).plus q=some x):isM b=false:=by
 simp only [AV.plus] at h
 split at h
 ·cases h
 ·assumption
theorem plus_sound {v x:AV} {q:Nat} {u:Value} {ad:Addr} (h:R0 P G own w v u) (hp:v.plus q=some x) (hu:u=.pointer (some ad)):R0 P G own w x (.pointer (some (ad.add q))):=by
 cases v with
 | ptr b o=>
   simp only [AV.plus] at hp
   split at hp
   ·cases hp
   ·rename_i hm
    cases hp
    obtain ⟨k,h1,h2⟩:=RC.ptr (w:=w) h hm
    rw [hu] at h2;injection h2 with h2;injection h2 with h2;subst h2
    exact ⟨k,h1,by rw [hm,za0];rfl⟩
 | fp y o=>
   simp [AV.plus] at hp;subst hp
   obtain ⟨k,p,h1,h2⟩:=h
   rw [hu] at h1;injection h1 with h1;injection h1 with h1;subst h1
   exact ⟨k,p,by rw [za0,Nat.add_assoc],h2⟩
 | ep b o i n=>
   simp [AV.plus] at hp;subst hp
   have h:EpV P G own w b o i n u:=h
   show EpV P G own w b o i (n+q) _
   unfold EpV at h ⊢
   cases hg:look G b (some o) with
   | none=>trivial
   | some y=>
     rw [hg] at h
     cases y with
     | own E l=>
       obtain ⟨e1,k,cap,e2,e3⟩:=h
       rw [hu] at e2;injection e2 with e2;injection e2 with e2;subst e2
       exact ⟨e1,k,cap,by rw [za0,Nat.add_assoc],e3⟩
     | f y=>
       cases y with
       | sl l=>
         obtain ⟨z,e1,k,p,e2,e3⟩:=h
         rw [hu] at e2;injection e2 with e2;injection e2 with e2;subst e2
         exact ⟨z,e1,k,p,by rw [za0,Nat.add_assoc],e3⟩
       | _=>trivial
     | _=>trivial
 | _=>simp [AV.plus] at hp
theorem zib {v:AV} {u:Value} (h:R0 P G own w v u):RV P G own w v u:=by
 have:=r0_leaf h
 rw [rv_r0 (zH this).1 (zH this).2];exact h
theorem zic {v:AV} {u:Value} (h:RV P G own w v u) (hl:v.isLeaf=true):R0 P G own w v u:=by
 rwa [rv_r0 (zH hl).1 (zH hl).2] at h
theorem plus_leaf {v x:AV} {q:Nat} (hp:v.plus q=some x):v.isLeaf=true:=by cases v<;>simp [AV.plus] at hp<;>rfl
theorem zhI {v x:AV} {q:Nat} {u:Value} {k:RM} {K:List Up→List Acc→Prop} (h:R0 P G own w v u) (hp:v.plus q=some x) (hk:(seen v k).wp CE G T K) :
 ∃ T' ad,u=.pointer (some ad)∧R0 P G own w x (.pointer (some (ad.add q)))∧k.wp CE G T' K:=by
 obtain ⟨T',h1,_,h2⟩:=zhb h hk
 have:∃ ad,u=.pointer (some ad):=by
  cases v with
  | ptr b o=>obtain ⟨k,_,hu⟩:=RC.ptr (w:=w) h (plus_isM hp);exact ⟨_,hu⟩
  | fp x o=>obtain ⟨k,p,hu,_⟩:=h;exact ⟨_,hu⟩
  | ep b o i n=>exact h2 _ _ _ _ rfl
  | _=>simp [AV.plus] at hp
 obtain ⟨ad,hu⟩:=this
 exact ⟨T',ad,hu,plus_sound h hp hu,h1⟩
theorem zgI (hc:CfgOk P c) {S:TypeId} {fld q m:Nat} {ag:Bool} (h:fieldOff c S fld=some (q,m,ag)) :
 ∃ fs f i,P.underlying S=some (.struct fs)∧fs[fld]?=some f∧c.ti f.type=some i∧q=f.offset∧m=i.size∧ag=isAggD i.desc:=by
 unfold fieldOff at h
 split at h
 ·rename_i fs sz by_ z hti
  split at h
  ·rename_i f hf
   split at h
   ·rename_i i hi
    cases h
    exact ⟨fs,f,i,(hc S _ hti).und,hf,hi,rfl,rfl,rfl⟩
   ·cases h
  ·cases h
 ·cases h
theorem op_fieldAddr (hc:CfgOk P c) (hF:∀ f,F.fn f) (s:St P c.nt G own a w) {S:TypeId} {x:Operand} {fld:Nat} (ho:o.op=.fieldAddr S x fld)
 (h:(rdO x fun v=>fieldAddrRM c o.dst S fld v).wp CE G T (Kn P c.nt G own a w next)):o.wpIn F n P a w next Q:=by
 obtain ⟨v,T1,h1,h2⟩:=zJ s h
 unfold fieldAddrRM at h2
 split at h2
 ·rename_i q m ag hf
  split at h2
  ·exact h2.elim
  ·rename_i hm
   split at h2
   ·rename_i x' hp
    obtain ⟨T2,ad,hu,hx,h3⟩:=zhI (zic h1 (plus_leaf hp)) hp h2
    obtain ⟨fs,f,i,e1,e2,e3,rfl,rfl,_⟩:=zgI hc hf
    refine zI hF (by simp [ho]) (u:=.pointer (some (ad.add f.offset))) (w':=w) ?_ (zM (U:=[]) s (Tr.refl _ _) (zib hx) h3)
    have hsz:=(hc _ _ e3).run_size w
    simp [execOp,ho,hu,Instr.fieldAt,run_underlying e1,e2,Instr.sureAddr,fieldPlace,hsz,hm]
   ·exact h2.elim
 ·exact h2.elim
theorem run_part (hc:CfgOk P c) {t:TypeId} {i:TI} (hi:c.ti t=some i) {l:List AV} {arr:Array Value} {q:Nat} {v:AV} (hl:l.length=arr.size) (hr:∀ (j:Nat) x u,l[j]?=some x→arr[j]?=some u→R0 P G own w x u)
 (h:partAV l q i.size (isAggD i.desc)=some v):∃ u,(part t arr q).run P w=.ok u w∧RV P G own w v u:=by
 have ha:=(hc t i hi).run_agg w
 have hs:=(hc t i hi).run_size w
 unfold partAV at h
 split at h
 ·rename_i hag
  split at h
  ·rename_i hle
   cases h
   refine ⟨.agg (arr.extract q (q+i.size)),by simp [part,ha,hag,hs],_,rfl,?_,fun j x u e1 e2=>?_⟩
   ·simp only [List.length_take,List.length_drop,Array.size_extract];omega
   ·rw [List.getElem?_take] at e1
    split at e1
    ·rw [List.getElem?_drop] at e1
     rw [Array.getElem?_extract] at e2
     split at e2
     ·exact hr _ _ _ e1 e2
     ·cases e2
    ·cases e1
  ·cases h
 ·rename_i hag
  have hag:isAggD i.desc=false:=by simpa using hag
  have hlt:=(List.getElem?_eq_some_iff.1 h).1
  obtain ⟨u,hu⟩:∃ u,arr[q]?=some u:=⟨arr[q]'(by omega),by simp⟩
  exact ⟨u,by simp [part,ha,hag,hu],zib (hr q v u h hu)⟩
theorem op_field (hc:CfgOk P c) (hF:∀ f,F.fn f) (s:St P c.nt G own a w) {S:TypeId} {x:Operand} {fld:Nat} (ho:o.op=.field S x fld)
 (h:(rdO x fun v=>fieldRM c o.dst S fld v).wp CE G T (Kn P c.nt G own a w next)):o.wpIn F n P a w next Q:=by
 obtain ⟨v,T1,h1,h2⟩:=zJ s h
 unfold fieldRM at h2
 split at h2
 ·rename_i q m ag l hf
  split at h2
  ·rename_i v' hp
   obtain ⟨fs,f,i,e1,e2,e3,rfl,rfl,rfl⟩:=zgI hc hf
   obtain ⟨arr,hu,e4,e5⟩:=h1
   obtain ⟨u,r1,r2⟩:=run_part hc e3 e4 e5 hp
   refine zI hF (by simp [ho]) (u:=u) (w':=w) ?_ (zM (U:=[]) s (Tr.refl _ _) r2 h2)
   simp [execOp,ho,hu,Instr.field,run_underlying e1,e2,asAgg,r1]
  ·exact h2.elim
 ·exact h2.elim
theorem rf_elem {l:List FV} {u:Value} {i:Nat} {x:FV} (h:RF own w (.sl l) u) (hi:l[i]?=some x):∃ ad c,u=.slice (some ad) l.length c∧ad.spot=none∧FCells own w ad.block (ad.off+i * x.size) x.cells:=by
 cases h with
 | sl l a m c ad sz hn hc ha hsz hcell hv=>
   have hne:l≠[]:=by intro e;subst e;simp at hi
   obtain ⟨rfl,h2,h3,h4⟩:=ha hne
   have hs:=hsz x (List.mem_of_getElem? hi)
   subst hs
   refine ⟨ad,c,by rw [hn],h2,h3,h4,fun j y hj=>?_⟩
   obtain ⟨v,e⟩:=hcell i x j y hi hj
   exact ⟨v,by rw [Nat.add_assoc];exact e,hv i x j y v hi hj e⟩
theorem op_indexAddr (hc:CfgOk P c) (hF:∀ f,F.fn f) (s:St P c.nt G own a w) {t:TypeId} {x y:Operand} (ho:o.op=.indexAddr t x y)
 (h:(rdO x fun v=>rdO y fun q=>indexAddrRM c o.dst t v q).wp CE G T (Kn P c.nt G own a w next)):o.wpIn F n P a w next Q:=by
 obtain ⟨v,T1,h1,h2⟩:=zJ s h
 obtain ⟨ix,T2,h3,h4⟩:=zJ s h2
 unfold indexAddrRM at h4
 split at h4
 ·rename_i k m E sz by_ z hti
  have hy:=zbt h3
  have hund:=(hc t _ hti).und
  split at h4
  ·rename_i hm
   split at h4
   ·rename_i l
    split at h4
    ·rename_i e i he hE
     split at h4
     ·rename_i hsz
      obtain ⟨ad,cc,hu,hsp,hcells⟩:=rf_elem h1.2 he
      have hlt:=(List.getElem?_eq_some_iff.1 he).1
      refine zI hF (by simp [ho]) (u:=.pointer (some (ad.add (m.toNat * i.size)))) (w':=w) ?_ (zM (U:=[]) s (Tr.refl _ _) (v:=.fp e 0) ?_ h4)
      ·have hs:=(hc E i hE).run_size w
       have hml:m < (l.length:Int):=by omega
       simp [execOp,ho,hu,hy,Instr.indexAt,asIntOf,run_underlying hund,hm,hml,hs]
      ·obtain ⟨blk,off,sp⟩:=ad
       simp only at hsp;subst hsp
       refine ⟨blk,off+m.toNat * i.size,by rw [za0];rfl,?_⟩
       rw [hsz] at hcells;exact hcells
     ·exact h4.elim
    ·exact h4.elim
   ·rename_i b q i r
    split at h4
    ·rename_i hlt
     have hmr:m < (r:Int):=by omega
     have hs:SlV P G own w b q i r (a.eval x):=h1
     obtain ⟨yy,T3,h5,h6⟩:=zaM h4
     unfold SlV at hs
     rw [h5] at hs
     split at h6
     ·rename_i E' l i' hE
      split at h6
      ·rename_i hEE;subst hEE
       obtain ⟨hir,a2,c2,hu2,_,hk⟩:=hs
       rcases hk with ⟨_,e2,_⟩ | ⟨k2,e1,e2⟩
       ·subst e2;simp at hir;omega
       ·subst e1
        have hsz:esz P E'=i'.size:=(hc E' i' hE).cells
        refine zI hF (by simp [ho]) (u:=.pointer (some (Addr.add ⟨k2,i * esz P E',none⟩ (m.toNat * i'.size)))) (w':=w) ?_ (zM (U:=[]) s (Tr.refl _ _) (v:=.ep b q (i+m.toNat) 0) ?_ h6)
        ·have hs:=(hc E' i' hE).run_size w
         simp [execOp,ho,hu2,hy,Instr.indexAt,asIntOf,run_underlying hund,hm,hmr,hs]
        ·show EpV P G own w b q (i+m.toNat) 0 _
         unfold EpV
         rw [h5]
         refine ⟨by omega,k2,_,?_,e2⟩
         rw [za0,← hsz,Nat.add_mul];rfl
      ·exact h6.elim
     ·rename_i l i' hE
      split at h6
      ·rename_i e he
       split at h6
       ·rename_i hsz
        have hlt2:=(List.getElem?_eq_some_iff.1 he).1
        have he':((l.drop i).take r)[m.toNat]?=some e:=by
         rw [List.getElem?_take,if_pos hlt,List.getElem?_drop];exact he
        obtain ⟨ad,cc,hu,hsp,hcells⟩:=rf_elem hs.2 he'
        have hlen:((l.drop i).take r).length=r:=by rw [List.length_take,List.length_drop];have:=hs.1;omega
        rw [hlen] at hu
        refine zI hF (by simp [ho]) (u:=.pointer (some (ad.add (m.toNat * i'.size)))) (w':=w) ?_ (zM (U:=[]) s (Tr.refl _ _) (v:=.fp e 0) ?_ h6)
        ·have hs:=(hc E i' hE).run_size w
         simp [execOp,ho,hu,hy,Instr.indexAt,asIntOf,run_underlying hund,hm,hmr,hs]
        ·obtain ⟨blk,off,sp⟩:=ad
         simp only at hsp;subst hsp
         refine ⟨blk,off+m.toNat * i'.size,by rw [za0];rfl,?_⟩
         rw [hsz] at hcells;exact hcells
       ·exact h6.elim
      ·exact h6.elim
     ·exact h6.elim
    ·exact h4.elim
   ·exact h4.elim
  ·exact h4.elim
 ·rename_i k m len E sz by_ z hti
  have hy:=zbt h3
  have hund:=(hc t _ hti).und
  split at h4
  ·rename_i hm
   split at h4
   ·rename_i i hE
    split at h4
    ·rename_i x' hp
     obtain ⟨T3,ad,hu,hx,h5⟩:=zhI (zic h1 (plus_leaf hp)) hp h4
     refine zI hF (by simp [ho]) (u:=.pointer (some (ad.add (m.toNat * i.size)))) (w':=w) ?_ (zM (U:=[]) s (Tr.refl _ _) (zib hx) h5)
     have hs:=(hc E i hE).run_size w
     simp [execOp,ho,hu,hy,Instr.indexAt,asIntOf,run_underlying hund,Instr.sureAddr,hm,hs]
    ·exact h4.elim
   ·exact h4.elim
  ·exact h4.elim
 ·exact h4.elim
theorem op_index (hc:CfgOk P c) (hF:∀ f,F.fn f) (s:St P c.nt G own a w) {t:TypeId} {x y:Operand} (ho:o.op=.index t x y)
 (h:(rdO x fun v=>rdO y fun q=>indexRM c o.dst t v q).wp CE G T (Kn P c.nt G own a w next)):o.wpIn F n P a w next Q:=by
 obtain ⟨v,T1,h1,h2⟩:=zJ s h
 obtain ⟨ix,T2,h3,h4⟩:=zJ s h2
 unfold indexRM at h4
 split at h4
 ·rename_i k m str sz by_ z hti
  have hy:=zbt h3
  have hx:=zbt h1
  have hund:=(hc t _ hti).und
  split at h4
  ·rename_i hm
   split at h4
   ·rename_i b hb
    refine zI hF (by simp [ho]) (u:=.int .u8 b.toNat) (w':=w) ?_ (zM (U:=[]) s (Tr.refl _ _) (zaz rfl) h4)
    simp [execOp,ho,hx,hy,Instr.index,asIntOf,run_underlying hund,hm,hb]
   ·exact h4.elim
  ·exact h4.elim
 ·rename_i k m l len E sz by_ z hti
  have hy:=zbt h3
  obtain ⟨arr,hu,e4,e5⟩:=h1
  have hund:=(hc t _ hti).und
  split at h4
  ·rename_i hm
   split at h4
   ·rename_i i hE
    split at h4
    ·rename_i v' hp
     obtain ⟨u,r1,r2⟩:=run_part hc hE e4 e5 hp
     refine zI hF (by simp [ho]) (u:=u) (w':=w) ?_ (zM (U:=[]) s (Tr.refl _ _) r2 h4)
     have hs:=(hc E i hE).run_size w
     simp [execOp,ho,hu,hy,Instr.index,asIntOf,run_underlying hund,hm,hs,r1]
    ·exact h4.elim
   ·exact h4.elim
  ·exact h4.elim
 ·exact h4.elim
theorem box_leaf (s:St P c.nt G own a w) {b q k:Nat} {x:AV} (hb:b % 3≠1) (hm:isM b=false) (hk:own k=some (.box b)) (h:look G b (some q)=some x) :
 ∃ u,w.cell? ⟨k,q,none⟩=some u∧RO P G own w b q x u:=by
 obtain ⟨_,v,hg,hv,_⟩:=zdq h
 obtain ⟨k',arr,TT,e1,e2,e3,e4⟩:=s.boxes b v hb hm hg
 have:=s.one _ _ _ e1 hk;subst this
 have hlt:=(List.getElem?_eq_some_iff.1 hv).1
 obtain ⟨u,hu⟩:∃ u,arr[q]?=some u:=⟨arr[q]'(by omega),by simp⟩
 exact ⟨u,by simp [World.cell?,e2,hu],e4 q x u hv hu⟩
theorem zkd (s:St P c.nt G own a w) {b k:Nat} (hb:b % 3≠1) (hm:isM b=false) (hk:own k=some (.box b)) {K:List Up→List Acc→Prop}:∀ {m q:Nat} {k':List AV→RM} {T:List Acc},(askL b q m k').wp CE G T K→
 ∃ (ls:List AV) (us:List Value) (T':List Acc),ls.length=m∧us.length=m∧(∀ (j:Nat) x u,ls[j]?=some x→us[j]?=some u→R0 P G own w x u)∧(∀ (j:Nat) u,us[j]?=some u→w.cell? ⟨k,q+j,none⟩=some u)∧(k' ls).wp CE G T' K
 | 0,q,k',T,h=>⟨[],[],T,rfl,rfl,fun j x u h=>by simp at h,fun j u h=>by simp at h,h⟩
 | m+1,q,k',T,h=>by
   obtain ⟨v,T1,h1,h2⟩:=zaM h
   obtain ⟨u,hu,hr⟩:=box_leaf s hb hm hk h1
   obtain ⟨ls,us,T2,e1,e2,e3,e4,e5⟩:=zkd s hb hm hk h2
   refine ⟨vwLeaf b q v :: ls,u :: us,T2,by simp [e1],by simp [e2],fun j x y f1 f2=>?_,fun j y f1=>?_,e5⟩
   ·cases j with
    | zero=>simp at f1 f2;subst f1 f2;exact RO.view hr h1
    | succ j=>simp at f1 f2;exact e3 j x y f1 f2
   ·cases j with
    | zero=>simp at f1;subst f1;exact hu
    | succ j=>simp at f1;rw [show q+(j+1)=q+1+j by omega];exact e4 j y f1
theorem zdn (hc:CfgOk P c) {t:TypeId} {i:TI} (hi:c.ti t=some i) (hag:isAggD i.desc=true) {k q:Nat} {us:List Value} (hl:us.length=i.size) (h:∀ (j:Nat) u,us[j]?=some u→w.cell? ⟨k,q+j,none⟩=some u) :
 (loadVar t ⟨k,q,none⟩).run P w=.ok (.agg us.toArray) w:=by
 have:=run_loadCells_list (P:=P) w ⟨k,q,none⟩ us (fun j v hv=>by rw [za0];exact h j v hv)
 rw [hl] at this
 simp [loadVar,(hc t i hi).run_agg w,hag,(hc t i hi).run_size w,this]
theorem zcm (hc:CfgOk P c) {t:TypeId} {i:TI} (hi:c.ti t=some i) (hag:isAggD i.desc=false) {k q:Nat} {u:Value} (h:w.cell? ⟨k,q,none⟩=some u) :
 (loadVar t ⟨k,q,none⟩).run P w=.ok u w:=by
 simp [loadVar,(hc t i hi).run_agg w,hag,h]
theorem zec (hc:CfgOk P c) {t:TypeId} {i:TI} (hi:c.ti t=some i) {k q off:Nat} {cs:List FV} (hk3:∀ (j:Nat) y,cs[j]?=some y→∃ v,w.cell? ⟨k,q+j,none⟩=some v∧RF own w y v) {v:AV} (h:ofCells (isAggD i.desc) i.size cs off=some v) :
 ∃ u,(loadVar t ⟨k,q+off,none⟩).run P w=.ok u w∧RV P G own w v u:=by
 unfold ofCells at h
 split at h
 ·rename_i hag
  split at h
  ·rename_i hle
   cases h
   obtain ⟨hle,hone⟩:=hle
   have:∀ m,off+m≤cs.length→∃ us:List Value,us.length=m∧∀ (j:Nat) u,us[j]?=some u→∃ y,cs[off+j]?=some y∧w.cell? ⟨k,q+(off+j),none⟩=some u∧RF own w y u:=by
    intro m
    induction m with
    | zero=>intro _;exact ⟨[],rfl,fun j u h=>by simp at h⟩
    | succ m ih=>
      intro hm
      obtain ⟨us,e1,e2⟩:=ih (by omega)
      have hy:cs[off+m]?=some (cs[off+m]'(by omega)):=by simp
      obtain ⟨u,hu,hr⟩:=hk3 _ _ hy
      refine ⟨us++[u],by simp [e1],fun j v hv=>?_⟩
      by_cases hj:j < m
      ·rw [List.getElem?_append_left (by omega)] at hv;exact e2 j v hv
      ·have hjm:j=m:=by
        have:=(List.getElem?_eq_some_iff.1 hv).1
        simp at this;omega
       subst hjm
       rw [List.getElem?_append_right (by omega)] at hv
       simp [e1] at hv;subst hv
       exact ⟨_,hy,hu,hr⟩
   obtain ⟨us,e1,e2⟩:=this i.size hle
   refine ⟨.agg us.toArray,zdn hc hi hag e1 (fun j u hu=>?_),_,rfl,?_,fun j x u f1 f2=>?_⟩
   ·obtain ⟨y,_,h2,_⟩:=e2 j u hu;rw [Nat.add_assoc];exact h2
   ·simp [List.length_take,List.length_drop,e1];omega
   ·simp only [List.getElem?_map,List.getElem?_take,List.getElem?_drop] at f1
    simp only [List.getElem?_toArray] at f2
    obtain ⟨y,h1,_,h3⟩:=e2 j u f2
    split at f1
    ·rw [h1] at f1;cases f1
     exact ⟨List.all_eq_true.1 hone y (List.mem_of_getElem? h1),h3⟩
    ·cases f1
  ·cases h
 ·rename_i hag
  have hag:isAggD i.desc=false:=by simpa using hag
  split at h
  ·rename_i y hy
   split at h
   ·rename_i hone
    cases h
    obtain ⟨u,hu,hr⟩:=hk3 _ _ hy
    exact ⟨u,zcm hc hi hag hu,hone,hr⟩
   ·cases h
  ·cases h
theorem op_load (hc:CfgOk P c) (hF:∀ f,F.fn f) (s:St P c.nt G own a w) {t:TypeId} {x:Operand} (ho:o.op=.load t x)
 (h:(rdO x fun p=>loadRM c t o.dst p).wp CE G T (Kn P c.nt G own a w next)):o.wpIn F n P a w next Q:=by
 obtain ⟨v,T1,h1,h2⟩:=zJ s h
 have key:∀ {ad:Addr} {u:Value},a.eval x=.pointer (some ad)→(loadVar t ad).run P w=.ok u w→next (a.put o.dst u) w→o.wpIn F n P a w next Q:=by
  intro ad u hu hr hn
  refine zI hF (by simp [ho]) (u:=u) (w':=w) ?_ hn
  simp [execOp,ho,Instr.loadAt,hu,Instr.sureAddr,hr]
 unfold loadRM at h2
 split at h2
 ·exact h2.elim
 ·rename_i i hi
  split at h2
  ·rename_i b off
   split at h2
   ·exact h2.elim
   ·rename_i hb'
    have hb:¬ b % 3=1:=fun e=>hb' (.inl e)
    have hm:isM b=false:=by
     cases hm:isM b with
     | false=>rfl
     | true=>exact absurd (.inr hm) hb'
    obtain ⟨k,hk,hu⟩:=RC.ptr (w:=w) h1 hm
    split at h2
    ·rename_i hag
     obtain ⟨ls,us,T2,e1,e2,e3,e4,e5⟩:=zkd s hb hm hk h2
     exact key hu (zdn hc hi hag e2 e4) (zM (U:=[]) s (Tr.refl _ _) (v:=.agg ls) ⟨us.toArray,rfl,by simp [e1,e2],fun j x u f1 f2=>e3 j x u f1 (by simpa using f2)⟩ e5)
    ·rename_i hag
     have hag:isAggD i.desc=false:=by simpa using hag
     obtain ⟨y,T2,h3,h4⟩:=zaM h2
     obtain ⟨u,hcell,hr⟩:=box_leaf s hb hm hk h3
     have plain:(fin c o.dst [] (vwLeaf b off y)).wp CE G T2 (Kn P c.nt G own a w next)→o.wpIn F n P a w next Q:=
      fun h4=>key hu (zcm hc hi hag hcell) (zM (U:=[]) s (Tr.refl _ _) (zib (RO.view hr h3)) h4)
     split at h4
     ·rename_i E l
      split at h4
      ·rename_i tt hd
       split at h4
       ·exact key hu (zcm hc hi hag hcell) (zcX s hr h4)
       ·exact plain h4
      ·exact plain h4
     ·exact plain h4
  ·rename_i y off
   obtain ⟨k,p,hu,hcells⟩:=h1
   split at h2
   ·rename_i v' hv
    obtain ⟨u,r1,r2⟩:=zec (G:=G) hc hi hcells.2.2 hv
    exact key hu r1 (zM (U:=[]) s (Tr.refl _ _) r2 h2)
   ·exact h2.elim
  ·rename_i b q j cc
   obtain ⟨y,T2,h3,h4⟩:=zaM h2
   have hep:EpV P G own w b q j cc (a.eval x):=h1
   unfold EpV at hep
   rw [h3] at hep
   split at h4
   ·rename_i es hes
    split at h4
    ·rename_i e he
     split at h4
     ·rename_i v' hv
      rcases zeF hes with ⟨E,rfl⟩ | rfl
      ·obtain ⟨_,k,cap,hu,hB⟩:=hep
       have hcell:=fun jj yy=>own_cell hB (i:=j) (x:=e) (j:=jj) (y:=yy) he
       obtain ⟨u,r1,r2⟩:=zec (G:=G) hc hi hcell hv
       exact key hu r1 (zM (U:=[]) s (Tr.refl _ _) r2 h4)
      ·obtain ⟨x',e1,k,p,hu,hcells⟩:=hep
       rw [he] at e1;cases e1
       obtain ⟨u,r1,r2⟩:=zec (G:=G) hc hi hcells.2.2 hv
       exact key hu r1 (zM (U:=[]) s (Tr.refl _ _) r2 h4)
     ·exact h4.elim
    ·exact h4.elim
   ·exact h4.elim
  ·exact h2.elim
end
end Go.Ev
