import Derived.Test.YtkeiahjelpjegaaA05
set_option linter.unusedVariables false
set_option linter.unusedSimpArgs false
namespace Go.Ev
open Go Go.RowKit
variable {P : Program}
section
variable {R : Type}
def fNat (n:Nat) (k:Nat→R):R:=match n with
 | .zero=>k 0
 | .succ n=>k (.succ n)
theorem fNat_eq (n:Nat) (k:Nat→R):fNat n k=k n:=by cases n<;>rfl
def fInt (n:Int) (k:Int→R):R:=match n with
 | .ofNat n=>fNat n fun n=>k (.ofNat n)
 | .negSucc n=>fNat n fun n=>k (.negSucc n)
theorem fInt_eq (n:Int) (k:Int→R):fInt n k=k n:=by cases n<;>simp [fInt,fNat_eq]
def fBo (b:Bool) (k:Bool→R):R:=match b with
 | true=>k true
 | false=>k false
theorem fBo_eq (b:Bool) (k:Bool→R):fBo b k=k b:=by cases b<;>rfl
def fVal (v:Value) (k:Value→R):R:=match v with
 | .int q n=>fInt n fun n=>k (.int q n)
 | .bool b=>fBo b fun b=>k (.bool b)
 | v=>k v
theorem fVal_eq (v:Value) (k:Value→R):fVal v k=k v:=by
 unfold fVal
 split
 ·exact fInt_eq _ _
 ·exact fBo_eq _ _
 ·rfl
def fList {α:Type} (f:α→(α→R)→R):List α→(List α→R)→R
 | [],k=>k []
 | a :: l,k=>f a fun a=>fList f l fun l=>k (a :: l)
theorem fList_eq {α:Type} {f:α→(α→R)→R} (h:∀ a k,f a k=k a):∀ (l:List α) (k:List α→R),fList f l k=k l
 | [],k=>rfl
 | a :: l,k=>by rw [fList,h,fList_eq h l]
def fFV:Nat→FV→(FV→R)→R
 | 0,x,k=>k x
 | n+1,x,k=>match x with
   | .pv v=>fVal v fun v=>k (.pv v)
   | .agg l=>fList (fFV n) l fun l=>k (.agg l)
   | .sl l=>fList (fFV n) l fun l=>k (.sl l)
theorem fFV_eq:∀ (n:Nat) (x:FV) (k:FV→R),fFV n x k=k x
 | 0,x,k=>rfl
 | n+1,x,k=>by
   unfold fFV
   cases x with
   | pv v=>exact fVal_eq _ _
   | agg l=>exact fList_eq (fFV_eq n) _ _
   | sl l=>exact fList_eq (fFV_eq n) _ _
def fAV:Nat→AV→(AV→R)→R
 | 0,x,k=>k x
 | n+1,x,k=>match x with
   | .bad=>k .bad
   | .f x=>fFV 1 x fun x=>k (.f x)
   | .ptr b o=>fNat b fun b=>fNat o fun o=>k (.ptr b o)
   | .fp x o=>fNat o fun o=>k (.fp x o)
   | .ep b o i c=>fNat b fun b=>fNat o fun o=>fNat i fun i=>fNat c fun c=>k (.ep b o i c)
   | .rf b o i c=>fNat b fun b=>fNat o fun o=>fNat i fun i=>fNat c fun c=>k (.rf b o i c)
   | .own E l=>fList (fFV 1) l fun l=>k (.own E l)
   | .clo g l=>fList (fAV n) l fun l=>k (.clo g l)
   | .agg l=>fList (fAV n) l fun l=>k (.agg l)
   | .tup l=>fList (fAV n) l fun l=>k (.tup l)
theorem fAV_eq:∀ (n:Nat) (x:AV) (k:AV→R),fAV n x k=k x
 | 0,x,k=>rfl
 | n+1,x,k=>by
   unfold fAV
   cases x with
   | bad=>rfl
   | f x=>exact fFV_eq _ _ _
   | ptr b o=>simp only [fNat_eq]
   | fp x o=>simp only [fNat_eq,fFV_eq]
   | ep b o i c=>simp only [fNat_eq]
   | rf b o i c=>simp only [fNat_eq]
   | own E l=>exact fList_eq (fFV_eq _) _ _
   | clo g l=>exact fList_eq (fAV_eq n) _ _
   | agg l=>exact fList_eq (fAV_eq n) _ _
   | tup l=>exact fList_eq (fAV_eq n) _ _
def sLf (x:AV) (k:AV→R):R:=match x with
 | .bad=>k .bad
 | .f x=>k (.f x)
 | .ptr b o=>k (.ptr b o)
 | .fp x o=>k (.fp x o)
 | .ep b o i c=>k (.ep b o i c)
 | .rf b o i c=>k (.rf b o i c)
 | .own E l=>k (.own E l)
 | .clo g l=>k (.clo g l)
 | .agg l=>k (.agg l)
 | .tup l=>k (.tup l)
theorem sLf_eq (x:AV) (k:AV→R):sLf x k=k x:=by cases x<;>rfl
def sAV (x:AV) (k:AV→R):R:=match x with
 | .bad=>k .bad
 | .f x=>k (.f x)
 | .ptr b o=>k (.ptr b o)
 | .fp x o=>k (.fp x o)
 | .ep b o i c=>k (.ep b o i c)
 | .rf b o i c=>k (.rf b o i c)
 | .own E l=>k (.own E l)
 | .clo g l=>k (.clo g l)
 | .agg l=>fList sLf l fun l=>k (.agg l)
 | .tup l=>fList (fAV 5) l fun l=>k (.tup l)
theorem sAV_eq (x:AV) (k:AV→R):sAV x k=k x:=by
 cases x with
 | agg l=>exact fList_eq sLf_eq _ _
 | tup l=>exact fList_eq (fAV_eq 5) _ _
 | _=>rfl
def fSta (f:AV→(AV→R)→R):Sta→(Sta→R)→R
 | [],k=>k []
 | (b,v) :: r,k=>fNat b fun b=>f v fun v=>fSta f r fun r=>k ((b,v) :: r)
theorem fSta_eq {f:AV→(AV→R)→R} (h:∀ a k,f a k=k a):∀ (G:Sta) (k:Sta→R),fSta f G k=k G
 | [],k=>rfl
 | (b,v) :: r,k=>by rw [fSta,fNat_eq,h,fSta_eq h r]
def fUp (u:Up) (k:Up→R):R:=match u with
 | .set b v=>fNat b fun b=>fAV 5 v fun v=>k (.set b v)
 | .put b v=>fNat b fun b=>fAV 5 v fun v=>k (.put b v)
 | .leaf b o v=>fNat b fun b=>fNat o fun o=>fAV 5 v fun v=>k (.leaf b o v)
 | .upo b o v=>fNat b fun b=>fNat o fun o=>fAV 5 v fun v=>k (.upo b o v)
 | .frz b o=>fNat b fun b=>fNat o fun o=>k (.frz b o)
 | .newbox b v=>fNat b fun b=>fAV 5 v fun v=>k (.newbox b v)
theorem fUp_eq (u:Up) (k:Up→R):fUp u k=k u:=by
 cases u<;>simp only [fUp,fNat_eq,fAV_eq]
end
section
variable {R : Type}
noncomputable def getX (G:Sta) (b:Nat):Option AV:=List.rec none (fun p _ ih=>match p with
 | (a,x)=>match Nat.beq a b with
   | true=>some x
   | false=>ih) G
theorem getX_eq (b:Nat):∀ G:Sta,getX G b=get G b
 | []=>rfl
 | (a,x) :: r=>by
   change (match Nat.beq a b with
    | true=>some x
    | false=>getX r b)=if b=a then some x else get r b
   rw [getX_eq b r]
   cases h:Nat.beq a b with
   | true=>rw [if_pos (Nat.eq_of_beq_eq_true h).symm]
   | false=>rw [if_neg (fun e=>by rw [e] at h;simp at h)]
noncomputable def lookX (G:Sta) (b:Nat):Option Nat→Option AV
 | none=>getX G b
 | some o=>match getX G b with
   | some v=>(v.leaves[o]?).filter AV.isLeaf
   | none=>none
theorem lookX_eq (b:Nat) (o:Option Nat) (G:Sta):lookX G b o=look G b o:=by
 cases o with
 | none=>exact getX_eq b G
 | some o=>
   simp only [lookX,look,getX_eq]
   cases get G b<;>rfl
def nv0 (b:Nat) (x:AV):Bool:=match x with
 | .rf c _ _ _=>!Nat.beq c b
 | .ep c _ _ _=>!Nat.beq c b
 | .agg _=>false
 | .tup _=>false
 | _=>true
noncomputable def nvL (b:Nat) (l:List AV):Bool:=List.rec true (fun x _ ih=>match nv0 b x with
 | true=>ih
 | false=>false) l
noncomputable def nv1 (b:Nat) (x:AV):Bool:=match x with
 | .agg l=>nvL b l
 | .tup _=>false
 | x=>nv0 b x
noncomputable def noV (b:Nat) (G:Sta):Bool:=List.rec true (fun p _ ih=>match nv1 b p.2 with
 | true=>ih
 | false=>false) G
theorem nv0_eq {b:Nat} {x:AV} (h:nv0 b x=true) (o:Option Nat):killr b o x=x:=by
 cases x with
 | rf c _ _ _=>
   simp only [nv0,Bool.not_eq_true'] at h
   simp only [killr];rw [if_neg];rintro ⟨e,_⟩;rw [e] at h;simp at h
 | ep c _ _ _=>
   simp only [nv0,Bool.not_eq_true'] at h
   simp only [killr];rw [if_neg];rintro ⟨e,_⟩;rw [e] at h;simp at h
 | _=>rfl
theorem nvL_eq {b:Nat} (o:Option Nat):∀ {l:List AV},nvL b l=true→l.map (killr b o)=l
 | [],_=>rfl
 | x :: r,h=>by
   change (match nv0 b x with
    | true=>nvL b r
    | false=>false)=true at h
   split at h
   ·rename_i hx;rw [List.map_cons,nv0_eq hx,nvL_eq o h]
   ·cases h
theorem nv1_eq {b:Nat} {x:AV} (h:nv1 b x=true) (o:Option Nat):AV.map2 (killr b o) x=x:=by
 cases x with
 | agg l=>show AV.agg (l.map _)=_;rw [nvL_eq o h]
 | tup l=>cases h
 | bad=>rfl
 | f x=>rfl
 | ptr c p=>rfl
 | fp x p=>rfl
 | ep c p i d=>exact nv0_eq (x:=.ep c p i d) h o
 | rf c p i d=>exact nv0_eq (x:=.rf c p i d) h o
 | own E l=>rfl
 | clo g l=>rfl
theorem noV_eq {b:Nat} (o:Option Nat):∀ {G:Sta},noV b G=true→mapv (AV.map2 (killr b o)) G=G
 | [],_=>rfl
 | (a,x) :: r,h=>by
   change (match nv1 b x with
    | true=>noV b r
    | false=>false)=true at h
   split at h
   ·rename_i hx;rw [mapv,nv1_eq hx,noV_eq o h]
   ·cases h
noncomputable def insX (b:Nat) (v:AV) (G:Sta):(Sta→R)→R:=List.rec (fun k=>k [(b,v)]) (fun p r ih k=>match Nat.beq p.1 b with
 | true=>k ((b,v) :: r)
 | false=>match Nat.blt b p.1 with
   | true=>k ((b,v) :: p :: r)
   | false=>ih fun m=>k (p :: m)) G
theorem insX_eq (b:Nat) (v:AV):∀ (G:Sta) (k:Sta→R),insX b v G k=k (ins b v G)
 | [],k=>rfl
 | (a,x) :: r,k=>by
   change (match Nat.beq a b with
    | true=>k ((b,v) :: r)
    | false=>match Nat.blt b a with
      | true=>k ((b,v) :: (a,x) :: r)
      | false=>insX b v r fun m=>k ((a,x) :: m))=k (if b < a then (b,v) :: (a,x) :: r else if b=a then (b,v) :: r else (a,x) :: ins b v r)
   rw [insX_eq b v r]
   cases h:Nat.beq a b with
   | true=>
     have:=Nat.eq_of_beq_eq_true h
     rw [if_neg (by omega),if_pos this.symm]
   | false=>
     have hne:b≠a:=fun e=>by rw [e] at h;simp at h
     cases h2:Nat.blt b a with
     | true=>
       rw [if_pos (by simpa [Nat.blt_eq] using h2)]
     | false=>
       rw [if_neg (fun e=>by rw [show Nat.blt b a=true from by simpa [Nat.blt_eq] using e] at h2;cases h2),if_neg hne]
noncomputable def updX (b:Nat) (g:AV→AV) (G:Sta):(Sta→R)→R:=List.rec (fun k=>k []) (fun p r ih k=>match Nat.beq p.1 b with
 | true=>sAV (g p.2) fun x=>k ((p.1,x) :: r)
 | false=>ih fun m=>k (p :: m)) G
theorem updX_eq (b:Nat) (g:AV→AV):∀ (G:Sta) (k:Sta→R),updX b g G k=k (upd b g G)
 | [],k=>rfl
 | (a,x) :: r,k=>by
   change (match Nat.beq a b with
    | true=>sAV (g x) fun x=>k ((a,x) :: r)
    | false=>updX b g r fun m=>k ((a,x) :: m))=k (if b=a then (a,g x) :: r else (a,x) :: upd b g r)
   rw [updX_eq b g r,sAV_eq]
   cases h:Nat.beq a b with
   | true=>rw [if_pos (Nat.eq_of_beq_eq_true h).symm]
   | false=>rw [if_neg (fun e=>by rw [e] at h;simp at h)]
noncomputable def appX (u:Up) (G:Sta) (k:Sta→R):R:=match u with
 | .set b v=>match noV b G with
   | true=>insX b v G k
   | false=>fSta sAV ((Up.set b v).app G) k
 | .put b v=>match noV b G with
   | true=>updX b (putV v) G k
   | false=>fSta sAV ((Up.put b v).app G) k
 | .leaf b o v=>match noV b G with
   | true=>updX b (setLeaf o v) G k
   | false=>fSta sAV ((Up.leaf b o v).app G) k
 | .upo b o v=>updX b (setLeaf o v) G k
 | .frz b o=>updX b (mapLeaf o Ev.frz) G k
 | .newbox b v=>fSta sAV ((Up.newbox b v).app G) k
theorem appX_eq (u:Up) (G:Sta) (k:Sta→R):appX u G k=k (u.app G):=by
 cases u with
 | set b v=>
   simp only [appX]
   split
   ·rename_i h;rw [insX_eq,Up.app,noV_eq none h]
   ·rw [fSta_eq sAV_eq]
 | put b v=>
   simp only [appX]
   split
   ·rename_i h;rw [updX_eq,Up.app,noV_eq none h]
   ·rw [fSta_eq sAV_eq]
 | leaf b o v=>
   simp only [appX]
   split
   ·rename_i h;rw [updX_eq,Up.app,noV_eq (some o) h]
   ·rw [fSta_eq sAV_eq]
 | upo b o v=>simp only [appX,updX_eq,Up.app]
 | frz b o=>simp only [appX,updX_eq,Up.app]
 | newbox b v=>simp only [appX,fSta_eq sAV_eq]
noncomputable def appsX (U:List Up) (G:Sta) (k:List Up→Sta→R):R:=List.rec (fun G k=>k [] G) (fun u _ ih G k=>fUp u fun u=>appX u G fun G=>ih G fun U G=>k (u :: U) G) U G k
theorem appsX_eq:∀ (U:List Up) (G:Sta) (k:List Up→Sta→R),appsX U G k=k U (app U G)
 | [],G,k=>rfl
 | u :: r,G,k=>by
   change (fUp u fun u=>appX u G fun G=>appsX r G fun U G=>k (u :: U) G)=_
   rw [fUp_eq,appX_eq,appsX_eq r];rfl
noncomputable def dropX (mask:Nat) (G:Sta):(Sta→R)→R:=List.rec (fun k=>k []) (fun p _ ih k=>match Nat.beq (Nat.mod p.1 3) 1 with
 | false=>ih fun m=>k (p :: m)
 | true=>match Nat.beq (Nat.land (Nat.shiftRight mask (Nat.div p.1 3)) 1) 0 with
   | true=>ih k
   | false=>ih fun m=>k (p :: m)) G
def deadB (mask:Nat) (b:Nat):Bool:=match Nat.beq (Nat.mod b 3) 1 with
 | false=>false
 | true=>Nat.beq (Nat.land (Nat.shiftRight mask (Nat.div b 3)) 1) 0
theorem dropX_eq (mask:Nat):∀ (G:Sta) (k:Sta→R),dropX mask G k=k (dropN (deadB mask) G)
 | [],k=>rfl
 | (a,x) :: r,k=>by
   change (match Nat.beq (Nat.mod a 3) 1 with
    | false=>dropX mask r fun m=>k ((a,x) :: m)
    | true=>match Nat.beq (Nat.land (Nat.shiftRight mask (Nat.div a 3)) 1) 0 with
      | true=>dropX mask r k
      | false=>dropX mask r fun m=>k ((a,x) :: m))=_
   simp only [dropX_eq mask r,dropN]
   cases h1:Nat.beq (Nat.mod a 3) 1 with
   | false=>
     rw [if_neg (by simp [deadB,h1])]
   | true=>
     cases h2:Nat.beq (Nat.land (Nat.shiftRight mask (Nat.div a 3)) 1) 0 with
     | true=>rw [if_pos (by simp only [deadB,h1,h2])]
     | false=>rw [if_neg (by simp only [deadB,h1,h2];simp)]
end
abbrev Kw:=FuncId→List AV→List AV→Option (AV×List AV)
abbrev ExR:=Option (Ex×Sta)
noncomputable def RM.ex (C:Kw) (G:Sta) (m:RM):List Acc→Option (List Up×List Acc):=
 RM.rec (motive:=fun _=>List Acc→Option (List Up×List Acc)) (fun U T=>some (U,T)) (fun _=>none)
  (fun b o _ ih T=>match lookX G b o with
    | some v=>match v.ok with
      | true=>ih v (T++accOf b o :: v.refs)
      | false=>none
    | none=>none)
  (fun b _ ih T=>match getX G b with
    | some v=>ih v.leaves.length (T++[.id b])
    | none=>none)
  (fun g args outs _ ih T=>match C g args outs with
    | some (r,o)=>ih r o T
    | none=>none) m
theorem ex_ret {C:Kw} {G:Sta} {U:List Up} {T:List Acc}:RM.ex C G (.ret U) T=some (U,T):=rfl
theorem ex_ask {C:Kw} {G:Sta} {b:Nat} {o:Option Nat} {k:AV→RM} {T:List Acc}:RM.ex C G (.ask b o k) T=match look G b o with
 | some v=>match v.ok with
   | true=>(k v).ex C G (T++accOf b o :: v.refs)
   | false=>none
 | none=>none:=by rw [← lookX_eq];rfl
theorem ex_peek {C:Kw} {G:Sta} {b:Nat} {k:Nat→RM} {T:List Acc}:RM.ex C G (.peek b k) T=match get G b with
 | some v=>(k v.leaves.length).ex C G (T++[.id b])
 | none=>none:=by rw [← getX_eq];rfl
theorem ex_call {C:Kw} {G:Sta} {g:FuncId} {args outs:List AV} {k:AV→List AV→RM} {T:List Acc}:RM.ex C G (.call g args outs k) T=match C g args outs with
 | some (r,o)=>(k r o).ex C G T
 | none=>none:=rfl
def KwOk (P:Program) (C:Kw):Prop:=∀ g args outs r o,C g args outs=some (r,o)→CallE P g args outs r o
theorem RM.ex_wp {C:Kw} {G:Sta} (hC:KwOk P C):∀ (m:RM) {T:List Acc} {U:List Up} {T':List Acc} {K:List Up→List Acc→Prop},m.ex C G T=some (U,T')→K U T'→m.wp (CallE P) G T K
 | .ret U,T,U',T',K,h,hk=>by simp only [ex_ret,Option.some.injEq,Prod.mk.injEq] at h;obtain ⟨rfl,rfl⟩:=h;exact hk
 | .fail,T,U',T',K,h,hk=>by cases h
 | .ask b o k,T,U',T',K,h,hk=>by
   simp only [ex_ask,ex_peek,ex_call] at h
   split at h
   ·rename_i v hv
    split at h
    ·rename_i hok;exact ⟨v,hv,hok,RM.ex_wp hC _ h hk⟩
    ·cases h
   ·cases h
 | .peek b k,T,U',T',K,h,hk=>by
   simp only [ex_ask,ex_peek,ex_call] at h
   split at h
   ·rename_i v hv;exact ⟨v,hv,RM.ex_wp hC _ h hk⟩
   ·cases h
 | .call g args outs k,T,U',T',K,h,hk=>by
   simp only [ex_ask,ex_peek,ex_call] at h
   split at h
   ·rename_i r o hr;exact ⟨r,o,hC _ _ _ _ _ hr,RM.ex_wp hC _ h hk⟩
   ·cases h
noncomputable def exOps (C:Kw) (c:Cfg) (ops:Array Oper) (draw:Bool) (K:List Lg→Sta→ExR):List Oper→Nat→List Lg→Sta→ExR
 | [],_,log,G=>K log G
 | o :: r,i,log,G=>match (guardRM c ops o).ex C G [] with
   | some (U,T)=>appsX U G fun U G'=>exOps C c ops draw K r (i+1) (match draw with | true=>log++[⟨i,T++Ups.refs U,Ups.writes U⟩] | false=>[]) G'
   | none=>none
theorem exOps_runs {C:Kw} {c:Cfg} {ops:Array Oper} {draw:Bool} {K:List Lg→Sta→ExR} (hC:KwOk P C):∀ (r:List Oper) {p:List Oper} {log:List Lg} {G:Sta} {z:Ex×Sta},ops.toList=p++r→exOps C c ops draw K r p.length log G=some z→
 ∃ es G' log',es.map (·.i)=List.range' p.length r.length∧Runs (CallE P) (stepRM c ops) es G G'∧K log' G'=some z∧(draw=true→log'=log++es.map Ent.lg)
 | [],p,log,G,z,hp,h=>⟨[],G,log,rfl,rfl,h,fun _=>by simp⟩
 | o :: r,p,log,G,z,hp,h=>by
   have hop:ops[p.length]?=some o:=by
    rw [← Array.getElem?_toList,hp,List.getElem?_append_right (Nat.le_refl _)];simp
   unfold exOps at h
   split at h
   ·rename_i U T h1
    rw [appsX_eq] at h
    have hl:(p++[o]).length=p.length+1:=by simp
    rw [← hl] at h
    obtain ⟨es,G',log',e1,e2,e3,e4⟩:=exOps_runs hC r (p:=p++[o]) (by rw [hp];simp) h
    refine ⟨⟨p.length,U,T⟩ :: es,G',log',by simp [e1,List.range'_succ],⟨?_,e2⟩,e3,fun hd=>?_⟩
    ·rw [step_guard hop]
     exact RM.ex_wp hC _ h1 ⟨rfl,rfl⟩
    ·rw [e4 hd];subst hd;simp [Ent.lg,Ent.reads]
   ·cases h
noncomputable def exReg (C:Kw) (c:Cfg) (mk:Nat) (ops:Array Oper) (draw:Bool) (G:Sta):ExR:=
 exOps C c ops draw (fun log G'=>match draw with
  | true=>match topo ops && (ancOk ops (tabOf ops) && logOk (tabOf ops) log) with
    | true=>dropX mk G' fun G'=>some (.normal,G')
    | false=>none
  | false=>dropX mk G' fun G'=>some (.normal,G')) ops.toList 0 [] G
theorem exReg_sem {C:Kw} {c:Cfg} (hc:COk P c) (hC:KwOk P C) {id:Nat} {ops:Array Oper} {draw:Bool} {G:Sta} {e:Ex} {G':Sta} {K:Ex→Sta→Prop} {mk:Nat} (h:exReg C c mk ops draw G=some (e,G')) (hk:K e G'):Sem P c (.region id ops draw) G K:=by
 intro own a w F n Q hF s hQ
 obtain ⟨es,G1,log,e1,e2,e3,e4⟩:=exOps_runs (P:=P) hC (p:=[]) _ rfl h
 have hd:e=.normal∧dropN (deadB mk) G1=G'∧(draw=true→topo ops=true∧ancOk ops (tabOf ops)=true∧logOk (tabOf ops) log=true):=by
  cases draw with
  | true=>
    dsimp only at e3
    split at e3
    ·rename_i hb
     simp only [Bool.and_eq_true] at hb
     simp only [dropX_eq,Option.some.injEq,Prod.mk.injEq] at e3
     exact ⟨e3.1.symm,e3.2,fun _=>hb⟩
    ·cases e3
  | false=>
    simp only [dropX_eq,Option.some.injEq,Prod.mk.injEq] at e3
    exact ⟨e3.1.symm,e3.2,fun h=>by cases h⟩
 obtain ⟨rfl,rfl,hd⟩:=hd
 have e1:es.map (·.i)=List.range ops.size:=by rw [e1,List.range_eq_range'];simp
 have hlt:∀ x∈es,x.i < ops.size:=fun x hx=>by
  have:x.i∈es.map (·.i):=List.mem_map.2 ⟨x,hx,rfl⟩
  rw [e1] at this;exact List.mem_range.1 this
 have fin:∀ own' a' w',St P c.nt G1 own' a' w'→Tr own w own' w'→a'.defers=a.defers→Q .normal a' w':=fun own' a' w' s' t' d'=>hQ .normal _ own' a' w' hk (s'.drop _) t' (.same d')
 cases draw with
 | true=>
   obtain ⟨htopo,htab,hlog⟩:=hd rfl
   obtain ⟨s1,t1⟩:=s.drawn (w.drawn+1)
   refine wpIn_region_any hc.ro ?_
   refine runs_any hc.cfg hc.ip (fun _ _ _ _ _ h=>h) hF.1 htopo ops.size es (by have:=congrArg List.length e1;simp at this;omega) (by simp) ?_ ?_ hlt (by rw [e1];exact List.pairwise_lt_range) (entOkB_spec htopo htab hlt (by rw [e4 rfl,List.nil_append] at hlog;exact hlog)) s1 e2
    (fun own' a' w' s' t' d'=>fin own' a' w' s' (t1.trans t') d')
   ·intro i o ho hl
    have hi:=(Array.getElem?_eq_some_iff.1 ho).1
    simp [Array.getD_eq_getD_getElem?,hi] at hl
   ·intro i hi
    rw [e1];simp [Array.getD_eq_getD_getElem?,hi]
 | false=>
   refine wpIn_region ?_
   rw [← e1]
   exact runs_text hc.cfg hc.ip (fun _ _ _ _ _ h=>h) hF.1 es s e2 fin
noncomputable def condB (x:Operand) (G:Sta):Option Bool:=match x with
 | .tmp t=>match getX G (tb t) with
   | some (.f (.pv (.bool b)))=>some b
   | _=>none
 | .const (.bool b)=>some b
 | _=>none
noncomputable def exStep (c:Cfg) (mk:Nat) (C:Kw) (ih:Code→Sta→ExR) (x:Code) (G:Sta):ExR:=
 match x with
 | .skip=>some (.normal,G)
 | .region _ ops draw=>exReg C c mk ops draw G
 | .seq x y=>match ih x G with
   | some (.normal,G')=>ih y G'
   | r=>r
 | .cond b x y=>match condB b G with
   | some true=>ih x G
   | some false=>ih y G
   | none=>none
 | .block id x=>match ih x G with
   | some (.exit j,G')=>match Nat.beq j id with
     | true=>some (.normal,G')
     | false=>some (.exit j,G')
   | r=>r
 | .loop x=>match ih x G with
   | some (.normal,G')=>ih (.loop x) G'
   | r=>r
 | .exit id=>some (.exit id,G)
 | .ret=>some (.ret,G)
 | .label _=>some (.normal,G)
 | _=>none
noncomputable def exC (c:Cfg) (mk:Nat) (C:Kw) (n:Nat):Code→Sta→ExR:=Nat.rec (fun _ _=>none) (fun _ ih=>exStep c mk C ih) n
theorem exC_sem {C:Kw} {c:Cfg} {mk:Nat} (hc:COk P c) (hC:KwOk P C):∀ (n:Nat) (m:Nat) (x:Code) {G:Sta} {e:Ex} {G':Sta} {K:Ex→Sta→Prop},m≤n→exC c mk C m x G=some (e,G')→K e G'→Sem P c x G K
 | _,0,_,_,_,_,_,_,h,_=>by cases h
 | 0,m+1,_,_,_,_,_,hm,_,_=>absurd hm (by omega)
 | n+1,m+1,x,G,e,G',K,hm,h,hk=>by
   have ih:=fun (x:Code) {G:Sta} {e:Ex} {G':Sta} {K:Ex→Sta→Prop} (h:exC c mk C m x G=some (e,G')) (hk:K e G')=>exC_sem hc hC n m x (by omega) h hk
   change exStep c mk C (exC c mk C m) x G=some (e,G') at h
   unfold exStep at h
   split at h
   ·simp only [Option.some.injEq,Prod.mk.injEq] at h;obtain ⟨rfl,rfl⟩:=h;exact Sem.skip Wk.refl hk
   ·exact exReg_sem hc hC h hk
   ·rename_i x y
    split at h
    ·rename_i G1 h1
     exact Sem.seq (ih x h1 (ih y h hk))
    ·rename_i h1
     refine Sem.seq (ih x h ?_)
     cases e with
     | normal=>exact absurd h (h1 _)
     | _=>exact hk
   ·rename_i b x y
    split at h
    ·rename_i hb
     unfold condB at hb
     simp only [getX_eq] at hb
     split at hb
     ·split at hb
      ·rename_i hg;cases hb
       exact Sem.cond hg (fun _=>ih x h hk) (fun e=>by cases e)
      ·cases hb
     ·cases hb;exact Sem.condc (fun _=>ih x h hk) (fun e=>by cases e)
     ·cases hb
    ·rename_i hb
     unfold condB at hb
     simp only [getX_eq] at hb
     split at hb
     ·split at hb
      ·rename_i hg;cases hb
       exact Sem.cond hg (fun e=>by cases e) (fun _=>ih y h hk)
      ·cases hb
     ·cases hb;exact Sem.condc (fun e=>by cases e) (fun _=>ih y h hk)
     ·cases hb
    ·cases h
   ·rename_i id x
    refine Sem.block ?_
    split at h
    ·rename_i j G1 h1
     refine ih x h1 ?_
     simp only [blockK]
     split at h
     ·rename_i hj
      simp only [Option.some.injEq,Prod.mk.injEq] at h;obtain ⟨rfl,rfl⟩:=h
      rw [if_pos (Nat.eq_of_beq_eq_true hj)];exact hk
     ·rename_i hj
      simp only [Option.some.injEq,Prod.mk.injEq] at h;obtain ⟨rfl,rfl⟩:=h
      rw [if_neg (fun e=>by rw [e] at hj;simp at hj)];exact hk
    ·rename_i h1
     refine ih x h ?_
     cases e with
     | exit j=>exact absurd h (h1 _ _)
     | _=>exact hk
   ·rename_i x
    refine Sem.loop (σ:=Nat×Sta) (fun s=>s.2) (fun s=>s.1≤m+1∧exC c mk C s.1 (.loop x) s.2=some (e,G')) (fun s=>s.1) (m+1,G) Wk.refl ⟨Nat.le_refl _,h⟩ ?_
    rintro ⟨k,S⟩ ⟨hk1,hk2⟩
    cases k with
    | zero=>cases hk2
    | succ k=>
      dsimp only at hk1 hk2 ⊢
      change (match exC c mk C k x S with
       | some (.normal,G')=>exC c mk C k (.loop x) G'
       | r=>r)=some (e,G') at hk2
      split at hk2
      ·rename_i G1 h1
       exact exC_sem hc hC n k x (by omega) h1 ⟨(k,G1),Wk.refl,⟨by show k≤m+1;omega,hk2⟩,Nat.lt_succ_self _⟩
      ·rename_i h1
       refine exC_sem hc hC n k x (by omega) hk2 ?_
       cases e with
       | normal=>exact absurd hk2 (h1 _)
       | _=>exact hk
   ·simp only [Option.some.injEq,Prod.mk.injEq] at h;obtain ⟨rfl,rfl⟩:=h;exact Sem.exit Wk.refl hk
   ·simp only [Option.some.injEq,Prod.mk.injEq] at h;obtain ⟨rfl,rfl⟩:=h;exact Sem.ret Wk.refl hk
   ·simp only [Option.some.injEq,Prod.mk.injEq] at h;obtain ⟨rfl,rfl⟩:=h;exact Sem.label Wk.refl hk
   ·cases h
def noK:Kw:=fun _ _ _=>none
theorem noK_ok:KwOk P noK:=fun _ _ _ _ _ h=>by cases h
noncomputable def exEnd (c:Cfg) (rs:List ResultVar) (n:Nat) (e:Ex) (G:Sta):Option (AV×List AV):=
 match e with
 | .exit _=>none
 | _=>match (resRM c rs).ex noK G [] with
   | some (.set _ x :: W,_)=>match evOuts n 0 (app W G) with
     | some l=>fAV 5 x fun x=>fList (fAV 5) l fun l=>some (x,l)
     | none=>none
   | _=>none
theorem RM.ex_wq {CE:CEx} {G:Sta}:∀ (m:RM) {T:List Acc} {U:List Up} {T':List Acc} {K:List Up→Prop},m.ex noK G T=some (U,T')→K U→m.wq CE G K
 | .ret U,T,U',T',K,h,hk=>by simp only [ex_ret,Option.some.injEq,Prod.mk.injEq] at h;obtain ⟨rfl,rfl⟩:=h;exact hk
 | .fail,T,U',T',K,h,hk=>by cases h
 | .ask b o k,T,U',T',K,h,hk=>by
   simp only [ex_ask,ex_peek,ex_call] at h
   split at h
   ·rename_i v hv
    split at h
    ·rename_i hok
     simp only [RM.wq,hv];exact ⟨hok,RM.ex_wq _ h hk⟩
    ·cases h
   ·cases h
 | .peek b k,T,U',T',K,h,hk=>by
   simp only [ex_ask,ex_peek,ex_call] at h
   split at h
   ·rename_i v hv;simp only [RM.wq,hv];exact RM.ex_wq _ h hk
   ·cases h
 | .call g args outs k,T,U',T',K,h,hk=>by cases h
theorem exEnd_endK {c:Cfg} {rs:List ResultVar} {n:Nat} {e:Ex} {G:Sta} {x:AV} {l:List AV} {R:AV→List AV→Prop} {CE:CEx} (h:exEnd c rs n e G=some (x,l)) (hR:R x l):endK CE c rs n R e G:=by
 unfold exEnd at h
 split at h
 ·cases h
 ·rename_i he
  split at h
  ·rename_i b x1 W T h1
   split at h
   ·rename_i l1 hl
    rw [fAV_eq,fList_eq (fAV_eq 5)] at h
    simp only [Option.some.injEq,Prod.mk.injEq] at h;obtain ⟨rfl,rfl⟩:=h
    have:=RM.ex_wq (CE:=CE) (K:=endU n R G) _ h1 (evOuts_spec hl hR)
    cases e with
    | exit id=>exact absurd rfl (he id)
    | normal=>exact this
    | ret=>exact this
   ·cases h
  ·cases h
structure XOk (P:Program) (cfg:FuncId→Nat→Cfg):Prop where
 ok:∀ g nt,COk P (cfg g nt)
 nt:∀ g nt,(cfg g nt).nt=nt
noncomputable def exF (P:Program) (cfg:FuncId→Nat→Cfg) (mks:FuncId→Nat) (K0:Kw) (m:Nat) (n:Nat):Kw:=
 Nat.rec (fun _ _ _=>none) (fun _ ih g args outs=>match K0 g args outs with
  | some r=>some r
  | none=>match P.funcs[g]? with
    | none=>none
    | some fn=>match fn.body with
      | none=>none
      | some x=>match !(fn.name == "runtime.NumGoroutine") && (Nat.ble args.length fn.ntmps && (args.all (shut1 false fun _=>true) && (outs.all (shut1 true fun _=>true) && Nat.ble (args.length+outs.length) 64))) with
        | false=>none
        | true=>fSta (fAV 5) (entryF 64 0 args outs) fun G=>match exC (cfg g fn.ntmps) (mks g) ih m x G with
          | some (e,G')=>exEnd (cfg g fn.ntmps) fn.results.toList outs.length e G'
          | none=>none) n
theorem exF_ok {cfg:FuncId→Nat→Cfg} {mks:FuncId→Nat} {K0:Kw} (hx:XOk P cfg) (h0:KwOk P K0) (m:Nat):∀ n,KwOk P (exF P cfg mks K0 m n)
 | 0=>noK_ok
 | n+1=>fun g args outs r o h=>by
   change (match K0 g args outs with
    | some r=>some r
    | none=>match P.funcs[g]? with
      | none=>none
      | some fn=>match fn.body with
        | none=>none
        | some x=>match !(fn.name == "runtime.NumGoroutine") && (Nat.ble args.length fn.ntmps && (args.all (shut1 false fun _=>true) && (outs.all (shut1 true fun _=>true) && Nat.ble (args.length+outs.length) 64))) with
          | false=>none
          | true=>fSta (fAV 5) (entryF 64 0 args outs) fun G=>match exC (cfg g fn.ntmps) (mks g) (exF P cfg mks K0 m n) m x G with
            | some (e,G')=>exEnd (cfg g fn.ntmps) fn.results.toList outs.length e G'
            | none=>none)=some (r,o) at h
   split at h
   ·rename_i hk;cases h;exact h0 _ _ _ _ _ hk
   ·split at h
    ·cases h
    ·rename_i fn hfn
     split at h
     ·cases h
     ·rename_i x hx1
      split at h
      ·cases h
      ·rename_i hb
       rw [fSta_eq (fAV_eq 5)] at h
       simp only [Bool.and_eq_true,Bool.not_eq_true'] at hb
       obtain ⟨b1,b2,b3,b4,b5⟩:=hb
       split at h
       ·rename_i e G' he
        refine callE_semW (hx.ok g fn.ntmps) hfn b1 hx1 (hx.nt g _) (Nat.le_of_ble_eq_true b2) b3 b4 (Nat.le_of_ble_eq_true b5) ?_
        refine exC_sem (hx.ok g _) (exF_ok hx h0 m n) m m x (Nat.le_refl _) he ⟨G',Wk.refl,exEnd_endK h ⟨rfl,rfl⟩⟩
       ·cases h
end Go.Ev
set_option linter.unusedVariables false
namespace Go.Ev
open Go
def insI (x:Int):List Int→List Int
 | []=>[x]
 | y :: r=>match decide (x≤y) with
   | true=>x :: y :: r
   | false=>y :: insI x r
def isort:List Int→List Int
 | []=>[]
 | x :: r=>insI x (isort r)
theorem insI_perm (x:Int):∀ l,List.Perm (insI x l) (x :: l)
 | []=>.refl _
 | y :: r=>by
   unfold insI
   split
   ·exact .refl _
   ·exact ((insI_perm x r).cons y).trans (.swap x y r)
theorem isort_perm:∀ l,List.Perm (isort l) l
 | []=>.refl _
 | x :: r=>(insI_perm x _).trans ((isort_perm r).cons x)
theorem insI_sorted (x:Int):∀ l,l.Pairwise (·≤·)→(insI x l).Pairwise (·≤·)
 | [],_=>by simp [insI]
 | y :: r,h=>by
   rw [List.pairwise_cons] at h
   unfold insI
   split
   ·rename_i hxy
    have hxy:=of_decide_eq_true hxy
    refine List.pairwise_cons.2 ⟨fun z hz=>?_,List.pairwise_cons.2 h⟩
    rcases List.mem_cons.1 hz with rfl | hz
    ·exact hxy
    ·exact Int.le_trans hxy (h.1 z hz)
   ·rename_i hxy
    have hxy:=of_decide_eq_false hxy
    refine List.pairwise_cons.2 ⟨fun z hz=>?_,insI_sorted x r h.2⟩
    rcases List.mem_cons.1 ((insI_perm x r).mem_iff.1 hz) with rfl | hz
    ·omega
    ·exact h.1 z hz
theorem isort_sorted:∀ l,(isort l).Pairwise (·≤·)
 | []=>.nil
 | x :: r=>insI_sorted x _ (isort_sorted r)
theorem isort_eq (l:List Int):isort l=sortInts l:=by
 refine List.Perm.eq_of_pairwise (le:=(·≤·)) (fun a b _ _ h1 h2=>Int.le_antisymm h1 h2) (isort_sorted l) ?_ ((isort_perm l).trans (List.mergeSort_perm l _).symm)
 have:=List.pairwise_mergeSort (le:=fun x y:Int=>decide (x≤y)) (fun a b c h1 h2=>by simp at *;omega) (fun a b=>by simp;omega) l
 exact this.imp fun h=>of_decide_eq_true h
def sortF2 (l:List FV):Option (List FV):=match fvInts l with
 | some zs=>match Nat.blt zs.length (2 ^ 40) with
   | true=>some ((isort zs).map fun n=>.pv (.int .i64 n))
   | false=>none
 | none=>none
theorem sortF2_eq:sortF2=sortF:=by
 funext l
 unfold sortF2 sortF
 cases fvInts l with
 | none=>rfl
 | some zs=>
   dsimp only
   by_cases h:zs.length < 2 ^ 40
   ·rw [if_pos h,show Nat.blt zs.length (2 ^ 40)=true from by simp [Nat.blt_eq,h],isort_eq]
   ·rw [if_neg h,show Nat.blt zs.length (2 ^ 40)=false from by rw [Bool.eq_false_iff];simpa [Nat.blt_eq] using h]
def cfgX (c:Cfg) (g0:FuncId):Cfg:={ c with ip:=fun g=>match Nat.beq g g0 with
 | true=>some (sortF2,false)
 | false=>c.ip g }
theorem cfgX_ok {P:Program} {c:Cfg} {g0:FuncId} (hc:COk P c) (h:c.ip g0=some (sortF,false)):COk P (cfgX c g0):=by
 have:cfgX c g0=c:=by
  unfold cfgX
  cases c
  simp only [Cfg.mk.injEq,true_and,and_true] at h ⊢
  funext g
  split
  ·rename_i e
   rw [Nat.eq_of_beq_eq_true e,h,sortF2_eq]
  ·rfl
 rw [this];exact hc
def mvT:List (Nat×List Nat)→Nat→List Nat
 | [],_=>[]
 | (a,l) :: r,g=>match Nat.beq a g with
   | true=>l
   | false=>mvT r g
def mkT:List (Nat×Nat)→Nat→Nat
 | [],_=>2 ^ 300 - 1
 | (a,l) :: r,g=>match Nat.beq a g with
   | true=>l
   | false=>mkT r g
def eqL {α:Type} (f:α→α→Bool):List α→List α→Bool
 | [],[]=>true
 | x :: r,y :: s=>match f x y with
   | true=>eqL f r s
   | false=>false
 | _,_=>false
theorem eqL_eq {α:Type} {f:α→α→Bool} (h:∀ x y,f x y=true→x=y):∀ {l m:List α},eqL f l m=true→l=m
 | [],[],_=>rfl
 | x :: r,y :: s,e=>by
   unfold eqL at e
   split at e
   ·rename_i hx;rw [h x y hx,eqL_eq h e]
   ·cases e
 | [],_ :: _,e=>by cases e
 | _ :: _,[],e=>by cases e
def eqI (a b:Int):Bool:=match a,b with
 | .ofNat a,.ofNat b=>Nat.beq a b
 | .negSucc a,.negSucc b=>Nat.beq a b
 | _,_=>false
theorem eqI_eq {a b:Int} (h:eqI a b=true):a=b:=by
 unfold eqI at h
 split at h
 ·rw [Nat.eq_of_beq_eq_true h]
 ·rw [Nat.eq_of_beq_eq_true h]
 ·cases h
def eqVal (x y:Value):Bool:=match x,y with
 | .int k a,.int k' b=>decide (k=k') && eqI a b
 | .bool true,.bool true=>true
 | .bool false,.bool false=>true
 | .string a,.string b=>eqL (fun (x y:UInt8)=>Nat.beq x.toNat y.toNat) a.data.toList b.data.toList
 | _,_=>false
theorem eqVal_eq {x y:Value} (h:eqVal x y=true):x=y:=by
 unfold eqVal at h
 split at h
 ·simp only [Bool.and_eq_true,decide_eq_true_eq] at h;rw [h.1,eqI_eq h.2]
 ·rfl
 ·rfl
 ·rename_i a b
  have:=eqL_eq (fun x y e=>UInt8.toNat_inj.1 (Nat.eq_of_beq_eq_true e)) h
  obtain ⟨⟨a⟩⟩:=a
  obtain ⟨⟨b⟩⟩:=b
  simp only at this
  rw [this]
 ·cases h
def eqFV:Nat→FV→FV→Bool
 | 0,_,_=>false
 | n+1,x,y=>match x,y with
   | .pv a,.pv b=>eqVal a b
   | .agg l,.agg m=>eqL (eqFV n) l m
   | .sl l,.sl m=>eqL (eqFV n) l m
   | _,_=>false
theorem eqFV_eq:∀ (n:Nat) (x y:FV),eqFV n x y=true→x=y
 | 0,_,_,h=>by cases h
 | n+1,x,y,h=>by
   unfold eqFV at h
   split at h
   ·rw [eqVal_eq h]
   ·rw [eqL_eq (eqFV_eq n) h]
   ·rw [eqL_eq (eqFV_eq n) h]
   ·cases h
def eqAV:Nat→AV→AV→Bool
 | 0,_,_=>false
 | n+1,x,y=>match x,y with
   | .f a,.f b=>eqFV 60 a b
   | .agg l,.agg m=>eqL (eqAV n) l m
   | .tup l,.tup m=>eqL (eqAV n) l m
   | _,_=>false
theorem eqAV_eq:∀ (n:Nat) (x y:AV),eqAV n x y=true→x=y
 | 0,_,_,h=>by cases h
 | n+1,x,y,h=>by
   unfold eqAV at h
   split at h
   ·rw [eqFV_eq _ _ _ h]
   ·rw [eqL_eq (eqAV_eq n) h]
   ·rw [eqL_eq (eqAV_eq n) h]
   ·cases h
def addK (C:Kw) (g0:FuncId) (a0:List AV) (r0:AV):Kw:=fun g args outs=>match Nat.beq g g0 with
 | false=>C g args outs
 | true=>match outs with
   | []=>match eqL (eqAV 3) args a0 with
     | true=>some (r0,[])
     | false=>C g args outs
   | _=>C g args outs
theorem addK_ok {P:Program} {C:Kw} {g0:FuncId} {a0:List AV} {r0:AV} (hC:KwOk P C) (h0:CallE P g0 a0 [] r0 []):KwOk P (addK C g0 a0 r0):=by
 intro g args outs r o h
 unfold addK at h
 split at h
 ·exact hC _ _ _ _ _ h
 ·rename_i hg
  split at h
  ·split at h
   ·rename_i he
    simp only [Option.some.injEq,Prod.mk.injEq] at h
    obtain ⟨rfl,rfl⟩:=h
    rw [Nat.eq_of_beq_eq_true hg,eqL_eq (eqAV_eq 3) he];exact h0
   ·exact hC _ _ _ _ _ h
  ·exact hC _ _ _ _ _ h
end Go.Ev
set_option linter.unusedSimpArgs false
set_option linter.unusedVariables false
namespace Go.Ev
open Go Go.Proofs
def mvTab:List (Nat×List Nat):=[(7,[141]),(8,[49]),(9,[31]),(10,[28,59]),(13,[19]),(18,[18]),(23,[21,39,47,48]),(24,[85,86]),(28,[45,61]),(30,[62]),(31,[28]),(33,[40]),(35,[80]),(37,[74]),(40,[26]),(41,[50]),(50,[60]),(52,[85]),(54,[84]),(55,[38]),(56,[11]),(59,[22]),(67,[22]),(70,[12]),(72,[40]),(74,[99,159]),(76,[17]),(77,[17]),(79,[35]),(91,[37,68]),(92,[17]),(97,[16]),(98,[34]),(100,[16]),(101,[26]),(108,[17]),(109,[20]),(111,[17]),(113,[41]),(114,[75]),(120,[17]),(122,[4])]
def mkTab:List (Nat×Nat):=[(6,75663830877394306174975),(7,1717546475004171485484442572075780560381951),(8,1094156190546943),(9,21303391),(10,365515997340883455),(11,415),(12,1720048800366591),(13,970687),(14,991),(15,827304666842329471),(16,2127),(17,156543),(18,287),(19,45119),(20,1246180066586631010303),(21,22440920856670463),(22,182519825271200419703983765723122025471),(23,48705928839167),(24,20769374479943885436092415),(25,1069352461359706520575),(26,91861730047),(27,2611899615),(28,4198966582730863103),(29,2127),(30,6595090301555572669),(31,503316351),(32,245631),(33,575735489279),(34,103),(35,32012181013889739044351),(36,44717439),(37,35568957268767864651903),(38,103),(39,366884988728372564664010998062997922430463),(40,14222911),(41,2098614184710143),(42,32767),(43,44717439),(44,7),(45,127),(46,127),(47,15),(48,2105343),(49,783),(50,1034750495697600511),(51,16415),(52,46776595544969660462940927),(53,2033016789861426175),(54,26483012487235437344062975),(55,404633387007),(56,3951),(57,115837),(58,45659165119),(59,458367),(60,796878719),(61,1791),(62,16415),(63,63),(64,16383),(65,1015679),(66,15),(67,7078271),(68,237382586126004735),(69,1151),(70,2319),(71,290184631),(72,2181808166271),(73,63),(74,1459996639440916079562133290943170518297767444479),(75,103),(76,89087),(77,121855),(78,804978687),(79,51526074367),(80,1073742063),(81,33311),(82,6771418607615),(83,69341631),(84,214746687),(85,127),(86,2144634104195964678593313791),(87,3813328480645375),(88,67775),(89,581127330000383),(90,127),(91,34027325145605147099135),(92,87039),(95,15),(96,305439),(97,98847),(98,32689427039),(99,32919),(100,111199),(101,120153471),(102,4239),(103,4870847),(105,7),(106,7),(107,25437071),(108,121855),(109,1454079),(110,4361359),(111,121855),(113,4398032355071),(114,71461516959638126311422),(117,370975),(118,7),(119,527671295),(120,194559),(121,15),(122,31),(134,370975)]
noncomputable def cfx (g:FuncId) (nt:Nat):Cfg:=cfgX (cf (mvT mvTab g) nt) 93
theorem cfx_ok:XOk Try.prog cfx:=⟨fun g nt=>cfgX_ok (cfOk _ nt) rfl,fun _ _=>rfl⟩
end Go.Ev
set_option linter.unusedSimpArgs false
set_option linter.unusedVariables false
namespace Go.Ev.Pl
open Go Go.Ev Go.Proofs
theorem ss_len {n:Nat}:∀ {l:List Int} {k:Int},SS l→(∀ x∈l,k≤x∧x < n)→k≤n→(l.length:Int)≤n - k
 | [],k,_,_,hk=>by simp;omega
 | x :: r,k,h,hx,hk=>by
   have hc:=List.pairwise_cons.1 h
   have h0:=hx x (List.mem_cons_self ..)
   have:=ss_len (k:=x+1) hc.2 (fun y hy=>⟨by have:=hc.1 y hy;omega,(hx y (List.mem_cons_of_mem _ hy)).2⟩) (by omega)
   simp only [List.length_cons];omega
def nmA:ByteArray:={ data:=#[(73:UInt8),(78:UInt8),(73:UInt8),(84:UInt8),(73:UInt8),(65:UInt8),(76:UInt8)] }
def nmB:ByteArray:={ data:=#[(66:UInt8)] }
def nmC:ByteArray:={ data:=#[(67:UInt8),(95:UInt8),(49:UInt8)] }
theorem name_a:C_read_Name nmA true:=exF_ok (mks:=mkT mkTab) cfx_ok noK_ok 400 5 80 [vS nmA] [] _ [] (by kernel_rfl)
theorem name_b:C_read_Name nmB true:=exF_ok (mks:=mkT mkTab) cfx_ok noK_ok 400 5 80 [vS nmB] [] _ [] (by kernel_rfl)
theorem name_c:C_read_Name nmC true:=exF_ok (mks:=mkT mkTab) cfx_ok noK_ok 400 5 80 [vS nmC] [] _ [] (by kernel_rfl)
def spr (r:api_Rule):spec_rule:=⟨r.Conds,r.All,r.Bol,r.Rx,r.Trail,r.Eof,r.Act,r.To⟩
theorem holds_ok {r:api_Rule} {n:Nat} (h:FitRule n r) (hn:n≤100):C_spec_rule_holds (spr r) n true:=by
 have hlen:r.Conds.length≤n:=by
  have:=ss_len (n:=n) (k:=0) h.conds.1 h.conds.2 (by omega);omega
 refine W_spec_rule_holds (spr r) n _ ⟨fun t=>∃ k:Nat,t=k∧k≤r.Conds.length,fun t=>(r.Conds.length - t).toNat,⟨0,rfl,by omega⟩,?_⟩
 rintro t ⟨k,rfl,hk⟩
 show (decide ((k:Int) < (r.Conds.length:Int))=true→_)∧(decide ((k:Int) < (r.Conds.length:Int))=false→_)
 rw [lt_cast]
 refine ⟨fun ht=>?_,fun ht=>?_⟩
 ·have ht:=of_decide_eq_true ht
  have hg:gd (spr r).Conds (k:Int)=r.Conds[k]:=gd_nat ht
  have hin:=h.conds.2 _ (List.getElem_mem ht)
  have hkm:decide ((k:Int) > 0)=true→w64 ((k:Int) - 1)=((k - 1:Nat):Int):=fun h=>by
   have:=of_decide_eq_true h
   rw [w64_id (by omega) (by omega)];omega
  rw [hg,show w64 ((k:Int)+1)=((k+1:Nat):Int) from w64_id (by omega) (by omega)]
  refine ⟨by omega,by show (k:Int) < (r.Conds.length:Int);omega,fun _ _ h=>by rw [hkm h];omega,fun _ _ h=>by rw [hkm h];show ((k - 1:Nat):Int) < (r.Conds.length:Int);omega,fun hb=>?_,fun _=>⟨⟨k+1,rfl,by omega⟩,by first | omega | (dsimp only;omega)⟩⟩
  exfalso
  simp only [Bool.or_eq_true,Bool.and_eq_true,decide_eq_true_eq] at hb
  rcases hb with hb | hb | ⟨h0,hb⟩
  ·omega
  ·omega
  ·have hk1:k - 1 < r.Conds.length:=by omega
   rw [hkm (by simpa using h0),show gd (spr r).Conds ((k - 1:Nat):Int)=r.Conds[k - 1] from gd_nat hk1] at hb
   have:=List.pairwise_iff_getElem.1 h.conds.1 (k - 1) k hk1 ht (by omega)
   omega
 ·show true=(!r.All || (r.Conds.length:Int) == 0)
  cases ha:r.All with
  | false=>rfl
  | true=>rw [h.all ha];rfl
theorem does_ok {r:api_Rule} {n:Nat} (h:FitRule n r):C_spec_rule_does (spr r) n true:=by
 obtain ⟨t0,t1,t2⟩:=h.to
 obtain ⟨a1,a2⟩:=h.act
 refine W_spec_rule_does (spr r) n _ ⟨fun _=>?_,fun h3=>?_⟩
 ·show true=(decide (r.To≥0) && decide (r.To < (n:Int)))
  simp [t0,t1]
 ·have h3:¬ r.Act=3:=by simpa [spr] using h3
  have ht:=t2 h3
  show true=(bif r.Act == 1 then r.To == 0 else r.Act == 2 && r.To == 0)
  rw [ht]
  rcases show r.Act=1∨r.Act=2 by omega with h | h<;>rw [h]<;>rfl
theorem none_z:C_spec_none zRx true:=W_spec_none zRx _ (by rfl)
theorem none_k {x:api_Rx} (h:¬ x.Kind=0):C_spec_none x false:=W_spec_none x _ (by
 have:(x.Kind == 0)=false:=by simpa using h
 rw [this];rfl)
theorem matches_ok {r:api_Rule} {n:Int} (h:FitRule n r):C_spec_rule_matches (spr r) true:=by
 refine W_spec_rule_matches (spr r) _ ⟨fun he=>⟨fun _=>?_,fun hb=>?_⟩,fun he=>?_⟩
 ·rcases h.body with ⟨h1,h2,h3,h4⟩ | ⟨h1,-⟩
  ·refine ⟨true,(by show C_spec_none r.Rx true;rw [h3];exact none_z),fun _=>⟨true,(by show C_spec_none r.Trail true;rw [h4];exact none_z),rfl⟩,(fun h=>by cases h)⟩
  ·have he:r.Eof=true:=he
   rw [h1] at he;cases he
 ·rcases h.body with ⟨h1,h2,h3,h4⟩ | ⟨h1,-⟩
  ·have hb:(!r.Bol)=false:=hb
   rw [h2] at hb;cases hb
  ·have he:r.Eof=true:=he
   rw [h1] at he;cases he
 ·rcases h.body with ⟨h1,-⟩ | ⟨h1,h2,h3⟩
  ·have he:r.Eof=false:=he
   rw [h1] at he;cases he
  ·have hrx:=rxRightAll_ok r.Rx h2.wf
   rw [h2.right] at hrx
   refine ⟨true,hrx,fun _=>?_,(fun h=>by cases h)⟩
   rcases h3 with h3 | h3
   ·exact ⟨true,(by show C_spec_none r.Trail true;rw [h3];exact none_z),fun _=>rfl,(fun h=>by cases h)⟩
   ·have htr:=rxRightAll_ok r.Trail h3.wf
    rw [h3.right] at htr
    exact ⟨false,none_k h3.kind,(fun h=>by cases h),fun _=>⟨true,htr,rfl⟩⟩
theorem odd_r {r:api_Rule} {n:Nat} (h:FitRule n r) (hn:n≤100):C_spec_Right_L1 r n false n:=
 W_spec_Right_L1 r n _ _ ⟨true,holds_ok h hn,(fun h=>by cases h),fun _=>⟨true,does_ok h,(fun h=>by cases h),fun _=>⟨true,matches_ok h,rfl,rfl⟩⟩⟩
theorem odds_ok {rs:List api_Rule} {n:Nat} (h:∀ r∈rs,FitRule n r) (hn:n≤100) (hl:rs.length≤1000):C_slices_ContainsFunc__api_Rule_api_Rule_at_spec_Right_L1 rs n false n:=by
 refine W_slices_ContainsFunc__api_Rule_api_Rule_at_spec_Right_L1 rs n _ _ ⟨-1,n,W_slices_IndexFunc__api_Rule_api_Rule_at_spec_Right_L1 rs n _ _ ⟨fun o t=>o=(n:Int)∧∃ k:Nat,t=k∧k≤rs.length,fun _ t=>(rs.length - t).toNat,⟨rfl,0,rfl,by omega⟩,?_⟩,rfl,rfl⟩
 rintro o t ⟨rfl,k,rfl,hk⟩
 rw [lt_cast]
 refine ⟨fun ht=>?_,fun _=>⟨rfl,rfl⟩⟩
 have ht:=of_decide_eq_true ht
 rw [gd_nat ht,show w64 ((k:Int)+1)=((k+1:Nat):Int) from w64_id (by omega) (by omega)]
 exact ⟨by omega,by omega,false,n,odd_r (h _ (List.getElem_mem ht)) hn,(fun h=>by cases h),fun _=>⟨⟨rfl,k+1,rfl,by omega⟩,by first | omega | (dsimp only;omega)⟩⟩
theorem names_ok (b:Bool):∀ k,k < 3→C_read_Name (([⟨nmA,false⟩,⟨nmB,b⟩,⟨nmC,false⟩]:List api_Cond).getD k default).Name true∧
 sput (([⟨nmA,false⟩,⟨nmB,b⟩,⟨nmC,false⟩]:List api_Cond).getD k default).Name ([nmA,nmB,nmC].take k)=[nmA,nmB,nmC].take (k+1)
 | 0,_=>⟨name_a,by rfl⟩
 | 1,_=>⟨name_b,by show sput nmB [nmA]=[nmA,nmB];unfold sput;rw [if_neg (by decide)];rfl⟩
 | 2,_=>⟨name_c,by show sput nmC [nmA,nmB]=[nmA,nmB,nmC];unfold sput;rw [if_neg (by decide)];unfold sput;rw [if_neg (by decide)];rfl⟩
 | k+3,h=>absurd h (by omega)
theorem specRight_ok (s:api_Spec) (h:FitSpec s):C_spec_Right s true:=by
 obtain ⟨n,b,n1,n3,hC,hlen,hR⟩:=h.conds
 obtain ⟨m1,m2⟩:=h.many
 have hC':s.Conds=List.take n ([⟨nmA,false⟩,⟨nmB,b⟩,⟨nmC,false⟩]:List api_Cond):=hC
 have hget:∀ k,k < n→s.Conds.getD k default=([⟨nmA,false⟩,⟨nmB,b⟩,⟨nmC,false⟩]:List api_Cond).getD k default:=fun k hk=>by
  rw [hC',List.getD_eq_getElem?_getD,List.getD_eq_getElem?_getD,List.getElem?_take,if_pos hk]
 have h0:s.Conds.getD 0 default=⟨nmA,false⟩:=by rw [hget 0 (by omega)];rfl
 refine W_spec_Right s _ ?_
 simp only [List.length_map,hlen]
 refine ⟨fun _ _ _=>by omega,fun hb=>?_,fun _=>⟨fun l t=>∃ k:Nat,t=k∧k≤n∧l=[nmA,nmB,nmC].take k,fun l t=>(n - t).toNat,⟨0,rfl,by omega,rfl⟩,?_⟩⟩
 ·exfalso
  rw [h0] at hb
  have e:(ByteArray.toList (api_Cond.Name ⟨nmA,false⟩) == ByteArray.toList { data:=#[(73:UInt8),(78:UInt8),(73:UInt8),(84:UInt8),(73:UInt8),(65:UInt8),(76:UInt8)] })=true:=beq_self_eq_true _
  rw [e] at hb
  simp only [Bool.or_eq_true,decide_eq_true_eq] at hb
  rcases hb with hb | hb | hb | hb
  ·omega
  ·omega
  ·omega
  ·simp at hb
 rintro l t ⟨k,rfl,hk,rfl⟩
 rw [lt_cast]
 refine ⟨fun ht=>?_,fun ht=>?_⟩
 ·have ht:=of_decide_eq_true ht
  obtain ⟨q1,q2⟩:=names_ok b k (by omega)
  have hg:gd s.Conds (k:Int)=([⟨nmA,false⟩,⟨nmB,b⟩,⟨nmC,false⟩]:List api_Cond).getD k default:=hget k ht
  rw [hg,q2,show w64 ((k:Int)+1)=((k+1:Nat):Int) from w64_id (by omega) (by omega)]
  exact ⟨by omega,by omega,true,q1,(fun h=>by cases h),fun _=>⟨⟨k+1,rfl,by omega,rfl⟩,by first | omega | (dsimp only;omega)⟩⟩
 ·have ht:=of_decide_eq_false ht
  have hk':k=n:=by omega
  subst hk'
  have hl:(([nmA,nmB,nmC].take k).length:Int)=(k:Int):=by rw [List.length_take];simp;omega
  rw [hl]
  exact ⟨fun _=>⟨false,k,odds_ok hR (by omega) (by omega),rfl⟩,fun h=>by simp at h⟩
end Go.Ev.Pl
set_option linter.unusedSimpArgs false
set_option linter.unusedVariables false
namespace Go.Ev.Pl
open Go Go.Ev
theorem nz_fold {f:GA→GA→GA} (hf:∀ a b,(f a b).sets=a.sets++b.sets):∀ (l:List api_Rx) (z:GA) s,s∈(l.foldl (fun o y=>f o (gof y)) z).sets→s∈z.sets∨∃ y∈l,s∈(gof y).sets
 | [],z,s,h=>.inl h
 | y :: l,z,s,h=>by
   rcases nz_fold hf l (f z (gof y)) s h with h | ⟨w,hw,h⟩
   ·rw [hf] at h
    rcases List.mem_append.1 h with h | h
    ·exact .inl h
    ·exact .inr ⟨y,List.mem_cons_self ..,h⟩
   ·exact .inr ⟨w,List.mem_cons_of_mem _ hw,h⟩
theorem sets_nz:∀ x,Rgt x→∀ s∈(gof x).sets,noSet s=false:=by
 refine rxInd fun x ih hr s hs=>?_
 obtain ⟨ho,hk⟩:=rgt_own hr
 rw [gof_eq] at hs
 split at hs
 ·rename_i h
  have hs:s=x.Set:=by simpa [gByte] using hs
  subst hs
  unfold ownB at ho
  rw [if_neg (by omega),if_neg (by omega),if_pos h] at ho
  simp only [Bool.and_eq_true,Bool.not_eq_true'] at ho
  exact ho.1
 ·split at hs
  ·rcases nz_fold (f:=gCat) (fun _ _=>rfl) _ _ _ hs with h | ⟨y,hy,h⟩
   ·simp [gEmpty] at h
   ·exact ih y hy (hk y hy) s h
  ·split at hs
   ·rcases nz_fold (f:=gAlt) (fun _ _=>rfl) _ _ _ hs with h | ⟨y,hy,h⟩
    ·simp [gNone] at h
    ·exact ih y hy (hk y hy) s h
   ·split at hs
    ·rename_i h5
     obtain ⟨⟨k,hkk⟩,h1,h2,h3⟩:=own_rep ho h5
     have hmem:k∈x.Kids:=by rw [hkk];exact List.mem_cons_self ..
     rw [hkk] at hs
     have e:((([k]:List api_Rx).map gof).headD gEmpty)=gof k:=rfl
     rw [e,rep_sets _ h1 (by omega)] at hs
     obtain ⟨l,hl,hs⟩:=List.mem_flatten.1 hs
     rw [List.eq_of_mem_replicate hl] at hs
     exact ih k hmem (hk k hmem) s hs
    ·simp [gEmpty] at hs
theorem gR_nz {r:api_Rule} (h:RBody r):∀ s∈(gR r).sets,noSet s=false:=by
 intro s hs
 unfold gR at hs
 rcases h with h | ⟨h0,h1,h2⟩
 ·rw [if_pos h] at hs;simp [gEmpty] at hs
 ·rw [if_neg (by rw [h0];simp)] at hs
  rcases h2 with h2 | ⟨h2,h3,h4⟩
  ·rw [if_pos h2] at hs;exact sets_nz _ (size_of_right h1.2).1 s hs
  ·rw [if_neg h2] at hs
   rcases List.mem_append.1 hs with hs | hs
   ·exact sets_nz _ (size_of_right h1.2).1 s hs
   ·exact sets_nz _ (size_of_right h4).1 s hs
theorem begM_in {r:api_Rule} (h:RBody r) (a:api_Auto):SS (begM r a)∧∀ x∈begM r a,0≤x∧x < a.Sets.length+(gR r).n:=by
 unfold begM gR
 split
 ·exact ⟨List.Pairwise.nil,fun x hx=>by simp at hx⟩
 ·refine ⟨lst_ss _ _ _,fun x hx=>?_⟩
  obtain ⟨i,hi,_,rfl⟩:=lst_mem.1 hx
  split
  ·omega
  ·have:(gHT (gof r.Rx) (gof r.Trail)).n=(gof r.Rx).n+(gof r.Trail).n:=rfl
   omega
def nR (rs:List api_Rule) (j:Nat):Nat:=(gR (rs.getD j default)).n
structure Acc (rs:List api_Rule) (k:Nat) (a:api_Auto) (bs:List (List Int)):Prop where
 own:∀ x∈a.Owner,0≤x∧x < k
 sets:∀ s∈a.Sets,noSet s=false
 fol:∀ f∈a.Follow,SS f∧∀ x∈f,0≤x∧x < a.Sets.length
 beg:∀ b∈bs,SS b∧∀ x∈b,0≤x∧x < a.Sets.length
 sorted:a.Owner.Pairwise (·≤·)
 count:∀ j:Nat,a.Owner.count (j:Int)=if j < k then nR rs j else 0
 same:∀ (p:Nat) f,a.Follow[p]?=some f→∀ x∈f,a.Owner[x.toNat]?=a.Owner[p]?
theorem acc_ok {rs:List api_Rule} (hr:∀ r∈rs,RBody r):∀ k,k≤rs.length→Acc rs k (accM rs k).1 (accM rs k).2
 | 0,_=>⟨fun x hx=>by simp [accM,zAuto] at hx,fun x hx=>by simp [accM,zAuto] at hx,fun x hx=>by simp [accM,zAuto] at hx,fun x hx=>by simp [accM] at hx,List.Pairwise.nil,fun j=>by simp [accM,zAuto],fun p f h=>by simp [accM,zAuto] at h⟩
 | k+1,hk=>by
   have ih:=acc_ok hr k (by omega)
   obtain ⟨hb,h2,h3,h4⟩:=acc_bd hr k (by omega)
   have hm:rs.getD k default∈rs:=by rw [List.getD_eq_getElem?_getD,List.getElem?_eq_getElem (by omega)];exact List.getElem_mem _
   have hR:=hr _ hm
   have hc:=canon_gR (rs.getD k default)
   obtain ⟨g,hg⟩:=begM_in hR (accM rs k).1
   obtain ⟨a,ha⟩:∃ a,a=(accM rs k).1:=⟨_,rfl⟩
   obtain ⟨r,hrr⟩:∃ r,r=rs.getD k default:=⟨_,rfl⟩
   have hnR:nR rs k=(gR r).n:=by rw [hrr];rfl
   show Acc rs (k+1) (addM (rs.getD k default) k (accM rs k).1) ((accM rs k).2++[begM (rs.getD k default) (accM rs k).1])
   rw [← ha,← hrr] at g hg
   rw [← ha] at ih hb ⊢
   rw [← hrr] at hm hR hc ⊢
   have hS:(addM r k a).Sets.length=a.Sets.length+(gR r).n:=by simp only [addM,List.length_append,hc.sets]
   have hown:=hb.own
   have hfol:=hb.fol
   refine ⟨fun x hx=>?_,fun s hs=>?_,fun f hf=>?_,fun b hb'=>?_,?_,fun j=>?_,fun p f hf x hx=>?_⟩
   ·rcases List.mem_append.1 hx with hx | hx
    ·have:=ih.own x hx;omega
    ·rw [List.eq_of_mem_replicate hx];omega
   ·rcases List.mem_append.1 hs with hs | hs
    ·exact ih.sets s hs
    ·exact gR_nz hR s hs
   ·rw [hS]
    rcases List.mem_append.1 hf with hf | hf
    ·have:=ih.fol f hf;exact ⟨this.1,fun x hx=>by have:=this.2 x hx;omega⟩
    ·simp only [flw,List.mem_map,List.mem_range] at hf
     obtain ⟨i,hi,rfl⟩:=hf
     refine ⟨lst_ss _ _ _,fun x hx=>?_⟩
     obtain ⟨j,hj,_,rfl⟩:=lst_mem.1 hx
     omega
   ·rw [hS]
    rcases List.mem_append.1 hb' with hb' | hb'
    ·have:=ih.beg b hb';exact ⟨this.1,fun x hx=>by have:=this.2 x hx;omega⟩
    ·rw [List.mem_singleton.1 hb'];exact ⟨g,fun x hx=>by have:=hg x hx;omega⟩
   ·refine List.pairwise_append.2 ⟨ih.sorted,?_,fun x hx y hy=>?_⟩
    ·exact List.pairwise_replicate.2 (.inr (Int.le_refl _))
    ·rw [List.eq_of_mem_replicate hy];have:=ih.own x hx;omega
   ·show (a.Owner++List.replicate (gR r).n (k:Int)).count (j:Int)=_
    rw [List.count_append,ih.count j,List.count_replicate]
    by_cases hj:j=k
    ·subst hj
     rw [show ((j:Int) == (j:Int))=true from by simp,if_pos rfl,hnR]
     rw [if_neg (Nat.lt_irrefl _),if_pos (Nat.lt_succ_self _)];omega
    ·rw [show ((k:Int) == (j:Int))=false from by simp;omega]
     by_cases hjk:j < k
     ·rw [if_pos hjk,if_pos (show j < k+1 by omega)];simp
     ·rw [if_neg hjk,if_neg (show ¬ j < k+1 by omega)];simp
   ·show (a.Owner++List.replicate (gR r).n (k:Int))[x.toNat]?=(a.Owner++List.replicate (gR r).n (k:Int))[p]?
    have hf:(a.Follow++flw (gR r) a.Sets.length)[p]?=some f:=hf
    rcases Nat.lt_or_ge p a.Sets.length with hp | hp
    ·rw [List.getElem?_append_left (by omega)] at hf
     have hmem:=List.mem_of_getElem? hf
     have hxr:=(ih.fol f hmem).2 x hx
     rw [List.getElem?_append_left (by omega),List.getElem?_append_left (by omega)]
     exact ih.same p f hf x hx
    ·rw [List.getElem?_append_right (by omega)] at hf
     have hpl:=(List.getElem?_eq_some_iff.1 hf).1
     rw [flw_len] at hpl
     have hfm:=List.mem_of_getElem? hf
     simp only [flw,List.mem_map,List.mem_range] at hfm
     obtain ⟨i,hi,rfl⟩:=hfm
     obtain ⟨j,hj,_,rfl⟩:=lst_mem.1 hx
     rw [Int.toNat_natCast,List.getElem?_append_right (by omega),List.getElem?_append_right (by omega),List.getElem?_replicate,List.getElem?_replicate,if_pos (by omega),if_pos (by omega)]
theorem stM_in {s:api_Spec} {bs:List (List Int)} {n:Nat} (hb:∀ b∈bs,SS b∧∀ x∈b,0≤x∧x < n) (c:Nat) (bol:Bool):∀ k,k≤bs.length→SS (stM s bs c bol k)∧∀ x∈stM s bs c bol k,0≤x∧x < n
 | 0,_=>⟨List.Pairwise.nil,fun x hx=>by simp [stM] at hx⟩
 | k+1,hk=>by
   have ih:=stM_in (s:=s) hb c bol k (by omega)
   have hbk:=hb (bs.getD k []) (by rw [List.getD_eq_getElem?_getD,List.getElem?_eq_getElem (by omega)];exact List.getElem_mem _)
   unfold stM
   split
   ·obtain ⟨j1,j2⟩:=join_spec (stM s bs c bol k) (bs.getD k [])
    refine ⟨j1,fun x hx=>?_⟩
    rcases (j2 x).1 hx with hx | hx
    ·exact ih.2 x hx
    ·exact hbk.2 x hx
   ·exact ih
theorem noSet_zero {s:arr4_uint64} (h:noSet s=false):zeroB s=false:=by
 rw [← zero2];exact h
theorem build_right (s:api_Spec) (hr:∀ r∈s.Rules,RBody r) (hn:s.Rules.length≤40) (hc:s.Conds.length≤8) (hsz:(accM s.Rules s.Rules.length).1.Sets.length≤600):rightA (buildM s)=true:=by
 obtain ⟨b1,b2,b3,b4⟩:=acc_bd hr s.Rules.length (Nat.le_refl _)
 have hA:=acc_ok hr s.Rules.length (Nat.le_refl _)
 have hlens:lensB (buildM s)=false:=by
  have e1:(buildM s).Sets.length=(accM s.Rules s.Rules.length).1.Sets.length:=rfl
  have e2:(buildM s).Owner.length=(accM s.Rules s.Rules.length).1.Sets.length:=b1.own
  have e3:(buildM s).Follow.length=(accM s.Rules s.Rules.length).1.Sets.length:=b1.fol
  have e4:(buildM s).Ends.length=(accM s.Rules s.Rules.length).1.Sets.length:=b1.ends
  have e5:(buildM s).Starts.length=2 * s.Conds.length:=by simp [buildM]
  simp only [lensB,e1,e2,e3,e4,e5,Bool.or_eq_false_iff,decide_eq_false_iff_not,bne_eq_false_iff_eq]
  exact ⟨by omega,trivial,trivial,trivial,by omega⟩
 unfold rightA
 rw [if_neg (by rw [hlens];simp),if_neg,if_neg]
 ·refine List.all_eq_true.2 fun f hf=>?_
  refine rises_spec.2 ?_
  rcases List.mem_append.1 hf with hf | hf
  ·have:=hA.fol f hf
   exact ⟨this.1,fun x hx=>by have:=this.2 x hx;exact ⟨by omega,this.2⟩⟩
  ·obtain ⟨c,_,rfl⟩:=List.mem_map.1 hf
   have:=stM_in (s:=s) hA.beg (c / 2) (c % 2 == 1) s.Rules.length (by rw [b2];omega)
   exact ⟨this.1,fun x hx=>by have:=this.2 x hx;exact ⟨by omega,this.2⟩⟩
 ·intro h
  obtain ⟨z,hz,h⟩:=List.any_eq_true.1 h
  rw [noSet_zero (hA.sets z hz)] at h;cases h
 ·intro h
  obtain ⟨x,hx,h⟩:=List.any_eq_true.1 h
  have:=hA.own x hx
  simp only [oddB,Bool.or_eq_true,decide_eq_true_eq] at h
  omega
end Go.Ev.Pl
set_option linter.unusedSimpArgs false
set_option linter.unusedVariables false
namespace Go.Ev.Pl
open Go Go.Ev
theorem zRx_kind:zRx.Kind=0:=rfl
theorem fit_body {n:Int} {r:api_Rule} (h:FitRule n r):RBody r:=by
 rcases h.body with ⟨h1,-⟩ | ⟨h1,h2,h3⟩
 ·exact .inl h1
 ·refine .inr ⟨h1,⟨h2.wf,h2.right⟩,?_⟩
  rcases h3 with h3 | h3
  ·exact .inl (by rw [h3])
  ·exact .inr ⟨h3.kind,h3.wf,h3.right⟩
theorem sml_n {x:api_Rx} (h:Sml x):(gof x).n=sizeN x:=gof_n x (size_of_right h.right).1
theorem zRx_size:sizeN zRx=0:=by kernel_rfl
theorem zRx_wf:Wf zRx:=(wf_eq zRx).2 ⟨by show ([]:List api_Rx).length < _;simp,fun y hy=>by simp [zRx] at hy⟩
theorem fit_n {n:Int} {r:api_Rule} (h:FitRule n r):(gR r).n=sizeN r.Rx+sizeN r.Trail∧sizeN r.Rx≤12∧sizeN r.Trail≤12∧Wf r.Rx∧Wf r.Trail:=by
 unfold gR
 rcases h.body with ⟨h1,h2,h3,h4⟩ | ⟨h1,h2,h3⟩
 ·rw [if_pos h1,h3,h4,zRx_size];exact ⟨rfl,by omega,by omega,zRx_wf,zRx_wf⟩
 ·rw [if_neg (by rw [h1];simp)]
  rcases h3 with h3 | h3
  ·rw [h3,if_pos zRx_kind,zRx_size,sml_n h2];exact ⟨rfl,h2.size,by omega,h2.wf,zRx_wf⟩
  ·rw [if_neg h3.kind]
   refine ⟨?_,h2.size,h3.size,h2.wf,h3.wf⟩
   show (gof r.Rx).n+(gof r.Trail).n=_
   rw [sml_n h2,sml_n h3]
theorem acc_sz {rs:List api_Rule} (h:∀ r∈rs,(gR r).n≤24):∀ k,k≤rs.length→(accM rs k).1.Sets.length≤24 * k
 | 0,_=>by simp [accM,zAuto]
 | k+1,hk=>by
   have ih:=acc_sz h k (by omega)
   have hm:rs.getD k default∈rs:=by rw [List.getD_eq_getElem?_getD,List.getElem?_eq_getElem (by omega)];exact List.getElem_mem _
   have:=h _ hm
   have hc:=canon_gR (rs.getD k default)
   simp only [accM,addM,List.length_append,hc.sets];omega
def manyL (O:List Int) (R p:Nat):List Int:=(List.range R).map fun j:Nat=>(((O.take p).count (j:Int):Nat):Int)
theorem many_len (O:List Int) (R p:Nat):(manyL O R p).length=R:=by simp [manyL]
theorem many_get (O:List Int) (R p:Nat) {j:Nat} (h:j < R):(manyL O R p)[j]'(by rw [many_len];exact h)=(((O.take p).count (j:Int):Nat):Int):=by simp [manyL]
theorem many_step {O:List Int} {R p e:Nat} (hp:p < O.length) (he:O[p]=(e:Int)) (heR:e < R):(manyL O R p).set e ((manyL O R p)[e]'(by rw [many_len];exact heR)+1)=manyL O R (p+1):=by
 refine set_eq (by rw [many_len,many_len]) (fun j hj hne=>?_) (fun hj=>?_)
 ·rw [many_len] at hj
  rw [many_get _ _ _ hj,many_get _ _ _ hj,List.take_succ_eq_append_getElem hp,List.count_append,he,List.count_singleton]
  rw [show ((e:Int) == (j:Int))=false from by simp;omega];simp
 ·rw [many_get _ _ _ heR,many_get _ _ _ heR,List.take_succ_eq_append_getElem hp,List.count_append,he,List.count_singleton]
  rw [show ((e:Int) == (e:Int))=true from by simp];simp
theorem many_zero (O:List Int) (R:Nat):List.replicate R (0:Int)=manyL O R 0:=by
 apply List.ext_getElem
 ·simp [many_len]
 ·intro i h1 h2
  rw [many_len] at h2
  rw [many_get _ _ _ h2];simp
theorem autoEnds_ok (hawake:C_hecklelaw10_awake true) (l:List Int) (hb:Bytes l):C_hecklelaw10_AutoEnds l true:=by
 obtain ⟨s,hs,hf,-⟩:=made6_ok l hb false
 obtain ⟨n,b,n1,n3,hC,hlen,hRf⟩:=hf.conds
 obtain ⟨m1,m2⟩:=hf.many
 have hr:∀ r∈s.Rules,RBody r:=fun r h=>fit_body (hRf r h)
 have hsz:=acc_sz (rs:=s.Rules) (fun r h=>by have:=fit_n (hRf r h);omega) s.Rules.length (Nat.le_refl _)
 have hB:=build_ok s (specRight_ok s hf) hr (by omega) (by omega) (fun r h=>by
  have:=ss_len (n:=n) (k:=0) (hRf r h).conds.1 (hRf r h).conds.2 (by omega);omega)
 rw [if_neg (by omega),if_neg (by omega)] at hB
 obtain ⟨b1,b2,b3,b4⟩:=acc_bd hr s.Rules.length (Nat.le_refl _)
 have hA:=acc_ok hr s.Rules.length (Nat.le_refl _)
 have hright:=build_right s hr (by omega) (by omega) (by omega)
 have hsm:Small (buildM s):=by
  intro f hf
  rcases List.mem_append.1 hf with hf | hf
  ·have:=b1.small f hf;omega
  ·obtain ⟨c,_,rfl⟩:=List.mem_map.1 hf
   have:=stM_len (s:=s) b3 (c / 2) (c % 2 == 1) s.Rules.length (by omega)
   omega
 have h10:=right10_ok (buildM s) hsm
 rw [hright] at h10
 obtain ⟨O,hO⟩:∃ O,O=(accM s.Rules s.Rules.length).1.Owner:=⟨_,rfl⟩
 obtain ⟨F,hF⟩:∃ F,F=(accM s.Rules s.Rules.length).1.Follow:=⟨_,rfl⟩
 have eO:(buildM s).Owner=O:=hO.symm
 have eF:(buildM s).Follow=F:=hF.symm
 obtain ⟨N,hN⟩:∃ N,N=(buildM s).Sets.length:=⟨_,rfl⟩
 have hNl:N=(accM s.Rules s.Rules.length).1.Sets.length:=hN
 have lO:O.length=N:=by rw [hO,hNl];exact b1.own
 have lF:F.length=N:=by rw [hF,hNl];exact b1.fol
 have e5:(buildM s).Starts.length=2 * s.Conds.length:=by simp [buildM]
 refine W_hecklelaw10_AutoEnds l _ ⟨true,hawake,(fun h=>by cases h),fun _=>⟨s,hs,_,_,hB,(fun h=>by simp at h),fun _=>?_⟩⟩
 simp only [List.length_map,e5,eO,eF,← hN]
 have hw:w64 (2 * (s.Conds.length:Int))=((2 * s.Conds.length:Nat):Int):=(w64_id (by omega) (by omega)).trans (by omega)
 rw [hw]
 refine ⟨(fun h=>by simp at h),fun _=>⟨true,h10,(fun h=>by cases h),fun _=>⟨⟨by omega,by omega,by omega,by omega⟩,?_⟩⟩⟩
 refine ⟨fun many t=>∃ p:Nat,t=p∧p≤N∧many=manyL O s.Rules.length p,fun _ t=>(N - t).toNat,⟨0,rfl,by omega,many_zero _ _⟩,?_⟩
 rintro many t ⟨p,rfl,hp,rfl⟩
 simp only [lt_cast,many_len]
 refine ⟨fun ht=>?_,fun ht=>?_⟩
 ·have ht:=of_decide_eq_true ht
  have hpO:p < O.length:=by omega
  have hpF:p < F.length:=by omega
  have hown:=hA.own O[p] (by rw [← hO];exact List.getElem_mem hpO)
  obtain ⟨e,he⟩:∃ e:Nat,O[p]=e:=⟨O[p].toNat,by omega⟩
  have heR:e < s.Rules.length:=by omega
  have hpm:decide ((p:Int) > 0)=true→w64 ((p:Int) - 1)=((p - 1:Nat):Int):=fun h=>by
   have:=of_decide_eq_true h
   rw [w64_id (by omega) (by omega)];omega
  have hpl:p+1≤N:=by omega
  rw [gd_nat hpO,gd_nat hpF,he,show w64 ((p:Int)+1)=((p+1:Nat):Int) from w64_id (by omega) (by omega),Int.toNat_natCast,gd_nat (show e < (manyL O s.Rules.length p).length by rw [many_len];exact heR)]
  have hcnt:(((O.take p).count (e:Int):Nat):Int)≤p:=by
   have:=List.count_le_length (a:=(e:Int)) (l:=O.take p)
   rw [List.length_take] at this;omega
  have hwc:w64 ((manyL O s.Rules.length p)[e]'(by rw [many_len];exact heR)+1)=(manyL O s.Rules.length p)[e]'(by rw [many_len];exact heR)+1:=by
   rw [many_get _ _ _ heR];exact w64_id (by omega) (by omega)
  rw [hwc,many_step hpO he heR]
  refine ⟨by omega,by omega,fun _ _=>by omega,fun _ _=>by omega,fun _ h=>by rw [hpm h];omega,fun _ h=>by rw [hpm h];omega,fun hb=>?_,fun _=>⟨by omega,by omega,by omega,by omega,by omega,by omega,by omega,by omega,?_⟩⟩
  ·exfalso
   simp only [Bool.or_eq_true,Bool.and_eq_true,decide_eq_true_eq] at hb
   rcases hb with hb | ⟨h0,hb⟩
   ·omega
   ·have hp1:p - 1 < O.length:=by omega
    rw [hpm (by simpa using h0),gd_nat hp1] at hb
    have hsrt:=hA.sorted
    rw [← hO] at hsrt
    have:=List.pairwise_iff_getElem.1 hsrt (p - 1) p hp1 hpO (by omega)
    omega
  ·have hfl:=b1.small F[p] (by rw [← hF];exact List.getElem_mem hpF)
   refine ⟨fun t=>∃ q:Nat,t=q∧q≤F[p].length,fun t=>(F[p].length - t).toNat,⟨0,rfl,by omega⟩,?_⟩
   rintro t ⟨q,rfl,hq⟩
   refine ⟨by omega,by omega,fun hqt=>?_,fun _=>⟨⟨p+1,rfl,by omega,rfl⟩,by first | omega | (dsimp only;omega)⟩⟩
   have hqt:q < F[p].length:=by have:=of_decide_eq_true hqt;omega
   have hx:=(hA.fol F[p] (by rw [← hF];exact List.getElem_mem hpF)).2 _ (List.getElem_mem hqt)
   obtain ⟨x,hx'⟩:∃ x:Nat,F[p][q]=x:=⟨F[p][q].toNat,by omega⟩
   have hxO:x < O.length:=by omega
   have hsame:=hA.same p F[p] (by rw [← hF];exact List.getElem?_eq_getElem hpF) F[p][q] (List.getElem_mem hqt)
   rw [← hO,hx',Int.toNat_natCast,List.getElem?_eq_getElem hxO,List.getElem?_eq_getElem hpO,Option.some.injEq] at hsame
   rw [gd_nat hqt,hx',gd_nat hxO,hsame,he,show w64 ((q:Int)+1)=((q+1:Nat):Int) from w64_id (by omega) (by omega)]
   exact ⟨by omega,by omega,by omega,by omega,by omega,by omega,by omega,by omega,(fun h=>by simp at h),fun _=>⟨⟨q+1,rfl,by omega⟩,by first | omega | (dsimp only;omega)⟩⟩
 ·have ht:=of_decide_eq_false ht
  have hpN:p=O.length:=by omega
  subst hpN
  refine ⟨fun t=>∃ j:Nat,t=j∧j≤s.Rules.length,fun t=>(s.Rules.length - t).toNat,⟨0,rfl,by omega⟩,?_⟩
  rintro t ⟨j,rfl,hj⟩
  rw [lt_cast]
  refine ⟨fun ht=>?_,fun _=>by first | trivial | rfl⟩
  have ht:=of_decide_eq_true ht
  have hfit:=fit_n (hRf _ (List.getElem_mem ht))
  have hS:=refSize_ok s.Rules[j].Rx hfit.2.2.2.1
  have hT:=refSize_ok s.Rules[j].Trail hfit.2.2.2.2
  have z1:sizeZ s.Rules[j].Rx=sizeN s.Rules[j].Rx:=by unfold sizeZ;omega
  have z2:sizeZ s.Rules[j].Trail=sizeN s.Rules[j].Trail:=by unfold sizeZ;omega
  rw [z1] at hS
  rw [z2] at hT
  have hcount:=hA.count j
  rw [← hO,if_pos ht] at hcount
  have hnR:nR s.Rules j=sizeN s.Rules[j].Rx+sizeN s.Rules[j].Trail:=by
   unfold nR;rw [List.getD_eq_getElem?_getD,List.getElem?_eq_getElem ht];exact hfit.1
  have hval:(manyL O s.Rules.length O.length)[j]'(by rw [many_len];exact ht)=((sizeN s.Rules[j].Rx+sizeN s.Rules[j].Trail:Nat):Int):=by
   rw [many_get _ _ _ ht,List.take_length,hcount,hnR]
  rw [gd_nat ht,gd_nat (show j < (manyL O s.Rules.length O.length).length by rw [many_len];exact ht),hval,show w64 ((j:Int)+1)=((j+1:Nat):Int) from w64_id (by omega) (by omega)]
  refine ⟨by omega,by omega,by omega,by omega,by omega,_,hS,by omega,by omega,_,hT,fun h=>?_,fun _=>⟨⟨j+1,rfl,by omega⟩,by first | omega | (dsimp only;omega)⟩⟩
  exfalso
  rw [w64_id (by omega) (by omega)] at h
  have:((sizeN s.Rules[j].Rx+sizeN s.Rules[j].Trail:Nat):Int)=(sizeN s.Rules[j].Rx:Int)+(sizeN s.Rules[j].Trail:Int):=by omega
  rw [this] at h
  simp at h
end Go.Ev.Pl
