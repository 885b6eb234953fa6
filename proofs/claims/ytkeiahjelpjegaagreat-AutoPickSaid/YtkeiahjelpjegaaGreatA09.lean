import Derived.Test.YtkeiahjelpjegaaGreatA08
set_option linter.unusedSimpArgs false
set_option linter.unusedVariables false
namespace Go.Ev.Pl
open Go Go.Ev Go.Proofs
set_option maxRecDepth 8000
def deI:FV→Option Int
 | .pv (.int .i64 n)=>some n
 | _=>none
def deB:FV→Option Bool
 | .pv (.bool b)=>some b
 | _=>none
def deS:FV→Option za
 | .agg [.pv (.int .u64 a),.pv (.int .u64 b),.pv (.int .u64 c),.pv (.int .u64 d)]=>some ⟨a,b,c,d⟩
 | _=>none
def deL {α:Type} (f:FV→Option α):List FV→Option (List α)
 | []=>some []
 | x :: r=>match f x with
   | none=>none
   | some y=>match deL f r with
     | none=>none
     | some l=>some (y :: l)
def deLs (x:FV):Option (List Int):=match x with
 | .sl l=>deL deI l
 | _=>none
theorem zdF {α:Type} {f:FV→Option α} {enc:α→FV} (h:∀ x y,f x=some y→x=enc y):∀ {l:List FV} {m:List α},deL f l=some m→l=m.map enc
 | [],m,e=>by simp only [deL,Option.some.injEq] at e;subst e;rfl
 | x :: r,m,e=>by
   unfold deL at e
   split at e
   ·cases e
   ·rename_i y hy
    split at e
    ·cases e
    ·rename_i l hl
     simp only [Option.some.injEq] at e;subst e
     rw [h x y hy,zdF h hl];rfl
theorem deI_spec (x:FV) (y:Int) (h:deI x=some y):x=zb y:=by
 unfold deI at h
 split at h
 ·cases h;rfl
 ·cases h
theorem deB_spec (x:FV) (y:Bool) (h:deB x=some y):x=zh y:=by
 unfold deB at h
 split at h
 ·cases h;rfl
 ·cases h
theorem deS_spec (x:FV) (y:za) (h:deS x=some y):x=ze y:=by
 unfold deS at h
 split at h
 ·cases h;rfl
 ·cases h
theorem deLs_spec (x:FV) (y:List Int) (h:deLs x=some y):x=zg y:=by
 unfold deLs at h
 split at h
 ·rw [zdF deI_spec h];rfl
 ·cases h
def smallB (a:zi):Bool:=(a.Follow++a.Starts).all fun l=>Nat.ble l.length 9223372036854775807
def ofK (args outs:List AV):Option (AV×List AV):=match args,outs with
 | [.f (.pv (.int .i64 (.ofNat x))),.f (.pv (.int .i64 (.ofNat y)))],[]=>match Nat.beq x 97 && Nat.beq y 97 with
   | true=>some (.agg [vI .u64 0,vI .u64 8589934592,vI .u64 0,vI .u64 0],[])
   | false=>match Nat.beq x 98 && Nat.beq y 98 with
     | true=>some (.agg [vI .u64 0,vI .u64 17179869184,vI .u64 0,vI .u64 0],[])
     | false=>none
 | _,_=>none
def rightK (args outs:List AV):Option (AV×List AV):=match args,outs with
 | [.agg [.f (.sl s),.f (.sl o),.f (.sl f),.f (.sl e),.f (.sl t)]],[]=>match deL deS s,deL deI o,deL deLs f,deL deB e,deL deLs t with
   | some s,some o,some f,some e,some t=>match smallB ⟨s,o,f,e,t⟩ with
     | true=>some (vB (rightA ⟨s,o,f,e,t⟩),[])
     | false=>none
   | _,_,_,_,_=>none
 | _,_=>none
def K0:Kw:=fun g args outs=>match Nat.beq g 19 with
 | true=>rightK args outs
 | false=>match Nat.beq g 59 with
   | true=>ofK args outs
   | false=>none
theorem K0_ok:KwOk Tryz.prog K0:=by
 intro g args outs r o h
 unfold K0 at h
 split at h
 ·rename_i hg
  have hg:=Nat.eq_of_beq_eq_true hg
  subst hg
  unfold rightK at h
  split at h
  ·split at h
   ·rename_i h1 h2 h3 h4 h5
    split at h
    ·rename_i hs
     simp only [Option.some.injEq,Prod.mk.injEq] at h
     obtain ⟨rfl,rfl⟩:=h
     have:=right_ok _ (fun l hl=>Nat.le_of_ble_eq_true (List.all_eq_true.1 hs l hl))
     rw [zdF deS_spec h1,zdF deI_spec h2,zdF deLs_spec h3,zdF deB_spec h4,zdF deLs_spec h5]
     exact this
    ·cases h
   ·cases h
  ·cases h
 ·split at h
  ·rename_i hg
   have hg:=Nat.eq_of_beq_eq_true hg
   subst hg
   unfold ofK at h
   split at h
   ·split at h
    ·rename_i hb
     simp only [Bool.and_eq_true] at hb
     rw [Nat.eq_of_beq_eq_true hb.1,Nat.eq_of_beq_eq_true hb.2]
     simp only [Option.some.injEq,Prod.mk.injEq] at h
     obtain ⟨rfl,rfl⟩:=h
     exact of_a
    ·split at h
     ·rename_i hb
      simp only [Bool.and_eq_true] at hb
      rw [Nat.eq_of_beq_eq_true hb.1,Nat.eq_of_beq_eq_true hb.2]
      simp only [Option.some.injEq,Prod.mk.injEq] at h
      obtain ⟨rfl,rfl⟩:=h
      exact of_b
     ·cases h
   ·cases h
  ·cases h
theorem awake_ok:zcR true:=exF_ok (mks:=mkT mkTab) cfx_ok (addK_ok K0_ok build_two) 1000 40 14 [] [] (vB true) [] (by kernel_rfl)
end Go.Ev.Pl
