import Derived.Test.YtkeiahjelpjegaaGreatA03
import Derived.Lib.RowBridge
set_option linter.unusedSimpArgs false
set_option linter.unusedVariables false
namespace Go.Ev
open Go Go.Proofs
set_option maxRecDepth 8000
set_option maxHeartbeats 1000000 in
theorem zeG (x:ze) (deep:Int) (res:Bool)
 (h:(((decide (deep < (1:Int)))=true→(res=false))∧((decide (deep < (1:Int)))=false→(((ze.Kind x == 1)=true→(res=(!!(zb.e0 (ze.Set x) == 0 && (zb.e1 (ze.Set x) == 0 && (zb.e2 (ze.Set x) == 0 && (zb.e3 (ze.Set x) == 0 && true)))) && (ze.Lo x == 0 && ze.Hi x == 0 && (↑(List.length (ze.Kids x)):Int) == 0))))∧((ze.Kind x == 1)=false→(((ze.Kind x == (2:Int))=true→(res=(!(zb.e0 (ze.Set x) == 0 && (zb.e1 (ze.Set x) == 0 && (zb.e2 (ze.Set x) == 0 && (zb.e3 (ze.Set x) == 0 && true)))) && (ze.Lo x == 0 && ze.Hi x == 0 && (↑(List.length (ze.Kids x)):Int) == 0))))∧((ze.Kind x == (2:Int))=false→(((ze.Kind x == (5:Int))=true→(((!!(zb.e0 (ze.Set x) == 0 && (zb.e1 (ze.Set x) == 0 && (zb.e2 (ze.Set x) == 0 && (zb.e3 (ze.Set x) == 0 && true)))))=true→(((decide (ze.Lo x≥(0:Int)))=true→(((decide (ze.Lo x≤(20:Int)))=true→(((ze.Hi x == (-1:Int) || decide (ze.Hi x≥if true=true then if ze.Lo x > (1:Int) then ze.Lo x else (1:Int) else if ze.Lo x < (1:Int) then ze.Lo x else (1:Int)) && decide (ze.Hi x≤(20:Int)))=true→((((↑(List.length (List.map zn (ze.Kids x))):Int) == 1)=true→((!!(zb.e0 (ze.Set x) == 0 && (zb.e1 (ze.Set x) == 0 && (zb.e2 (ze.Set x) == 0 && (zb.e3 (ze.Set x) == 0 && true)))))=true→((decide (ze.Lo x≥(0:Int)))=true→((decide (ze.Lo x≤(20:Int)))=true→((ze.Hi x == (-1:Int) || decide (ze.Hi x≥if true=true then if ze.Lo x > (1:Int) then ze.Lo x else (1:Int) else if ze.Lo x < (1:Int) then ze.Lo x else (1:Int)) && decide (ze.Hi x≤(20:Int)))=true→(((↑(List.length (List.map zn (ze.Kids x))):Int) == 1)=true→(0:Nat) < List.length (ze.Kids x))))))∧(∃ r0:Bool,zaM (List.getD (ze.Kids x) (0:Nat) default) (w64 (deep - 1)) r0∧(res=r0)))∧(((↑(List.length (List.map zn (ze.Kids x))):Int) == 1)=false→(res=false))))∧((ze.Hi x == (-1:Int) || decide (ze.Hi x≥if true=true then if ze.Lo x > (1:Int) then ze.Lo x else (1:Int) else if ze.Lo x < (1:Int) then ze.Lo x else (1:Int)) && decide (ze.Hi x≤(20:Int)))=false→(res=false))))∧((decide (ze.Lo x≤(20:Int)))=false→(res=false))))∧((decide (ze.Lo x≥(0:Int)))=false→(res=false))))∧((!!(zb.e0 (ze.Set x) == 0 && (zb.e1 (ze.Set x) == 0 && (zb.e2 (ze.Set x) == 0 && (zb.e3 (ze.Set x) == 0 && true)))))=false→(res=false))))∧((ze.Kind x == (5:Int))=false→(∃ J19:Bool→Prop,(∀ (t98:Bool),J19 t98→(((t98)=true→(((!(zb.e0 (ze.Set x) == 0 && (zb.e1 (ze.Set x) == 0 && (zb.e2 (ze.Set x) == 0 && (zb.e3 (ze.Set x) == 0 && true)))) || (!(ze.Lo x == 0 && ze.Hi x == 0) || decide ((↑(List.length (ze.Kids x)):Int) < (2:Int))))=true→(res=false))∧((!(zb.e0 (ze.Set x) == 0 && (zb.e1 (ze.Set x) == 0 && (zb.e2 (ze.Set x) == 0 && (zb.e3 (ze.Set x) == 0 && true)))) || (!(ze.Lo x == 0 && ze.Hi x == 0) || decide ((↑(List.length (ze.Kids x)):Int) < (2:Int))))=false→(∃ (Inv40:Int→Prop) (mu41:Int→Nat),Inv40 0∧(∀ (i:Int),Inv40 i→(((decide (i < (↑(List.length (ze.Kids x)):Int)))=true→((0:Int)≤i)∧i < ↑(List.length (ze.Kids x))∧(((ze.Kind (gd (ze.Kids x) i) == ze.Kind x)=true→(res=false))∧((ze.Kind (gd (ze.Kids x) i) == ze.Kind x)=false→((ze.Kind (gd (ze.Kids x) i) == ze.Kind x)=false→((0:Int)≤i))∧((ze.Kind (gd (ze.Kids x) i) == ze.Kind x)=false→i < ↑(List.length (ze.Kids x)))∧(∃ r0_3:Bool,zaM (gd (ze.Kids x) i) (w64 (deep - 1)) r0_3∧(((!r0_3)=true→(res=false))∧((!r0_3)=false→(Inv40 (w64 (i+1))∧mu41 (w64 (i+1)) < mu41 i)))))))∧((decide (i < (↑(List.length (ze.Kids x)):Int)))=false→(res=true))))))))∧((t98)=false→(res=false))))∧(((ze.Kind x == (3:Int))=true→J19 (ze.Kind x == (3:Int)))∧((ze.Kind x == (3:Int))=false→J19 (ze.Kind x == (4:Int)))))))))))))):zaM x deep res:=by
 unfold zaM
 have kk:=cfOk [] 139
 refine fD (x:=bodyOf Tryz.f108) kk Tryz.func108 ?_
 refine wkS [1,4] [(1,zC x),(4,vi deep)] (by kernel_rfl) ?_
 refine sD kk [] [1] [(7,.ptr 14 0),(14,zC x)] obN ?_
 refine qD ?_
 refine sD kk [] [] [(31,vB (decide (deep < (1:Int))))] obN ?_
 refine cD (t:=10) (b:=decide (deep < (1:Int))) (fun hb0=>?_) (fun hb0=>?_)
 ·have h:=h.1 hb0
  refine sD kk [] [4,7,14,31] [(13,vB false)] obN ?_
  refine tD ?_
  obtain he0:=h
  subst res
  exact (endD [] (vB false) []).1
 ·have h:=h.2 hb0
  refine Sem.skip' (by kernel_rfl) Wk.refl ?_
  show Sem _ _ _ _ _
  refine wkD [31] ?_
  refine sD kk [] [] [(16,vB (!(zb.e0 (ze.Set x) == 0 && (zb.e1 (ze.Set x) == 0 && (zb.e2 (ze.Set x) == 0 && (zb.e3 (ze.Set x) == 0 && true))))))] obN ?_
  refine sM [] [(19,vB (ze.Lo x == 0 && ze.Hi x == 0))] ?_ (fun hk0=>?_)
  ·refine qD ?_
   refine sD kk [] [] [(73,vi (ze.Kind x))] obN ?_
   refine bD (id:=0) ?_
   refine sD kk [] [] [(76,vB (ze.Kind x == 1))] obN ?_
   refine cD (t:=25) (b:=ze.Kind x == 1) (fun hb2=>?_) (fun hb2=>?_)
   ·have h:=h.1 hb2
    refine sM [4,7,14,16,19,73,76] [(13,vB (!!(zb.e0 (ze.Set x) == 0 && (zb.e1 (ze.Set x) == 0 && (zb.e2 (ze.Set x) == 0 && (zb.e3 (ze.Set x) == 0 && true)))) && (ze.Lo x == 0 && ze.Hi x == 0 && (↑(List.length (ze.Kids x)):Int) == 0)))] ?_ (fun hk0=>?_)
    ·refine tD ?_
     obtain he0:=h
     subst res
     exact (endD [] (vB (!!(zb.e0 (ze.Set x) == 0 && (zb.e1 (ze.Set x) == 0 && (zb.e2 (ze.Set x) == 0 && (zb.e3 (ze.Set x) == 0 && true)))) && (ze.Lo x == 0 && ze.Hi x == 0 && (↑(List.length (ze.Kids x)):Int) == 0))) []).1
    ·rcases Bool.eq_false_or_eq_true (!!(zb.e0 (ze.Set x) == 0 && (zb.e1 (ze.Set x) == 0 && (zb.e2 (ze.Set x) == 0 && (zb.e3 (ze.Set x) == 0 && true))))) with hb3 | hb3
     ·rcases Bool.eq_false_or_eq_true (ze.Lo x == 0 && ze.Hi x == 0) with hb4 | hb4
      ·refine sDE kk [bT,bT,bT,bT,bT,bT,bT] [4,7,14,16,19,73,76] [(13,vB ((↑(List.length (List.map zn (ze.Kids x))):Int) == 0))] [(13,vB ((↑(List.length (ze.Kids x)):Int) == 0))] (obC (gtt hb3) (obC hb3 (obC (gtt hb4) (obC (gtt hb4) (obC (gtt hb4) (obC (gtt hb4) (obC hb4 obN))))))) ?_
       exact Sem.cast (by try rw [hb3];try rw [hb4];kernel_rfl) hk0
      ·refine sD kk [bT,bT,bF,bF,bF,bF,bF] [4,7,14,16,19,73,76] [(13,vB false)] (obC (gtt hb3) (obC hb3 (obC (gtf hb4) (obC (gtf hb4) (obC (gtf hb4) (obC (gtf hb4) (obC hb4 obN))))))) ?_
       exact Sem.cast (by try rw [hb3];try rw [hb4];kernel_rfl) hk0
     ·refine sD kk [bF,bF,bF,bF,bF,bF,bF] [4,7,14,16,19,73,76] [(13,vB false)] (obC (gtf hb3) (obC hb3 (oF (oF (oF (oF (oF obN))))))) ?_
      exact Sem.cast (by try rw [hb3];kernel_rfl) hk0
   ·have h:=h.2 hb2
    refine sD kk [] [76] [(115,vB (ze.Kind x == (2:Int)))] obN ?_
    refine cD (t:=38) (b:=ze.Kind x == (2:Int)) (fun hb5=>?_) (fun hb5=>?_)
    ·have h:=h.1 hb5
     refine sM [4,7,14,16,19,73,115] [(13,vB (!(zb.e0 (ze.Set x) == 0 && (zb.e1 (ze.Set x) == 0 && (zb.e2 (ze.Set x) == 0 && (zb.e3 (ze.Set x) == 0 && true)))) && (ze.Lo x == 0 && ze.Hi x == 0 && (↑(List.length (ze.Kids x)):Int) == 0)))] ?_ (fun hk0=>?_)
     ·refine tD ?_
      obtain he0:=h
      subst res
      exact (endD [] (vB (!(zb.e0 (ze.Set x) == 0 && (zb.e1 (ze.Set x) == 0 && (zb.e2 (ze.Set x) == 0 && (zb.e3 (ze.Set x) == 0 && true)))) && (ze.Lo x == 0 && ze.Hi x == 0 && (↑(List.length (ze.Kids x)):Int) == 0))) []).1
     ·rcases Bool.eq_false_or_eq_true (!(zb.e0 (ze.Set x) == 0 && (zb.e1 (ze.Set x) == 0 && (zb.e2 (ze.Set x) == 0 && (zb.e3 (ze.Set x) == 0 && true))))) with hb6 | hb6
      ·rcases Bool.eq_false_or_eq_true (ze.Lo x == 0 && ze.Hi x == 0) with hb7 | hb7
       ·refine sDE kk [bT,bT,bT,bT,bT,bT,bT] [4,7,14,16,19,73,115] [(13,vB ((↑(List.length (List.map zn (ze.Kids x))):Int) == 0))] [(13,vB ((↑(List.length (ze.Kids x)):Int) == 0))] (obC (gtt hb6) (obC hb6 (obC (gtt hb7) (obC (gtt hb7) (obC (gtt hb7) (obC (gtt hb7) (obC hb7 obN))))))) ?_
        exact Sem.cast (by try rw [hb6];try rw [hb7];kernel_rfl) hk0
       ·refine sD kk [bT,bT,bF,bF,bF,bF,bF] [4,7,14,16,19,73,115] [(13,vB false)] (obC (gtt hb6) (obC hb6 (obC (gtf hb7) (obC (gtf hb7) (obC (gtf hb7) (obC (gtf hb7) (obC hb7 obN))))))) ?_
        exact Sem.cast (by try rw [hb6];try rw [hb7];kernel_rfl) hk0
      ·refine sD kk [bF,bF,bF,bF,bF,bF,bF] [4,7,14,16,19,73,115] [(13,vB false)] (obC (gtf hb6) (obC hb6 (oF (oF (oF (oF (oF obN))))))) ?_
       exact Sem.cast (by try rw [hb6];kernel_rfl) hk0
    ·have h:=h.2 hb5
     refine sD kk [] [115] [(151,vB (ze.Kind x == (5:Int)))] obN ?_
     refine cD (t:=50) (b:=ze.Kind x == (5:Int)) (fun hb8=>?_) (fun hb8=>?_)
     ·have h:=h.1 hb8
      refine sM [19,73,151] [(22,vB (ze.Hi x == (-1:Int) || decide (ze.Hi x≥if true=true then if ze.Lo x > (1:Int) then ze.Lo x else (1:Int) else if ze.Lo x < (1:Int) then ze.Lo x else (1:Int)) && decide (ze.Hi x≤(20:Int))))] ?_ (fun hk0=>?_)
      ·rcases Bool.eq_false_or_eq_true (!!(zb.e0 (ze.Set x) == 0 && (zb.e1 (ze.Set x) == 0 && (zb.e2 (ze.Set x) == 0 && (zb.e3 (ze.Set x) == 0 && true))))) with hb11 | hb11
       ·have h:=h.1 hb11
        rcases Bool.eq_false_or_eq_true (decide (ze.Lo x≥(0:Int))) with hb12 | hb12
        ·have h:=h.1 hb12
         rcases Bool.eq_false_or_eq_true (decide (ze.Lo x≤(20:Int))) with hb13 | hb13
         ·have h:=h.1 hb13
          rcases Bool.eq_false_or_eq_true (ze.Hi x == (-1:Int) || decide (ze.Hi x≥if true=true then if ze.Lo x > (1:Int) then ze.Lo x else (1:Int) else if ze.Lo x < (1:Int) then ze.Lo x else (1:Int)) && decide (ze.Hi x≤(20:Int))) with hb14 | hb14
          ·have h:=h.1 hb14
           rcases Bool.eq_false_or_eq_true ((↑(List.length (List.map zn (ze.Kids x))):Int) == 1) with hb15 | hb15
           ·have h:=h.1 hb15
            obtain ⟨h16,h⟩:=h
            obtain ⟨r0,hc17,h⟩:=h
            refine sD kk [bT,bT,bT,bT,bT,bT,bT,bT,bT,bT,bT,bT,bT,bT,bT,bT,bT,bT,.e (zat (List.getD (ze.Kids x) (0:Nat) default)),bT,bT,bT,bT,.c (vB r0) [],bT] [4,7,14,16,22] [(13,vB r0)] (obC (gtt hb11) (obC (gtt hb11) (obC (gtt hb11) (obC hb11 (obC (gtt hb12) (obC (gtt hb12) (obC (gtt hb12) (obC hb12 (obC (gtt hb13) (obC hb13 (obC (gtt hb14) (obC (gtt hb14) (obC (gtt hb14) (obC (gtt hb14) (obC hb14 (obC (gtt hb15) (obC (gtt hb15) (obC (gtt hb15) (obC (show (0:Int)≤(0:Int) from by first | decide | rfl | trivial) (obC (show (List.map zn (ze.Kids x))[(Int.toNat (0:Int):Nat)]?=some (zat (List.getD (ze.Kids x) (0:Nat) default)) from by have:=zcb zn (ze.Kids x) ((0:Nat)) _ (zP _) (((((h16 hb11) hb12) hb13) hb14) hb15);simpa only [nm,enq,zP] using this) (obC (gtt hb15) (obC (gtt hb15) (obC (gtt hb15) (obC (gtt hb15) (obC hc17 (obC hb15 obN)))))))))))))))))))))))))) ?_
            refine tD ?_
            obtain he0:=h
            subst res
            exact (endD [] (vB r0) []).1
           ·have h:=h.2 hb15
            refine sD kk [bT,bT,bT,bT,bT,bT,bT,bT,bT,bT,bT,bT,bT,bT,bT,bF,bF,bF,bF,bF,bF,bF,bF] [4,7,14,16,22] [(13,vB false)] (obC (gtt hb11) (obC (gtt hb11) (obC (gtt hb11) (obC hb11 (obC (gtt hb12) (obC (gtt hb12) (obC (gtt hb12) (obC hb12 (obC (gtt hb13) (obC hb13 (obC (gtt hb14) (obC (gtt hb14) (obC (gtt hb14) (obC (gtt hb14) (obC hb14 (obC (gtf hb15) (obC (gtf hb15) (obC (gtf hb15) (obC (gtf hb15) (obC (gtf hb15) (obC (gtf hb15) (obC (gtf hb15) (obC hb15 obN))))))))))))))))))))))) ?_
            refine tD ?_
            obtain he0:=h
            subst res
            exact (endD [] (vB false) []).1
          ·have h:=h.2 hb14
           refine sD kk [bT,bT,bT,bT,bT,bT,bT,bT,bT,bT,bF,bF,bF,bF,bF,bF,bF,bF,bF,bF,bF,bF,bF] [4,7,14,16,22] [(13,vB false)] (obC (gtt hb11) (obC (gtt hb11) (obC (gtt hb11) (obC hb11 (obC (gtt hb12) (obC (gtt hb12) (obC (gtt hb12) (obC hb12 (obC (gtt hb13) (obC hb13 (obC (gtf hb14) (obC (gtf hb14) (obC (gtf hb14) (obC (gtf hb14) (obC hb14 (oF (oF (oF (oF (oF (oF (oF (oF obN))))))))))))))))))))))) ?_
           refine tD ?_
           obtain he0:=h
           subst res
           exact (endD [] (vB false) []).1
         ·have h:=h.2 hb13
          refine sD kk [bT,bT,bT,bT,bT,bT,bT,bT,bF,bF,bF,bF,bF,bF,bF,bF,bF,bF,bF,bF,bF,bF,bF] [4,7,14,16,22] [(13,vB false)] (obC (gtt hb11) (obC (gtt hb11) (obC (gtt hb11) (obC hb11 (obC (gtt hb12) (obC (gtt hb12) (obC (gtt hb12) (obC hb12 (obC (gtf hb13) (obC hb13 (oF (oF (oF (oF (oF (oF (oF (oF (oF (oF (oF (oF (oF obN))))))))))))))))))))))) ?_
          refine tD ?_
          obtain he0:=h
          subst res
          exact (endD [] (vB false) []).1
        ·have h:=h.2 hb12
         refine sD kk [bT,bT,bT,bT,bF,bF,bF,bF,bF,bF,bF,bF,bF,bF,bF,bF,bF,bF,bF,bF,bF,bF,bF] [4,7,14,16,22] [(13,vB false)] (obC (gtt hb11) (obC (gtt hb11) (obC (gtt hb11) (obC hb11 (obC (gtf hb12) (obC (gtf hb12) (obC (gtf hb12) (obC hb12 (oF (oF (oF (oF (oF (oF (oF (oF (oF (oF (oF (oF (oF (oF (oF obN))))))))))))))))))))))) ?_
         refine tD ?_
         obtain he0:=h
         subst res
         exact (endD [] (vB false) []).1
       ·have h:=h.2 hb11
        refine sD kk [bF,bF,bF,bF,bF,bF,bF,bF,bF,bF,bF,bF,bF,bF,bF,bF,bF,bF,bF,bF,bF,bF,bF] [4,7,14,16,22] [(13,vB false)] (obC (gtf hb11) (obC (gtf hb11) (obC (gtf hb11) (obC hb11 (oF (oF (oF (oF (oF (oF (oF (oF (oF (oF (oF (oF (oF (oF (oF (oF (oF (oF (oF obN))))))))))))))))))))))) ?_
        refine tD ?_
        obtain he0:=h
        subst res
        exact (endD [] (vB false) []).1
      ·rcases Bool.eq_false_or_eq_true (ze.Hi x == (-1:Int)) with hb9 | hb9
       ·refine sD kk [bF,bF,bF,bF,bF,bF,bF,bF,bT] [19,73,151] [(22,vB true)] (obC (gff hb9) (obC (gff hb9) (obC (gff hb9) (obC (gff hb9) (obC (gff hb9) (obC (gff hb9) (obC (gff hb9) (obC (gff hb9) (obC hb9 obN))))))))) ?_
        exact Sem.cast (by try rw [hb9];kernel_rfl) hk0
       ·rcases Bool.eq_false_or_eq_true (decide (ze.Hi x≥if true=true then if ze.Lo x > (1:Int) then ze.Lo x else (1:Int) else if ze.Lo x < (1:Int) then ze.Lo x else (1:Int))) with hb10 | hb10
        ·refine sD kk [bT,bT,bT,bT,bT,bT,bT,bT,bT,bT,bT,bT,bF] [19,73,151] [(22,vB (decide (ze.Hi x≤(20:Int))))] (obC (gft hb9) (obC (gft hb9) (obC (gft hb9) (obC (gft hb9) (obC (gft hb9) (obC (gft hb9) (obC (gft hb9) (obC (gtt hb10) (obC (gtt hb10) (obC (gtt hb10) (obC (gft hb9) (obC hb10 (obC hb9 obN))))))))))))) ?_
         exact Sem.cast (by try rw [hb9];try rw [hb10];kernel_rfl) hk0
        ·refine sD kk [bT,bT,bT,bT,bT,bT,bT,bF,bF,bF,bT,bF,bF] [19,73,151] [(22,vB false)] (obC (gft hb9) (obC (gft hb9) (obC (gft hb9) (obC (gft hb9) (obC (gft hb9) (obC (gft hb9) (obC (gft hb9) (obC (gtf hb10) (obC (gtf hb10) (obC (gtf hb10) (obC (gft hb9) (obC hb10 (obC hb9 obN))))))))))))) ?_
         exact Sem.cast (by try rw [hb9];try rw [hb10];kernel_rfl) hk0
     ·have h:=h.2 hb8
      obtain ⟨J19,hJ19,h⟩:=h
      refine sjD (fun (q:Bool)=>J19 q) (fun (q:Bool)=>(fun (t98:Bool)=>([(4,vi deep),(7,.ptr 14 0),(14,zC x),(16,vB (!(zb.e0 (ze.Set x) == 0 && (zb.e1 (ze.Set x) == 0 && (zb.e2 (ze.Set x) == 0 && (zb.e3 (ze.Set x) == 0 && true)))))),(19,vB (ze.Lo x == 0 && ze.Hi x == 0)),(295,vB t98)]:Sta)) q) ?_ ?_
      ·rintro t98 hj
       have h:=hJ19 t98 hj
       refine cD (t:=98) (b:=t98) (fun hb20=>?_) (fun hb20=>?_)
       ·have h:=h.1 hb20
        refine qD ?_
        refine sM [16,19,295] [(334,vB (!(zb.e0 (ze.Set x) == 0 && (zb.e1 (ze.Set x) == 0 && (zb.e2 (ze.Set x) == 0 && (zb.e3 (ze.Set x) == 0 && true)))) || (!(ze.Lo x == 0 && ze.Hi x == 0) || decide ((↑(List.length (ze.Kids x)):Int) < (2:Int)))))] ?_ (fun hk0=>?_)
        ·refine cD (t:=111) (b:=!(zb.e0 (ze.Set x) == 0 && (zb.e1 (ze.Set x) == 0 && (zb.e2 (ze.Set x) == 0 && (zb.e3 (ze.Set x) == 0 && true)))) || (!(ze.Lo x == 0 && ze.Hi x == 0) || decide ((↑(List.length (ze.Kids x)):Int) < (2:Int)))) (fun hb23=>?_) (fun hb23=>?_)
         ·have h:=h.1 hb23
          refine sD kk [] [4,7,14,334] [(13,vB false)] obN ?_
          refine tD ?_
          obtain he0:=h
          subst res
          exact (endD [] (vB false) []).1
         ·have h:=h.2 hb23
          refine Sem.skip' (by kernel_rfl) Wk.refl ?_
          show Sem _ _ _ _ _
          refine wkD [334] ?_
          refine qD ?_
          refine sD kk [] [] [(25,vi 0)] obN ?_
          refine bD (id:=1) ?_
          obtain ⟨Inv40,mu41,h0Inv40,hInv40⟩:=h
          refine loD (fun (q:Int)=>(fun (i:Int)=>([(4,vi deep),(7,.ptr 14 0),(14,zC x),(25,vi i)]:Sta)) q) (fun (q:Int)=>Inv40 q) (fun (q:Int)=>mu41 q) 0 [] h0Inv40 ?_
          rintro i hi
          have h:=hInv40 i hi
          refine qD ?_
          refine sDE kk [] [] [(349,vB (decide (i < (↑(List.length (List.map zn (ze.Kids x))):Int))))] [(349,vB (decide (i < (↑(List.length (ze.Kids x)):Int))))] obN ?_
          refine cD (t:=116) (b:=decide (i < (↑(List.length (ze.Kids x)):Int))) (fun hb42=>?_) (fun hb42=>?_)
          ·have h:=h.1 hb42
           refine Sem.skip' (by kernel_rfl) Wk.refl ?_
           show Sem _ _ _ _ _
           refine wkD [349] ?_
           refine qD ?_
           refine bD (id:=2) ?_
           obtain ⟨h43,h⟩:=h
           obtain ⟨h44,h⟩:=h
           rcases Bool.eq_false_or_eq_true (ze.Kind (gd (ze.Kids x) i) == ze.Kind x) with hb45 | hb45
           ·have h:=h.1 hb45
            refine sD kk [.e (zat (gd (ze.Kids x) i)),bF,bF,bF,bF,bF,bF,bF,bF,bF,bT] [] [(415,vB true)] (obC h43 (obC (zO zn (ze.Kids x) i _ (zP _) h43 h44) (obC (gff hb45) (obC (gff hb45) (obC (gff hb45) (obC (gff hb45) (obC (gff hb45) (obC (gff hb45) (obC (gff hb45) (obC (gff hb45) (obC (gff hb45) (obC hb45 obN)))))))))))) ?_
            refine cD (t:=138) (b:=true) (fun hb50=>?_) (fun hb50=>?_)
            ·refine sD kk [] [4,7,14,25,415] [(13,vB false)] obN ?_
             refine tD ?_
             obtain he0:=h
             subst res
             exact (endD [] (vB false) []).1
            ·cases hb50
           ·have h:=h.2 hb45
            obtain ⟨h46,h⟩:=h
            obtain ⟨h47,h⟩:=h
            obtain ⟨r0_3,hc48,h⟩:=h
            refine sD kk [.e (zat (gd (ze.Kids x) i)),bT,bT,bT,bT,.e (zat (gd (ze.Kids x) i)),bT,bT,bT,bT,.c (vB r0_3) [],bT,bF] [] [(415,vB (!r0_3))] (obC h43 (obC (zO zn (ze.Kids x) i _ (zP _) h43 h44) (obC (gft hb45) (obC (gft hb45) (obC (gft hb45) (obC (gft hb45) (obC (h46 hb45) (obC (zO zn (ze.Kids x) i _ (zP _) (h46 hb45) (h47 hb45)) (obC (gft hb45) (obC (gft hb45) (obC (gft hb45) (obC (gft hb45) (obC hc48 (obC (gft hb45) (obC hb45 obN))))))))))))))) ?_
            refine cD (t:=138) (b:=!r0_3) (fun hb49=>?_) (fun hb49=>?_)
            ·have h:=h.1 hb49
             refine sD kk [] [4,7,14,25,415] [(13,vB false)] obN ?_
             refine tD ?_
             obtain he0:=h
             subst res
             exact (endD [] (vB false) []).1
            ·have h:=h.2 hb49
             refine Sem.skip' (by kernel_rfl) Wk.refl ?_
             show Sem _ _ _ _ _
             refine wkD [415] ?_
             refine rD kk [] [] [(25,vi (w64 (i+1)))] obN ?_
             exact lD (w64 (i+1)) [] h
          ·have h:=h.2 hb42
           refine xD (i:=1) ?_
           show Sem _ _ _ _ _
           refine wkD [4,7,14,25,349] ?_
           refine sD kk [] [] [(13,vB true)] obN ?_
           refine tD ?_
           obtain he0:=h
           subst res
           exact (endD [] (vB true) []).1
        ·rcases Bool.eq_false_or_eq_true (!(zb.e0 (ze.Set x) == 0 && (zb.e1 (ze.Set x) == 0 && (zb.e2 (ze.Set x) == 0 && (zb.e3 (ze.Set x) == 0 && true))))) with hb21 | hb21
         ·refine sD kk [bF,bF,bT,bF,bF,bF,bF,bT] [16,19,295] [(334,vB true)] (obC (gff hb21) (obC (gff hb21) (obC hb21 (oF (oF (oF (oF (oT obN)))))))) ?_
          exact Sem.cast (by try rw [hb21];kernel_rfl) hk0
         ·rcases Bool.eq_false_or_eq_true (!(ze.Lo x == 0 && ze.Hi x == 0)) with hb22 | hb22
          ·refine sD kk [bT,bT,bF,bF,bF,bF,bF,bT] [16,19,295] [(334,vB true)] (obC (gft hb21) (obC (gft hb21) (obC hb21 (obC (gff hb22) (obC (gff hb22) (obC (gff hb22) (obC (gff hb22) (obC hb22 obN)))))))) ?_
           exact Sem.cast (by try rw [hb21];try rw [hb22];kernel_rfl) hk0
          ·refine sDE kk [bT,bT,bF,bT,bT,bT,bT,bF] [16,19,295] [(334,vB (decide ((↑(List.length (List.map zn (ze.Kids x))):Int) < (2:Int))))] [(334,vB (decide ((↑(List.length (ze.Kids x)):Int) < (2:Int))))] (obC (gft hb21) (obC (gft hb21) (obC hb21 (obC (gft hb22) (obC (gft hb22) (obC (gft hb22) (obC (gft hb22) (obC hb22 obN)))))))) ?_
           exact Sem.cast (by try rw [hb21];try rw [hb22];kernel_rfl) hk0
       ·have h:=h.2 hb20
        refine Sem.skip' (by kernel_rfl) Wk.refl ?_
        show Sem _ _ _ _ _
        refine wkD [4,7,14,16,19,295] ?_
        refine sD kk [] [] [(13,vB false)] obN ?_
        refine tD ?_
        obtain he0:=h
        subst res
        exact (endD [] (vB false) []).1
      ·refine sD kk [] [151] [(295,vB (ze.Kind x == (3:Int)))] obN ?_
       refine cD (t:=98) (b:=ze.Kind x == (3:Int)) (fun hb51=>?_) (fun hb51=>?_)
       ·have h:=h.1 hb51
        refine Sem.skip' (by kernel_rfl) Wk.refl ?_
        exact jD (ze.Kind x == (3:Int)) [] h
       ·have h:=h.2 hb51
        refine rD kk [] [73] [(295,vB (ze.Kind x == (4:Int)))] obN ?_
        exact jD (ze.Kind x == (4:Int)) [] h
  ·rcases Bool.eq_false_or_eq_true (ze.Lo x == 0) with hb1 | hb1
   ·refine sD kk [bT,bT,bT,bT] [] [(19,vB (ze.Hi x == 0))] (obC (gtt hb1) (obC (gtt hb1) (obC (gtt hb1) (obC hb1 obN)))) ?_
    exact Sem.cast (by try rw [hb1];kernel_rfl) hk0
   ·refine sD kk [bF,bF,bF,bF] [] [(19,vB false)] (obC (gtf hb1) (obC (gtf hb1) (obC (gtf hb1) (obC hb1 obN)))) ?_
    exact Sem.cast (by try rw [hb1];kernel_rfl) hk0
set_option maxHeartbeats 1000000 in
theorem zfg (x:ze) (res:Int)
 (h:(((ze.Kind x == (2:Int))=true→(res=1))∧((ze.Kind x == (2:Int))=false→(∃ J3:Bool→Prop,(∀ (t9:Bool),J3 t9→(((t9)=true→(∃ (Inv14:Int→Int→Prop) (mu15:Int→Int→Nat),Inv14 0 0∧(∀ (n:Int) (i:Int),Inv14 n i→(((decide (i < (↑(List.length (ze.Kids x)):Int)))=true→((0:Int)≤i)∧i < ↑(List.length (ze.Kids x))∧(∃ r0_2:Int,zba (gd (ze.Kids x) i) r0_2∧(((decide (w64 (n+r0_2) > (1000000:Int)))=true→(res=((1000000:Int))))∧((decide (w64 (n+r0_2) > (1000000:Int)))=false→(Inv14 (w64 (n+r0_2)) (w64 (i+1))∧mu15 (w64 (n+r0_2)) (w64 (i+1)) < mu15 n i)))))∧((decide (i < (↑(List.length (ze.Kids x)):Int)))=false→(∃ J22:Int→Prop,(∀ (n_1:Int),J22 n_1→(res=(if false=true then if (1000000:Int) > n_1 then (1000000:Int) else n_1 else if (1000000:Int) < n_1 then (1000000:Int) else n_1)))∧(((ze.Kind x == (5:Int))=true→J22 (w64 (n * if (if false=true then if (if ze.Hi x > ze.Lo x then ze.Hi x else ze.Lo x) > (1000:Int) then if ze.Hi x > ze.Lo x then ze.Hi x else ze.Lo x else (1000:Int) else if (if ze.Hi x > ze.Lo x then ze.Hi x else ze.Lo x) < (1000:Int) then if ze.Hi x > ze.Lo x then ze.Hi x else ze.Lo x else (1000:Int)) > (1:Int) then if false=true then if (if ze.Hi x > ze.Lo x then ze.Hi x else ze.Lo x) > (1000:Int) then if ze.Hi x > ze.Lo x then ze.Hi x else ze.Lo x else (1000:Int) else if (if ze.Hi x > ze.Lo x then ze.Hi x else ze.Lo x) < (1000:Int) then if ze.Hi x > ze.Lo x then ze.Hi x else ze.Lo x else (1000:Int) else (1:Int))))∧((ze.Kind x == (5:Int))=false→J22 n))))))))∧((t9)=false→(res=0))))∧(((ze.Kind x == (3:Int))=true→J3 (ze.Kind x == (3:Int)))∧((ze.Kind x == (3:Int))=false→(((ze.Kind x == (4:Int))=true→J3 (ze.Kind x == (4:Int)))∧((ze.Kind x == (4:Int))=false→J3 (ze.Kind x == (5:Int)))))))))):zba x res:=by
 unfold zba
 have kk:=cfOk [] 44
 refine fD (x:=bodyOf Tryz.f26) kk Tryz.func26 ?_
 refine wkS [1] [(1,zC x)] (by kernel_rfl) ?_
 refine sD kk [] [1] [(4,.ptr 8 0),(8,zC x)] obN ?_
 refine qD ?_
 refine sD kk [] [] [(19,vi (ze.Kind x))] obN ?_
 refine bD (id:=0) ?_
 refine sD kk [] [] [(22,vB (ze.Kind x == (2:Int)))] obN ?_
 refine cD (t:=7) (b:=ze.Kind x == (2:Int)) (fun hb0=>?_) (fun hb0=>?_)
 ·have h:=h.1 hb0
  refine sD kk [] [4,8,19,22] [(7,vi 1)] obN ?_
  refine tD ?_
  obtain he0:=h
  subst res
  exact (endD [] (vi 1) []).1
 ·have h:=h.2 hb0
  obtain ⟨J3,hJ3,h⟩:=h
  refine sjD (fun (q:Bool)=>J3 q) (fun (q:Bool)=>(fun (t9:Bool)=>([(4,.ptr 8 0),(8,zC x),(28,vB t9)]:Sta)) q) ?_ ?_
  ·rintro t9 hj
   have h:=hJ3 t9 hj
   refine cD (t:=9) (b:=t9) (fun hb4=>?_) (fun hb4=>?_)
   ·have h:=h.1 hb4
    refine sD kk [] [28] [(10,vi 0)] obN ?_
    refine qD ?_
    refine sD kk [] [] [(13,vi 0)] obN ?_
    refine bD (id:=1) ?_
    obtain ⟨Inv14,mu15,h0Inv14,hInv14⟩:=h
    refine loD (fun (q:Int×Int)=>(fun (n:Int) (i:Int)=>([(4,.ptr 8 0),(8,zC x),(10,vi n),(13,vi i)]:Sta)) q.1 q.2) (fun (q:Int×Int)=>Inv14 q.1 q.2) (fun (q:Int×Int)=>mu15 q.1 q.2) (0,0) [] h0Inv14 ?_
    rintro ⟨n,i⟩ hi
    have h:=hInv14 n i hi
    refine qD ?_
    refine sDE kk [] [] [(52,vB (decide (i < (↑(List.length (List.map zn (ze.Kids x))):Int))))] [(52,vB (decide (i < (↑(List.length (ze.Kids x)):Int))))] obN ?_
    refine cD (t:=17) (b:=decide (i < (↑(List.length (ze.Kids x)):Int))) (fun hb16=>?_) (fun hb16=>?_)
    ·have h:=h.1 hb16
     refine Sem.skip' (by kernel_rfl) Wk.refl ?_
     show Sem _ _ _ _ _
     refine wkD [52] ?_
     refine qD ?_
     refine bD (id:=2) ?_
     obtain ⟨h17,h⟩:=h
     obtain ⟨h18,h⟩:=h
     obtain ⟨r0_2,hc19,h⟩:=h
     refine sD kk [.e (zat (gd (ze.Kids x) i)),.c (vi r0_2) []] [] [(10,vi (w64 (n+r0_2)))] (obC h17 (obC (zO zn (ze.Kids x) i _ (zP _) h17 h18) (obC hc19 obN))) ?_
     refine sD kk [] [] [(88,vB (decide (w64 (n+r0_2) > (1000000:Int))))] obN ?_
     refine cD (t:=29) (b:=decide (w64 (n+r0_2) > (1000000:Int))) (fun hb20=>?_) (fun hb20=>?_)
     ·have h:=h.1 hb20
      refine sD kk [] [4,8,10,13,88] [(7,vi ((1000000:Int)))] obN ?_
      refine tD ?_
      obtain he0:=h
      subst res
      exact (endD [] (vi ((1000000:Int))) []).1
     ·have h:=h.2 hb20
      refine Sem.skip' (by kernel_rfl) Wk.refl ?_
      show Sem _ _ _ _ _
      refine wkD [88] ?_
      refine rD kk [] [] [(13,vi (w64 (i+1)))] obN ?_
      exact lD ((w64 (n+r0_2)),(w64 (i+1))) [] h
    ·have h:=h.2 hb16
     refine xD (i:=1) ?_
     show Sem _ _ _ _ _
     refine wkD [13,52] ?_
     obtain ⟨J22,hJ22,h⟩:=h
     refine sjD (fun (q:Int)=>J22 q) (fun (q:Int)=>(fun (n_1:Int)=>([(10,vi n_1)]:Sta)) q) ?_ ?_
     ·rintro n_1 hj
      have h:=hJ22 n_1 hj
      refine sD kk [] [10] [(7,vi (if false=true then if (1000000:Int) > n_1 then (1000000:Int) else n_1 else if (1000000:Int) < n_1 then (1000000:Int) else n_1))] obN ?_
      refine tD ?_
      obtain he0:=h
      subst res
      exact (endD [] (vi (if false=true then if (1000000:Int) > n_1 then (1000000:Int) else n_1 else if (1000000:Int) < n_1 then (1000000:Int) else n_1)) []).1
     ·refine sD kk [] [] [(97,vB (ze.Kind x == (5:Int)))] obN ?_
      refine cD (t:=32) (b:=ze.Kind x == (5:Int)) (fun hb23=>?_) (fun hb23=>?_)
      ·have h:=h.1 hb23
       refine rDE kk [] [4,8,97] [(10,vi (w64 (n * if true=true then if (if false=true then if (if true=true then if ze.Hi x > ze.Lo x then ze.Hi x else ze.Lo x else if ze.Hi x < ze.Lo x then ze.Hi x else ze.Lo x) > (1000:Int) then if true=true then if ze.Hi x > ze.Lo x then ze.Hi x else ze.Lo x else if ze.Hi x < ze.Lo x then ze.Hi x else ze.Lo x else (1000:Int) else if (if true=true then if ze.Hi x > ze.Lo x then ze.Hi x else ze.Lo x else if ze.Hi x < ze.Lo x then ze.Hi x else ze.Lo x) < (1000:Int) then if true=true then if ze.Hi x > ze.Lo x then ze.Hi x else ze.Lo x else if ze.Hi x < ze.Lo x then ze.Hi x else ze.Lo x else (1000:Int)) > (1:Int) then if false=true then if (if true=true then if ze.Hi x > ze.Lo x then ze.Hi x else ze.Lo x else if ze.Hi x < ze.Lo x then ze.Hi x else ze.Lo x) > (1000:Int) then if true=true then if ze.Hi x > ze.Lo x then ze.Hi x else ze.Lo x else if ze.Hi x < ze.Lo x then ze.Hi x else ze.Lo x else (1000:Int) else if (if true=true then if ze.Hi x > ze.Lo x then ze.Hi x else ze.Lo x else if ze.Hi x < ze.Lo x then ze.Hi x else ze.Lo x) < (1000:Int) then if true=true then if ze.Hi x > ze.Lo x then ze.Hi x else ze.Lo x else if ze.Hi x < ze.Lo x then ze.Hi x else ze.Lo x else (1000:Int) else (1:Int) else if (if false=true then if (if true=true then if ze.Hi x > ze.Lo x then ze.Hi x else ze.Lo x else if ze.Hi x < ze.Lo x then ze.Hi x else ze.Lo x) > (1000:Int) then if true=true then if ze.Hi x > ze.Lo x then ze.Hi x else ze.Lo x else if ze.Hi x < ze.Lo x then ze.Hi x else ze.Lo x else (1000:Int) else if (if true=true then if ze.Hi x > ze.Lo x then ze.Hi x else ze.Lo x else if ze.Hi x < ze.Lo x then ze.Hi x else ze.Lo x) < (1000:Int) then if true=true then if ze.Hi x > ze.Lo x then ze.Hi x else ze.Lo x else if ze.Hi x < ze.Lo x then ze.Hi x else ze.Lo x else (1000:Int)) < (1:Int) then if false=true then if (if true=true then if ze.Hi x > ze.Lo x then ze.Hi x else ze.Lo x else if ze.Hi x < ze.Lo x then ze.Hi x else ze.Lo x) > (1000:Int) then if true=true then if ze.Hi x > ze.Lo x then ze.Hi x else ze.Lo x else if ze.Hi x < ze.Lo x then ze.Hi x else ze.Lo x else (1000:Int) else if (if true=true then if ze.Hi x > ze.Lo x then ze.Hi x else ze.Lo x else if ze.Hi x < ze.Lo x then ze.Hi x else ze.Lo x) < (1000:Int) then if true=true then if ze.Hi x > ze.Lo x then ze.Hi x else ze.Lo x else if ze.Hi x < ze.Lo x then ze.Hi x else ze.Lo x else (1000:Int) else (1:Int))))] [(10,vi (w64 (n * if (if false=true then if (if ze.Hi x > ze.Lo x then ze.Hi x else ze.Lo x) > (1000:Int) then if ze.Hi x > ze.Lo x then ze.Hi x else ze.Lo x else (1000:Int) else if (if ze.Hi x > ze.Lo x then ze.Hi x else ze.Lo x) < (1000:Int) then if ze.Hi x > ze.Lo x then ze.Hi x else ze.Lo x else (1000:Int)) > (1:Int) then if false=true then if (if ze.Hi x > ze.Lo x then ze.Hi x else ze.Lo x) > (1000:Int) then if ze.Hi x > ze.Lo x then ze.Hi x else ze.Lo x else (1000:Int) else if (if ze.Hi x > ze.Lo x then ze.Hi x else ze.Lo x) < (1000:Int) then if ze.Hi x > ze.Lo x then ze.Hi x else ze.Lo x else (1000:Int) else (1:Int))))] obN ?_
       exact jD (w64 (n * if (if false=true then if (if ze.Hi x > ze.Lo x then ze.Hi x else ze.Lo x) > (1000:Int) then if ze.Hi x > ze.Lo x then ze.Hi x else ze.Lo x else (1000:Int) else if (if ze.Hi x > ze.Lo x then ze.Hi x else ze.Lo x) < (1000:Int) then if ze.Hi x > ze.Lo x then ze.Hi x else ze.Lo x else (1000:Int)) > (1:Int) then if false=true then if (if ze.Hi x > ze.Lo x then ze.Hi x else ze.Lo x) > (1000:Int) then if ze.Hi x > ze.Lo x then ze.Hi x else ze.Lo x else (1000:Int) else if (if ze.Hi x > ze.Lo x then ze.Hi x else ze.Lo x) < (1000:Int) then if ze.Hi x > ze.Lo x then ze.Hi x else ze.Lo x else (1000:Int) else (1:Int))) [] h
      ·have h:=h.2 hb23
       refine Sem.skip' (by kernel_rfl) Wk.refl ?_
       exact jD n [] h
   ·have h:=h.2 hb4
    refine Sem.skip' (by kernel_rfl) Wk.refl ?_
    show Sem _ _ _ _ _
    refine wkD [4,8,28] ?_
    refine sD kk [] [] [(7,vi 0)] obN ?_
    refine tD ?_
    obtain he0:=h
    subst res
    exact (endD [] (vi 0) []).1
  ·refine sD kk [] [22] [(28,vB (ze.Kind x == (3:Int)))] obN ?_
   refine cD (t:=9) (b:=ze.Kind x == (3:Int)) (fun hb24=>?_) (fun hb24=>?_)
   ·have h:=h.1 hb24
    refine Sem.skip' (by kernel_rfl) Wk.refl ?_
    exact jD (ze.Kind x == (3:Int)) [] h
   ·have h:=h.2 hb24
    refine sD kk [] [] [(28,vB (ze.Kind x == (4:Int)))] obN ?_
    refine cD (t:=9) (b:=ze.Kind x == (4:Int)) (fun hb25=>?_) (fun hb25=>?_)
    ·have h:=h.1 hb25
     refine Sem.skip' (by kernel_rfl) Wk.refl ?_
     exact jD (ze.Kind x == (4:Int)) [] h
    ·have h:=h.2 hb25
     refine rD kk [] [19] [(28,vB (ze.Kind x == (5:Int)))] obN ?_
     exact jD (ze.Kind x == (5:Int)) [] h
set_option maxHeartbeats 1000000 in
theorem zeI (x:ze) (most:Int) (res:Int)
 (h:(∃ (Inv9:Int→Int→Prop) (mu10:Int→Int→Nat),Inv9 (w64 (most - 1)) 0∧(∀ (most_1:Int) (i:Int),Inv9 most_1 i→(((decide (i < (↑(List.length (List.map zn (ze.Kids x))):Int)) && decide (most_1≥(0:Int)))=true→((0:Int)≤i)∧i < ↑(List.length (ze.Kids x))∧(∃ r0_2:Int,zaO (gd (ze.Kids x) i) most_1 r0_2∧(Inv9 r0_2 (w64 (i+1))∧mu10 r0_2 (w64 (i+1)) < mu10 most_1 i)))∧((decide (i < (↑(List.length (List.map zn (ze.Kids x))):Int)) && decide (most_1≥(0:Int)))=false→(res=most_1)))))):zaO x most res:=by
 unfold zaO
 have kk:=cfOk [26] 27
 refine fD (x:=bodyOf Tryz.f38) kk Tryz.func38 ?_
 refine wkS [1,4] [(1,zC x),(4,vi most)] (by kernel_rfl) ?_
 refine sD kk [] [1] [(7,.ptr 14 0),(14,zC x)] obN ?_
 refine sD kk [] [] [(4,vi (w64 (most - 1)))] obN ?_
 refine qD ?_
 refine sD kk [] [] [(16,vi 0)] obN ?_
 refine bD (id:=0) ?_
 obtain ⟨Inv9,mu10,h0Inv9,hInv9⟩:=h
 refine loD (fun (q:Int×Int)=>(fun (most_1:Int) (i:Int)=>([(4,vi most_1),(7,.ptr 14 0),(14,zC x),(16,vi i)]:Sta)) q.1 q.2) (fun (q:Int×Int)=>Inv9 q.1 q.2) (fun (q:Int×Int)=>mu10 q.1 q.2) ((w64 (most - 1)),0) [] h0Inv9 ?_
 rintro ⟨most_1,i⟩ hi
 have h:=hInv9 most_1 i hi
 refine qD ?_
 refine sM [] [(49,vB (decide (i < (↑(List.length (List.map zn (ze.Kids x))):Int)) && decide (most_1≥(0:Int))))] ?_ (fun hk0=>?_)
 ·refine cD (t:=16) (b:=decide (i < (↑(List.length (List.map zn (ze.Kids x))):Int)) && decide (most_1≥(0:Int))) (fun hb12=>?_) (fun hb12=>?_)
  ·have h:=h.1 hb12
   refine Sem.skip' (by kernel_rfl) Wk.refl ?_
   show Sem _ _ _ _ _
   refine wkD [49] ?_
   refine qD ?_
   refine bD (id:=1) ?_
   obtain ⟨h13,h⟩:=h
   obtain ⟨h14,h⟩:=h
   obtain ⟨r0_2,hc15,h⟩:=h
   refine rD kk [.e (zat (gd (ze.Kids x) i)),.c (vi r0_2) []] [] [(4,vi r0_2)] (obC h13 (obC (zO zn (ze.Kids x) i _ (zP _) h13 h14) (obC hc15 obN))) ?_
   show Sem _ _ _ _ _
   refine rD kk [] [] [(16,vi (w64 (i+1)))] obN ?_
   exact lD (r0_2,(w64 (i+1))) [] h
  ·have h:=h.2 hb12
   refine xD (i:=0) ?_
   show Sem _ _ _ _ _
   refine wkD [7,14,16,49] ?_
   refine sD kk [] [4] [(13,vi most_1)] obN ?_
   refine tD ?_
   obtain he0:=h
   subst res
   exact (endD [] (vi most_1) []).1
 ·rcases Bool.eq_false_or_eq_true (decide (i < (↑(List.length (List.map zn (ze.Kids x))):Int))) with hb11 | hb11
  ·refine sD kk [bT,bT,bT] [] [(49,vB (decide (most_1≥(0:Int))))] (obC (gtt hb11) (obC (gtt hb11) (obC hb11 obN))) ?_
   exact Sem.cast (by try rw [hb11];kernel_rfl) hk0
  ·refine sD kk [bF,bF,bF] [] [(49,vB false)] (obC (gtf hb11) (obC (gtf hb11) (obC hb11 obN))) ?_
   exact Sem.cast (by try rw [hb11];kernel_rfl) hk0
set_option maxHeartbeats 1000000 in
theorem zeH (x:ze) (res:Bool)
 (h:(∃ r0:Bool,zaM x 20 r0∧(((r0)=true→(∃ r0_1:Int,zba x r0_1∧(((decide (r0_1≤(200:Int)))=true→(∃ r0_2:Int,zaO x ((1000:Int)) r0_2∧(res=(decide (r0_2≥(0:Int))))))∧((decide (r0_1≤(200:Int)))=false→(res=false)))))∧((r0)=false→(res=false))))):zaN x res:=by
 unfold zaN
 have kk:=cfOk [] 15
 refine fD (x:=bodyOf Tryz.f71) kk Tryz.func71 ?_
 refine wkS [1] [(1,zC x)] (by kernel_rfl) ?_
 refine sD kk [] [1] [(4,.ptr 8 0),(8,zC x)] obN ?_
 obtain ⟨r0,hc0,h⟩:=h
 rcases Bool.eq_false_or_eq_true (r0) with hb1 | hb1
 ·have h:=h.1 hb1
  obtain ⟨r0_1,hc2,h⟩:=h
  rcases Bool.eq_false_or_eq_true (decide (r0_1≤(200:Int))) with hb3 | hb3
  ·have h:=h.1 hb3
   obtain ⟨r0_2,hc4,h⟩:=h
   refine sD kk [.c (vB r0) [],bT,bT,.c (vi r0_1) [],bT,bT,bT,bT,.c (vi r0_2) [],bT,bT] [4,8] [(7,vB (decide (r0_2≥(0:Int))))] (obC hc0 (obC (gtt hb1) (obC (gtt hb1) (obC hc2 (obC (gtt hb1) (obC hb1 (obC (gtt hb3) (obC (gtt hb3) (obC hc4 (obC (gtt hb3) (obC hb3 obN))))))))))) ?_
   refine tD ?_
   obtain he0:=h
   subst res
   exact (endD [] (vB (decide (r0_2≥(0:Int)))) []).1
  ·have h:=h.2 hb3
   refine sD kk [.c (vB r0) [],bT,bT,.c (vi r0_1) [],bT,bT,bF,bF,bF,bF] [4,8] [(7,vB false)] (obC hc0 (obC (gtt hb1) (obC (gtt hb1) (obC hc2 (obC (gtt hb1) (obC hb1 (obC (gtf hb3) (obC (gtf hb3) (obC (gtf hb3) (obC hb3 obN)))))))))) ?_
   refine tD ?_
   obtain he0:=h
   subst res
   exact (endD [] (vB false) []).1
 ·have h:=h.2 hb1
  refine sD kk [.c (vB r0) [],bF,bF,bF,bF,bF,bF,bF,bF] [4,8] [(7,vB false)] (obC hc0 (obC (gtf hb1) (obC (gtf hb1) (obC (gtf hb1) (obC hb1 (oF (oF (oF (oF obN))))))))) ?_
  refine tD ?_
  obtain he0:=h
  subst res
  exact (endD [] (vB false) []).1
set_option maxHeartbeats 1000000 in
theorem zfe (r0:zj) (conds:Int) (res:Bool)
 (h:(∃ (Inv19:Int→Prop) (mu20:Int→Nat),Inv19 0∧(∀ (i:Int),Inv19 i→(((decide (i < (↑(List.length (zj.Conds r0)):Int)))=true→((0:Int)≤i)∧i < ↑(List.length (zj.Conds r0))∧((decide (gd (zj.Conds r0) i < (0:Int)))=false→((0:Int)≤i))∧((decide (gd (zj.Conds r0) i < (0:Int)))=false→i < ↑(List.length (zj.Conds r0)))∧((decide (gd (zj.Conds r0) i < (0:Int)))=false→((decide (gd (zj.Conds r0) i≥conds))=false→((decide (i > (0:Int)))=true→((0:Int)≤i))))∧((decide (gd (zj.Conds r0) i < (0:Int)))=false→((decide (gd (zj.Conds r0) i≥conds))=false→((decide (i > (0:Int)))=true→i < ↑(List.length (zj.Conds r0)))))∧((decide (gd (zj.Conds r0) i < (0:Int)))=false→((decide (gd (zj.Conds r0) i≥conds))=false→((decide (i > (0:Int)))=true→((0:Int)≤w64 (i - 1)))))∧((decide (gd (zj.Conds r0) i < (0:Int)))=false→((decide (gd (zj.Conds r0) i≥conds))=false→((decide (i > (0:Int)))=true→w64 (i - 1) < ↑(List.length (zj.Conds r0)))))∧(((decide (gd (zj.Conds r0) i < (0:Int)) || (decide (gd (zj.Conds r0) i≥conds) || decide (i > (0:Int)) && decide (gd (zj.Conds r0) i≤gd (zj.Conds r0) (w64 (i - 1)))))=true→(res=false))∧((decide (gd (zj.Conds r0) i < (0:Int)) || (decide (gd (zj.Conds r0) i≥conds) || decide (i > (0:Int)) && decide (gd (zj.Conds r0) i≤gd (zj.Conds r0) (w64 (i - 1)))))=false→(Inv19 (w64 (i+1))∧mu20 (w64 (i+1)) < mu20 i))))∧((decide (i < (↑(List.length (zj.Conds r0)):Int)))=false→(((bif zj.All r0 then decide ((↑(List.length (List.map zc (zj.Conds r0))):Int) > (0:Int)) || (decide (zj.Act r0 < (1:Int)) || (decide (zj.Act r0 > (3:Int)) || (decide (zj.To r0 < (0:Int)) || (decide (zj.To r0≥conds) || zj.Act r0 != (3:Int) && zj.To r0 != (0:Int))))) else decide (zj.Act r0 < (1:Int)) || (decide (zj.Act r0 > (3:Int)) || (decide (zj.To r0 < (0:Int)) || (decide (zj.To r0≥conds) || zj.Act r0 != (3:Int) && zj.To r0 != (0:Int)))))=true→(res=false))∧((bif zj.All r0 then decide ((↑(List.length (List.map zc (zj.Conds r0))):Int) > (0:Int)) || (decide (zj.Act r0 < (1:Int)) || (decide (zj.Act r0 > (3:Int)) || (decide (zj.To r0 < (0:Int)) || (decide (zj.To r0≥conds) || zj.Act r0 != (3:Int) && zj.To r0 != (0:Int))))) else decide (zj.Act r0 < (1:Int)) || (decide (zj.Act r0 > (3:Int)) || (decide (zj.To r0 < (0:Int)) || (decide (zj.To r0≥conds) || zj.Act r0 != (3:Int) && zj.To r0 != (0:Int)))))=false→(((zj.Eof r0)=true→(((!zj.Bol r0)=true→(∃ r0_1:Bool,zaT (zj.Rx r0) r0_1∧(((r0_1)=true→(∃ r0_2:Bool,zaT (zj.Trail r0) r0_2∧(res=r0_2)))∧((r0_1)=false→(res=false)))))∧((!zj.Bol r0)=false→(res=false))))∧((zj.Eof r0)=false→(∃ r0_3:Bool,zaN (zj.Rx r0) r0_3∧(((r0_3)=true→(∃ r0_4:Bool,zaT (zj.Trail r0) r0_4∧(((r0_4)=true→(res=true))∧((r0_4)=false→(∃ r0_5:Bool,zaN (zj.Trail r0) r0_5∧(res=r0_5))))))∧((r0_3)=false→(res=false))))))))))))):zaS r0 conds res:=by
 unfold zaS
 have kk:=cfOk [] 113
 refine fD (x:=bodyOf Tryz.f85) kk Tryz.func85 ?_
 refine wkS [1,4] [(1,zak r0),(4,vi conds)] (by kernel_rfl) ?_
 refine sD kk [] [1] [(7,.ptr 14 0),(14,zak r0)] obN ?_
 refine qD ?_
 refine sD kk [] [] [(16,vi 0)] obN ?_
 refine bD (id:=0) ?_
 obtain ⟨Inv19,mu20,h0Inv19,hInv19⟩:=h
 refine loD (fun (q:Int)=>(fun (i:Int)=>([(4,vi conds),(7,.ptr 14 0),(14,zak r0),(16,vi i)]:Sta)) q) (fun (q:Int)=>Inv19 q) (fun (q:Int)=>mu20 q) 0 [] h0Inv19 ?_
 rintro i hi
 have h:=hInv19 i hi
 refine qD ?_
 refine sDE kk [] [] [(31,vB (decide (i < (↑(List.length (List.map zc (zj.Conds r0))):Int))))] [(31,vB (decide (i < (↑(List.length (zj.Conds r0)):Int))))] obN ?_
 refine cD (t:=10) (b:=decide (i < (↑(List.length (zj.Conds r0)):Int))) (fun hb21=>?_) (fun hb21=>?_)
 ·have h:=h.1 hb21
  refine Sem.skip' (by kernel_rfl) Wk.refl ?_
  show Sem _ _ _ _ _
  refine wkD [31] ?_
  refine qD ?_
  refine bD (id:=1) ?_
  obtain ⟨h22,h⟩:=h
  obtain ⟨h23,h⟩:=h
  obtain ⟨h25,h26,h29,h30,h31,h32,h⟩:=h
  refine sM [] [(136,vB (decide (gd (zj.Conds r0) i < (0:Int)) || (decide (gd (zj.Conds r0) i≥conds) || decide (i > (0:Int)) && decide (gd (zj.Conds r0) i≤gd (zj.Conds r0) (w64 (i - 1))))))] ?_ (fun hk0=>?_)
  ·refine cD (t:=45) (b:=decide (gd (zj.Conds r0) i < (0:Int)) || (decide (gd (zj.Conds r0) i≥conds) || decide (i > (0:Int)) && decide (gd (zj.Conds r0) i≤gd (zj.Conds r0) (w64 (i - 1))))) (fun hb33=>?_) (fun hb33=>?_)
   ·have h:=h.1 hb33
    refine sD kk [] [4,7,14,16,136] [(13,vB false)] obN ?_
    refine tD ?_
    obtain he0:=h
    subst res
    exact (endD [] (vB false) []).1
   ·have h:=h.2 hb33
    refine Sem.skip' (by kernel_rfl) Wk.refl ?_
    show Sem _ _ _ _ _
    refine wkD [136] ?_
    refine rD kk [] [] [(16,vi (w64 (i+1)))] obN ?_
    exact lD (w64 (i+1)) [] h
  ·rcases Bool.eq_false_or_eq_true (decide (gd (zj.Conds r0) i < (0:Int))) with hb24 | hb24
   ·refine sD kk [.e (fi (gd (zj.Conds r0) i)),bF,bF,bF,bF,bF,bF,bF,bT,bF,bF,bF,bF,bT] [] [(136,vB true)] (obC h22 (obC (zO zc (zj.Conds r0) i _ rfl h22 h23) (obC (gff hb24) (obC (gff hb24) (obC (gff hb24) (obC (gff hb24) (obC (gff hb24) (obC (gff hb24) (obC (gff hb24) (obC hb24 (oF (oF (oF (oF (oT obN))))))))))))))) ?_
    exact Sem.cast (by try rw [hb24];kernel_rfl) hk0
   ·rcases Bool.eq_false_or_eq_true (decide (gd (zj.Conds r0) i≥conds)) with hb27 | hb27
    ·refine sD kk [.e (fi (gd (zj.Conds r0) i)),bT,bT,bT,bT,.e (fi (gd (zj.Conds r0) i)),bT,bT,bT,bF,bF,bF,bF,bF,bT] [] [(136,vB true)] (obC h22 (obC (zO zc (zj.Conds r0) i _ rfl h22 h23) (obC (gft hb24) (obC (gft hb24) (obC (gft hb24) (obC (gft hb24) (obC (h25 hb24) (obC (zO zc (zj.Conds r0) i _ rfl (h25 hb24) (h26 hb24)) (obC (gft hb24) (obC (gft hb24) (obC (gft hb24) (obC hb24 (obC (gff hb27) (obC (gff hb27) (obC (gff hb27) (obC (gff hb27) (obC hb27 obN))))))))))))))))) ?_
     exact Sem.cast (by try rw [hb24];try rw [hb27];kernel_rfl) hk0
    ·rcases Bool.eq_false_or_eq_true (decide (i > (0:Int))) with hb28 | hb28
     ·refine sD kk [.e (fi (gd (zj.Conds r0) i)),bT,bT,bT,bT,.e (fi (gd (zj.Conds r0) i)),bT,bT,bT,bF,bT,bT,bT,bT,bT,bT,bT,.e (fi (gd (zj.Conds r0) i)),bT,bT,bT,bT,bT,bT,.e (fi (gd (zj.Conds r0) (w64 (i - 1)))),bT,bT,bT,bT,bF] [] [(136,vB (decide (gd (zj.Conds r0) i≤gd (zj.Conds r0) (w64 (i - 1)))))] (obC h22 (obC (zO zc (zj.Conds r0) i _ rfl h22 h23) (obC (gft hb24) (obC (gft hb24) (obC (gft hb24) (obC (gft hb24) (obC (h25 hb24) (obC (zO zc (zj.Conds r0) i _ rfl (h25 hb24) (h26 hb24)) (obC (gft hb24) (obC (gft hb24) (obC (gft hb24) (obC hb24 (obC (gft hb27) (obC (gft hb27) (obC (gft hb27) (obC (gtt hb28) (obC (gtt hb28) (obC (gtt hb28) (obC (gtt hb28) (obC (((h29 hb24) hb27) hb28) (obC (zO zc (zj.Conds r0) i _ rfl (((h29 hb24) hb27) hb28) (((h30 hb24) hb27) hb28)) (obC (gtt hb28) (obC (gtt hb28) (obC (gtt hb28) (obC (gtt hb28) (obC (gtt hb28) (obC (gtt hb28) (obC (((h31 hb24) hb27) hb28) (obC (zO zc (zj.Conds r0) (w64 (i - 1)) _ rfl (((h31 hb24) hb27) hb28) (((h32 hb24) hb27) hb28)) (obC (gtt hb28) (obC (gtt hb28) (obC (gft hb27) (obC hb28 (obC hb27 obN)))))))))))))))))))))))))))))))))) ?_
      exact Sem.cast (by try rw [hb24];try rw [hb27];try rw [hb28];kernel_rfl) hk0
     ·refine sD kk [.e (fi (gd (zj.Conds r0) i)),bT,bT,bT,bT,.e (fi (gd (zj.Conds r0) i)),bT,bT,bT,bF,bT,bT,bT,bF,bF,bF,bF,bF,bF,bF,bF,bF,bF,bF,bF,bT,bF,bF] [] [(136,vB false)] (obC h22 (obC (zO zc (zj.Conds r0) i _ rfl h22 h23) (obC (gft hb24) (obC (gft hb24) (obC (gft hb24) (obC (gft hb24) (obC (h25 hb24) (obC (zO zc (zj.Conds r0) i _ rfl (h25 hb24) (h26 hb24)) (obC (gft hb24) (obC (gft hb24) (obC (gft hb24) (obC hb24 (obC (gft hb27) (obC (gft hb27) (obC (gft hb27) (obC (gtf hb28) (obC (gtf hb28) (obC (gtf hb28) (obC (gtf hb28) (obC (gtf hb28) (obC (gtf hb28) (obC (gtf hb28) (obC (gtf hb28) (obC (gtf hb28) (obC (gtf hb28) (obC (gtf hb28) (obC (gtf hb28) (obC (gft hb27) (obC hb28 (obC hb27 obN)))))))))))))))))))))))))))))) ?_
      exact Sem.cast (by try rw [hb24];try rw [hb27];try rw [hb28];kernel_rfl) hk0
 ·have h:=h.2 hb21
  refine xD (i:=0) ?_
  show Sem _ _ _ _ _
  refine wkD [16,31] ?_
  refine qD ?_
  refine sM [4] [(253,vB (bif zj.All r0 then decide ((↑(List.length (List.map zc (zj.Conds r0))):Int) > (0:Int)) || (decide (zj.Act r0 < (1:Int)) || (decide (zj.Act r0 > (3:Int)) || (decide (zj.To r0 < (0:Int)) || (decide (zj.To r0≥conds) || zj.Act r0 != (3:Int) && zj.To r0 != (0:Int))))) else decide (zj.Act r0 < (1:Int)) || (decide (zj.Act r0 > (3:Int)) || (decide (zj.To r0 < (0:Int)) || (decide (zj.To r0≥conds) || zj.Act r0 != (3:Int) && zj.To r0 != (0:Int))))))] ?_ (fun hk0=>?_)
  ·refine cD (t:=84) (b:=bif zj.All r0 then decide ((↑(List.length (List.map zc (zj.Conds r0))):Int) > (0:Int)) || (decide (zj.Act r0 < (1:Int)) || (decide (zj.Act r0 > (3:Int)) || (decide (zj.To r0 < (0:Int)) || (decide (zj.To r0≥conds) || zj.Act r0 != (3:Int) && zj.To r0 != (0:Int))))) else decide (zj.Act r0 < (1:Int)) || (decide (zj.Act r0 > (3:Int)) || (decide (zj.To r0 < (0:Int)) || (decide (zj.To r0≥conds) || zj.Act r0 != (3:Int) && zj.To r0 != (0:Int))))) (fun hb46=>?_) (fun hb46=>?_)
   ·have h:=h.1 hb46
    refine sD kk [] [7,14,253] [(13,vB false)] obN ?_
    refine tD ?_
    obtain he0:=h
    subst res
    exact (endD [] (vB false) []).1
   ·have h:=h.2 hb46
    refine Sem.skip' (by kernel_rfl) Wk.refl ?_
    show Sem _ _ _ _ _
    refine wkD [253] ?_
    refine qD ?_
    refine sD kk [] [] [(259,vB (zj.Eof r0))] obN ?_
    refine cD (t:=86) (b:=zj.Eof r0) (fun hb47=>?_) (fun hb47=>?_)
    ·have h:=h.1 hb47
     rcases Bool.eq_false_or_eq_true (!zj.Bol r0) with hb48 | hb48
     ·have h:=h.1 hb48
      obtain ⟨r0_1,hc49,h⟩:=h
      rcases Bool.eq_false_or_eq_true (r0_1) with hb50 | hb50
      ·have h:=h.1 hb50
       obtain ⟨r0_2,hc51,h⟩:=h
       refine sD kk [bT,bT,bT,.c (vB r0_1) [],bT,bT,bT,bT,.c (vB r0_2) [],bT] [7,14,259] [(13,vB r0_2)] (obC (gtt hb48) (obC (gtt hb48) (obC (gtt hb48) (obC hc49 (obC hb48 (obC (gtt hb50) (obC (gtt hb50) (obC (gtt hb50) (obC hc51 (obC hb50 obN)))))))))) ?_
       refine tD ?_
       obtain he0:=h
       subst res
       exact (endD [] (vB r0_2) []).1
      ·have h:=h.2 hb50
       refine sD kk [bT,bT,bT,.c (vB r0_1) [],bT,bF,bF,bF,bF] [7,14,259] [(13,vB false)] (obC (gtt hb48) (obC (gtt hb48) (obC (gtt hb48) (obC hc49 (obC hb48 (obC (gtf hb50) (obC (gtf hb50) (obC (gtf hb50) (obC hb50 obN))))))))) ?_
       refine tD ?_
       obtain he0:=h
       subst res
       exact (endD [] (vB false) []).1
     ·have h:=h.2 hb48
      refine sD kk [bF,bF,bF,bF,bF,bF,bF,bF] [7,14,259] [(13,vB false)] (obC (gtf hb48) (obC (gtf hb48) (obC (gtf hb48) (obC hb48 (oF (oF (oF (oF obN)))))))) ?_
      refine tD ?_
      obtain he0:=h
      subst res
      exact (endD [] (vB false) []).1
    ·have h:=h.2 hb47
     refine Sem.skip' (by kernel_rfl) Wk.refl ?_
     show Sem _ _ _ _ _
     refine wkD [259] ?_
     obtain ⟨r0_3,hc52,h⟩:=h
     rcases Bool.eq_false_or_eq_true (r0_3) with hb53 | hb53
     ·have h:=h.1 hb53
      obtain ⟨r0_4,hc54,h⟩:=h
      rcases Bool.eq_false_or_eq_true (r0_4) with hb55 | hb55
      ·have h:=h.1 hb55
       refine sD kk [.c (vB r0_3) [],bT,bT,bT,.c (vB r0_4) [],bT,bF,bF,bF,bT,bT,bT] [7,14] [(13,vB true)] (obC hc52 (obC (gtt hb53) (obC (gtt hb53) (obC (gtt hb53) (obC hc54 (obC (gtt hb53) (obC (gff hb55) (obC (gff hb55) (obC (gff hb55) (obC (gtt hb53) (obC hb55 (obC hb53 obN)))))))))))) ?_
       refine tD ?_
       obtain he0:=h
       subst res
       exact (endD [] (vB true) []).1
      ·have h:=h.2 hb55
       obtain ⟨r0_5,hc56,h⟩:=h
       refine sD kk [.c (vB r0_3) [],bT,bT,bT,.c (vB r0_4) [],bT,bT,bT,bT,.c (vB r0_5) [],bT,bF,bT] [7,14] [(13,vB r0_5)] (obC hc52 (obC (gtt hb53) (obC (gtt hb53) (obC (gtt hb53) (obC hc54 (obC (gtt hb53) (obC (gft hb55) (obC (gft hb55) (obC (gft hb55) (obC hc56 (obC (gtt hb53) (obC hb55 (obC hb53 obN))))))))))))) ?_
       refine tD ?_
       obtain he0:=h
       subst res
       exact (endD [] (vB r0_5) []).1
     ·have h:=h.2 hb53
      refine sD kk [.c (vB r0_3) [],bF,bF,bF,bF,bF,bF] [7,14] [(13,vB false)] (obC hc52 (obC (gtf hb53) (obC (gtf hb53) (obC (gtf hb53) (obC (gtf hb53) (obC (gtf hb53) (obC hb53 obN))))))) ?_
      refine tD ?_
      obtain he0:=h
      subst res
      exact (endD [] (vB false) []).1
  ·rcases Bool.eq_false_or_eq_true (zj.All r0) with hb34 | hb34
   ·rcases Bool.eq_false_or_eq_true (decide ((↑(List.length (List.map zc (zj.Conds r0))):Int) > (0:Int))) with hb35 | hb35
    ·refine sD kk [bT,bT,bT,bT,bT,bF,bF,bF,bT,bF,bF,bF,bT,bF,bF,bF,bT,bF,bF,bF,bF,bT,bF,bF,bF,bF,bF,bT] [4] [(253,vB true)] (obC (gtt hb34) (obC (gtt hb34) (obC (gtt hb34) (obC (gtt hb34) (obC hb34 (obC (gff hb35) (obC (gff hb35) (obC (gff hb35) (obC hb35 (oF (oF (oF (oT (oF (oF (oF (oT (oF (oF (oF (oF (oT (oF (oF (oF (oF (oF (oT obN)))))))))))))))))))))))))))) ?_
     exact Sem.cast (by try rw [hb34];try rw [hb35];kernel_rfl) hk0
    ·rcases Bool.eq_false_or_eq_true (decide (zj.Act r0 < (1:Int))) with hb36 | hb36
     ·refine sD kk [bT,bT,bT,bT,bT,bT,bT,bT,bF,bF,bF,bF,bT,bF,bF,bF,bT,bF,bF,bF,bF,bT,bF,bF,bF,bF,bF,bT] [4] [(253,vB true)] (obC (gtt hb34) (obC (gtt hb34) (obC (gtt hb34) (obC (gtt hb34) (obC hb34 (obC (gft hb35) (obC (gft hb35) (obC (gft hb35) (obC hb35 (obC (gff hb36) (obC (gff hb36) (obC (gff hb36) (obC hb36 (oF (oF (oF (oT (oF (oF (oF (oF (oT (oF (oF (oF (oF (oF (oT obN)))))))))))))))))))))))))))) ?_
      exact Sem.cast (by try rw [hb34];try rw [hb35];try rw [hb36];kernel_rfl) hk0
     ·rcases Bool.eq_false_or_eq_true (decide (zj.Act r0 > (3:Int))) with hb37 | hb37
      ·refine sD kk [bT,bT,bT,bT,bT,bT,bT,bT,bF,bT,bT,bT,bF,bF,bF,bF,bT,bF,bF,bF,bF,bT,bF,bF,bF,bF,bF,bT] [4] [(253,vB true)] (obC (gtt hb34) (obC (gtt hb34) (obC (gtt hb34) (obC (gtt hb34) (obC hb34 (obC (gft hb35) (obC (gft hb35) (obC (gft hb35) (obC hb35 (obC (gft hb36) (obC (gft hb36) (obC (gft hb36) (obC hb36 (obC (gff hb37) (obC (gff hb37) (obC (gff hb37) (obC hb37 (oF (oF (oF (oF (oT (oF (oF (oF (oF (oF (oT obN)))))))))))))))))))))))))))) ?_
       exact Sem.cast (by try rw [hb34];try rw [hb35];try rw [hb36];try rw [hb37];kernel_rfl) hk0
      ·rcases Bool.eq_false_or_eq_true (decide (zj.To r0 < (0:Int))) with hb38 | hb38
       ·refine sD kk [bT,bT,bT,bT,bT,bT,bT,bT,bF,bT,bT,bT,bF,bT,bT,bT,bF,bF,bF,bF,bF,bT,bF,bF,bF,bF,bF,bT] [4] [(253,vB true)] (obC (gtt hb34) (obC (gtt hb34) (obC (gtt hb34) (obC (gtt hb34) (obC hb34 (obC (gft hb35) (obC (gft hb35) (obC (gft hb35) (obC hb35 (obC (gft hb36) (obC (gft hb36) (obC (gft hb36) (obC hb36 (obC (gft hb37) (obC (gft hb37) (obC (gft hb37) (obC hb37 (obC (gff hb38) (obC (gff hb38) (obC (gff hb38) (obC (gff hb38) (obC hb38 (oF (oF (oF (oF (oF (oT obN)))))))))))))))))))))))))))) ?_
        exact Sem.cast (by try rw [hb34];try rw [hb35];try rw [hb36];try rw [hb37];try rw [hb38];kernel_rfl) hk0
       ·rcases Bool.eq_false_or_eq_true (decide (zj.To r0≥conds)) with hb39 | hb39
        ·refine sD kk [bT,bT,bT,bT,bT,bT,bT,bT,bF,bT,bT,bT,bF,bT,bT,bT,bF,bT,bT,bT,bT,bF,bF,bF,bF,bF,bF,bT] [4] [(253,vB true)] (obC (gtt hb34) (obC (gtt hb34) (obC (gtt hb34) (obC (gtt hb34) (obC hb34 (obC (gft hb35) (obC (gft hb35) (obC (gft hb35) (obC hb35 (obC (gft hb36) (obC (gft hb36) (obC (gft hb36) (obC hb36 (obC (gft hb37) (obC (gft hb37) (obC (gft hb37) (obC hb37 (obC (gft hb38) (obC (gft hb38) (obC (gft hb38) (obC (gft hb38) (obC hb38 (obC (gff hb39) (obC (gff hb39) (obC (gff hb39) (obC (gff hb39) (obC (gff hb39) (obC hb39 obN)))))))))))))))))))))))))))) ?_
         exact Sem.cast (by try rw [hb34];try rw [hb35];try rw [hb36];try rw [hb37];try rw [hb38];try rw [hb39];kernel_rfl) hk0
        ·rcases Bool.eq_false_or_eq_true (zj.Act r0 != (3:Int)) with hb40 | hb40
         ·refine sD kk [bT,bT,bT,bT,bT,bT,bT,bT,bF,bT,bT,bT,bF,bT,bT,bT,bF,bT,bT,bT,bT,bF,bT,bT,bT,bT,bT,bT,bT,bT,bT,bF] [4] [(253,vB (zj.To r0 != (0:Int)))] (obC (gtt hb34) (obC (gtt hb34) (obC (gtt hb34) (obC (gtt hb34) (obC hb34 (obC (gft hb35) (obC (gft hb35) (obC (gft hb35) (obC hb35 (obC (gft hb36) (obC (gft hb36) (obC (gft hb36) (obC hb36 (obC (gft hb37) (obC (gft hb37) (obC (gft hb37) (obC hb37 (obC (gft hb38) (obC (gft hb38) (obC (gft hb38) (obC (gft hb38) (obC hb38 (obC (gft hb39) (obC (gft hb39) (obC (gft hb39) (obC (gft hb39) (obC (gtt hb40) (obC (gtt hb40) (obC (gtt hb40) (obC (gft hb39) (obC hb40 (obC hb39 obN)))))))))))))))))))))))))))))))) ?_
          exact Sem.cast (by try rw [hb34];try rw [hb35];try rw [hb36];try rw [hb37];try rw [hb38];try rw [hb39];try rw [hb40];kernel_rfl) hk0
         ·refine sD kk [bT,bT,bT,bT,bT,bT,bT,bT,bF,bT,bT,bT,bF,bT,bT,bT,bF,bT,bT,bT,bT,bF,bT,bT,bT,bT,bF,bF,bF,bT,bF,bF] [4] [(253,vB false)] (obC (gtt hb34) (obC (gtt hb34) (obC (gtt hb34) (obC (gtt hb34) (obC hb34 (obC (gft hb35) (obC (gft hb35) (obC (gft hb35) (obC hb35 (obC (gft hb36) (obC (gft hb36) (obC (gft hb36) (obC hb36 (obC (gft hb37) (obC (gft hb37) (obC (gft hb37) (obC hb37 (obC (gft hb38) (obC (gft hb38) (obC (gft hb38) (obC (gft hb38) (obC hb38 (obC (gft hb39) (obC (gft hb39) (obC (gft hb39) (obC (gft hb39) (obC (gtf hb40) (obC (gtf hb40) (obC (gtf hb40) (obC (gft hb39) (obC hb40 (obC hb39 obN)))))))))))))))))))))))))))))))) ?_
          exact Sem.cast (by try rw [hb34];try rw [hb35];try rw [hb36];try rw [hb37];try rw [hb38];try rw [hb39];try rw [hb40];kernel_rfl) hk0
   ·rcases Bool.eq_false_or_eq_true (decide (zj.Act r0 < (1:Int))) with hb41 | hb41
    ·refine sD kk [bF,bF,bF,bF,bF,bT,bT,bT,bF,bF,bF,bF,bT,bF,bF,bF,bT,bF,bF,bF,bF,bT,bF,bF,bF,bF,bF,bT] [4] [(253,vB true)] (obC (gtf hb34) (obC (gtf hb34) (obC (gtf hb34) (obC (gtf hb34) (obC hb34 (oT (oT (oT (oF (obC (gff hb41) (obC (gff hb41) (obC (gff hb41) (obC hb41 (oF (oF (oF (oT (oF (oF (oF (oF (oT (oF (oF (oF (oF (oF (oT obN)))))))))))))))))))))))))))) ?_
     exact Sem.cast (by try rw [hb34];try rw [hb41];kernel_rfl) hk0
    ·rcases Bool.eq_false_or_eq_true (decide (zj.Act r0 > (3:Int))) with hb42 | hb42
     ·refine sD kk [bF,bF,bF,bF,bF,bT,bT,bT,bF,bT,bT,bT,bF,bF,bF,bF,bT,bF,bF,bF,bF,bT,bF,bF,bF,bF,bF,bT] [4] [(253,vB true)] (obC (gtf hb34) (obC (gtf hb34) (obC (gtf hb34) (obC (gtf hb34) (obC hb34 (oT (oT (oT (oF (obC (gft hb41) (obC (gft hb41) (obC (gft hb41) (obC hb41 (obC (gff hb42) (obC (gff hb42) (obC (gff hb42) (obC hb42 (oF (oF (oF (oF (oT (oF (oF (oF (oF (oF (oT obN)))))))))))))))))))))))))))) ?_
      exact Sem.cast (by try rw [hb34];try rw [hb41];try rw [hb42];kernel_rfl) hk0
     ·rcases Bool.eq_false_or_eq_true (decide (zj.To r0 < (0:Int))) with hb43 | hb43
      ·refine sD kk [bF,bF,bF,bF,bF,bT,bT,bT,bF,bT,bT,bT,bF,bT,bT,bT,bF,bF,bF,bF,bF,bT,bF,bF,bF,bF,bF,bT] [4] [(253,vB true)] (obC (gtf hb34) (obC (gtf hb34) (obC (gtf hb34) (obC (gtf hb34) (obC hb34 (oT (oT (oT (oF (obC (gft hb41) (obC (gft hb41) (obC (gft hb41) (obC hb41 (obC (gft hb42) (obC (gft hb42) (obC (gft hb42) (obC hb42 (obC (gff hb43) (obC (gff hb43) (obC (gff hb43) (obC (gff hb43) (obC hb43 (oF (oF (oF (oF (oF (oT obN)))))))))))))))))))))))))))) ?_
       exact Sem.cast (by try rw [hb34];try rw [hb41];try rw [hb42];try rw [hb43];kernel_rfl) hk0
      ·rcases Bool.eq_false_or_eq_true (decide (zj.To r0≥conds)) with hb44 | hb44
       ·refine sD kk [bF,bF,bF,bF,bF,bT,bT,bT,bF,bT,bT,bT,bF,bT,bT,bT,bF,bT,bT,bT,bT,bF,bF,bF,bF,bF,bF,bT] [4] [(253,vB true)] (obC (gtf hb34) (obC (gtf hb34) (obC (gtf hb34) (obC (gtf hb34) (obC hb34 (oT (oT (oT (oF (obC (gft hb41) (obC (gft hb41) (obC (gft hb41) (obC hb41 (obC (gft hb42) (obC (gft hb42) (obC (gft hb42) (obC hb42 (obC (gft hb43) (obC (gft hb43) (obC (gft hb43) (obC (gft hb43) (obC hb43 (obC (gff hb44) (obC (gff hb44) (obC (gff hb44) (obC (gff hb44) (obC (gff hb44) (obC hb44 obN)))))))))))))))))))))))))))) ?_
        exact Sem.cast (by try rw [hb34];try rw [hb41];try rw [hb42];try rw [hb43];try rw [hb44];kernel_rfl) hk0
       ·rcases Bool.eq_false_or_eq_true (zj.Act r0 != (3:Int)) with hb45 | hb45
        ·refine sD kk [bF,bF,bF,bF,bF,bT,bT,bT,bF,bT,bT,bT,bF,bT,bT,bT,bF,bT,bT,bT,bT,bF,bT,bT,bT,bT,bT,bT,bT,bT,bT,bF] [4] [(253,vB (zj.To r0 != (0:Int)))] (obC (gtf hb34) (obC (gtf hb34) (obC (gtf hb34) (obC (gtf hb34) (obC hb34 (oT (oT (oT (oF (obC (gft hb41) (obC (gft hb41) (obC (gft hb41) (obC hb41 (obC (gft hb42) (obC (gft hb42) (obC (gft hb42) (obC hb42 (obC (gft hb43) (obC (gft hb43) (obC (gft hb43) (obC (gft hb43) (obC hb43 (obC (gft hb44) (obC (gft hb44) (obC (gft hb44) (obC (gft hb44) (obC (gtt hb45) (obC (gtt hb45) (obC (gtt hb45) (obC (gft hb44) (obC hb45 (obC hb44 obN)))))))))))))))))))))))))))))))) ?_
         exact Sem.cast (by try rw [hb34];try rw [hb41];try rw [hb42];try rw [hb43];try rw [hb44];try rw [hb45];kernel_rfl) hk0
        ·refine sD kk [bF,bF,bF,bF,bF,bT,bT,bT,bF,bT,bT,bT,bF,bT,bT,bT,bF,bT,bT,bT,bT,bF,bT,bT,bT,bT,bF,bF,bF,bT,bF,bF] [4] [(253,vB false)] (obC (gtf hb34) (obC (gtf hb34) (obC (gtf hb34) (obC (gtf hb34) (obC hb34 (oT (oT (oT (oF (obC (gft hb41) (obC (gft hb41) (obC (gft hb41) (obC hb41 (obC (gft hb42) (obC (gft hb42) (obC (gft hb42) (obC hb42 (obC (gft hb43) (obC (gft hb43) (obC (gft hb43) (obC (gft hb43) (obC hb43 (obC (gft hb44) (obC (gft hb44) (obC (gft hb44) (obC (gft hb44) (obC (gtf hb45) (obC (gtf hb45) (obC (gtf hb45) (obC (gft hb44) (obC hb45 (obC hb44 obN)))))))))))))))))))))))))))))))) ?_
         exact Sem.cast (by try rw [hb34];try rw [hb41];try rw [hb42];try rw [hb43];try rw [hb44];try rw [hb45];kernel_rfl) hk0
end Go.Ev
set_option linter.unusedSimpArgs false
set_option linter.unusedVariables false
namespace Go.Ev
open Go Go.Proofs
set_option maxRecDepth 8000
set_option maxHeartbeats 1000000 in
theorem zeF (s0:zh) (res:Bool)
 (h:((decide ((↑(List.length (List.map zx (zh.Conds s0))):Int) < (1:Int)))=false→((decide ((↑(List.length (List.map zx (zh.Conds s0))):Int) > (8:Int)))=false→(0:Nat) < List.length (zh.Conds s0)))∧(((decide ((↑(List.length (List.map zx (zh.Conds s0))):Int) < (1:Int)) || (decide ((↑(List.length (List.map zx (zh.Conds s0))):Int) > (8:Int)) || (!(ByteArray.toList (zJ.Name (List.getD (zh.Conds s0) (0:Nat) default)) == ByteArray.toList { data:=#[(73:UInt8),(78:UInt8),(73:UInt8),(84:UInt8),(73:UInt8),(65:UInt8),(76:UInt8)] } && (zJ.Exclusive (List.getD (zh.Conds s0) (0:Nat) default) == false && true)) || decide ((↑(List.length (zh.Rules s0)):Int) > (40:Int)))))=true→(res=false))∧((decide ((↑(List.length (List.map zx (zh.Conds s0))):Int) < (1:Int)) || (decide ((↑(List.length (List.map zx (zh.Conds s0))):Int) > (8:Int)) || (!(ByteArray.toList (zJ.Name (List.getD (zh.Conds s0) (0:Nat) default)) == ByteArray.toList { data:=#[(73:UInt8),(78:UInt8),(73:UInt8),(84:UInt8),(73:UInt8),(65:UInt8),(76:UInt8)] } && (zJ.Exclusive (List.getD (zh.Conds s0) (0:Nat) default) == false && true)) || decide ((↑(List.length (zh.Rules s0)):Int) > (40:Int)))))=false→(∃ (Inv37:Int→Prop) (mu38:Int→Nat),Inv37 0∧(∀ (i:Int),Inv37 i→(((decide (i < (↑(List.length (zh.Conds s0)):Int)))=true→((0:Int)≤i)∧i < ↑(List.length (zh.Conds s0))∧(∃ r0_2:Bool,zcM (zJ.Name (gd (zh.Conds s0) i)) r0_2∧(((!r0_2)=true→(res=false))∧((!r0_2)=false→(∃ (Inv55:Int→Prop) (mu56:Int→Nat),Inv55 0∧(∀ (k_1:Int),Inv55 k_1→(((decide (k_1 < i))=true→((0:Int)≤k_1)∧k_1 < ↑(List.length (zh.Conds s0))∧((0:Int)≤i)∧i < ↑(List.length (zh.Conds s0))∧(((ByteArray.toList (zJ.Name (gd (zh.Conds s0) k_1)) == ByteArray.toList (zJ.Name (gd (zh.Conds s0) i)))=true→(res=false))∧((ByteArray.toList (zJ.Name (gd (zh.Conds s0) k_1)) == ByteArray.toList (zJ.Name (gd (zh.Conds s0) i)))=false→(Inv55 (w64 (k_1+1))∧mu56 (w64 (k_1+1)) < mu56 k_1))))∧((decide (k_1 < i))=false→(Inv37 (w64 (i+1))∧mu38 (w64 (i+1)) < mu38 i)))))))))∧((decide (i < (↑(List.length (zh.Conds s0)):Int)))=false→(∃ (Inv72:Int→Prop) (mu73:Int→Nat),Inv72 0∧(∀ (i_1:Int),Inv72 i_1→(((decide (i_1 < (↑(List.length (zh.Rules s0)):Int)))=true→((0:Int)≤i_1)∧i_1 < ↑(List.length (zh.Rules s0))∧(∃ r0_5:Bool,zaS (gd (zh.Rules s0) i_1) ((↑(List.length (zh.Conds s0)):Int)) r0_5∧(((!r0_5)=true→(res=false))∧((!r0_5)=false→(Inv72 (w64 (i_1+1))∧mu73 (w64 (i_1+1)) < mu73 i_1)))))∧((decide (i_1 < (↑(List.length (zh.Rules s0)):Int)))=false→(res=true)))))))))))):za5 s0 res:=by
 unfold za5
 have kk:=cfOk [] 80
 refine fD (x:=bodyOf Tryz.f44) kk Tryz.func44 ?_
 refine wkS [1] [(1,zG s0)] (by kernel_rfl) ?_
 refine sD kk [] [1] [(4,.ptr 8 0),(8,zG s0)] obN ?_
 refine qD ?_
 obtain ⟨h2,h⟩:=h
 refine sM [] [(88,vB (decide ((↑(List.length (List.map zx (zh.Conds s0))):Int) < (1:Int)) || (decide ((↑(List.length (List.map zx (zh.Conds s0))):Int) > (8:Int)) || (!(ByteArray.toList (zJ.Name (List.getD (zh.Conds s0) (0:Nat) default)) == ByteArray.toList { data:=#[(73:UInt8),(78:UInt8),(73:UInt8),(84:UInt8),(73:UInt8),(65:UInt8),(76:UInt8)] } && (zJ.Exclusive (List.getD (zh.Conds s0) (0:Nat) default) == false && true)) || decide ((↑(List.length (zh.Rules s0)):Int) > (40:Int))))))] ?_ (fun hk0=>?_)
 ·refine cD (t:=29) (b:=decide ((↑(List.length (List.map zx (zh.Conds s0))):Int) < (1:Int)) || (decide ((↑(List.length (List.map zx (zh.Conds s0))):Int) > (8:Int)) || (!(ByteArray.toList (zJ.Name (List.getD (zh.Conds s0) (0:Nat) default)) == ByteArray.toList { data:=#[(73:UInt8),(78:UInt8),(73:UInt8),(84:UInt8),(73:UInt8),(65:UInt8),(76:UInt8)] } && (zJ.Exclusive (List.getD (zh.Conds s0) (0:Nat) default) == false && true)) || decide ((↑(List.length (zh.Rules s0)):Int) > (40:Int))))) (fun hb4=>?_) (fun hb4=>?_)
  ·have h:=h.1 hb4
   refine sD kk [] [4,8,88] [(7,vB false)] obN ?_
   refine tD ?_
   obtain he0:=h
   subst res
   exact (endD [] (vB false) []).1
  ·have h:=h.2 hb4
   refine Sem.skip' (by kernel_rfl) Wk.refl ?_
   show Sem _ _ _ _ _
   refine wkD [88] ?_
   refine qD ?_
   refine sD kk [] [] [(10,vi 0)] obN ?_
   refine bD (id:=0) ?_
   obtain ⟨Inv37,mu38,h0Inv37,hInv37⟩:=h
   refine loD (fun (q:Int)=>(fun (i:Int)=>([(4,.ptr 8 0),(8,zG s0),(10,vi i)]:Sta)) q) (fun (q:Int)=>Inv37 q) (fun (q:Int)=>mu38 q) 0 [] h0Inv37 ?_
   rintro i hi
   have h:=hInv37 i hi
   refine qD ?_
   refine sDE kk [] [] [(103,vB (decide (i < (↑(List.length (List.map zx (zh.Conds s0))):Int))))] [(103,vB (decide (i < (↑(List.length (zh.Conds s0)):Int))))] obN ?_
   refine cD (t:=34) (b:=decide (i < (↑(List.length (zh.Conds s0)):Int))) (fun hb39=>?_) (fun hb39=>?_)
   ·have h:=h.1 hb39
    refine Sem.skip' (by kernel_rfl) Wk.refl ?_
    show Sem _ _ _ _ _
    refine wkD [103] ?_
    refine qD ?_
    refine bD (id:=1) ?_
    refine qD ?_
    obtain ⟨h40,h⟩:=h
    obtain ⟨h41,h⟩:=h
    obtain ⟨r0_2,hc42,h⟩:=h
    refine sD kk [.e (zaG (gd (zh.Conds s0) i)),.c (vB r0_2) []] [] [(133,vB (!r0_2))] (obC h40 (obC (zO zx (zh.Conds s0) i _ (zaa _) h40 h41) (obC hc42 obN))) ?_
    refine cD (t:=44) (b:=!r0_2) (fun hb43=>?_) (fun hb43=>?_)
    ·have h:=h.1 hb43
     refine sD kk [] [4,8,10,133] [(7,vB false)] obN ?_
     refine tD ?_
     obtain he0:=h
     subst res
     exact (endD [] (vB false) []).1
    ·have h:=h.2 hb43
     refine Sem.skip' (by kernel_rfl) Wk.refl ?_
     show Sem _ _ _ _ _
     refine wkD [133] ?_
     refine sD kk [] [] [(13,vi 0)] obN ?_
     refine bD (id:=2) ?_
     obtain ⟨Inv55,mu56,h0Inv55,hInv55⟩:=h
     refine loD (fun (q:Int)=>(fun (k_1:Int)=>([(4,.ptr 8 0),(8,zG s0),(10,vi i),(13,vi k_1)]:Sta)) q) (fun (q:Int)=>Inv55 q) (fun (q:Int)=>mu56 q) 0 [] h0Inv55 ?_
     rintro k_1 hi
     have h:=hInv55 k_1 hi
     refine qD ?_
     refine sD kk [] [] [(142,vB (decide (k_1 < i)))] obN ?_
     refine cD (t:=47) (b:=decide (k_1 < i)) (fun hb57=>?_) (fun hb57=>?_)
     ·have h:=h.1 hb57
      refine Sem.skip' (by kernel_rfl) Wk.refl ?_
      show Sem _ _ _ _ _
      refine wkD [142] ?_
      refine qD ?_
      refine bD (id:=3) ?_
      obtain ⟨h58,h⟩:=h
      obtain ⟨h59,h⟩:=h
      obtain ⟨h60,h⟩:=h
      obtain ⟨h61,h⟩:=h
      refine sD kk [.e (zaG (gd (zh.Conds s0) k_1)),.e (zaG (gd (zh.Conds s0) i))] [] [(187,vB (ByteArray.toList (zJ.Name (gd (zh.Conds s0) k_1)) == ByteArray.toList (zJ.Name (gd (zh.Conds s0) i))))] (obC h58 (obC (zO zx (zh.Conds s0) k_1 _ (zaa _) h58 h59) (obC h60 (obC (zO zx (zh.Conds s0) i _ (zaa _) h60 h61) obN)))) ?_
      refine cD (t:=62) (b:=ByteArray.toList (zJ.Name (gd (zh.Conds s0) k_1)) == ByteArray.toList (zJ.Name (gd (zh.Conds s0) i))) (fun hb62=>?_) (fun hb62=>?_)
      ·have h:=h.1 hb62
       refine sD kk [] [4,8,10,13,187] [(7,vB false)] obN ?_
       refine tD ?_
       obtain he0:=h
       subst res
       exact (endD [] (vB false) []).1
      ·have h:=h.2 hb62
       refine Sem.skip' (by kernel_rfl) Wk.refl ?_
       show Sem _ _ _ _ _
       refine wkD [187] ?_
       refine rD kk [] [] [(13,vi (w64 (k_1+1)))] obN ?_
       exact lD (w64 (k_1+1)) [] h
     ·have h:=h.2 hb57
      refine xD (i:=2) ?_
      show Sem _ _ _ _ _
      refine wkD [13,142] ?_
      refine rD kk [] [] [(10,vi (w64 (i+1)))] obN ?_
      exact lD (w64 (i+1)) [] h
   ·have h:=h.2 hb39
    refine xD (i:=0) ?_
    show Sem _ _ _ _ _
    refine wkD [10,103] ?_
    refine qD ?_
    refine sD kk [] [] [(16,vi 0)] obN ?_
    refine bD (id:=4) ?_
    obtain ⟨Inv72,mu73,h0Inv72,hInv72⟩:=h
    refine loD (fun (q:Int)=>(fun (i_1:Int)=>([(4,.ptr 8 0),(8,zG s0),(16,vi i_1)]:Sta)) q) (fun (q:Int)=>Inv72 q) (fun (q:Int)=>mu73 q) 0 [] h0Inv72 ?_
    rintro i_1 hi
    have h:=hInv72 i_1 hi
    refine qD ?_
    refine sDE kk [] [] [(202,vB (decide (i_1 < (↑(List.length (List.map zy (zh.Rules s0))):Int))))] [(202,vB (decide (i_1 < (↑(List.length (zh.Rules s0)):Int))))] obN ?_
    refine cD (t:=67) (b:=decide (i_1 < (↑(List.length (zh.Rules s0)):Int))) (fun hb74=>?_) (fun hb74=>?_)
    ·have h:=h.1 hb74
     refine Sem.skip' (by kernel_rfl) Wk.refl ?_
     show Sem _ _ _ _ _
     refine wkD [202] ?_
     refine qD ?_
     refine bD (id:=5) ?_
     obtain ⟨h75,h⟩:=h
     obtain ⟨h76,h⟩:=h
     obtain ⟨r0_5,hc77,h⟩:=h
     refine sD kk [.e (zbd (gd (zh.Rules s0) i_1)),.c (vB r0_5) []] [] [(238,vB (!r0_5))] (obC h75 (obC (zO zy (zh.Rules s0) i_1 _ (zau _) h75 h76) (obC (Eq.mp (by unfold zaS;(try simp only [List.drop_zero,List.take_length]);first | done | simp only [nm,enq]:zaS (gd (zh.Rules s0) i_1) ((↑(List.length (zh.Conds s0)):Int)) r0_5=CallE Tryz.prog 85 [.agg [vL zc (zj.Conds (gd (zh.Rules s0) i_1)),vB (zj.All (gd (zh.Rules s0) i_1)),vB (zj.Bol (gd (zh.Rules s0) i_1)),vi (ze.Kind (zj.Rx (gd (zh.Rules s0) i_1))),vI .u64 (zb.e0 (ze.Set (zj.Rx (gd (zh.Rules s0) i_1)))),vI .u64 (zb.e1 (ze.Set (zj.Rx (gd (zh.Rules s0) i_1)))),vI .u64 (zb.e2 (ze.Set (zj.Rx (gd (zh.Rules s0) i_1)))),vI .u64 (zb.e3 (ze.Set (zj.Rx (gd (zh.Rules s0) i_1)))),vi (ze.Lo (zj.Rx (gd (zh.Rules s0) i_1))),vi (ze.Hi (zj.Rx (gd (zh.Rules s0) i_1))),vL zn (ze.Kids (zj.Rx (gd (zh.Rules s0) i_1))),vi (ze.Kind (zj.Trail (gd (zh.Rules s0) i_1))),vI .u64 (zb.e0 (ze.Set (zj.Trail (gd (zh.Rules s0) i_1)))),vI .u64 (zb.e1 (ze.Set (zj.Trail (gd (zh.Rules s0) i_1)))),vI .u64 (zb.e2 (ze.Set (zj.Trail (gd (zh.Rules s0) i_1)))),vI .u64 (zb.e3 (ze.Set (zj.Trail (gd (zh.Rules s0) i_1)))),vi (ze.Lo (zj.Trail (gd (zh.Rules s0) i_1))),vi (ze.Hi (zj.Trail (gd (zh.Rules s0) i_1))),vL zn (ze.Kids (zj.Trail (gd (zh.Rules s0) i_1))),vB (zj.Eof (gd (zh.Rules s0) i_1)),vi (zj.Act (gd (zh.Rules s0) i_1)),vi (zj.To (gd (zh.Rules s0) i_1))],vi ((↑(List.length (List.map zx (zh.Conds s0))):Int))] [] (vB r0_5) []) hc77) obN))) ?_
     refine cD (t:=79) (b:=!r0_5) (fun hb78=>?_) (fun hb78=>?_)
     ·have h:=h.1 hb78
      refine sD kk [] [4,8,16,238] [(7,vB false)] obN ?_
      refine tD ?_
      obtain he0:=h
      subst res
      exact (endD [] (vB false) []).1
     ·have h:=h.2 hb78
      refine Sem.skip' (by kernel_rfl) Wk.refl ?_
      show Sem _ _ _ _ _
      refine wkD [238] ?_
      refine rD kk [] [] [(16,vi (w64 (i_1+1)))] obN ?_
      exact lD (w64 (i_1+1)) [] h
    ·have h:=h.2 hb74
     refine xD (i:=4) ?_
     show Sem _ _ _ _ _
     refine wkD [4,8,16,202] ?_
     refine sD kk [] [] [(7,vB true)] obN ?_
     refine tD ?_
     obtain he0:=h
     subst res
     exact (endD [] (vB true) []).1
 ·rcases Bool.eq_false_or_eq_true (decide ((↑(List.length (List.map zx (zh.Conds s0))):Int) < (1:Int))) with hb0 | hb0
  ·refine sD kk [bF,bF,bF,bF,bT,bF,bF,bF,bF,bF,bF,bT,bF,bF,bF,bF,bT] [] [(88,vB true)] (obC (gff hb0) (obC (gff hb0) (obC (gff hb0) (obC (gff hb0) (obC hb0 (oF (oF (oF (oF (oF (oF (oT (oF (oF (oF (oF (oT obN))))))))))))))))) ?_
   exact Sem.cast (by try rw [hb0];kernel_rfl) hk0
  ·rcases Bool.eq_false_or_eq_true (decide ((↑(List.length (List.map zx (zh.Conds s0))):Int) > (8:Int))) with hb1 | hb1
   ·refine sD kk [bT,bT,bT,bT,bF,bF,bF,bF,bF,bF,bF,bT,bF,bF,bF,bF,bT] [] [(88,vB true)] (obC (gft hb0) (obC (gft hb0) (obC (gft hb0) (obC (gft hb0) (obC hb0 (obC (gff hb1) (obC (gff hb1) (obC (gff hb1) (obC (gff hb1) (obC (gff hb1) (obC (gff hb1) (obC hb1 (oF (oF (oF (oF (oT obN))))))))))))))))) ?_
    exact Sem.cast (by try rw [hb0];try rw [hb1];kernel_rfl) hk0
   ·rcases Bool.eq_false_or_eq_true (!(ByteArray.toList (zJ.Name (List.getD (zh.Conds s0) (0:Nat) default)) == ByteArray.toList { data:=#[(73:UInt8),(78:UInt8),(73:UInt8),(84:UInt8),(73:UInt8),(65:UInt8),(76:UInt8)] } && (zJ.Exclusive (List.getD (zh.Conds s0) (0:Nat) default) == false && true))) with hb3 | hb3
    ·refine sD kk [bT,bT,bT,bT,bF,bT,bT,bT,.e (zaG (List.getD (zh.Conds s0) (0:Nat) default)),bT,bT,bT,bF,bF,bF,bF,bF,bT] [] [(88,vB true)] (obC (gft hb0) (obC (gft hb0) (obC (gft hb0) (obC (gft hb0) (obC hb0 (obC (gft hb1) (obC (gft hb1) (obC (gft hb1) (obC (show (0:Int)≤(0:Int) from by first | decide | rfl | trivial) (obC (show (List.map zx (zh.Conds s0))[(Int.toNat (0:Int):Nat)]?=some (zaG (List.getD (zh.Conds s0) (0:Nat) default)) from by have:=zcb zx (zh.Conds s0) ((0:Nat)) _ (zaa _) ((h2 hb0) hb1);simpa only [nm,enq,zaa] using this) (obC (gft hb1) (obC (gft hb1) (obC (gft hb1) (obC hb1 (obC (gff hb3) (obC (gff hb3) (obC (gff hb3) (obC (gff hb3) (obC hb3 obN))))))))))))))))))) ?_
     exact Sem.cast (by try rw [hb0];try rw [hb1];try rw [hb3];kernel_rfl) hk0
    ·refine sDE kk [bT,bT,bT,bT,bF,bT,bT,bT,.e (zaG (List.getD (zh.Conds s0) (0:Nat) default)),bT,bT,bT,bF,bT,bT,bT,bT,bF] [] [(88,vB (decide ((↑(List.length (List.map zy (zh.Rules s0))):Int) > (40:Int))))] [(88,vB (decide ((↑(List.length (zh.Rules s0)):Int) > (40:Int))))] (obC (gft hb0) (obC (gft hb0) (obC (gft hb0) (obC (gft hb0) (obC hb0 (obC (gft hb1) (obC (gft hb1) (obC (gft hb1) (obC (show (0:Int)≤(0:Int) from by first | decide | rfl | trivial) (obC (show (List.map zx (zh.Conds s0))[(Int.toNat (0:Int):Nat)]?=some (zaG (List.getD (zh.Conds s0) (0:Nat) default)) from by have:=zcb zx (zh.Conds s0) ((0:Nat)) _ (zaa _) ((h2 hb0) hb1);simpa only [nm,enq,zaa] using this) (obC (gft hb1) (obC (gft hb1) (obC (gft hb1) (obC hb1 (obC (gft hb3) (obC (gft hb3) (obC (gft hb3) (obC (gft hb3) (obC hb3 obN))))))))))))))))))) ?_
     exact Sem.cast (by try rw [hb0];try rw [hb1];try rw [hb3];kernel_rfl) hk0
set_option maxHeartbeats 1000000 in
theorem zeD (res:za)
 (h:(res=({ Sets:=[],First:=[],Last:=[],Follow:=[],Null:=true }))):zaL res:=by
 unfold zaL
 have kk:=cfOk [] 2
 refine fD (x:=bodyOf Tryz.f130) kk Tryz.func130 ?_
 refine wkS [] [] (by kernel_rfl) ?_
 refine sDE kk [] [] [(1,.ptr 2 0),(2,.agg [.own 25 ([]),.own 3 ([]),.own 3 ([]),.own 40 ([]),vB false])] [(1,.ptr 2 0),(2,.agg [oL 25 zf ([]),oL 3 zc ([]),oL 3 zc ([]),oL 40 zg ([]),vB false])] obN ?_
 refine sDE kk [] [] [(2,.agg [.own 25 ([]),.own 3 ([]),.own 3 ([]),.own 40 ([]),vB true])] [(2,.agg [oL 25 zf ([]),oL 3 zc ([]),oL 3 zc ([]),oL 40 zg ([]),vB true])] obN ?_
 refine tD ?_
 obtain he0:=h
 subst res
 exact (endD [] (.agg [oL 25 zf ([]),oL 3 zc ([]),oL 3 zc ([]),oL 40 zg ([]),vB true]) []).1
set_option maxHeartbeats 1000000 in
theorem zeB (l:(List Int)) (by0:Int) (res:(List Int))
 (h:(∃ (Inv6:List Int→Int→Prop) (mu7:List Int→Int→Nat),Inv6 ([]) 0∧(∀ (out:List Int) (i:Int),Inv6 out i→(((decide (i < (↑(List.length l):Int)))=true→((0:Int)≤i)∧i < ↑(List.length l)∧((List.length out+(1:Nat)) * (8:Nat)≤(2:Nat) ^ (47:Nat))∧(Inv6 (out++[w64 (gd l i+by0)]) (w64 (i+1))∧mu7 (out++[w64 (gd l i+by0)]) (w64 (i+1)) < mu7 out i))∧((decide (i < (↑(List.length l):Int)))=false→(res=out)))))):zan l by0 res:=by
 unfold zan
 have kk:=cfOk [22] 23
 refine fD (x:=bodyOf Tryz.f147) kk Tryz.func147 ?_
 refine wkS [1,4] [(1,vL zc l),(4,vi by0)] (by kernel_rfl) ?_
 refine sD kk [] [] [] obN ?_
 refine sDE kk [] [] [(16,.own 3 ([]))] [(16,oL 3 zc ([]))] obN ?_
 refine qD ?_
 refine sD kk [] [] [(19,vi 0)] obN ?_
 refine bD (id:=0) ?_
 obtain ⟨Inv6,mu7,h0Inv6,hInv6⟩:=h
 refine loD (fun (q:List Int×Int)=>(fun (out:List Int) (i:Int)=>([(1,vL zc l),(4,vi by0),(16,oL 3 zc out),(19,vi i)]:Sta)) q.1 q.2) (fun (q:List Int×Int)=>Inv6 q.1 q.2) (fun (q:List Int×Int)=>mu7 q.1 q.2) (([]),0) [] h0Inv6 ?_
 rintro ⟨out,i⟩ hi
 have h:=hInv6 out i hi
 refine qD ?_
 refine sDE kk [] [] [(31,vB (decide (i < (↑(List.length (List.map zc l)):Int))))] [(31,vB (decide (i < (↑(List.length l):Int))))] obN ?_
 refine cD (t:=10) (b:=decide (i < (↑(List.length l):Int))) (fun hb8=>?_) (fun hb8=>?_)
 ·have h:=h.1 hb8
  refine Sem.skip' (by kernel_rfl) Wk.refl ?_
  show Sem _ _ _ _ _
  refine wkD [31] ?_
  refine qD ?_
  refine bD (id:=1) ?_
  obtain ⟨h9,h⟩:=h
  obtain ⟨h10,h⟩:=h
  obtain ⟨h11,h⟩:=h
  refine rDE kk [.e (fi (gd l i))] [] [(16,.own 3 (List.map zc out++List.take (List.length [FV.pv (Value.int IntKind.i64 (w64 (gd l i+by0)))]) (List.drop (0:Nat) [FV.pv (Value.int IntKind.i64 (w64 (gd l i+by0)))])))] [(16,oL 3 zc (out++[w64 (gd l i+by0)]))] (obC h9 (obC (zO zc l i _ rfl h9 h10) (obC (show (0:Nat)=(0:Nat)∧List.length (List.map zc out)=List.length (List.map zc out) from ⟨rfl,rfl⟩) (obC (show (List.length (List.map zc out)+List.length (List.take (1:Nat) (List.drop (0:Nat) [FV.pv (Value.int IntKind.i64 (w64 (gd l i+by0)))]))) * (8:Nat)≤(2:Nat) ^ (47:Nat) from by simpa only [nm] using h11) (obC (show List.all (List.take (1:Nat) (List.drop (0:Nat) [FV.pv (Value.int IntKind.i64 (w64 (gd l i+by0)))])) (FV.fits (1:Nat))=true from by first | exact zaY _ | exact keysenc_i64 _ | rfl | simp [isByteF,FV.fits,FV.size,FV.cells,FV.one,]) obN))))) ?_
  show Sem _ _ _ _ _
  refine rD kk [] [] [(19,vi (w64 (i+1)))] obN ?_
  exact lD ((out++[w64 (gd l i+by0)]),(w64 (i+1))) [] h
 ·have h:=h.2 hb8
  refine xD (i:=0) ?_
  show Sem _ _ _ _ _
  refine wkD [1,4,19,31] ?_
  refine sD kk [] [16] [(13,oL 3 zc out)] obN ?_
  refine tD ?_
  obtain he0:=h
  subst res
  exact (endD [] (oL 3 zc out) []).1
set_option maxHeartbeats 1000000 in
theorem zfd (a:za) (b:za) (res:za)
 (h:(List.length (za.Sets a) * (32:Nat)≤(2:Nat) ^ (47:Nat))∧((List.length (za.Sets a)+List.length (za.Sets b)) * (32:Nat)≤(2:Nat) ^ (47:Nat))∧(∃ (Inv8:List (List Int)→Int→Prop) (mu9:List (List Int)→Int→Nat),Inv8 ([]) 0∧(∀ (out_Follow:List (List Int)) (i:Int),Inv8 out_Follow i→(((decide (i < (↑(List.length (za.Follow a)):Int)))=true→((0:Int)≤i)∧i < ↑(List.length (za.Follow a))∧((List.length out_Follow+(1:Nat)) * (24:Nat)≤(2:Nat) ^ (47:Nat))∧(Inv8 (out_Follow++[gd (za.Follow a) i]) (w64 (i+1))∧mu9 (out_Follow++[gd (za.Follow a) i]) (w64 (i+1)) < mu9 out_Follow i))∧((decide (i < (↑(List.length (za.Follow a)):Int)))=false→(∃ (Inv23:List (List Int)→Int→Prop) (mu24:List (List Int)→Int→Nat),Inv23 out_Follow 0∧(∀ (out_Follow_1:List (List Int)) (i_1:Int),Inv23 out_Follow_1 i_1→(((decide (i_1 < (↑(List.length (za.Follow b)):Int)))=true→((0:Int)≤i_1)∧i_1 < ↑(List.length (za.Follow b))∧(∃ r0_2:List Int,zan (gd (za.Follow b) i_1) ((↑(List.length (za.Sets a)):Int)) r0_2∧((List.length out_Follow_1+(1:Nat)) * (24:Nat)≤(2:Nat) ^ (47:Nat))∧(Inv23 (out_Follow_1++[r0_2]) (w64 (i_1+1))∧mu24 (out_Follow_1++[r0_2]) (w64 (i_1+1)) < mu24 out_Follow_1 i_1)))∧((decide (i_1 < (↑(List.length (za.Follow b)):Int)))=false→(res=({ Sets:=za.Sets a++za.Sets b,First:=[],Last:=[],Follow:=out_Follow_1,Null:=false }))))))))))):zap a b res:=by
 unfold zap
 have kk:=cfOk [55] 56
 refine fD (x:=bodyOf Tryz.f146) kk Tryz.func146 ?_
 refine wkS [1,4] [(1,zq a),(4,zq b)] (by kernel_rfl) ?_
 refine sDE kk [] [1,4] [(7,.ptr 14 0),(10,.ptr 20 0),(13,.ptr 26 0),(14,zq a),(20,zq b),(26,.agg [.own 25 ([]),.own 3 ([]),.own 3 ([]),.own 40 ([]),vB false])] [(7,.ptr 14 0),(10,.ptr 20 0),(13,.ptr 26 0),(14,zq a),(20,zq b),(26,.agg [oL 25 zf ([]),oL 3 zc ([]),oL 3 zc ([]),oL 40 zg ([]),vB false])] obN ?_
 refine sDE kk [] [] [(16,vi ((↑(List.length (List.map zf (za.Sets a))):Int)))] [(16,vi ((↑(List.length (za.Sets a)):Int)))] obN ?_
 obtain ⟨h0,h⟩:=h
 obtain ⟨h1,h⟩:=h
 refine sDE kk [] [] [(19,.ptr 38 0),(38,.agg [.f (FV.sl (List.take (List.length (List.map zf (za.Sets a)++List.map zf (za.Sets b))) (List.drop (0:Nat) (List.map zf (za.Sets a)++List.map zf (za.Sets b))))),.own 3 ([]),.own 3 ([]),.own 40 ([]),vB false])] [(19,.ptr 38 0),(38,.agg [vL zf (za.Sets a++za.Sets b),oL 3 zc ([]),oL 3 zc ([]),oL 40 zg ([]),vB false])] (obC (show ((0:Nat)+List.length (List.map zf (za.Sets a))) * (32:Nat)≤(2:Nat) ^ (47:Nat) from by simpa only [nm] using h0) (obC (show List.all (List.map zf (za.Sets a)) (FV.fits (4:Nat))=true from by first | exact zco _ | exact keysenc_arr4_uint64 _ | rfl | simp [isByteF,FV.fits,FV.size,FV.cells,FV.one,zaz]) (obC (show (List.length (List.map zf (za.Sets a))+List.length (List.map zf (za.Sets b))) * (32:Nat)≤(2:Nat) ^ (47:Nat) from by simpa only [nm] using h1) (obC (show List.all (List.map zf (za.Sets b)) (FV.fits (4:Nat))=true from by first | exact zco _ | exact keysenc_arr4_uint64 _ | rfl | simp [isByteF,FV.fits,FV.size,FV.cells,FV.one,zaz]) obN)))) ?_
 refine qD ?_
 refine sD kk [] [] [(22,vi 0)] obN ?_
 refine bD (id:=0) ?_
 obtain ⟨Inv8,mu9,h0Inv8,hInv8⟩:=h
 refine loD (fun (q:List (List Int)×Int)=>(fun (out_Follow:List (List Int)) (i:Int)=>([(7,.ptr 14 0),(10,.ptr 20 0),(13,.ptr 26 0),(14,zq a),(16,vi ((↑(List.length (za.Sets a)):Int))),(19,.ptr 38 0),(20,zq b),(22,vi i),(26,.agg [oL 25 zf ([]),oL 3 zc ([]),oL 3 zc ([]),oL 40 zg ([]),vB false]),(38,.agg [vL zf (za.Sets a++za.Sets b),oL 3 zc ([]),oL 3 zc ([]),oL 40 zg out_Follow,vB false])]:Sta)) q.1 q.2) (fun (q:List (List Int)×Int)=>Inv8 q.1 q.2) (fun (q:List (List Int)×Int)=>mu9 q.1 q.2) (([]),0) [] h0Inv8 ?_
 rintro ⟨out_Follow,i⟩ hi
 have h:=hInv8 out_Follow i hi
 refine qD ?_
 refine sDE kk [] [] [(70,vB (decide (i < (↑(List.length (List.map zg (za.Follow a))):Int))))] [(70,vB (decide (i < (↑(List.length (za.Follow a)):Int))))] obN ?_
 refine cD (t:=23) (b:=decide (i < (↑(List.length (za.Follow a)):Int))) (fun hb10=>?_) (fun hb10=>?_)
 ·have h:=h.1 hb10
  refine Sem.skip' (by kernel_rfl) Wk.refl ?_
  show Sem _ _ _ _ _
  refine wkD [70] ?_
  refine qD ?_
  refine bD (id:=1) ?_
  obtain ⟨h11,h⟩:=h
  obtain ⟨h12,h⟩:=h
  obtain ⟨h13,h⟩:=h
  refine rDE kk [.e (fL zc (gd (za.Follow a) i))] [] [(38,.agg [vL zf (za.Sets a++za.Sets b),oL 3 zc ([]),oL 3 zc ([]),.own 40 (List.map zg out_Follow++List.take (List.length [FV.sl (List.map zc (gd (za.Follow a) i))]) (List.drop (0:Nat) [FV.sl (List.map zc (gd (za.Follow a) i))])),vB false])] [(38,.agg [vL zf (za.Sets a++za.Sets b),oL 3 zc ([]),oL 3 zc ([]),oL 40 zg (out_Follow++[gd (za.Follow a) i]),vB false])] (obC h11 (obC (zO zg (za.Follow a) i _ rfl h11 h12) (obC (show (0:Nat)=(0:Nat)∧List.length (List.map zg out_Follow)=List.length (List.map zg out_Follow) from ⟨rfl,rfl⟩) (obC (show (List.length (List.map zg out_Follow)+List.length (List.take (1:Nat) (List.drop (0:Nat) [FV.sl (List.map zc (gd (za.Follow a) i))]))) * (24:Nat)≤(2:Nat) ^ (47:Nat) from by simpa only [nm] using h13) (obC (show List.all (List.take (1:Nat) (List.drop (0:Nat) [FV.sl (List.map zc (gd (za.Follow a) i))])) (FV.fits (1:Nat))=true from by first | exact zaY _ | exact keysenc_i64 _ | rfl | simp [isByteF,FV.fits,FV.size,FV.cells,FV.one,zc]) obN))))) ?_
  show Sem _ _ _ _ _
  refine rD kk [] [] [(22,vi (w64 (i+1)))] obN ?_
  exact lD ((out_Follow++[gd (za.Follow a) i]),(w64 (i+1))) [] h
 ·have h:=h.2 hb10
  refine xD (i:=0) ?_
  show Sem _ _ _ _ _
  refine wkD [7,14,22,70] ?_
  refine qD ?_
  refine sD kk [] [] [(25,vi 0)] obN ?_
  refine bD (id:=2) ?_
  obtain ⟨Inv23,mu24,h0Inv23,hInv23⟩:=h
  refine loD (fun (q:List (List Int)×Int)=>(fun (out_Follow_1:List (List Int)) (i_1:Int)=>([(10,.ptr 20 0),(13,.ptr 26 0),(16,vi ((↑(List.length (za.Sets a)):Int))),(19,.ptr 38 0),(20,zq b),(25,vi i_1),(26,.agg [oL 25 zf ([]),oL 3 zc ([]),oL 3 zc ([]),oL 40 zg ([]),vB false]),(38,.agg [vL zf (za.Sets a++za.Sets b),oL 3 zc ([]),oL 3 zc ([]),oL 40 zg out_Follow_1,vB false])]:Sta)) q.1 q.2) (fun (q:List (List Int)×Int)=>Inv23 q.1 q.2) (fun (q:List (List Int)×Int)=>mu24 q.1 q.2) (out_Follow,0) [] h0Inv23 ?_
  rintro ⟨out_Follow_1,i_1⟩ hi
  have h:=hInv23 out_Follow_1 i_1 hi
  refine qD ?_
  refine sDE kk [] [] [(121,vB (decide (i_1 < (↑(List.length (List.map zg (za.Follow b))):Int))))] [(121,vB (decide (i_1 < (↑(List.length (za.Follow b)):Int))))] obN ?_
  refine cD (t:=40) (b:=decide (i_1 < (↑(List.length (za.Follow b)):Int))) (fun hb25=>?_) (fun hb25=>?_)
  ·have h:=h.1 hb25
   refine Sem.skip' (by kernel_rfl) Wk.refl ?_
   show Sem _ _ _ _ _
   refine wkD [121] ?_
   refine qD ?_
   refine bD (id:=3) ?_
   obtain ⟨h26,h⟩:=h
   obtain ⟨h27,h⟩:=h
   obtain ⟨r0_2,hc28,h⟩:=h
   obtain ⟨h29,h⟩:=h
   refine rDE kk [.e (fL zc (gd (za.Follow b) i_1)),.c (oL 3 zc r0_2) []] [] [(38,.agg [vL zf (za.Sets a++za.Sets b),oL 3 zc ([]),oL 3 zc ([]),.own 40 (List.map zg out_Follow_1++List.take (List.length [FV.sl (List.take (List.length (List.map zc r0_2)) (List.drop (0:Nat) (List.map zc r0_2)))]) (List.drop (0:Nat) [FV.sl (List.take (List.length (List.map zc r0_2)) (List.drop (0:Nat) (List.map zc r0_2)))])),vB false])] [(38,.agg [vL zf (za.Sets a++za.Sets b),oL 3 zc ([]),oL 3 zc ([]),oL 40 zg (out_Follow_1++[r0_2]),vB false])] (obC h26 (obC (zO zg (za.Follow b) i_1 _ rfl h26 h27) (obC hc28 (obC (show (0:Nat)=(0:Nat)∧List.length (List.map zg out_Follow_1)=List.length (List.map zg out_Follow_1) from ⟨rfl,rfl⟩) (obC (show (List.length (List.map zg out_Follow_1)+List.length (List.take (1:Nat) (List.drop (0:Nat) [FV.sl (List.take (List.length (List.map zc r0_2)) (List.drop (0:Nat) (List.map zc r0_2)))]))) * (24:Nat)≤(2:Nat) ^ (47:Nat) from by simpa only [nm] using h29) (obC (show List.all (List.take (1:Nat) (List.drop (0:Nat) [FV.sl (List.take (List.length (List.map zc r0_2)) (List.drop (0:Nat) (List.map zc r0_2)))])) (FV.fits (1:Nat))=true from by first | exact zaY _ | exact keysenc_i64 _ | rfl | simp [isByteF,FV.fits,FV.size,FV.cells,FV.one,zc]) obN)))))) ?_
   show Sem _ _ _ _ _
   refine rD kk [] [] [(25,vi (w64 (i_1+1)))] obN ?_
   exact lD ((out_Follow_1++[r0_2]),(w64 (i_1+1))) [] h
  ·have h:=h.2 hb25
   refine xD (i:=2) ?_
   show Sem _ _ _ _ _
   refine wkD [10,16,20,25,121] ?_
   refine sD kk [] [19,38] [(26,.agg [vL zf (za.Sets a++za.Sets b),oL 3 zc ([]),oL 3 zc ([]),oL 40 zg out_Follow_1,vB false])] (obC (show (0:Nat)=(0:Nat)∧(0:Nat)=List.length (List.map zc []) from by first | decide | rfl | trivial) (obC (show (0:Nat)=(0:Nat)∧(0:Nat)=List.length (List.map zc []) from by first | decide | rfl | trivial) (obC (show (0:Nat)=(0:Nat)∧List.length (List.map zg out_Follow_1)=List.length (List.map zg out_Follow_1) from ⟨rfl,rfl⟩) obN))) ?_
   refine tD ?_
   obtain he0:=h
   subst res
   exact (endD [] (.agg [vL zf (za.Sets a++za.Sets b),oL 3 zc ([]),oL 3 zc ([]),oL 40 zg out_Follow_1,vB false]) []).1
set_option maxHeartbeats 1000000 in
theorem zfG (a:(List Int)) (b:(List Int)) (res:(List Int))
 (h:(∃ (Inv38:List Int→Int→Int→Prop) (mu39:List Int→Int→Int→Nat),Inv38 ([]) 0 0∧(∀ (out:List Int) (i:Int) (k:Int),Inv38 out i k→(((decide (i < (↑(List.length (List.map zc a)):Int)) || decide (k < (↑(List.length b):Int)))=true→((k == (↑(List.length (List.map zc b)):Int))=false→((decide (i < (↑(List.length (List.map zc a)):Int)))=true→((0:Int)≤i)))∧((k == (↑(List.length (List.map zc b)):Int))=false→((decide (i < (↑(List.length (List.map zc a)):Int)))=true→i < ↑(List.length a)))∧((k == (↑(List.length (List.map zc b)):Int))=false→((decide (i < (↑(List.length (List.map zc a)):Int)))=true→((0:Int)≤k)))∧((k == (↑(List.length (List.map zc b)):Int))=false→((decide (i < (↑(List.length (List.map zc a)):Int)))=true→k < ↑(List.length b)))∧(((k == (↑(List.length (List.map zc b)):Int) || decide (i < (↑(List.length (List.map zc a)):Int)) && decide (gd a i < gd b k))=true→((0:Int)≤i)∧i < ↑(List.length a)∧((List.length out+(1:Nat)) * (8:Nat)≤(2:Nat) ^ (47:Nat))∧(Inv38 (out++[gd a i]) (w64 (i+1)) k∧mu39 (out++[gd a i]) (w64 (i+1)) k < mu39 out i k))∧((k == (↑(List.length (List.map zc b)):Int) || decide (i < (↑(List.length (List.map zc a)):Int)) && decide (gd a i < gd b k))=false→((i == (↑(List.length (List.map zc a)):Int))=false→((0:Int)≤k))∧((i == (↑(List.length (List.map zc a)):Int))=false→k < ↑(List.length b))∧((i == (↑(List.length (List.map zc a)):Int))=false→((0:Int)≤i))∧((i == (↑(List.length (List.map zc a)):Int))=false→i < ↑(List.length a))∧(((i == (↑(List.length (List.map zc a)):Int) || decide (gd b k < gd a i))=true→((0:Int)≤k)∧k < ↑(List.length b)∧((List.length out+(1:Nat)) * (8:Nat)≤(2:Nat) ^ (47:Nat))∧(Inv38 (out++[gd b k]) i (w64 (k+1))∧mu39 (out++[gd b k]) i (w64 (k+1)) < mu39 out i k))∧((i == (↑(List.length (List.map zc a)):Int) || decide (gd b k < gd a i))=false→((0:Int)≤i)∧i < ↑(List.length a)∧((List.length out+(1:Nat)) * (8:Nat)≤(2:Nat) ^ (47:Nat))∧(Inv38 (out++[gd a i]) (w64 (i+1)) (w64 (k+1))∧mu39 (out++[gd a i]) (w64 (i+1)) (w64 (k+1)) < mu39 out i k))))))∧((decide (i < (↑(List.length (List.map zc a)):Int)) || decide (k < (↑(List.length b):Int)))=false→(res=out)))))):zF a b res:=by
 unfold zF
 have kk:=cfOk [85] 86
 refine fD (x:=bodyOf Tryz.f47) kk Tryz.func47 ?_
 refine wkS [1,4] [(1,vL zc a),(4,vL zc b)] (by kernel_rfl) ?_
 refine sD kk [] [] [] obN ?_
 refine sDE kk [] [] [(16,.own 3 ([]))] [(16,oL 3 zc ([]))] obN ?_
 refine sD kk [] [] [(19,vi 0),(22,vi 0)] obN ?_
 refine qD ?_
 refine bD (id:=0) ?_
 obtain ⟨Inv38,mu39,h0Inv38,hInv38⟩:=h
 refine loD (fun (q:List Int×Int×Int)=>(fun (out:List Int) (i:Int) (k:Int)=>([(1,vL zc a),(4,vL zc b),(16,oL 3 zc out),(19,vi i),(22,vi k)]:Sta)) q.1 q.2.1 q.2.2) (fun (q:List Int×Int×Int)=>Inv38 q.1 q.2.1 q.2.2) (fun (q:List Int×Int×Int)=>mu39 q.1 q.2.1 q.2.2) (([]),0,0) [] h0Inv38 ?_
 rintro ⟨out,i,k⟩ hi
 have h:=hInv38 out i k hi
 refine qD ?_
 refine sM [] [(52,vB (decide (i < (↑(List.length (List.map zc a)):Int)) || decide (k < (↑(List.length b):Int))))] ?_ (fun hk0=>?_)
 ·refine cD (t:=17) (b:=decide (i < (↑(List.length (List.map zc a)):Int)) || decide (k < (↑(List.length b):Int))) (fun hb41=>?_) (fun hb41=>?_)
  ·have h:=h.1 hb41
   refine Sem.skip' (by kernel_rfl) Wk.refl ?_
   show Sem _ _ _ _ _
   refine wkD [52] ?_
   refine bD (id:=1) ?_
   refine bD (id:=2) ?_
   obtain ⟨h44,h45,h46,h47,h⟩:=h
   refine sM [] [(88,vB (k == (↑(List.length (List.map zc b)):Int) || decide (i < (↑(List.length (List.map zc a)):Int)) && decide (gd a i < gd b k)))] ?_ (fun hk0=>?_)
   ·refine cD (t:=29) (b:=k == (↑(List.length (List.map zc b)):Int) || decide (i < (↑(List.length (List.map zc a)):Int)) && decide (gd a i < gd b k)) (fun hb48=>?_) (fun hb48=>?_)
    ·have h:=h.1 hb48
     obtain ⟨h49,h⟩:=h
     obtain ⟨h50,h⟩:=h
     obtain ⟨h51,h⟩:=h
     refine sDE kk [.e (fi (gd a i))] [88] [(16,.own 3 (List.map zc out++List.take (List.length [FV.pv (Value.int IntKind.i64 (gd a i))]) (List.drop (0:Nat) [FV.pv (Value.int IntKind.i64 (gd a i))])))] [(16,oL 3 zc (out++[gd a i]))] (obC h49 (obC (zO zc a i _ rfl h49 h50) (obC (show (0:Nat)=(0:Nat)∧List.length (List.map zc out)=List.length (List.map zc out) from ⟨rfl,rfl⟩) (obC (show (List.length (List.map zc out)+List.length (List.take (1:Nat) (List.drop (0:Nat) [FV.pv (Value.int IntKind.i64 (gd a i))]))) * (8:Nat)≤(2:Nat) ^ (47:Nat) from by simpa only [nm] using h51) (obC (show List.all (List.take (1:Nat) (List.drop (0:Nat) [FV.pv (Value.int IntKind.i64 (gd a i))])) (FV.fits (1:Nat))=true from by first | exact zaY _ | exact keysenc_i64 _ | rfl | simp [isByteF,FV.fits,FV.size,FV.cells,FV.one,]) obN))))) ?_
     refine rD kk [] [] [(19,vi (w64 (i+1)))] obN ?_
     exact lD ((out++[gd a i]),(w64 (i+1)),k) [] h
    ·have h:=h.2 hb48
     obtain ⟨h53,h54,h55,h56,h⟩:=h
     refine sM [88] [(181,vB (i == (↑(List.length (List.map zc a)):Int) || decide (gd b k < gd a i)))] ?_ (fun hk0=>?_)
     ·refine cD (t:=60) (b:=i == (↑(List.length (List.map zc a)):Int) || decide (gd b k < gd a i)) (fun hb57=>?_) (fun hb57=>?_)
      ·have h:=h.1 hb57
       obtain ⟨h58,h⟩:=h
       obtain ⟨h59,h⟩:=h
       obtain ⟨h60,h⟩:=h
       refine sDE kk [.e (fi (gd b k))] [181] [(16,.own 3 (List.map zc out++List.take (List.length [FV.pv (Value.int IntKind.i64 (gd b k))]) (List.drop (0:Nat) [FV.pv (Value.int IntKind.i64 (gd b k))])))] [(16,oL 3 zc (out++[gd b k]))] (obC h58 (obC (zO zc b k _ rfl h58 h59) (obC (show (0:Nat)=(0:Nat)∧List.length (List.map zc out)=List.length (List.map zc out) from ⟨rfl,rfl⟩) (obC (show (List.length (List.map zc out)+List.length (List.take (1:Nat) (List.drop (0:Nat) [FV.pv (Value.int IntKind.i64 (gd b k))]))) * (8:Nat)≤(2:Nat) ^ (47:Nat) from by simpa only [nm] using h60) (obC (show List.all (List.take (1:Nat) (List.drop (0:Nat) [FV.pv (Value.int IntKind.i64 (gd b k))])) (FV.fits (1:Nat))=true from by first | exact zaY _ | exact keysenc_i64 _ | rfl | simp [isByteF,FV.fits,FV.size,FV.cells,FV.one,]) obN))))) ?_
       refine rD kk [] [] [(22,vi (w64 (k+1)))] obN ?_
       exact lD ((out++[gd b k]),i,(w64 (k+1))) [] h
      ·have h:=h.2 hb57
       obtain ⟨h61,h⟩:=h
       obtain ⟨h62,h⟩:=h
       obtain ⟨h63,h⟩:=h
       refine sDE kk [.e (fi (gd a i))] [181] [(16,.own 3 (List.map zc out++List.take (List.length [FV.pv (Value.int IntKind.i64 (gd a i))]) (List.drop (0:Nat) [FV.pv (Value.int IntKind.i64 (gd a i))])))] [(16,oL 3 zc (out++[gd a i]))] (obC h61 (obC (zO zc a i _ rfl h61 h62) (obC (show (0:Nat)=(0:Nat)∧List.length (List.map zc out)=List.length (List.map zc out) from ⟨rfl,rfl⟩) (obC (show (List.length (List.map zc out)+List.length (List.take (1:Nat) (List.drop (0:Nat) [FV.pv (Value.int IntKind.i64 (gd a i))]))) * (8:Nat)≤(2:Nat) ^ (47:Nat) from by simpa only [nm] using h63) (obC (show List.all (List.take (1:Nat) (List.drop (0:Nat) [FV.pv (Value.int IntKind.i64 (gd a i))])) (FV.fits (1:Nat))=true from by first | exact zaY _ | exact keysenc_i64 _ | rfl | simp [isByteF,FV.fits,FV.size,FV.cells,FV.one,]) obN))))) ?_
       refine sD kk [] [] [(19,vi (w64 (i+1)))] obN ?_
       refine rD kk [] [] [(22,vi (w64 (k+1)))] obN ?_
       exact lD ((out++[gd a i]),(w64 (i+1)),(w64 (k+1))) [] h
     ·rcases Bool.eq_false_or_eq_true (i == (↑(List.length (List.map zc a)):Int)) with hb52 | hb52
      ·refine sD kk [bF,bF,bF,bF,bF,bF,bF,bF,bF,bT] [88] [(181,vB true)] (obC (gff hb52) (obC (gff hb52) (obC (gff hb52) (obC (gff hb52) (obC (gff hb52) (obC (gff hb52) (obC (gff hb52) (obC (gff hb52) (obC (gff hb52) (obC hb52 obN)))))))))) ?_
       exact Sem.cast (by try rw [hb52];kernel_rfl) hk0
      ·refine sD kk [bT,bT,bT,.e (fi (gd b k)),bT,bT,bT,bT,.e (fi (gd a i)),bT,bT,bF] [88] [(181,vB (decide (gd b k < gd a i)))] (obC (gft hb52) (obC (gft hb52) (obC (gft hb52) (obC (h53 hb52) (obC (zO zc b k _ rfl (h53 hb52) (h54 hb52)) (obC (gft hb52) (obC (gft hb52) (obC (gft hb52) (obC (gft hb52) (obC (h55 hb52) (obC (zO zc a i _ rfl (h55 hb52) (h56 hb52)) (obC (gft hb52) (obC (gft hb52) (obC hb52 obN)))))))))))))) ?_
       exact Sem.cast (by try rw [hb52];kernel_rfl) hk0
   ·rcases Bool.eq_false_or_eq_true (k == (↑(List.length (List.map zc b)):Int)) with hb42 | hb42
    ·refine sD kk [bF,bF,bF,bF,bF,bF,bT] [] [(88,vB true)] (obC (gff hb42) (obC (gff hb42) (obC (gff hb42) (obC (gff hb42) (obC (gff hb42) (obC (gff hb42) (obC hb42 obN))))))) ?_
     exact Sem.cast (by try rw [hb42];kernel_rfl) hk0
    ·rcases Bool.eq_false_or_eq_true (decide (i < (↑(List.length (List.map zc a)):Int))) with hb43 | hb43
     ·refine sD kk [bT,bT,bT,bT,bT,bT,bT,bT,.e (fi (gd a i)),bT,bT,bT,bT,.e (fi (gd b k)),bT,bT,bT,bT,bF] [] [(88,vB (decide (gd a i < gd b k)))] (obC (gft hb42) (obC (gft hb42) (obC (gft hb42) (obC (gft hb42) (obC (gft hb42) (obC (gtt hb43) (obC (gtt hb43) (obC (gtt hb43) (obC ((h44 hb42) hb43) (obC (zO zc a i _ rfl ((h44 hb42) hb43) ((h45 hb42) hb43)) (obC (gtt hb43) (obC (gtt hb43) (obC (gtt hb43) (obC (gtt hb43) (obC ((h46 hb42) hb43) (obC (zO zc b k _ rfl ((h46 hb42) hb43) ((h47 hb42) hb43)) (obC (gtt hb43) (obC (gtt hb43) (obC (gft hb42) (obC hb43 (obC hb42 obN))))))))))))))))))))) ?_
      exact Sem.cast (by try rw [hb42];try rw [hb43];kernel_rfl) hk0
     ·refine sD kk [bT,bT,bT,bT,bT,bF,bF,bF,bF,bF,bF,bF,bF,bF,bT,bF,bF] [] [(88,vB false)] (obC (gft hb42) (obC (gft hb42) (obC (gft hb42) (obC (gft hb42) (obC (gft hb42) (obC (gtf hb43) (obC (gtf hb43) (obC (gtf hb43) (obC (gtf hb43) (obC (gtf hb43) (obC (gtf hb43) (obC (gtf hb43) (obC (gtf hb43) (obC (gtf hb43) (obC (gft hb42) (obC hb43 (obC hb42 obN))))))))))))))))) ?_
      exact Sem.cast (by try rw [hb42];try rw [hb43];kernel_rfl) hk0
  ·have h:=h.2 hb41
   refine xD (i:=0) ?_
   show Sem _ _ _ _ _
   refine wkD [1,4,19,22,52] ?_
   refine sD kk [] [16] [(13,oL 3 zc out)] obN ?_
   refine tD ?_
   obtain he0:=h
   subst res
   exact (endD [(13,0)] (vL zc out) []).1
 ·rcases Bool.eq_false_or_eq_true (decide (i < (↑(List.length (List.map zc a)):Int))) with hb40 | hb40
  ·refine sD kk [bF,bF,bF,bF,bT] [] [(52,vB true)] (obC (gff hb40) (obC (gff hb40) (obC (gff hb40) (obC (gff hb40) (obC hb40 obN))))) ?_
   exact Sem.cast (by try rw [hb40];kernel_rfl) hk0
  ·refine sDE kk [bT,bT,bT,bT,bF] [] [(52,vB (decide (k < (↑(List.length (List.map zc b)):Int))))] [(52,vB (decide (k < (↑(List.length b):Int))))] (obC (gft hb40) (obC (gft hb40) (obC (gft hb40) (obC (gft hb40) (obC hb40 obN))))) ?_
   exact Sem.cast (by try rw [hb40];kernel_rfl) hk0
set_option maxHeartbeats 1000000 in
theorem zfE (a:za) (b:za) (res:za)
 (h:(∃ r0:za,zap a b r0∧(∃ r0_1:List Int,zan (za.First b) ((↑(List.length (za.Sets a)):Int)) r0_1∧(∃ r0_2:List Int,zan (za.Last b) ((↑(List.length (za.Sets a)):Int)) r0_2∧(∃ (Inv25:List (List Int)→Int→Prop) (mu26:List (List Int)→Int→Nat),Inv25 (za.Follow r0) 0∧(∀ (out_Follow:List (List Int)) (i:Int),Inv25 out_Follow i→(((decide (i < (↑(List.length (za.Last a)):Int)))=true→((0:Int)≤i)∧i < ↑(List.length (za.Last a))∧((0:Int)≤i)∧i < ↑(List.length (za.Last a))∧((0:Int)≤gd (za.Last a) i)∧(Int.toNat (gd (za.Last a) i) < List.length out_Follow)∧gd (za.Last a) i < ↑(List.length out_Follow)∧(∃ r0_5:List Int,zF (gd out_Follow (gd (za.Last a) i)) r0_1 r0_5∧((0:Int)≤gd (za.Last a) i)∧(Int.toNat (gd (za.Last a) i) < List.length out_Follow)∧gd (za.Last a) i < ↑(List.length out_Follow)∧(Inv25 (List.set out_Follow (Int.toNat (gd (za.Last a) i)) r0_5) (w64 (i+1))∧mu26 (List.set out_Follow (Int.toNat (gd (za.Last a) i)) r0_5) (w64 (i+1)) < mu26 out_Follow i)))∧((decide (i < (↑(List.length (za.Last a)):Int)))=false→(∃ J41:List Int→Prop,(∀ (out_First:List Int),J41 out_First→(∃ J44:List Int→Prop,(∀ (out_Last:List Int),J44 out_Last→(res=({ Sets:=za.Sets r0,First:=out_First,Last:=out_Last,Follow:=out_Follow,Null:=za.Null a && za.Null b })))∧(((za.Null b)=true→(∃ r0_8:List Int,zF (za.Last a) r0_2 r0_8∧J44 r0_8))∧((za.Null b)=false→J44 r0_2))))∧(((za.Null a)=true→(∃ r0_9:List Int,zF (za.First a) r0_1 r0_9∧J41 r0_9))∧((za.Null a)=false→J41 (za.First a)))))))))))):zU a b res:=by
 unfold zU
 have kk:=cfOk [76] 77
 refine fD (x:=bodyOf Tryz.f131) kk Tryz.func131 ?_
 refine wkS [1,4] [(1,zq a),(4,zq b)] (by kernel_rfl) ?_
 refine sDE kk [] [1,4] [(7,.ptr 14 0),(10,.ptr 20 0),(13,.ptr 26 0),(14,zq a),(20,zq b),(26,.agg [.own 25 ([]),.own 3 ([]),.own 3 ([]),.own 40 ([]),vB false])] [(7,.ptr 14 0),(10,.ptr 20 0),(13,.ptr 26 0),(14,zq a),(20,zq b),(26,.agg [oL 25 zf ([]),oL 3 zc ([]),oL 3 zc ([]),oL 40 zg ([]),vB false])] obN ?_
 refine sDE kk [] [] [(16,vi ((↑(List.length (List.map zf (za.Sets a))):Int)))] [(16,vi ((↑(List.length (za.Sets a)):Int)))] obN ?_
 obtain ⟨r0,hc0,h⟩:=h
 refine sD kk [.c (.agg [vL zf (za.Sets r0),oL 3 zc (za.First r0),oL 3 zc (za.Last r0),oL 40 zg (za.Follow r0),vB (za.Null r0)]) []] [] [(19,.ptr 38 0),(38,.agg [vL zf (za.Sets r0),oL 3 zc (za.First r0),oL 3 zc (za.Last r0),oL 40 zg (za.Follow r0),vB (za.Null r0)])] (obC hc0 obN) ?_
 obtain ⟨r0_1,hc1,h⟩:=h
 obtain ⟨r0_2,hc2,h⟩:=h
 refine sD kk [.c (oL 3 zc r0_1) [],.c (oL 3 zc r0_2) []] [16] [(22,oL 3 zc r0_1),(25,oL 3 zc r0_2)] (obC hc1 (obC hc2 obN)) ?_
 refine qD ?_
 refine sD kk [] [] [(28,vi 0)] obN ?_
 refine bD (id:=0) ?_
 obtain ⟨Inv25,mu26,h0Inv25,hInv25⟩:=h
 refine loD (fun (q:List (List Int)×Int)=>(fun (out_Follow:List (List Int)) (i:Int)=>([(7,.ptr 14 0),(10,.ptr 20 0),(13,.ptr 26 0),(14,zq a),(19,.ptr 38 0),(20,zq b),(22,vL zc r0_1),(25,oL 3 zc r0_2),(26,.agg [oL 25 zf ([]),oL 3 zc ([]),oL 3 zc ([]),oL 40 zg ([]),vB false]),(28,vi i),(38,.agg [vL zf (za.Sets r0),oL 3 zc (za.First r0),oL 3 zc (za.Last r0),oL 40 zg out_Follow,vB (za.Null r0)])]:Sta)) q.1 q.2) (fun (q:List (List Int)×Int)=>Inv25 q.1 q.2) (fun (q:List (List Int)×Int)=>mu26 q.1 q.2) ((za.Follow r0),0) [(22,0)] h0Inv25 ?_
 rintro ⟨out_Follow,i⟩ hi
 have h:=hInv25 out_Follow i hi
 refine qD ?_
 refine sDE kk [] [] [(85,vB (decide (i < (↑(List.length (List.map zc (za.Last a))):Int))))] [(85,vB (decide (i < (↑(List.length (za.Last a)):Int))))] obN ?_
 refine cD (t:=28) (b:=decide (i < (↑(List.length (za.Last a)):Int))) (fun hb27=>?_) (fun hb27=>?_)
 ·have h:=h.1 hb27
  refine Sem.skip' (by kernel_rfl) Wk.refl ?_
  show Sem _ _ _ _ _
  refine wkD [85] ?_
  refine qD ?_
  refine bD (id:=1) ?_
  obtain ⟨h28,h⟩:=h
  obtain ⟨h29,h⟩:=h
  obtain ⟨h30,h⟩:=h
  obtain ⟨h31,h⟩:=h
  obtain ⟨h32,h⟩:=h
  obtain ⟨h33,h⟩:=h
  obtain ⟨h34,h⟩:=h
  obtain ⟨r0_5,hc35,h⟩:=h
  obtain ⟨h36,h⟩:=h
  obtain ⟨h37,h⟩:=h
  obtain ⟨h38,h⟩:=h
  refine rDE kk [.e (fi (gd (za.Last a) i)),.e (fi (gd (za.Last a) i)),.e (fL zc (gd out_Follow (gd (za.Last a) i))),.c (vL zc r0_5) [],.e (fL zc (gd out_Follow (gd (za.Last a) i)))] [] [(38,.agg [vL zf (za.Sets r0),oL 3 zc (za.First r0),oL 3 zc (za.Last r0),.own 40 (List.set (List.map zg out_Follow) ((0:Nat)+Int.toNat (gd (za.Last a) i)) (FV.sl (List.map zc r0_5))),vB (za.Null r0)])] [(38,.agg [vL zf (za.Sets r0),oL 3 zc (za.First r0),oL 3 zc (za.Last r0),oL 40 zg (List.set out_Follow (Int.toNat (gd (za.Last a) i)) r0_5),vB (za.Null r0)])] (obC h28 (obC (zO zc (za.Last a) i _ rfl h28 h29) (obC h30 (obC (zO zc (za.Last a) i _ rfl h30 h31) (obC h32 (obC (show Int.toNat (gd (za.Last a) i) < List.length (List.map zg out_Follow) from by simpa only [nm] using h33) (obC (show (List.map zg out_Follow)[((0:Nat)+Int.toNat (gd (za.Last a) i):Nat)]?=some (fL zc (gd out_Follow (gd (za.Last a) i))) from by have:=zO zg out_Follow (gd (za.Last a) i) _ rfl h32 h34;simpa only [nm,enq,zg] using this) (obC hc35 (obC h36 (obC (show Int.toNat (gd (za.Last a) i) < List.length (List.map zg out_Follow) from by simpa only [nm] using h37) (obC (show (List.map zg out_Follow)[((0:Nat)+Int.toNat (gd (za.Last a) i):Nat)]?=some (fL zc (gd out_Follow (gd (za.Last a) i))) from by have:=zO zg out_Follow (gd (za.Last a) i) _ rfl h36 h38;simpa only [nm,enq,zg] using this) obN))))))))))) ?_
  show Sem _ _ _ _ _
  refine rD kk [] [] [(28,vi (w64 (i+1)))] obN ?_
  exact lD ((List.set out_Follow (Int.toNat (gd (za.Last a) i)) r0_5),(w64 (i+1))) [] h
 ·have h:=h.2 hb27
  refine xD (i:=0) ?_
  show Sem _ _ _ _ _
  refine wkD [28,85] ?_
  refine sDE kk [] [] [(25,vL zc r0_2),(38,.agg [vL zf (za.Sets r0),vL zc (za.First a),.f (FV.sl (List.take (List.length (List.map zc r0_2)) (List.drop (0:Nat) (List.map zc r0_2)))),oL 40 zg out_Follow,vB (za.Null r0)])] [(25,vL zc r0_2),(38,.agg [vL zf (za.Sets r0),vL zc (za.First a),vL zc r0_2,oL 40 zg out_Follow,vB (za.Null r0)])] obN ?_
  obtain ⟨J41,hJ41,h⟩:=h
  refine sjD (fun (q:List Int)=>J41 q) (fun (q:List Int)=>(fun (out_First:List Int)=>([(7,.ptr 14 0),(10,.ptr 20 0),(13,.ptr 26 0),(14,zq a),(19,.ptr 38 0),(20,zq b),(25,vL zc r0_2),(26,.agg [oL 25 zf ([]),oL 3 zc ([]),oL 3 zc ([]),oL 40 zg ([]),vB false]),(38,.agg [vL zf (za.Sets r0),vL zc out_First,vL zc r0_2,oL 40 zg out_Follow,vB (za.Null r0)])]:Sta)) q) ?_ ?_
  ·rintro out_First hj
   have h:=hJ41 out_First hj
   obtain ⟨J44,hJ44,h⟩:=h
   refine sjD (fun (q:List Int)=>J44 q) (fun (q:List Int)=>(fun (out_Last:List Int)=>([(7,.ptr 14 0),(10,.ptr 20 0),(13,.ptr 26 0),(14,zq a),(19,.ptr 38 0),(20,zq b),(26,.agg [oL 25 zf ([]),oL 3 zc ([]),oL 3 zc ([]),oL 40 zg ([]),vB false]),(38,.agg [vL zf (za.Sets r0),vL zc out_First,vL zc out_Last,oL 40 zg out_Follow,vB (za.Null r0)])]:Sta)) q) ?_ ?_
   ·rintro out_Last hj
    have h:=hJ44 out_Last hj
    refine sM [7,10,14,20] [(38,.agg [vL zf (za.Sets r0),vL zc out_First,vL zc out_Last,oL 40 zg out_Follow,vB (za.Null a && za.Null b)])] ?_ (fun hk0=>?_)
    ·refine sD kk [] [19,38] [(26,.agg [vL zf (za.Sets r0),vL zc out_First,vL zc out_Last,oL 40 zg out_Follow,vB (za.Null a && za.Null b)])] (obC (show (0:Nat)=(0:Nat)∧List.length (List.map zg out_Follow)=List.length (List.map zg out_Follow) from ⟨rfl,rfl⟩) obN) ?_
     refine tD ?_
     obtain he0:=h
     subst res
     exact (endD [] (.agg [vL zf (za.Sets r0),vL zc out_First,vL zc out_Last,oL 40 zg out_Follow,vB (za.Null a && za.Null b)]) []).1
    ·rcases Bool.eq_false_or_eq_true (za.Null a) with hb45 | hb45
     ·refine sD kk [bT,bT,bT] [7,10,14,20] [(38,.agg [vL zf (za.Sets r0),vL zc out_First,vL zc out_Last,oL 40 zg out_Follow,vB (za.Null b)])] (obC (gtt hb45) (obC (gtt hb45) (obC hb45 obN))) ?_
      exact Sem.cast (by try rw [hb45];kernel_rfl) hk0
     ·refine sD kk [bF,bF,bF] [7,10,14,20] [(38,.agg [vL zf (za.Sets r0),vL zc out_First,vL zc out_Last,oL 40 zg out_Follow,vB false])] (obC (gtf hb45) (obC (gtf hb45) (obC hb45 obN))) ?_
      exact Sem.cast (by try rw [hb45];kernel_rfl) hk0
   ·refine sD kk [] [] [(190,vB (za.Null b))] obN ?_
    refine cD (t:=63) (b:=za.Null b) (fun hb46=>?_) (fun hb46=>?_)
    ·have h:=h.1 hb46
     obtain ⟨r0_8,hc47,h⟩:=h
     refine rD kk [.c (vL zc r0_8) []] [25,190] [(38,.agg [vL zf (za.Sets r0),vL zc out_First,vL zc r0_8,oL 40 zg out_Follow,vB (za.Null r0)])] (obC hc47 obN) ?_
     exact jD r0_8 [] h
    ·have h:=h.2 hb46
     refine Sem.skip' (by kernel_rfl) Wk.refl ?_
     exact jD r0_2 [] h
  ·refine sD kk [] [] [(169,vB (za.Null a))] obN ?_
   refine cD (t:=56) (b:=za.Null a) (fun hb48=>?_) (fun hb48=>?_)
   ·have h:=h.1 hb48
    obtain ⟨r0_9,hc49,h⟩:=h
    refine rD kk [.c (vL zc r0_9) []] [22,169] [(38,.agg [vL zf (za.Sets r0),vL zc r0_9,vL zc r0_2,oL 40 zg out_Follow,vB (za.Null r0)])] (obC hc49 obN) ?_
    exact jD r0_9 [] h
   ·have h:=h.2 hb48
    refine Sem.skip' (by kernel_rfl) Wk.refl ?_
    exact jD (za.First a) [] h
set_option maxHeartbeats 1000000 in
theorem zfF (a:za) (b:za) (res:za)
 (h:(∃ r0:za,zap a b r0∧(∃ r0_1:List Int,zan (za.First b) ((↑(List.length (za.Sets a)):Int)) r0_1∧(∃ r0_2:List Int,zF (za.First a) r0_1 r0_2∧(∃ r0_3:List Int,zan (za.Last b) ((↑(List.length (za.Sets a)):Int)) r0_3∧(∃ r0_4:List Int,zF (za.Last a) r0_3 r0_4∧(res=({ Sets:=za.Sets r0,First:=r0_2,Last:=r0_4,Follow:=za.Follow r0,Null:=za.Null a || za.Null b })))))))):zbI a b res:=by
 unfold zbI
 have kk:=cfOk [36] 37
 refine fD (x:=bodyOf Tryz.f132) kk Tryz.func132 ?_
 refine wkS [1,4] [(1,zq a),(4,zq b)] (by kernel_rfl) ?_
 refine sDE kk [] [1,4] [(7,.ptr 14 0),(10,.ptr 20 0),(13,.ptr 26 0),(14,zq a),(20,zq b),(26,.agg [.own 25 ([]),.own 3 ([]),.own 3 ([]),.own 40 ([]),vB false])] [(7,.ptr 14 0),(10,.ptr 20 0),(13,.ptr 26 0),(14,zq a),(20,zq b),(26,.agg [oL 25 zf ([]),oL 3 zc ([]),oL 3 zc ([]),oL 40 zg ([]),vB false])] obN ?_
 refine sDE kk [] [] [(16,vi ((↑(List.length (List.map zf (za.Sets a))):Int)))] [(16,vi ((↑(List.length (za.Sets a)):Int)))] obN ?_
 obtain ⟨r0,hc0,h⟩:=h
 refine sD kk [.c (.agg [vL zf (za.Sets r0),oL 3 zc (za.First r0),oL 3 zc (za.Last r0),oL 40 zg (za.Follow r0),vB (za.Null r0)]) []] [] [(19,.ptr 38 0),(38,.agg [vL zf (za.Sets r0),oL 3 zc (za.First r0),oL 3 zc (za.Last r0),oL 40 zg (za.Follow r0),vB (za.Null r0)])] (obC hc0 obN) ?_
 obtain ⟨r0_1,hc1,h⟩:=h
 obtain ⟨r0_2,hc2,h⟩:=h
 refine sD kk [.c (oL 3 zc r0_1) [],.c (vL zc r0_2) []] [] [(38,.agg [vL zf (za.Sets r0),vL zc r0_2,oL 3 zc (za.Last r0),oL 40 zg (za.Follow r0),vB (za.Null r0)])] (obC hc1 (obC (Eq.mp (by unfold zF;(try simp only [List.drop_zero,List.take_length]);first | done | simp only [nm,enq]:zF (za.First a) r0_1 r0_2=CallE Tryz.prog 47 [vL zc (za.First a),.f (FV.sl (List.take (List.length (List.map zc r0_1)) (List.drop (0:Nat) (List.map zc r0_1))))] [] (vL zc r0_2) []) hc2) obN)) ?_
 obtain ⟨r0_3,hc3,h⟩:=h
 obtain ⟨r0_4,hc4,h⟩:=h
 refine sD kk [.c (oL 3 zc r0_3) [],.c (vL zc r0_4) []] [16] [(38,.agg [vL zf (za.Sets r0),vL zc r0_2,vL zc r0_4,oL 40 zg (za.Follow r0),vB (za.Null r0)])] (obC hc3 (obC (Eq.mp (by unfold zF;(try simp only [List.drop_zero,List.take_length]);first | done | simp only [nm,enq]:zF (za.Last a) r0_3 r0_4=CallE Tryz.prog 47 [vL zc (za.Last a),.f (FV.sl (List.take (List.length (List.map zc r0_3)) (List.drop (0:Nat) (List.map zc r0_3))))] [] (vL zc r0_4) []) hc4) obN)) ?_
 refine sM [7,10,14,20] [(38,.agg [vL zf (za.Sets r0),vL zc r0_2,vL zc r0_4,oL 40 zg (za.Follow r0),vB (za.Null a || za.Null b)])] ?_ (fun hk0=>?_)
 ·refine sD kk [] [19,38] [(26,.agg [vL zf (za.Sets r0),vL zc r0_2,vL zc r0_4,oL 40 zg (za.Follow r0),vB (za.Null a || za.Null b)])] (obC (show (0:Nat)=(0:Nat)∧List.length (List.map zg (za.Follow r0))=List.length (List.map zg (za.Follow r0)) from ⟨rfl,rfl⟩) obN) ?_
  refine tD ?_
  obtain he0:=h
  subst res
  exact (endD [] (.agg [vL zf (za.Sets r0),vL zc r0_2,vL zc r0_4,oL 40 zg (za.Follow r0),vB (za.Null a || za.Null b)]) []).1
 ·rcases Bool.eq_false_or_eq_true (za.Null a) with hb5 | hb5
  ·refine sD kk [bF,bF,bT] [7,10,14,20] [(38,.agg [vL zf (za.Sets r0),vL zc r0_2,vL zc r0_4,oL 40 zg (za.Follow r0),vB true])] (obC (gff hb5) (obC (gff hb5) (obC hb5 obN))) ?_
   exact Sem.cast (by try rw [hb5];kernel_rfl) hk0
  ·refine sD kk [bT,bT,bF] [7,10,14,20] [(38,.agg [vL zf (za.Sets r0),vL zc r0_2,vL zc r0_4,oL 40 zg (za.Follow r0),vB (za.Null b)])] (obC (gft hb5) (obC (gft hb5) (obC hb5 obN))) ?_
   exact Sem.cast (by try rw [hb5];kernel_rfl) hk0
set_option maxHeartbeats 1000000 in
theorem zeE (a:za) (res:za)
 (h:(∃ r0:za,zap a ({ Sets:=[],First:=[],Last:=[],Follow:=[],Null:=false }) r0∧(∃ (Inv23:List (List Int)→Int→Prop) (mu24:List (List Int)→Int→Nat),Inv23 (za.Follow r0) 0∧(∀ (out_Follow:List (List Int)) (i:Int),Inv23 out_Follow i→(((decide (i < (↑(List.length (za.Last a)):Int)))=true→((0:Int)≤i)∧i < ↑(List.length (za.Last a))∧((0:Int)≤i)∧i < ↑(List.length (za.Last a))∧((0:Int)≤gd (za.Last a) i)∧(Int.toNat (gd (za.Last a) i) < List.length out_Follow)∧gd (za.Last a) i < ↑(List.length out_Follow)∧(∃ r0_3:List Int,zF (gd out_Follow (gd (za.Last a) i)) (za.First a) r0_3∧((0:Int)≤gd (za.Last a) i)∧(Int.toNat (gd (za.Last a) i) < List.length out_Follow)∧gd (za.Last a) i < ↑(List.length out_Follow)∧(Inv23 (List.set out_Follow (Int.toNat (gd (za.Last a) i)) r0_3) (w64 (i+1))∧mu24 (List.set out_Follow (Int.toNat (gd (za.Last a) i)) r0_3) (w64 (i+1)) < mu24 out_Follow i)))∧((decide (i < (↑(List.length (za.Last a)):Int)))=false→(res=({ Sets:=za.Sets r0,First:=za.First a,Last:=za.Last a,Follow:=out_Follow,Null:=za.Null a })))))))):zbs a res:=by
 unfold zbs
 have kk:=cfOk [44] 45
 refine fD (x:=bodyOf Tryz.f133) kk Tryz.func133 ?_
 refine wkS [1] [(1,zq a)] (by kernel_rfl) ?_
 refine sDE kk [] [1] [(4,.ptr 8 0),(7,.ptr 14 0),(8,zq a),(14,.agg [.own 25 ([]),.own 3 ([]),.own 3 ([]),.own 40 ([]),vB false])] [(4,.ptr 8 0),(7,.ptr 14 0),(8,zq a),(14,.agg [oL 25 zf ([]),oL 3 zc ([]),oL 3 zc ([]),oL 40 zg ([]),vB false])] obN ?_
 obtain ⟨r0,hc0,h⟩:=h
 refine sD kk [.c (.agg [vL zf (za.Sets r0),oL 3 zc (za.First r0),oL 3 zc (za.Last r0),oL 40 zg (za.Follow r0),vB (za.Null r0)]) []] [] [(10,.ptr 20 0),(20,.agg [vL zf (za.Sets r0),oL 3 zc (za.First r0),oL 3 zc (za.Last r0),oL 40 zg (za.Follow r0),vB (za.Null r0)])] (obC (Eq.mp (by unfold zap;(try simp only [List.drop_zero,List.take_length]);first | done | simp only [nm,enq]:zap a ({ Sets:=[],First:=[],Last:=[],Follow:=[],Null:=false }) r0=CallE Tryz.prog 146 [.agg [vL zf (za.Sets a),vL zc (za.First a),vL zc (za.Last a),vL zg (za.Follow a),vB (za.Null a)],.agg [.f (FV.sl []),.f (FV.sl []),.f (FV.sl []),.f (FV.sl []),vB false]] [] (.agg [vL zf (za.Sets r0),oL 3 zc (za.First r0),oL 3 zc (za.Last r0),oL 40 zg (za.Follow r0),vB (za.Null r0)]) []) hc0) obN) ?_
 refine qD ?_
 refine sD kk [] [] [(13,vi 0)] obN ?_
 refine bD (id:=0) ?_
 obtain ⟨Inv23,mu24,h0Inv23,hInv23⟩:=h
 refine loD (fun (q:List (List Int)×Int)=>(fun (out_Follow:List (List Int)) (i:Int)=>([(4,.ptr 8 0),(7,.ptr 14 0),(8,zq a),(10,.ptr 20 0),(13,vi i),(14,.agg [oL 25 zf ([]),oL 3 zc ([]),oL 3 zc ([]),oL 40 zg ([]),vB false]),(20,.agg [vL zf (za.Sets r0),oL 3 zc (za.First r0),oL 3 zc (za.Last r0),oL 40 zg out_Follow,vB (za.Null r0)])]:Sta)) q.1 q.2) (fun (q:List (List Int)×Int)=>Inv23 q.1 q.2) (fun (q:List (List Int)×Int)=>mu24 q.1 q.2) ((za.Follow r0),0) [] h0Inv23 ?_
 rintro ⟨out_Follow,i⟩ hi
 have h:=hInv23 out_Follow i hi
 refine qD ?_
 refine sDE kk [] [] [(37,vB (decide (i < (↑(List.length (List.map zc (za.Last a))):Int))))] [(37,vB (decide (i < (↑(List.length (za.Last a)):Int))))] obN ?_
 refine cD (t:=12) (b:=decide (i < (↑(List.length (za.Last a)):Int))) (fun hb25=>?_) (fun hb25=>?_)
 ·have h:=h.1 hb25
  refine Sem.skip' (by kernel_rfl) Wk.refl ?_
  show Sem _ _ _ _ _
  refine wkD [37] ?_
  refine qD ?_
  refine bD (id:=1) ?_
  obtain ⟨h26,h⟩:=h
  obtain ⟨h27,h⟩:=h
  obtain ⟨h28,h⟩:=h
  obtain ⟨h29,h⟩:=h
  obtain ⟨h30,h⟩:=h
  obtain ⟨h31,h⟩:=h
  obtain ⟨h32,h⟩:=h
  obtain ⟨r0_3,hc33,h⟩:=h
  obtain ⟨h34,h⟩:=h
  obtain ⟨h35,h⟩:=h
  obtain ⟨h36,h⟩:=h
  refine rDE kk [.e (fi (gd (za.Last a) i)),.e (fi (gd (za.Last a) i)),.e (fL zc (gd out_Follow (gd (za.Last a) i))),.c (vL zc r0_3) [],.e (fL zc (gd out_Follow (gd (za.Last a) i)))] [] [(20,.agg [vL zf (za.Sets r0),oL 3 zc (za.First r0),oL 3 zc (za.Last r0),.own 40 (List.set (List.map zg out_Follow) ((0:Nat)+Int.toNat (gd (za.Last a) i)) (FV.sl (List.map zc r0_3))),vB (za.Null r0)])] [(20,.agg [vL zf (za.Sets r0),oL 3 zc (za.First r0),oL 3 zc (za.Last r0),oL 40 zg (List.set out_Follow (Int.toNat (gd (za.Last a) i)) r0_3),vB (za.Null r0)])] (obC h26 (obC (zO zc (za.Last a) i _ rfl h26 h27) (obC h28 (obC (zO zc (za.Last a) i _ rfl h28 h29) (obC h30 (obC (show Int.toNat (gd (za.Last a) i) < List.length (List.map zg out_Follow) from by simpa only [nm] using h31) (obC (show (List.map zg out_Follow)[((0:Nat)+Int.toNat (gd (za.Last a) i):Nat)]?=some (fL zc (gd out_Follow (gd (za.Last a) i))) from by have:=zO zg out_Follow (gd (za.Last a) i) _ rfl h30 h32;simpa only [nm,enq,zg] using this) (obC hc33 (obC h34 (obC (show Int.toNat (gd (za.Last a) i) < List.length (List.map zg out_Follow) from by simpa only [nm] using h35) (obC (show (List.map zg out_Follow)[((0:Nat)+Int.toNat (gd (za.Last a) i):Nat)]?=some (fL zc (gd out_Follow (gd (za.Last a) i))) from by have:=zO zg out_Follow (gd (za.Last a) i) _ rfl h34 h36;simpa only [nm,enq,zg] using this) obN))))))))))) ?_
  show Sem _ _ _ _ _
  refine rD kk [] [] [(13,vi (w64 (i+1)))] obN ?_
  exact lD ((List.set out_Follow (Int.toNat (gd (za.Last a) i)) r0_3),(w64 (i+1))) [] h
 ·have h:=h.2 hb25
  refine xD (i:=0) ?_
  show Sem _ _ _ _ _
  refine wkD [13,37] ?_
  refine sD kk [] [4,8] [(20,.agg [vL zf (za.Sets r0),vL zc (za.First a),vL zc (za.Last a),oL 40 zg out_Follow,vB (za.Null a)])] obN ?_
  refine sD kk [] [10,20] [(14,.agg [vL zf (za.Sets r0),vL zc (za.First a),vL zc (za.Last a),oL 40 zg out_Follow,vB (za.Null a)])] (obC (show (0:Nat)=(0:Nat)∧List.length (List.map zg out_Follow)=List.length (List.map zg out_Follow) from ⟨rfl,rfl⟩) obN) ?_
  refine tD ?_
  obtain he0:=h
  subst res
  exact (endD [] (.agg [vL zf (za.Sets r0),vL zc (za.First a),vL zc (za.Last a),oL 40 zg out_Follow,vB (za.Null a)]) []).1
set_option maxHeartbeats 1000000 in
theorem zeC (a:za) (res:za)
 (h:(res=({ Sets:=za.Sets a,First:=za.First a,Last:=za.Last a,Follow:=za.Follow a,Null:=true }))):zae a res:=by
 unfold zae
 have kk:=cfOk [4] 5
 refine fD (x:=bodyOf Tryz.f134) kk Tryz.func134 ?_
 refine wkS [1] [(1,zq a)] (by kernel_rfl) ?_
 refine sDE kk [] [1] [(4,.ptr 8 0),(7,.ptr 14 0),(8,zq a),(14,.agg [.own 25 ([]),.own 3 ([]),.own 3 ([]),.own 40 ([]),vB false])] [(4,.ptr 8 0),(7,.ptr 14 0),(8,zq a),(14,.agg [oL 25 zf ([]),oL 3 zc ([]),oL 3 zc ([]),oL 40 zg ([]),vB false])] obN ?_
 refine sD kk [] [] [(8,.agg [vL zf (za.Sets a),vL zc (za.First a),vL zc (za.Last a),vL zg (za.Follow a),vB true])] obN ?_
 refine sD kk [] [4,8] [(14,.agg [vL zf (za.Sets a),vL zc (za.First a),vL zc (za.Last a),vL zg (za.Follow a),vB true])] obN ?_
 refine tD ?_
 obtain he0:=h
 subst res
 exact (endD [] (.agg [vL zf (za.Sets a),vL zc (za.First a),vL zc (za.Last a),vL zg (za.Follow a),vB true]) []).1
end Go.Ev
set_option linter.unusedSimpArgs false
set_option linter.unusedVariables false
namespace Go.Ev
open Go Go.Proofs
set_option maxRecDepth 8000
set_option maxHeartbeats 1000000 in
theorem zga (x:ze) (res:za)
 (h:(((ze.Kind x == (2:Int))=true→(res=({ Sets:=[ze.Set x],First:=[(0:Int)],Last:=[(0:Int)],Follow:=[[]],Null:=false })))∧((ze.Kind x == (2:Int))=false→(((ze.Kind x == (3:Int))=true→(∃ r0:za,zaL r0∧(∃ (Inv12:List zb→List Int→List Int→List (List Int)→Bool→Int→Prop) (mu13:List zb→List Int→List Int→List (List Int)→Bool→Int→Nat),Inv12 (za.Sets r0) (za.First r0) (za.Last r0) (za.Follow r0) (za.Null r0) 0∧(∀ (out_Sets:List zb) (out_First:List Int) (out_Last:List Int) (out_Follow:List (List Int)) (out_Null:Bool) (i:Int),Inv12 out_Sets out_First out_Last out_Follow out_Null i→(((decide (i < (↑(List.length (ze.Kids x)):Int)))=true→((0:Int)≤i)∧i < ↑(List.length (ze.Kids x))∧(∃ r0_5:za,zaC (gd (ze.Kids x) i) r0_5∧(∃ r0_6:za,zU ({ Sets:=out_Sets,First:=out_First,Last:=out_Last,Follow:=out_Follow,Null:=out_Null }) r0_5 r0_6∧(Inv12 (za.Sets r0_6) (za.First r0_6) (za.Last r0_6) (za.Follow r0_6) (za.Null r0_6) (w64 (i+1))∧mu13 (za.Sets r0_6) (za.First r0_6) (za.Last r0_6) (za.Follow r0_6) (za.Null r0_6) (w64 (i+1)) < mu13 out_Sets out_First out_Last out_Follow out_Null i))))∧((decide (i < (↑(List.length (ze.Kids x)):Int)))=false→(res=({ Sets:=out_Sets,First:=out_First,Last:=out_Last,Follow:=out_Follow,Null:=out_Null }))))))))∧((ze.Kind x == (3:Int))=false→(((ze.Kind x == (4:Int))=true→(0:Nat) < List.length (ze.Kids x)∧(∃ r0_7:za,zaC (List.getD (ze.Kids x) (0:Nat) default) r0_7∧(∃ (Inv31:List zb→List Int→List Int→List (List Int)→Bool→Int→Prop) (mu32:List zb→List Int→List Int→List (List Int)→Bool→Int→Nat),Inv31 (za.Sets r0_7) (za.First r0_7) (za.Last r0_7) (za.Follow r0_7) (za.Null r0_7) 1∧(∀ (out_Sets_1:List zb) (out_First_1:List Int) (out_Last_1:List Int) (out_Follow_1:List (List Int)) (out_Null_1:Bool) (i_1:Int),Inv31 out_Sets_1 out_First_1 out_Last_1 out_Follow_1 out_Null_1 i_1→(((decide (i_1 < (↑(List.length (ze.Kids x)):Int)))=true→((0:Int)≤i_1)∧i_1 < ↑(List.length (ze.Kids x))∧(∃ r0_12:za,zaC (gd (ze.Kids x) i_1) r0_12∧(∃ r0_13:za,zbI ({ Sets:=out_Sets_1,First:=out_First_1,Last:=out_Last_1,Follow:=out_Follow_1,Null:=out_Null_1 }) r0_12 r0_13∧(Inv31 (za.Sets r0_13) (za.First r0_13) (za.Last r0_13) (za.Follow r0_13) (za.Null r0_13) (w64 (i_1+1))∧mu32 (za.Sets r0_13) (za.First r0_13) (za.Last r0_13) (za.Follow r0_13) (za.Null r0_13) (w64 (i_1+1)) < mu32 out_Sets_1 out_First_1 out_Last_1 out_Follow_1 out_Null_1 i_1))))∧((decide (i_1 < (↑(List.length (ze.Kids x)):Int)))=false→(res=({ Sets:=out_Sets_1,First:=out_First_1,Last:=out_Last_1,Follow:=out_Follow_1,Null:=out_Null_1 }))))))))∧((ze.Kind x == (4:Int))=false→(((ze.Kind x == (5:Int))=true→(0:Nat) < List.length (ze.Kids x)∧(∃ r0_14:za,zaC (List.getD (ze.Kids x) (0:Nat) default) r0_14∧(∃ r0_15:za,zaL r0_15∧(((decide (ze.Hi x < (0:Int)))=true→(∃ (Inv47:List zb→List Int→List Int→List (List Int)→Bool→Int→Prop) (mu48:List zb→List Int→List Int→List (List Int)→Bool→Int→Nat),Inv47 (za.Sets r0_15) (za.First r0_15) (za.Last r0_15) (za.Follow r0_15) (za.Null r0_15) 1∧(∀ (out_Sets_2:List zb) (out_First_2:List Int) (out_Last_2:List Int) (out_Follow_2:List (List Int)) (out_Null_2:Bool) (i_2:Int),Inv47 out_Sets_2 out_First_2 out_Last_2 out_Follow_2 out_Null_2 i_2→(((decide (i_2 < ze.Lo x))=true→(∃ r0_18:za,zU ({ Sets:=out_Sets_2,First:=out_First_2,Last:=out_Last_2,Follow:=out_Follow_2,Null:=out_Null_2 }) r0_14 r0_18∧(Inv47 (za.Sets r0_18) (za.First r0_18) (za.Last r0_18) (za.Follow r0_18) (za.Null r0_18) (w64 (i_2+1))∧mu48 (za.Sets r0_18) (za.First r0_18) (za.Last r0_18) (za.Follow r0_18) (za.Null r0_18) (w64 (i_2+1)) < mu48 out_Sets_2 out_First_2 out_Last_2 out_Follow_2 out_Null_2 i_2)))∧((decide (i_2 < ze.Lo x))=false→(∃ r0_19:za,zbs r0_14 r0_19∧(∃ J54:List zb→List Int→List Int→List (List Int)→Bool→Prop,(∀ (last_Sets:List zb) (last_First:List Int) (last_Last:List Int) (last_Follow:List (List Int)) (last_Null:Bool),J54 last_Sets last_First last_Last last_Follow last_Null→(∃ r0_21:za,zU ({ Sets:=out_Sets_2,First:=out_First_2,Last:=out_Last_2,Follow:=out_Follow_2,Null:=out_Null_2 }) ({ Sets:=last_Sets,First:=last_First,Last:=last_Last,Follow:=last_Follow,Null:=last_Null }) r0_21∧(res=r0_21)))∧(((ze.Lo x == 0)=true→(∃ r0_22:za,zae r0_19 r0_22∧J54 (za.Sets r0_22) (za.First r0_22) (za.Last r0_22) (za.Follow r0_22) (za.Null r0_22)))∧((ze.Lo x == 0)=false→J54 (za.Sets r0_19) (za.First r0_19) (za.Last r0_19) (za.Follow r0_19) (za.Null r0_19))))))))))∧((decide (ze.Hi x < (0:Int)))=false→(∃ (Inv64:List zb→List Int→List Int→List (List Int)→Bool→Int→Prop) (mu65:List zb→List Int→List Int→List (List Int)→Bool→Int→Nat),Inv64 (za.Sets r0_15) (za.First r0_15) (za.Last r0_15) (za.Follow r0_15) (za.Null r0_15) (ze.Lo x)∧(∀ (out_Sets_3:List zb) (out_First_3:List Int) (out_Last_3:List Int) (out_Follow_3:List (List Int)) (out_Null_3:Bool) (i_3:Int),Inv64 out_Sets_3 out_First_3 out_Last_3 out_Follow_3 out_Null_3 i_3→(((decide (i_3 < ze.Hi x))=true→(∃ r0_27:za,zU r0_14 ({ Sets:=out_Sets_3,First:=out_First_3,Last:=out_Last_3,Follow:=out_Follow_3,Null:=out_Null_3 }) r0_27∧(∃ r0_28:za,zae r0_27 r0_28∧(Inv64 (za.Sets r0_28) (za.First r0_28) (za.Last r0_28) (za.Follow r0_28) (za.Null r0_28) (w64 (i_3+1))∧mu65 (za.Sets r0_28) (za.First r0_28) (za.Last r0_28) (za.Follow r0_28) (za.Null r0_28) (w64 (i_3+1)) < mu65 out_Sets_3 out_First_3 out_Last_3 out_Follow_3 out_Null_3 i_3))))∧((decide (i_3 < ze.Hi x))=false→(∃ (Inv73:List zb→List Int→List Int→List (List Int)→Bool→Int→Prop) (mu74:List zb→List Int→List Int→List (List Int)→Bool→Int→Nat),Inv73 out_Sets_3 out_First_3 out_Last_3 out_Follow_3 out_Null_3 0∧(∀ (out_Sets_4:List zb) (out_First_4:List Int) (out_Last_4:List Int) (out_Follow_4:List (List Int)) (out_Null_4:Bool) (i_4:Int),Inv73 out_Sets_4 out_First_4 out_Last_4 out_Follow_4 out_Null_4 i_4→(((decide (i_4 < ze.Lo x))=true→(∃ r0_31:za,zU r0_14 ({ Sets:=out_Sets_4,First:=out_First_4,Last:=out_Last_4,Follow:=out_Follow_4,Null:=out_Null_4 }) r0_31∧(Inv73 (za.Sets r0_31) (za.First r0_31) (za.Last r0_31) (za.Follow r0_31) (za.Null r0_31) (w64 (i_4+1))∧mu74 (za.Sets r0_31) (za.First r0_31) (za.Last r0_31) (za.Follow r0_31) (za.Null r0_31) (w64 (i_4+1)) < mu74 out_Sets_4 out_First_4 out_Last_4 out_Follow_4 out_Null_4 i_4)))∧((decide (i_4 < ze.Lo x))=false→(res=({ Sets:=out_Sets_4,First:=out_First_4,Last:=out_Last_4,Follow:=out_Follow_4,Null:=out_Null_4 })))))))))))))))∧((ze.Kind x == (5:Int))=false→(∃ r0_32:za,zaL r0_32∧(res=r0_32))))))))))):zaC x res:=by
 unfold zaC
 have kk:=cfOk [42,65,117] 119
 refine fD (x:=bodyOf Tryz.f109) kk Tryz.func109 ?_
 refine wkS [1] [(1,zC x)] (by kernel_rfl) ?_
 refine sDE kk [] [1] [(4,.ptr 8 0),(7,.ptr 14 0),(8,zC x),(14,.agg [.own 25 ([]),.own 3 ([]),.own 3 ([]),.own 40 ([]),vB false])] [(4,.ptr 8 0),(7,.ptr 14 0),(8,zC x),(14,.agg [oL 25 zf ([]),oL 3 zc ([]),oL 3 zc ([]),oL 40 zg ([]),vB false])] obN ?_
 refine qD ?_
 refine sD kk [] [] [(43,vi (ze.Kind x))] obN ?_
 refine bD (id:=0) ?_
 refine sD kk [] [] [(46,vB (ze.Kind x == (2:Int)))] obN ?_
 refine cD (t:=15) (b:=ze.Kind x == (2:Int)) (fun hb0=>?_) (fun hb0=>?_)
 ·have h:=h.1 hb0
  refine sDE kk [] [4,8,43,46] [(14,.agg [.f (FV.sl (List.take (List.length [FV.agg [FV.pv (Value.int IntKind.u64 (zb.e0 (ze.Set x))),FV.pv (Value.int IntKind.u64 (zb.e1 (ze.Set x))),FV.pv (Value.int IntKind.u64 (zb.e2 (ze.Set x))),FV.pv (Value.int IntKind.u64 (zb.e3 (ze.Set x)))]]) (List.drop (0:Nat) [FV.agg [FV.pv (Value.int IntKind.u64 (zb.e0 (ze.Set x))),FV.pv (Value.int IntKind.u64 (zb.e1 (ze.Set x))),FV.pv (Value.int IntKind.u64 (zb.e2 (ze.Set x))),FV.pv (Value.int IntKind.u64 (zb.e3 (ze.Set x)))]]))),.f (FV.sl (List.take (List.length [FV.pv (Value.int IntKind.i64 (0))]) (List.drop (0:Nat) [FV.pv (Value.int IntKind.i64 (0))]))),.f (FV.sl (List.take (List.length [FV.pv (Value.int IntKind.i64 (0))]) (List.drop (0:Nat) [FV.pv (Value.int IntKind.i64 (0))]))),.f (FV.sl (List.take (List.length [FV.sl []]) (List.drop (0:Nat) [FV.sl []]))),vB false])] [(14,.agg [vL zf ([ze.Set x]),vL zc ([(0:Int)]),vL zc ([(0:Int)]),vL zg ([[]]),vB false])] obN ?_
  refine tD ?_
  obtain he0:=h
  subst res
  exact (endD [] (.agg [vL zf ([ze.Set x]),vL zc ([(0:Int)]),vL zc ([(0:Int)]),vL zg ([[]]),vB false]) []).1
 ·have h:=h.2 hb0
  refine sD kk [] [46] [(73,vB (ze.Kind x == (3:Int)))] obN ?_
  refine cD (t:=24) (b:=ze.Kind x == (3:Int)) (fun hb1=>?_) (fun hb1=>?_)
  ·have h:=h.1 hb1
   obtain ⟨r0,hc2,h⟩:=h
   refine sD kk [.c (za8 r0) []] [43,73] [(10,.ptr 20 0),(20,za8 r0)] (obC hc2 obN) ?_
   refine qD ?_
   refine sD kk [] [] [(13,vi 0)] obN ?_
   refine bD (id:=1) ?_
   obtain ⟨Inv12,mu13,h0Inv12,hInv12⟩:=h
   refine loD (fun (q:List zb×List Int×List Int×List (List Int)×Bool×Int)=>(fun (out_Sets:List zb) (out_First:List Int) (out_Last:List Int) (out_Follow:List (List Int)) (out_Null:Bool) (i:Int)=>([(4,.ptr 8 0),(7,.ptr 14 0),(8,zC x),(10,.ptr 20 0),(13,vi i),(14,.agg [oL 25 zf ([]),oL 3 zc ([]),oL 3 zc ([]),oL 40 zg ([]),vB false]),(20,.agg [vL zf out_Sets,vL zc out_First,vL zc out_Last,oL 40 zg out_Follow,vB out_Null])]:Sta)) q.1 q.2.1 q.2.2.1 q.2.2.2.1 q.2.2.2.2.1 q.2.2.2.2.2) (fun (q:List zb×List Int×List Int×List (List Int)×Bool×Int)=>Inv12 q.1 q.2.1 q.2.2.1 q.2.2.2.1 q.2.2.2.2.1 q.2.2.2.2.2) (fun (q:List zb×List Int×List Int×List (List Int)×Bool×Int)=>mu13 q.1 q.2.1 q.2.2.1 q.2.2.2.1 q.2.2.2.2.1 q.2.2.2.2.2) ((za.Sets r0),(za.First r0),(za.Last r0),(za.Follow r0),(za.Null r0),0) [(20,0),(20,1),(20,2)] h0Inv12 ?_
   rintro ⟨out_Sets,out_First,out_Last,out_Follow,out_Null,i⟩ hi
   have h:=hInv12 out_Sets out_First out_Last out_Follow out_Null i hi
   refine qD ?_
   refine sDE kk [] [] [(94,vB (decide (i < (↑(List.length (List.map zn (ze.Kids x))):Int))))] [(94,vB (decide (i < (↑(List.length (ze.Kids x)):Int))))] obN ?_
   refine cD (t:=31) (b:=decide (i < (↑(List.length (ze.Kids x)):Int))) (fun hb14=>?_) (fun hb14=>?_)
   ·have h:=h.1 hb14
    refine Sem.skip' (by kernel_rfl) Wk.refl ?_
    show Sem _ _ _ _ _
    refine wkD [94] ?_
    refine qD ?_
    refine bD (id:=2) ?_
    obtain ⟨h15,h⟩:=h
    obtain ⟨h16,h⟩:=h
    obtain ⟨r0_5,hc17,h⟩:=h
    obtain ⟨r0_6,hc18,h⟩:=h
    refine rD kk [.e (zat (gd (ze.Kids x) i)),.c (zq r0_5) [],.c (.agg [vL zf (za.Sets r0_6),vL zc (za.First r0_6),vL zc (za.Last r0_6),oL 40 zg (za.Follow r0_6),vB (za.Null r0_6)]) []] [] [(20,.agg [vL zf (za.Sets r0_6),vL zc (za.First r0_6),vL zc (za.Last r0_6),oL 40 zg (za.Follow r0_6),vB (za.Null r0_6)])] (obC h15 (obC (zO zn (ze.Kids x) i _ (zP _) h15 h16) (obC hc17 (obC (Eq.mp (by unfold zU;(try simp only [List.drop_zero,List.take_length]);first | done | simp only [nm,enq]:zU ({ Sets:=out_Sets,First:=out_First,Last:=out_Last,Follow:=out_Follow,Null:=out_Null }) r0_5 r0_6=CallE Tryz.prog 131 [.agg [vL zf out_Sets,vL zc out_First,vL zc out_Last,.f (FV.sl (List.take (List.length (List.map zg out_Follow)) (List.drop (0:Nat) (List.map zg out_Follow)))),vB out_Null],.agg [vL zf (za.Sets r0_5),vL zc (za.First r0_5),vL zc (za.Last r0_5),vL zg (za.Follow r0_5),vB (za.Null r0_5)]] [] (.agg [vL zf (za.Sets r0_6),vL zc (za.First r0_6),vL zc (za.Last r0_6),oL 40 zg (za.Follow r0_6),vB (za.Null r0_6)]) []) hc18) obN)))) ?_
    show Sem _ _ _ _ _
    refine rD kk [] [] [(13,vi (w64 (i+1)))] obN ?_
    exact lD ((za.Sets r0_6),(za.First r0_6),(za.Last r0_6),(za.Follow r0_6),(za.Null r0_6),(w64 (i+1))) [] h
   ·have h:=h.2 hb14
    refine xD (i:=1) ?_
    show Sem _ _ _ _ _
    refine wkD [4,8,13,94] ?_
    refine sD kk [] [10,20] [(14,.agg [vL zf out_Sets,vL zc out_First,vL zc out_Last,oL 40 zg out_Follow,vB out_Null])] (obC (show (0:Nat)=(0:Nat)∧List.length (List.map zg out_Follow)=List.length (List.map zg out_Follow) from ⟨rfl,rfl⟩) obN) ?_
    refine tD ?_
    obtain he0:=h
    subst res
    exact (endD [(14,3)] (.agg [vL zf out_Sets,vL zc out_First,vL zc out_Last,vL zg out_Follow,vB out_Null]) []).1
  ·have h:=h.2 hb1
   refine sD kk [] [73] [(130,vB (ze.Kind x == (4:Int)))] obN ?_
   refine cD (t:=43) (b:=ze.Kind x == (4:Int)) (fun hb19=>?_) (fun hb19=>?_)
   ·have h:=h.1 hb19
    obtain ⟨h20,h⟩:=h
    obtain ⟨r0_7,hc21,h⟩:=h
    refine sD kk [.e (zat (List.getD (ze.Kids x) (0:Nat) default)),.c (zq r0_7) []] [43,130] [(16,.ptr 32 0),(32,zq r0_7)] (obC (show (0:Int)≤(0:Int) from by first | decide | rfl | trivial) (obC (show (List.map zn (ze.Kids x))[(Int.toNat (0:Int):Nat)]?=some (zat (List.getD (ze.Kids x) (0:Nat) default)) from by have:=zcb zn (ze.Kids x) ((0:Nat)) _ (zP _) h20;simpa only [nm,enq,zP] using this) (obC hc21 obN))) ?_
    refine qD ?_
    refine sD kk [] [] [(19,vi 1)] obN ?_
    refine bD (id:=3) ?_
    obtain ⟨Inv31,mu32,h0Inv31,hInv31⟩:=h
    refine loD (fun (q:List zb×List Int×List Int×List (List Int)×Bool×Int)=>(fun (out_Sets_1:List zb) (out_First_1:List Int) (out_Last_1:List Int) (out_Follow_1:List (List Int)) (out_Null_1:Bool) (i_1:Int)=>([(4,.ptr 8 0),(7,.ptr 14 0),(8,zC x),(14,.agg [oL 25 zf ([]),oL 3 zc ([]),oL 3 zc ([]),oL 40 zg ([]),vB false]),(16,.ptr 32 0),(19,vi i_1),(32,.agg [vL zf out_Sets_1,vL zc out_First_1,vL zc out_Last_1,vL zg out_Follow_1,vB out_Null_1])]:Sta)) q.1 q.2.1 q.2.2.1 q.2.2.2.1 q.2.2.2.2.1 q.2.2.2.2.2) (fun (q:List zb×List Int×List Int×List (List Int)×Bool×Int)=>Inv31 q.1 q.2.1 q.2.2.1 q.2.2.2.1 q.2.2.2.2.1 q.2.2.2.2.2) (fun (q:List zb×List Int×List Int×List (List Int)×Bool×Int)=>mu32 q.1 q.2.1 q.2.2.1 q.2.2.2.1 q.2.2.2.2.1 q.2.2.2.2.2) ((za.Sets r0_7),(za.First r0_7),(za.Last r0_7),(za.Follow r0_7),(za.Null r0_7),1) [] h0Inv31 ?_
    rintro ⟨out_Sets_1,out_First_1,out_Last_1,out_Follow_1,out_Null_1,i_1⟩ hi
    have h:=hInv31 out_Sets_1 out_First_1 out_Last_1 out_Follow_1 out_Null_1 i_1 hi
    refine qD ?_
    refine sDE kk [] [] [(163,vB (decide (i_1 < (↑(List.length (List.map zn (ze.Kids x))):Int))))] [(163,vB (decide (i_1 < (↑(List.length (ze.Kids x)):Int))))] obN ?_
    refine cD (t:=54) (b:=decide (i_1 < (↑(List.length (ze.Kids x)):Int))) (fun hb33=>?_) (fun hb33=>?_)
    ·have h:=h.1 hb33
     refine Sem.skip' (by kernel_rfl) Wk.refl ?_
     show Sem _ _ _ _ _
     refine wkD [163] ?_
     refine qD ?_
     refine bD (id:=4) ?_
     obtain ⟨h34,h⟩:=h
     obtain ⟨h35,h⟩:=h
     obtain ⟨r0_12,hc36,h⟩:=h
     obtain ⟨r0_13,hc37,h⟩:=h
     refine rD kk [.e (zat (gd (ze.Kids x) i_1)),.c (zq r0_12) [],.c (.agg [vL zf (za.Sets r0_13),vL zc (za.First r0_13),vL zc (za.Last r0_13),oL 40 zg (za.Follow r0_13),vB (za.Null r0_13)]) []] [] [(32,.agg [vL zf (za.Sets r0_13),vL zc (za.First r0_13),vL zc (za.Last r0_13),oL 40 zg (za.Follow r0_13),vB (za.Null r0_13)])] (obC h34 (obC (zO zn (ze.Kids x) i_1 _ (zP _) h34 h35) (obC hc36 (obC hc37 obN)))) ?_
     show Sem _ _ _ _ _
     refine rD kk [] [] [(19,vi (w64 (i_1+1)))] obN ?_
     exact lD ((za.Sets r0_13),(za.First r0_13),(za.Last r0_13),(za.Follow r0_13),(za.Null r0_13),(w64 (i_1+1))) [(32,3)] h
    ·have h:=h.2 hb33
     refine xD (i:=3) ?_
     show Sem _ _ _ _ _
     refine wkD [4,8,19,163] ?_
     refine sD kk [] [16,32] [(14,.agg [vL zf out_Sets_1,vL zc out_First_1,vL zc out_Last_1,vL zg out_Follow_1,vB out_Null_1])] obN ?_
     refine tD ?_
     obtain he0:=h
     subst res
     exact (endD [] (.agg [vL zf out_Sets_1,vL zc out_First_1,vL zc out_Last_1,vL zg out_Follow_1,vB out_Null_1]) []).1
   ·have h:=h.2 hb19
    refine sD kk [] [43,130] [(199,vB (ze.Kind x == (5:Int)))] obN ?_
    refine cD (t:=66) (b:=ze.Kind x == (5:Int)) (fun hb38=>?_) (fun hb38=>?_)
    ·have h:=h.1 hb38
     obtain ⟨h39,h⟩:=h
     obtain ⟨r0_14,hc40,h⟩:=h
     refine sD kk [.e (zat (List.getD (ze.Kids x) (0:Nat) default)),.c (zq r0_14) []] [199] [(22,.ptr 44 0),(44,zq r0_14)] (obC (show (0:Int)≤(0:Int) from by first | decide | rfl | trivial) (obC (show (List.map zn (ze.Kids x))[(Int.toNat (0:Int):Nat)]?=some (zat (List.getD (ze.Kids x) (0:Nat) default)) from by have:=zcb zn (ze.Kids x) ((0:Nat)) _ (zP _) h39;simpa only [nm,enq,zP] using this) (obC hc40 obN))) ?_
     obtain ⟨r0_15,hc41,h⟩:=h
     refine sD kk [.c (za8 r0_15) []] [] [(25,.ptr 50 0),(50,za8 r0_15)] (obC hc41 obN) ?_
     refine qD ?_
     refine sD kk [] [] [(229,vB (decide (ze.Hi x < (0:Int))))] obN ?_
     refine cD (t:=76) (b:=decide (ze.Hi x < (0:Int))) (fun hb42=>?_) (fun hb42=>?_)
     ·have h:=h.1 hb42
      refine qD ?_
      refine sD kk [] [229] [(28,vi 1)] obN ?_
      refine bD (id:=5) ?_
      obtain ⟨Inv47,mu48,h0Inv47,hInv47⟩:=h
      refine loD (fun (q:List zb×List Int×List Int×List (List Int)×Bool×Int)=>(fun (out_Sets_2:List zb) (out_First_2:List Int) (out_Last_2:List Int) (out_Follow_2:List (List Int)) (out_Null_2:Bool) (i_2:Int)=>([(4,.ptr 8 0),(7,.ptr 14 0),(8,zC x),(14,.agg [oL 25 zf ([]),oL 3 zc ([]),oL 3 zc ([]),oL 40 zg ([]),vB false]),(22,.ptr 44 0),(25,.ptr 50 0),(28,vi i_2),(44,zq r0_14),(50,.agg [vL zf out_Sets_2,vL zc out_First_2,vL zc out_Last_2,oL 40 zg out_Follow_2,vB out_Null_2])]:Sta)) q.1 q.2.1 q.2.2.1 q.2.2.2.1 q.2.2.2.2.1 q.2.2.2.2.2) (fun (q:List zb×List Int×List Int×List (List Int)×Bool×Int)=>Inv47 q.1 q.2.1 q.2.2.1 q.2.2.2.1 q.2.2.2.2.1 q.2.2.2.2.2) (fun (q:List zb×List Int×List Int×List (List Int)×Bool×Int)=>mu48 q.1 q.2.1 q.2.2.1 q.2.2.2.1 q.2.2.2.2.1 q.2.2.2.2.2) ((za.Sets r0_15),(za.First r0_15),(za.Last r0_15),(za.Follow r0_15),(za.Null r0_15),1) [(50,0),(50,1),(50,2)] h0Inv47 ?_
      rintro ⟨out_Sets_2,out_First_2,out_Last_2,out_Follow_2,out_Null_2,i_2⟩ hi
      have h:=hInv47 out_Sets_2 out_First_2 out_Last_2 out_Follow_2 out_Null_2 i_2 hi
      refine qD ?_
      refine sD kk [] [] [(241,vB (decide (i_2 < ze.Lo x)))] obN ?_
      refine cD (t:=80) (b:=decide (i_2 < ze.Lo x)) (fun hb49=>?_) (fun hb49=>?_)
      ·have h:=h.1 hb49
       refine Sem.skip' (by kernel_rfl) Wk.refl ?_
       show Sem _ _ _ _ _
       refine wkD [241] ?_
       refine qD ?_
       refine bD (id:=6) ?_
       obtain ⟨r0_18,hc50,h⟩:=h
       refine rD kk [.c (.agg [vL zf (za.Sets r0_18),vL zc (za.First r0_18),vL zc (za.Last r0_18),oL 40 zg (za.Follow r0_18),vB (za.Null r0_18)]) []] [] [(50,.agg [vL zf (za.Sets r0_18),vL zc (za.First r0_18),vL zc (za.Last r0_18),oL 40 zg (za.Follow r0_18),vB (za.Null r0_18)])] (obC (Eq.mp (by unfold zU;(try simp only [List.drop_zero,List.take_length]);first | done | simp only [nm,enq]:zU ({ Sets:=out_Sets_2,First:=out_First_2,Last:=out_Last_2,Follow:=out_Follow_2,Null:=out_Null_2 }) r0_14 r0_18=CallE Tryz.prog 131 [.agg [vL zf out_Sets_2,vL zc out_First_2,vL zc out_Last_2,.f (FV.sl (List.take (List.length (List.map zg out_Follow_2)) (List.drop (0:Nat) (List.map zg out_Follow_2)))),vB out_Null_2],.agg [vL zf (za.Sets r0_14),vL zc (za.First r0_14),vL zc (za.Last r0_14),vL zg (za.Follow r0_14),vB (za.Null r0_14)]] [] (.agg [vL zf (za.Sets r0_18),vL zc (za.First r0_18),vL zc (za.Last r0_18),oL 40 zg (za.Follow r0_18),vB (za.Null r0_18)]) []) hc50) obN) ?_
       show Sem _ _ _ _ _
       refine rD kk [] [] [(28,vi (w64 (i_2+1)))] obN ?_
       exact lD ((za.Sets r0_18),(za.First r0_18),(za.Last r0_18),(za.Follow r0_18),(za.Null r0_18),(w64 (i_2+1))) [] h
      ·have h:=h.2 hb49
       refine xD (i:=5) ?_
       show Sem _ _ _ _ _
       refine wkD [28,241] ?_
       obtain ⟨r0_19,hc51,h⟩:=h
       refine sD kk [.c (.agg [vL zf (za.Sets r0_19),vL zc (za.First r0_19),vL zc (za.Last r0_19),oL 40 zg (za.Follow r0_19),vB (za.Null r0_19)]) []] [22,44] [(31,.ptr 62 0),(62,.agg [vL zf (za.Sets r0_19),vL zc (za.First r0_19),vL zc (za.Last r0_19),oL 40 zg (za.Follow r0_19),vB (za.Null r0_19)])] (obC hc51 obN) ?_
       obtain ⟨J54,hJ54,h⟩:=h
       refine sjD (fun (q:List zb×List Int×List Int×List (List Int)×Bool)=>J54 q.1 q.2.1 q.2.2.1 q.2.2.2.1 q.2.2.2.2) (fun (q:List zb×List Int×List Int×List (List Int)×Bool)=>(fun (last_Sets:List zb) (last_First:List Int) (last_Last:List Int) (last_Follow:List (List Int)) (last_Null:Bool)=>([(7,.ptr 14 0),(14,.agg [oL 25 zf ([]),oL 3 zc ([]),oL 3 zc ([]),oL 40 zg ([]),vB false]),(25,.ptr 50 0),(31,.ptr 62 0),(50,.agg [vL zf out_Sets_2,vL zc out_First_2,vL zc out_Last_2,oL 40 zg out_Follow_2,vB out_Null_2]),(62,.agg [vL zf last_Sets,vL zc last_First,vL zc last_Last,vL zg last_Follow,vB last_Null])]:Sta)) q.1 q.2.1 q.2.2.1 q.2.2.2.1 q.2.2.2.2) ?_ ?_
       ·rintro ⟨last_Sets,last_First,last_Last,last_Follow,last_Null⟩ hj
        have h:=hJ54 last_Sets last_First last_Last last_Follow last_Null hj
        obtain ⟨r0_21,hc55,h⟩:=h
        refine sD kk [.c (.agg [vL zf (za.Sets r0_21),vL zc (za.First r0_21),vL zc (za.Last r0_21),oL 40 zg (za.Follow r0_21),vB (za.Null r0_21)]) []] [25,31,50,62] [(14,.agg [vL zf (za.Sets r0_21),vL zc (za.First r0_21),vL zc (za.Last r0_21),oL 40 zg (za.Follow r0_21),vB (za.Null r0_21)])] (obC (Eq.mp (by unfold zU;(try simp only [List.drop_zero,List.take_length]);first | done | simp only [nm,enq]:zU ({ Sets:=out_Sets_2,First:=out_First_2,Last:=out_Last_2,Follow:=out_Follow_2,Null:=out_Null_2 }) ({ Sets:=last_Sets,First:=last_First,Last:=last_Last,Follow:=last_Follow,Null:=last_Null }) r0_21=CallE Tryz.prog 131 [.agg [vL zf out_Sets_2,vL zc out_First_2,vL zc out_Last_2,.f (FV.sl (List.take (List.length (List.map zg out_Follow_2)) (List.drop (0:Nat) (List.map zg out_Follow_2)))),vB out_Null_2],.agg [vL zf last_Sets,vL zc last_First,vL zc last_Last,vL zg last_Follow,vB last_Null]] [] (.agg [vL zf (za.Sets r0_21),vL zc (za.First r0_21),vL zc (za.Last r0_21),oL 40 zg (za.Follow r0_21),vB (za.Null r0_21)]) []) hc55) obN) ?_
        refine tD ?_
        obtain he0:=h
        subst res
        exact (endD [(14,3)] (zq r0_21) []).1
       ·refine sD kk [] [4,8] [(271,vB (ze.Lo x == 0))] obN ?_
        refine cD (t:=90) (b:=ze.Lo x == 0) (fun hb56=>?_) (fun hb56=>?_)
        ·have h:=h.1 hb56
         obtain ⟨r0_22,hc57,h⟩:=h
         refine rD kk [.c (zq r0_22) []] [271] [(62,zq r0_22)] (obC (Eq.mp (by unfold zae;(try simp only [List.drop_zero,List.take_length]);first | done | simp only [nm,enq]:zae r0_19 r0_22=CallE Tryz.prog 134 [.agg [vL zf (za.Sets r0_19),vL zc (za.First r0_19),vL zc (za.Last r0_19),.f (FV.sl (List.take (List.length (List.map zg (za.Follow r0_19))) (List.drop (0:Nat) (List.map zg (za.Follow r0_19))))),vB (za.Null r0_19)]] [] (zq r0_22) []) hc57) obN) ?_
         exact jD ((za.Sets r0_22),(za.First r0_22),(za.Last r0_22),(za.Follow r0_22),(za.Null r0_22)) [] h
        ·have h:=h.2 hb56
         refine Sem.skip' (by kernel_rfl) Wk.refl ?_
         exact jD ((za.Sets r0_19),(za.First r0_19),(za.Last r0_19),(za.Follow r0_19),(za.Null r0_19)) [(62,3)] h
     ·have h:=h.2 hb42
      refine Sem.skip' (by kernel_rfl) Wk.refl ?_
      show Sem _ _ _ _ _
      refine wkD [229] ?_
      refine qD ?_
      refine sD kk [] [] [(34,vi (ze.Lo x))] obN ?_
      refine bD (id:=7) ?_
      obtain ⟨Inv64,mu65,h0Inv64,hInv64⟩:=h
      refine loD (fun (q:List zb×List Int×List Int×List (List Int)×Bool×Int)=>(fun (out_Sets_3:List zb) (out_First_3:List Int) (out_Last_3:List Int) (out_Follow_3:List (List Int)) (out_Null_3:Bool) (i_3:Int)=>([(4,.ptr 8 0),(7,.ptr 14 0),(8,zC x),(14,.agg [oL 25 zf ([]),oL 3 zc ([]),oL 3 zc ([]),oL 40 zg ([]),vB false]),(22,.ptr 44 0),(25,.ptr 50 0),(34,vi i_3),(44,zq r0_14),(50,.agg [vL zf out_Sets_3,vL zc out_First_3,vL zc out_Last_3,vL zg out_Follow_3,vB out_Null_3])]:Sta)) q.1 q.2.1 q.2.2.1 q.2.2.2.1 q.2.2.2.2.1 q.2.2.2.2.2) (fun (q:List zb×List Int×List Int×List (List Int)×Bool×Int)=>Inv64 q.1 q.2.1 q.2.2.1 q.2.2.2.1 q.2.2.2.2.1 q.2.2.2.2.2) (fun (q:List zb×List Int×List Int×List (List Int)×Bool×Int)=>mu65 q.1 q.2.1 q.2.2.1 q.2.2.2.1 q.2.2.2.2.1 q.2.2.2.2.2) ((za.Sets r0_15),(za.First r0_15),(za.Last r0_15),(za.Follow r0_15),(za.Null r0_15),(ze.Lo x)) [(50,0),(50,1),(50,2),(50,3)] h0Inv64 ?_
      rintro ⟨out_Sets_3,out_First_3,out_Last_3,out_Follow_3,out_Null_3,i_3⟩ hi
      have h:=hInv64 out_Sets_3 out_First_3 out_Last_3 out_Follow_3 out_Null_3 i_3 hi
      refine qD ?_
      refine sD kk [] [] [(304,vB (decide (i_3 < ze.Hi x)))] obN ?_
      refine cD (t:=101) (b:=decide (i_3 < ze.Hi x)) (fun hb66=>?_) (fun hb66=>?_)
      ·have h:=h.1 hb66
       refine Sem.skip' (by kernel_rfl) Wk.refl ?_
       show Sem _ _ _ _ _
       refine wkD [304] ?_
       refine qD ?_
       refine bD (id:=8) ?_
       obtain ⟨r0_27,hc67,h⟩:=h
       obtain ⟨r0_28,hc68,h⟩:=h
       refine rD kk [.c (.agg [vL zf (za.Sets r0_27),vL zc (za.First r0_27),vL zc (za.Last r0_27),oL 40 zg (za.Follow r0_27),vB (za.Null r0_27)]) [],.c (zq r0_28) []] [] [(50,zq r0_28)] (obC hc67 (obC (Eq.mp (by unfold zae;(try simp only [List.drop_zero,List.take_length]);first | done | simp only [nm,enq]:zae r0_27 r0_28=CallE Tryz.prog 134 [.agg [vL zf (za.Sets r0_27),vL zc (za.First r0_27),vL zc (za.Last r0_27),.f (FV.sl (List.take (List.length (List.map zg (za.Follow r0_27))) (List.drop (0:Nat) (List.map zg (za.Follow r0_27))))),vB (za.Null r0_27)]] [] (zq r0_28) []) hc68) obN)) ?_
       show Sem _ _ _ _ _
       refine rD kk [] [] [(34,vi (w64 (i_3+1)))] obN ?_
       exact lD ((za.Sets r0_28),(za.First r0_28),(za.Last r0_28),(za.Follow r0_28),(za.Null r0_28),(w64 (i_3+1))) [] h
      ·have h:=h.2 hb66
       refine xD (i:=7) ?_
       show Sem _ _ _ _ _
       refine wkD [34,304] ?_
       refine qD ?_
       refine sD kk [] [] [(37,vi 0)] obN ?_
       refine bD (id:=9) ?_
       obtain ⟨Inv73,mu74,h0Inv73,hInv73⟩:=h
       refine loD (fun (q:List zb×List Int×List Int×List (List Int)×Bool×Int)=>(fun (out_Sets_4:List zb) (out_First_4:List Int) (out_Last_4:List Int) (out_Follow_4:List (List Int)) (out_Null_4:Bool) (i_4:Int)=>([(4,.ptr 8 0),(7,.ptr 14 0),(8,zC x),(14,.agg [oL 25 zf ([]),oL 3 zc ([]),oL 3 zc ([]),oL 40 zg ([]),vB false]),(22,.ptr 44 0),(25,.ptr 50 0),(37,vi i_4),(44,zq r0_14),(50,.agg [vL zf out_Sets_4,vL zc out_First_4,vL zc out_Last_4,vL zg out_Follow_4,vB out_Null_4])]:Sta)) q.1 q.2.1 q.2.2.1 q.2.2.2.1 q.2.2.2.2.1 q.2.2.2.2.2) (fun (q:List zb×List Int×List Int×List (List Int)×Bool×Int)=>Inv73 q.1 q.2.1 q.2.2.1 q.2.2.2.1 q.2.2.2.2.1 q.2.2.2.2.2) (fun (q:List zb×List Int×List Int×List (List Int)×Bool×Int)=>mu74 q.1 q.2.1 q.2.2.1 q.2.2.2.1 q.2.2.2.2.1 q.2.2.2.2.2) (out_Sets_3,out_First_3,out_Last_3,out_Follow_3,out_Null_3,0) [] h0Inv73 ?_
       rintro ⟨out_Sets_4,out_First_4,out_Last_4,out_Follow_4,out_Null_4,i_4⟩ hi
       have h:=hInv73 out_Sets_4 out_First_4 out_Last_4 out_Follow_4 out_Null_4 i_4 hi
       refine qD ?_
       refine sD kk [] [] [(334,vB (decide (i_4 < ze.Lo x)))] obN ?_
       refine cD (t:=111) (b:=decide (i_4 < ze.Lo x)) (fun hb75=>?_) (fun hb75=>?_)
       ·have h:=h.1 hb75
        refine Sem.skip' (by kernel_rfl) Wk.refl ?_
        show Sem _ _ _ _ _
        refine wkD [334] ?_
        refine qD ?_
        refine bD (id:=10) ?_
        obtain ⟨r0_31,hc76,h⟩:=h
        refine rD kk [.c (.agg [vL zf (za.Sets r0_31),vL zc (za.First r0_31),vL zc (za.Last r0_31),oL 40 zg (za.Follow r0_31),vB (za.Null r0_31)]) []] [] [(50,.agg [vL zf (za.Sets r0_31),vL zc (za.First r0_31),vL zc (za.Last r0_31),oL 40 zg (za.Follow r0_31),vB (za.Null r0_31)])] (obC hc76 obN) ?_
        show Sem _ _ _ _ _
        refine rD kk [] [] [(37,vi (w64 (i_4+1)))] obN ?_
        exact lD ((za.Sets r0_31),(za.First r0_31),(za.Last r0_31),(za.Follow r0_31),(za.Null r0_31),(w64 (i_4+1))) [(50,3)] h
       ·have h:=h.2 hb75
        refine xD (i:=9) ?_
        show Sem _ _ _ _ _
        refine wkD [4,8,22,37,44,334] ?_
        refine sD kk [] [25,50] [(14,.agg [vL zf out_Sets_4,vL zc out_First_4,vL zc out_Last_4,vL zg out_Follow_4,vB out_Null_4])] obN ?_
        refine tD ?_
        obtain he0:=h
        subst res
        exact (endD [] (.agg [vL zf out_Sets_4,vL zc out_First_4,vL zc out_Last_4,vL zg out_Follow_4,vB out_Null_4]) []).1
    ·have h:=h.2 hb38
     refine Sem.skip' (by kernel_rfl) Wk.refl ?_
     show Sem _ _ _ _ _
     refine wkD [4,8,199] ?_
     obtain ⟨r0_32,hc77,h⟩:=h
     refine sD kk [.c (za8 r0_32) []] [] [(14,za8 r0_32)] (obC hc77 obN) ?_
     refine tD ?_
     obtain he0:=h
     subst res
     exact (endD [(14,0),(14,1),(14,2),(14,3)] (zq r0_32) []).1
set_option maxHeartbeats 1000000 in
theorem zgb (x:ze) (res:za) (res_1:Int)
 (h:(∃ r0:Bool,zaN x r0∧(((!r0)=true→(res=({ Sets:=[],First:=[],Last:=[],Follow:=[],Null:=false })∧res_1=1))∧((!r0)=false→(∃ r0_1:za,zaC x r0_1∧(res=r0_1∧res_1=0)))))):zbv x res res_1:=by
 unfold zbv
 have kk:=cfOk [] 10
 refine fD (x:=bodyOf Tryz.f73) kk Tryz.func73 ?_
 refine wkS [1] [(1,zC x)] (by kernel_rfl) ?_
 refine sDE kk [] [1] [(4,.ptr 8 0),(7,.ptr 14 0),(8,zC x),(14,.agg [.own 25 ([]),.own 3 ([]),.own 3 ([]),.own 40 ([]),vB false])] [(4,.ptr 8 0),(7,.ptr 14 0),(8,zC x),(14,.agg [oL 25 zf ([]),oL 3 zc ([]),oL 3 zc ([]),oL 40 zg ([]),vB false])] obN ?_
 refine qD ?_
 obtain ⟨r0,hc0,h⟩:=h
 refine sD kk [.c (vB r0) []] [] [(19,vB (!r0))] (obC hc0 obN) ?_
 refine cD (t:=6) (b:=!r0) (fun hb1=>?_) (fun hb1=>?_)
 ·have h:=h.1 hb1
  refine sDE kk [] [4,8,19] [(10,vi 1),(14,.agg [.own 25 ([]),.own 3 ([]),.own 3 ([]),.own 40 ([]),vB false])] [(10,vi 1),(14,.agg [oL 25 zf ([]),oL 3 zc ([]),oL 3 zc ([]),oL 40 zg ([]),vB false])] obN ?_
  refine tD ?_
  obtain ⟨he0,he1⟩:=h
  subst res res_1
  exact (endD [] (.tup [.agg [.f (FV.sl (List.take (List.length (List.map zf [])) (List.drop (0:Nat) (List.map zf [])))),.f (FV.sl (List.take (List.length (List.map zc [])) (List.drop (0:Nat) (List.map zc [])))),.f (FV.sl (List.take (List.length (List.map zc [])) (List.drop (0:Nat) (List.map zc [])))),.f (FV.sl (List.take (List.length (List.map zg [])) (List.drop (0:Nat) (List.map zg [])))),vB false],vi 1]) []).1
 ·have h:=h.2 hb1
  refine Sem.skip' (by kernel_rfl) Wk.refl ?_
  show Sem _ _ _ _ _
  refine wkD [19] ?_
  obtain ⟨r0_1,hc2,h⟩:=h
  refine sD kk [.c (zq r0_1) []] [4,8] [(10,vi 0),(14,zq r0_1)] (obC hc2 obN) ?_
  refine tD ?_
  obtain ⟨he0,he1⟩:=h
  subst res res_1
  exact (endD [] (.tup [zq r0_1,vi 0]) []).1
set_option maxHeartbeats 1000000 in
theorem zez (l:(List Int)) (by0:Int) (res:(List Int))
 (h:(∃ (Inv6:List Int→Int→Prop) (mu7:List Int→Int→Nat),Inv6 ([]) 0∧(∀ (out:List Int) (i:Int),Inv6 out i→(((decide (i < (↑(List.length l):Int)))=true→((0:Int)≤i)∧i < ↑(List.length l)∧((List.length out+(1:Nat)) * (8:Nat)≤(2:Nat) ^ (47:Nat))∧(Inv6 (out++[w64 (gd l i+by0)]) (w64 (i+1))∧mu7 (out++[w64 (gd l i+by0)]) (w64 (i+1)) < mu7 out i))∧((decide (i < (↑(List.length l):Int)))=false→(res=out)))))):z8 l by0 res:=by
 unfold z8
 have kk:=cfOk [22] 23
 refine fD (x:=bodyOf Tryz.f87) kk Tryz.func87 ?_
 refine wkS [1,4] [(1,vL zc l),(4,vi by0)] (by kernel_rfl) ?_
 refine sD kk [] [] [] obN ?_
 refine sDE kk [] [] [(16,.own 3 ([]))] [(16,oL 3 zc ([]))] obN ?_
 refine qD ?_
 refine sD kk [] [] [(19,vi 0)] obN ?_
 refine bD (id:=0) ?_
 obtain ⟨Inv6,mu7,h0Inv6,hInv6⟩:=h
 refine loD (fun (q:List Int×Int)=>(fun (out:List Int) (i:Int)=>([(1,vL zc l),(4,vi by0),(16,oL 3 zc out),(19,vi i)]:Sta)) q.1 q.2) (fun (q:List Int×Int)=>Inv6 q.1 q.2) (fun (q:List Int×Int)=>mu7 q.1 q.2) (([]),0) [] h0Inv6 ?_
 rintro ⟨out,i⟩ hi
 have h:=hInv6 out i hi
 refine qD ?_
 refine sDE kk [] [] [(31,vB (decide (i < (↑(List.length (List.map zc l)):Int))))] [(31,vB (decide (i < (↑(List.length l):Int))))] obN ?_
 refine cD (t:=10) (b:=decide (i < (↑(List.length l):Int))) (fun hb8=>?_) (fun hb8=>?_)
 ·have h:=h.1 hb8
  refine Sem.skip' (by kernel_rfl) Wk.refl ?_
  show Sem _ _ _ _ _
  refine wkD [31] ?_
  refine qD ?_
  refine bD (id:=1) ?_
  obtain ⟨h9,h⟩:=h
  obtain ⟨h10,h⟩:=h
  obtain ⟨h11,h⟩:=h
  refine rDE kk [.e (fi (gd l i))] [] [(16,.own 3 (List.map zc out++List.take (List.length [FV.pv (Value.int IntKind.i64 (w64 (gd l i+by0)))]) (List.drop (0:Nat) [FV.pv (Value.int IntKind.i64 (w64 (gd l i+by0)))])))] [(16,oL 3 zc (out++[w64 (gd l i+by0)]))] (obC h9 (obC (zO zc l i _ rfl h9 h10) (obC (show (0:Nat)=(0:Nat)∧List.length (List.map zc out)=List.length (List.map zc out) from ⟨rfl,rfl⟩) (obC (show (List.length (List.map zc out)+List.length (List.take (1:Nat) (List.drop (0:Nat) [FV.pv (Value.int IntKind.i64 (w64 (gd l i+by0)))]))) * (8:Nat)≤(2:Nat) ^ (47:Nat) from by simpa only [nm] using h11) (obC (show List.all (List.take (1:Nat) (List.drop (0:Nat) [FV.pv (Value.int IntKind.i64 (w64 (gd l i+by0)))])) (FV.fits (1:Nat))=true from by first | exact zaY _ | exact keysenc_i64 _ | rfl | simp [isByteF,FV.fits,FV.size,FV.cells,FV.one,]) obN))))) ?_
  show Sem _ _ _ _ _
  refine rD kk [] [] [(19,vi (w64 (i+1)))] obN ?_
  exact lD ((out++[w64 (gd l i+by0)]),(w64 (i+1))) [] h
 ·have h:=h.2 hb8
  refine xD (i:=0) ?_
  show Sem _ _ _ _ _
  refine wkD [1,4,19,31] ?_
  refine sD kk [] [16] [(13,oL 3 zc out)] obN ?_
  refine tD ?_
  obtain he0:=h
  subst res
  exact (endD [] (oL 3 zc out) []).1
set_option maxHeartbeats 1000000 in
theorem zfC (p:za) (rule0:Int) (a:zl) (fin:zl)
 (h:(∃ (Inv18:List zb→List Int→List (List Int)→List Bool→Int→Prop) (mu19:List zb→List Int→List (List Int)→List Bool→Int→Nat),Inv18 (zl.Sets a) (zl.Owner a) (zl.Follow a) (zl.Ends a) 0∧(∀ (o0_Sets:List zb) (o0_Owner:List Int) (o0_Follow:List (List Int)) (o0_Ends:List Bool) (i:Int),Inv18 o0_Sets o0_Owner o0_Follow o0_Ends i→(((decide (i < (↑(List.length (za.Sets p)):Int)))=true→((0:Int)≤i)∧i < ↑(List.length (za.Sets p))∧((List.length o0_Sets+(1:Nat)) * (32:Nat)≤(2:Nat) ^ (47:Nat))∧((List.length o0_Owner+(1:Nat)) * (8:Nat)≤(2:Nat) ^ (47:Nat))∧((List.length o0_Ends+(1:Nat)) * (1:Nat)≤(2:Nat) ^ (47:Nat))∧((0:Int)≤i)∧i < ↑(List.length (za.Follow p))∧(∃ r0_2:List Int,z8 (gd (za.Follow p) i) ((↑(List.length (zl.Sets a)):Int)) r0_2∧((List.length o0_Follow+(1:Nat)) * (24:Nat)≤(2:Nat) ^ (47:Nat))∧(Inv18 (o0_Sets++[gd (za.Sets p) i]) (o0_Owner++[rule0]) (o0_Follow++[r0_2]) (o0_Ends++[false]) (w64 (i+1))∧mu19 (o0_Sets++[gd (za.Sets p) i]) (o0_Owner++[rule0]) (o0_Follow++[r0_2]) (o0_Ends++[false]) (w64 (i+1)) < mu19 o0_Sets o0_Owner o0_Follow o0_Ends i)))∧((decide (i < (↑(List.length (za.Sets p)):Int)))=false→(fin=({ Sets:=o0_Sets,Owner:=o0_Owner,Follow:=o0_Follow,Ends:=o0_Ends,Starts:=zl.Starts a }))))))):zbf p rule0 a fin:=by
 unfold zbf
 have kk:=cfOk [] 69
 refine fD (x:=bodyOf Tryz.f86) kk Tryz.func86 ?_
 refine wkS [1,3,4,7] [(1,.ptr 3 0),(3,zaH a),(4,zq p),(7,vi rule0)] (by kernel_rfl) ?_
 refine sD kk [] [4] [(13,.ptr 26 0),(26,zq p)] obN ?_
 refine sDE kk [] [] [(19,vi ((↑(List.length (List.map zf (zl.Sets a))):Int)))] [(19,vi ((↑(List.length (zl.Sets a)):Int)))] obN ?_
 refine sD kk [] [] [(22,vi 0)] obN ?_
 refine bD (id:=0) ?_
 obtain ⟨Inv18,mu19,h0Inv18,hInv18⟩:=h
 refine loD (fun (q:List zb×List Int×List (List Int)×List Bool×Int)=>(fun (o0_Sets:List zb) (o0_Owner:List Int) (o0_Follow:List (List Int)) (o0_Ends:List Bool) (i:Int)=>([(1,.ptr 3 0),(3,.agg [oL 25 zf o0_Sets,oL 3 zc o0_Owner,oL 40 zg o0_Follow,oL 4 zw o0_Ends,oL 40 zg (zl.Starts a)]),(7,vi rule0),(13,.ptr 26 0),(19,vi ((↑(List.length (zl.Sets a)):Int))),(22,vi i),(26,zq p)]:Sta)) q.1 q.2.1 q.2.2.1 q.2.2.2.1 q.2.2.2.2) (fun (q:List zb×List Int×List (List Int)×List Bool×Int)=>Inv18 q.1 q.2.1 q.2.2.1 q.2.2.2.1 q.2.2.2.2) (fun (q:List zb×List Int×List (List Int)×List Bool×Int)=>mu19 q.1 q.2.1 q.2.2.1 q.2.2.2.1 q.2.2.2.2) ((zl.Sets a),(zl.Owner a),(zl.Follow a),(zl.Ends a),0) [] h0Inv18 ?_
 rintro ⟨o0_Sets,o0_Owner,o0_Follow,o0_Ends,i⟩ hi
 have h:=hInv18 o0_Sets o0_Owner o0_Follow o0_Ends i hi
 refine qD ?_
 refine sDE kk [] [] [(52,vB (decide (i < (↑(List.length (List.map zf (za.Sets p))):Int))))] [(52,vB (decide (i < (↑(List.length (za.Sets p)):Int))))] obN ?_
 refine cD (t:=17) (b:=decide (i < (↑(List.length (za.Sets p)):Int))) (fun hb20=>?_) (fun hb20=>?_)
 ·have h:=h.1 hb20
  refine Sem.skip' (by kernel_rfl) Wk.refl ?_
  show Sem _ _ _ _ _
  refine wkD [52] ?_
  refine qD ?_
  refine bD (id:=1) ?_
  obtain ⟨h21,h⟩:=h
  obtain ⟨h22,h⟩:=h
  obtain ⟨h23,h⟩:=h
  refine sDE kk [.e (zcO (gd (za.Sets p) i))] [] [(3,.agg [.own 25 (List.map zf o0_Sets++List.take (List.length [FV.agg [FV.pv (Value.int IntKind.u64 (zb.e0 (gd (za.Sets p) i))),FV.pv (Value.int IntKind.u64 (zb.e1 (gd (za.Sets p) i))),FV.pv (Value.int IntKind.u64 (zb.e2 (gd (za.Sets p) i))),FV.pv (Value.int IntKind.u64 (zb.e3 (gd (za.Sets p) i)))]]) (List.drop (0:Nat) [FV.agg [FV.pv (Value.int IntKind.u64 (zb.e0 (gd (za.Sets p) i))),FV.pv (Value.int IntKind.u64 (zb.e1 (gd (za.Sets p) i))),FV.pv (Value.int IntKind.u64 (zb.e2 (gd (za.Sets p) i))),FV.pv (Value.int IntKind.u64 (zb.e3 (gd (za.Sets p) i)))]])),oL 3 zc o0_Owner,oL 40 zg o0_Follow,oL 4 zw o0_Ends,oL 40 zg (zl.Starts a)])] [(3,.agg [oL 25 zf (o0_Sets++[gd (za.Sets p) i]),oL 3 zc o0_Owner,oL 40 zg o0_Follow,oL 4 zw o0_Ends,oL 40 zg (zl.Starts a)])] (obC h21 (obC (zO zf (za.Sets p) i _ (zaz _) h21 h22) (obC (show (0:Nat)=(0:Nat)∧List.length (List.map zf o0_Sets)=List.length (List.map zf o0_Sets) from ⟨rfl,rfl⟩) (obC (show (List.length (List.map zf o0_Sets)+List.length (List.take (1:Nat) (List.drop (0:Nat) [FV.agg [FV.pv (Value.int IntKind.u64 (zb.e0 (gd (za.Sets p) i))),FV.pv (Value.int IntKind.u64 (zb.e1 (gd (za.Sets p) i))),FV.pv (Value.int IntKind.u64 (zb.e2 (gd (za.Sets p) i))),FV.pv (Value.int IntKind.u64 (zb.e3 (gd (za.Sets p) i)))]]))) * (32:Nat)≤(2:Nat) ^ (47:Nat) from by simpa only [nm] using h23) (obC (show List.all (List.take (1:Nat) (List.drop (0:Nat) [FV.agg [FV.pv (Value.int IntKind.u64 (zb.e0 (gd (za.Sets p) i))),FV.pv (Value.int IntKind.u64 (zb.e1 (gd (za.Sets p) i))),FV.pv (Value.int IntKind.u64 (zb.e2 (gd (za.Sets p) i))),FV.pv (Value.int IntKind.u64 (zb.e3 (gd (za.Sets p) i)))]])) (FV.fits (4:Nat))=true from by first | exact fits_u64 _ | exact keysenc_u64 _ | rfl | simp [isByteF,FV.fits,FV.size,FV.cells,FV.one,]) obN))))) ?_
  obtain ⟨h24,h⟩:=h
  refine sDE kk [] [] [(3,.agg [oL 25 zf (o0_Sets++[gd (za.Sets p) i]),.own 3 (List.map zc o0_Owner++List.take (List.length [FV.pv (Value.int IntKind.i64 rule0)]) (List.drop (0:Nat) [FV.pv (Value.int IntKind.i64 rule0)])),oL 40 zg o0_Follow,oL 4 zw o0_Ends,oL 40 zg (zl.Starts a)])] [(3,.agg [oL 25 zf (o0_Sets++[gd (za.Sets p) i]),oL 3 zc (o0_Owner++[rule0]),oL 40 zg o0_Follow,oL 4 zw o0_Ends,oL 40 zg (zl.Starts a)])] (obC (show (0:Nat)=(0:Nat)∧List.length (List.map zc o0_Owner)=List.length (List.map zc o0_Owner) from ⟨rfl,rfl⟩) (obC (show (List.length (List.map zc o0_Owner)+List.length (List.take (1:Nat) (List.drop (0:Nat) [FV.pv (Value.int IntKind.i64 rule0)]))) * (8:Nat)≤(2:Nat) ^ (47:Nat) from by simpa only [nm] using h24) (obC (show List.all (List.take (1:Nat) (List.drop (0:Nat) [FV.pv (Value.int IntKind.i64 rule0)])) (FV.fits (1:Nat))=true from by first | exact zaY _ | exact keysenc_i64 _ | rfl | simp [isByteF,FV.fits,FV.size,FV.cells,FV.one,]) obN))) ?_
  obtain ⟨h25,h⟩:=h
  refine sDE kk [] [] [(3,.agg [oL 25 zf (o0_Sets++[gd (za.Sets p) i]),oL 3 zc (o0_Owner++[rule0]),oL 40 zg o0_Follow,.own 4 (List.map zw o0_Ends++List.take (List.length [FV.pv (Value.bool false)]) (List.drop (0:Nat) [FV.pv (Value.bool false)])),oL 40 zg (zl.Starts a)])] [(3,.agg [oL 25 zf (o0_Sets++[gd (za.Sets p) i]),oL 3 zc (o0_Owner++[rule0]),oL 40 zg o0_Follow,oL 4 zw (o0_Ends++[false]),oL 40 zg (zl.Starts a)])] (obC (show (0:Nat)=(0:Nat)∧List.length (List.map zw o0_Ends)=List.length (List.map zw o0_Ends) from ⟨rfl,rfl⟩) (obC (show (List.length (List.map zw o0_Ends)+List.length (List.take (1:Nat) (List.drop (0:Nat) [FV.pv (Value.bool false)]))) * (1:Nat)≤(2:Nat) ^ (47:Nat) from by simpa only [nm] using h25) (obC (show List.all (List.take (1:Nat) (List.drop (0:Nat) [FV.pv (Value.bool false)])) (FV.fits (1:Nat))=true from by first | decide | rfl | trivial) obN))) ?_
  obtain ⟨h26,h⟩:=h
  obtain ⟨h27,h⟩:=h
  obtain ⟨r0_2,hc28,h⟩:=h
  obtain ⟨h29,h⟩:=h
  refine rDE kk [.e (fL zc (gd (za.Follow p) i)),.c (oL 3 zc r0_2) []] [] [(3,.agg [oL 25 zf (o0_Sets++[gd (za.Sets p) i]),oL 3 zc (o0_Owner++[rule0]),.own 40 (List.map zg o0_Follow++List.take (List.length [FV.sl (List.take (List.length (List.map zc r0_2)) (List.drop (0:Nat) (List.map zc r0_2)))]) (List.drop (0:Nat) [FV.sl (List.take (List.length (List.map zc r0_2)) (List.drop (0:Nat) (List.map zc r0_2)))])),oL 4 zw (o0_Ends++[false]),oL 40 zg (zl.Starts a)])] [(3,.agg [oL 25 zf (o0_Sets++[gd (za.Sets p) i]),oL 3 zc (o0_Owner++[rule0]),oL 40 zg (o0_Follow++[r0_2]),oL 4 zw (o0_Ends++[false]),oL 40 zg (zl.Starts a)])] (obC h26 (obC (zO zg (za.Follow p) i _ rfl h26 h27) (obC hc28 (obC (show (0:Nat)=(0:Nat)∧List.length (List.map zg o0_Follow)=List.length (List.map zg o0_Follow) from ⟨rfl,rfl⟩) (obC (show (List.length (List.map zg o0_Follow)+List.length (List.take (1:Nat) (List.drop (0:Nat) [FV.sl (List.take (List.length (List.map zc r0_2)) (List.drop (0:Nat) (List.map zc r0_2)))]))) * (24:Nat)≤(2:Nat) ^ (47:Nat) from by simpa only [nm] using h29) (obC (show List.all (List.take (1:Nat) (List.drop (0:Nat) [FV.sl (List.take (List.length (List.map zc r0_2)) (List.drop (0:Nat) (List.map zc r0_2)))])) (FV.fits (1:Nat))=true from by first | exact zaY _ | exact keysenc_i64 _ | rfl | simp [isByteF,FV.fits,FV.size,FV.cells,FV.one,zc]) obN)))))) ?_
  show Sem _ _ _ _ _
  refine rD kk [] [] [(22,vi (w64 (i+1)))] obN ?_
  exact lD ((o0_Sets++[gd (za.Sets p) i]),(o0_Owner++[rule0]),(o0_Follow++[r0_2]),(o0_Ends++[false]),(w64 (i+1))) [] h
 ·have h:=h.2 hb20
  refine xD (i:=0) ?_
  obtain he0:=h
  subst fin
  exact (endD [] (.tup []) [.agg [oL 25 zf o0_Sets,oL 3 zc o0_Owner,oL 40 zg o0_Follow,oL 4 zw o0_Ends,oL 40 zg (zl.Starts a)]]).2
set_option maxHeartbeats 1000000 in
theorem zfD (r0:zj) (rule0:Int) (a:zl) (res:(List Int)) (fin:zl)
 (h:(∃ r0_1:za,∃ r0_2:Int,zbv (zj.Rx r0) r0_1 r0_2∧(∃ o:zl,zbf r0_1 rule0 a o∧(∃ r0_3:List Int,z8 (za.Last r0_1) ((↑(List.length (zl.Sets a)):Int)) r0_3∧(∃ J55:List zb→List Int→List (List Int)→List Bool→List (List Int)→List Int→Prop,(∀ (o0_Sets:List zb) (o0_Owner:List Int) (o0_Follow_1:List (List Int)) (o0_Ends:List Bool) (o0_Starts:List (List Int)) (last:List Int),J55 o0_Sets o0_Owner o0_Follow_1 o0_Ends o0_Starts last→(∃ (Inv67:List Bool→Int→Prop) (mu68:List Bool→Int→Nat),Inv67 o0_Ends 0∧(∀ (o0_Ends_1:List Bool) (i_1:Int),Inv67 o0_Ends_1 i_1→(((decide (i_1 < (↑(List.length last):Int)))=true→((0:Int)≤i_1)∧i_1 < ↑(List.length last)∧((0:Int)≤gd last i_1)∧(Int.toNat (gd last i_1) < List.length o0_Ends_1)∧gd last i_1 < ↑(List.length o0_Ends_1)∧(Inv67 (List.set o0_Ends_1 (Int.toNat (gd last i_1)) true) (w64 (i_1+1))∧mu68 (List.set o0_Ends_1 (Int.toNat (gd last i_1)) true) (w64 (i_1+1)) < mu68 o0_Ends_1 i_1))∧((decide (i_1 < (↑(List.length last):Int)))=false→(∃ r0_15:List Int,z8 (za.First r0_1) ((↑(List.length (zl.Sets a)):Int)) r0_15∧(res=r0_15∧fin=({ Sets:=o0_Sets,Owner:=o0_Owner,Follow:=o0_Follow_1,Ends:=o0_Ends_1,Starts:=o0_Starts }))))))))∧(((ze.Kind (zj.Trail r0) != (0:Int))=true→(∃ r0_16:za,∃ r0_17:Int,zbv (zj.Trail r0) r0_16 r0_17∧(∃ o_2:zl,zbf r0_16 rule0 o o_2∧(∃ (Inv107:List (List Int)→Int→Prop) (mu108:List (List Int)→Int→Nat),Inv107 (zl.Follow o_2) 0∧(∀ (o0_Follow_2:List (List Int)) (i_2:Int),Inv107 o0_Follow_2 i_2→(((decide (i_2 < (↑(List.length r0_3):Int)))=true→((0:Int)≤i_2)∧(Int.toNat i_2 < List.length r0_3)∧i_2 < ↑(List.length r0_3)∧((0:Int)≤i_2)∧(Int.toNat i_2 < List.length r0_3)∧i_2 < ↑(List.length r0_3)∧((0:Int)≤gd r0_3 i_2)∧(Int.toNat (gd r0_3 i_2) < List.length o0_Follow_2)∧gd r0_3 i_2 < ↑(List.length o0_Follow_2)∧(∃ r0_22:List Int,z8 (za.First r0_16) ((↑(List.length (zl.Sets o)):Int)) r0_22∧(∃ r0_23:List Int,zF (gd o0_Follow_2 (gd r0_3 i_2)) r0_22 r0_23∧((0:Int)≤gd r0_3 i_2)∧(Int.toNat (gd r0_3 i_2) < List.length o0_Follow_2)∧gd r0_3 i_2 < ↑(List.length o0_Follow_2)∧(Inv107 (List.set o0_Follow_2 (Int.toNat (gd r0_3 i_2)) r0_23) (w64 (i_2+1))∧mu108 (List.set o0_Follow_2 (Int.toNat (gd r0_3 i_2)) r0_23) (w64 (i_2+1)) < mu108 o0_Follow_2 i_2))))∧((decide (i_2 < (↑(List.length r0_3):Int)))=false→(((za.Null r0_16)=true→(∃ r0_24:List Int,z8 (za.Last r0_16) ((↑(List.length (zl.Sets o)):Int)) r0_24∧(∃ r0_25:List Int,zF r0_3 r0_24 r0_25∧J55 (zl.Sets o_2) (zl.Owner o_2) o0_Follow_2 (zl.Ends o_2) (zl.Starts o_2) r0_25)))∧((za.Null r0_16)=false→(∃ r0_26:List Int,z8 (za.Last r0_16) ((↑(List.length (zl.Sets o)):Int)) r0_26∧J55 (zl.Sets o_2) (zl.Owner o_2) o0_Follow_2 (zl.Ends o_2) (zl.Starts o_2) r0_26))))))))))∧((ze.Kind (zj.Trail r0) != (0:Int))=false→J55 (zl.Sets o) (zl.Owner o) (zl.Follow o) (zl.Ends o) (zl.Starts o) r0_3))))))):zbH r0 rule0 a res fin:=by
 unfold zbH
 have kk:=cfOk [] 115
 refine fD (x:=bodyOf Tryz.f45) kk Tryz.func45 ?_
 refine wkS [1,3,4,7] [(1,.ptr 3 0),(3,zaH a),(4,zak r0),(7,vi rule0)] (by kernel_rfl) ?_
 refine sD kk [] [4] [(13,.ptr 26 0),(26,zak r0)] obN ?_
 obtain ⟨r0_1,r0_2,hc0,h⟩:=h
 refine sD kk [.c (.tup [zq r0_1,vi r0_2]) []] [] [(22,.ptr 44 0),(44,zq r0_1)] (obC hc0 obN) ?_
 refine sDE kk [] [] [(28,vi ((↑(List.length (List.map zf (zl.Sets a))):Int)))] [(28,vi ((↑(List.length (zl.Sets a)):Int)))] obN ?_
 obtain ⟨o,hc1,h⟩:=h
 refine sD kk [.c (.tup []) [zaH o]] [] [(3,zaH o)] (obC hc1 obN) ?_
 obtain ⟨r0_3,hc2,h⟩:=h
 refine sD kk [.c (oL 3 zc r0_3) []] [] [(31,oL 3 zc r0_3)] (obC hc2 obN) ?_
 obtain ⟨J55,hJ55,h⟩:=h
 refine sjD (fun (q:List zb×List Int×List (List Int)×List Bool×List (List Int)×List Int)=>J55 q.1 q.2.1 q.2.2.1 q.2.2.2.1 q.2.2.2.2.1 q.2.2.2.2.2) (fun (q:List zb×List Int×List (List Int)×List Bool×List (List Int)×List Int)=>(fun (o0_Sets:List zb) (o0_Owner:List Int) (o0_Follow_1:List (List Int)) (o0_Ends:List Bool) (o0_Starts:List (List Int)) (last:List Int)=>([(1,.ptr 3 0),(3,.agg [oL 25 zf o0_Sets,oL 3 zc o0_Owner,oL 40 zg o0_Follow_1,oL 4 zw o0_Ends,oL 40 zg o0_Starts]),(22,.ptr 44 0),(28,vi ((↑(List.length (zl.Sets a)):Int))),(31,vL zc last),(44,zq r0_1)]:Sta)) q.1 q.2.1 q.2.2.1 q.2.2.2.1 q.2.2.2.2.1 q.2.2.2.2.2) ?_ ?_
 ·rintro ⟨o0_Sets,o0_Owner,o0_Follow_1,o0_Ends,o0_Starts,last⟩ hj
  have h:=hJ55 o0_Sets o0_Owner o0_Follow_1 o0_Ends o0_Starts last hj
  refine qD ?_
  refine sD kk [] [] [(46,vi 0)] obN ?_
  refine bD (id:=2) ?_
  obtain ⟨Inv67,mu68,h0Inv67,hInv67⟩:=h
  refine loD (fun (q:List Bool×Int)=>(fun (o0_Ends_1:List Bool) (i_1:Int)=>([(1,.ptr 3 0),(3,.agg [oL 25 zf o0_Sets,oL 3 zc o0_Owner,oL 40 zg o0_Follow_1,oL 4 zw o0_Ends_1,oL 40 zg o0_Starts]),(22,.ptr 44 0),(28,vi ((↑(List.length (zl.Sets a)):Int))),(31,vL zc last),(44,zq r0_1),(46,vi i_1)]:Sta)) q.1 q.2) (fun (q:List Bool×Int)=>Inv67 q.1 q.2) (fun (q:List Bool×Int)=>mu68 q.1 q.2) (o0_Ends,0) [] h0Inv67 ?_
  rintro ⟨o0_Ends_1,i_1⟩ hi
  have h:=hInv67 o0_Ends_1 i_1 hi
  refine qD ?_
  refine sDE kk [] [] [(298,vB (decide (i_1 < (↑(List.length (List.map zc last)):Int))))] [(298,vB (decide (i_1 < (↑(List.length last):Int))))] obN ?_
  refine cD (t:=99) (b:=decide (i_1 < (↑(List.length last):Int))) (fun hb69=>?_) (fun hb69=>?_)
  ·have h:=h.1 hb69
   refine Sem.skip' (by kernel_rfl) Wk.refl ?_
   show Sem _ _ _ _ _
   refine wkD [298] ?_
   refine qD ?_
   refine bD (id:=3) ?_
   obtain ⟨h70,h⟩:=h
   obtain ⟨h71,h⟩:=h
   obtain ⟨h72,h⟩:=h
   obtain ⟨h73,h⟩:=h
   obtain ⟨h74,h⟩:=h
   refine rDE kk [.e (fi (gd last i_1)),.e (fB (gd o0_Ends_1 (gd last i_1)))] [] [(3,.agg [oL 25 zf o0_Sets,oL 3 zc o0_Owner,oL 40 zg o0_Follow_1,.own 4 (List.set (List.map zw o0_Ends_1) ((0:Nat)+Int.toNat (gd last i_1)) (FV.pv (Value.bool true))),oL 40 zg o0_Starts])] [(3,.agg [oL 25 zf o0_Sets,oL 3 zc o0_Owner,oL 40 zg o0_Follow_1,oL 4 zw (List.set o0_Ends_1 (Int.toNat (gd last i_1)) true),oL 40 zg o0_Starts])] (obC h70 (obC (zO zc last i_1 _ rfl h70 h71) (obC h72 (obC (show Int.toNat (gd last i_1) < List.length (List.map zw o0_Ends_1) from by simpa only [nm] using h73) (obC (show (List.map zw o0_Ends_1)[((0:Nat)+Int.toNat (gd last i_1):Nat)]?=some (fB (gd o0_Ends_1 (gd last i_1))) from by have:=zO zw o0_Ends_1 (gd last i_1) _ rfl h72 h74;simpa only [nm,enq,zw] using this) obN))))) ?_
   show Sem _ _ _ _ _
   refine rD kk [] [] [(46,vi (w64 (i_1+1)))] obN ?_
   exact lD ((List.set o0_Ends_1 (Int.toNat (gd last i_1)) true),(w64 (i_1+1))) [] h
  ·have h:=h.2 hb69
   refine xD (i:=2) ?_
   show Sem _ _ _ _ _
   refine wkD [1,31,46,298] ?_
   obtain ⟨r0_15,hc75,h⟩:=h
   refine sD kk [.c (oL 3 zc r0_15) []] [22,28,44] [(19,oL 3 zc r0_15)] (obC hc75 obN) ?_
   refine tD ?_
   obtain ⟨he0,he1⟩:=h
   subst res fin
   exact (endD [] (oL 3 zc r0_15) [.agg [oL 25 zf o0_Sets,oL 3 zc o0_Owner,oL 40 zg o0_Follow_1,oL 4 zw o0_Ends_1,oL 40 zg o0_Starts]]).1
 ·refine sD kk [] [] [(115,vB (ze.Kind (zj.Trail r0) != (0:Int)))] obN ?_
  refine cD (t:=38) (b:=ze.Kind (zj.Trail r0) != (0:Int)) (fun hb76=>?_) (fun hb76=>?_)
  ·have h:=h.1 hb76
   obtain ⟨r0_16,r0_17,hc77,h⟩:=h
   refine sD kk [.c (.tup [zq r0_16,vi r0_17]) []] [13,26,115] [(34,.ptr 68 0),(68,zq r0_16)] (obC hc77 obN) ?_
   refine sDE kk [] [] [(40,vi ((↑(List.length (List.map zf (zl.Sets o))):Int)))] [(40,vi ((↑(List.length (zl.Sets o)):Int)))] obN ?_
   obtain ⟨o_2,hc78,h⟩:=h
   refine sD kk [.c (.tup []) [zaH o_2]] [7] [(3,zaH o_2)] (obC hc78 obN) ?_
   refine qD ?_
   refine sD kk [] [] [(43,vi 0)] obN ?_
   refine bD (id:=0) ?_
   obtain ⟨Inv107,mu108,h0Inv107,hInv107⟩:=h
   refine loD (fun (q:List (List Int)×Int)=>(fun (o0_Follow_2:List (List Int)) (i_2:Int)=>([(1,.ptr 3 0),(3,.agg [oL 25 zf (zl.Sets o_2),oL 3 zc (zl.Owner o_2),oL 40 zg o0_Follow_2,oL 4 zw (zl.Ends o_2),oL 40 zg (zl.Starts o_2)]),(22,.ptr 44 0),(28,vi ((↑(List.length (zl.Sets a)):Int))),(31,oL 3 zc r0_3),(34,.ptr 68 0),(40,vi ((↑(List.length (zl.Sets o)):Int))),(43,vi i_2),(44,zq r0_1),(68,zq r0_16)]:Sta)) q.1 q.2) (fun (q:List (List Int)×Int)=>Inv107 q.1 q.2) (fun (q:List (List Int)×Int)=>mu108 q.1 q.2) ((zl.Follow o_2),0) [] h0Inv107 ?_
   rintro ⟨o0_Follow_2,i_2⟩ hi
   have h:=hInv107 o0_Follow_2 i_2 hi
   refine qD ?_
   refine sDE kk [] [] [(172,vB (decide (i_2 < (↑(List.length (List.map zc r0_3)):Int))))] [(172,vB (decide (i_2 < (↑(List.length r0_3):Int))))] obN ?_
   refine cD (t:=57) (b:=decide (i_2 < (↑(List.length r0_3):Int))) (fun hb109=>?_) (fun hb109=>?_)
   ·have h:=h.1 hb109
    refine Sem.skip' (by kernel_rfl) Wk.refl ?_
    show Sem _ _ _ _ _
    refine wkD [172] ?_
    refine qD ?_
    refine bD (id:=1) ?_
    obtain ⟨h110,h⟩:=h
    obtain ⟨h111,h⟩:=h
    obtain ⟨h112,h⟩:=h
    obtain ⟨h113,h⟩:=h
    obtain ⟨h114,h⟩:=h
    obtain ⟨h115,h⟩:=h
    obtain ⟨h116,h⟩:=h
    obtain ⟨h117,h⟩:=h
    obtain ⟨h118,h⟩:=h
    obtain ⟨r0_22,hc119,h⟩:=h
    obtain ⟨r0_23,hc120,h⟩:=h
    obtain ⟨h121,h⟩:=h
    obtain ⟨h122,h⟩:=h
    obtain ⟨h123,h⟩:=h
    refine rDE kk [.e (fi (gd r0_3 i_2)),.e (fi (gd r0_3 i_2)),.e (fL zc (gd o0_Follow_2 (gd r0_3 i_2))),.c (oL 3 zc r0_22) [],.c (vL zc r0_23) [],.e (fL zc (gd o0_Follow_2 (gd r0_3 i_2)))] [] [(3,.agg [oL 25 zf (zl.Sets o_2),oL 3 zc (zl.Owner o_2),.own 40 (List.set (List.map zg o0_Follow_2) ((0:Nat)+Int.toNat (gd r0_3 i_2)) (FV.sl (List.map zc r0_23))),oL 4 zw (zl.Ends o_2),oL 40 zg (zl.Starts o_2)])] [(3,.agg [oL 25 zf (zl.Sets o_2),oL 3 zc (zl.Owner o_2),oL 40 zg (List.set o0_Follow_2 (Int.toNat (gd r0_3 i_2)) r0_23),oL 4 zw (zl.Ends o_2),oL 40 zg (zl.Starts o_2)])] (obC h110 (obC (show Int.toNat i_2 < List.length (List.map zc r0_3) from by simpa only [nm] using h111) (obC (show (List.map zc r0_3)[((0:Nat)+Int.toNat i_2:Nat)]?=some (fi (gd r0_3 i_2)) from by have:=zO zc r0_3 i_2 _ rfl h110 h112;simpa only [nm,enq,zc] using this) (obC h113 (obC (show Int.toNat i_2 < List.length (List.map zc r0_3) from by simpa only [nm] using h114) (obC (show (List.map zc r0_3)[((0:Nat)+Int.toNat i_2:Nat)]?=some (fi (gd r0_3 i_2)) from by have:=zO zc r0_3 i_2 _ rfl h113 h115;simpa only [nm,enq,zc] using this) (obC h116 (obC (show Int.toNat (gd r0_3 i_2) < List.length (List.map zg o0_Follow_2) from by simpa only [nm] using h117) (obC (show (List.map zg o0_Follow_2)[((0:Nat)+Int.toNat (gd r0_3 i_2):Nat)]?=some (fL zc (gd o0_Follow_2 (gd r0_3 i_2))) from by have:=zO zg o0_Follow_2 (gd r0_3 i_2) _ rfl h116 h118;simpa only [nm,enq,zg] using this) (obC hc119 (obC (Eq.mp (by unfold zF;(try simp only [List.drop_zero,List.take_length]);first | done | simp only [nm,enq]:zF (gd o0_Follow_2 (gd r0_3 i_2)) r0_22 r0_23=CallE Tryz.prog 47 [vL zc (gd o0_Follow_2 (gd r0_3 i_2)),.f (FV.sl (List.take (List.length (List.map zc r0_22)) (List.drop (0:Nat) (List.map zc r0_22))))] [] (vL zc r0_23) []) hc120) (obC h121 (obC (show Int.toNat (gd r0_3 i_2) < List.length (List.map zg o0_Follow_2) from by simpa only [nm] using h122) (obC (show (List.map zg o0_Follow_2)[((0:Nat)+Int.toNat (gd r0_3 i_2):Nat)]?=some (fL zc (gd o0_Follow_2 (gd r0_3 i_2))) from by have:=zO zg o0_Follow_2 (gd r0_3 i_2) _ rfl h121 h123;simpa only [nm,enq,zg] using this) obN)))))))))))))) ?_
    show Sem _ _ _ _ _
    refine rD kk [] [] [(43,vi (w64 (i_2+1)))] obN ?_
    exact lD ((List.set o0_Follow_2 (Int.toNat (gd r0_3 i_2)) r0_23),(w64 (i_2+1))) [] h
   ·have h:=h.2 hb109
    refine xD (i:=0) ?_
    show Sem _ _ _ _ _
    refine wkD [43,172] ?_
    refine sD kk [] [] [(256,vB (za.Null r0_16))] obN ?_
    refine cD (t:=85) (b:=za.Null r0_16) (fun hb124=>?_) (fun hb124=>?_)
    ·have h:=h.1 hb124
     obtain ⟨r0_24,hc125,h⟩:=h
     obtain ⟨r0_25,hc126,h⟩:=h
     refine rD kk [.c (oL 3 zc r0_24) [],.c (vL zc r0_25) []] [34,40,68,256] [(31,vL zc r0_25)] (obC hc125 (obC (Eq.mp (by unfold zF;(try simp only [List.drop_zero,List.take_length]);first | done | simp only [nm,enq]:zF r0_3 r0_24 r0_25=CallE Tryz.prog 47 [.f (FV.sl (List.take (List.length (List.map zc r0_3)) (List.drop (0:Nat) (List.map zc r0_3)))),.f (FV.sl (List.take (List.length (List.map zc r0_24)) (List.drop (0:Nat) (List.map zc r0_24))))] [] (vL zc r0_25) []) hc126) obN)) ?_
     exact jD ((zl.Sets o_2),(zl.Owner o_2),o0_Follow_2,(zl.Ends o_2),(zl.Starts o_2),r0_25) [] h
    ·have h:=h.2 hb124
     obtain ⟨r0_26,hc127,h⟩:=h
     refine rD kk [.c (oL 3 zc r0_26) []] [34,40,68,256] [(31,oL 3 zc r0_26)] (obC hc127 obN) ?_
     exact jD ((zl.Sets o_2),(zl.Owner o_2),o0_Follow_2,(zl.Ends o_2),(zl.Starts o_2),r0_26) [(31,0)] h
  ·have h:=h.2 hb76
   refine Sem.skip' (by kernel_rfl) Wk.refl ?_
   exact jD ((zl.Sets o),(zl.Owner o),(zl.Follow o),(zl.Ends o),(zl.Starts o),r0_3) [(31,0)] h
end Go.Ev
set_option linter.unusedSimpArgs false
set_option linter.unusedVariables false
namespace Go.Ev
open Go Go.Proofs
set_option maxRecDepth 8000
set_option maxHeartbeats 1000000 in
theorem zd6 (s0:zh) (rule0:Int) (cond:Int) (res:Bool)
 (h:(((decide (rule0 < (0:Int)) || (decide (rule0≥(↑(List.length (List.map zy (zh.Rules s0))):Int)) || (decide (cond < (0:Int)) || decide (cond≥(↑(List.length (zh.Conds s0)):Int)))))=true→(res=false))∧((decide (rule0 < (0:Int)) || (decide (rule0≥(↑(List.length (List.map zy (zh.Rules s0))):Int)) || (decide (cond < (0:Int)) || decide (cond≥(↑(List.length (zh.Conds s0)):Int)))))=false→((0:Int)≤rule0)∧rule0 < ↑(List.length (zh.Rules s0))∧(((zj.All (gd (zh.Rules s0) rule0))=true→(res=true))∧((zj.All (gd (zh.Rules s0) rule0))=false→(∃ (Inv14:Int→Prop) (mu15:Int→Nat),Inv14 0∧(∀ (i:Int),Inv14 i→(((decide (i < (↑(List.length (zj.Conds (gd (zh.Rules s0) rule0))):Int)))=true→((0:Int)≤i)∧i < ↑(List.length (zj.Conds (gd (zh.Rules s0) rule0)))∧(((gd (zj.Conds (gd (zh.Rules s0) rule0)) i == cond)=true→(res=true))∧((gd (zj.Conds (gd (zh.Rules s0) rule0)) i == cond)=false→(Inv14 (w64 (i+1))∧mu15 (w64 (i+1)) < mu15 i))))∧((decide (i < (↑(List.length (zj.Conds (gd (zh.Rules s0) rule0))):Int)))=false→(((↑(List.length (List.map zc (zj.Conds (gd (zh.Rules s0) rule0)))):Int) == 0)=true→((0:Int)≤cond))∧(((↑(List.length (List.map zc (zj.Conds (gd (zh.Rules s0) rule0)))):Int) == 0)=true→cond < ↑(List.length (zh.Conds s0)))∧(res=((↑(List.length (zj.Conds (gd (zh.Rules s0) rule0))):Int) == 0 && !zJ.Exclusive (gd (zh.Conds s0) cond)))))))))))):zaX s0 rule0 cond res:=by
 unfold zaX
 have kk:=cfOk [] 63
 refine fD (x:=bodyOf Tryz.f46) kk Tryz.func46 ?_
 refine wkS [1,4,7] [(1,zG s0),(4,vi rule0),(7,vi cond)] (by kernel_rfl) ?_
 refine sD kk [] [1] [(10,.ptr 20 0),(20,zG s0)] obN ?_
 refine qD ?_
 refine sM [] [(85,vB (decide (rule0 < (0:Int)) || (decide (rule0≥(↑(List.length (List.map zy (zh.Rules s0))):Int)) || (decide (cond < (0:Int)) || decide (cond≥(↑(List.length (zh.Conds s0)):Int))))))] ?_ (fun hk0=>?_)
 ·refine cD (t:=28) (b:=decide (rule0 < (0:Int)) || (decide (rule0≥(↑(List.length (List.map zy (zh.Rules s0))):Int)) || (decide (cond < (0:Int)) || decide (cond≥(↑(List.length (zh.Conds s0)):Int))))) (fun hb3=>?_) (fun hb3=>?_)
  ·have h:=h.1 hb3
   refine sD kk [] [4,7,10,20,85] [(19,vB false)] obN ?_
   refine tD ?_
   obtain he0:=h
   subst res
   exact (endD [] (vB false) []).1
  ·have h:=h.2 hb3
   refine Sem.skip' (by kernel_rfl) Wk.refl ?_
   show Sem _ _ _ _ _
   refine wkD [85] ?_
   obtain ⟨h4,h⟩:=h
   obtain ⟨h5,h⟩:=h
   refine sD kk [.e (zbd (gd (zh.Rules s0) rule0))] [4] [(22,.ptr 44 0),(44,zak (gd (zh.Rules s0) rule0))] (obC h4 (obC (zO zy (zh.Rules s0) rule0 _ (zau _) h4 h5) obN)) ?_
   refine qD ?_
   refine sD kk [] [] [(106,vB (zj.All (gd (zh.Rules s0) rule0)))] obN ?_
   refine cD (t:=35) (b:=zj.All (gd (zh.Rules s0) rule0)) (fun hb6=>?_) (fun hb6=>?_)
   ·have h:=h.1 hb6
    refine sD kk [] [7,10,20,22,44,106] [(19,vB true)] obN ?_
    refine tD ?_
    obtain he0:=h
    subst res
    exact (endD [] (vB true) []).1
   ·have h:=h.2 hb6
    refine Sem.skip' (by kernel_rfl) Wk.refl ?_
    show Sem _ _ _ _ _
    refine wkD [106] ?_
    refine qD ?_
    refine sD kk [] [] [(25,vi 0)] obN ?_
    refine bD (id:=0) ?_
    obtain ⟨Inv14,mu15,h0Inv14,hInv14⟩:=h
    refine loD (fun (q:Int)=>(fun (i:Int)=>([(7,vi cond),(10,.ptr 20 0),(20,zG s0),(22,.ptr 44 0),(25,vi i),(44,zak (gd (zh.Rules s0) rule0))]:Sta)) q) (fun (q:Int)=>Inv14 q) (fun (q:Int)=>mu15 q) 0 [] h0Inv14 ?_
    rintro i hi
    have h:=hInv14 i hi
    refine qD ?_
    refine sDE kk [] [] [(121,vB (decide (i < (↑(List.length (List.map zc (zj.Conds (gd (zh.Rules s0) rule0)))):Int))))] [(121,vB (decide (i < (↑(List.length (zj.Conds (gd (zh.Rules s0) rule0))):Int))))] obN ?_
    refine cD (t:=40) (b:=decide (i < (↑(List.length (zj.Conds (gd (zh.Rules s0) rule0))):Int))) (fun hb16=>?_) (fun hb16=>?_)
    ·have h:=h.1 hb16
     refine Sem.skip' (by kernel_rfl) Wk.refl ?_
     show Sem _ _ _ _ _
     refine wkD [121] ?_
     refine qD ?_
     refine bD (id:=1) ?_
     obtain ⟨h17,h⟩:=h
     obtain ⟨h18,h⟩:=h
     refine sD kk [.e (fi (gd (zj.Conds (gd (zh.Rules s0) rule0)) i))] [] [(148,vB (gd (zj.Conds (gd (zh.Rules s0) rule0)) i == cond))] (obC h17 (obC (zO zc (zj.Conds (gd (zh.Rules s0) rule0)) i _ rfl h17 h18) obN)) ?_
     refine cD (t:=49) (b:=gd (zj.Conds (gd (zh.Rules s0) rule0)) i == cond) (fun hb19=>?_) (fun hb19=>?_)
     ·have h:=h.1 hb19
      refine sD kk [] [7,10,20,22,25,44,148] [(19,vB true)] obN ?_
      refine tD ?_
      obtain he0:=h
      subst res
      exact (endD [] (vB true) []).1
     ·have h:=h.2 hb19
      refine Sem.skip' (by kernel_rfl) Wk.refl ?_
      show Sem _ _ _ _ _
      refine wkD [148] ?_
      refine rD kk [] [] [(25,vi (w64 (i+1)))] obN ?_
      exact lD (w64 (i+1)) [] h
    ·have h:=h.2 hb16
     refine xD (i:=0) ?_
     show Sem _ _ _ _ _
     refine wkD [25,121] ?_
     obtain ⟨h21,h22,h⟩:=h
     refine sM [7,10,20,22,44] [(19,vB ((↑(List.length (List.map zc (zj.Conds (gd (zh.Rules s0) rule0)))):Int) == 0 && !zJ.Exclusive (gd (zh.Conds s0) cond)))] ?_ (fun hk0=>?_)
     ·refine tD ?_
      obtain he0:=h
      subst res
      exact (endD [] (vB ((↑(List.length (List.map zc (zj.Conds (gd (zh.Rules s0) rule0)))):Int) == 0 && !zJ.Exclusive (gd (zh.Conds s0) cond))) []).1
     ·rcases Bool.eq_false_or_eq_true ((↑(List.length (List.map zc (zj.Conds (gd (zh.Rules s0) rule0)))):Int) == 0) with hb20 | hb20
      ·refine sD kk [bT,bT,bT,bT,.e (zaG (gd (zh.Conds s0) cond)),bT,bT,bT,bT] [7,10,20,22,44] [(19,vB (!zJ.Exclusive (gd (zh.Conds s0) cond)))] (obC (gtt hb20) (obC (gtt hb20) (obC (gtt hb20) (obC (gtt hb20) (obC (h21 hb20) (obC (zO zx (zh.Conds s0) cond _ (zaa _) (h21 hb20) (h22 hb20)) (obC (gtt hb20) (obC (gtt hb20) (obC (gtt hb20) (obC hb20 obN)))))))))) ?_
       exact Sem.cast (by try rw [hb20];kernel_rfl) hk0
      ·refine sD kk [bF,bF,bF,bF,bF,bF,bF,bF] [7,10,20,22,44] [(19,vB false)] (obC (gtf hb20) (obC (gtf hb20) (obC (gtf hb20) (obC (gtf hb20) (obC (gtf hb20) (obC (gtf hb20) (obC (gtf hb20) (obC hb20 obN)))))))) ?_
       exact Sem.cast (by try rw [hb20];kernel_rfl) hk0
 ·rcases Bool.eq_false_or_eq_true (decide (rule0 < (0:Int))) with hb0 | hb0
  ·refine sD kk [bF,bF,bF,bF,bF,bT,bF,bF,bT,bF,bF,bF,bF,bF,bT] [] [(85,vB true)] (obC (gff hb0) (obC (gff hb0) (obC (gff hb0) (obC (gff hb0) (obC (gff hb0) (obC hb0 (oF (oF (oT (oF (oF (oF (oF (oF (oT obN))))))))))))))) ?_
   exact Sem.cast (by try rw [hb0];kernel_rfl) hk0
  ·rcases Bool.eq_false_or_eq_true (decide (rule0≥(↑(List.length (List.map zy (zh.Rules s0))):Int))) with hb1 | hb1
   ·refine sD kk [bT,bT,bT,bT,bT,bF,bF,bF,bT,bF,bF,bF,bF,bF,bT] [] [(85,vB true)] (obC (gft hb0) (obC (gft hb0) (obC (gft hb0) (obC (gft hb0) (obC (gft hb0) (obC hb0 (obC (gff hb1) (obC (gff hb1) (obC hb1 (oF (oF (oF (oF (oF (oT obN))))))))))))))) ?_
    exact Sem.cast (by try rw [hb0];try rw [hb1];kernel_rfl) hk0
   ·rcases Bool.eq_false_or_eq_true (decide (cond < (0:Int))) with hb2 | hb2
    ·refine sD kk [bT,bT,bT,bT,bT,bF,bT,bT,bF,bF,bF,bF,bF,bF,bT] [] [(85,vB true)] (obC (gft hb0) (obC (gft hb0) (obC (gft hb0) (obC (gft hb0) (obC (gft hb0) (obC hb0 (obC (gft hb1) (obC (gft hb1) (obC hb1 (obC (gff hb2) (obC (gff hb2) (obC (gff hb2) (obC (gff hb2) (obC (gff hb2) (obC hb2 obN))))))))))))))) ?_
     exact Sem.cast (by try rw [hb0];try rw [hb1];try rw [hb2];kernel_rfl) hk0
    ·refine sDE kk [bT,bT,bT,bT,bT,bF,bT,bT,bF,bT,bT,bT,bT,bT,bF] [] [(85,vB (decide (cond≥(↑(List.length (List.map zx (zh.Conds s0))):Int))))] [(85,vB (decide (cond≥(↑(List.length (zh.Conds s0)):Int))))] (obC (gft hb0) (obC (gft hb0) (obC (gft hb0) (obC (gft hb0) (obC (gft hb0) (obC hb0 (obC (gft hb1) (obC (gft hb1) (obC hb1 (obC (gft hb2) (obC (gft hb2) (obC (gft hb2) (obC (gft hb2) (obC (gft hb2) (obC hb2 obN))))))))))))))) ?_
     exact Sem.cast (by try rw [hb0];try rw [hb1];try rw [hb2];kernel_rfl) hk0
set_option maxHeartbeats 1000000 in
theorem zeA (s0:zh) (res:zl) (res_1:Int)
 (h:(∃ r0:Bool,za5 s0 r0∧(((!r0)=true→(res=({ Sets:=[],Owner:=[],Follow:=[],Ends:=[],Starts:=[] })∧res_1=1))∧((!r0)=false→(∃ (Inv27:List zb→List Int→List (List Int)→List Bool→List (List Int)→List (List Int)→Int→Prop) (mu28:List zb→List Int→List (List Int)→List Bool→List (List Int)→List (List Int)→Int→Nat),Inv27 ([]) ([]) ([]) ([]) ([]) ([]) 0∧(∀ (a_Sets_1:List zb) (a_Owner_1:List Int) (a_Follow_1:List (List Int)) (a_Ends_1:List Bool) (a_Starts_1:List (List Int)) (begins:List (List Int)) (i:Int),Inv27 a_Sets_1 a_Owner_1 a_Follow_1 a_Ends_1 a_Starts_1 begins i→(((decide (i < (↑(List.length (zh.Rules s0)):Int)))=true→(∃ J36:List zb→List Int→List (List Int)→List Bool→List (List Int)→List Int→Prop,(∀ (a_Sets_3:List zb) (a_Owner_3:List Int) (a_Follow_3:List (List Int)) (a_Ends_3:List Bool) (a_Starts_3:List (List Int)) (first_2:List Int),J36 a_Sets_3 a_Owner_3 a_Follow_3 a_Ends_3 a_Starts_3 first_2→((List.length begins+(1:Nat)) * (24:Nat)≤(2:Nat) ^ (47:Nat))∧(Inv27 a_Sets_3 a_Owner_3 a_Follow_3 a_Ends_3 a_Starts_3 (begins++[first_2]) (w64 (i+1))∧mu28 a_Sets_3 a_Owner_3 a_Follow_3 a_Ends_3 a_Starts_3 (begins++[first_2]) (w64 (i+1)) < mu28 a_Sets_1 a_Owner_1 a_Follow_1 a_Ends_1 a_Starts_1 begins i))∧((0:Int)≤i)∧i < ↑(List.length (zh.Rules s0))∧(((!zj.Eof (gd (zh.Rules s0) i))=true→((0:Int)≤i)∧i < ↑(List.length (zh.Rules s0))∧(∃ r0_6:List Int,∃ o_5:zl,zbH (gd (zh.Rules s0) i) i ({ Sets:=a_Sets_1,Owner:=a_Owner_1,Follow:=a_Follow_1,Ends:=a_Ends_1,Starts:=a_Starts_1 }) r0_6 o_5∧J36 (zl.Sets o_5) (zl.Owner o_5) (zl.Follow o_5) (zl.Ends o_5) (zl.Starts o_5) r0_6))∧((!zj.Eof (gd (zh.Rules s0) i))=false→J36 a_Sets_1 a_Owner_1 a_Follow_1 a_Ends_1 a_Starts_1 ([])))))∧((decide (i < (↑(List.length (zh.Rules s0)):Int)))=false→(((decide ((↑(List.length a_Sets_1):Int) > (600:Int)))=true→(res=({ Sets:=[],Owner:=[],Follow:=[],Ends:=[],Starts:=[] })∧res_1=2))∧((decide ((↑(List.length a_Sets_1):Int) > (600:Int)))=false→(∃ (Inv171:List (List Int)→Int→Prop) (mu172:List (List Int)→Int→Nat),Inv171 a_Starts_1 0∧(∀ (a_Starts_4:List (List Int)) (c0:Int),Inv171 a_Starts_4 c0→(((decide (c0 < w64 ((2:Int) * (↑(List.length (zh.Conds s0)):Int))))=true→(∃ (Inv214:List Int→Int→Prop) (mu215:List Int→Int→Nat),Inv214 ([]) 0∧(∀ (start_9:List Int) (i_3:Int),Inv214 start_9 i_3→(((decide (i_3 < (↑(List.length (zh.Rules s0)):Int)))=true→(∃ J227:List Int→Prop,(∀ (start_11:List Int),J227 start_11→(Inv214 start_11 (w64 (i_3+1))∧mu215 start_11 (w64 (i_3+1)) < mu215 start_9 i_3))∧(∃ r0_41:Bool,zaX s0 i_3 (w64 (Int.tdiv c0 (2:Int))) r0_41∧((r0_41)=true→((Int.tmod c0 (2:Int) == 1)=false→((0:Int)≤i_3)))∧((r0_41)=true→((Int.tmod c0 (2:Int) == 1)=false→i_3 < ↑(List.length (zh.Rules s0))))∧(((r0_41 && (Int.tmod c0 (2:Int) == 1 || !zj.Bol (gd (zh.Rules s0) i_3)))=true→((0:Int)≤i_3)∧(Int.toNat i_3 < List.length begins)∧i_3 < ↑(List.length begins)∧(∃ r0_42:List Int,zF start_9 (gd begins i_3) r0_42∧J227 r0_42))∧((r0_41 && (Int.tmod c0 (2:Int) == 1 || !zj.Bol (gd (zh.Rules s0) i_3)))=false→J227 start_9)))))∧((decide (i_3 < (↑(List.length (zh.Rules s0)):Int)))=false→((List.length a_Starts_4+(1:Nat)) * (24:Nat)≤(2:Nat) ^ (47:Nat))∧(Inv171 (a_Starts_4++[start_9]) (w64 (c0+1))∧mu172 (a_Starts_4++[start_9]) (w64 (c0+1)) < mu172 a_Starts_4 c0))))))∧((decide (c0 < w64 ((2:Int) * (↑(List.length (zh.Conds s0)):Int))))=false→(res=({ Sets:=a_Sets_1,Owner:=a_Owner_1,Follow:=a_Follow_1,Ends:=a_Ends_1,Starts:=a_Starts_4 })∧res_1=0))))))))))))))):zbr s0 res res_1:=by
 unfold zbr
 have kk:=cfOk [91] 92
 refine fD (x:=bodyOf Tryz.f16) kk Tryz.func16 ?_
 refine wkS [1] [(1,zG s0)] (by kernel_rfl) ?_
 refine sDE kk [] [1] [(4,.ptr 8 0),(7,.ptr 14 0),(8,zG s0),(14,.agg [.own 25 ([]),.own 3 ([]),.own 40 ([]),.own 4 ([]),.own 40 ([])])] [(4,.ptr 8 0),(7,.ptr 14 0),(8,zG s0),(14,.agg [oL 25 zf ([]),oL 3 zc ([]),oL 40 zg ([]),oL 4 zw ([]),oL 40 zg ([])])] obN ?_
 refine qD ?_
 obtain ⟨r0,hc0,h⟩:=h
 refine sD kk [.c (vB r0) []] [] [(40,vB (!r0))] (obC hc0 obN) ?_
 refine cD (t:=13) (b:=!r0) (fun hb1=>?_) (fun hb1=>?_)
 ·have h:=h.1 hb1
  refine sDE kk [] [4,8,40] [(10,vi 1),(14,.agg [.own 25 ([]),.own 3 ([]),.own 40 ([]),.own 4 ([]),.own 40 ([])])] [(10,vi 1),(14,.agg [oL 25 zf ([]),oL 3 zc ([]),oL 40 zg ([]),oL 4 zw ([]),oL 40 zg ([])])] obN ?_
  refine tD ?_
  obtain ⟨he0,he1⟩:=h
  subst res res_1
  exact (endD [] (.tup [.agg [.f (FV.sl (List.take (List.length (List.map zf [])) (List.drop (0:Nat) (List.map zf [])))),.f (FV.sl (List.take (List.length (List.map zc [])) (List.drop (0:Nat) (List.map zc [])))),.f (FV.sl (List.take (List.length (List.map zg [])) (List.drop (0:Nat) (List.map zg [])))),.f (FV.sl (List.take (List.length (List.map zw [])) (List.drop (0:Nat) (List.map zw [])))),.f (FV.sl (List.take (List.length (List.map zg [])) (List.drop (0:Nat) (List.map zg []))))],vi 1]) []).1
 ·have h:=h.2 hb1
  refine Sem.skip' (by kernel_rfl) Wk.refl ?_
  show Sem _ _ _ _ _
  refine wkD [40] ?_
  refine sDE kk [] [] [(13,.ptr 26 0),(26,.agg [.own 25 ([]),.own 3 ([]),.own 40 ([]),.own 4 ([]),.own 40 ([])])] [(13,.ptr 26 0),(26,.agg [oL 25 zf ([]),oL 3 zc ([]),oL 40 zg ([]),oL 4 zw ([]),oL 40 zg ([])])] obN ?_
  refine sDE kk [] [] [(16,.own 40 ([]))] [(16,oL 40 zg ([]))] obN ?_
  refine qD ?_
  refine sD kk [] [] [(19,vi 0)] obN ?_
  refine bD (id:=0) ?_
  obtain ⟨Inv27,mu28,h0Inv27,hInv27⟩:=h
  refine loD (fun (q:List zb×List Int×List (List Int)×List Bool×List (List Int)×List (List Int)×Int)=>(fun (a_Sets_1:List zb) (a_Owner_1:List Int) (a_Follow_1:List (List Int)) (a_Ends_1:List Bool) (a_Starts_1:List (List Int)) (begins:List (List Int)) (i:Int)=>([(4,.ptr 8 0),(7,.ptr 14 0),(8,zG s0),(13,.ptr 26 0),(14,.agg [oL 25 zf ([]),oL 3 zc ([]),oL 40 zg ([]),oL 4 zw ([]),oL 40 zg ([])]),(16,oL 40 zg begins),(19,vi i),(26,.agg [oL 25 zf a_Sets_1,oL 3 zc a_Owner_1,oL 40 zg a_Follow_1,oL 4 zw a_Ends_1,oL 40 zg a_Starts_1])]:Sta)) q.1 q.2.1 q.2.2.1 q.2.2.2.1 q.2.2.2.2.1 q.2.2.2.2.2.1 q.2.2.2.2.2.2) (fun (q:List zb×List Int×List (List Int)×List Bool×List (List Int)×List (List Int)×Int)=>Inv27 q.1 q.2.1 q.2.2.1 q.2.2.2.1 q.2.2.2.2.1 q.2.2.2.2.2.1 q.2.2.2.2.2.2) (fun (q:List zb×List Int×List (List Int)×List Bool×List (List Int)×List (List Int)×Int)=>mu28 q.1 q.2.1 q.2.2.1 q.2.2.2.1 q.2.2.2.2.1 q.2.2.2.2.2.1 q.2.2.2.2.2.2) (([]),([]),([]),([]),([]),([]),0) [] h0Inv27 ?_
  rintro ⟨a_Sets_1,a_Owner_1,a_Follow_1,a_Ends_1,a_Starts_1,begins,i⟩ hi
  have h:=hInv27 a_Sets_1 a_Owner_1 a_Follow_1 a_Ends_1 a_Starts_1 begins i hi
  refine qD ?_
  refine sDE kk [] [] [(58,vB (decide (i < (↑(List.length (List.map zy (zh.Rules s0))):Int))))] [(58,vB (decide (i < (↑(List.length (zh.Rules s0)):Int))))] obN ?_
  refine cD (t:=19) (b:=decide (i < (↑(List.length (zh.Rules s0)):Int))) (fun hb29=>?_) (fun hb29=>?_)
  ·have h:=h.1 hb29
   refine Sem.skip' (by kernel_rfl) Wk.refl ?_
   show Sem _ _ _ _ _
   refine wkD [58] ?_
   refine qD ?_
   refine bD (id:=1) ?_
   refine sDE kk [] [] [(22,.own 3 ([]))] [(22,oL 3 zc ([]))] obN ?_
   obtain ⟨J36,hJ36,h⟩:=h
   refine sjD (fun (q:List zb×List Int×List (List Int)×List Bool×List (List Int)×List Int)=>J36 q.1 q.2.1 q.2.2.1 q.2.2.2.1 q.2.2.2.2.1 q.2.2.2.2.2) (fun (q:List zb×List Int×List (List Int)×List Bool×List (List Int)×List Int)=>(fun (a_Sets_3:List zb) (a_Owner_3:List Int) (a_Follow_3:List (List Int)) (a_Ends_3:List Bool) (a_Starts_3:List (List Int)) (first_2:List Int)=>([(4,.ptr 8 0),(7,.ptr 14 0),(8,zG s0),(13,.ptr 26 0),(14,.agg [oL 25 zf ([]),oL 3 zc ([]),oL 40 zg ([]),oL 4 zw ([]),oL 40 zg ([])]),(16,oL 40 zg begins),(19,vi i),(22,oL 3 zc first_2),(26,.agg [oL 25 zf a_Sets_3,oL 3 zc a_Owner_3,oL 40 zg a_Follow_3,oL 4 zw a_Ends_3,oL 40 zg a_Starts_3])]:Sta)) q.1 q.2.1 q.2.2.1 q.2.2.2.1 q.2.2.2.2.1 q.2.2.2.2.2) ?_ ?_
   ·rintro ⟨a_Sets_3,a_Owner_3,a_Follow_3,a_Ends_3,a_Starts_3,first_2⟩ hj
    have h:=hJ36 a_Sets_3 a_Owner_3 a_Follow_3 a_Ends_3 a_Starts_3 first_2 hj
    obtain ⟨h37,h⟩:=h
    refine rDE kk [] [22] [(16,.own 40 (List.map zg begins++List.take (List.length [FV.sl (List.take (List.length (List.map zc first_2)) (List.drop (0:Nat) (List.map zc first_2)))]) (List.drop (0:Nat) [FV.sl (List.take (List.length (List.map zc first_2)) (List.drop (0:Nat) (List.map zc first_2)))])))] [(16,oL 40 zg (begins++[first_2]))] (obC (show (0:Nat)=(0:Nat)∧List.length (List.map zg begins)=List.length (List.map zg begins) from ⟨rfl,rfl⟩) (obC (show (List.length (List.map zg begins)+List.length (List.take (1:Nat) (List.drop (0:Nat) [FV.sl (List.take (List.length (List.map zc first_2)) (List.drop (0:Nat) (List.map zc first_2)))]))) * (24:Nat)≤(2:Nat) ^ (47:Nat) from by simpa only [nm] using h37) (obC (show List.all (List.take (1:Nat) (List.drop (0:Nat) [FV.sl (List.take (List.length (List.map zc first_2)) (List.drop (0:Nat) (List.map zc first_2)))])) (FV.fits (1:Nat))=true from by first | exact zaY _ | exact keysenc_i64 _ | rfl | simp [isByteF,FV.fits,FV.size,FV.cells,FV.one,zc]) obN))) ?_
    show Sem _ _ _ _ _
    refine rD kk [] [] [(19,vi (w64 (i+1)))] obN ?_
    exact lD (a_Sets_3,a_Owner_3,a_Follow_3,a_Ends_3,a_Starts_3,(begins++[first_2]),(w64 (i+1))) [] h
   ·obtain ⟨h38,h⟩:=h
    obtain ⟨h39,h⟩:=h
    refine sD kk [.e (zbd (gd (zh.Rules s0) i))] [] [(85,vB (!zj.Eof (gd (zh.Rules s0) i)))] (obC h38 (obC (zO zy (zh.Rules s0) i _ (zau _) h38 h39) obN)) ?_
    refine cD (t:=28) (b:=!zj.Eof (gd (zh.Rules s0) i)) (fun hb40=>?_) (fun hb40=>?_)
    ·have h:=h.1 hb40
     obtain ⟨h41,h⟩:=h
     obtain ⟨h42,h⟩:=h
     obtain ⟨r0_6,o_5,hc43,h⟩:=h
     refine rD kk [.e (zbd (gd (zh.Rules s0) i)),.c (oL 3 zc r0_6) [zaH o_5]] [85] [(22,oL 3 zc r0_6),(26,zaH o_5)] (obC h41 (obC (zO zy (zh.Rules s0) i _ (zau _) h41 h42) (obC hc43 obN))) ?_
     exact jD ((zl.Sets o_5),(zl.Owner o_5),(zl.Follow o_5),(zl.Ends o_5),(zl.Starts o_5),r0_6) [] h
    ·have h:=h.2 hb40
     refine Sem.skip' (by kernel_rfl) Wk.refl ?_
     exact jD (a_Sets_1,a_Owner_1,a_Follow_1,a_Ends_1,a_Starts_1,([])) [] h
  ·have h:=h.2 hb29
   refine xD (i:=0) ?_
   show Sem _ _ _ _ _
   refine wkD [19,58] ?_
   refine qD ?_
   refine sDE kk [] [] [(130,vB (decide ((↑(List.length (List.map zf a_Sets_1)):Int) > (600:Int))))] [(130,vB (decide ((↑(List.length a_Sets_1):Int) > (600:Int))))] obN ?_
   refine cD (t:=43) (b:=decide ((↑(List.length a_Sets_1):Int) > (600:Int))) (fun hb44=>?_) (fun hb44=>?_)
   ·have h:=h.1 hb44
    refine sDE kk [] [4,8,13,16,26,130] [(10,vi 2),(14,.agg [.own 25 ([]),.own 3 ([]),.own 40 ([]),.own 4 ([]),.own 40 ([])])] [(10,vi 2),(14,.agg [oL 25 zf ([]),oL 3 zc ([]),oL 40 zg ([]),oL 4 zw ([]),oL 40 zg ([])])] obN ?_
    refine tD ?_
    obtain ⟨he0,he1⟩:=h
    subst res res_1
    exact (endD [] (.tup [.agg [.f (FV.sl (List.take (List.length (List.map zf [])) (List.drop (0:Nat) (List.map zf [])))),.f (FV.sl (List.take (List.length (List.map zc [])) (List.drop (0:Nat) (List.map zc [])))),.f (FV.sl (List.take (List.length (List.map zg [])) (List.drop (0:Nat) (List.map zg [])))),.f (FV.sl (List.take (List.length (List.map zw [])) (List.drop (0:Nat) (List.map zw [])))),.f (FV.sl (List.take (List.length (List.map zg [])) (List.drop (0:Nat) (List.map zg []))))],vi 2]) []).1
   ·have h:=h.2 hb44
    refine Sem.skip' (by kernel_rfl) Wk.refl ?_
    show Sem _ _ _ _ _
    refine wkD [130] ?_
    refine qD ?_
    refine sD kk [] [] [(25,vi 0)] obN ?_
    refine bD (id:=2) ?_
    obtain ⟨Inv171,mu172,h0Inv171,hInv171⟩:=h
    refine loD (fun (q:List (List Int)×Int)=>(fun (a_Starts_4:List (List Int)) (c0:Int)=>([(4,.ptr 8 0),(7,.ptr 14 0),(8,zG s0),(13,.ptr 26 0),(14,.agg [oL 25 zf ([]),oL 3 zc ([]),oL 40 zg ([]),oL 4 zw ([]),oL 40 zg ([])]),(16,oL 40 zg begins),(25,vi c0),(26,.agg [oL 25 zf a_Sets_1,oL 3 zc a_Owner_1,oL 40 zg a_Follow_1,oL 4 zw a_Ends_1,oL 40 zg a_Starts_4])]:Sta)) q.1 q.2) (fun (q:List (List Int)×Int)=>Inv171 q.1 q.2) (fun (q:List (List Int)×Int)=>mu172 q.1 q.2) (a_Starts_1,0) [] h0Inv171 ?_
    rintro ⟨a_Starts_4,c0⟩ hi
    have h:=hInv171 a_Starts_4 c0 hi
    refine qD ?_
    refine sDE kk [] [] [(151,vB (decide (c0 < w64 ((2:Int) * (↑(List.length (List.map zx (zh.Conds s0))):Int)))))] [(151,vB (decide (c0 < w64 ((2:Int) * (↑(List.length (zh.Conds s0)):Int)))))] obN ?_
    refine cD (t:=50) (b:=decide (c0 < w64 ((2:Int) * (↑(List.length (zh.Conds s0)):Int)))) (fun hb173=>?_) (fun hb173=>?_)
    ·have h:=h.1 hb173
     refine Sem.skip' (by kernel_rfl) Wk.refl ?_
     show Sem _ _ _ _ _
     refine wkD [151] ?_
     refine qD ?_
     refine bD (id:=3) ?_
     refine sDE kk [] [] [(28,.own 3 ([]))] [(28,oL 3 zc ([]))] obN ?_
     refine qD ?_
     refine sD kk [] [] [(31,vi 0)] obN ?_
     refine bD (id:=4) ?_
     obtain ⟨Inv214,mu215,h0Inv214,hInv214⟩:=h
     refine loD (fun (q:List Int×Int)=>(fun (start_9:List Int) (i_3:Int)=>([(4,.ptr 8 0),(7,.ptr 14 0),(8,zG s0),(13,.ptr 26 0),(14,.agg [oL 25 zf ([]),oL 3 zc ([]),oL 40 zg ([]),oL 4 zw ([]),oL 40 zg ([])]),(16,oL 40 zg begins),(25,vi c0),(26,.agg [oL 25 zf a_Sets_1,oL 3 zc a_Owner_1,oL 40 zg a_Follow_1,oL 4 zw a_Ends_1,oL 40 zg a_Starts_4]),(28,vL zc start_9),(31,vi i_3)]:Sta)) q.1 q.2) (fun (q:List Int×Int)=>Inv214 q.1 q.2) (fun (q:List Int×Int)=>mu215 q.1 q.2) (([]),0) [(28,0)] h0Inv214 ?_
     rintro ⟨start_9,i_3⟩ hi
     have h:=hInv214 start_9 i_3 hi
     refine qD ?_
     refine sDE kk [] [] [(172,vB (decide (i_3 < (↑(List.length (List.map zy (zh.Rules s0))):Int))))] [(172,vB (decide (i_3 < (↑(List.length (zh.Rules s0)):Int))))] obN ?_
     refine cD (t:=57) (b:=decide (i_3 < (↑(List.length (zh.Rules s0)):Int))) (fun hb216=>?_) (fun hb216=>?_)
     ·have h:=h.1 hb216
      refine Sem.skip' (by kernel_rfl) Wk.refl ?_
      show Sem _ _ _ _ _
      refine wkD [172] ?_
      obtain ⟨J227,hJ227,h⟩:=h
      refine sjD (fun (q:List Int)=>J227 q) (fun (q:List Int)=>(fun (start_11:List Int)=>([(4,.ptr 8 0),(7,.ptr 14 0),(8,zG s0),(13,.ptr 26 0),(14,.agg [oL 25 zf ([]),oL 3 zc ([]),oL 40 zg ([]),oL 4 zw ([]),oL 40 zg ([])]),(16,oL 40 zg begins),(25,vi c0),(26,.agg [oL 25 zf a_Sets_1,oL 3 zc a_Owner_1,oL 40 zg a_Follow_1,oL 4 zw a_Ends_1,oL 40 zg a_Starts_4]),(28,vL zc start_11),(31,vi i_3)]:Sta)) q) ?_ ?_
      ·rintro start_11 hj
       have h:=hJ227 start_11 hj
       refine rD kk [] [] [(31,vi (w64 (i_3+1)))] obN ?_
       exact lD (start_11,(w64 (i_3+1))) [] h
      ·refine bD (id:=5) ?_
       obtain ⟨r0_41,hc228,h⟩:=h
       obtain ⟨h231,h232,h⟩:=h
       refine sM [] [(235,vB (r0_41 && (Int.tmod c0 (2:Int) == 1 || !zj.Bol (gd (zh.Rules s0) i_3))))] ?_ (fun hk0=>?_)
       ·refine cD (t:=78) (b:=r0_41 && (Int.tmod c0 (2:Int) == 1 || !zj.Bol (gd (zh.Rules s0) i_3))) (fun hb233=>?_) (fun hb233=>?_)
        ·have h:=h.1 hb233
         obtain ⟨h234,h⟩:=h
         obtain ⟨h235,h⟩:=h
         obtain ⟨h236,h⟩:=h
         obtain ⟨r0_42,hc237,h⟩:=h
         refine rD kk [.e (fL zc (gd begins i_3)),.c (vL zc r0_42) []] [235] [(28,vL zc r0_42)] (obC h234 (obC (show Int.toNat i_3 < List.length (List.map zg begins) from by simpa only [nm] using h235) (obC (show (List.map zg begins)[((0:Nat)+Int.toNat i_3:Nat)]?=some (fL zc (gd begins i_3)) from by have:=zO zg begins i_3 _ rfl h234 h236;simpa only [nm,enq,zg] using this) (obC hc237 obN)))) ?_
         exact jD r0_42 [] h
        ·have h:=h.2 hb233
         refine Sem.skip' (by kernel_rfl) Wk.refl ?_
         exact jD start_9 [] h
       ·rcases Bool.eq_false_or_eq_true (r0_41) with hb229 | hb229
        ·rcases Bool.eq_false_or_eq_true (Int.tmod c0 (2:Int) == 1) with hb230 | hb230
         ·refine sD kk [.c (vB r0_41) [],bT,bT,bT,bT,bF,bF,bF,bF,bF,bF,bF,bT,bT,bT] [] [(235,vB true)] (obC (show (2:Int)≠(0:Int) from by first | decide | rfl | trivial) (obC hc228 (obC (gtt hb229) (obC (gtt hb229) (obC (show (2:Int)≠(0:Int) from by first | decide | rfl | trivial) (obC (gtt hb229) (obC (gtt hb229) (obC (gff hb230) (obC (gff hb230) (obC (gff hb230) (obC (gff hb230) (obC (gff hb230) (obC (gff hb230) (obC (gff hb230) (obC (gtt hb229) (obC hb230 (obC hb229 obN))))))))))))))))) ?_
          exact Sem.cast (by try rw [hb229];try rw [hb230];kernel_rfl) hk0
         ·refine sD kk [.c (vB r0_41) [],bT,bT,bT,bT,bT,bT,bT,bT,.e (zbd (gd (zh.Rules s0) i_3)),bT,bT,bT,bT,bF,bT] [] [(235,vB (!zj.Bol (gd (zh.Rules s0) i_3)))] (obC (show (2:Int)≠(0:Int) from by first | decide | rfl | trivial) (obC hc228 (obC (gtt hb229) (obC (gtt hb229) (obC (show (2:Int)≠(0:Int) from by first | decide | rfl | trivial) (obC (gtt hb229) (obC (gtt hb229) (obC (gft hb230) (obC (gft hb230) (obC (gft hb230) (obC (gft hb230) (obC ((h231 hb229) hb230) (obC (zO zy (zh.Rules s0) i_3 _ (zau _) ((h231 hb229) hb230) ((h232 hb229) hb230)) (obC (gft hb230) (obC (gft hb230) (obC (gft hb230) (obC (gtt hb229) (obC hb230 (obC hb229 obN))))))))))))))))))) ?_
          exact Sem.cast (by try rw [hb229];try rw [hb230];kernel_rfl) hk0
        ·refine sD kk [.c (vB r0_41) [],bF,bF,bF,bF,bF,bF] [] [(235,vB false)] (obC (show (2:Int)≠(0:Int) from by first | decide | rfl | trivial) (obC hc228 (obC (gtf hb229) (obC (gtf hb229) (obC (gtf hb229) (obC (gtf hb229) (obC (gtf hb229) (obC hb229 obN)))))))) ?_
         exact Sem.cast (by try rw [hb229];kernel_rfl) hk0
     ·have h:=h.2 hb216
      refine xD (i:=4) ?_
      show Sem _ _ _ _ _
      refine wkD [31,172] ?_
      obtain ⟨h238,h⟩:=h
      refine rDE kk [] [28] [(26,.agg [oL 25 zf a_Sets_1,oL 3 zc a_Owner_1,oL 40 zg a_Follow_1,oL 4 zw a_Ends_1,.own 40 (List.map zg a_Starts_4++List.take (List.length [FV.sl (List.map zc start_9)]) (List.drop (0:Nat) [FV.sl (List.map zc start_9)]))])] [(26,.agg [oL 25 zf a_Sets_1,oL 3 zc a_Owner_1,oL 40 zg a_Follow_1,oL 4 zw a_Ends_1,oL 40 zg (a_Starts_4++[start_9])])] (obC (show (0:Nat)=(0:Nat)∧List.length (List.map zg a_Starts_4)=List.length (List.map zg a_Starts_4) from ⟨rfl,rfl⟩) (obC (show (List.length (List.map zg a_Starts_4)+List.length (List.take (1:Nat) (List.drop (0:Nat) [FV.sl (List.map zc start_9)]))) * (24:Nat)≤(2:Nat) ^ (47:Nat) from by simpa only [nm] using h238) (obC (show List.all (List.take (1:Nat) (List.drop (0:Nat) [FV.sl (List.map zc start_9)])) (FV.fits (1:Nat))=true from by first | exact zaY _ | exact keysenc_i64 _ | rfl | simp [isByteF,FV.fits,FV.size,FV.cells,FV.one,zc]) obN))) ?_
      show Sem _ _ _ _ _
      refine rD kk [] [] [(25,vi (w64 (c0+1)))] obN ?_
      exact lD ((a_Starts_4++[start_9]),(w64 (c0+1))) [] h
    ·have h:=h.2 hb173
     refine xD (i:=2) ?_
     show Sem _ _ _ _ _
     refine wkD [4,8,16,25,151] ?_
     refine sD kk [] [13,26] [(10,vi 0),(14,.agg [oL 25 zf a_Sets_1,oL 3 zc a_Owner_1,oL 40 zg a_Follow_1,oL 4 zw a_Ends_1,oL 40 zg a_Starts_4])] (obC (show (0:Nat)=(0:Nat)∧List.length (List.map zf a_Sets_1)=List.length (List.map zf a_Sets_1) from ⟨rfl,rfl⟩) (obC (show (0:Nat)=(0:Nat)∧List.length (List.map zc a_Owner_1)=List.length (List.map zc a_Owner_1) from ⟨rfl,rfl⟩) (obC (show (0:Nat)=(0:Nat)∧List.length (List.map zg a_Follow_1)=List.length (List.map zg a_Follow_1) from ⟨rfl,rfl⟩) (obC (show (0:Nat)=(0:Nat)∧List.length (List.map zw a_Ends_1)=List.length (List.map zw a_Ends_1) from ⟨rfl,rfl⟩) (obC (show (0:Nat)=(0:Nat)∧List.length (List.map zg a_Starts_4)=List.length (List.map zg a_Starts_4) from ⟨rfl,rfl⟩) obN))))) ?_
     refine tD ?_
     obtain ⟨he0,he1⟩:=h
     subst res res_1
     exact (endD [] (.tup [.agg [.f (FV.sl (List.take (List.length (List.map zf a_Sets_1)) (List.drop (0:Nat) (List.map zf a_Sets_1)))),.f (FV.sl (List.take (List.length (List.map zc a_Owner_1)) (List.drop (0:Nat) (List.map zc a_Owner_1)))),.f (FV.sl (List.take (List.length (List.map zg a_Follow_1)) (List.drop (0:Nat) (List.map zg a_Follow_1)))),.f (FV.sl (List.take (List.length (List.map zw a_Ends_1)) (List.drop (0:Nat) (List.map zw a_Ends_1)))),.f (FV.sl (List.take (List.length (List.map zg a_Starts_4)) (List.drop (0:Nat) (List.map zg a_Starts_4))))],vi 0]) []).1
set_option maxHeartbeats 1000000 in
theorem zht (i:Int) (res:Bool)
 (h:(res=(decide (i < (0:Int)) || decide (i≥(40:Int))))):zcF i res:=by
 unfold zcF
 have kk:=cfOk [] 9
 refine fD (x:=bodyOf Tryz.f51) kk Tryz.func51 ?_
 refine wkS [1] [(1,vi i)] (by kernel_rfl) ?_
 refine sD kk [] [] [] obN ?_
 refine sM [1] [(7,vB (decide (i < (0:Int)) || decide (i≥(40:Int))))] ?_ (fun hk0=>?_)
 ·refine tD ?_
  obtain he0:=h
  subst res
  exact (endD [] (vB (decide (i < (0:Int)) || decide (i≥(40:Int)))) []).1
 ·rcases Bool.eq_false_or_eq_true (decide (i < (0:Int))) with hb0 | hb0
  ·refine sD kk [bF,bF,bT] [1] [(7,vB true)] (obC (gff hb0) (obC (gff hb0) (obC hb0 obN))) ?_
   exact Sem.cast (by try rw [hb0];kernel_rfl) hk0
  ·refine sD kk [bT,bT,bF] [1] [(7,vB (decide (i≥(40:Int))))] (obC (gft hb0) (obC (gft hb0) (obC hb0 obN))) ?_
   exact Sem.cast (by try rw [hb0];kernel_rfl) hk0
set_option maxHeartbeats 1000000 in
theorem zce (s0:(List zb)) (v:zb) (res:Int)
 (h:(∃ (Inv7:Int→Prop) (mu8:Int→Nat),Inv7 0∧(∀ (t8:Int),Inv7 t8→(((decide (t8 < (↑(List.length s0):Int)))=true→((0:Int)≤t8)∧t8 < ↑(List.length s0)∧(((zb.e0 v == zb.e0 (gd s0 t8) && (zb.e1 v == zb.e1 (gd s0 t8) && (zb.e2 v == zb.e2 (gd s0 t8) && (zb.e3 v == zb.e3 (gd s0 t8) && true))))=true→(res=t8))∧((zb.e0 v == zb.e0 (gd s0 t8) && (zb.e1 v == zb.e1 (gd s0 t8) && (zb.e2 v == zb.e2 (gd s0 t8) && (zb.e3 v == zb.e3 (gd s0 t8) && true))))=false→(Inv7 (w64 (t8+1))∧mu8 (w64 (t8+1)) < mu8 t8))))∧((decide (t8 < (↑(List.length s0):Int)))=false→(res=(-1))))))):zaJ s0 v res:=by
 unfold zaJ
 have kk:=cfOk [17] 19
 refine fD (x:=bodyOf Tryz.f91) kk Tryz.func91 ?_
 refine wkS [1,4] [(1,vL zf s0),(4,zV v)] (by kernel_rfl) ?_
 refine sD kk [] [4] [(10,.ptr 20 0),(20,zV v)] obN ?_
 refine qD ?_
 refine sDE kk [] [] [(22,vi ((↑(List.length (List.map zf s0)):Int))),(25,vi 0)] [(22,vi ((↑(List.length s0):Int))),(25,vi 0)] obN ?_
 refine bD (id:=0) ?_
 obtain ⟨Inv7,mu8,h0Inv7,hInv7⟩:=h
 refine loD (fun (q:Int)=>(fun (t8:Int)=>([(1,vL zf s0),(10,.ptr 20 0),(20,zV v),(22,vi ((↑(List.length s0):Int))),(25,vi t8)]:Sta)) q) (fun (q:Int)=>Inv7 q) (fun (q:Int)=>mu8 q) 0 [] h0Inv7 ?_
 rintro t8 hi
 have h:=hInv7 t8 hi
 refine sD kk [] [] [(28,vB (decide (t8 < (↑(List.length s0):Int))))] obN ?_
 refine qD ?_
 refine cD (t:=9) (b:=decide (t8 < (↑(List.length s0):Int))) (fun hb9=>?_) (fun hb9=>?_)
 ·have h:=h.1 hb9
  refine Sem.skip' (by kernel_rfl) Wk.refl ?_
  show Sem _ _ _ _ _
  refine wkD [28] ?_
  refine qD ?_
  refine bD (id:=1) ?_
  refine sD kk [] [] [(16,vi t8)] obN ?_
  obtain ⟨h10,h⟩:=h
  obtain ⟨h11,h⟩:=h
  refine sD kk [.e (zcO (gd s0 t8))] [] [(49,vB (zb.e0 v == zb.e0 (gd s0 t8) && (zb.e1 v == zb.e1 (gd s0 t8) && (zb.e2 v == zb.e2 (gd s0 t8) && (zb.e3 v == zb.e3 (gd s0 t8) && true)))))] (obC h10 (obC (zO zf s0 t8 _ (zaz _) h10 h11) obN)) ?_
  refine cD (t:=16) (b:=zb.e0 v == zb.e0 (gd s0 t8) && (zb.e1 v == zb.e1 (gd s0 t8) && (zb.e2 v == zb.e2 (gd s0 t8) && (zb.e3 v == zb.e3 (gd s0 t8) && true)))) (fun hb12=>?_) (fun hb12=>?_)
  ·have h:=h.1 hb12
   refine sD kk [] [1,10,16,20,22,25,49] [(13,vi t8)] obN ?_
   refine tD ?_
   obtain he0:=h
   subst res
   exact (endD [] (vi t8) []).1
  ·have h:=h.2 hb12
   refine Sem.skip' (by kernel_rfl) Wk.refl ?_
   show Sem _ _ _ _ _
   refine wkD [16,49] ?_
   refine rD kk [] [] [(25,vi (w64 (t8+1)))] obN ?_
   exact lD (w64 (t8+1)) [] h
 ·have h:=h.2 hb9
  refine xD (i:=0) ?_
  show Sem _ _ _ _ _
  refine wkD [1,10,20,22,25,28] ?_
  refine sD kk [] [] [(13,vi (-1))] obN ?_
  refine tD ?_
  obtain he0:=h
  subst res
  exact (endD [] (vi (-1)) []).1
set_option maxHeartbeats 1000000 in
theorem zbV (s0:(List zb)) (v:zb) (res:Bool)
 (h:(∃ r0:Int,zaJ s0 v r0∧(res=(decide (r0≥(0:Int)))))):zai s0 v res:=by
 unfold zai
 have kk:=cfOk [] 9
 refine fD (x:=bodyOf Tryz.f53) kk Tryz.func53 ?_
 refine wkS [1,4] [(1,vL zf s0),(4,zV v)] (by kernel_rfl) ?_
 refine sD kk [] [4] [(10,.ptr 20 0),(20,zV v)] obN ?_
 obtain ⟨r0,hc0,h⟩:=h
 refine sD kk [.c (vi r0) []] [1,10,20] [(13,vB (decide (r0≥(0:Int))))] (obC hc0 obN) ?_
 refine tD ?_
 obtain he0:=h
 subst res
 exact (endD [] (vB (decide (r0≥(0:Int)))) []).1
set_option maxHeartbeats 1000000 in
theorem W_auto_places (l:(List Int)) (many:Int) (res:Bool)
 (h:(∃ (Inv9:Int→Int→Prop) (mu10:Int→Int→Nat),Inv9 (-1) 0∧(∀ (last:Int) (t10:Int),Inv9 last t10→(((decide (t10 < (↑(List.length l):Int)))=true→((0:Int)≤t10)∧t10 < ↑(List.length l)∧(((decide (gd l t10≤last) || decide (gd l t10≥many))=true→(res=false))∧((decide (gd l t10≤last) || decide (gd l t10≥many))=false→(Inv9 (gd l t10) (w64 (t10+1))∧mu10 (gd l t10) (w64 (t10+1)) < mu10 last t10))))∧((decide (t10 < (↑(List.length l):Int)))=false→(res=true)))))):zcv l many res:=by
 unfold zcv
 have kk:=cfOk [] 24
 refine fD (x:=bodyOf Tryz.f55) kk Tryz.func55 ?_
 refine wkS [1,4] [(1,vL zc l),(4,vi many)] (by kernel_rfl) ?_
 refine sD kk [] [] [] obN ?_
 refine sD kk [] [] [(16,vi (-1))] obN ?_
 refine qD ?_
 refine sDE kk [] [1] [(25,vL zc l),(28,vi ((↑(List.length (List.map zc l)):Int))),(31,vi 0)] [(25,vL zc l),(28,vi ((↑(List.length l):Int))),(31,vi 0)] obN ?_
 refine bD (id:=0) ?_
 obtain ⟨Inv9,mu10,h0Inv9,hInv9⟩:=h
 refine loD (fun (q:Int×Int)=>(fun (last:Int) (t10:Int)=>([(4,vi many),(16,vi last),(25,vL zc l),(28,vi ((↑(List.length l):Int))),(31,vi t10)]:Sta)) q.1 q.2) (fun (q:Int×Int)=>Inv9 q.1 q.2) (fun (q:Int×Int)=>mu10 q.1 q.2) ((-1),0) [] h0Inv9 ?_
 rintro ⟨last,t10⟩ hi
 have h:=hInv9 last t10 hi
 refine sD kk [] [] [(34,vB (decide (t10 < (↑(List.length l):Int))))] obN ?_
 refine qD ?_
 refine cD (t:=11) (b:=decide (t10 < (↑(List.length l):Int))) (fun hb11=>?_) (fun hb11=>?_)
 ·have h:=h.1 hb11
  refine Sem.skip' (by kernel_rfl) Wk.refl ?_
  show Sem _ _ _ _ _
  refine wkD [34] ?_
  refine qD ?_
  refine bD (id:=1) ?_
  obtain ⟨h12,h⟩:=h
  obtain ⟨h13,h⟩:=h
  refine sD kk [.e (fi (gd l t10))] [] [(22,vi (gd l t10))] (obC h12 (obC (zO zc l t10 _ rfl h12 h13) obN)) ?_
  refine qD ?_
  refine sM [16] [(64,vB (decide (gd l t10≤last) || decide (gd l t10≥many)))] ?_ (fun hk0=>?_)
  ·refine cD (t:=21) (b:=decide (gd l t10≤last) || decide (gd l t10≥many)) (fun hb15=>?_) (fun hb15=>?_)
   ·have h:=h.1 hb15
    refine sD kk [] [4,22,25,28,31,64] [(13,vB false)] obN ?_
    refine tD ?_
    obtain he0:=h
    subst res
    exact (endD [] (vB false) []).1
   ·have h:=h.2 hb15
    refine Sem.skip' (by kernel_rfl) Wk.refl ?_
    show Sem _ _ _ _ _
    refine wkD [64] ?_
    refine rD kk [] [22] [(16,vi (gd l t10))] obN ?_
    show Sem _ _ _ _ _
    refine rD kk [] [] [(31,vi (w64 (t10+1)))] obN ?_
    exact lD ((gd l t10),(w64 (t10+1))) [] h
  ·rcases Bool.eq_false_or_eq_true (decide (gd l t10≤last)) with hb14 | hb14
   ·refine sD kk [bF,bF,bF,bT] [16] [(64,vB true)] (obC (gff hb14) (obC (gff hb14) (obC (gff hb14) (obC hb14 obN)))) ?_
    exact Sem.cast (by try rw [hb14];kernel_rfl) hk0
   ·refine sD kk [bT,bT,bT,bF] [16] [(64,vB (decide (gd l t10≥many)))] (obC (gft hb14) (obC (gft hb14) (obC (gft hb14) (obC hb14 obN)))) ?_
    exact Sem.cast (by try rw [hb14];kernel_rfl) hk0
 ·have h:=h.2 hb11
  refine xD (i:=0) ?_
  show Sem _ _ _ _ _
  refine wkD [4,16,25,28,31,34] ?_
  refine sD kk [] [] [(13,vB true)] obN ?_
  refine tD ?_
  obtain he0:=h
  subst res
  exact (endD [] (vB true) []).1
set_option maxHeartbeats 1000000 in
theorem zbh (s0:(List Int)) (res:Int)
 (h:(∃ (Inv9:Int→Prop) (mu10:Int→Nat),Inv9 0∧(∀ (t8:Int),Inv9 t8→(((decide (t8 < (↑(List.length s0):Int)))=true→((0:Int)≤t8)∧t8 < ↑(List.length s0)∧(∃ r0_2:Bool,zcF (gd s0 t8) r0_2∧(((r0_2)=true→(res=t8))∧((r0_2)=false→(Inv9 (w64 (t8+1))∧mu10 (w64 (t8+1)) < mu10 t8)))))∧((decide (t8 < (↑(List.length s0):Int)))=false→(res=(-1))))))):zac s0 res:=by
 unfold zac
 have kk:=cfOk [17] 19
 refine fD (x:=bodyOf Tryz.f90) kk Tryz.func90 ?_
 refine wkS [1,4] [(1,vL zc s0),(4,.clo 51 [])] (by kernel_rfl) ?_
 refine sD kk [] [] [] obN ?_
 refine qD ?_
 refine sDE kk [] [] [(22,vi ((↑(List.length (List.map zc s0)):Int))),(25,vi 0)] [(22,vi ((↑(List.length s0):Int))),(25,vi 0)] obN ?_
 refine bD (id:=0) ?_
 obtain ⟨Inv9,mu10,h0Inv9,hInv9⟩:=h
 refine loD (fun (q:Int)=>(fun (t8:Int)=>([(1,vL zc s0),(4,.clo 51 []),(22,vi ((↑(List.length s0):Int))),(25,vi t8)]:Sta)) q) (fun (q:Int)=>Inv9 q) (fun (q:Int)=>mu10 q) 0 [] h0Inv9 ?_
 rintro t8 hi
 have h:=hInv9 t8 hi
 refine sD kk [] [] [(28,vB (decide (t8 < (↑(List.length s0):Int))))] obN ?_
 refine qD ?_
 refine cD (t:=9) (b:=decide (t8 < (↑(List.length s0):Int))) (fun hb11=>?_) (fun hb11=>?_)
 ·have h:=h.1 hb11
  refine Sem.skip' (by kernel_rfl) Wk.refl ?_
  show Sem _ _ _ _ _
  refine wkD [28] ?_
  refine qD ?_
  refine bD (id:=1) ?_
  refine sD kk [] [] [(16,vi t8)] obN ?_
  obtain ⟨h12,h⟩:=h
  obtain ⟨h13,h⟩:=h
  obtain ⟨r0_2,hc14,h⟩:=h
  refine sD kk [.e (fi (gd s0 t8)),.c (vB r0_2) []] [] [(49,vB r0_2)] (obC h12 (obC (zO zc s0 t8 _ rfl h12 h13) (obC hc14 obN))) ?_
  refine cD (t:=16) (b:=r0_2) (fun hb15=>?_) (fun hb15=>?_)
  ·have h:=h.1 hb15
   refine sD kk [] [1,4,16,22,25,49] [(13,vi t8)] obN ?_
   refine tD ?_
   obtain he0:=h
   subst res
   exact (endD [] (vi t8) []).1
  ·have h:=h.2 hb15
   refine Sem.skip' (by kernel_rfl) Wk.refl ?_
   show Sem _ _ _ _ _
   refine wkD [16,49] ?_
   refine rD kk [] [] [(25,vi (w64 (t8+1)))] obN ?_
   exact lD (w64 (t8+1)) [] h
 ·have h:=h.2 hb11
  refine xD (i:=0) ?_
  show Sem _ _ _ _ _
  refine wkD [1,4,22,25,28] ?_
  refine sD kk [] [] [(13,vi (-1))] obN ?_
  refine tD ?_
  obtain he0:=h
  subst res
  exact (endD [] (vi (-1)) []).1
set_option maxHeartbeats 1000000 in
theorem zbe (s0:(List Int)) (res:Bool)
 (h:(∃ r0:Int,zac s0 r0∧(res=(decide (r0≥(0:Int)))))):zS s0 res:=by
 unfold zS
 have kk:=cfOk [] 9
 refine fD (x:=bodyOf Tryz.f52) kk Tryz.func52 ?_
 refine wkS [1,4] [(1,vL zc s0),(4,.clo 51 [])] (by kernel_rfl) ?_
 refine sD kk [] [] [] obN ?_
 obtain ⟨r0,hc0,h⟩:=h
 refine sD kk [.c (vi r0) []] [1,4] [(13,vB (decide (r0≥(0:Int))))] (obC hc0 obN) ?_
 refine tD ?_
 obtain he0:=h
 subst res
 exact (endD [] (vB (decide (r0≥(0:Int)))) []).1
set_option maxHeartbeats 1000000 in
theorem W_auto_Right (a:zl) (res:Bool)
 (h:(((decide ((↑(List.length (zl.Sets a)):Int) > (600:Int)) || ((↑(List.length (List.map zc (zl.Owner a))):Int) != (↑(List.length (zl.Sets a)):Int) || ((↑(List.length (List.map zg (zl.Follow a))):Int) != (↑(List.length (zl.Sets a)):Int) || ((↑(List.length (List.map zw (zl.Ends a))):Int) != (↑(List.length (zl.Sets a)):Int) || decide ((↑(List.length (zl.Starts a)):Int) > (16:Int))))))=true→(res=false))∧((decide ((↑(List.length (zl.Sets a)):Int) > (600:Int)) || ((↑(List.length (List.map zc (zl.Owner a))):Int) != (↑(List.length (zl.Sets a)):Int) || ((↑(List.length (List.map zg (zl.Follow a))):Int) != (↑(List.length (zl.Sets a)):Int) || ((↑(List.length (List.map zw (zl.Ends a))):Int) != (↑(List.length (zl.Sets a)):Int) || decide ((↑(List.length (zl.Starts a)):Int) > (16:Int))))))=false→(∃ r0:Bool,zS (zl.Owner a) r0∧(((r0)=true→(res=false))∧((r0)=false→(∃ r0_1:Bool,zai (zl.Sets a) ({ e0:=(0:Int),e1:=(0:Int),e2:=(0:Int),e3:=(0:Int) }) r0_1∧(((r0_1)=true→(res=false))∧((r0_1)=false→(C_auto_lists a∧((List.length (zl.Follow a) < 1099511627776∧List.length (zl.Starts a) < 1099511627776)∧∃ (Inv12:Nat→Prop) (Stp14:Prop),Inv12 0∧(∀ (i:Nat) (y:(List Int)),i < (List.length (zl.Follow a)+List.length (zl.Starts a))→y=List.getD (zl.Follow a++zl.Starts a) i []→Inv12 i→(∃ r0_3:Bool,zcv y ((↑(List.length (zl.Sets a)):Int)) r0_3∧(((!r0_3)=true→Stp14)∧((!r0_3)=false→Inv12 (i+1)))))∧(Inv12 ((List.length (zl.Follow a)+List.length (zl.Starts a)))→(res=true))∧(Stp14→(res=false))))))))))))):zdO a res:=by
 unfold zdO
 have kk:=cfOk [] 55
 refine fD (x:=bodyOf Tryz.f19) kk Tryz.func19 ?_
 refine wkS [1] [(1,zbo a)] (by kernel_rfl) ?_
 refine sD kk [] [1] [(4,.ptr 8 0),(7,.ptr 14 0),(8,zbo a),(14,vB false)] obN ?_
 refine sDE kk [] [] [(10,.ptr 20 0),(20,vi ((↑(List.length (List.map zf (zl.Sets a))):Int)))] [(10,.ptr 20 0),(20,vi ((↑(List.length (zl.Sets a)):Int)))] obN ?_
 refine sD kk [] [] [(13,.clo 51 [])] obN ?_
 refine qD ?_
 refine sM [] [(112,vB (decide ((↑(List.length (zl.Sets a)):Int) > (600:Int)) || ((↑(List.length (List.map zc (zl.Owner a))):Int) != (↑(List.length (zl.Sets a)):Int) || ((↑(List.length (List.map zg (zl.Follow a))):Int) != (↑(List.length (zl.Sets a)):Int) || ((↑(List.length (List.map zw (zl.Ends a))):Int) != (↑(List.length (zl.Sets a)):Int) || decide ((↑(List.length (zl.Starts a)):Int) > (16:Int)))))))] ?_ (fun hk0=>?_)
 ·refine cD (t:=37) (b:=decide ((↑(List.length (zl.Sets a)):Int) > (600:Int)) || ((↑(List.length (List.map zc (zl.Owner a))):Int) != (↑(List.length (zl.Sets a)):Int) || ((↑(List.length (List.map zg (zl.Follow a))):Int) != (↑(List.length (zl.Sets a)):Int) || ((↑(List.length (List.map zw (zl.Ends a))):Int) != (↑(List.length (zl.Sets a)):Int) || decide ((↑(List.length (zl.Starts a)):Int) > (16:Int)))))) (fun hb4=>?_) (fun hb4=>?_)
  ·have h:=h.1 hb4
   refine sD kk [] [4,8,10,13,20,112] [] obN ?_
   refine tD ?_
   obtain he0:=h
   subst res
   exact (endD [] (vB false) []).1
  ·have h:=h.2 hb4
   refine Sem.skip' (by kernel_rfl) Wk.refl ?_
   show Sem _ _ _ _ _
   refine wkD [112] ?_
   refine qD ?_
   obtain ⟨r0,hc5,h⟩:=h
   rcases Bool.eq_false_or_eq_true (r0) with hb6 | hb6
   ·have h:=h.1 hb6
    refine sD kk [.c (vB r0) [],bF,bF,bF,bF,bT] [13] [(142,vB true)] (obC hc5 (obC (gff hb6) (obC (gff hb6) (obC (gff hb6) (obC (gff hb6) (obC hb6 obN)))))) ?_
    refine cD (t:=47) (b:=true) (fun hb17=>?_) (fun hb17=>?_)
    ·refine sD kk [] [4,8,10,20,142] [] obN ?_
     refine tD ?_
     obtain he0:=h
     subst res
     exact (endD [] (vB false) []).1
    ·cases hb17
   ·have h:=h.2 hb6
    obtain ⟨r0_1,hc7,h⟩:=h
    refine sD kk [.c (vB r0) [],bT,bT,bT,bT,.c (vB r0_1) [],bF] [13] [(142,vB r0_1)] (obC hc5 (obC (gft hb6) (obC (gft hb6) (obC (gft hb6) (obC (gft hb6) (obC hc7 (obC hb6 obN))))))) ?_
    refine cD (t:=47) (b:=r0_1) (fun hb8=>?_) (fun hb8=>?_)
    ·have h:=h.1 hb8
     refine sD kk [] [4,8,10,20,142] [] obN ?_
     refine tD ?_
     obtain he0:=h
     subst res
     exact (endD [] (vB false) []).1
    ·have h:=h.2 hb8
     refine Sem.skip' (by kernel_rfl) Wk.refl ?_
     show Sem _ _ _ _ _
     refine wkD [142] ?_
     refine qD ?_
     obtain ⟨hc9,h⟩:=h
     refine sD kk [.c (.clo 92 [.fp (zep a) 0]) []] [4,8] [(148,.clo 92 [.fp (zep a) 0])] (obC hc9 obN) ?_
     refine bD (id:=0) ?_
     obtain ⟨hl13,Inv12,Stp14,h0Inv12,hRInv12,hDInv12,hSInv12⟩:=h
     refine Sem.rangeG (σ:=Unit) (c:=(cf [] 55)) (by rfl) (tg:=49) (ps:=[50]) (by kernel_rfl) (by kernel_rfl) (lists_it2 a hl13) (fun i _=>⟨rfl,fun y hy=>⟨1,by rw [List.mem_singleton.1 hy];rfl⟩⟩) [(7,.ptr 14 0),(10,.ptr 20 0)] [14,20] (fun (_:Unit)=>([vB false,vi ((↑(List.length (zl.Sets a)):Int))]:List AV)) (fun (i:Nat) (q:Unit)=>Inv12 i ) (fun (q:Unit)=>Stp14 ) () ((wkE (G':=[(7,.ptr 14 0),(10,.ptr 20 0),(14,vB false),(20,vi ((↑(List.length (zl.Sets a)):Int)))]) [] [7,10,14,20] (by kernel_rfl)).trans (Wk.pick [7,10,14,20] (by kernel_rfl))) h0Inv12 (by rfl) (fun q=>by rfl) (by rfl) (by decide) (fun q q'=>by rfl) (by decide) (by decide) ?_ ?_ ?_
     ·rintro i _ hi hinv
      obtain ⟨y,hy⟩:∃ y:(List Int),y=List.getD (zl.Follow a++zl.Starts a) i []:=⟨_,rfl⟩
      have h:=hRInv12 i y hi hy hinv
      refine Sem.weak (Wk.pick [3,6,7,10,151] (G':=[(3,vB false),(6,vi ((↑(List.length (zl.Sets a)):Int))),(7,.ptr 3 0),(10,.ptr 6 0),(151,vL zc y)]) (by rw [hy];kernel_rfl)) ?_
      show Sem _ (cfr [] 55) (sq1 (sq1 (sq2 (sq1 (sq2 (sq2 (sq2 (sq2 (sq2 (bodyOf Tryz.f19)))))))))) _ _
      have kr:=cfrOk [] 55
      refine rD kr [] [151] [(16,vL zc y)] obN ?_
      refine ⟨rfl,?_⟩
      show Sem _ (cfr [] 55) (sq2 (sq1 (sq2 (sq1 (sq2 (sq2 (sq2 (sq2 (sq2 (bodyOf Tryz.f19)))))))))) _ _
      refine bD (id:=1) ?_
      obtain ⟨r0_3,hc15,h⟩:=h
      refine sD kr [.c (vB r0_3) []] [10,16] [(163,vB (!r0_3))] (obC hc15 obN) ?_
      refine cD (t:=54) (b:=!r0_3) (fun hb16=>?_) (fun hb16=>?_)
      ·have h:=h.1 hb16
       refine sD kr [] [163] [] obN ?_
       refine tD ?_
       exact rndSr (wkE [] [3,6] (by rfl)) (by kernel_rfl) ⟨(),rfl,h⟩
      ·have h:=h.2 hb16
       refine Sem.skip' (by kernel_rfl) Wk.refl ?_
       exact rndSn (wkE [] [3,6] (by rfl)) (by kernel_rfl) ⟨(),rfl,h⟩
     ·rintro _ hinv
      have h:=hDInv12 hinv
      refine ⟨[(7,.ptr 14 0),(14,vB false)],Wk.pick [7,14] (by kernel_rfl),?_⟩
      show Sem _ _ _ _ _
      refine sD kk [] [] [(14,vB true)] obN ?_
      refine tD ?_
      obtain he0:=h
      subst res
      exact (endD [] (vB true) []).1
     ·rintro _ hinv
      have h:=hSInv12 hinv
      refine ⟨[(7,.ptr 14 0),(14,vB false)],Wk.pick [7,14] (by kernel_rfl),?_⟩
      obtain he0:=h
      subst res
      exact (endD [] (vB false) []).1
 ·rcases Bool.eq_false_or_eq_true (decide ((↑(List.length (zl.Sets a)):Int) > (600:Int))) with hb0 | hb0
  ·refine sD kk [bF,bF,bF,bF,bF,bT,bF,bF,bF,bF,bF,bT,bF,bF,bF,bF,bF,bT,bF,bF,bF,bF,bT] [] [(112,vB true)] (obC (gff hb0) (obC (gff hb0) (obC (gff hb0) (obC (gff hb0) (obC (gff hb0) (obC hb0 (oF (oF (oF (oF (oF (oT (oF (oF (oF (oF (oF (oT (oF (oF (oF (oF (oT obN))))))))))))))))))))))) ?_
   exact Sem.cast (by try rw [hb0];kernel_rfl) hk0
  ·rcases Bool.eq_false_or_eq_true ((↑(List.length (List.map zc (zl.Owner a))):Int) != (↑(List.length (zl.Sets a)):Int)) with hb1 | hb1
   ·refine sD kk [bT,bT,bT,bT,bT,bF,bF,bF,bF,bF,bF,bT,bF,bF,bF,bF,bF,bT,bF,bF,bF,bF,bT] [] [(112,vB true)] (obC (gft hb0) (obC (gft hb0) (obC (gft hb0) (obC (gft hb0) (obC (gft hb0) (obC hb0 (obC (gff hb1) (obC (gff hb1) (obC (gff hb1) (obC (gff hb1) (obC (gff hb1) (obC hb1 (oF (oF (oF (oF (oF (oT (oF (oF (oF (oF (oT obN))))))))))))))))))))))) ?_
    exact Sem.cast (by try rw [hb0];try rw [hb1];kernel_rfl) hk0
   ·rcases Bool.eq_false_or_eq_true ((↑(List.length (List.map zg (zl.Follow a))):Int) != (↑(List.length (zl.Sets a)):Int)) with hb2 | hb2
    ·refine sD kk [bT,bT,bT,bT,bT,bF,bT,bT,bT,bT,bT,bF,bF,bF,bF,bF,bF,bT,bF,bF,bF,bF,bT] [] [(112,vB true)] (obC (gft hb0) (obC (gft hb0) (obC (gft hb0) (obC (gft hb0) (obC (gft hb0) (obC hb0 (obC (gft hb1) (obC (gft hb1) (obC (gft hb1) (obC (gft hb1) (obC (gft hb1) (obC hb1 (obC (gff hb2) (obC (gff hb2) (obC (gff hb2) (obC (gff hb2) (obC (gff hb2) (obC hb2 (oF (oF (oF (oF (oT obN))))))))))))))))))))))) ?_
     exact Sem.cast (by try rw [hb0];try rw [hb1];try rw [hb2];kernel_rfl) hk0
    ·rcases Bool.eq_false_or_eq_true ((↑(List.length (List.map zw (zl.Ends a))):Int) != (↑(List.length (zl.Sets a)):Int)) with hb3 | hb3
     ·refine sD kk [bT,bT,bT,bT,bT,bF,bT,bT,bT,bT,bT,bF,bT,bT,bT,bT,bT,bF,bF,bF,bF,bF,bT] [] [(112,vB true)] (obC (gft hb0) (obC (gft hb0) (obC (gft hb0) (obC (gft hb0) (obC (gft hb0) (obC hb0 (obC (gft hb1) (obC (gft hb1) (obC (gft hb1) (obC (gft hb1) (obC (gft hb1) (obC hb1 (obC (gft hb2) (obC (gft hb2) (obC (gft hb2) (obC (gft hb2) (obC (gft hb2) (obC hb2 (obC (gff hb3) (obC (gff hb3) (obC (gff hb3) (obC (gff hb3) (obC hb3 obN))))))))))))))))))))))) ?_
      exact Sem.cast (by try rw [hb0];try rw [hb1];try rw [hb2];try rw [hb3];kernel_rfl) hk0
     ·refine sDE kk [bT,bT,bT,bT,bT,bF,bT,bT,bT,bT,bT,bF,bT,bT,bT,bT,bT,bF,bT,bT,bT,bT,bF] [] [(112,vB (decide ((↑(List.length (List.map zg (zl.Starts a))):Int) > (16:Int))))] [(112,vB (decide ((↑(List.length (zl.Starts a)):Int) > (16:Int))))] (obC (gft hb0) (obC (gft hb0) (obC (gft hb0) (obC (gft hb0) (obC (gft hb0) (obC hb0 (obC (gft hb1) (obC (gft hb1) (obC (gft hb1) (obC (gft hb1) (obC (gft hb1) (obC hb1 (obC (gft hb2) (obC (gft hb2) (obC (gft hb2) (obC (gft hb2) (obC (gft hb2) (obC hb2 (obC (gft hb3) (obC (gft hb3) (obC (gft hb3) (obC (gft hb3) (obC hb3 obN))))))))))))))))))))))) ?_
      exact Sem.cast (by try rw [hb0];try rw [hb1];try rw [hb2];try rw [hb3];kernel_rfl) hk0
set_option maxHeartbeats 1000000 in
theorem zfH (s0:zb) (b:Int) (res:zb)
 (h:((w64 (Int.tdiv b (64:Int))=0∨w64 (Int.tdiv b (64:Int))=1∨w64 (Int.tdiv b (64:Int))=2∨w64 (Int.tdiv b (64:Int))=3)∧((decide (w64 (Int.tdiv b (64:Int))=(0:Int)))=true→((decide (w64 (Int.tdiv b (64:Int))=(0:Int)))=true→((0:Int)≤Int.tmod b (64:Int)))∧(res=({ e0:=IntKind.wrap IntKind.u64 (↑(BitVec.toNat (BitVec.ofInt (IntKind.bits IntKind.u64) (zb.e0 s0) ||| BitVec.ofInt (IntKind.bits IntKind.u64) (IntKind.wrap IntKind.u64 ((1:Int) * (2:Int) ^ Min.min (Int.toNat (Int.tmod b (64:Int))) (IntKind.bits IntKind.u64))))):Int),e1:=zb.e1 s0,e2:=zb.e2 s0,e3:=zb.e3 s0 })))∧((decide (w64 (Int.tdiv b (64:Int))=(1:Int)))=true→((decide (w64 (Int.tdiv b (64:Int))=(1:Int)))=true→((0:Int)≤Int.tmod b (64:Int)))∧(res=({ e0:=zb.e0 s0,e1:=IntKind.wrap IntKind.u64 (↑(BitVec.toNat (BitVec.ofInt (IntKind.bits IntKind.u64) (zb.e1 s0) ||| BitVec.ofInt (IntKind.bits IntKind.u64) (IntKind.wrap IntKind.u64 ((1:Int) * (2:Int) ^ Min.min (Int.toNat (Int.tmod b (64:Int))) (IntKind.bits IntKind.u64))))):Int),e2:=zb.e2 s0,e3:=zb.e3 s0 })))∧((decide (w64 (Int.tdiv b (64:Int))=(2:Int)))=true→((decide (w64 (Int.tdiv b (64:Int))=(2:Int)))=true→((0:Int)≤Int.tmod b (64:Int)))∧(res=({ e0:=zb.e0 s0,e1:=zb.e1 s0,e2:=IntKind.wrap IntKind.u64 (↑(BitVec.toNat (BitVec.ofInt (IntKind.bits IntKind.u64) (zb.e2 s0) ||| BitVec.ofInt (IntKind.bits IntKind.u64) (IntKind.wrap IntKind.u64 ((1:Int) * (2:Int) ^ Min.min (Int.toNat (Int.tmod b (64:Int))) (IntKind.bits IntKind.u64))))):Int),e3:=zb.e3 s0 })))∧((decide (w64 (Int.tdiv b (64:Int))=(3:Int)))=true→((decide (w64 (Int.tdiv b (64:Int))=(3:Int)))=true→((0:Int)≤Int.tmod b (64:Int)))∧(res=({ e0:=zb.e0 s0,e1:=zb.e1 s0,e2:=zb.e2 s0,e3:=IntKind.wrap IntKind.u64 (↑(BitVec.toNat (BitVec.ofInt (IntKind.bits IntKind.u64) (zb.e3 s0) ||| BitVec.ofInt (IntKind.bits IntKind.u64) (IntKind.wrap IntKind.u64 ((1:Int) * (2:Int) ^ Min.min (Int.toNat (Int.tmod b (64:Int))) (IntKind.bits IntKind.u64))))):Int) }))))):zcf s0 b res:=by
 unfold zcf
 have kk:=cfOk [16] 17
 refine fD (x:=bodyOf Tryz.f95) kk Tryz.func95 ?_
 refine wkS [1,4] [(1,zV s0),(4,vi b)] (by kernel_rfl) ?_
 refine sD kk [] [1] [(7,.ptr 14 0),(13,.ptr 26 0),(14,zV s0),(26,.agg [vI .u64 0,vI .u64 0,vI .u64 0,vI .u64 0])] obN ?_
 obtain ⟨hor,h⟩:=h
 rcases hor with hb0 | hb0 | hb0 | hb0
 ·have hb0:=decide_eq_true hb0
  have h:=h.1 hb0
  obtain ⟨h1,h⟩:=h
  refine sD kk [.n 0,.n 0] [4] [(14,.agg [vI .u64 (IntKind.wrap IntKind.u64 (↑(BitVec.toNat (BitVec.ofInt (IntKind.bits IntKind.u64) (zb.e0 s0) ||| BitVec.ofInt (IntKind.bits IntKind.u64) (IntKind.wrap IntKind.u64 ((1:Int) * (2:Int) ^ Min.min (Int.toNat (Int.tmod b (64:Int))) (IntKind.bits IntKind.u64))))):Int)),vI .u64 (zb.e1 s0),vI .u64 (zb.e2 s0),vI .u64 (zb.e3 s0)])] (obC (show (64:Int)≠(0:Int) from by first | decide | rfl | trivial) (obC (show (64:Int)≠(0:Int) from by first | decide | rfl | trivial) (obC (of_decide_eq_true hb0) (obC (show (64:Int)≠(0:Int) from by first | decide | rfl | trivial) (obC (h1 hb0) (obC (of_decide_eq_true hb0) obN)))))) ?_
  refine sD kk [] [7,14] [(26,.agg [vI .u64 (IntKind.wrap IntKind.u64 (↑(BitVec.toNat (BitVec.ofInt (IntKind.bits IntKind.u64) (zb.e0 s0) ||| BitVec.ofInt (IntKind.bits IntKind.u64) (IntKind.wrap IntKind.u64 ((1:Int) * (2:Int) ^ Min.min (Int.toNat (Int.tmod b (64:Int))) (IntKind.bits IntKind.u64))))):Int)),vI .u64 (zb.e1 s0),vI .u64 (zb.e2 s0),vI .u64 (zb.e3 s0)])] obN ?_
  refine tD ?_
  obtain he0:=h
  subst res
  exact (endD [] (.agg [vI .u64 (IntKind.wrap IntKind.u64 (↑(BitVec.toNat (BitVec.ofInt (IntKind.bits IntKind.u64) (zb.e0 s0) ||| BitVec.ofInt (IntKind.bits IntKind.u64) (IntKind.wrap IntKind.u64 ((1:Int) * (2:Int) ^ Min.min (Int.toNat (Int.tmod b (64:Int))) (IntKind.bits IntKind.u64))))):Int)),vI .u64 (zb.e1 s0),vI .u64 (zb.e2 s0),vI .u64 (zb.e3 s0)]) []).1
 ·have hb0:=decide_eq_true hb0
  have h:=h.2.1 hb0
  obtain ⟨h2,h⟩:=h
  refine sD kk [.n 1,.n 1] [4] [(14,.agg [vI .u64 (zb.e0 s0),vI .u64 (IntKind.wrap IntKind.u64 (↑(BitVec.toNat (BitVec.ofInt (IntKind.bits IntKind.u64) (zb.e1 s0) ||| BitVec.ofInt (IntKind.bits IntKind.u64) (IntKind.wrap IntKind.u64 ((1:Int) * (2:Int) ^ Min.min (Int.toNat (Int.tmod b (64:Int))) (IntKind.bits IntKind.u64))))):Int)),vI .u64 (zb.e2 s0),vI .u64 (zb.e3 s0)])] (obC (show (64:Int)≠(0:Int) from by first | decide | rfl | trivial) (obC (show (64:Int)≠(0:Int) from by first | decide | rfl | trivial) (obC (of_decide_eq_true hb0) (obC (show (64:Int)≠(0:Int) from by first | decide | rfl | trivial) (obC (h2 hb0) (obC (of_decide_eq_true hb0) obN)))))) ?_
  refine sD kk [] [7,14] [(26,.agg [vI .u64 (zb.e0 s0),vI .u64 (IntKind.wrap IntKind.u64 (↑(BitVec.toNat (BitVec.ofInt (IntKind.bits IntKind.u64) (zb.e1 s0) ||| BitVec.ofInt (IntKind.bits IntKind.u64) (IntKind.wrap IntKind.u64 ((1:Int) * (2:Int) ^ Min.min (Int.toNat (Int.tmod b (64:Int))) (IntKind.bits IntKind.u64))))):Int)),vI .u64 (zb.e2 s0),vI .u64 (zb.e3 s0)])] obN ?_
  refine tD ?_
  obtain he0:=h
  subst res
  exact (endD [] (.agg [vI .u64 (zb.e0 s0),vI .u64 (IntKind.wrap IntKind.u64 (↑(BitVec.toNat (BitVec.ofInt (IntKind.bits IntKind.u64) (zb.e1 s0) ||| BitVec.ofInt (IntKind.bits IntKind.u64) (IntKind.wrap IntKind.u64 ((1:Int) * (2:Int) ^ Min.min (Int.toNat (Int.tmod b (64:Int))) (IntKind.bits IntKind.u64))))):Int)),vI .u64 (zb.e2 s0),vI .u64 (zb.e3 s0)]) []).1
 ·have hb0:=decide_eq_true hb0
  have h:=h.2.2.1 hb0
  obtain ⟨h3,h⟩:=h
  refine sD kk [.n 2,.n 2] [4] [(14,.agg [vI .u64 (zb.e0 s0),vI .u64 (zb.e1 s0),vI .u64 (IntKind.wrap IntKind.u64 (↑(BitVec.toNat (BitVec.ofInt (IntKind.bits IntKind.u64) (zb.e2 s0) ||| BitVec.ofInt (IntKind.bits IntKind.u64) (IntKind.wrap IntKind.u64 ((1:Int) * (2:Int) ^ Min.min (Int.toNat (Int.tmod b (64:Int))) (IntKind.bits IntKind.u64))))):Int)),vI .u64 (zb.e3 s0)])] (obC (show (64:Int)≠(0:Int) from by first | decide | rfl | trivial) (obC (show (64:Int)≠(0:Int) from by first | decide | rfl | trivial) (obC (of_decide_eq_true hb0) (obC (show (64:Int)≠(0:Int) from by first | decide | rfl | trivial) (obC (h3 hb0) (obC (of_decide_eq_true hb0) obN)))))) ?_
  refine sD kk [] [7,14] [(26,.agg [vI .u64 (zb.e0 s0),vI .u64 (zb.e1 s0),vI .u64 (IntKind.wrap IntKind.u64 (↑(BitVec.toNat (BitVec.ofInt (IntKind.bits IntKind.u64) (zb.e2 s0) ||| BitVec.ofInt (IntKind.bits IntKind.u64) (IntKind.wrap IntKind.u64 ((1:Int) * (2:Int) ^ Min.min (Int.toNat (Int.tmod b (64:Int))) (IntKind.bits IntKind.u64))))):Int)),vI .u64 (zb.e3 s0)])] obN ?_
  refine tD ?_
  obtain he0:=h
  subst res
  exact (endD [] (.agg [vI .u64 (zb.e0 s0),vI .u64 (zb.e1 s0),vI .u64 (IntKind.wrap IntKind.u64 (↑(BitVec.toNat (BitVec.ofInt (IntKind.bits IntKind.u64) (zb.e2 s0) ||| BitVec.ofInt (IntKind.bits IntKind.u64) (IntKind.wrap IntKind.u64 ((1:Int) * (2:Int) ^ Min.min (Int.toNat (Int.tmod b (64:Int))) (IntKind.bits IntKind.u64))))):Int)),vI .u64 (zb.e3 s0)]) []).1
 ·have hb0:=decide_eq_true hb0
  have h:=h.2.2.2 hb0
  obtain ⟨h4,h⟩:=h
  refine sD kk [.n 3,.n 3] [4] [(14,.agg [vI .u64 (zb.e0 s0),vI .u64 (zb.e1 s0),vI .u64 (zb.e2 s0),vI .u64 (IntKind.wrap IntKind.u64 (↑(BitVec.toNat (BitVec.ofInt (IntKind.bits IntKind.u64) (zb.e3 s0) ||| BitVec.ofInt (IntKind.bits IntKind.u64) (IntKind.wrap IntKind.u64 ((1:Int) * (2:Int) ^ Min.min (Int.toNat (Int.tmod b (64:Int))) (IntKind.bits IntKind.u64))))):Int))])] (obC (show (64:Int)≠(0:Int) from by first | decide | rfl | trivial) (obC (show (64:Int)≠(0:Int) from by first | decide | rfl | trivial) (obC (of_decide_eq_true hb0) (obC (show (64:Int)≠(0:Int) from by first | decide | rfl | trivial) (obC (h4 hb0) (obC (of_decide_eq_true hb0) obN)))))) ?_
  refine sD kk [] [7,14] [(26,.agg [vI .u64 (zb.e0 s0),vI .u64 (zb.e1 s0),vI .u64 (zb.e2 s0),vI .u64 (IntKind.wrap IntKind.u64 (↑(BitVec.toNat (BitVec.ofInt (IntKind.bits IntKind.u64) (zb.e3 s0) ||| BitVec.ofInt (IntKind.bits IntKind.u64) (IntKind.wrap IntKind.u64 ((1:Int) * (2:Int) ^ Min.min (Int.toNat (Int.tmod b (64:Int))) (IntKind.bits IntKind.u64))))):Int))])] obN ?_
  refine tD ?_
  obtain he0:=h
  subst res
  exact (endD [] (.agg [vI .u64 (zb.e0 s0),vI .u64 (zb.e1 s0),vI .u64 (zb.e2 s0),vI .u64 (IntKind.wrap IntKind.u64 (↑(BitVec.toNat (BitVec.ofInt (IntKind.bits IntKind.u64) (zb.e3 s0) ||| BitVec.ofInt (IntKind.bits IntKind.u64) (IntKind.wrap IntKind.u64 ((1:Int) * (2:Int) ^ Min.min (Int.toNat (Int.tmod b (64:Int))) (IntKind.bits IntKind.u64))))):Int))]) []).1
end Go.Ev
set_option linter.unusedSimpArgs false
set_option linter.unusedVariables false
namespace Go.Ev
open Go Go.Proofs
set_option maxRecDepth 8000
set_option maxHeartbeats 1000000 in
theorem zfh (b:Int) (res:ze)
 (h:(∃ r0:zb,zgc b b r0∧(res=({ Kind:=(2:Int),Set:=r0,Lo:=(0:Int),Hi:=(0:Int),Kids:=[] })))):zbb b res:=by
 unfold zbb
 have kk:=cfOk [] 7
 refine fD (x:=bodyOf Tryz.f23) kk Tryz.func23 ?_
 refine wkS [1] [(1,vi b)] (by kernel_rfl) ?_
 refine sDE kk [] [] [(7,.ptr 14 0),(14,.agg [vi 0,vI .u64 0,vI .u64 0,vI .u64 0,vI .u64 0,vi 0,vi 0,.own 28 ([])])] [(7,.ptr 14 0),(14,.agg [vi 0,vI .u64 0,vI .u64 0,vI .u64 0,vI .u64 0,vi 0,vi 0,oL 28 zn ([])])] obN ?_
 obtain ⟨r0,hc0,h⟩:=h
 refine sDE kk [.c (zV r0) []] [1] [(14,.agg [vi 2,vI .u64 (zb.e0 r0),vI .u64 (zb.e1 r0),vI .u64 (zb.e2 r0),vI .u64 (zb.e3 r0),vi 0,vi 0,.own 28 ([])])] [(14,.agg [vi 2,vI .u64 (zb.e0 r0),vI .u64 (zb.e1 r0),vI .u64 (zb.e2 r0),vI .u64 (zb.e3 r0),vi 0,vi 0,oL 28 zn ([])])] (obC hc0 obN) ?_
 refine tD ?_
 obtain he0:=h
 subst res
 exact (endD [] (.agg [vi 2,vI .u64 (zb.e0 r0),vI .u64 (zb.e1 r0),vI .u64 (zb.e2 r0),vI .u64 (zb.e3 r0),vi 0,vi 0,oL 28 zn ([])]) []).1
set_option maxHeartbeats 1000000 in
theorem zdp (n:Int) (rules:Int) (res:Bool)
 (h:(∃ (Inv33:List zj→Int→Prop) (mu34:List zj→Int→Nat),Inv33 ([]) (w64 ((560:Int)+Int.tmod (w64 n) (80:Int)))∧(∀ (s_Rules:List zj) (many:Int),Inv33 s_Rules many→(((decide (many > (0:Int)))=true→(∃ (Inv41:List ze→Int→Prop) (mu42:List ze→Int→Nat),Inv41 ([]) 0∧(∀ (x_Kids_4:List ze) (i_2:Int),Inv41 x_Kids_4 i_2→(((decide (i_2 < if false=true then if w64 ((100:Int)+Int.tmod (w64 rules) (90:Int)) > many then w64 ((100:Int)+Int.tmod (w64 rules) (90:Int)) else many else if w64 ((100:Int)+Int.tmod (w64 rules) (90:Int)) < many then w64 ((100:Int)+Int.tmod (w64 rules) (90:Int)) else many))=true→(∃ r0_12:ze,zbb ((97:Int)) r0_12∧((List.length x_Kids_4+(1:Nat)) * (80:Nat)≤(2:Nat) ^ (47:Nat))∧(Inv41 (x_Kids_4++[r0_12]) (w64 (i_2+1))∧mu42 (x_Kids_4++[r0_12]) (w64 (i_2+1)) < mu42 x_Kids_4 i_2)))∧((decide (i_2 < if false=true then if w64 ((100:Int)+Int.tmod (w64 rules) (90:Int)) > many then w64 ((100:Int)+Int.tmod (w64 rules) (90:Int)) else many else if w64 ((100:Int)+Int.tmod (w64 rules) (90:Int)) < many then w64 ((100:Int)+Int.tmod (w64 rules) (90:Int)) else many))=false→(∃ J48:Int→Int→Int→Int→Int→Int→Int→List ze→Prop,(∀ (x_Kind_2:Int) (x_Set_e0_2:Int) (x_Set_e1_2:Int) (x_Set_e2_2:Int) (x_Set_e3_2:Int) (x_Lo_2:Int) (x_Hi_2:Int) (x_Kids_5:List ze),J48 x_Kind_2 x_Set_e0_2 x_Set_e1_2 x_Set_e2_2 x_Set_e3_2 x_Lo_2 x_Hi_2 x_Kids_5→((List.length s_Rules+(1:Nat)) * (216:Nat)≤(2:Nat) ^ (47:Nat))∧(Inv33 (s_Rules++[{ Conds:=[],All:=false,Bol:=false,Rx:={ Kind:=x_Kind_2,Set:={ e0:=x_Set_e0_2,e1:=x_Set_e1_2,e2:=x_Set_e2_2,e3:=x_Set_e3_2 },Lo:=x_Lo_2,Hi:=x_Hi_2,Kids:=x_Kids_5 },Trail:={ Kind:=(0:Int),Set:={ e0:=(0:Int),e1:=(0:Int),e2:=(0:Int),e3:=(0:Int) },Lo:=(0:Int),Hi:=(0:Int),Kids:=[] },Eof:=false,Act:=(1:Int),To:=(0:Int) }]) (w64 (many - if false=true then if w64 ((100:Int)+Int.tmod (w64 rules) (90:Int)) > many then w64 ((100:Int)+Int.tmod (w64 rules) (90:Int)) else many else if w64 ((100:Int)+Int.tmod (w64 rules) (90:Int)) < many then w64 ((100:Int)+Int.tmod (w64 rules) (90:Int)) else many))∧mu34 (s_Rules++[{ Conds:=[],All:=false,Bol:=false,Rx:={ Kind:=x_Kind_2,Set:={ e0:=x_Set_e0_2,e1:=x_Set_e1_2,e2:=x_Set_e2_2,e3:=x_Set_e3_2 },Lo:=x_Lo_2,Hi:=x_Hi_2,Kids:=x_Kids_5 },Trail:={ Kind:=(0:Int),Set:={ e0:=(0:Int),e1:=(0:Int),e2:=(0:Int),e3:=(0:Int) },Lo:=(0:Int),Hi:=(0:Int),Kids:=[] },Eof:=false,Act:=(1:Int),To:=(0:Int) }]) (w64 (many - if false=true then if w64 ((100:Int)+Int.tmod (w64 rules) (90:Int)) > many then w64 ((100:Int)+Int.tmod (w64 rules) (90:Int)) else many else if w64 ((100:Int)+Int.tmod (w64 rules) (90:Int)) < many then w64 ((100:Int)+Int.tmod (w64 rules) (90:Int)) else many)) < mu34 s_Rules many))∧((((if false=true then if w64 ((100:Int)+Int.tmod (w64 rules) (90:Int)) > many then w64 ((100:Int)+Int.tmod (w64 rules) (90:Int)) else many else if w64 ((100:Int)+Int.tmod (w64 rules) (90:Int)) < many then w64 ((100:Int)+Int.tmod (w64 rules) (90:Int)) else many) == 1)=true→(∃ r0_14:ze,zbb ((97:Int)) r0_14∧J48 (ze.Kind r0_14) (zb.e0 (ze.Set r0_14)) (zb.e1 (ze.Set r0_14)) (zb.e2 (ze.Set r0_14)) (zb.e3 (ze.Set r0_14)) (ze.Lo r0_14) (ze.Hi r0_14) (ze.Kids r0_14)))∧(((if false=true then if w64 ((100:Int)+Int.tmod (w64 rules) (90:Int)) > many then w64 ((100:Int)+Int.tmod (w64 rules) (90:Int)) else many else if w64 ((100:Int)+Int.tmod (w64 rules) (90:Int)) < many then w64 ((100:Int)+Int.tmod (w64 rules) (90:Int)) else many) == 1)=false→J48 3 0 0 0 0 0 0 x_Kids_4))))))))∧((decide (many > (0:Int)))=false→(∃ r0_15:zl,∃ r0_16:Int,zbU ({ Conds:=[{ Name:={ data:=#[(73:UInt8),(78:UInt8),(73:UInt8),(84:UInt8),(73:UInt8),(65:UInt8),(76:UInt8)] },Exclusive:=false }],Default:=false,Rules:=s_Rules }) r0_15 r0_16∧(∃ r0_17:zl,∃ r0_18:Int,zbr ({ Conds:=[{ Name:={ data:=#[(73:UInt8),(78:UInt8),(73:UInt8),(84:UInt8),(73:UInt8),(65:UInt8),(76:UInt8)] },Exclusive:=false }],Default:=false,Rules:=s_Rules }) r0_17 r0_18∧(∃ r0_19:Bool,zbQ r0_19∧(res=(r0_19 && r0_16 == r0_18)))))))))):zbw n rules res:=by
 unfold zbw
 have kk:=cfOk [] 70
 refine fD (x:=bodyOf Tryz.f7) kk Tryz.func7 ?_
 refine wkS [1,4] [(1,vI .u8 n),(4,vI .u8 rules)] (by kernel_rfl) ?_
 refine sD kk [] [] [] obN ?_
 refine sDE kk [] [] [(16,.ptr 32 0),(32,.agg [.f (FV.sl (List.take (List.length [FV.agg [FV.pv (Value.string { data:=#[(73:UInt8),(78:UInt8),(73:UInt8),(84:UInt8),(73:UInt8),(65:UInt8),(76:UInt8)] }),FV.pv (Value.bool false)]]) (List.drop (0:Nat) [FV.agg [FV.pv (Value.string { data:=#[(73:UInt8),(78:UInt8),(73:UInt8),(84:UInt8),(73:UInt8),(65:UInt8),(76:UInt8)] }),FV.pv (Value.bool false)]]))),vB false,.own 60 ([])])] [(16,.ptr 32 0),(32,.agg [vL zx ([{ Name:={ data:=#[(73:UInt8),(78:UInt8),(73:UInt8),(84:UInt8),(73:UInt8),(65:UInt8),(76:UInt8)] },Exclusive:=false }]),vB false,oL 60 zy ([])])] obN ?_
 refine sD kk [] [1] [(19,vi (w64 ((560:Int)+Int.tmod (w64 n) (80:Int))))] (obC (show (80:Int)≠(0:Int) from by first | decide | rfl | trivial) obN) ?_
 refine qD ?_
 refine bD (id:=0) ?_
 obtain ⟨Inv33,mu34,h0Inv33,hInv33⟩:=h
 refine loD (fun (q:List zj×Int)=>(fun (s_Rules:List zj) (many:Int)=>([(4,vI .u8 rules),(16,.ptr 32 0),(19,vi many),(32,.agg [vL zx ([{ Name:={ data:=#[(73:UInt8),(78:UInt8),(73:UInt8),(84:UInt8),(73:UInt8),(65:UInt8),(76:UInt8)] },Exclusive:=false }]),vB false,oL 60 zy s_Rules])]:Sta)) q.1 q.2) (fun (q:List zj×Int)=>Inv33 q.1 q.2) (fun (q:List zj×Int)=>mu34 q.1 q.2) (([]),(w64 ((560:Int)+Int.tmod (w64 n) (80:Int)))) [] h0Inv33 ?_
 rintro ⟨s_Rules,many⟩ hi
 have h:=hInv33 s_Rules many hi
 refine qD ?_
 refine sD kk [] [] [(67,vB (decide (many > (0:Int))))] obN ?_
 refine cD (t:=22) (b:=decide (many > (0:Int))) (fun hb35=>?_) (fun hb35=>?_)
 ·have h:=h.1 hb35
  refine Sem.skip' (by kernel_rfl) Wk.refl ?_
  show Sem _ _ _ _ _
  refine wkD [67] ?_
  refine bD (id:=1) ?_
  refine sD kk [] [] [(22,vi (if false=true then if w64 ((100:Int)+Int.tmod (w64 rules) (90:Int)) > many then w64 ((100:Int)+Int.tmod (w64 rules) (90:Int)) else many else if w64 ((100:Int)+Int.tmod (w64 rules) (90:Int)) < many then w64 ((100:Int)+Int.tmod (w64 rules) (90:Int)) else many))] (obC (show (90:Int)≠(0:Int) from by first | decide | rfl | trivial) obN) ?_
  refine sDE kk [] [] [(25,.ptr 50 0),(50,.agg [vi 3,vI .u64 0,vI .u64 0,vI .u64 0,vI .u64 0,vi 0,vi 0,.own 28 ([])])] [(25,.ptr 50 0),(50,.agg [vi 3,vI .u64 0,vI .u64 0,vI .u64 0,vI .u64 0,vi 0,vi 0,oL 28 zn ([])])] obN ?_
  refine qD ?_
  refine sD kk [] [] [(28,vi 0)] obN ?_
  refine bD (id:=2) ?_
  obtain ⟨Inv41,mu42,h0Inv41,hInv41⟩:=h
  refine loD (fun (q:List ze×Int)=>(fun (x_Kids_4:List ze) (i_2:Int)=>([(4,vI .u8 rules),(16,.ptr 32 0),(19,vi many),(22,vi (if false=true then if w64 ((100:Int)+Int.tmod (w64 rules) (90:Int)) > many then w64 ((100:Int)+Int.tmod (w64 rules) (90:Int)) else many else if w64 ((100:Int)+Int.tmod (w64 rules) (90:Int)) < many then w64 ((100:Int)+Int.tmod (w64 rules) (90:Int)) else many)),(25,.ptr 50 0),(28,vi i_2),(32,.agg [vL zx ([{ Name:={ data:=#[(73:UInt8),(78:UInt8),(73:UInt8),(84:UInt8),(73:UInt8),(65:UInt8),(76:UInt8)] },Exclusive:=false }]),vB false,oL 60 zy s_Rules]),(50,.agg [vi 3,vI .u64 0,vI .u64 0,vI .u64 0,vI .u64 0,vi 0,vi 0,oL 28 zn x_Kids_4])]:Sta)) q.1 q.2) (fun (q:List ze×Int)=>Inv41 q.1 q.2) (fun (q:List ze×Int)=>mu42 q.1 q.2) (([]),0) [] h0Inv41 ?_
  rintro ⟨x_Kids_4,i_2⟩ hi
  have h:=hInv41 x_Kids_4 i_2 hi
  refine qD ?_
  refine sD kk [] [] [(97,vB (decide (i_2 < if false=true then if w64 ((100:Int)+Int.tmod (w64 rules) (90:Int)) > many then w64 ((100:Int)+Int.tmod (w64 rules) (90:Int)) else many else if w64 ((100:Int)+Int.tmod (w64 rules) (90:Int)) < many then w64 ((100:Int)+Int.tmod (w64 rules) (90:Int)) else many)))] obN ?_
  refine cD (t:=32) (b:=decide (i_2 < if false=true then if w64 ((100:Int)+Int.tmod (w64 rules) (90:Int)) > many then w64 ((100:Int)+Int.tmod (w64 rules) (90:Int)) else many else if w64 ((100:Int)+Int.tmod (w64 rules) (90:Int)) < many then w64 ((100:Int)+Int.tmod (w64 rules) (90:Int)) else many)) (fun hb43=>?_) (fun hb43=>?_)
  ·have h:=h.1 hb43
   refine Sem.skip' (by kernel_rfl) Wk.refl ?_
   show Sem _ _ _ _ _
   refine wkD [97] ?_
   refine qD ?_
   refine bD (id:=3) ?_
   obtain ⟨r0_12,hc44,h⟩:=h
   obtain ⟨h45,h⟩:=h
   refine rDE kk [.c (zdK r0_12) []] [] [(50,.agg [vi 3,vI .u64 0,vI .u64 0,vI .u64 0,vI .u64 0,vi 0,vi 0,.own 28 (List.map zn x_Kids_4++List.take (List.length [FV.agg [FV.pv (Value.int IntKind.i64 (ze.Kind r0_12)),FV.pv (Value.int IntKind.u64 (zb.e0 (ze.Set r0_12))),FV.pv (Value.int IntKind.u64 (zb.e1 (ze.Set r0_12))),FV.pv (Value.int IntKind.u64 (zb.e2 (ze.Set r0_12))),FV.pv (Value.int IntKind.u64 (zb.e3 (ze.Set r0_12))),FV.pv (Value.int IntKind.i64 (ze.Lo r0_12)),FV.pv (Value.int IntKind.i64 (ze.Hi r0_12)),FV.sl (List.take (List.length (List.map zn (ze.Kids r0_12))) (List.drop (0:Nat) (List.map zn (ze.Kids r0_12))))]]) (List.drop (0:Nat) [FV.agg [FV.pv (Value.int IntKind.i64 (ze.Kind r0_12)),FV.pv (Value.int IntKind.u64 (zb.e0 (ze.Set r0_12))),FV.pv (Value.int IntKind.u64 (zb.e1 (ze.Set r0_12))),FV.pv (Value.int IntKind.u64 (zb.e2 (ze.Set r0_12))),FV.pv (Value.int IntKind.u64 (zb.e3 (ze.Set r0_12))),FV.pv (Value.int IntKind.i64 (ze.Lo r0_12)),FV.pv (Value.int IntKind.i64 (ze.Hi r0_12)),FV.sl (List.take (List.length (List.map zn (ze.Kids r0_12))) (List.drop (0:Nat) (List.map zn (ze.Kids r0_12))))]]))])] [(50,.agg [vi 3,vI .u64 0,vI .u64 0,vI .u64 0,vI .u64 0,vi 0,vi 0,oL 28 zn (x_Kids_4++[r0_12])])] (obC hc44 (obC (show (0:Nat)=(0:Nat)∧List.length (List.map zn x_Kids_4)=List.length (List.map zn x_Kids_4) from ⟨rfl,rfl⟩) (obC (show (List.length (List.map zn x_Kids_4)+List.length (List.take (1:Nat) (List.drop (0:Nat) [FV.agg [FV.pv (Value.int IntKind.i64 (ze.Kind r0_12)),FV.pv (Value.int IntKind.u64 (zb.e0 (ze.Set r0_12))),FV.pv (Value.int IntKind.u64 (zb.e1 (ze.Set r0_12))),FV.pv (Value.int IntKind.u64 (zb.e2 (ze.Set r0_12))),FV.pv (Value.int IntKind.u64 (zb.e3 (ze.Set r0_12))),FV.pv (Value.int IntKind.i64 (ze.Lo r0_12)),FV.pv (Value.int IntKind.i64 (ze.Hi r0_12)),FV.sl (List.take (List.length (List.map zn (ze.Kids r0_12))) (List.drop (0:Nat) (List.map zn (ze.Kids r0_12))))]]))) * (80:Nat)≤(2:Nat) ^ (47:Nat) from by simpa only [nm] using h45) (obC (show List.all (List.take (1:Nat) (List.drop (0:Nat) [FV.agg [FV.pv (Value.int IntKind.i64 (ze.Kind r0_12)),FV.pv (Value.int IntKind.u64 (zb.e0 (ze.Set r0_12))),FV.pv (Value.int IntKind.u64 (zb.e1 (ze.Set r0_12))),FV.pv (Value.int IntKind.u64 (zb.e2 (ze.Set r0_12))),FV.pv (Value.int IntKind.u64 (zb.e3 (ze.Set r0_12))),FV.pv (Value.int IntKind.i64 (ze.Lo r0_12)),FV.pv (Value.int IntKind.i64 (ze.Hi r0_12)),FV.sl (List.take (List.length (List.map zn (ze.Kids r0_12))) (List.drop (0:Nat) (List.map zn (ze.Kids r0_12))))]])) (FV.fits (8:Nat))=true from by first | exact zaY _ | exact keysenc_i64 _ | rfl | simp [isByteF,FV.fits,FV.size,FV.cells,FV.one,zP]) obN)))) ?_
   show Sem _ _ _ _ _
   refine rD kk [] [] [(28,vi (w64 (i_2+1)))] obN ?_
   exact lD ((x_Kids_4++[r0_12]),(w64 (i_2+1))) [] h
  ·have h:=h.2 hb43
   refine xD (i:=2) ?_
   show Sem _ _ _ _ _
   refine wkD [28,97] ?_
   obtain ⟨J48,hJ48,h⟩:=h
   refine sjD (fun (q:Int×Int×Int×Int×Int×Int×Int×List ze)=>J48 q.1 q.2.1 q.2.2.1 q.2.2.2.1 q.2.2.2.2.1 q.2.2.2.2.2.1 q.2.2.2.2.2.2.1 q.2.2.2.2.2.2.2) (fun (q:Int×Int×Int×Int×Int×Int×Int×List ze)=>(fun (x_Kind_2:Int) (x_Set_e0_2:Int) (x_Set_e1_2:Int) (x_Set_e2_2:Int) (x_Set_e3_2:Int) (x_Lo_2:Int) (x_Hi_2:Int) (x_Kids_5:List ze)=>([(4,vI .u8 rules),(16,.ptr 32 0),(19,vi many),(22,vi (if false=true then if w64 ((100:Int)+Int.tmod (w64 rules) (90:Int)) > many then w64 ((100:Int)+Int.tmod (w64 rules) (90:Int)) else many else if w64 ((100:Int)+Int.tmod (w64 rules) (90:Int)) < many then w64 ((100:Int)+Int.tmod (w64 rules) (90:Int)) else many)),(25,.ptr 50 0),(32,.agg [vL zx ([{ Name:={ data:=#[(73:UInt8),(78:UInt8),(73:UInt8),(84:UInt8),(73:UInt8),(65:UInt8),(76:UInt8)] },Exclusive:=false }]),vB false,oL 60 zy s_Rules]),(50,.agg [vi x_Kind_2,vI .u64 x_Set_e0_2,vI .u64 x_Set_e1_2,vI .u64 x_Set_e2_2,vI .u64 x_Set_e3_2,vi x_Lo_2,vi x_Hi_2,oL 28 zn x_Kids_5])]:Sta)) q.1 q.2.1 q.2.2.1 q.2.2.2.1 q.2.2.2.2.1 q.2.2.2.2.2.1 q.2.2.2.2.2.2.1 q.2.2.2.2.2.2.2) ?_ ?_
   ·rintro ⟨x_Kind_2,x_Set_e0_2,x_Set_e1_2,x_Set_e2_2,x_Set_e3_2,x_Lo_2,x_Hi_2,x_Kids_5⟩ hj
    have h:=hJ48 x_Kind_2 x_Set_e0_2 x_Set_e1_2 x_Set_e2_2 x_Set_e3_2 x_Lo_2 x_Hi_2 x_Kids_5 hj
    obtain ⟨h49,h⟩:=h
    refine sDE kk [] [25,50] [(32,.agg [vL zx ([{ Name:={ data:=#[(73:UInt8),(78:UInt8),(73:UInt8),(84:UInt8),(73:UInt8),(65:UInt8),(76:UInt8)] },Exclusive:=false }]),vB false,.own 60 (List.map zy s_Rules++List.take (List.length [FV.agg [FV.sl (List.take (List.length ([]:List FV)) (List.drop (0:Nat) [])),FV.pv (Value.bool false),FV.pv (Value.bool false),FV.pv (Value.int IntKind.i64 x_Kind_2),FV.pv (Value.int IntKind.u64 x_Set_e0_2),FV.pv (Value.int IntKind.u64 x_Set_e1_2),FV.pv (Value.int IntKind.u64 x_Set_e2_2),FV.pv (Value.int IntKind.u64 x_Set_e3_2),FV.pv (Value.int IntKind.i64 x_Lo_2),FV.pv (Value.int IntKind.i64 x_Hi_2),FV.sl (List.take (List.length (List.map zn x_Kids_5)) (List.drop (0:Nat) (List.map zn x_Kids_5))),FV.pv (Value.int IntKind.i64 (0)),FV.pv (Value.int IntKind.u64 (0)),FV.pv (Value.int IntKind.u64 (0)),FV.pv (Value.int IntKind.u64 (0)),FV.pv (Value.int IntKind.u64 (0)),FV.pv (Value.int IntKind.i64 (0)),FV.pv (Value.int IntKind.i64 (0)),FV.sl (List.take (List.length ([]:List FV)) (List.drop (0:Nat) [])),FV.pv (Value.bool false),FV.pv (Value.int IntKind.i64 (1)),FV.pv (Value.int IntKind.i64 (0))]]) (List.drop (0:Nat) [FV.agg [FV.sl (List.take (List.length ([]:List FV)) (List.drop (0:Nat) [])),FV.pv (Value.bool false),FV.pv (Value.bool false),FV.pv (Value.int IntKind.i64 x_Kind_2),FV.pv (Value.int IntKind.u64 x_Set_e0_2),FV.pv (Value.int IntKind.u64 x_Set_e1_2),FV.pv (Value.int IntKind.u64 x_Set_e2_2),FV.pv (Value.int IntKind.u64 x_Set_e3_2),FV.pv (Value.int IntKind.i64 x_Lo_2),FV.pv (Value.int IntKind.i64 x_Hi_2),FV.sl (List.take (List.length (List.map zn x_Kids_5)) (List.drop (0:Nat) (List.map zn x_Kids_5))),FV.pv (Value.int IntKind.i64 (0)),FV.pv (Value.int IntKind.u64 (0)),FV.pv (Value.int IntKind.u64 (0)),FV.pv (Value.int IntKind.u64 (0)),FV.pv (Value.int IntKind.u64 (0)),FV.pv (Value.int IntKind.i64 (0)),FV.pv (Value.int IntKind.i64 (0)),FV.sl (List.take (List.length ([]:List FV)) (List.drop (0:Nat) [])),FV.pv (Value.bool false),FV.pv (Value.int IntKind.i64 (1)),FV.pv (Value.int IntKind.i64 (0))]]))])] [(32,.agg [vL zx ([{ Name:={ data:=#[(73:UInt8),(78:UInt8),(73:UInt8),(84:UInt8),(73:UInt8),(65:UInt8),(76:UInt8)] },Exclusive:=false }]),vB false,oL 60 zy (s_Rules++[{ Conds:=[],All:=false,Bol:=false,Rx:={ Kind:=x_Kind_2,Set:={ e0:=x_Set_e0_2,e1:=x_Set_e1_2,e2:=x_Set_e2_2,e3:=x_Set_e3_2 },Lo:=x_Lo_2,Hi:=x_Hi_2,Kids:=x_Kids_5 },Trail:={ Kind:=(0:Int),Set:={ e0:=(0:Int),e1:=(0:Int),e2:=(0:Int),e3:=(0:Int) },Lo:=(0:Int),Hi:=(0:Int),Kids:=[] },Eof:=false,Act:=(1:Int),To:=(0:Int) }])])] (obC (show (0:Nat)=(0:Nat)∧List.length (List.map zy s_Rules)=List.length (List.map zy s_Rules) from ⟨rfl,rfl⟩) (obC (show (List.length (List.map zy s_Rules)+List.length (List.take (1:Nat) (List.drop (0:Nat) [FV.agg [FV.sl (List.take (0:Nat) (List.drop (0:Nat) [])),FV.pv (Value.bool false),FV.pv (Value.bool false),FV.pv (Value.int IntKind.i64 x_Kind_2),FV.pv (Value.int IntKind.u64 x_Set_e0_2),FV.pv (Value.int IntKind.u64 x_Set_e1_2),FV.pv (Value.int IntKind.u64 x_Set_e2_2),FV.pv (Value.int IntKind.u64 x_Set_e3_2),FV.pv (Value.int IntKind.i64 x_Lo_2),FV.pv (Value.int IntKind.i64 x_Hi_2),FV.sl (List.take (List.length (List.map zn x_Kids_5)) (List.drop (0:Nat) (List.map zn x_Kids_5))),FV.pv (Value.int IntKind.i64 (0)),FV.pv (Value.int IntKind.u64 (0)),FV.pv (Value.int IntKind.u64 (0)),FV.pv (Value.int IntKind.u64 (0)),FV.pv (Value.int IntKind.u64 (0)),FV.pv (Value.int IntKind.i64 (0)),FV.pv (Value.int IntKind.i64 (0)),FV.sl (List.take (0:Nat) (List.drop (0:Nat) [])),FV.pv (Value.bool false),FV.pv (Value.int IntKind.i64 (1)),FV.pv (Value.int IntKind.i64 (0))]]))) * (216:Nat)≤(2:Nat) ^ (47:Nat) from by simpa only [nm] using h49) (obC (show List.all (List.take (1:Nat) (List.drop (0:Nat) [FV.agg [FV.sl (List.take (0:Nat) (List.drop (0:Nat) [])),FV.pv (Value.bool false),FV.pv (Value.bool false),FV.pv (Value.int IntKind.i64 x_Kind_2),FV.pv (Value.int IntKind.u64 x_Set_e0_2),FV.pv (Value.int IntKind.u64 x_Set_e1_2),FV.pv (Value.int IntKind.u64 x_Set_e2_2),FV.pv (Value.int IntKind.u64 x_Set_e3_2),FV.pv (Value.int IntKind.i64 x_Lo_2),FV.pv (Value.int IntKind.i64 x_Hi_2),FV.sl (List.take (List.length (List.map zn x_Kids_5)) (List.drop (0:Nat) (List.map zn x_Kids_5))),FV.pv (Value.int IntKind.i64 (0)),FV.pv (Value.int IntKind.u64 (0)),FV.pv (Value.int IntKind.u64 (0)),FV.pv (Value.int IntKind.u64 (0)),FV.pv (Value.int IntKind.u64 (0)),FV.pv (Value.int IntKind.i64 (0)),FV.pv (Value.int IntKind.i64 (0)),FV.sl (List.take (0:Nat) (List.drop (0:Nat) [])),FV.pv (Value.bool false),FV.pv (Value.int IntKind.i64 (1)),FV.pv (Value.int IntKind.i64 (0))]])) (FV.fits (22:Nat))=true from by first | exact fits_bool _ | exact keysenc_bool _ | rfl | simp [isByteF,FV.fits,FV.size,FV.cells,FV.one,zP]) obN))) ?_
    refine rD kk [] [22] [(19,vi (w64 (many - if false=true then if w64 ((100:Int)+Int.tmod (w64 rules) (90:Int)) > many then w64 ((100:Int)+Int.tmod (w64 rules) (90:Int)) else many else if w64 ((100:Int)+Int.tmod (w64 rules) (90:Int)) < many then w64 ((100:Int)+Int.tmod (w64 rules) (90:Int)) else many)))] obN ?_
    exact lD ((s_Rules++[{ Conds:=[],All:=false,Bol:=false,Rx:={ Kind:=x_Kind_2,Set:={ e0:=x_Set_e0_2,e1:=x_Set_e1_2,e2:=x_Set_e2_2,e3:=x_Set_e3_2 },Lo:=x_Lo_2,Hi:=x_Hi_2,Kids:=x_Kids_5 },Trail:={ Kind:=(0:Int),Set:={ e0:=(0:Int),e1:=(0:Int),e2:=(0:Int),e3:=(0:Int) },Lo:=(0:Int),Hi:=(0:Int),Kids:=[] },Eof:=false,Act:=(1:Int),To:=(0:Int) }]),(w64 (many - if false=true then if w64 ((100:Int)+Int.tmod (w64 rules) (90:Int)) > many then w64 ((100:Int)+Int.tmod (w64 rules) (90:Int)) else many else if w64 ((100:Int)+Int.tmod (w64 rules) (90:Int)) < many then w64 ((100:Int)+Int.tmod (w64 rules) (90:Int)) else many))) [] h
   ·refine sD kk [] [] [(127,vB ((if false=true then if w64 ((100:Int)+Int.tmod (w64 rules) (90:Int)) > many then w64 ((100:Int)+Int.tmod (w64 rules) (90:Int)) else many else if w64 ((100:Int)+Int.tmod (w64 rules) (90:Int)) < many then w64 ((100:Int)+Int.tmod (w64 rules) (90:Int)) else many) == 1))] obN ?_
    refine cD (t:=42) (b:=(if false=true then if w64 ((100:Int)+Int.tmod (w64 rules) (90:Int)) > many then w64 ((100:Int)+Int.tmod (w64 rules) (90:Int)) else many else if w64 ((100:Int)+Int.tmod (w64 rules) (90:Int)) < many then w64 ((100:Int)+Int.tmod (w64 rules) (90:Int)) else many) == 1) (fun hb50=>?_) (fun hb50=>?_)
    ·have h:=h.1 hb50
     obtain ⟨r0_14,hc51,h⟩:=h
     refine rD kk [.c (zdK r0_14) []] [127] [(50,zdK r0_14)] (obC hc51 obN) ?_
     exact jD ((ze.Kind r0_14),(zb.e0 (ze.Set r0_14)),(zb.e1 (ze.Set r0_14)),(zb.e2 (ze.Set r0_14)),(zb.e3 (ze.Set r0_14)),(ze.Lo r0_14),(ze.Hi r0_14),(ze.Kids r0_14)) [] h
    ·have h:=h.2 hb50
     refine Sem.skip' (by kernel_rfl) Wk.refl ?_
     exact jD (3,0,0,0,0,0,0,x_Kids_4) [] h
 ·have h:=h.2 hb35
  refine xD (i:=0) ?_
  show Sem _ _ _ _ _
  refine wkD [4,19,67] ?_
  obtain ⟨r0_15,r0_16,hc52,h⟩:=h
  refine sD kk [.c (.tup [zbo r0_15,vi r0_16]) []] [] [(32,.agg [vL zx ([{ Name:={ data:=#[(73:UInt8),(78:UInt8),(73:UInt8),(84:UInt8),(73:UInt8),(65:UInt8),(76:UInt8)] },Exclusive:=false }]),vB false,vL zy s_Rules]),(34,vi r0_16)] (obC (Eq.mp (by unfold zbU;(try simp only [List.drop_zero,List.take_length]);first | done | simp only [nm,enq]:zbU ({ Conds:=[{ Name:={ data:=#[(73:UInt8),(78:UInt8),(73:UInt8),(84:UInt8),(73:UInt8),(65:UInt8),(76:UInt8)] },Exclusive:=false }],Default:=false,Rules:=s_Rules }) r0_15 r0_16=CallE Tryz.prog 15 [.agg [vL zx ([{ Name:={ data:=#[(73:UInt8),(78:UInt8),(73:UInt8),(84:UInt8),(73:UInt8),(65:UInt8),(76:UInt8)] },Exclusive:=false }]),vB false,.f (FV.sl (List.take (List.length (List.map zy s_Rules)) (List.drop (0:Nat) (List.map zy s_Rules))))]] [] (.tup [zbo r0_15,vi r0_16]) []) hc52) obN) ?_
  obtain ⟨r0_17,r0_18,hc53,h⟩:=h
  refine sD kk [.c (.tup [zbo r0_17,vi r0_18]) []] [16,32] [(40,vi r0_18)] (obC hc53 obN) ?_
  obtain ⟨r0_19,hc54,h⟩:=h
  refine sM [34,40] [(13,vB (r0_19 && r0_16 == r0_18))] ?_ (fun hk0=>?_)
  ·refine tD ?_
   obtain he0:=h
   subst res
   exact (endD [] (vB (r0_19 && r0_16 == r0_18)) []).1
  ·rcases Bool.eq_false_or_eq_true (r0_19) with hb55 | hb55
   ·refine sD kk [.c (vB r0_19) [],bT,bT,bT,bT] [34,40] [(13,vB (r0_16 == r0_18))] (obC hc54 (obC (gtt hb55) (obC (gtt hb55) (obC (gtt hb55) (obC hb55 obN))))) ?_
    exact Sem.cast (by try rw [hb55];kernel_rfl) hk0
   ·refine sD kk [.c (vB r0_19) [],bF,bF,bF,bF] [34,40] [(13,vB false)] (obC hc54 (obC (gtf hb55) (obC (gtf hb55) (obC (gtf hb55) (obC hb55 obN))))) ?_
    exact Sem.cast (by try rw [hb55];kernel_rfl) hk0
end Go.Ev
set_option linter.unusedSimpArgs false
set_option linter.unusedVariables false
namespace Go.Ev
open Go Go.Proofs
def orBit (w:Int) (i:Int):Int:=IntKind.u64.wrap (BitVec.ofInt IntKind.u64.bits w ||| BitVec.ofInt IntKind.u64.bits (IntKind.u64.wrap (1 * 2 ^ min i.toNat IntKind.u64.bits))).toNat
def setAdd (s:zb) (i:Int):zb:=
 if i < 64 then { s with e0:=orBit s.e0 i } else if i < 128 then { s with e1:=orBit s.e1 (i - 64) } else if i < 192 then { s with e2:=orBit s.e2 (i - 128) } else { s with e3:=orBit s.e3 (i - 192) }
theorem w64_id0 {n:Int} (h0:-2 ^ 63≤n) (h1:n < 2 ^ 63):w64 n=n:=wrap64 (by omega) (by omega)
theorem quot64 (i:Int) (h0:0≤i) (h1:i < 256):w64 (Int.tdiv i 64)=i / 64∧i.tmod 64=i - 64 * (i / 64)∧0≤i.tmod 64:=by
 rw [Int.tdiv_eq_ediv_of_nonneg h0,Int.tmod_eq_emod_of_nonneg h0]
 exact ⟨w64_id0 (by omega) (by omega),by omega,by omega⟩
theorem zfa (s:zb) (i:Int) (h0:0≤i) (h1:i < 256):zcf s i (setAdd s i):=by
 obtain ⟨q,m,hm⟩:=quot64 i h0 h1
 refine zfH s i _ ?_
 rw [q,m]
 refine ⟨by omega,fun h=>⟨fun _=>by omega,?_⟩,fun h=>⟨fun _=>by omega,?_⟩,fun h=>⟨fun _=>by omega,?_⟩,fun h=>⟨fun _=>by omega,?_⟩⟩
 all_goals
  have h:=of_decide_eq_true h
  rw [h]
 ·simp [setAdd,show i < 64 by omega,orBit]
 ·simp [setAdd,show ¬ i < 64 by omega,show i < 128 by omega,orBit]
 ·simp [setAdd,show ¬ i < 64 by omega,show ¬ i < 128 by omega,show i < 192 by omega,orBit]
 ·simp [setAdd,show ¬ i < 64 by omega,show ¬ i < 128 by omega,show ¬ i < 192 by omega,orBit]
def bitOf (w:Int) (i:Int):Bool:=IntKind.u64.wrap (BitVec.ofInt IntKind.u64.bits (w.fdiv (2 ^ min i.toNat IntKind.u64.bits)) &&& BitVec.ofInt IntKind.u64.bits 1).toNat == 1
def setHas (s:zb) (i:Int):Bool:=
 if i < 0 then false else if i < 64 then bitOf s.e0 i else if i < 128 then bitOf s.e1 (i - 64) else if i < 192 then bitOf s.e2 (i - 128) else if i < 256 then bitOf s.e3 (i - 192) else false
end Go.Ev
set_option linter.unusedSimpArgs false
set_option linter.unusedVariables false
namespace Go.Ev
open Go Go.Proofs
theorem zT {x:Int} (h0:-9223372036854775808≤x) (h1:x≤9223372036854775807):w64 x=x:=wrap64 h0 (by omega)
end Go.Ev
set_option linter.unusedSimpArgs false
set_option linter.unusedVariables false
namespace Go.Ev.Pl
open Go Go.Ev
abbrev SS (l:List Int):Prop:=l.Pairwise (· < ·)
theorem zhC:∀ {a b:List Int},SS a→SS b→(∀ x,x∈a↔x∈b)→a=b
 | [],[],_,_,_=>rfl
 | [],y :: b,_,_,h=>by have:=(h y).2 (List.mem_cons_self ..);simp at this
 | x :: a,[],_,_,h=>by have:=(h x).1 (List.mem_cons_self ..);simp at this
 | x :: a,y :: b,ha,hb,h=>by
   have ha:=List.pairwise_cons.1 ha
   have hb:=List.pairwise_cons.1 hb
   have hxy:x=y:=by
    rcases List.mem_cons.1 ((h x).1 (List.mem_cons_self ..)) with e | e
    ·exact e
    ·rcases List.mem_cons.1 ((h y).2 (List.mem_cons_self ..)) with e' | e'
     ·exact e'.symm
     ·have:=hb.1 x e;have:=ha.1 y e';omega
   subst hxy
   rw [zhC ha.2 hb.2]
   intro z
   constructor
   ·intro hz
    rcases List.mem_cons.1 ((h z).1 (List.mem_cons_of_mem _ hz)) with e | e
    ·subst e;have:=ha.1 z hz;omega
    ·exact e
   ·intro hz
    rcases List.mem_cons.1 ((h z).2 (List.mem_cons_of_mem _ hz)) with e | e
    ·subst e;have:=hb.1 z hz;omega
    ·exact e
def join (a b:List Int):List Int:=compactInts (sortInts (a++b))
theorem upTo_spec (zs:List Int) (hs:zs.Pairwise (·≤·)):∀ m,m≤zs.length→SS (Lib.compactUpTo zs.toArray m)∧∀ x,x∈Lib.compactUpTo zs.toArray m↔x∈zs.take m:=by
 intro m
 induction m with
 | zero=>intro _;simp [Lib.compactUpTo]
 | succ m ih=>
   intro hm
   obtain ⟨h1,h2⟩:=ih (by omega)
   have hg:zs.toArray[m]! = zs[m]'(by omega):=by simp [getElem!_pos,show m < zs.length by omega]
   have ht:∀ x,x∈zs.take (m+1)↔x∈zs.take m∨x=zs[m]'(by omega):=by
    intro x;rw [List.take_succ_eq_append_getElem (by omega),List.mem_append,List.mem_singleton]
   have hle:∀ x∈zs.take m,x≤zs[m]'(by omega):=by
    intro x hx
    obtain ⟨i,hi,rfl⟩:=List.mem_iff_getElem.1 hx
    simp only [List.length_take] at hi
    rw [List.getElem_take]
    exact List.pairwise_iff_getElem.1 hs i m (by omega) (by omega) (by omega)
   rw [Lib.compactUpTo_succ,hg]
   by_cases hk:Lib.keeps zs.toArray m=true
   ·rw [if_pos hk]
    refine ⟨List.pairwise_append.2 ⟨h1,by simp,fun x hx y hy=>?_⟩,fun x=>?_⟩
    ·simp at hy;subst hy
     have hx:=(h2 x).1 hx
     have h3:=hle x hx
     simp only [Lib.keeps,decide_eq_true_eq] at hk
     rcases hk with rfl | hk
     ·simp at hx
     ·have hm0:m≠0:=by rintro rfl;simp at hx
      have hg':zs.toArray[m - 1]! = zs[m - 1]'(by omega):=by simp [getElem!_pos,show m - 1 < zs.length by omega]
      rw [hg,hg'] at hk
      obtain ⟨i,hi,rfl⟩:=List.mem_iff_getElem.1 hx
      simp only [List.length_take] at hi
      rw [List.getElem_take] at h3 ⊢
      have h5:zs[i]'(by omega)≤zs[m - 1]'(by omega):=by
       by_cases e:i=m - 1
       ·subst e;exact Int.le_refl _
       ·exact List.pairwise_iff_getElem.1 hs i (m - 1) (by omega) (by omega) (by omega)
      have h6:zs[m - 1]'(by omega)≤zs[m]'(by omega):=List.pairwise_iff_getElem.1 hs (m - 1) m (by omega) (by omega) (by omega)
      have:zs[m - 1]'(by omega)≠zs[m]'(by omega):=fun e=>hk e.symm
      omega
    ·rw [ht];simp [h2]
   ·rw [if_neg hk]
    refine ⟨by simpa using h1,fun x=>?_⟩
    rw [List.append_nil,ht,h2]
    constructor
    ·exact .inl
    ·rintro (h | rfl)
     ·exact h
     ·simp only [Lib.keeps,decide_eq_true_eq,not_or,Decidable.not_not] at hk
      obtain ⟨hm0,hk⟩:=hk
      have hg':zs.toArray[m - 1]! = zs[m - 1]'(by omega):=by simp [getElem!_pos,show m - 1 < zs.length by omega]
      rw [hg,hg'] at hk
      rw [hk]
      refine List.mem_iff_getElem.2 ⟨m - 1,by simp;omega,by rw [List.getElem_take]⟩
theorem sort_spec (l:List Int):(sortInts l).Pairwise (·≤·)∧∀ x,x∈sortInts l↔x∈l:=by
 refine ⟨?_,fun x=>by simp [sortInts]⟩
 have:=List.pairwise_mergeSort (le:=fun x y:Int=>decide (x≤y)) (fun a b c h1 h2=>by simp at *;omega) (fun a b=>by simp;omega) l
 exact this.imp (by simp)
theorem zci (a b:List Int):SS (join a b)∧∀ x,x∈join a b↔x∈a∨x∈b:=by
 obtain ⟨h1,h2⟩:=sort_spec (a++b)
 obtain ⟨h3,h4⟩:=upTo_spec _ h1 _ (Nat.le_refl _)
 refine ⟨h3,fun x=>?_⟩
 show x∈Lib.compactUpTo _ _↔_
 rw [h4,List.take_length,h2,List.mem_append]
theorem sort_len (l:List Int):(sortInts l).length=l.length:=by simp [sortInts]
theorem join_len (a b:List Int):(join a b).length≤a.length+b.length:=by
 have:=Lib.compact_length_le (sortInts (a++b))
 rw [sort_len,List.length_append] at this
 exact this
def addL:List Int→List Int→List Int
 | [],b=>b
 | a,[]=>a
 | x :: a,y :: b=>if x < y then x :: addL a (y :: b) else if y < x then y :: addL (x :: a) b else x :: addL a b
 termination_by a b=>a.length+b.length
theorem zdj:∀ (a b:List Int) (x:Int),x∈addL a b↔x∈a∨x∈b
 | [],b,z=>by simp [addL]
 | x :: a,[],z=>by simp [addL]
 | x :: a,y :: b,z=>by
   rw [addL]
   split
   ·rw [List.mem_cons,zdj a (y :: b)];grind
   ·split
    ·rw [List.mem_cons,zdj (x :: a) b];grind
    ·rw [List.mem_cons,zdj a b];grind
 termination_by a b=>a.length+b.length
theorem zho:∀ {a b:List Int},SS a→SS b→SS (addL a b)
 | [],b,_,hb=>by rw [addL];exact hb
 | x :: a,[],ha,_=>by rw [addL];exact ha;simp
 | x :: a,y :: b,ha,hb=>by
   have ha':=List.pairwise_cons.1 ha
   have hb':=List.pairwise_cons.1 hb
   rw [addL]
   split
   ·refine List.pairwise_cons.2 ⟨fun z hz=>?_,zho ha'.2 hb⟩
    rw [zdj] at hz;grind
   ·split
    ·refine List.pairwise_cons.2 ⟨fun z hz=>?_,zho ha hb'.2⟩
     rw [zdj] at hz;grind
    ·refine List.pairwise_cons.2 ⟨fun z hz=>?_,zho ha'.2 hb'.2⟩
     rw [zdj] at hz;grind
 termination_by a b=>a.length+b.length
theorem zdD {a b:List Int} (ha:SS a) (hb:SS b):join a b=addL a b:=
 zhC (zci a b).1 (zho ha hb) fun x=>by rw [(zci a b).2,zdj]
end Go.Ev.Pl
