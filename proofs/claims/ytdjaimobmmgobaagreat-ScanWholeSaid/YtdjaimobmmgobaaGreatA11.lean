import Derived.Test.YtdjaimobmmgobaaGreatA10
set_option linter.unusedSimpArgs false
set_option linter.unusedVariables false
namespace Go.Ev
open Go Go.Proofs
set_option maxRecDepth 8000
set_option maxHeartbeats 1000000
theorem zgd (res:Bool)
 (h:(∃ r0:zd,zcz r0∧(∃ r0_1:zi,∃ r0_2:Int,zbA r0 ({ data:=#[(97:UInt8),(97:UInt8),(98:UInt8)] }) r0_1 r0_2∧(∃ r0_3:zi,∃ r0_4:Int,zbA ({ Spec:={ Conds:=[],Default:=false,Rules:=[] },Tables:={ Map:=[],Width:=(0:Int),Base:=[],Default:=[],Next:=[],Check:=[],Accept:=[],Start:=[] } }) ({ data:=#[] }) r0_3 r0_4∧((r0_2 == 0)=true→(((↑(List.length (List.map zp (zi.Tokens r0_1))):Int) == (2:Int))=true→(0:Nat) < List.length (zi.Tokens r0_1)))∧((r0_2 == 0)=true→(((↑(List.length (List.map zp (zi.Tokens r0_1))):Int) == (2:Int))=true→((zC.Rule (List.getD (zi.Tokens r0_1) (0:Nat) default) == 0 && (zC.Start (List.getD (zi.Tokens r0_1) (0:Nat) default) == 0 && (zC.End (List.getD (zi.Tokens r0_1) (0:Nat) default) == (2:Int) && (zC.Cond (List.getD (zi.Tokens r0_1) (0:Nat) default) == 0 && true))))=true→(1:Int) < ↑(List.length (zi.Tokens r0_1)))))∧(res=(r0_2 == 0 && ((↑(List.length (zi.Tokens r0_1)):Int) == (2:Int) && (zC.Rule (List.getD (zi.Tokens r0_1) (0:Nat) default) == 0 && (zC.Start (List.getD (zi.Tokens r0_1) (0:Nat) default) == 0 && (zC.End (List.getD (zi.Tokens r0_1) (0:Nat) default) == (2:Int) && (zC.Cond (List.getD (zi.Tokens r0_1) (0:Nat) default) == 0 && true))) && (zC.Rule (gd (zi.Tokens r0_1) (1:Int)) == (-1:Int) && (zC.Start (gd (zi.Tokens r0_1) (1:Int)) == (2:Int) && (zC.End (gd (zi.Tokens r0_1) (1:Int)) == (3:Int) && (zC.Cond (gd (zi.Tokens r0_1) (1:Int)) == 0 && true))) && (zi.Jam r0_1 == (-1:Int) && r0_4 == 1)))))))))):zbC res:=by
 have kk:=cfOk [] 48;refine fE kk Tryz.func11 [] ?_;refine sD kk [] [] [] obN ?_;obtain ⟨r0,hc0,h⟩:=h;obtain ⟨r0_1,r0_2,hc1,h⟩:=h;refine sD kk [.c (zE r0) [],.c (.tup [zaU r0_1,vi r0_2]) []] [] [(4,.ptr 8 0),(7,vi r0_2),(8,zaU r0_1)] (obC hc0 (obC hc1 obN)) ?_;obtain ⟨r0_3,r0_4,hc2,h⟩:=h;refine sD kk [.c (.tup [zaU r0_3,vi r0_4]) []] [] [(13,vi r0_4)] (obC (Eq.mp (by unfold zbA;(try simp only [List.drop_zero,List.take_length]);first | done | simp only [nm,enq]:zbA ({ Spec:={ Conds:=[],Default:=false,Rules:=[] },Tables:={ Map:=[],Width:=(0:Int),Base:=[],Default:=[],Next:=[],Check:=[],Accept:=[],Start:=[] } }) ({ data:=#[] }) r0_3 r0_4=CallE Tryz.prog 16 [.agg [.f (FV.sl []),vB false,.f (FV.sl []),.f (FV.sl []),vi 0,.f (FV.sl []),.f (FV.sl []),.f (FV.sl []),.f (FV.sl []),.f (FV.sl []),.f (FV.sl [])],vS ({ data:=#[] })] [] (.tup [zaU r0_3,vi r0_4]) []) hc2) obN) ?_;obtain ⟨h5,h7,h⟩:=h;refine sM [4,7,8,13] [(1,vB (r0_2 == 0 && ((↑(List.length (List.map zp (zi.Tokens r0_1))):Int) == (2:Int) && (zC.Rule (List.getD (zi.Tokens r0_1) (0:Nat) default) == 0 && (zC.Start (List.getD (zi.Tokens r0_1) (0:Nat) default) == 0 && (zC.End (List.getD (zi.Tokens r0_1) (0:Nat) default) == (2:Int) && (zC.Cond (List.getD (zi.Tokens r0_1) (0:Nat) default) == 0 && true))) && (zC.Rule (gd (zi.Tokens r0_1) (1:Int)) == (-1:Int) && (zC.Start (gd (zi.Tokens r0_1) (1:Int)) == (2:Int) && (zC.End (gd (zi.Tokens r0_1) (1:Int)) == (3:Int) && (zC.Cond (gd (zi.Tokens r0_1) (1:Int)) == 0 && true))) && (zi.Jam r0_1 == (-1:Int) && r0_4 == 1))))))] ?_ (fun hk0=>?_)
 ·refine tD ?_;obtain he0:=h;subst res;exact (endD [] (vB (r0_2 == 0 && ((↑(List.length (List.map zp (zi.Tokens r0_1))):Int) == (2:Int) && (zC.Rule (List.getD (zi.Tokens r0_1) (0:Nat) default) == 0 && (zC.Start (List.getD (zi.Tokens r0_1) (0:Nat) default) == 0 && (zC.End (List.getD (zi.Tokens r0_1) (0:Nat) default) == (2:Int) && (zC.Cond (List.getD (zi.Tokens r0_1) (0:Nat) default) == 0 && true))) && (zC.Rule (gd (zi.Tokens r0_1) (1:Int)) == (-1:Int) && (zC.Start (gd (zi.Tokens r0_1) (1:Int)) == (2:Int) && (zC.End (gd (zi.Tokens r0_1) (1:Int)) == (3:Int) && (zC.Cond (gd (zi.Tokens r0_1) (1:Int)) == 0 && true))) && (zi.Jam r0_1 == (-1:Int) && r0_4 == 1)))))) []).1
 ·rcases Bool.eq_false_or_eq_true (r0_2 == 0) with hb3 | hb3
  ·rcases Bool.eq_false_or_eq_true ((↑(List.length (List.map zp (zi.Tokens r0_1))):Int) == (2:Int)) with hb4 | hb4
   ·rcases Bool.eq_false_or_eq_true (zC.Rule (List.getD (zi.Tokens r0_1) (0:Nat) default) == 0 && (zC.Start (List.getD (zi.Tokens r0_1) (0:Nat) default) == 0 && (zC.End (List.getD (zi.Tokens r0_1) (0:Nat) default) == (2:Int) && (zC.Cond (List.getD (zi.Tokens r0_1) (0:Nat) default) == 0 && true)))) with hb6 | hb6
    ·rcases Bool.eq_false_or_eq_true (zC.Rule (gd (zi.Tokens r0_1) (1:Int)) == (-1:Int) && (zC.Start (gd (zi.Tokens r0_1) (1:Int)) == (2:Int) && (zC.End (gd (zi.Tokens r0_1) (1:Int)) == (3:Int) && (zC.Cond (gd (zi.Tokens r0_1) (1:Int)) == 0 && true)))) with hb8 | hb8
     ·rcases Bool.eq_false_or_eq_true (zi.Jam r0_1 == (-1:Int)) with hb9 | hb9
      ·refine sD kk [bT,bT,bT,bT,bT,bT,bT,bT,.e (zap (List.getD (zi.Tokens r0_1) (0:Nat) default)),bT,bT,bT,bT,bT,bT,bT,.e (zap (gd (zi.Tokens r0_1) (1:Int))),bT,bT,bT,bT,bT,bT,bT,bT,bT,bT,bT] [4,7,8,13] [(1,vB (r0_4 == 1))] (obC (gtt hb3) (obC (gtt hb3) (obC (gtt hb3) (obC (gtt hb3) (obC hb3 (obC (gtt hb4) (obC (gtt hb4) (obC (gtt hb4) (obC (show (0:Int)≤(0:Int) from by first | decide | rfl | trivial) (obC (show (List.map zp (zi.Tokens r0_1))[(Int.toNat (0:Int):Nat)]?=some (zap (List.getD (zi.Tokens r0_1) (0:Nat) default)) from by have:=zbM zp (zi.Tokens r0_1) ((0:Nat)) _ (z7 _) ((h5 hb3) hb4);simpa only [nm,enq,z7] using this) (obC (gtt hb4) (obC (gtt hb4) (obC (gtt hb4) (obC hb4 (obC (gtt hb6) (obC (gtt hb6) (obC (gtt hb6) (obC (show (0:Int)≤(1:Int) from by first | decide | rfl | trivial) (obC (zbu zp (zi.Tokens r0_1) 1 _ (z7 _) (by decide) (((h7 hb3) hb4) hb6)) (obC (gtt hb6) (obC (gtt hb6) (obC (gtt hb6) (obC hb6 (obC (gtt hb8) (obC (gtt hb8) (obC (gtt hb8) (obC hb8 (obC (gtt hb9) (obC (gtt hb9) (obC hb9 obN)))))))))))))))))))))))))))))) ?_;exact Sem.cast (by try rw [hb3];try rw [hb4];try rw [hb6];try rw [hb8];try rw [hb9];kernel_rfl) hk0
      ·refine sD kk [bT,bT,bT,bT,bT,bT,bT,bT,.e (zap (List.getD (zi.Tokens r0_1) (0:Nat) default)),bT,bT,bT,bT,bT,bT,bT,.e (zap (gd (zi.Tokens r0_1) (1:Int))),bT,bT,bT,bT,bT,bT,bT,bT,bF,bF,bF] [4,7,8,13] [(1,vB false)] (obC (gtt hb3) (obC (gtt hb3) (obC (gtt hb3) (obC (gtt hb3) (obC hb3 (obC (gtt hb4) (obC (gtt hb4) (obC (gtt hb4) (obC (show (0:Int)≤(0:Int) from by first | decide | rfl | trivial) (obC (show (List.map zp (zi.Tokens r0_1))[(Int.toNat (0:Int):Nat)]?=some (zap (List.getD (zi.Tokens r0_1) (0:Nat) default)) from by have:=zbM zp (zi.Tokens r0_1) ((0:Nat)) _ (z7 _) ((h5 hb3) hb4);simpa only [nm,enq,z7] using this) (obC (gtt hb4) (obC (gtt hb4) (obC (gtt hb4) (obC hb4 (obC (gtt hb6) (obC (gtt hb6) (obC (gtt hb6) (obC (show (0:Int)≤(1:Int) from by first | decide | rfl | trivial) (obC (zbu zp (zi.Tokens r0_1) 1 _ (z7 _) (by decide) (((h7 hb3) hb4) hb6)) (obC (gtt hb6) (obC (gtt hb6) (obC (gtt hb6) (obC hb6 (obC (gtt hb8) (obC (gtt hb8) (obC (gtt hb8) (obC hb8 (obC (gtf hb9) (obC (gtf hb9) (obC hb9 obN)))))))))))))))))))))))))))))) ?_;exact Sem.cast (by try rw [hb3];try rw [hb4];try rw [hb6];try rw [hb8];try rw [hb9];kernel_rfl) hk0
     ·refine sD kk [bT,bT,bT,bT,bT,bT,bT,bT,.e (zap (List.getD (zi.Tokens r0_1) (0:Nat) default)),bT,bT,bT,bT,bT,bT,bT,.e (zap (gd (zi.Tokens r0_1) (1:Int))),bT,bT,bT,bT,bF,bF,bF,bF,bF,bF,bF] [4,7,8,13] [(1,vB false)] (obC (gtt hb3) (obC (gtt hb3) (obC (gtt hb3) (obC (gtt hb3) (obC hb3 (obC (gtt hb4) (obC (gtt hb4) (obC (gtt hb4) (obC (show (0:Int)≤(0:Int) from by first | decide | rfl | trivial) (obC (show (List.map zp (zi.Tokens r0_1))[(Int.toNat (0:Int):Nat)]?=some (zap (List.getD (zi.Tokens r0_1) (0:Nat) default)) from by have:=zbM zp (zi.Tokens r0_1) ((0:Nat)) _ (z7 _) ((h5 hb3) hb4);simpa only [nm,enq,z7] using this) (obC (gtt hb4) (obC (gtt hb4) (obC (gtt hb4) (obC hb4 (obC (gtt hb6) (obC (gtt hb6) (obC (gtt hb6) (obC (show (0:Int)≤(1:Int) from by first | decide | rfl | trivial) (obC (zbu zp (zi.Tokens r0_1) 1 _ (z7 _) (by decide) (((h7 hb3) hb4) hb6)) (obC (gtt hb6) (obC (gtt hb6) (obC (gtt hb6) (obC hb6 (obC (gtf hb8) (obC (gtf hb8) (obC (gtf hb8) (obC hb8 (oF (oF (oF obN)))))))))))))))))))))))))))))) ?_;exact Sem.cast (by try rw [hb3];try rw [hb4];try rw [hb6];try rw [hb8];kernel_rfl) hk0
    ·refine sD kk [bT,bT,bT,bT,bT,bT,bT,bT,.e (zap (List.getD (zi.Tokens r0_1) (0:Nat) default)),bT,bT,bT,bT,bF,bF,bF,bF,bF,bF,bF,bF,bF,bF,bF,bF,bF,bF] [4,7,8,13] [(1,vB false)] (obC (gtt hb3) (obC (gtt hb3) (obC (gtt hb3) (obC (gtt hb3) (obC hb3 (obC (gtt hb4) (obC (gtt hb4) (obC (gtt hb4) (obC (show (0:Int)≤(0:Int) from by first | decide | rfl | trivial) (obC (show (List.map zp (zi.Tokens r0_1))[(Int.toNat (0:Int):Nat)]?=some (zap (List.getD (zi.Tokens r0_1) (0:Nat) default)) from by have:=zbM zp (zi.Tokens r0_1) ((0:Nat)) _ (z7 _) ((h5 hb3) hb4);simpa only [nm,enq,z7] using this) (obC (gtt hb4) (obC (gtt hb4) (obC (gtt hb4) (obC hb4 (obC (gtf hb6) (obC (gtf hb6) (obC (gtf hb6) (obC (gtf hb6) (obC (gtf hb6) (obC (gtf hb6) (obC hb6 (oF (oF (oF (oF (oF (oF (oF obN)))))))))))))))))))))))))))) ?_;exact Sem.cast (by try rw [hb3];try rw [hb4];try rw [hb6];kernel_rfl) hk0
   ·refine sD kk [bT,bT,bT,bT,bT,bF,bF,bF,bF,bF,bF,bF,bF,bF,bF,bF,bF,bF,bF,bF,bF,bF,bF,bF,bF,bF] [4,7,8,13] [(1,vB false)] (obC (gtt hb3) (obC (gtt hb3) (obC (gtt hb3) (obC (gtt hb3) (obC hb3 (obC (gtf hb4) (obC (gtf hb4) (obC (gtf hb4) (obC (gtf hb4) (obC (gtf hb4) (obC (gtf hb4) (obC hb4 (oF (oF (oF (oF (oF (oF (oF (oF (oF (oF (oF (oF (oF (oF obN)))))))))))))))))))))))))) ?_;exact Sem.cast (by try rw [hb3];try rw [hb4];kernel_rfl) hk0
  ·refine sD kk [bF,bF,bF,bF,bF,bF,bF,bF,bF,bF,bF,bF,bF,bF,bF,bF,bF,bF,bF,bF,bF,bF,bF,bF,bF,bF] [4,7,8,13] [(1,vB false)] (obC (gtf hb3) (obC (gtf hb3) (obC (gtf hb3) (obC (gtf hb3) (obC hb3 (oF (oF (oF (oF (oF (oF (oF (oF (oF (oF (oF (oF (oF (oF (oF (oF (oF (oF (oF (oF (oF obN)))))))))))))))))))))))))) ?_;exact Sem.cast (by try rw [hb3];kernel_rfl) hk0
end Go.Ev
namespace Go.Ev.Pl
open Go Go.Ev Go.Proofs
set_option maxRecDepth 100000
theorem of97_ok:zau 97 97 st97:=by
 have:=zgn 97 97
 rwa [show mkSet (fun i=>decide (i≥(97:Int)) && decide (i≤97))=st97 from by kernel_rfl] at this
theorem starRx_sml:Sml starR.Rx:=by
 refine ⟨(zit _).2 ⟨by decide,fun y hy=>?_⟩,by kernel_rfl,?_⟩
 ·have:y={ Kind:=2,Set:=st97,Lo:=0,Hi:=0,Kids:=[] }:=by simpa [starR] using hy
  rw [this];exact wf_leaf _ _ _ _
 ·rw [show sizeN starR.Rx=1 from by kernel_rfl];omega
theorem star_fit:FitSpec starS where
 conds:=⟨1,false,by omega,by omega,rfl,rfl,fun r hr=>by
  have:r=starR:=by simpa [starS] using hr
  subst this
  exact ⟨⟨List.Pairwise.nil,fun c hc=>by cases hc⟩,fun _=>rfl,⟨by decide,by decide⟩,⟨by decide,by decide,fun _=>rfl⟩,.inr ⟨rfl,starRx_sml,.inl rfl⟩⟩⟩
 many:=⟨Nat.le_refl _,by decide⟩
theorem starT:laidM dS={ Map:=mS,Width:=2,Base:=[0,2],Default:=[-1,-1],Next:=[-1,1,-1,1],Check:=[0,0,1,1],Accept:=[-1,0],Start:=[0,0] }:=by
 have hw:widM dS.Map=2:=wid_star
 simp only [laidM,hw]
 rfl
theorem star_vb:VB starP.Tables:=by
 have e:starP.Tables={ Map:=mS,Width:=2,Base:=[0,2],Default:=[-1,-1],Next:=[-1,1,-1,1],Check:=[0,0,1,1],Accept:=[-1,0],Start:=[0,0] }:=starT
 rw [e]
 exact { map:=mS_len,bl:=by decide,nl:=by decide,dl:=rfl,al:=rfl,cl:=rfl,sl:=by decide,w1:=by decide,w2:=by decide,
         dflt:=fun i h0 h1=>by
          have h1:i < 2:=h1
          rcases (show i=0∨i=1 by omega) with rfl | rfl<;>decide
         mapr:=mS_mem,base:=by decide,next:=by decide,chk:=by decide,acc:=by decide,start:=by decide }
theorem star_acc:∀ k∈starP.Tables.Accept,AccOk starP.Spec k:=by
 intro k hk
 have:k = -1∨k=0:=by simpa [starP,laidM,dS] using hk
 rcases this with rfl | rfl
 ·exact ⟨by decide,fun h=>absurd h (by decide)⟩
 ·exact ⟨by decide,fun _=>rfl⟩
def aab:ByteArray:={ data:=#[(97:UInt8),(97:UInt8),(98:UInt8)] }
def aabR:zi:={ Tokens:=[{ Rule:=0,Start:=0,End:=2,Cond:=0 },{ Rule:=-1,Start:=2,End:=3,Cond:=0 }],Jam:=-1 }
theorem take0:takeM starP.Tables aab 0 0=(0,2):=by kernel_rfl
theorem take2:takeM starP.Tables aab 2 0=(-1,0):=by kernel_rfl
theorem own_star (t:ByteArray) (k:Int) (h:(t.size:Int)=k):ownM (fun r t=>((prt r t:Nat):Int)) starR t k=k:=by
 have hp:prt starR t=0∨prt starR t=t.size:=by
  unfold prt
  split
  ·rw [if_pos (show starR.Trail.Kind=0 from rfl)]
   split
   ·exact .inr rfl
   ·exact .inl rfl
  ·exact .inl rfl
 have he:ownM (fun r t=>((prt r t:Nat):Int)) starR t k=if ((prt starR t:Nat):Int)=0 then k else ((prt starR t:Nat):Int):=rfl
 rw [he]
 split<;>rcases hp with h1 | h1<;>omega
theorem scan_star:scanM starP aab (fun r t=>((prt r t:Nat):Int)) (fun i c=>activeB starP.Spec i.toNat c.toNat)=aabR:=by
 have hs:aab.size=3:=rfl
 have hown:ownM (fun r t=>((prt r t:Nat):Int)) (gd starP.Spec.Rules 0) (textM aab 0 2) 2=2:=own_star _ 2 (by kernel_rfl)
 have s1:stepM starP aab (fun r t=>((prt r t:Nat):Int)) (scan0 starP aab)={ Program:=starP,W:=aab,At:=2,Cond:=0,Out:={ Tokens:=[{ Rule:=0,Start:=0,End:=2,Cond:=0 }],Jam:=-1 } }:=by
  unfold stepM
  show putM starP aab _ (takeM starP.Tables aab 0 0).1 (takeM starP.Tables aab 0 0).2 (scan0 starP aab)=_
  rw [take0]
  unfold putM
  rw [if_neg (by decide)]
  show ({ Program:=starP,W:=aab,At:=0+ownM (fun r t=>((prt r t:Nat):Int)) (gd starP.Spec.Rules 0) (textM aab 0 2) 2,Cond:=_,Out:={ Tokens:=[]++[{ Rule:=0,Start:=0,End:=0+ownM (fun r t=>((prt r t:Nat):Int)) (gd starP.Spec.Rules 0) (textM aab 0 2) 2,Cond:=0 }],Jam:=-1 } }:zh)=_
  rw [hown];rfl
 have s2:stepM starP aab (fun r t=>((prt r t:Nat):Int)) { Program:=starP,W:=aab,At:=2,Cond:=0,Out:={ Tokens:=[{ Rule:=0,Start:=0,End:=2,Cond:=0 }],Jam:=-1 } }={ Program:=starP,W:=aab,At:=3,Cond:=0,Out:=aabR }:=by
  unfold stepM
  show putM starP aab _ (takeM starP.Tables aab 2 0).1 (takeM starP.Tables aab 2 0).2 _=_
  rw [take2]
  unfold putM
  rw [if_pos (show (-1:Int) = -1 from rfl),if_pos (show starP.Spec.Default=true from rfl)];rfl
 unfold scanM
 rw [hs]
 rw [scanF,if_pos (by decide),if_neg (by show ¬((takeM starP.Tables aab 0 0).1 = -1∧_);rw [take0];decide),s1]
 rw [scanF,if_pos (by decide),if_neg (by show ¬((takeM starP.Tables aab 2 0).1 = -1∧starP.Spec.Default=false);rw [take2];decide),s2]
 rw [scanF,if_neg (by decide)]
 unfold endM
 rw [if_pos (by kernel_rfl)]
theorem scanS_ok:zbA starP aab aabR 0:=by
 obtain ⟨hp,hne,hst,hR⟩:=prog_ok (p:=starP) star_fit star_vb star_acc rfl (w:=aab) (by decide)
 have:=scan_ok hp hR hst
 rwa [scan_star] at this
def zP:zd:={ Spec:={ Conds:=[],Default:=false,Rules:=[] },Tables:={ Map:=[],Width:=0,Base:=[],Default:=[],Next:=[],Check:=[],Accept:=[],Start:=[] } }
def zW:ByteArray:={ data:=#[] }
theorem zSpec_ok:zcj zP.Spec false:=zhT _ _ ⟨fun h=>by simp [zP] at h,fun _=>rfl,fun h=>by simp [zP] at h⟩
theorem scanZ_ok:zbA zP zW { Tokens:=[],Jam:=0 } 1:=
 zjB _ _ _ _ ⟨false,zhU _ _ _ ⟨fun _=>⟨false,ze7 _ _ ⟨false,zSpec_ok,fun _=>rfl,fun h=>by simp at h⟩,rfl⟩,fun h=>by revert h;decide⟩,fun _=>⟨rfl,rfl⟩,fun h=>by simp at h⟩
theorem awake17_ok:zbC true:=
 zgd _ ⟨starP,starP_ok of97_ok,aabR,0,scanS_ok,{ Tokens:=[],Jam:=0 },1,scanZ_ok,fun _ _=>by decide,fun _ _ _=>by decide,by decide⟩
end Go.Ev.Pl
namespace Go.Ev.Pl
open Go Go.Ev
theorem wholeLaw_ok (l k:List Int) (n:Int) (m t:List Int) (hl:Bytes l) (hk:Bytes k) (hn:0≤n∧n < 256) (hm:Bytes m) (ht:Bytes t):zbD l k n m t true:=
 scanWhole_ok awake17_ok rfl hl hk hn.1 (by omega) hm ht
end Go.Ev.Pl
