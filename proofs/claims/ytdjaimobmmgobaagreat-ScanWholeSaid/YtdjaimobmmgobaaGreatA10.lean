import Derived.Test.YtdjaimobmmgobaaGreatA09
set_option linter.unusedSimpArgs false
set_option linter.unusedVariables false
namespace Go.Ev.Pl
open Go Go.Ev Go.Proofs
set_option maxRecDepth 100000
theorem build_star:CallE Tryz.prog 45 [starV] [] (.tup [zcJ aS,vi 0]) []:=zjd (mks:=mkT mkTab) zkb zjW 1000 40 45 [starV] [] _ [] (by kernel_rfl)
def starR:zw:={ Conds:=[],All:=false,Bol:=false,Rx:={ Kind:=5,Set:=⟨0,0,0,0⟩,Lo:=0,Hi:=-1,Kids:=[{ Kind:=2,Set:=st97,Lo:=0,Hi:=0,Kids:=[] }] },Trail:={ Kind:=0,Set:=⟨0,0,0,0⟩,Lo:=0,Hi:=0,Kids:=[] },Eof:=false,Act:=1,To:=0 }
def starS:zr:={ Conds:=[{ Name:=nmA,Exclusive:=false }],Default:=true,Rules:=[starR] }
theorem starV_eq:zag starS=starV:=by
 simp [zag,starS,starR,starV,st97,nmA,zg,zn,zL,zbF,vL,vB,fL,fB,fi,zY,za]
theorem buildS_ok:zdC starS aS 0:=by
 have:=build_star
 rw [← starV_eq] at this;exact this
theorem statesS_ok:zbn starS dS 0:=
 zfw _ _ _ ⟨aS,0,buildS_ok,fun h=>(by simp at h),fun _=>⟨dS,0,makeS_ok,fun h=>(by simp at h),fun _=>⟨dS,0,smallS_ok,rfl,rfl⟩⟩⟩
theorem laid16_ok {s:zr} {d:zZ} (hst:zbn s d 0) (hm:d.Map.length≤1000) (hmx:∀ x∈d.Map,0≤x∧x < 2 ^ 60) (hr:d.Rows.length≤200) (hrr:∀ r∈d.Rows,r.length≤1000):zbd s { Spec:=s,Tables:=laidM d } true:=by
 have hbl:∀ k,(baseF d.Rows k).length=k:=fun k=>by simp [baseF]
 have hnl:∀ k,k≤d.Rows.length→(nxtF d.Rows k).length≤1000000:=fun k hk=>by have:=nxtF_le d.Rows hrr k hk;omega
 refine zgY _ _ _ ⟨d,0,hst,fun hb=>?_,fun _=>⟨_,zh9 (by omega) hmx,fun b df nx ck i=>∃ k:Nat,i=k∧k≤d.Rows.length∧b=baseF d.Rows k∧df=List.replicate k (-1)∧nx=nxtF d.Rows k∧ck=chkF d.Rows k,
  fun _ _ _ _ i=>(d.Rows.length - i).toNat,⟨0,rfl,by omega,rfl,rfl,rfl,rfl⟩,?_⟩⟩
 ·exfalso;simp at hb;omega
 rintro _ _ _ _ _ ⟨k,rfl,hk,rfl,rfl,rfl,rfl⟩
 refine ⟨fun hb=>?_,fun hb=>?_⟩
 ·have hlt:k < d.Rows.length:=by have:=of_decide_eq_true hb;omega
  have hg:=gd_rows hlt
  have hrk:(d.Rows.getD k []).length≤1000:=by
   refine hrr _ ?_
   rw [List.getD_eq_getElem?_getD,List.getElem?_eq_getElem hlt];exact List.getElem_mem _
  have hn:=hnl k (by omega)
  have hc:=zim d.Rows k
  refine ⟨by rw [hbl];omega,by rw [List.length_replicate];omega,fun nx ck c=>∃ j:Nat,c=j∧j≤(d.Rows.getD k []).length∧nx=nxtF d.Rows k++(d.Rows.getD k []).take j∧ck=chkF d.Rows k++List.replicate j (k:Int),fun _ _ c=>((d.Rows.getD k []).length - c).toNat,⟨0,rfl,by omega,by simp,by simp⟩,?_⟩
  rintro _ _ _ ⟨j,rfl,hj,rfl,rfl⟩
  rw [hg]
  refine ⟨by omega,by omega,fun hb=>?_,fun hb=>?_⟩
  ·have hjl:j < (d.Rows.getD k []).length:=by have:=of_decide_eq_true hb;omega
   have e2:w64 ((j:Int)+1)=((j+1:Nat):Int):=by rw [zN (by omega) (by omega)];omega
   rw [e2]
   refine ⟨by omega,by omega,by omega,by omega,by simp only [List.length_append,List.length_take];omega,by simp only [List.length_append,List.length_replicate];omega,⟨j+1,rfl,by omega,?_,?_⟩,by dsimp only;omega⟩
   ·rw [List.append_assoc,zgi hjl]
   ·rw [List.append_assoc,List.replicate_succ']
  ·have hjl:j=(d.Rows.getD k []).length:=by have:=of_decide_eq_false hb;omega
   subst hjl
   have e2:w64 ((k:Int)+1)=((k+1:Nat):Int):=by rw [zN (by omega) (by omega)];omega
   rw [e2]
   refine ⟨⟨k+1,rfl,by omega,by simp [baseF,List.range_succ],by rw [List.replicate_succ'],by rw [nxtF,List.take_length],rfl⟩,by dsimp only;omega⟩
 ·have hke:k=d.Rows.length:=by have:=of_decide_eq_false hb;omega
  subst hke
  exact ⟨rfl,rfl⟩
def starP:zd:={ Spec:=starS,Tables:=laidM dS }
theorem starP_ok (h97:zau 97 97 st97):zcz starP:=
 zg2 _ ⟨st97,h97,starP,true,laid16_ok statesS_ok (by show mS.length≤1000;rw [mS_len];omega) (fun x hx=>by have:=mS_mem x hx;omega) (by show 2≤200;omega) (by decide),rfl⟩
end Go.Ev.Pl
