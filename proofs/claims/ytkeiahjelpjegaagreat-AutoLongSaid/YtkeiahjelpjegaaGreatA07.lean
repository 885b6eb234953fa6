import Derived.Test.YtkeiahjelpjegaaGreatA06
set_option linter.unusedSimpArgs false
set_option linter.unusedVariables false
namespace Go.Ev.Pl
open Go Go.Ev Go.Proofs
abbrev chX:ze:={ Kind:=2,Set:=⟨0,8589934592,0,0⟩,Lo:=0,Hi:=0,Kids:=[] }
theorem char_ok:zbb 97 chX:=zfh 97 _ ⟨⟨0,8589934592,0,0⟩,of_a,rfl⟩
def rxK (k:Nat):ze:=if k=1 then chX else { Kind:=3,Set:=⟨0,0,0,0⟩,Lo:=0,Hi:=0,Kids:=List.replicate k chX }
def ruleK (k:Nat):zj:={ Conds:=[],All:=false,Bol:=false,Rx:=rxK k,Trail:=zRx,Eof:=false,Act:=1,To:=0 }
theorem ch_wf:Wf chX:=(zhw chX).2 ⟨by decide,fun y hy=>by cases hy⟩
theorem ch_rgt {d:Int} (h:d > 0):rgt chX d=true:=by
 rw [rgt_eq,decide_eq_true h];rfl
theorem ch_size:sizeN chX=1:=by rw [zbW];rfl
theorem ch_nodes (m:Int):nodesZ chX m=m - 1:=by rw [zdA];rfl
theorem sum_rep (k:Nat):((List.replicate k chX).map sizeN).sum=k:=by
 induction k with
 | zero=>rfl
 | succ k ih=>rw [List.replicate_succ,List.map_cons,List.sum_cons,ih,ch_size];omega
theorem nodes_rep (k:Nat):∀ m:Int,(k:Int)≤m→(List.replicate k chX).foldl (fun m y=>if m≥0 then nodesZ y m else m) m=m - k:=by
 induction k with
 | zero=>intro m _;simp
 | succ k ih=>
   intro m hm
   rw [List.replicate_succ,List.foldl_cons,if_pos (by omega),ch_nodes,ih _ (by omega)];omega
theorem rxK_wf (k:Nat) (hk:k≤189):Wf (rxK k):=by
 unfold rxK
 split
 ·exact ch_wf
 ·exact (zhw _).2 ⟨by simp;omega,fun y hy=>by rw [(List.mem_replicate.1 hy).2];exact ch_wf⟩
theorem rxK_right (k:Nat) (h1:1≤k) (hk:k≤189):rightB (rxK k)=true:=by
 unfold rxK
 split
 ·decide +kernel
 rename_i hne
 unfold rightB
 rw [Bool.and_eq_true,Bool.and_eq_true]
 refine ⟨?_,decide_eq_true ?_,decide_eq_true ?_⟩
 ·rw [rgt_eq]
  rw [Bool.and_eq_true,Bool.and_eq_true]
  refine ⟨⟨by decide,?_⟩,List.all_eq_true.2 fun y hy=>?_⟩
  ·simp [ownB,noSet];omega
  ·rw [(List.mem_replicate.1 hy).2,ch_rgt (by omega)];rfl
 ·unfold sizeZ
  rw [zbW,if_neg (show ¬ (3:Int)=2 by decide),if_pos (show (3:Int)≤3∧(3:Int)≤5 by decide),if_neg (show ¬ (3:Int)=5 by decide)]
  show min (((((List.replicate k chX).map sizeN).sum * 1:Nat):Int)) 1000000≤200
  rw [sum_rep];omega
 ·rw [zdA]
  show (List.replicate k chX).foldl (fun m y=>if m≥0 then nodesZ y m else m) (1000 - 1)≥0
  rw [nodes_rep k _ (by omega)];omega
theorem plain_k (k:Nat) (h1:1≤k) (hk:k≤189):Plain (ruleK k):=⟨rfl,rfl,rfl,rfl,rxK_wf k hk,rxK_right k h1 hk,rfl⟩
theorem autoLong_ok (hawake:zbQ true) (n rules:Int) (hn:0≤n∧n < 256) (hr:0≤rules∧rules < 256):zbw n rules true:=by
 have e1:w64 (560+Int.tmod (w64 n) 80)=((560+(n.toNat % 80):Nat):Int):=by
  rw [zT (show -9223372036854775808≤n by omega) (by omega),Int.tmod_eq_emod_of_nonneg (by omega)]
  exact (zT (by omega) (by omega)).trans (by omega)
 have e2:w64 (100+Int.tmod (w64 rules) 90)=((100+(rules.toNat % 90):Nat):Int):=by
  rw [zT (show -9223372036854775808≤rules by omega) (by omega),Int.tmod_eq_emod_of_nonneg (by omega)]
  exact (zT (by omega) (by omega)).trans (by omega)
 refine zdp n rules true ?_
 rw [e1,e2]
 obtain ⟨M,hM⟩:∃ M,M=560+n.toNat % 80:=⟨_,rfl⟩
 obtain ⟨K,hK⟩:∃ K,K=100+rules.toNat % 90:=⟨_,rfl⟩
 rw [← hM,← hK]
 have hM2:M≤639:=by omega
 have hK1:100≤K:=by omega
 have hK2:K≤189:=by omega
 refine ⟨fun rs t=>∃ m:Nat,t=m∧(∀ r∈rs,Plain r)∧((rs.length * 100+m≤639)∨(m=0∧rs.length≤7)),fun rs t=>t.toNat,⟨M,rfl,(fun r h=>by cases h),.inl (by simp;omega)⟩,?_⟩
 rintro rs t ⟨m,rfl,hp,hm⟩
 refine ⟨fun ht=>?_,fun ht=>?_⟩
 ·have ht:0 < m:=by simpa using ht
  obtain ⟨k,hk⟩:∃ k,k=min K m:=⟨_,rfl⟩
  have e3:(if false=true then if (K:Int) > (m:Int) then (K:Int) else (m:Int) else if (K:Int) < (m:Int) then (K:Int) else (m:Int))=(k:Int):=by
   rw [if_neg (by simp)];split<;>omega
  rw [e3]
  refine ⟨fun xs t=>∃ i:Nat,t=i∧i≤k∧xs=List.replicate i chX,fun xs t=>(k - t).toNat,⟨0,rfl,by omega,rfl⟩,?_⟩
  rintro xs t ⟨i,rfl,hi,rfl⟩
  refine ⟨fun ht=>?_,fun ht=>?_⟩
  ·have ht:i < k:=by simpa using ht
   rw [show w64 ((i:Int)+1)=((i+1:Nat):Int) from zT (by omega) (by omega)]
   exact ⟨_,char_ok,by simp;omega,⟨i+1,rfl,by omega,by rw [List.replicate_succ']⟩,by first | omega | (dsimp only;omega)⟩
  ·have:i=k:=by have:¬ i < k:=by simpa using ht
                omega
   subst this
   have hgo:(rs.length+1) * 216≤2 ^ 47∧(∃ m':Nat,w64 ((m:Int) - (i:Int))=m'∧(∀ r∈rs++[ruleK i],Plain r)∧(((rs++[ruleK i]).length * 100+m'≤639)∨(m'=0∧(rs++[ruleK i]).length≤7)))∧(w64 ((m:Int) - (i:Int))).toNat < (m:Int).toNat:=by
    have ew:w64 ((m:Int) - (i:Int))=((m - i:Nat):Int):=(zT (by omega) (by omega)).trans (by omega)
    rw [ew]
    refine ⟨by omega,⟨m - i,rfl,fun r h=>?_,?_⟩,by omega⟩
    ·rcases List.mem_append.1 h with h | h
     ·exact hp r h
     ·rw [List.mem_singleton.1 h];exact plain_k i (by omega) (by omega)
    ·simp only [List.length_append,List.length_cons,List.length_nil];omega
   refine ⟨fun a b c d e f g h=>({ Kind:=a,Set:=⟨b,c,d,e⟩,Lo:=f,Hi:=g,Kids:=h }:ze)=rxK i,fun a b c d e f g h hj=>?_,fun h1=>⟨_,char_ok,?_⟩,fun h1=>?_⟩
   ·rw [hj];exact hgo
   ·have h1:i=1:=by have:(i:Int)=1:=by simpa using h1
                    omega
    rw [h1];rfl
   ·have h1:¬ i=1:=by have:¬ (i:Int)=1:=by simpa using h1
                      omega
    unfold rxK;rw [if_neg h1]
 ·have hl:rs.length≤7:=by omega
  have hRB:∀ r∈(specL rs).Rules,RBody r:=fun r h=>.inr ⟨(hp r h).eof,⟨(hp r h).wf,(hp r h).right⟩,.inl (by rw [(hp r h).trail])⟩
  have hcl:∀ r∈(specL rs).Rules,r.Conds.length < 1000000:=fun r h=>by rw [(hp r h).conds];simp
  have b1:=build_ok (specL rs) (specRight_ok rs hp (by omega)) hRB (show rs.length≤100 by omega) (show 1≤100 by omega) hcl
  have b2:=rBuild_ok (specL rs) (zgD rs hp (by omega)) hRB (show rs.length≤100 by omega) (show 1≤100 by omega) hcl
  exact ⟨_,_,b1,_,_,b2,true,hawake,by simp⟩
end Go.Ev.Pl
