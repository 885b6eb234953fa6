import Derived.Test.YtkeiahjelpjegaaGreatA09
set_option linter.unusedSimpArgs false
set_option linter.unusedVariables false
namespace Go.Ev.Pl
open Go Go.Ev Go.Proofs
def fewS (n:Int) (r:zj):Int:=w64 (w64 (w64 (w64 (w64 (n+(r.Conds.length:Int))+300) - nodesZ r.Rx 300)+300) - nodesZ r.Trail 300)
def fewB:Int→List zj→Bool
 | n,[]=>decide (n < 300)
 | n,r :: rs=>if n < 300 then fewB (fewS n r) rs else false
theorem few_cons (n:Int) (r:zj) (rs:List zj):fewB n (r :: rs)=if n < 300 then fewB (fewS n r) rs else false:=by rw [fewB]
theorem few_lt {n:Int} {rs:List zj} (h:fewB n rs=true):n < 300:=by
 cases rs with
 | nil=>exact of_decide_eq_true h
 | cons r rs=>
   unfold fewB at h
   split at h
   ·assumption
   ·cases h
theorem few_ok (s:api_Spec) (hs:WfS s):zbH s 300 (fewB (w64 ((s.Conds.length:Int)+(s.Rules.length:Int))) s.Rules):=by
 have hm:maxLen=9223372036854775807:=by decide
 have hl:=hs.rules
 refine zfR s 300 _ ⟨fun n t=>∃ k:Nat,t=k∧k≤s.Rules.length∧fewB n (s.Rules.drop k)=fewB (w64 ((s.Conds.length:Int)+(s.Rules.length:Int))) s.Rules,fun n t=>(s.Rules.length - t).toNat,⟨0,rfl,by omega,rfl⟩,?_⟩
 rintro n t ⟨k,rfl,hk,he⟩
 simp only [List.length_map]
 rw [za7]
 refine ⟨fun ht=>?_,fun ht=>?_⟩
 ·obtain ⟨h1,h2⟩:=Bool.and_eq_true_iff.1 ht
  have h1:=of_decide_eq_true h1
  have h2:=of_decide_eq_true h2
  obtain ⟨w1,w2,w3⟩:=hs.rule _ (List.getElem_mem h1)
  rw [zW h1,zgF h1 (by omega)]
  refine ⟨by omega,by omega,by omega,by omega,_,zdA _ w2 300 (by omega) (by omega),by omega,by omega,_,zdA _ w3 300 (by omega) (by omega),⟨k+1,rfl,by omega,?_⟩,by first | omega | (dsimp only;omega)⟩
  rw [← he,List.drop_eq_getElem_cons h1,few_cons,if_pos h2]
  rfl
 ·rw [← he]
  rcases Bool.and_eq_false_iff.1 ht with h | h
  ·have h:=of_decide_eq_false h
   rw [List.drop_of_length_le (by omega)];rfl
  ·have h':=of_decide_eq_false h
   rw [h]
   cases e:fewB n (s.Rules.drop k) with
   | false=>rfl
   | true=>exact absurd (few_lt e) h'
theorem rise_len {l:List Int} {n:Nat} (hm:l.length≤9223372036854775807) (h:riseB l n=true):l.length≤n:=by
 have key:∀ i,i < l.length→(i:Int)≤gd l (i:Int)∧gd l (i:Int) < n:=by
  intro i
  induction i with
  | zero=>
    intro hi
    have:=List.all_eq_true.1 h 0 (List.mem_range.2 hi)
    simp only [bad,Bool.not_eq_true',Bool.or_eq_false_iff,decide_eq_false_iff_not] at this
    omega
  | succ i ih=>
    intro hi
    have h0:=ih (by omega)
    have:=List.all_eq_true.1 h (i+1) (List.mem_range.2 hi)
    simp only [bad,Bool.not_eq_true',Bool.or_eq_false_iff,decide_eq_false_iff_not,Bool.and_eq_false_iff] at this
    obtain ⟨q1,q2,q3⟩:=this
    rw [show w64 (((i+1:Nat):Int) - 1)=(i:Int) from (zQ (by omega) (by omega)).trans (by omega)] at q3
    omega
 rcases Nat.eq_zero_or_pos l.length with h0 | h0
 ·omega
 ·have:=key (l.length - 1) (by omega);omega
theorem few_asks {n:Nat} (hn:n≤8):∀ (rs:List zj) (m:Int),0≤m→fewB m rs=true→(∀ r∈rs,WfR r)→Asks n rs
 | [],m,hm,h,hw,k,hk,hj=>absurd hk (by simp)
 | r :: rs,m,hm,h,hw,k,hk,hj=>by
   have hmax:maxLen=9223372036854775807:=by decide
   have hm2:=few_lt h
   unfold fewB at h
   rw [if_pos hm2] at h
   obtain ⟨w1,w2,w3⟩:=hw r (List.mem_cons_self ..)
   have ex:riseB r.Conds n=true→0≤fewS m r∧0≤nodesZ r.Rx 300∧0≤nodesZ r.Trail 300:=fun hr=>by
    have hl:=rise_len (by omega) hr
    obtain ⟨a1,a2⟩:=zeV r.Rx 300 (by omega)
    obtain ⟨b1,b2⟩:=zeV r.Trail 300 (by omega)
    have e:fewS m r=m+(r.Conds.length:Int)+300 - nodesZ r.Rx 300+300 - nodesZ r.Trail 300:=by
     unfold fewS
     rw [zQ (x:=m+(r.Conds.length:Int)) (by omega) (by omega),zQ (x:=m+(r.Conds.length:Int)+300) (by omega) (by omega),zQ (x:=m+(r.Conds.length:Int)+300 - nodesZ r.Rx 300) (by omega) (by omega),zQ (x:=m+(r.Conds.length:Int)+300 - nodesZ r.Rx 300+300) (by omega) (by omega)]
     exact zQ (by omega) (by omega)
    have h2:=few_lt h
    rw [e] at h2
    rw [e]
    omega
   cases k with
   | zero=>
     refine ⟨by show r.Conds.length≤_;omega,fun hr=>?_⟩
     obtain ⟨e1,e2,e3⟩:=ex hr
     exact ⟨zgE _ 300 (by omega) e2,zgE _ 300 (by omega) e3⟩
   | succ k=>
     have hr:riseB r.Conds n=true:=by
      have:=hj 0 (by omega)
      have h3:ruleB n r=true:=this
      unfold ruleB holdB at h3
      exact (Bool.and_eq_true_iff.1 (Bool.and_eq_true_iff.1 h3).1).1
     exact few_asks hn rs (fewS m r) (ex hr).1 h (fun r hr=>hw r (List.mem_cons_of_mem _ hr)) k (by simpa using hk) fun j hj'=>hj (j+1) (by omega)
theorem same10_ok (a:zh) (h1:a.Sets.length < 1000000) (h2:a.Owner.length < 1000000) (h3:a.Follow.length+a.Starts.length < 1000000) (h4:a.Ends.length < 1000000) (h5:∀ f∈a.Follow++a.Starts,f.length < 1000000):zaR a a true:=by
 refine zfi a a _ ⟨by omega,by omega,by omega,by omega,true,sameRefl_ok _ h1 h2 (show 0 < 1000000 by omega) (by show (a.Follow++a.Starts).length < 1000000;rw [List.length_append];exact h3) h5,fun h=>by simp at h,fun _=>⟨fun t=>∃ i:Nat,t=i∧i≤a.Ends.length,fun t=>(a.Ends.length - t).toNat,⟨0,rfl,by omega⟩,?_⟩⟩
 rintro t ⟨i,rfl,hi⟩
 rw [za7]
 refine ⟨fun ht=>?_,fun _=>rfl⟩
 have ht:=of_decide_eq_true ht
 rw [zgF ht (by omega)]
 exact ⟨by omega,by omega,by omega,by omega,fun h=>by simp at h,fun _=>⟨⟨i+1,rfl,by omega⟩,by first | omega | (dsimp only;omega)⟩⟩
theorem buildNo_ok (s:api_Spec) (hR:zbR s false):zci s zAuto 1:=zga s _ _ ⟨false,hR,fun _=>⟨rfl,rfl⟩,fun h=>by cases h⟩
theorem rBuildNo_ok (s:api_Spec) (hR:zaM s false):za5 s zAuto 1:=zcF s _ _ ⟨false,hR,fun _=>⟨rfl,rfl⟩,fun h=>by cases h⟩
theorem zSame:zaR zAuto zAuto true:=same10_ok zAuto (by decide) (by decide) (by decide) (by decide) fun f h=>by cases h
theorem buildSame (s:api_Spec) (hr:∀ r∈s.Rules,RBody r) (hn:s.Rules.length≤100) (hc:s.Conds.length≤100) (h:¬ (accM s.Rules s.Rules.length).1.Sets.length > 600):zaR (buildM s) (buildM s) true:=by
 obtain ⟨b1,b2,b3,b4⟩:=acc_bd hr s.Rules.length (Nat.le_refl _)
 have e1:=b1.own;have e2:=b1.fol;have e3:=b1.ends
 refine same10_ok _ (show (accM s.Rules s.Rules.length).1.Sets.length < _ by omega) (show (accM s.Rules s.Rules.length).1.Owner.length < _ by omega) ?_ (show (accM s.Rules s.Rules.length).1.Ends.length < _ by omega) fun f hf=>?_
 ·show (accM s.Rules s.Rules.length).1.Follow.length+((List.range (2 * s.Conds.length)).map _).length < _
  rw [List.length_map,List.length_range];omega
 ·rcases List.mem_append.1 hf with hf | hf
  ·have:=b1.small f hf;omega
  ·obtain ⟨c,-,rfl⟩:=List.mem_map.1 hf
   have:=stM_len (s:=s) b3 (c / 2) (c % 2 == 1) s.Rules.length (by omega);omega
theorem autoAny_ok (s:api_Spec) (hs:WfS s):zbA s true:=by
 have hmax:maxLen=9223372036854775807:=by decide
 refine zdR s _ ⟨_,few_ok s hs,fun _=>⟨true,awake_ok,rfl⟩,fun hf=>?_⟩
 have hf:fewB (w64 ((s.Conds.length:Int)+(s.Rules.length:Int))) s.Rules=true:=by simpa using hf
 have ha:hdB s=false→Asks s.Conds.length s.Rules:=fun hb=>by
  obtain ⟨n1,n2,n3⟩:=hd_no hb
  rw [zQ (by omega) (by omega)] at hf
  exact few_asks n2 _ _ (by omega) hf hs.rule
 have r1:=specRightB_ok s hs ha
 have r2:=refRightB_ok s hs ha
 cases hB:specB s with
 | false=>
   rw [hB] at r1 r2
   exact ⟨_,_,buildNo_ok s r1,_,_,rBuildNo_ok s r2,true,awake_ok,fun _=>⟨true,zSame,fun _=>rfl,fun h=>by cases h⟩,fun h=>by cases h⟩
 | true=>
   rw [hB] at r1 r2
   have hb:hdB s=false:=by
    cases e:hdB s with
    | false=>rfl
    | true=>unfold specB at hB;rw [e] at hB;cases hB
   obtain ⟨n1,n2,n3⟩:=hd_no hb
   have hall:∀ r∈s.Rules,ruleB s.Conds.length r=true:=by
    unfold specB at hB;rw [hb] at hB
    exact List.all_eq_true.1 (Bool.and_eq_true_iff.1 (Bool.and_eq_true_iff.1 hB).2).2
   have hask:∀ r∈s.Rules,r.Conds.length < 1000000∧RBody r:=fun r hr=>by
    have h1:=hall r hr
    obtain ⟨k,hk,e⟩:=List.getElem_of_mem hr
    have h2:=ha hb k hk fun j hj=>hall _ (List.getElem_mem _)
    rw [e] at h2
    unfold ruleB holdB at h1
    obtain ⟨q1,q2⟩:=Bool.and_eq_true_iff.1 h1
    have q3:=(Bool.and_eq_true_iff.1 q1).1
    have q4:=(Bool.and_eq_true_iff.1 q2).2
    obtain ⟨w1,w2⟩:=h2.2 q3
    have hl:=rise_len h2.1 q3
    refine ⟨by omega,?_⟩
    cases he:r.Eof with
    | true=>exact .inl he
    | false=>
      unfold matB at q4
      rw [if_neg (by rw [he];simp)] at q4
      obtain ⟨p1,p2⟩:=Bool.and_eq_true_iff.1 q4
      refine .inr ⟨he,⟨w1,p1⟩,?_⟩
      by_cases hk:r.Trail.Kind=0
      ·exact .inl hk
      ·rcases Bool.or_eq_true_iff.1 p2 with h | h
       ·unfold noneB at h
        have:=(Bool.and_eq_true_iff.1 h).1
        exact .inl (by simpa using this)
       ·exact .inr ⟨hk,w2,h⟩
   have b1:=build_ok s r1 (fun r h=>(hask r h).2) (by omega) (by omega) fun r h=>(hask r h).1
   have b2:=rBuild_ok s r2 (fun r h=>(hask r h).2) (by omega) (by omega) fun r h=>(hask r h).1
   refine ⟨_,_,b1,_,_,b2,true,awake_ok,fun _=>⟨true,?_,fun _=>by simp,fun h=>by cases h⟩,fun h=>by cases h⟩
   by_cases hg:(accM s.Rules s.Rules.length).1.Sets.length > 600
   ·rw [if_pos hg];exact zSame
   ·rw [if_neg hg];exact buildSame s (fun r h=>(hask r h).2) (by omega) (by omega) hg
end Go.Ev.Pl
