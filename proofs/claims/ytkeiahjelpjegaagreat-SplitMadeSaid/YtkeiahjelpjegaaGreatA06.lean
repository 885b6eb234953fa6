import Derived.Test.YtkeiahjelpjegaaGreatA05
set_option linter.unusedSimpArgs false
set_option linter.unusedVariables false
namespace Go.Ev.Pl
open Go Go.Ev
theorem zfa (n:Nat) (p:Nat→Bool) (off d:Nat) (h:n+off+d < 1000000):zal (lst n p off) d (lst n p (off+d)):=by
 have hl:=zan n p off
 have he:lst n p (off+d)=(lst n p off).map (·+(d:Int)):=by
  simp only [lst,List.map_map]
  refine List.map_congr_left fun i _=>?_
  simp only [Function.comp];omega
 rw [he]
 refine zeS _ _ _ ⟨fun o t=>∃ i:Nat,t=i∧i≤(lst n p off).length∧o=((lst n p off).take i).map (·+(d:Int)),fun o t=>((lst n p off).length - t).toNat,⟨0,rfl,by omega,rfl⟩,?_⟩
 rintro o t ⟨i,rfl,hi,rfl⟩
 refine ⟨fun ht=>?_,fun ht=>?_⟩
 ·have ht:i < (lst n p off).length:=by simpa using ht
  have hm:=zax.1 (List.getElem_mem ht)
  obtain ⟨j,hj,_,hv⟩:=hm
  have hw:w64 (gd (lst n p off) (i:Int)+d)=(lst n p off)[i]+d:=by rw [zad ht];exact zO (by omega) (by omega)
  have hw2:w64 ((i:Int)+1)=((i+1:Nat):Int):=zO (by omega) (by omega)
  rw [hw,hw2]
  refine ⟨by omega,by omega,by simp;omega,⟨i+1,rfl,by omega,?_⟩,by first | omega | (dsimp only;omega)⟩
  rw [List.take_succ_eq_append_getElem ht,List.map_append];rfl
 ·have:i=(lst n p off).length:=by have:¬ i < (lst n p off).length:=by simpa using ht
                                  omega
  subst this
  rw [List.take_of_length_le (Nat.le_refl _)]
theorem ziA:∀ a,addL a []=a
 | []=>by rw [addL]
 | x :: a=>by rw [addL];simp
theorem zh0 {a b:List Int} {i k:Nat} (hk:k=b.length) (hi:i < a.length):addL (a.drop i) (b.drop k)=a[i] :: addL (a.drop (i+1)) (b.drop k):=by
 subst hk
 rw [List.drop_length,ziA,ziA,List.drop_eq_getElem_cons hi]
theorem addL_drop_l {a b:List Int} {i k:Nat} (hi:i=a.length) (hk:k < b.length):addL (a.drop i) (b.drop k)=b[k] :: addL (a.drop i) (b.drop (k+1)):=by
 subst hi
 rw [List.drop_length,addL,addL,List.drop_eq_getElem_cons hk]
theorem zh1 {a b:List Int} {i k:Nat} (hi:i < a.length) (hk:k < b.length):addL (a.drop i) (b.drop k)=if a[i] < b[k] then a[i] :: addL (a.drop (i+1)) (b.drop k) else if b[k] < a[i] then b[k] :: addL (a.drop i) (b.drop (k+1)) else a[i] :: addL (a.drop (i+1)) (b.drop (k+1)):=by
 conv=>lhs;rw [List.drop_eq_getElem_cons hi,List.drop_eq_getElem_cons hk,addL]
 rw [← List.drop_eq_getElem_cons hi,← List.drop_eq_getElem_cons hk]
theorem zft (a b:List Int) (ha:a.length < 10000000) (hb:b.length < 10000000):zR a b (addL a b):=by
 refine zgc a b _ ⟨fun o s t=>∃ i k:Nat,s=i∧t=k∧i≤a.length∧k≤b.length∧o.length≤i+k∧o++addL (a.drop i) (b.drop k)=addL a b,fun o s t=>(a.length - s).toNat+(b.length - t).toNat,⟨0,0,rfl,rfl,by omega,by omega,by simp,rfl⟩,?_⟩
 rintro o s t ⟨i,k,rfl,rfl,hi,hk,hol,ho⟩
 have hwi:w64 ((i:Int)+1)=((i+1:Nat):Int):=zO (by omega) (by omega)
 have hwk:w64 ((k:Int)+1)=((k+1:Nat):Int):=zO (by omega) (by omega)
 simp only [List.length_map]
 refine ⟨fun ht=>?_,fun ht=>?_⟩
 ·simp only [Bool.or_eq_true,decide_eq_true_eq] at ht
  have hkb:((k:Int) == (b.length:Int))=decide (k=b.length):=by show decide _=decide _;simp only [decide_eq_decide];omega
  have hib:((i:Int) == (a.length:Int))=decide (i=a.length):=by show decide _=decide _;simp only [decide_eq_decide];omega
  have hia:decide ((i:Int) < (a.length:Int))=decide (i < a.length):=by simp only [decide_eq_decide];omega
  rw [hkb,hib,hia]
  refine ⟨fun h1 h2=>by omega,fun h1 h2=>by have:=of_decide_eq_true h2;omega,fun h1 h2=>by omega,fun h1 h2=>by have:=of_decide_eq_false h1;omega,fun h=>?_,fun h=>⟨fun h1=>by omega,fun h1=>?_,fun h1=>by omega,fun h1=>?_,fun h2=>?_,fun h2=>?_⟩⟩
  ·simp only [Bool.or_eq_true,Bool.and_eq_true,decide_eq_true_eq] at h
   have hil:i < a.length:=by omega
   rw [zad hil,hwi]
   refine ⟨by omega,by omega,by omega,⟨i+1,k,rfl,rfl,by omega,hk,by simp;omega,?_⟩,by first | omega | (dsimp only;omega)⟩
   rw [← ho,List.append_assoc]
   congr 1
   rcases h with h | ⟨_,h⟩
   ·rw [zh0 h hil];rfl
   ·by_cases hkl:k < b.length
    ·rw [zad hil,zad hkl] at h
     rw [zh1 hil hkl,if_pos h];rfl
    ·rw [zh0 (by omega) hil];rfl
  ·simp only [Bool.or_eq_false_iff,decide_eq_false_iff_not] at h;omega
  ·have:=of_decide_eq_false h1;omega
  ·simp only [Bool.or_eq_false_iff,decide_eq_false_iff_not] at h
   have hkl:k < b.length:=by omega
   rw [zad hkl,hwk]
   refine ⟨by omega,by omega,by omega,⟨i,k+1,rfl,rfl,hi,by omega,by simp;omega,?_⟩,by first | omega | (dsimp only;omega)⟩
   rw [← ho,List.append_assoc]
   congr 1
   simp only [Bool.or_eq_true,decide_eq_true_eq] at h2
   by_cases hia2:i=a.length
   ·rw [addL_drop_l hia2 hkl];rfl
   ·have hil:i < a.length:=by omega
    have h2:b[k] < a[i]:=by
     rcases h2 with h2 | h2
     ·exact absurd h2 hia2
     ·rw [zad hkl,zad hil] at h2;exact h2
    rw [zh1 hil hkl,if_neg (by omega),if_pos h2];rfl
  ·simp only [Bool.or_eq_false_iff,decide_eq_false_iff_not,Bool.and_eq_false_iff] at h h2
   have hkl:k < b.length:=by omega
   have hil:i < a.length:=by omega
   rw [zad hkl,zad hil] at h h2
   rw [zad hil,hwi,hwk]
   refine ⟨by omega,by omega,by omega,⟨i+1,k+1,rfl,rfl,by omega,by omega,by simp;omega,?_⟩,by first | omega | (dsimp only;omega)⟩
   rw [← ho,List.append_assoc]
   congr 1
   rw [zh1 hil hkl,if_neg (by rcases h.2 with h | h<;>omega),if_neg h2.2];rfl
 ·simp only [Bool.or_eq_false_iff,decide_eq_false_iff_not] at ht
  have e1:i=a.length:=by omega
  have e2:k=b.length:=by omega
  rw [← ho,e1,e2,List.drop_length,List.drop_length,addL,List.append_nil]
theorem flw_mem {g:GA} {off i:Nat} (h:i < g.n):gd (flw g off) (i:Int)=lst g.n (g.follow i) off:=by rw [zad (by rw [z8];exact h),zcz _ _ h]
theorem both_ok (a b:GA) (ha:Canon a) (hb:Canon b) (hn:a.n+b.n < 1000) (nb:Bool) (f l:List Int):zao (plc a) { Sets:=b.sets,First:=f,Last:=l,Follow:=flw b 0,Null:=nb } ⟨a.sets++b.sets,[],[],flw a 0++flw b a.n,false⟩:=by
 have has:=ha.sets
 have hbs:=hb.sets
 refine zfy _ _ _ ⟨by show a.sets.length * 32≤_;omega,by show (a.sets.length+b.sets.length) * 32≤_;omega,fun o t=>∃ i:Nat,t=i∧i≤a.n∧o=(flw a 0).take i,fun o t=>(a.n - t).toNat,⟨0,rfl,by omega,rfl⟩,?_⟩
 rintro o t ⟨i,rfl,hi,rfl⟩
 have hfa:(plc a).Follow=flw a 0:=rfl
 simp only [hfa]
 refine ⟨fun ht=>?_,fun ht=>?_⟩
 ·have ht:i < a.n:=by rw [z8] at ht;simpa using ht
  have hw2:w64 ((i:Int)+1)=((i+1:Nat):Int):=zO (by omega) (by omega)
  have hfl:=z8 a 0
  rw [hw2,zad (by rw [z8];exact ht)]
  refine ⟨by omega,by omega,by simp [z8];omega,⟨i+1,rfl,by omega,?_⟩,by first | omega | (dsimp only;omega)⟩
  rw [List.take_succ_eq_append_getElem (by rw [z8];exact ht)]
 ·have:i=a.n:=by rw [z8] at ht;have:¬ i < a.n:=by simpa using ht
                 omega
  subst this
  rw [List.take_of_length_le (by rw [z8];exact Nat.le_refl _)]
  refine ⟨fun o t=>∃ i:Nat,t=i∧i≤b.n∧o=flw a 0++(flw b a.n).take i,fun o t=>(b.n - t).toNat,⟨0,rfl,by omega,by simp⟩,?_⟩
  rintro o t ⟨i,rfl,hi,rfl⟩
  simp only [z8]
  refine ⟨fun ht=>?_,fun ht=>?_⟩
  ·have ht:i < b.n:=by simpa using ht
   have hw2:w64 ((i:Int)+1)=((i+1:Nat):Int):=zO (by omega) (by omega)
   have hmv:=zfa b.n (b.follow i) 0 a.n (by omega)
   rw [Nat.zero_add] at hmv
   rw [flw_mem ht,hw2]
   have:((plc a).Sets.length:Int)=a.n:=by show (a.sets.length:Int)=_;rw [has]
   rw [this]
   refine ⟨by omega,by omega,_,hmv,by simp [z8];omega,⟨i+1,rfl,by omega,?_⟩,by first | omega | (dsimp only;omega)⟩
   rw [List.take_succ_eq_append_getElem (by rw [z8];exact ht),zcz _ _ ht,List.append_assoc]
  ·have:i=b.n:=by have:¬ i < b.n:=by simpa using ht
                  omega
   subst this
   rw [List.take_of_length_le (by rw [z8];exact Nat.le_refl _)];rfl
theorem leadA_ok {fr to:List Int} {F:List (List Int)} (hfr:SS fr) (hto:SS to) (hF:∀ f∈F,SS f) (hin:∀ x∈fr,0≤x∧x < F.length) (hsm:∀ f∈F,f.length < 1000000) (hts:to.length < 1000000) (hfs:fr.length < 1000000)
 {Q:List (List Int)→Prop} (hQ:Q (leadF F fr to)) :
 ∃ (Inv:List (List Int)→Int→Prop) (mu:List (List Int)→Int→Nat),Inv F 0∧∀ (o:List (List Int)) (i:Int),Inv o i→
   (decide (i < (fr.length:Int))=true→0≤i∧i < (fr.length:Int)∧0≤i∧i < (fr.length:Int)∧0≤gd fr i∧(Int.toNat (gd fr i) < o.length)∧gd fr i < (o.length:Int)∧
     (∃ r,zR (gd o (gd fr i)) to r∧0≤gd fr i∧(Int.toNat (gd fr i) < o.length)∧gd fr i < (o.length:Int)∧(Inv (List.set o (Int.toNat (gd fr i)) r) (w64 (i+1))∧mu (List.set o (Int.toNat (gd fr i)) r) (w64 (i+1)) < mu o i)))∧
   (decide (i < (fr.length:Int))=false→Q o):=by
 refine ⟨fun o t=>∃ i:Nat,t=i∧i≤fr.length∧o=leadF F (fr.take i) to,fun o t=>(fr.length - t).toNat,⟨0,rfl,by omega,by simp [leadF];exact (List.ext_getElem (by simp) (fun j h1 h2=>by simp))⟩,?_⟩
 rintro o t ⟨i,rfl,hi,rfl⟩
 refine ⟨fun ht=>?_,fun ht=>?_⟩
 ·have ht:i < fr.length:=by simpa using ht
  have hg:gd fr (i:Int)=fr[i]:=zad ht
  rw [hg]
  obtain ⟨q0,q1⟩:=hin _ (List.getElem_mem ht)
  obtain ⟨e,he⟩:∃ e:Nat,fr[i]=e:=⟨fr[i].toNat,by omega⟩
  rw [he] at q1 ⊢
  have he2:e < F.length:=by omega
  have hl:(leadF F (fr.take i) to).length=F.length:=zbF _ _ _
  have hnot:¬ ((e:Int)∈fr.take i):=by
   intro hm
   obtain ⟨k,hk,hk2⟩:=List.mem_iff_getElem.1 hm
   simp only [List.length_take] at hk
   rw [List.getElem_take] at hk2
   have:=List.pairwise_iff_getElem.1 hfr k i (by omega) ht (by omega)
   omega
  have hge:gd (leadF F (fr.take i) to) (e:Int)=F[e]:=by
   rw [zad (by rw [hl];exact he2),zbR _ _ _ he2,if_neg hnot]
  have hw2:w64 ((i:Int)+1)=((i+1:Nat):Int):=zO (by omega) (by omega)
  have hFe:=hF _ (List.getElem_mem he2)
  refine ⟨by omega,by omega,by omega,by omega,by omega,by rw [hl];omega,by rw [hl];omega,addL F[e] to,?_,by omega,by rw [hl];omega,by rw [hl];omega,?_⟩
  ·rw [hge];exact zft _ _ (by have:=hsm _ (List.getElem_mem he2);omega) (by omega)
  ·rw [hw2,← join_eq hFe hto]
   refine ⟨⟨i+1,rfl,by omega,?_⟩,by first | omega | (dsimp only;omega)⟩
   show List.set _ e _=_
   refine set_eq (by rw [zbF,zbF]) (fun j hj hne=>?_) (fun hj=>?_)
   ·rw [hl] at hj
    rw [zbR _ _ _ hj,zbR _ _ _ hj,List.take_succ_eq_append_getElem ht,he]
    have:((j:Int)∈fr.take i++[(e:Int)])↔(j:Int)∈fr.take i:=by
     rw [List.mem_append,List.mem_singleton]
     constructor
     ·rintro (h | h)
      ·exact h
      ·exact absurd (by omega) hne
     ·exact .inl
    simp only [this]
   ·rw [zbR _ _ _ he2,List.take_succ_eq_append_getElem ht,he,if_pos (by simp)]
 ·have:i=fr.length:=by have:¬ i < fr.length:=by simpa using ht
                       omega
  subst this
  rw [List.take_of_length_le (Nat.le_refl _)];exact hQ
theorem flw_ss (g:GA) (off:Nat):∀ f∈flw g off,SS f:=by
 intro f hf
 simp only [flw,List.mem_map] at hf
 obtain ⟨i,_,rfl⟩:=hf
 exact zbE _ _ _
theorem zdM (a b:GA) (ha:Canon a) (hb:Canon b) (hn:a.n+b.n < 1000):zT (plc a) (plc b) (plc (gCat a b)):=by
 have has:=ha.sets
 have l1:=zan a.n a.first 0
 have l2:=zan a.n a.last 0
 have l3:=zan b.n b.first a.n
 have l4:=zan b.n b.last a.n
 have m1:=zfa b.n b.first 0 a.n (by omega)
 have m2:=zfa b.n b.last 0 a.n (by omega)
 rw [Nat.zero_add] at m1 m2
 have hsz:((plc a).Sets.length:Int)=a.n:=by show (a.sets.length:Int)=_;rw [has]
 refine zga _ _ _ ⟨_,both_ok a b ha hb hn b.null _ _,_,by rw [hsz];exact m1,_,by rw [hsz];exact m2,?_⟩
 have hlead:=lead_cat [] a b
 simp only [List.nil_append,List.length_nil,Nat.zero_add] at hlead
 refine leadA_ok (fr:=lst a.n a.last 0) (to:=lst b.n b.first a.n) (F:=flw a 0++flw b a.n) (zbE _ _ _) (zbE _ _ _) (fun f hf=>?_) (fun x hx=>?_) (fun f hf=>?_) (by omega) (by omega) ?_
 ·rcases List.mem_append.1 hf with hf | hf
  ·exact flw_ss _ _ f hf
  ·exact flw_ss _ _ f hf
 ·obtain ⟨i,hi,_,rfl⟩:=zax.1 hx
  simp only [List.length_append,z8];omega
 ·rcases List.mem_append.1 hf with hf | hf
  ·simp only [flw,List.mem_map] at hf
   obtain ⟨i,_,rfl⟩:=hf
   have:=zan a.n (a.follow i) 0;omega
  ·simp only [flw,List.mem_map] at hf
   obtain ⟨i,_,rfl⟩:=hf
   have:=zan b.n (b.follow i) a.n;omega
 ·rw [hlead]
  have c1:=zhT a b 0
  have c2:=cat_last a b 0
  rw [Nat.zero_add] at c1 c2
  refine ⟨fun l=>l=lst (a.n+b.n) (gCat a b).first 0,?_,fun hnn=>⟨_,zft _ _ (by show (lst _ _ _).length < _;omega) (by omega),?_⟩,fun hnn=>?_⟩
  ·rintro l rfl
   refine ⟨fun l=>l=lst (a.n+b.n) (gCat a b).last 0,?_,fun hnn=>⟨_,zft _ _ (by show (lst _ _ _).length < _;omega) (by omega),?_⟩,fun hnn=>?_⟩
   ·rintro l rfl;rfl
   ·rw [if_pos (show b.null=true from hnn),join_eq (zbE _ _ _) (zbE _ _ _)] at c2;exact c2
   ·rw [if_neg (by show ¬ (b.null=true);have:b.null=false:=hnn;simp [this])] at c2;exact c2
  ·rw [if_pos (show a.null=true from hnn),join_eq (zbE _ _ _) (zbE _ _ _)] at c1;exact c1
  ·rw [if_neg (by show ¬ (a.null=true);have:a.null=false:=hnn;simp [this])] at c1;exact c1
theorem refAlt_ok (a b:GA) (ha:Canon a) (hb:Canon b) (hn:a.n+b.n < 1000):zbN (plc a) (plc b) (plc (gAlt a b)):=by
 have has:=ha.sets
 have l1:=zan a.n a.first 0
 have l2:=zan a.n a.last 0
 have l3:=zan b.n b.first a.n
 have l4:=zan b.n b.last a.n
 have m1:=zfa b.n b.first 0 a.n (by omega)
 have m2:=zfa b.n b.last 0 a.n (by omega)
 rw [Nat.zero_add] at m1 m2
 have hsz:((plc a).Sets.length:Int)=a.n:=by show (a.sets.length:Int)=_;rw [has]
 have c1:=alt_first a b 0
 have c2:=alt_last a b 0
 have c3:=flw_alt a b 0
 rw [Nat.zero_add] at c1 c2 c3
 rw [join_eq (zbE _ _ _) (zbE _ _ _)] at c1 c2
 refine zgb _ _ _ ⟨_,both_ok a b ha hb hn b.null _ _,_,by rw [hsz];exact m1,_,zft _ _ (by show (lst _ _ _).length < _;omega) (by omega),_,by rw [hsz];exact m2,_,zft _ _ (by show (lst _ _ _).length < _;omega) (by omega),?_⟩
 show plc (gAlt a b)=⟨_,addL (lst a.n a.first 0) (lst b.n b.first a.n),addL (lst a.n a.last 0) (lst b.n b.last a.n),_,_⟩
 rw [c1,c2]
 show _=(⟨a.sets++b.sets,_,_,flw a 0++flw b a.n,a.null || b.null⟩:zc)
 rw [c3];rfl
theorem refAgain_ok (a:GA) (ha:Canon a) (hn:a.n < 1000):zbt (plc a) (plc (gAgain a)):=by
 have l1:=zan a.n a.first 0
 have l2:=zan a.n a.last 0
 have hb:=both_ok a gNone ha zbJ (by show a.n+0 < 1000;omega) false [] []
 have e1:a.sets++gNone.sets=a.sets:=List.append_nil _
 have e2:flw a 0++flw gNone a.n=flw a 0:=List.append_nil _
 rw [e1,e2] at hb
 have hlead:=ziq [] a
 simp only [List.nil_append,List.length_nil] at hlead
 refine zeV _ _ ⟨_,hb,?_⟩
 refine leadA_ok (fr:=lst a.n a.last 0) (to:=lst a.n a.first 0) (F:=flw a 0) (zbE _ _ _) (zbE _ _ _) (flw_ss _ _) (fun x hx=>?_) (fun f hf=>?_) (by omega) (by omega) ?_
 ·obtain ⟨i,hi,_,rfl⟩:=zax.1 hx
  simp only [z8];omega
 ·simp only [flw,List.mem_map] at hf
  obtain ⟨i,_,rfl⟩:=hf
  have:=zan a.n (a.follow i) 0;omega
 ·rw [hlead];rfl
theorem zhe (a:GA):zab (plc a) (plc (gMaybe a)):=zeT _ _ rfl
end Go.Ev.Pl
set_option linter.unusedSimpArgs false
set_option linter.unusedVariables false
namespace Go.Ev.Pl
open Go Go.Ev
theorem eta_pl (p:zc):(⟨p.Sets,p.First,p.Last,p.Follow,p.Null⟩:zc)=p:=rfl
theorem empty_ok:zaL (plc gEmpty):=zeU _ rfl
theorem zh7 {a:GA} (h:Canon a) (k:Nat) {z:GA} (hz:Canon z):Canon (iter (gCat a) k z):=zco (fun b hb=>zbG h hb) k hz
theorem refOf_ok:∀ x,Wf x→Rgt x→sizeN x≤200→zaF x (plc (gof x)):=by
 refine rxInd fun x ih hw hr hs=>?_
 obtain ⟨hl,hkw⟩:=(zdx x).1 hw
 obtain ⟨ho,hk⟩:=zdf hr
 have hgn:=zia x hr
 refine zgL x _ ⟨fun h=>?_,fun h2=>⟨fun h=>?_,fun h3=>⟨fun h=>?_,fun h4=>⟨fun h=>?_,fun h5=>?_⟩⟩⟩⟩
 ·have h:x.Kind=2:=by simpa using h
  have hg:gof x=gByte x.Set:=by rw [zch,if_pos h]
  rw [hg];rfl
 ·have h:x.Kind=3:=by simpa using h
  have hg:gof x=x.Kids.foldl (fun o y=>gCat o (gof y)) gEmpty:=by rw [zch];simp [h]
  refine ⟨_,empty_ok,fun s f a b c t=>∃ i:Nat,t=i∧i≤x.Kids.length∧(⟨s,f,a,b,c⟩:zc)=plc ((x.Kids.take i).foldl (fun o y=>gCat o (gof y)) gEmpty),
   fun _ _ _ _ _ t=>(x.Kids.length - t).toNat,⟨0,rfl,by omega,rfl⟩,?_⟩
  rintro s f a b c t ⟨i,rfl,hi,hp⟩
  refine ⟨fun ht=>?_,fun ht=>?_⟩
  ·have ht:i < x.Kids.length:=by simpa using ht
   have hm:=List.getElem_mem ht
   obtain ⟨o,ho'⟩:∃ o,o=(x.Kids.take i).foldl (fun o y=>gCat o (gof y)) gEmpty:=⟨_,rfl⟩
   have hn:=pre_n (f:=gCat) (fun _ _=>rfl) (z:=gEmpty) rfl ht
   rw [← hg,← ho'] at hn
   have hsucc:=zaj (f:=fun o y=>gCat o (gof y)) (b:=gEmpty) ht
   rw [← ho'] at hsucc hp
   have hoc:Canon o:=by
    rw [ho']
    have:∀ (l:List za) (z:GA),Canon z→Canon (l.foldl (fun o y=>gCat o (gof y)) z):=by
     intro l
     induction l with
     | nil=>intro z h;exact h
     | cons y r ih2=>intro z h;exact ih2 _ (zbG h (zae y))
    exact this _ _ zaI
   have hkn:=zia _ (hk _ hm)
   have hw2:w64 ((i:Int)+1)=((i+1:Nat):Int):=zO (by omega) (by omega)
   rw [zad ht,hp]
   refine ⟨by omega,by omega,_,ih _ hm (hkw _ hm) (hk _ hm) (by omega),_,zdM o (gof x.Kids[i]) hoc (zae _) (by omega),?_⟩
   rw [hw2]
   exact ⟨⟨i+1,rfl,by omega,by rw [hsucc]⟩,by first | omega | (dsimp only;omega)⟩
  ·have:i=x.Kids.length:=by have:¬ i < x.Kids.length:=by simpa using ht
                            omega
   subst this
   rw [List.take_of_length_le (Nat.le_refl _),← hg] at hp
   exact hp.symm
 ·have h:x.Kind=4:=by simpa using h
  have hg:gof x=x.Kids.foldl (fun o y=>gAlt o (gof y)) gNone:=by rw [zch];simp [h]
  have h2k:=own_kids ho (.inr h)
  have hm0:x.Kids[0]'(by omega)∈x.Kids:=List.getElem_mem _
  have hg0:List.getD x.Kids 0 default=x.Kids[0]'(by omega):=by simp [List.getD,show 0 < x.Kids.length by omega]
  have hn0:=pre_n (f:=gAlt) (fun _ _=>rfl) (z:=gNone) rfl (l:=x.Kids) (i:=0) (by omega)
  rw [← hg] at hn0
  have hkn0:=zia _ (hk _ hm0)
  refine ⟨by omega,_,by rw [hg0];exact ih _ hm0 (hkw _ hm0) (hk _ hm0) (by omega),fun s f a b c t=>∃ i:Nat,t=i∧1≤i∧i≤x.Kids.length∧(⟨s,f,a,b,c⟩:zc)=plc ((x.Kids.take i).foldl (fun o y=>gAlt o (gof y)) gNone),
   fun _ _ _ _ _ t=>(x.Kids.length - t).toNat,⟨1,rfl,by omega,by omega,?_⟩,?_⟩
  ·rw [eta_pl,zaj (by omega)]
   show _=plc (gAlt gNone _)
   rw [alt_none_l]
  rintro s f a b c t ⟨i,rfl,hi1,hi,hp⟩
  refine ⟨fun ht=>?_,fun ht=>?_⟩
  ·have ht:i < x.Kids.length:=by simpa using ht
   have hm:=List.getElem_mem ht
   obtain ⟨o,ho'⟩:∃ o,o=(x.Kids.take i).foldl (fun o y=>gAlt o (gof y)) gNone:=⟨_,rfl⟩
   have hn:=pre_n (f:=gAlt) (fun _ _=>rfl) (z:=gNone) rfl ht
   rw [← hg,← ho'] at hn
   have hsucc:=zaj (f:=fun o y=>gAlt o (gof y)) (b:=gNone) ht
   rw [← ho'] at hsucc hp
   have hoc:Canon o:=by
    rw [ho']
    have:∀ (l:List za) (z:GA),Canon z→Canon (l.foldl (fun o y=>gAlt o (gof y)) z):=by
     intro l
     induction l with
     | nil=>intro z h;exact h
     | cons y r ih2=>intro z h;exact ih2 _ (zdZ h (zae y))
    exact this _ _ zbJ
   have hkn:=zia _ (hk _ hm)
   have hw2:w64 ((i:Int)+1)=((i+1:Nat):Int):=zO (by omega) (by omega)
   rw [zad ht,hp]
   refine ⟨by omega,by omega,_,ih _ hm (hkw _ hm) (hk _ hm) (by omega),_,refAlt_ok o (gof x.Kids[i]) hoc (zae _) (by omega),?_⟩
   rw [hw2]
   exact ⟨⟨i+1,rfl,by omega,by omega,by rw [hsucc]⟩,by first | omega | (dsimp only;omega)⟩
  ·have:i=x.Kids.length:=by have:¬ i < x.Kids.length:=by simpa using ht
                            omega
   subst this
   rw [List.take_of_length_le (Nat.le_refl _),← hg] at hp
   exact hp.symm
 ·have h:x.Kind=5:=by simpa using h
  obtain ⟨⟨k,hq⟩,h1,h2',h3'⟩:=zdP ho h
  have hkm:k∈x.Kids:=by rw [hq];simp
  have hgof:gof x=gRep (gof k) x.Lo x.Hi:=by rw [zch,h,hq];simp
  have hn:(gof x).n=(max 1 (max x.Lo x.Hi)).toNat * (gof k).n:=by rw [hgof,rep_n _ h1 (by omega)]
  have hkn:=zia k (hk k hkm)
  have hkle:(gof k).n≤(gof x).n:=by
   rw [hn];exact Nat.le_mul_of_pos_left _ (by omega)
  have hkc:=zae k
  have hkd:List.getD x.Kids 0 default=k:=by rw [hq];rfl
  rw [hkd]
  have hbound:∀ j:Nat,j≤(max 1 (max x.Lo x.Hi)).toNat→j * (gof k).n≤200:=fun j hj=>by
   have:=Nat.mul_le_mul_right (gof k).n hj
   omega
  refine ⟨by rw [hq];simp,_,ih k hkm (hkw k hkm) (hk k hkm) (by omega),_,empty_ok,fun hneg=>?_,fun hpos=>?_⟩
  ·have hneg:x.Hi < 0:=of_decide_eq_true hneg
   have hmx:max 1 (max x.Lo x.Hi)=max x.Lo 1:=by omega
   refine ⟨fun s f a b c t=>∃ i:Nat,t=i+1∧(i:Int)≤max x.Lo 1 - 1∧(⟨s,f,a,b,c⟩:zc)=plc (leftp (gof k) i),fun _ _ _ _ _ t=>(x.Lo - t).toNat,⟨0,rfl,by omega,rfl⟩,?_⟩
   rintro s f a b c t ⟨i,rfl,hi,hp⟩
   have hln:(leftp (gof k) i).n=i * (gof k).n:=by
    have:=zht (f:=fun o=>gCat o (gof k)) (a:=gof k) (fun o=>by show o.n+(gof k).n=_;omega) i gEmpty
    rw [show leftp (gof k) i=iter (fun o=>gCat o (gof k)) i gEmpty from rfl,this];rfl
   have hlc:Canon (leftp (gof k) i):=zco (fun b hb=>zbG hb hkc) i zaI
   have hb1:=hbound (i+1) (by omega)
   rw [Nat.succ_mul] at hb1
   refine ⟨fun ht=>?_,fun ht=>?_⟩
   ·have ht:(i:Int)+1 < x.Lo:=of_decide_eq_true ht
    have hw2:w64 ((i:Int)+1+1)=((i+1:Nat):Int)+1:=(zO (by omega) (by omega)).trans (by omega)
    rw [hp]
    refine ⟨_,zdM _ _ hlc hkc (by omega),?_⟩
    rw [hw2]
    exact ⟨⟨i+1,rfl,by omega,rfl⟩,by first | omega | (dsimp only;omega)⟩
   ·have ht:¬ (i:Int)+1 < x.Lo:=of_decide_eq_false ht
    have hii:i=(max x.Lo 1 - 1).toNat:=by omega
    have hfin:∀ z:GA,z=(if x.Lo=0 then gMaybe (gAgain (gof k)) else gAgain (gof k))→gCat (leftp (gof k) i) z=gof x:=by
     rintro z rfl
     rw [leftp_cat,hgof]
     unfold gRep
     rw [if_pos hneg,hii]
    refine ⟨_,refAgain_ok (gof k) hkc (by omega),fun s f a b c=>∃ z:GA,Canon z∧z.n=(gof k).n∧z=(if x.Lo=0 then gMaybe (gAgain (gof k)) else gAgain (gof k))∧(⟨s,f,a,b,c⟩:zc)=plc z,?_,fun h0=>?_,fun h0=>?_⟩
    ·rintro s f a b c ⟨z,hzc,hzn,hz,hpz⟩
     rw [hp,hpz]
     exact ⟨_,zdM _ _ hlc hzc (by omega),by rw [hfin z hz]⟩
    ·have h0:x.Lo=0:=by simpa using h0
     exact ⟨_,zhe _,gMaybe (gAgain (gof k)),zcN (zcp hkc),rfl,by rw [if_pos h0],rfl⟩
    ·have h0:x.Lo≠0:=by simpa using h0
     exact ⟨gAgain (gof k),zcp hkc,rfl,by rw [if_neg h0],rfl⟩
  ·have hpos:¬ x.Hi < 0:=of_decide_eq_false hpos
   have hmx:max 1 (max x.Lo x.Hi)=x.Hi:=by omega
   refine ⟨fun s f a b c t=>∃ i:Nat,t=x.Lo+i∧x.Lo+i≤x.Hi∧(⟨s,f,a,b,c⟩:zc)=plc (iter (fun o=>gMaybe (gCat (gof k) o)) i gEmpty),fun _ _ _ _ _ t=>(x.Hi - t).toNat,⟨0,by simp,by omega,rfl⟩,?_⟩
   rintro s f a b c t ⟨i,rfl,hi,hp⟩
   have hin:=zht (f:=fun o=>gMaybe (gCat (gof k) o)) (a:=gof k) (fun _=>rfl) i gEmpty
   have hin:(iter (fun o=>gMaybe (gCat (gof k) o)) i gEmpty).n=i * (gof k).n:=hin
   have hic:Canon (iter (fun o=>gMaybe (gCat (gof k) o)) i gEmpty):=zco (fun b hb=>zcN (zbG hkc hb)) i zaI
   refine ⟨fun ht=>?_,fun ht=>?_⟩
   ·have ht:x.Lo+i < x.Hi:=of_decide_eq_true ht
    have hb1:=hbound (i+1) (by omega)
    rw [Nat.succ_mul] at hb1
    have hw2:w64 (x.Lo+(i:Int)+1)=x.Lo+((i+1:Nat):Int):=(zO (by omega) (by omega)).trans (by omega)
    rw [hp]
    refine ⟨_,zdM _ _ hkc hic (by omega),_,zhe _,?_⟩
    rw [hw2]
    exact ⟨⟨i+1,rfl,by omega,rfl⟩,by first | omega | (dsimp only;omega)⟩
   ·have ht:¬ x.Lo+i < x.Hi:=of_decide_eq_false ht
    have hii:i=(x.Hi - x.Lo).toNat:=by omega
    refine ⟨fun s f a b c t=>∃ j:Nat,t=j∧(j:Int)≤x.Lo∧(⟨s,f,a,b,c⟩:zc)=plc (iter (gCat (gof k)) j (iter (fun o=>gMaybe (gCat (gof k) o)) i gEmpty)),fun _ _ _ _ _ t=>(x.Lo - t).toNat,⟨0,rfl,by omega,hp⟩,?_⟩
    rintro s f a b c t ⟨j,rfl,hj,hp⟩
    have hjn:=zht (f:=gCat (gof k)) (a:=gof k) (fun _=>rfl) j (iter (fun o=>gMaybe (gCat (gof k) o)) i gEmpty)
    rw [hin,← Nat.add_mul] at hjn
    have hjc:=zh7 hkc j hic
    refine ⟨fun ht=>?_,fun ht=>?_⟩
    ·have ht:(j:Int) < x.Lo:=of_decide_eq_true ht
     have hb1:=hbound (j+i+1) (by omega)
     rw [Nat.succ_mul] at hb1
     have hw2:w64 ((j:Int)+1)=((j+1:Nat):Int):=zO (by omega) (by omega)
     rw [hp]
     refine ⟨_,zdM _ _ hkc hjc (by omega),?_⟩
     rw [hw2]
     exact ⟨⟨j+1,rfl,by omega,rfl⟩,by first | omega | (dsimp only;omega)⟩
    ·have ht:¬ (j:Int) < x.Lo:=of_decide_eq_false ht
     rw [hp,hgof]
     unfold gRep
     rw [if_neg hpos,← hii,show j=x.Lo.toNat by omega]
 ·have h1:x.Kind=1:=by
   simp only [beq_eq_false_iff_ne,ne_eq] at h2 h3 h4 h5
   have:=zdj ho;omega
  have hg:gof x=gEmpty:=by rw [zch];simp [h1]
  rw [hg]
  exact ⟨_,empty_ok,rfl⟩
theorem refOfAll_ok (x:za) (hw:Wf x):zbY x (if rightB x=true then plc (gof x) else noPl) (if rightB x=true then 0 else 1):=by
 refine zgM x _ _ ⟨_,zcr x hw,fun h=>?_,fun h=>?_⟩
 ·have h:rightB x=false:=by simpa using h
  rw [h];exact ⟨rfl,rfl⟩
 ·have h:rightB x=true:=by simpa using h
  obtain ⟨hr,hs⟩:=zbI h
  exact ⟨_,refOf_ok x hw hr hs,by rw [if_pos h],by rw [if_pos h]⟩
end Go.Ev.Pl
set_option linter.unusedSimpArgs false
set_option linter.unusedVariables false
namespace Go.Ev.Pl
open Go Go.Ev
def setOf (lo hi:Int):zb:=mkSet fun i=>decide (i≥lo) && decide (i≤hi)
theorem noset_97:noSet (setOf 97 97)=false:=by kernel_rfl
theorem noset_98:noSet (setOf 98 98)=false:=by kernel_rfl
theorem noset_99:noSet (setOf 99 99)=false:=by kernel_rfl
theorem noset_10:noSet (setOf 10 10)=false:=by kernel_rfl
theorem noset_45:noSet (setOf 45 45)=false:=by kernel_rfl
theorem noset_90:noSet (setOf 90 90)=false:=by kernel_rfl
theorem noset_0:noSet (setOf 0 0)=false:=by kernel_rfl
theorem noset_255:noSet (setOf 255 255)=false:=by kernel_rfl
theorem noset_48:noSet (setOf 48 48)=false:=by kernel_rfl
theorem noset_ac:noSet (setOf 97 99)=false:=by kernel_rfl
theorem noset_not:noSet (mkSet fun i=>!setHas (setOf 97 97) i)=false:=by kernel_rfl
def zset:zb:=⟨0,0,0,0⟩
def chr (b:Int):za:=⟨2,setOf b b,0,0,[]⟩
theorem zdC (k:Int) (s:zb) (lo hi:Int):Wf ⟨k,s,lo,hi,[]⟩:=(zdx _).2 ⟨by simp,fun y hy=>by simp at hy⟩
end Go.Ev.Pl
set_option linter.unusedSimpArgs false
set_option linter.unusedVariables false
namespace Go.Ev.Pl
open Go Go.Ev
def cnt:za→Nat:=cata fun _ l=>1+l.sum
theorem zdY (x:za):cnt x=1+(x.Kids.map cnt).sum:=zdr _ x
theorem zfV:∀ l:List za,l.length≤(l.map cnt).sum
 | []=>Nat.le_refl _
 | x :: r=>by have:=zfV r;have:=zdY x;simp;omega
theorem sum_mem_le {l:List za} {y:za} (h:y∈l):cnt y≤(l.map cnt).sum:=by
 induction l with
 | nil=>simp at h
 | cons x r ih=>
   rcases List.mem_cons.1 h with rfl | h
   ·simp
   ·have:=ih h;simp;omega
theorem wf_of_cnt:∀ x,cnt x < 1000000→Wf x:=by
 refine rxInd fun x ih h=>?_
 rw [zdY] at h
 have:=zfV x.Kids
 exact (zdx x).2 ⟨by omega,fun y hy=>ih y hy (by have:=sum_mem_le hy;omega)⟩
theorem zik:∀ x (most:Int),(cnt x:Int)≤most→nodesZ x most=most - cnt x:=by
 refine rxInd fun x ih most hm=>?_
 rw [zdQ]
 rw [zdY] at hm ⊢
 have key:∀ (l:List za) (m:Int),(∀ y∈l,y∈x.Kids)→(((l.map cnt).sum:Nat):Int)≤m→l.foldl (fun m y=>if m≥0 then nodesZ y m else m) m=m - (((l.map cnt).sum:Nat):Int):=by
  intro l
  induction l with
  | nil=>intro m _ _;simp
  | cons y r ih2=>
    intro m hl h
    simp only [List.map_cons,List.sum_cons] at h ⊢
    rw [List.foldl_cons,if_pos (by omega),ih y (hl y (List.mem_cons_self ..)) m (by omega),ih2 _ (fun z hz=>hl z (List.mem_cons_of_mem _ hz)) (by omega)]
    omega
 rw [key x.Kids (most - 1) (fun _ h=>h) (by omega)]
 omega
theorem rgt_mono:∀ x (d:Int),rgt x d=true→∀ d',d≤d'→rgt x d'=true:=by
 refine rxInd fun x ih d h d' hd=>?_
 rw [zet] at h ⊢
 simp only [Bool.and_eq_true,decide_eq_true_eq,List.all_eq_true,Bool.not_eq_true'] at h ⊢
 exact ⟨⟨by omega,h.1.2⟩,fun k hk=>⟨(h.2 k hk).1,ih k hk _ (h.2 k hk).2 _ (by omega)⟩⟩
theorem rgt_leaf {s:zb} (h:noSet s=false):rgt ⟨2,s,0,0,[]⟩ 1=true:=by
 rw [zet];simp [ownB,h]
theorem rgt_empty:rgt ⟨1,zset,0,0,[]⟩ 1=true:=by kernel_rfl
def Bytes (l:List Int):Prop:=∀ b∈l,0≤b∧b≤255
structure MOk (m:zl):Prop where
 bytes:Bytes m.L
 len:m.L.length≤1000
 at0:0≤m.At
theorem zeF (n:Int) (m:zl) (hn:1≤n) (hm:MOk m) (ha:m.At < 1000000):∃ r,0≤r∧r < n∧zP n m r { L:=m.L,At:=m.At+1 }:=by
 have h0:=hm.at0
 have hl:=hm.len
 have hw1:w64 (m.At+1)=m.At+1:=zO (by omega) (by omega)
 have hw2:w64 (m.At+1 - 1)=m.At:=(zO (by omega) (by omega)).trans (by omega)
 by_cases hg:m.At+1 > m.L.length
 ·refine ⟨0,by omega,by omega,zb3 n m _ _ ?_⟩
  rw [hw1]
  exact ⟨fun _=>⟨rfl,rfl⟩,fun h=>absurd hg (by simpa using h)⟩
 ·have hi:m.At.toNat < m.L.length:=by omega
  have he:gd m.L m.At=m.L[m.At.toNat]:=by simp [gd,List.getD,hi]
  obtain ⟨b0,b1⟩:=hm.bytes _ (List.getElem_mem hi)
  have hw3:w64 (gd m.L m.At)=gd m.L m.At:=by rw [he];exact zO (by omega) (by omega)
  refine ⟨Int.tmod (gd m.L m.At) n,?_,?_,zb3 n m _ _ ?_⟩
  ·rw [he,Int.tmod_eq_emod_of_nonneg b0];exact Int.emod_nonneg _ (by omega)
  ·rw [he,Int.tmod_eq_emod_of_nonneg b0];exact Int.emod_lt_of_pos _ (by omega)
  ·rw [hw1,hw2,hw3]
   exact ⟨fun h=>absurd (by simpa using h) hg,fun _=>⟨by omega,by omega,by omega,rfl,rfl⟩⟩
theorem chr_ok (b:Int):zaC b (chr b):=char3_ok b
theorem rgt_chr {b:Int} (h:noSet (setOf b b)=false):rgt (chr b) 1=true:=rgt_leaf h
structure Good (d:Nat) (r:za):Prop where
 right:rgt r ((d:Int)+1)=true
 small:cnt r≤2 ^ (d+1) - 1
theorem zfp (k:Int) (s:zb) (lo hi:Int):cnt ⟨k,s,lo,hi,[]⟩=1:=by rw [zdY];rfl
theorem leaf_ok (m:zl) (hm:MOk m) (ha:m.At < 900000):∃ r o,zaU m r o∧Good 0 r∧o.L=m.L∧m.At≤o.At∧o.At≤m.At+2:=by
 obtain ⟨r0,p0,p1,hp⟩:=zeF 8 m (by omega) hm (by omega)
 have hm1:MOk { L:=m.L,At:=m.At+1 }:=⟨hm.bytes,hm.len,by have:=hm.at0;simp only;omega⟩
 have good:∀ {r:za},rgt r 1=true→cnt r=1→Good 0 r:=fun h1 h2=>⟨by simpa using h1,by omega⟩
 by_cases h0:r0=0
 ·subst h0
  exact ⟨_,_,zav m _ _ ⟨_,_,hp,fun _=>⟨rfl,rfl⟩,fun h=>by simp at h⟩,good rgt_empty (zfp _ _ _ _),rfl,by simp only;omega,by simp only;omega⟩
 by_cases h1:r0=1
 ·subst h1
  exact ⟨_,_,zav m _ _ ⟨_,_,hp,fun h=>by simp at h,fun _=>⟨fun _=>⟨_,zgR 97 99,rfl,rfl⟩,fun h=>by simp at h⟩⟩,good (rgt_leaf noset_ac) (zfp _ _ _ _),rfl,by simp only;omega,by simp only;omega⟩
 by_cases h2:r0=2
 ·subst h2
  exact ⟨_,_,zav m _ _ ⟨_,_,hp,fun h=>by simp at h,fun _=>⟨fun h=>by simp at h,fun _=>⟨fun _=>⟨_,zgR 97 97,_,setNot_ok _,rfl,rfl⟩,fun h=>by simp at h⟩⟩⟩,good (rgt_leaf noset_not) (zfp _ _ _ _),rfl,by simp only;omega,by simp only;omega⟩
 by_cases h3:r0=3
 ·subst h3
  obtain ⟨r1,q0,q1,hq⟩:=zeF 6 _ (by omega) hm1 (by simp only;omega)
  have hr:r1=0∨r1=1∨r1=2∨r1=3∨r1=4∨r1=5:=by omega
  have hs:noSet (setOf (gd [10,45,90,0,255,48] r1) (gd [10,45,90,0,255,48] r1))=false:=by
   rcases hr with rfl | rfl | rfl | rfl | rfl | rfl
   ·exact noset_10
   ·exact noset_45
   ·exact noset_90
   ·exact noset_0
   ·exact noset_255
   ·exact noset_48
  exact ⟨_,_,zav m _ _ ⟨_,_,hp,fun h=>by simp at h,fun _=>⟨fun h=>by simp at h,fun _=>⟨fun h=>by simp at h,fun _=>⟨fun _=>⟨_,_,hq,q0,by omega,by simp;omega,_,chr_ok _,rfl,rfl⟩,fun h=>by simp at h⟩⟩⟩⟩,good (rgt_chr hs) (zfp _ _ _ _),rfl,by simp only;omega,by simp only;omega⟩
 obtain ⟨r1,q0,q1,hq⟩:=zeF 3 _ (by omega) hm1 (by simp only;omega)
 have hr:r1=0∨r1=1∨r1=2:=by omega
 have hs:noSet (setOf (w64 (97+r1)) (w64 (97+r1)))=false:=by
  rcases hr with rfl | rfl | rfl
  ·exact noset_97
  ·exact noset_98
  ·exact noset_99
 exact ⟨_,_,zav m _ _ ⟨_,_,hp,fun h=>absurd (by simpa using h) h0,fun _=>⟨fun h=>absurd (by simpa using h) h1,fun _=>⟨fun h=>absurd (by simpa using h) h2,fun _=>⟨fun h=>absurd (by simpa using h) h3,fun _=>⟨_,_,hq,_,chr_ok _,rfl,rfl⟩⟩⟩⟩⟩,good (rgt_chr hs) (zfp _ _ _ _),rfl,by simp only;omega,by simp only;omega⟩
def jk (kind:Int) (r:za):List za:=if r.Kind=kind then r.Kids else [r]
theorem joined_ok (kind:Int) (r1 r2:za) (h1:r1.Kids.length < 1000000) (h2:r2.Kids.length < 1000000):z6 kind [r1,r2] ⟨kind,zset,0,0,jk kind r1++jk kind r2⟩:=by
 have hjl:∀ r:za,r.Kids.length < 1000000→(jk kind r).length < 1000000:=fun r h=>by unfold jk;split;exact h;simp
 have hj1:=hjl r1 h1
 have hj2:=hjl r2 h2
 refine zep kind _ _ ⟨fun k t=>(t=0∧k=[])∨(t=1∧k=jk kind r1)∨(t=2∧k=jk kind r1++jk kind r2),fun _ t=>(2 - t).toNat,.inl ⟨rfl,rfl⟩,?_⟩
 rintro k t (⟨rfl,rfl⟩ | ⟨rfl,rfl⟩ | ⟨rfl,rfl⟩)
 ·refine ⟨fun _=>⟨fun k'=>k'=jk kind r1,?_,by omega,by simp,fun h=>⟨by omega,by simp,?_,?_⟩,fun h=>⟨by omega,by simp,by simp,?_⟩⟩,fun h=>by simp at h⟩
  ·rintro k' rfl;exact ⟨.inr (.inl ⟨rfl,rfl⟩),by show Int.toNat (2 - 1) < Int.toNat (2 - 0);decide⟩
  ·have:gd [r1,r2] 0=r1:=rfl
   rw [this];simp;omega
  ·have:gd [r1,r2] 0=r1:=rfl
   rw [this] at h ⊢
   have h:r1.Kind=kind:=by simpa using h
   simp [jk,h]
  ·have:gd [r1,r2] 0=r1:=rfl
   rw [this] at h ⊢
   have h:r1.Kind≠kind:=by simpa using h
   simp [jk,h]
 ·refine ⟨fun _=>⟨fun k'=>k'=jk kind r1++jk kind r2,?_,by omega,by simp,fun h=>⟨by omega,by simp,?_,?_⟩,fun h=>⟨by omega,by simp,?_,?_⟩⟩,fun h=>by simp at h⟩
  ·rintro k' rfl;exact ⟨.inr (.inr ⟨rfl,rfl⟩),by show Int.toNat (2 - 2) < Int.toNat (2 - 1);decide⟩
  ·have:gd [r1,r2] 1=r2:=rfl
   rw [this];omega
  ·have:gd [r1,r2] 1=r2:=rfl
   rw [this] at h ⊢
   have h:r2.Kind=kind:=by simpa using h
   simp [jk,h]
  ·omega
  ·have:gd [r1,r2] 1=r2:=rfl
   rw [this] at h ⊢
   have h:r2.Kind≠kind:=by simpa using h
   simp [jk,h]
 ·exact ⟨fun h=>by simp at h,fun _=>rfl⟩
theorem zhr {kind:Int} (hk:kind=3∨kind=4) {d:Nat} {r1 r2:za} (h1:Good d r1) (h2:Good d r2):Good (d+1) ⟨kind,zset,0,0,jk kind r1++jk kind r2⟩:=by
 have key:∀ r,Good d r→1≤(jk kind r).length∧((jk kind r).map cnt).sum≤cnt r∧∀ k∈jk kind r,k.Kind≠kind∧rgt k ((d:Int)+1)=true:=by
  intro r h
  have hr:=h.right
  by_cases e:r.Kind=kind
  ·rw [zet] at hr
   simp only [Bool.and_eq_true,decide_eq_true_eq,List.all_eq_true,Bool.not_eq_true'] at hr
   have:=own_kids hr.1.2 (by omega)
   simp only [jk,if_pos e]
   refine ⟨by omega,by rw [zdY];omega,fun k hkm=>?_⟩
   obtain ⟨q1,q2⟩:=hr.2 k hkm
   refine ⟨fun e2=>?_,rgt_mono _ _ q2 _ (by omega)⟩
   simp only [oddK,e2,e] at q1
   rcases hk with rfl | rfl<;>simp at q1
  ·simp only [jk,if_neg e]
   exact ⟨by simp,by simp,fun k hkm=>by simp at hkm;subst hkm;exact ⟨e,hr⟩⟩
 obtain ⟨a1,a2,a3⟩:=key r1 h1
 obtain ⟨b1,b2,b3⟩:=key r2 h2
 constructor
 ·rw [zet]
  simp only [Bool.and_eq_true,decide_eq_true_eq,List.all_eq_true,Bool.not_eq_true']
  refine ⟨⟨by omega,?_⟩,fun k hkm=>?_⟩
  ·have hz:noSet zset=true:=rfl
   simp only [ownB]
   rw [if_neg (by omega),if_neg (by omega),if_neg (by omega),if_pos hk,hz]
   simp;omega
  ·have:k.Kind≠kind∧rgt k ((d:Int)+1)=true:=by
    rcases List.mem_append.1 hkm with h | h
    ·exact a3 k h
    ·exact b3 k h
   refine ⟨by simp [oddK,this.1],?_⟩
   have e:(((d+1:Nat):Int)+1 - 1)=(d:Int)+1:=by omega
   rw [e];exact this.2
 ·rw [zdY]
  simp only [List.map_append,List.sum_append]
  have:=h1.small
  have:=h2.small
  have e:2 ^ (d+1+1)=2 ^ (d+1)+2 ^ (d+1):=by rw [Nat.pow_succ];omega
  have:1≤2 ^ (d+1):=Nat.one_le_two_pow
  omega
theorem good_mono {d d':Nat} {r:za} (h:Good d r) (hd:d≤d'):Good d' r:=by
 refine ⟨rgt_mono _ _ h.right _ (by omega),?_⟩
 have:=h.small
 have:2 ^ (d+1)≤2 ^ (d'+1):=Nat.pow_le_pow_right (by omega) (by omega)
 omega
theorem zfg {d:Nat} {r:za} (h:Good d r) (hd:d≤10):r.Kids.length < 1000000∧Wf r:=by
 have hs:=h.small
 have:2 ^ (d+1)≤2 ^ 11:=Nat.pow_le_pow_right (by omega) (by omega)
 have e:=zdY r
 have:=zfV r.Kids
 exact ⟨by omega,wf_of_cnt r (by omega)⟩
theorem mk_ok:∀ (d:Nat),d≤5→∀ (deep:Int),deep≤d→-10≤deep→∀ m,MOk m→m.At+10 * 3 ^ d < 100000→∃ r o,zN deep m r o∧Good d r∧o.L=m.L∧m.At≤o.At∧o.At≤m.At+10 * 3 ^ d:=by
 intro d
 induction d using Nat.strongRecOn with
 | _ d ih=>
 intro hd5 deep hdd hd0 m hm hat
 have h30:(1:Int)≤3 ^ d:=by exact_mod_cast Nat.one_le_pow d 3 (by omega)
 have hm0:=hm.at0
 obtain ⟨k,p0,p1,hp⟩:=zeF 8 m (by omega) hm (by omega)
 have hm1:MOk { L:=m.L,At:=m.At+1 }:=⟨hm.bytes,hm.len,by simp only;omega⟩
 by_cases hleaf:(decide (deep < 1) || (decide (k < 2) || decide (m.At+1≥(m.L.length:Int))))=true
 ·obtain ⟨r,o,c1,c2,c3,c4,c5⟩:=leaf_ok _ hm1 (by simp only;omega)
  exact ⟨r,o,za6 deep m _ _ ⟨_,_,hp,fun _=>⟨_,_,c1,rfl,rfl⟩,fun h=>(by rw [hleaf] at h;cases h)⟩,good_mono c2 (by omega),c3,by simp only at c4;omega,by simp only at c5;omega⟩
 have hleaf:(decide (deep < 1) || (decide (k < 2) || decide (m.At+1≥(m.L.length:Int))))=false:=by simpa using hleaf
 have hdp:1≤deep:=by simp only [Bool.or_eq_false_iff,decide_eq_false_iff_not] at hleaf;omega
 obtain ⟨e,rfl⟩:∃ e,d=e+1:=⟨d - 1,by omega⟩
 have h3:(3:Int) ^ (e+1)=3 * 3 ^ e:=by rw [Int.pow_succ];omega
 have h3e:(1:Int)≤3 ^ e:=by exact_mod_cast Nat.one_le_pow e 3 (by omega)
 have hw1:w64 (deep - 1)=deep - 1:=zO (by omega) (by omega)
 have hw2:w64 (deep - 2)=deep - 2:=zO (by omega) (by omega)
 by_cases hk5:k < 5
 ·obtain ⟨r1,o1,c1,g1,l1,u1,v1⟩:=ih e (by omega) (by omega) (deep - 1) (by omega) (by omega) _ hm1 (by simp only;omega)
  simp only at l1 u1 v1
  obtain ⟨r2,o2,c2,g2,l2,u2,v2⟩:=ih e (by omega) (by omega) (deep - 1) (by omega) (by omega) o1 ⟨by rw [l1];exact hm.bytes,by rw [l1];exact hm.len,by omega⟩ (by omega)
  refine ⟨_,o2,za6 deep m _ _ ⟨_,_,hp,fun h=>(by rw [hleaf] at h;cases h),fun _=>⟨fun _=>⟨_,_,by rw [hw1];exact c1,_,_,by rw [hw1];exact c2,_,joined_ok 3 r1 r2 (zfg g1 (by omega)).1 (zfg g2 (by omega)).1,rfl,rfl⟩,fun h=>absurd hk5 (by simpa using h)⟩⟩,zhr (.inl rfl) g1 g2,by rw [l2,l1],by omega,by omega⟩
 by_cases hk5':k=5
 ·obtain ⟨r1,o1,c1,g1,l1,u1,v1⟩:=ih e (by omega) (by omega) (deep - 1) (by omega) (by omega) _ hm1 (by simp only;omega)
  simp only at l1 u1 v1
  obtain ⟨r2,o2,c2,g2,l2,u2,v2⟩:=ih e (by omega) (by omega) (deep - 1) (by omega) (by omega) o1 ⟨by rw [l1];exact hm.bytes,by rw [l1];exact hm.len,by omega⟩ (by omega)
  refine ⟨_,o2,za6 deep m _ _ ⟨_,_,hp,fun h=>(by rw [hleaf] at h;cases h),fun _=>⟨fun h=>absurd (by simpa using h) hk5,fun _=>⟨fun _=>⟨_,_,by rw [hw1];exact c1,_,_,by rw [hw1];exact c2,_,joined_ok 4 r1 r2 (zfg g1 (by omega)).1 (zfg g2 (by omega)).1,rfl,rfl⟩,fun h=>absurd hk5' (by simpa using h)⟩⟩⟩,zhr (.inr rfl) g1 g2,by rw [l2,l1],by omega,by omega⟩
 obtain ⟨lo,q0,q1,hq⟩:=zeF 3 _ (by omega) hm1 (by simp only;omega)
 simp only at hq
 have hm2:MOk { L:=m.L,At:=m.At+1+1 }:=⟨hm.bytes,hm.len,by simp only;omega⟩
 obtain ⟨st,s0,s1,hs⟩:=zeF 2 _ (by omega) hm2 (by simp only;omega)
 simp only at hs
 have hm3:MOk { L:=m.L,At:=m.At+1+1+1 }:=⟨hm.bytes,hm.len,by simp only;omega⟩
 obtain ⟨more,t0,t1,ht⟩:=zeF 2 _ (by omega) hm3 (by simp only;omega)
 simp only at ht
 have kid:∀ a:Int,m.At+1≤a→a≤m.At+4→∃ r o,zN (deep - 2) { L:=m.L,At:=a } r o∧Good e r∧o.L=m.L∧m.At≤o.At∧o.At≤m.At+10 * 3 ^ (e+1):=by
  intro a ha1 ha2
  obtain ⟨r,o,c,g,l,u,v⟩:=ih e (by omega) (by omega) (deep - 2) (by omega) (by omega) { L:=m.L,At:=a } ⟨hm.bytes,hm.len,by simp only;omega⟩ (by simp only;omega)
  simp only at l u v
  exact ⟨r,o,c,g,l,by omega,by omega⟩
 have good:∀ {r:za} {hi:Int},Good e r→timesB lo hi=true→Good (e+1) ⟨5,zset,lo,hi,[r]⟩:=by
  intro r hi g htm
  constructor
  ·rw [zet]
   have hz:noSet zset=true:=rfl
   have e1:(((e+1:Nat):Int)+1 - 1)=(e:Int)+1:=by omega
   have e2:decide ((((e+1:Nat):Int)+1) > 0)=true:=by simp;omega
   rw [e1,e2]
   simp [ownB,hz,htm,oddK,g.right]
  ·rw [zdY]
   have:=g.small
   have epow:2 ^ (e+1+1)=2 ^ (e+1)+2 ^ (e+1):=by rw [Nat.pow_succ];omega
   have:1≤2 ^ (e+1):=Nat.one_le_two_pow
   simp;omega
 have hwhi:w64 ((if lo > 1 then lo else 1)+more)=(if lo > 1 then lo else 1)+more:=by
  split<;>exact zO (by omega) (by omega)
 have fin:∀ (a hi:Int),m.At+1≤a→a≤m.At+4→timesB lo hi=true→((st=1∧a=m.At+4∧hi=(if lo > 1 then lo else 1)+more)∨(st≠1∧a=m.At+3∧hi = -1))→
  ∃ r o,zN deep m r o∧Good (e+1) r∧o.L=m.L∧m.At≤o.At∧o.At≤m.At+10 * 3 ^ (e+1):=by
  intro a hi ha1 ha2 htm hcase
  obtain ⟨r,o,c,g,l,u,v⟩:=kid a ha1 ha2
  refine ⟨_,o,za6 deep m _ _ ⟨_,_,hp,fun h=>(by rw [hleaf] at h;cases h),fun _=>⟨fun h=>absurd (by simpa using h) hk5,fun _=>⟨fun h=>absurd (by simpa using h) hk5',fun _=>⟨_,_,hq,fun L A H=>L=m.L∧A=a∧H=hi,?_,_,_,hs,fun h1=>?_,fun h1=>?_⟩⟩⟩⟩,good g htm,l,u,v⟩
  ·rintro L A H ⟨rfl,rfl,rfl⟩
   exact ⟨_,_,by rw [hw2];exact c,rfl,rfl⟩
  ·have h1:st=1:=by simpa using h1
   rcases hcase with ⟨_,rfl,rfl⟩ | ⟨h2,_⟩
   ·exact ⟨_,_,ht,rfl,by simp only;omega,hwhi⟩
   ·exact absurd h1 h2
  ·have h1:st≠1:=by simpa using h1
   rcases hcase with ⟨h2,_⟩ | ⟨_,rfl,rfl⟩
   ·exact absurd h2 h1
   ·exact ⟨rfl,by simp only;omega,rfl⟩
 by_cases h1:st=1
 ·refine fin (m.At+4) ((if lo > 1 then lo else 1)+more) (by omega) (by omega) ?_ (.inl ⟨h1,rfl,rfl⟩)
  simp only [timesB,Bool.and_eq_true,decide_eq_true_eq,Bool.or_eq_true]
  refine ⟨by omega,by omega,.inr ⟨?_,?_⟩⟩<;>split<;>omega
 ·refine fin (m.At+3) (-1) (by omega) (by omega) ?_ (.inr ⟨h1,rfl,rfl⟩)
  simp only [timesB,Bool.and_eq_true,decide_eq_true_eq,Bool.or_eq_true]
  exact ⟨by omega,by omega,.inl (by simp)⟩
structure Fit (x:za):Prop where
 wf:Wf x
 right:rightB x=true
 size:sizeN x≤40
theorem fit_chr:Fit (chr 97):=⟨zdC _ _ _ _,by kernel_rfl,by show sizeN (chr 97)≤40;rw [show sizeN (chr 97)=1 from by kernel_rfl];omega⟩
theorem made_ok (l:List Int) (hb:Bytes l):∃ x,zaV l x∧Fit x:=by
 have main:∀ l1:List Int,Bytes l1→l1.length≤30→∃ r o,zN 4 { L:=l1,At:=0 } r o∧Good 4 r:=by
  intro l1 h1 h2
  obtain ⟨r,o,c,g,_⟩:=mk_ok 4 (by omega) 4 (by omega) (by omega) { L:=l1,At:=0 } ⟨h1,by simp only;omega,by simp⟩ (by simp)
  exact ⟨r,o,c,g⟩
 obtain ⟨l1,hl1⟩:∃ l1,l1=if l.length > 30 then l.take 30 else l:=⟨_,rfl⟩
 have hb1:Bytes l1:=by
  rw [hl1];split
  ·exact fun b hb'=>hb b (List.mem_of_mem_take hb')
  ·exact hb
 have hle:l1.length≤30:=by
  rw [hl1];split
  ·simp;omega
  ·omega
 obtain ⟨r,o,c,g⟩:=main l1 hb1 hle
 have hw:=(zfg g (by omega)).2
 have made:∀ x,(sizeZ r > 40→x=chr 97)→(¬ sizeZ r > 40→x=r)→zaV l x:=by
  intro x h1 h2
  refine zfJ l x ⟨fun l2=>l2=l1,?_,fun h=>⟨⟨by omega,?_,?_⟩,?_⟩,fun h=>?_⟩
  ·rintro l2 rfl
   refine ⟨r,o,c,_,zfS r hw,fun h=>⟨_,chr_ok 97,h1 (by simpa using h)⟩,fun h=>h2 (by simpa using h)⟩
  ·have:l.length > 30:=by have:(l.length:Int) > 30:=by simpa using h
                          omega
   show 30≤_;omega
  ·exact zf0 l
  ·have:l.length > 30:=by have:(l.length:Int) > 30:=by simpa using h
                          omega
   rw [hl1,if_pos this];rfl
  ·have:¬ l.length > 30:=by have:¬ (l.length:Int) > 30:=by simpa using h
                            omega
   rw [hl1,if_neg this]
 by_cases hs:sizeZ r > 40
 ·exact ⟨chr 97,made _ (fun _=>rfl) (fun h=>absurd hs h),fit_chr⟩
 ·refine ⟨r,made _ (fun h=>absurd h hs) (fun _=>rfl),hw,?_,?_⟩
  ·have h1:=rgt_mono r _ g.right 20 (by omega)
   have h2:sizeZ r≤200:=by omega
   have hsm:=g.small
   have h3:=zik r 1000 (by have:cnt r≤31:=hsm;omega)
   have h4:nodesZ r 1000≥0:=by have:cnt r≤31:=hsm;omega
   simp [rightB,h1,h2,h4]
  ·simp only [sizeZ] at hs;omega
end Go.Ev.Pl
set_option linter.unusedSimpArgs false
set_option linter.unusedVariables false
namespace Go.Ev.Pl
open Go Go.Ev
section
variable (N : Nat) (B : Nat → Int)
def hdS (sets:List zb) (p i:Nat):Prop:=i < N∧∃ s,sets[p]?=some s∧setHas s (B i)=true
inductive Pth (sets:List zb) (last:Nat→Bool) (fo:Nat→Nat→Bool):Nat→Nat→Nat→Prop where
 | last {p i:Nat} (h:hdS N B sets p i) (hl:last p=true):Pth sets last fo p i (i+1)
 | step {p q i j:Nat} (h:hdS N B sets p i) (hf:fo p q=true) (hp:Pth sets last fo q (i+1) j):Pth sets last fo p i j
def one (g:GA) (i j:Nat):Prop:=∃ p,g.first p=true∧Pth N B g.sets g.last g.follow p i j
def acc (g:GA) (i j:Nat):Prop:=(g.null=true∧i=j)∨one N B g i j
variable {N B}
theorem pth_lt {sets:List zb} {last:Nat→Bool} {fo:Nat→Nat→Bool} {p i j:Nat} (h:Pth N B sets last fo p i j):i < j∧j≤N:=by
 induction h with
 | last h _=>exact ⟨by omega,h.1⟩
 | step h _ _ ih=>omega
theorem zfu {g:GA} {i j:Nat} (h:acc N B g i j) (hi:i≤N):i≤j∧j≤N:=by
 rcases h with ⟨_,rfl⟩ | ⟨p,_,h⟩
 ·exact ⟨Nat.le_refl _,hi⟩
 ·have:=pth_lt h;omega
theorem zdO {sets sets':List zb} {last last':Nat→Bool} {fo fo':Nat→Nat→Bool} (I:Nat→Prop) (f:Nat→Nat) (hI:∀ p q i,I p→hdS N B sets p i→fo p q=true→I q)
 (h1:∀ p i,I p→hdS N B sets p i→hdS N B sets' (f p) i) (h2:∀ p i,I p→hdS N B sets p i→last p=true→last' (f p)=true)
 (h3:∀ p q i,I p→hdS N B sets p i→fo p q=true→fo' (f p) (f q)=true) {p i j:Nat} (h:Pth N B sets last fo p i j):I p→Pth N B sets' last' fo' (f p) i j:=by
 induction h with
 | last h hl=>exact fun hp=>.last (h1 _ _ hp h) (h2 _ _ hp h hl)
 | step h hf _ ih=>exact fun hp=>.step (h1 _ _ hp h) (h3 _ _ _ hp h hf) (ih (hI _ _ _ hp h hf))
theorem zh9 {sets:List zb} {p i:Nat} (h:hdS N B sets p i):p < sets.length:=by
 obtain ⟨_,s,hs,_⟩:=h;exact (List.getElem?_eq_some_iff.1 hs).1
theorem zeI {s t:List zb} {p i:Nat} (hp:p < s.length):hdS N B (s++t) p i↔hdS N B s p i:=by
 unfold hdS;rw [List.getElem?_append_left hp]
theorem zgZ {s t:List zb} {p i:Nat}:hdS N B (s++t) (s.length+p) i↔hdS N B t p i:=by
 unfold hdS;rw [List.getElem?_append_right (by omega),show s.length+p - s.length=p by omega]
variable {a b : GA}
theorem zfq (ha:Canon a) {p i j:Nat}:Pth N B (gCat a b).sets (gCat a b).last (gCat a b).follow (a.n+p) i j↔Pth N B b.sets b.last b.follow p i j:=by
 constructor
 ·intro h
  have:=zdO (sets':=b.sets) (last':=b.last) (fo':=b.follow) (fun q=>a.n≤q) (fun q=>q - a.n) ?_ ?_ ?_ ?_ h (by omega)
  ·rwa [show a.n+p - a.n=p by omega] at this
  ·intro p q i hp _ hf
   simp only [gCat,blk] at hf
   rw [if_neg (by omega)] at hf
   by_cases hq:q < a.n
   ·rw [if_pos hq] at hf;cases hf
   ·omega
  ·intro p i hp hd
   have hd:hdS N B (a.sets++b.sets) p i:=hd
   rw [show p=a.sets.length+(p - a.n) by rw [ha.sets];omega] at hd
   exact zgZ.1 hd
  ·intro p i hp _ hl
   simp only [gCat] at hl
   rwa [if_neg (by omega)] at hl
  ·intro p q i hp _ hf
   simp only [gCat,blk] at hf
   rw [if_neg (by omega)] at hf
   by_cases hq:q < a.n
   ·rw [if_pos hq] at hf;cases hf
   ·rwa [if_neg hq] at hf
 ·intro h
  refine zdO (fun _=>True) (fun q=>a.n+q) (fun _ _ _ _ _ _=>trivial) ?_ ?_ ?_ h trivial
  ·intro p i _ hd
   show hdS N B (a.sets++b.sets) (a.n+p) i
   rw [← ha.sets];exact zgZ.2 hd
  ·intro p i _ _ hl
   simp only [gCat];rwa [if_neg (by omega),show a.n+p - a.n=p by omega]
  ·intro p q i _ _ hf
   simp only [gCat,blk];rwa [if_neg (by omega),if_neg (by omega),show a.n+p - a.n=p by omega,show a.n+q - a.n=q by omega]
theorem cat_left (ha:Canon a) {p i j:Nat} (hp:p < a.n):Pth N B (gCat a b).sets (gCat a b).last (gCat a b).follow p i j↔
 (b.null=true∧Pth N B a.sets a.last a.follow p i j)∨∃ k,Pth N B a.sets a.last a.follow p i k∧one N B b k j:=by
 constructor
 ·intro h
  generalize hs:(gCat a b).sets=sets at h
  generalize hl:(gCat a b).last=last at h
  generalize hf:(gCat a b).follow=fo at h
  induction h with
  | last h hl'=>
    subst hs hl
    have hd:=(zeI (t:=b.sets) (by rw [ha.sets];exact hp)).1 h
    simp only [gCat,if_pos hp,Bool.and_eq_true] at hl'
    exact .inl ⟨hl'.1,.last hd hl'.2⟩
  | @step p q i j h hf' hq ih=>
    have hd:=(zeI (t:=b.sets) (by rw [ha.sets];exact hp)).1 (by rw [← hs] at h;exact h)
    have hf2:=hf'
    rw [← hf] at hf2
    simp only [gCat,blk,if_pos hp] at hf2
    by_cases hqn:q < a.n
    ·rw [if_pos hqn] at hf2
     rcases ih hqn with ⟨h1,h2⟩ | ⟨k,h1,h2⟩
     ·exact .inl ⟨h1,.step hd hf2 h2⟩
     ·exact .inr ⟨k,.step hd hf2 h1,h2⟩
    ·rw [if_neg hqn,Bool.and_eq_true] at hf2
     rw [← hs,← hl,← hf,show q=a.n+(q - a.n) by omega,zfq ha] at hq
     exact .inr ⟨i+1,.last hd hf2.1,q - a.n,hf2.2,hq⟩
 ·rintro (⟨hn,h⟩ | ⟨k,h,q,hq,h2⟩)
  ·refine zdO (fun q=>True) (fun q=>q) (fun _ _ _ _ _ _=>trivial) ?_ ?_ ?_ h trivial
   ·exact fun p i _ hd=>(zeI (zh9 hd)).2 hd
   ·intro p i _ hd hl
    have:=zh9 hd
    rw [ha.sets] at this
    simp only [gCat,if_pos this,hn,hl];rfl
   ·intro p q i _ hd hf
    have:=zh9 hd
    rw [ha.sets] at this
    have hqn:q < a.n:=by
     rcases Nat.lt_or_ge q a.n with h | h
     ·exact h
     ·rw [ha.follow p q (.inr h)] at hf;cases hf
    simp only [gCat,blk,if_pos this,if_pos hqn,hf]
  ·induction h with
   | last h hl=>
     have hd:=(zeI (t:=b.sets) (zh9 h)).2 h
     refine .step (q:=a.n+q) hd ?_ ((zfq ha).2 h2)
     simp only [gCat,blk,if_pos hp]
     rw [if_neg (by omega),show a.n+q - a.n=q by omega,hl,hq];rfl
   | @step p q' i j h hf hp' ih=>
     have hd:=(zeI (t:=b.sets) (zh9 h)).2 h
     have hqn:q' < a.n:=by
      rcases Nat.lt_or_ge q' a.n with h | h
      ·exact h
      ·rw [ha.follow p q' (.inr h)] at hf;cases hf
     refine .step (q:=q') hd ?_ (ih hqn h2)
     simp only [gCat,blk,if_pos hp,if_pos hqn,hf]
theorem first_lt (ha:Canon a) {p:Nat} (h:a.first p=true):p < a.n:=by
 rcases Nat.lt_or_ge p a.n with h1 | h1
 ·exact h1
 ·rw [ha.first p h1] at h;cases h
theorem zf9 (ha:Canon a) {i j:Nat}:acc N B (gCat a b) i j↔∃ k,acc N B a i k∧acc N B b k j:=by
 constructor
 ·rintro (⟨hn,rfl⟩ | ⟨p,hf,h⟩)
  ·simp only [gCat,Bool.and_eq_true] at hn
   exact ⟨i,.inl ⟨hn.1,rfl⟩,.inl ⟨hn.2,rfl⟩⟩
  ·by_cases hp:p < a.n
   ·simp only [gCat,if_pos hp] at hf
    rcases (cat_left ha hp).1 h with ⟨h1,h2⟩ | ⟨k,h1,h2⟩
    ·exact ⟨j,.inr ⟨p,hf,h2⟩,.inl ⟨h1,rfl⟩⟩
    ·exact ⟨k,.inr ⟨p,hf,h1⟩,.inr h2⟩
   ·simp only [gCat,if_neg hp,Bool.and_eq_true] at hf
    rw [show p=a.n+(p - a.n) by omega,zfq ha] at h
    exact ⟨i,.inl ⟨hf.1,rfl⟩,.inr ⟨_,hf.2,h⟩⟩
 ·rintro ⟨k,(⟨h1,rfl⟩ | ⟨p,h1,h2⟩),(⟨h3,rfl⟩ | ⟨q,h3,h4⟩)⟩
  ·exact .inl ⟨by simp only [gCat,h1,h3];rfl,rfl⟩
  ·refine .inr ⟨a.n+q,?_,(zfq ha).2 h4⟩
   simp only [gCat];rw [if_neg (by omega),show a.n+q - a.n=q by omega,h1,h3];rfl
  ·have hp:=first_lt ha h1
   exact .inr ⟨p,by simp only [gCat,if_pos hp,h1],(cat_left ha hp).2 (.inl ⟨h3,h2⟩)⟩
  ·have hp:=first_lt ha h1
   exact .inr ⟨p,by simp only [gCat,if_pos hp,h1],(cat_left ha hp).2 (.inr ⟨k,h2,q,h3,h4⟩)⟩
theorem alt_left (ha:Canon a) {p i j:Nat} (hp:p < a.n):Pth N B (gAlt a b).sets (gAlt a b).last (gAlt a b).follow p i j↔Pth N B a.sets a.last a.follow p i j:=by
 constructor
 ·intro h
  refine zdO (fun q=>q < a.n) (fun q=>q) ?_ ?_ ?_ ?_ h hp
  ·intro p q i hp _ hf
   simp only [gAlt,blk,if_pos hp] at hf
   by_cases hq:q < a.n
   ·exact hq
   ·rw [if_neg hq] at hf;cases hf
  ·exact fun p i hp hd=>(zeI (t:=b.sets) (by rw [ha.sets];exact hp)).1 hd
  ·intro p i hp _ hl;simpa only [gAlt,if_pos hp] using hl
  ·intro p q i hp _ hf
   simp only [gAlt,blk,if_pos hp] at hf
   by_cases hq:q < a.n
   ·rwa [if_pos hq] at hf
   ·rw [if_neg hq] at hf;cases hf
 ·intro h
  refine zdO (fun q=>True) (fun q=>q) (fun _ _ _ _ _ _=>trivial) ?_ ?_ ?_ h trivial
  ·exact fun p i _ hd=>(zeI (zh9 hd)).2 hd
  ·intro p i _ hd hl
   have:=zh9 hd
   rw [ha.sets] at this
   simp only [gAlt,if_pos this,hl]
  ·intro p q i _ hd hf
   have:=zh9 hd
   rw [ha.sets] at this
   have hqn:q < a.n:=by
    rcases Nat.lt_or_ge q a.n with h | h
    ·exact h
    ·rw [ha.follow p q (.inr h)] at hf;cases hf
   simp only [gAlt,blk,if_pos this,if_pos hqn,hf]
theorem alt_right (ha:Canon a) {p i j:Nat}:Pth N B (gAlt a b).sets (gAlt a b).last (gAlt a b).follow (a.n+p) i j↔Pth N B b.sets b.last b.follow p i j:=by
 constructor
 ·intro h
  have:=zdO (sets':=b.sets) (last':=b.last) (fo':=b.follow) (fun q=>a.n≤q) (fun q=>q - a.n) ?_ ?_ ?_ ?_ h (by omega)
  ·rwa [show a.n+p - a.n=p by omega] at this
  ·intro p q i hp _ hf
   simp only [gAlt,blk] at hf
   rw [if_neg (by omega)] at hf
   by_cases hq:q < a.n
   ·rw [if_pos hq] at hf;cases hf
   ·omega
  ·intro p i hp hd
   have hd:hdS N B (a.sets++b.sets) p i:=hd
   rw [show p=a.sets.length+(p - a.n) by rw [ha.sets];omega] at hd
   exact zgZ.1 hd
  ·intro p i hp _ hl
   simp only [gAlt] at hl
   rwa [if_neg (by omega)] at hl
  ·intro p q i hp _ hf
   simp only [gAlt,blk] at hf
   rw [if_neg (by omega)] at hf
   by_cases hq:q < a.n
   ·rw [if_pos hq] at hf;cases hf
   ·rwa [if_neg hq] at hf
 ·intro h
  refine zdO (fun _=>True) (fun q=>a.n+q) (fun _ _ _ _ _ _=>trivial) ?_ ?_ ?_ h trivial
  ·intro p i _ hd
   show hdS N B (a.sets++b.sets) (a.n+p) i
   rw [← ha.sets];exact zgZ.2 hd
  ·intro p i _ _ hl
   simp only [gAlt];rwa [if_neg (by omega),show a.n+p - a.n=p by omega]
  ·intro p q i _ _ hf
   simp only [gAlt,blk];rwa [if_neg (by omega),if_neg (by omega),show a.n+p - a.n=p by omega,show a.n+q - a.n=q by omega]
theorem acc_alt (ha:Canon a) {i j:Nat}:acc N B (gAlt a b) i j↔acc N B a i j∨acc N B b i j:=by
 constructor
 ·rintro (⟨hn,rfl⟩ | ⟨p,hf,h⟩)
  ·simp only [gAlt,Bool.or_eq_true] at hn
   exact hn.imp (fun h=>.inl ⟨h,rfl⟩) fun h=>.inl ⟨h,rfl⟩
  ·by_cases hp:p < a.n
   ·simp only [gAlt,if_pos hp] at hf
    exact .inl (.inr ⟨p,hf,(alt_left ha hp).1 h⟩)
   ·simp only [gAlt,if_neg hp] at hf
    rw [show p=a.n+(p - a.n) by omega,alt_right ha] at h
    exact .inr (.inr ⟨_,hf,h⟩)
 ·rintro ((⟨h1,rfl⟩ | ⟨p,h1,h2⟩) | (⟨h1,rfl⟩ | ⟨q,h3,h4⟩))
  ·exact .inl ⟨by simp only [gAlt,h1];rfl,rfl⟩
  ·have hp:=first_lt ha h1
   exact .inr ⟨p,by simp only [gAlt,if_pos hp,h1],(alt_left ha hp).2 h2⟩
  ·exact .inl ⟨by simp only [gAlt,h1];simp,rfl⟩
  ·refine .inr ⟨a.n+q,?_,(alt_right ha).2 h4⟩
   simp only [gAlt];rw [if_neg (by omega),show a.n+q - a.n=q by omega,h3]
def pow (R:Nat→Nat→Prop):Nat→Nat→Nat→Prop
 | 0,i,j=>i=j
 | m+1,i,j=>∃ k,pow R m i k∧R k j
theorem pow_add {R:Nat→Nat→Prop} {m:Nat}:∀ {q i j:Nat},pow R (m+q) i j↔∃ k,pow R m i k∧pow R q k j
 | 0,i,j=>⟨fun h=>⟨j,h,rfl⟩,fun ⟨k,h,e⟩=>by cases e;exact h⟩
 | q+1,i,j=>by
   show (∃ k,pow R (m+q) i k∧R k j)↔_
   constructor
   ·rintro ⟨k,h1,h2⟩
    obtain ⟨l,h3,h4⟩:=pow_add.1 h1
    exact ⟨l,h3,k,h4,h2⟩
   ·rintro ⟨l,h3,k,h4,h2⟩
    exact ⟨k,pow_add.2 ⟨l,h3,h4⟩,h2⟩
theorem zfT {R:Nat→Nat→Prop} {i j:Nat}:pow R 1 i j↔R i j:=⟨fun ⟨k,e,h⟩=>by cases e;exact h,fun h=>⟨i,rfl,h⟩⟩
theorem zct {R:Nat→Nat→Prop} {m i j:Nat}:pow R (m+1) i j↔∃ k,R i k∧pow R m k j:=by
 rw [Nat.add_comm,pow_add]
 exact ⟨fun ⟨k,h1,h2⟩=>⟨k,zfT.1 h1,h2⟩,fun ⟨k,h1,h2⟩=>⟨k,zfT.2 h1,h2⟩⟩
theorem za4 {i j:Nat}:acc N B gEmpty i j↔i=j:=by
 constructor
 ·rintro (⟨_,h⟩ | ⟨p,h,_⟩)
  ·exact h
  ·cases h
 ·exact fun h=>.inl ⟨rfl,h⟩
theorem acc_none {i j:Nat}:¬ acc N B gNone i j:=fun h=>by
 rcases h with ⟨h,_⟩ | ⟨p,h,_⟩<;>cases h
theorem zdt {s:zb} {i j:Nat}:acc N B (gByte s) i j↔i < N∧setHas s (B i)=true∧j=i+1:=by
 constructor
 ·rintro (⟨h,_⟩ | ⟨p,h,h2⟩)
  ·cases h
  ·simp only [gByte,beq_iff_eq] at h
   subst h
   cases h2 with
   | last h hl=>
     obtain ⟨h1,s',h2,h3⟩:=h
     simp only [gByte,List.getElem?_cons_zero,Option.some.injEq] at h2
     subst h2
     exact ⟨h1,h3,rfl⟩
   | step h hf _=>cases hf
 ·rintro ⟨h1,h2,rfl⟩
  exact .inr ⟨0,rfl,.last ⟨h1,s,rfl,h2⟩ rfl⟩
theorem zh2 {i j:Nat}:acc N B (gMaybe a) i j↔i=j∨acc N B a i j:=by
 constructor
 ·rintro (⟨_,h⟩ | h)
  ·exact .inl h
  ·exact .inr (.inr h)
 ·rintro (h | ⟨_,h⟩ | h)
  ·exact .inl ⟨rfl,h⟩
  ·exact .inl ⟨rfl,h⟩
  ·exact .inr h
theorem zfv {i j:Nat}:acc N B (gAgain a) i j↔∃ m,pow (acc N B a) (m+1) i j:=by
 constructor
 ·rintro (⟨hn,rfl⟩ | ⟨p,hp,h⟩)
  ·exact ⟨0,zfT.2 (.inl ⟨hn,rfl⟩)⟩
  ·have key:∀ {p i j:Nat},Pth N B a.sets a.last (gAgain a).follow p i j→∃ k m,Pth N B a.sets a.last a.follow p i k∧pow (acc N B a) m k j:=by
    intro p i j h
    induction h with
    | last h hl=>exact ⟨_,0,.last h hl,rfl⟩
    | @step p q i j h hf hq ih=>
      obtain ⟨k,m,h1,h2⟩:=ih
      simp only [gAgain,Bool.or_eq_true,Bool.and_eq_true] at hf
      rcases hf with hf | ⟨hl,hq⟩
      ·exact ⟨k,m,.step h hf h1,h2⟩
      ·exact ⟨i+1,m+1,.last h hl,zct.2 ⟨k,.inr ⟨q,hq,h1⟩,h2⟩⟩
   obtain ⟨k,m,h1,h2⟩:=key h
   exact ⟨m,zct.2 ⟨k,.inr ⟨p,hp,h1⟩,h2⟩⟩
 ·rintro ⟨m,h⟩
  have mono:∀ {p i j:Nat},Pth N B a.sets a.last a.follow p i j→Pth N B a.sets a.last (gAgain a).follow p i j:=by
   intro p i j h
   exact zdO (fun _=>True) (fun q=>q) (fun _ _ _ _ _ _=>trivial) (fun _ _ _ h=>h) (fun _ _ _ _ h=>h) (fun p q i _ _ hf=>by simp only [gAgain,hf];rfl) h trivial
  have glue:∀ {p i k q j:Nat},Pth N B a.sets a.last a.follow p i k→a.first q=true→Pth N B a.sets a.last (gAgain a).follow q k j→Pth N B a.sets a.last (gAgain a).follow p i j:=by
   intro p i k q j h hq h2
   induction h with
   | last h hl=>exact .step h (by simp only [gAgain,hl,hq];simp) h2
   | step h hf _ ih=>exact .step h (by simp only [gAgain,hf];rfl) (ih h2)
  induction m generalizing i with
  | zero=>
    rcases zfT.1 h with ⟨hn,rfl⟩ | ⟨p,hp,h⟩
    ·exact .inl ⟨hn,rfl⟩
    ·exact .inr ⟨p,hp,mono h⟩
  | succ m ih=>
    obtain ⟨k,h1,h2⟩:=zct.1 h
    have h2:=ih h2
    rcases h1 with ⟨hn,rfl⟩ | ⟨p,hp,h1⟩
    ·exact h2
    ·rcases h2 with ⟨hn,rfl⟩ | ⟨q,hq,h2⟩
     ·exact .inr ⟨p,hp,mono h1⟩
     ·exact .inr ⟨p,hp,glue h1 hq h2⟩
theorem zg4 (ha:Canon a) {z:GA}:∀ {k i j:Nat},acc N B (iter (gCat a) k z) i j↔∃ l,pow (acc N B a) k i l∧acc N B z l j
 | 0,i,j=>⟨fun h=>⟨i,rfl,h⟩,fun ⟨l,e,h⟩=>by cases e;exact h⟩
 | k+1,i,j=>by
   rw [iter,zf9 ha]
   constructor
   ·rintro ⟨m,h1,h2⟩
    obtain ⟨l,h3,h4⟩:=(zg4 ha).1 h2
    exact ⟨l,zct.2 ⟨m,h1,h3⟩,h4⟩
   ·rintro ⟨l,h1,h2⟩
    obtain ⟨m,h3,h4⟩:=zct.1 h1
    exact ⟨m,h3,(zg4 ha).2 ⟨l,h4,h2⟩⟩
theorem zg3 (ha:Canon a):∀ {k i j:Nat},acc N B (iter (fun o=>gMaybe (gCat a o)) k gEmpty) i j↔∃ m,m≤k∧pow (acc N B a) m i j
 | 0,i,j=>by
   rw [iter,za4]
   constructor
   ·exact fun h=>⟨0,Nat.le_refl _,h⟩
   ·rintro ⟨m,h,e⟩
    have hm:m=0:=by omega
    subst hm
    exact e
 | k+1,i,j=>by
   rw [iter,zh2,zf9 ha]
   constructor
   ·rintro (h | ⟨l,h1,h2⟩)
    ·exact ⟨0,by omega,h⟩
    ·obtain ⟨m,h3,h4⟩:=(zg3 ha).1 h2
     exact ⟨m+1,by omega,zct.2 ⟨l,h1,h4⟩⟩
   ·rintro ⟨m,h1,h2⟩
    cases m with
    | zero=>exact .inl h2
    | succ m=>
      obtain ⟨l,h3,h4⟩:=zct.1 h2
      exact .inr ⟨l,h3,(zg3 ha).2 ⟨m,by omega,h4⟩⟩
theorem zd0 (ha:Canon a) {lo hi:Int} (h0:0≤lo) (h1:hi = -1∨1≤hi∧lo≤hi) {i j:Nat}:acc N B (gRep a lo hi) i j↔∃ q,(hi < 0∨lo+(q:Nat)≤hi)∧pow (acc N B a) (lo.toNat+q) i j:=by
 unfold gRep
 split
 ·rename_i hh
  rw [zg4 ha]
  by_cases hl:lo=0
  ·subst hl
   rw [show (max (0:Int) 1 - 1).toNat=0 from rfl]
   simp only [if_true]
   constructor
   ·rintro ⟨l,e,h⟩
    cases e
    rcases zh2.1 h with e | h
    ·exact ⟨0,.inl hh,e⟩
    ·obtain ⟨m,h⟩:=zfv.1 h
     refine ⟨m+1,.inl hh,?_⟩
     rw [show (0:Int).toNat=0 from rfl,Nat.zero_add];exact h
   ·rintro ⟨q,_,h⟩
    rw [show (0:Int).toNat=0 from rfl,Nat.zero_add] at h
    refine ⟨i,rfl,zh2.2 ?_⟩
    cases q with
    | zero=>exact .inl h
    | succ q=>exact .inr (zfv.2 ⟨q,h⟩)
  ·rw [if_neg hl]
   obtain ⟨n,hn⟩:∃ n:Nat,lo=((n+1:Nat):Int):=⟨(lo - 1).toNat,by omega⟩
   subst hn
   rw [show (max (((n+1:Nat):Int)) 1 - 1).toNat=n by omega]
   have e2:((n+1:Nat):Int).toNat=n+1:=by omega
   rw [e2]
   constructor
   ·rintro ⟨l,h2,h3⟩
    obtain ⟨m,h4⟩:=zfv.1 h3
    refine ⟨m,.inl hh,?_⟩
    rw [show n+1+m=n+(m+1) by omega]
    exact pow_add.2 ⟨l,h2,h4⟩
   ·rintro ⟨q,_,h⟩
    rw [show n+1+q=n+(q+1) by omega] at h
    obtain ⟨l,h2,h3⟩:=pow_add.1 h
    exact ⟨l,h2,zfv.2 ⟨q,h3⟩⟩
 ·rename_i hh
  rw [zg4 ha]
  constructor
  ·rintro ⟨l,h2,h3⟩
   obtain ⟨m,h4,h5⟩:=(zg3 ha).1 h3
   exact ⟨m,.inr (by omega),pow_add.2 ⟨l,h2,h5⟩⟩
  ·rintro ⟨q,h2,h3⟩
   obtain ⟨l,h4,h5⟩:=pow_add.1 h3
   exact ⟨l,h4,(zg3 ha).2 ⟨q,by omega,h5⟩⟩
end
end Go.Ev.Pl
set_option linter.unusedSimpArgs false
set_option linter.unusedVariables false
namespace Go.Ev.Pl
open Go Go.Ev
noncomputable def bl (N:Nat) (P:Nat→Prop):List Bool:=(List.range (N+1)).map fun j=>@decide (P j) (Classical.propDecidable _)
theorem zcw (N:Nat) (P:Nat→Prop):(bl N P).length=N+1:=by simp [bl]
theorem bl_get {N:Nat} {P:Nat→Prop} {j:Nat} (h:j < (bl N P).length):(bl N P)[j]=@decide (P j) (Classical.propDecidable _):=by simp [bl]
theorem bl_gd {N:Nat} {P:Nat→Prop} {j:Nat} (h:j≤N):gd (bl N P) (j:Int)=true↔P j:=by
 rw [zad (by rw [zcw];omega),bl_get];simp
theorem bl_gdf {N:Nat} {P:Nat→Prop} {j:Nat} (h:j≤N):gd (bl N P) (j:Int)=false↔¬ P j:=by
 rw [zad (by rw [zcw];omega),bl_get];simp
theorem zby {N:Nat} {P Q:Nat→Prop} (h:∀ j,j≤N→(P j↔Q j)):bl N P=bl N Q:=by
 unfold bl
 refine List.map_congr_left fun j hj=>?_
 have:=h j (by have:=List.mem_range.1 hj;omega)
 by_cases hp:P j
 ·simp [hp,this.1 hp]
 ·have hq:¬ Q j:=fun hq=>hp (this.2 hq)
  simp [hp,hq]
theorem bl_ext {N:Nat} {P:Nat→Prop} {l:List Bool} (hl:l.length=N+1) (h:∀ (j:Nat) (hj:j < l.length),l[j]=true↔P j):l=bl N P:=by
 refine List.ext_getElem (by rw [hl,zcw]) fun j h1 h2=>?_
 rw [bl_get]
 by_cases hp:P j
 ·simp [hp,(h j h1).2 hp]
 ·have:l[j]≠true:=fun e=>hp ((h j h1).1 e)
  simp [hp,this]
theorem bl_none (N:Nat):List.replicate (N+1) false=bl N fun _=>False:=
 bl_ext (by simp) fun j hj=>by simp
theorem bl_copy (N:Nat) (P Q:Nat→Prop):List.take (bl N P).length (bl N Q)++List.drop (bl N Q).length (List.replicate (bl N P).length false)=bl N Q:=by
 rw [zcw,zcw,List.take_of_length_le (by rw [zcw];exact Nat.le_refl _),List.drop_of_length_le (by simp),List.append_nil]
theorem bl_copy1 (N:Nat) (P:Nat→Prop):bl N P++List.drop (bl N P).length (List.replicate (bl N P).length false)=bl N P:=by
 rw [List.drop_of_length_le (by simp),List.append_nil]
theorem bl_set {N:Nat} {P:Nat→Prop} {i:Nat} (b:Bool) (h:i≤N):(bl N P).set i b=bl N fun j=>if j=i then b=true else P j:=
 bl_ext (by rw [List.length_set,zcw]) fun j hj=>by
  rw [List.getElem_set]
  by_cases hij:i=j
  ·subst hij;simp
  ·rw [if_neg hij,if_neg (fun e=>hij e.symm),bl_get];simp
theorem or_ok {N:Nat} (hN:N < 100000) (P Q:Nat→Prop):zaW (bl N P) (bl N Q) (bl N fun j=>P j∨Q j):=by
 have hl:=zcw N P
 refine zgN _ _ _ ⟨fun out t=>∃ i:Nat,t=i∧i≤N+1∧out=(bl N fun j=>P j∨Q j).take i,fun _ t=>(N+1 - t).toNat,⟨0,rfl,by omega,by simp⟩,?_⟩
 rintro out t ⟨i,rfl,hi,rfl⟩
 rw [hl]
 refine ⟨fun ht=>?_,fun ht=>?_⟩
 ·have ht:i < N+1:=by have:=of_decide_eq_true ht;omega
  have hw2:w64 ((i:Int)+1)=((i+1:Nat):Int):=zO (by omega) (by omega)
  have hlt:((bl N fun j=>P j∨Q j).take i).length=i:=by rw [List.length_take,zcw];omega
  have htk:(bl N fun j=>P j∨Q j).take (i+1)=(bl N fun j=>P j∨Q j).take i++[@decide (P i∨Q i) (Classical.propDecidable _)]:=by
   rw [List.take_succ_eq_append_getElem (by rw [zcw];omega),bl_get]
  rw [hw2,hlt]
  refine ⟨by omega,by omega,fun hg=>⟨fun _=>by omega,⟨i+1,rfl,by omega,?_⟩,by first | omega | (dsimp only;omega)⟩,fun hg=>⟨fun _=>by omega,fun _=>by rw [zcw];omega,fun _=>by omega,⟨i+1,rfl,by omega,?_⟩,by first | omega | (dsimp only;omega)⟩⟩
  ·rw [htk]
   have:=(bl_gd (by omega)).1 hg
   simp [this]
  ·rw [htk]
   have hp:=(bl_gdf (by omega)).1 hg
   congr 2
   by_cases hq:Q i
   ·rw [(bl_gd (by omega)).2 hq];simp [hq]
   ·rw [(bl_gdf (by omega)).2 hq];simp [hp,hq]
 ·have ht:i=N+1:=by have:=of_decide_eq_false ht;omega
  subst ht
  rw [List.take_of_length_le (by rw [zcw];exact Nat.le_refl _)]
theorem within_ok {N:Nat} (hN:N < 100000) (P Q:Nat→Prop) (b:Bool) (hb:b=true↔∀ j,j≤N→P j→Q j):zaD (bl N P) (bl N Q) b:=by
 have hl:=zcw N P
 have hl2:=zcw N Q
 refine zem _ _ _ ⟨fun t=>∃ i:Nat,t=i∧i≤N+1∧∀ j,j < i→P j→Q j,fun t=>(N+1 - t).toNat,⟨0,rfl,by omega,by omega⟩,?_⟩
 rintro t ⟨i,rfl,hi,hall⟩
 rw [hl,hl2]
 refine ⟨fun ht=>?_,fun ht=>?_⟩
 ·have ht:i < N+1:=by have:=of_decide_eq_true ht;omega
  have hw2:w64 ((i:Int)+1)=((i+1:Nat):Int):=zO (by omega) (by omega)
  rw [hw2]
  refine ⟨by omega,by omega,fun _=>by omega,fun _=>by omega,fun hg=>?_,fun hg=>⟨⟨i+1,rfl,by omega,?_⟩,by first | omega | (dsimp only;omega)⟩⟩
  ·simp only [Bool.and_eq_true,Bool.not_eq_true'] at hg
   have h1:=(bl_gd (by omega)).1 hg.1
   have h2:=(bl_gdf (by omega)).1 hg.2
   cases b with
   | false=>rfl
   | true=>exact absurd (hb.1 rfl i (by omega) h1) h2
  ·intro j hj hp
   by_cases hji:j=i
   ·subst hji
    rw [(bl_gd (by omega)).2 hp,Bool.true_and,Bool.not_eq_false'] at hg
    exact (bl_gd (by omega)).1 hg
   ·exact hall j (by omega) hp
 ·have ht:i=N+1:=by have:=of_decide_eq_false ht;omega
  subst ht
  exact (hb.2 fun j hj hp=>hall j (by omega) hp)
theorem closed_ok (x:za):zbj x (x.Kind == 5 && (decide (x.Hi < 0) && decide (x.Lo≤1))):=zen _ _ rfl
open Classical in
noncomputable def cntB (P:Nat→Prop):Nat→Nat
 | 0=>0
 | n+1=>cntB P n+if P n then 1 else 0
theorem cntB_le (P:Nat→Prop):∀ n,cntB P n≤n
 | 0=>Nat.le_refl _
 | n+1=>by have:=cntB_le P n;unfold cntB;split<;>omega
theorem cntB_mono {P Q:Nat→Prop}:∀ n,(∀ j,j < n→P j→Q j)→cntB P n≤cntB Q n
 | 0,_=>Nat.le_refl _
 | n+1,h=>by
   have:=cntB_mono n fun j hj=>h j (by omega)
   unfold cntB
   by_cases hp:P n
   ·rw [if_pos hp,if_pos (h n (by omega) hp)];omega
   ·rw [if_neg hp];split<;>omega
theorem cntB_lt {P Q:Nat→Prop}:∀ n,(∀ j,j < n→P j→Q j)→(∃ j,j < n∧¬ P j∧Q j)→cntB P n+1≤cntB Q n
 | 0,_,⟨j,hj,_⟩=>by omega
 | n+1,h,⟨j,hj,h1,h2⟩=>by
   unfold cntB
   by_cases hjn:j=n
   ·subst hjn
    have:=cntB_mono j fun k hk=>h k (by omega)
    rw [if_neg h1,if_pos h2];omega
   ·have:=cntB_lt n (fun k hk=>h k (by omega)) ⟨j,by omega,h1,h2⟩
    by_cases hp:P n
    ·rw [if_pos hp,if_pos (h n (by omega) hp)];omega
    ·rw [if_neg hp];split<;>omega
theorem cntB_full {P:Nat→Prop}:∀ n,n≤cntB P n→∀ j,j < n→P j
 | 0,_,j,hj=>by omega
 | n+1,h,j,hj=>by
   unfold cntB at h
   have:=cntB_le P n
   by_cases hp:P n
   ·rw [if_pos hp] at h
    by_cases hjn:j=n
    ·subst hjn;exact hp
    ·exact cntB_full n (by omega) j (by omega)
   ·rw [if_neg hp] at h;omega
end Go.Ev.Pl
set_option linter.unusedSimpArgs false
set_option linter.unusedVariables false
namespace Go.Ev.Pl
open Go Go.Ev
def bt (s:ByteArray) (i:Nat):Int:=w64 (((byteAt s (i:Int)).toNat:Nat):Int)
abbrev Tx (s:ByteArray) (g:GA) (F:Nat→Prop) (j:Nat):Prop:=∃ i,i≤s.size∧F i∧acc s.size (bt s) g i j
theorem zf4:∀ (l:List za) (z:GA),Canon z→Canon (l.foldl (fun o y=>gCat o (gof y)) z)
 | [],_,h=>h
 | y :: r,_,h=>zf4 r _ (zbG h (zae y))
theorem zee:∀ (l:List za) (z:GA),Canon z→Canon (l.foldl (fun o y=>gAlt o (gof y)) z)
 | [],_,h=>h
 | y :: r,_,h=>zee r _ (zdZ h (zae y))
theorem gof_k1 {x:za} (h:x.Kind=1):gof x=gEmpty:=by
 rw [zch,if_neg (by omega),if_neg (by omega),if_neg (by omega),if_neg (by omega)]
theorem zit {x:za} (h:x.Kind=2):gof x=gByte x.Set:=by rw [zch,if_pos h]
theorem gof_k3 {x:za} (h:x.Kind=3):gof x=x.Kids.foldl (fun o y=>gCat o (gof y)) gEmpty:=by rw [zch,if_neg (by omega),if_pos h]
theorem gof_k4 {x:za} (h:x.Kind=4):gof x=x.Kids.foldl (fun o y=>gAlt o (gof y)) gNone:=by rw [zch,if_neg (by omega),if_neg (by omega),if_pos h]
theorem gof_k5 {x k:za} (h:x.Kind=5) (hk:x.Kids=[k]):gof x=gRep (gof k) x.Lo x.Hi:=by
 rw [zch,if_neg (by omega),if_neg (by omega),if_neg (by omega),if_pos h,hk];rfl
theorem pow_le {N:Nat} {B:Nat→Int} {g:GA}:∀ {m i j:Nat},pow (acc N B g) m i j→i≤N→j≤N
 | 0,i,j,h,hi=>by cases h;exact hi
 | m+1,i,j,⟨k,h1,h2⟩,hi=>(zfu h2 (pow_le h1 hi)).2
def clo (k:za):Bool:=k.Kind == 5 && (decide (k.Hi < 0) && decide (k.Lo≤1))
theorem clo_trans {N:Nat} {B:Nat→Int} {k:za} (hr:Rgt k) (hc:clo k=true) {i l j:Nat} (h1:acc N B (gof k) i l) (h2:acc N B (gof k) l j):acc N B (gof k) i j:=by
 simp only [clo,Bool.and_eq_true,beq_iff_eq,decide_eq_true_eq] at hc
 obtain ⟨h5,hh,hl⟩:=hc
 obtain ⟨⟨k2,hk2⟩,h0,_,hhi⟩:=zdP (zdf hr).1 h5
 rw [gof_k5 h5 hk2] at h1 h2 ⊢
 have hhi:k.Hi = -1∨1≤k.Hi∧k.Lo≤k.Hi:=hhi.imp id fun h=>⟨h.1,h.2.1⟩
 obtain ⟨q1,_,p1⟩:=(zd0 (zae k2) h0 hhi).1 h1
 obtain ⟨q2,_,p2⟩:=(zd0 (zae k2) h0 hhi).1 h2
 refine (zd0 (zae k2) h0 hhi).2 ⟨q1+(k.Lo.toNat+q2),.inl hh,?_⟩
 rw [← Nat.add_assoc]
 exact pow_add.2 ⟨l,p1,p2⟩
theorem zhg {R:Nat→Nat→Prop} (hR:∀ i l j,R i l→R l j→R i j):∀ {m i j:Nat},pow R (m+1) i j→R i j
 | 0,i,j,h=>zfT.1 h
 | m+1,i,j,⟨k,h1,h2⟩=>hR _ _ _ (zhg hR h1) h2
theorem st_congr {x:za} {s:ByteArray} {l:List Bool} {N:Nat} {P Q:Nat→Prop} (h:zU x s l (bl N P)) (e:∀ j,j≤N→(P j↔Q j)):zU x s l (bl N Q):=by rw [← zby e];exact h
theorem step_ok (s:ByteArray) (hs:s.size < 99999):∀ x,Wf x→Rgt x→∀ F,zU x s (bl s.size F) (bl s.size (Tx s (gof x) F)):=by
 refine rxInd fun x ih hw hr F=>?_
 obtain ⟨hl,hk⟩:=(zdx x).1 hw
 obtain ⟨ho,hrk⟩:=zdf hr
 have hlen:=zcw s.size F
 have hkind:=zdj ho
 refine zfA x s _ _ ⟨⟨by omega,by omega,by rw [hlen];omega,by rw [hlen];omega⟩,fun out=>bl s.size (Tx s (gof x) F)=out,fun out h=>h,fun h1=>?_,fun h1=>⟨fun h2=>?_,fun h2=>⟨fun h3=>?_,fun h3=>⟨fun h4=>?_,fun h4=>⟨fun h5=>?_,fun h5=>?_⟩⟩⟩⟩⟩
 ·have h1:x.Kind=1:=by simpa using h1
  rw [bl_copy1,gof_k1 h1]
  refine zby fun j hj=>⟨?_,fun h=>⟨j,hj,h,za4.2 rfl⟩⟩
  rintro ⟨i,_,hf,ha⟩
  cases za4.1 ha;exact hf
 ·have h2:x.Kind=2:=by simpa using h2
  refine ⟨fun out t=>∃ i:Nat,t=i∧i≤s.size∧out=bl s.size fun j=>1≤j∧j≤i∧F (j - 1)∧setHas x.Set (bt s (j - 1))=true,fun _ t=>(s.size - t).toNat,⟨0,rfl,by omega,?_⟩,?_⟩
  ·rw [hlen,bl_none]
   exact zby fun j hj=>⟨fun h=>h.elim,fun h=>by omega⟩
  rintro out t ⟨i,rfl,hi,rfl⟩
  have hset:∀ b:Bool,i < s.size→(b=true↔F i∧setHas x.Set (bt s i)=true)→List.set (bl s.size fun j=>1≤j∧j≤i∧F (j - 1)∧setHas x.Set (bt s (j - 1))=true) (i+1) b=bl s.size fun j=>1≤j∧j≤i+1∧F (j - 1)∧setHas x.Set (bt s (j - 1))=true:=by
   intro b hi hb
   rw [bl_set b (by omega)]
   refine zby fun j hj=>?_
   by_cases hji:j=i+1
   ·subst hji
    rw [if_pos rfl,hb,Nat.add_sub_cancel]
    exact ⟨fun h=>⟨by omega,by omega,h⟩,fun h=>h.2.2⟩
   ·rw [if_neg hji]
    exact ⟨fun h=>⟨h.1,by omega,h.2.2⟩,fun h=>⟨h.1,by omega,h.2.2⟩⟩
  refine ⟨fun ht=>?_,fun ht=>?_⟩
  ·have ht:i < s.size:=by have:=of_decide_eq_true ht;omega
   have hw2:w64 ((i:Int)+1)=((i+1:Nat):Int):=zO (by omega) (by omega)
   simp only [hw2,Int.toNat_natCast,hlen,zcw]
   refine ⟨by omega,by omega,fun hg=>⟨fun _=>by omega,fun _=>by omega,_,has_ok _ _,fun _=>by omega,fun _=>by omega,fun _=>by omega,⟨i+1,rfl,by omega,hset _ ht ?_⟩,by omega⟩,fun hg=>⟨fun _=>by omega,fun _=>by omega,fun _=>by omega,⟨i+1,rfl,by omega,hset _ ht ?_⟩,by omega⟩⟩
   ·exact ⟨fun h=>⟨(bl_gd (by omega)).1 hg,h⟩,fun h=>h.2⟩
   ·exact ⟨fun h=>(by cases h),fun h=>absurd h.1 ((bl_gdf (by omega)).1 hg)⟩
  ·have ht:i=s.size:=by have:=of_decide_eq_false ht;omega
   subst ht
   rw [zit h2]
   refine zby fun j hj=>⟨?_,?_⟩
   ·rintro ⟨i,_,hf,ha⟩
    obtain ⟨e1,e2,rfl⟩:=zdt.1 ha
    exact ⟨by omega,by omega,hf,e2⟩
   ·rintro ⟨e1,e2,hf,e3⟩
    exact ⟨j - 1,by omega,hf,zdt.2 ⟨by omega,e3,by omega⟩⟩
 ·have h3:x.Kind=3:=by simpa using h3
  refine ⟨fun now t=>∃ i:Nat,t=i∧i≤x.Kids.length∧now=bl s.size (Tx s ((x.Kids.take i).foldl (fun o y=>gCat o (gof y)) gEmpty) F),fun _ t=>(x.Kids.length - t).toNat,⟨0,rfl,by omega,?_⟩,?_⟩
  ·refine zby fun j hj=>⟨fun h=>⟨j,hj,h,za4.2 rfl⟩,?_⟩
   rintro ⟨i,_,hf,ha⟩
   cases za4.1 ha;exact hf
  rintro now t ⟨i,rfl,hi,rfl⟩
  refine ⟨fun ht=>?_,fun ht=>?_⟩
  ·have ht:i < x.Kids.length:=by have:=of_decide_eq_true ht;omega
   have hw2:w64 ((i:Int)+1)=((i+1:Nat):Int):=zO (by omega) (by omega)
   rw [hw2]
   refine ⟨by omega,by omega,_,?_,⟨i+1,rfl,by omega,rfl⟩,by dsimp only;omega⟩
   rw [zad ht]
   have:=ih _ (List.getElem_mem ht) (hk _ (List.getElem_mem ht)) (hrk _ (List.getElem_mem ht)) (Tx s ((x.Kids.take i).foldl (fun o y=>gCat o (gof y)) gEmpty) F)
   refine st_congr this fun j hj=>?_
   rw [zaj ht]
   constructor
   ·rintro ⟨l,hl,⟨i0,h0,hf,h1⟩,h2⟩
    exact ⟨i0,h0,hf,(zf9 (zf4 _ _ zaI)).2 ⟨l,h1,h2⟩⟩
   ·rintro ⟨i0,h0,hf,ha⟩
    obtain ⟨l,h1,h2⟩:=(zf9 (zf4 _ _ zaI)).1 ha
    exact ⟨l,(zfu h1 h0).2,⟨i0,h0,hf,h1⟩,h2⟩
  ·have ht:i=x.Kids.length:=by have:=of_decide_eq_false ht;omega
   subst ht
   rw [bl_copy,List.take_of_length_le (Nat.le_refl _),gof_k3 h3]
 ·have h4:x.Kind=4:=by simpa using h4
  refine ⟨fun now t=>∃ i:Nat,t=i∧i≤x.Kids.length∧now=bl s.size (Tx s ((x.Kids.take i).foldl (fun o y=>gAlt o (gof y)) gNone) F),fun _ t=>(x.Kids.length - t).toNat,⟨0,rfl,by omega,?_⟩,?_⟩
  ·rw [hlen,bl_none]
   exact zby fun j hj=>⟨fun h=>h.elim,fun ⟨_,_,_,ha⟩=>acc_none ha⟩
  rintro now t ⟨i,rfl,hi,rfl⟩
  refine ⟨fun ht=>?_,fun ht=>?_⟩
  ·have ht:i < x.Kids.length:=by have:=of_decide_eq_true ht;omega
   have hw2:w64 ((i:Int)+1)=((i+1:Nat):Int):=zO (by omega) (by omega)
   rw [hw2]
   refine ⟨by omega,by omega,bl s.size (Tx s (gof x.Kids[i]) F),?_,_,or_ok (by omega) _ _,⟨i+1,rfl,by omega,?_⟩,by dsimp only;omega⟩
   ·rw [zad ht]
    exact ih _ (List.getElem_mem ht) (hk _ (List.getElem_mem ht)) (hrk _ (List.getElem_mem ht)) F
   ·refine zby fun j hj=>?_
    rw [zaj ht]
    constructor
    ·rintro (⟨i0,h0,hf,ha⟩ | ⟨i0,h0,hf,ha⟩)
     ·exact ⟨i0,h0,hf,(acc_alt (zee _ _ zbJ)).2 (.inl ha)⟩
     ·exact ⟨i0,h0,hf,(acc_alt (zee _ _ zbJ)).2 (.inr ha)⟩
    ·rintro ⟨i0,h0,hf,ha⟩
     exact ((acc_alt (zee _ _ zbJ)).1 ha).imp (fun h=>⟨i0,h0,hf,h⟩) fun h=>⟨i0,h0,hf,h⟩
  ·have ht:i=x.Kids.length:=by have:=of_decide_eq_false ht;omega
   subst ht
   rw [List.take_of_length_le (Nat.le_refl _),gof_k4 h4]
 ·have h5:x.Kind=5:=by simpa using h5
  obtain ⟨⟨k,hkk⟩,hlo0,hlo1,hhi⟩:=zdP ho h5
  have hkm:k∈x.Kids:=by rw [hkk];exact List.mem_cons_self ..
  have hkid:=ih k hkm (hk k hkm) (hrk k hkm)
  have hkd:List.getD x.Kids 0 default=k:=by rw [hkk];rfl
  have hkl:0 < x.Kids.length:=by rw [hkk];simp
  rw [hkd]
  refine ⟨_,zfS x hw,fun hz=>?_,fun hz=>?_⟩
  ·have hz:sizeN x=0:=by simp only [sizeZ,beq_iff_eq] at hz;omega
   rw [bl_copy1,gof_zero hr hz]
   refine zby fun j hj=>⟨?_,fun h=>⟨j,hj,h,za4.2 rfl⟩⟩
   rintro ⟨i,_,hf,ha⟩
   cases za4.1 ha;exact hf
  obtain ⟨S,hS⟩:∃ S:Nat→Nat→Prop,S=fun m j=>∃ i,i≤s.size∧F i∧pow (acc s.size (bt s) (gof k)) m i j:=⟨_,rfl⟩
  have hSle:∀ m j,S m j→j≤s.size:=by
   intro m j h;rw [hS] at h;obtain ⟨i,h0,_,h1⟩:=h;exact pow_le h1 h0
  have hstep:∀ m,zU k s (bl s.size (S m)) (bl s.size (S (m+1))):=by
   intro m
   refine st_congr (hkid (S m)) fun j hj=>?_
   rw [hS]
   constructor
   ·rintro ⟨l,hl,⟨i0,h0,hf,h1⟩,h2⟩
    exact ⟨i0,h0,hf,l,h1,h2⟩
   ·rintro ⟨i0,h0,hf,l,h1,h2⟩
    exact ⟨l,pow_le h1 h0,⟨i0,h0,hf,h1⟩,h2⟩
  have hSs:∀ m j,S (m+1) j↔∃ l,S m l∧acc s.size (bt s) (gof k) l j:=by
   intro m j;rw [hS]
   constructor
   ·rintro ⟨i0,h0,hf,l,h1,h2⟩;exact ⟨l,⟨i0,h0,hf,h1⟩,h2⟩
   ·rintro ⟨l,⟨i0,h0,hf,h1⟩,h2⟩;exact ⟨i0,h0,hf,l,h1,h2⟩
  obtain ⟨lo,hlo⟩:∃ lo:Nat,x.Lo=lo:=⟨x.Lo.toNat,by omega⟩
  obtain ⟨U,hU⟩:∃ U:Nat→Nat→Prop,U=fun m j=>∃ q,q≤m∧S (lo+q) j:=⟨_,rfl⟩
  have hhi':x.Hi = -1∨1≤x.Hi∧x.Lo≤x.Hi:=hhi.imp id fun h=>⟨h.1,h.2.1⟩
  have hT:∀ j,Tx s (gof x) F j↔∃ q:Nat,(x.Hi < 0∨x.Lo+(q:Nat)≤x.Hi)∧S (lo+q) j:=by
   intro j
   have e:x.Lo.toNat=lo:=by omega
   rw [gof_k5 h5 hkk,hS]
   constructor
   ·rintro ⟨i,hi,hf,ha⟩
    obtain ⟨q,h1,h2⟩:=(zd0 (zae k) hlo0 hhi').1 ha
    rw [e] at h2
    exact ⟨q,h1,i,hi,hf,h2⟩
   ·rintro ⟨q,h1,i,hi,hf,h2⟩
    exact ⟨i,hi,hf,(zd0 (zae k) hlo0 hhi').2 ⟨q,h1,by rw [e];exact h2⟩⟩
  have hfin:∀ m:Nat,(x.Hi < 0∨x.Lo+(m:Nat)≤x.Hi)→(∀ q:Nat,(x.Hi < 0∨x.Lo+(q:Nat)≤x.Hi)→∀ j,S (lo+q) j→U m j)→bl s.size (Tx s (gof x) F)=bl s.size (U m):=by
   intro m hm hq
   refine zby fun j hj=>?_
   rw [hT]
   constructor
   ·rintro ⟨q,h1,h2⟩;exact hq q h1 j h2
   ·intro h
    rw [hU] at h
    obtain ⟨q,h1,h2⟩:=h
    exact ⟨q,by omega,h2⟩
  refine ⟨fun now t=>∃ m:Nat,t=m∧m≤lo∧now=bl s.size (S m),fun _ t=>(lo - t).toNat,⟨0,rfl,by omega,?_⟩,?_⟩
  ·refine zby fun j hj=>?_
   rw [hS]
   constructor
   ·exact fun h=>⟨j,hj,h,rfl⟩
   ·rintro ⟨i,_,hf,e⟩;cases e;exact hf
  rintro now t ⟨m,rfl,hm,rfl⟩
  refine ⟨fun ht=>?_,fun ht=>?_⟩
  ·have ht:m < lo:=by have:=of_decide_eq_true ht;omega
   have hw2:w64 ((m:Int)+1)=((m+1:Nat):Int):=zO (by omega) (by omega)
   rw [hw2]
   exact ⟨hkl,_,hstep m,⟨m+1,rfl,by omega,rfl⟩,by dsimp only;omega⟩
  have ht:m=lo:=by have:=of_decide_eq_false ht;omega
  subst ht
  rw [bl_copy]
  refine ⟨fun most=>(x.Hi < 0→most=s.size+1)∧(¬ x.Hi < 0→most=x.Hi - x.Lo),fun most hmost=>⟨fun most=>(0≤most∧most≤100000)∧(x.Hi < 0→most=s.size+1∨clo k=true∧((1≤m∧most=0)∨(m=0∧most=1)))∧(¬ x.Hi < 0→most=x.Hi - x.Lo),fun most hm3=>?_,fun hh=>⟨fun _=>hkl,_,closed_ok k,fun hc=>?_,fun hc=>?_⟩,fun hh=>?_⟩,fun hh=>?_,fun hh=>?_⟩
  ·obtain ⟨⟨hm0,hm1⟩,hmA,hmB⟩:=hm3
   refine ⟨fun out now t=>∃ q:Nat,t=q∧(q:Int)≤most∧now=bl s.size (S (m+q))∧out=bl s.size (U q)∧q≤cntB (U q) (s.size+1),fun _ _ t=>(most - t).toNat,⟨0,rfl,by omega,rfl,?_,by omega⟩,?_⟩
   ·refine zby fun j hj=>?_
    rw [hU]
    constructor
    ·exact fun h=>⟨0,Nat.le_refl _,h⟩
    ·rintro ⟨q,h1,h2⟩
     obtain rfl:q=0:=by omega
     exact h2
   rintro out now t ⟨q,rfl,hq,rfl,rfl,hcnt⟩
   have hmle:∀ q:Nat,(q:Int)≤most→x.Hi < 0∨x.Lo+(q:Nat)≤x.Hi:=by
    intro q hq
    by_cases hh:x.Hi < 0
    ·exact .inl hh
    ·have:=hmB hh;exact .inr (by omega)
   refine ⟨fun ht=>?_,fun ht=>?_⟩
   ·have ht:(q:Int) < most:=of_decide_eq_true ht
    have hw2:w64 ((q:Int)+1)=((q+1:Nat):Int):=zO (by omega) (by omega)
    rw [hw2]
    refine ⟨hkl,_,hstep (m+q),@decide (∀ j,j≤s.size→S (m+q+1) j→U q j) (Classical.propDecidable _),within_ok (by omega) _ _ _ (by simp),fun hb=>?_,fun hb=>⟨_,or_ok (by omega) _ _,⟨q+1,rfl,by omega,rfl,?_,?_⟩,by dsimp only;omega⟩⟩
    ·have hb:∀ j,j≤s.size→S (m+q+1) j→U q j:=by simpa using hb
     suffices main:∀ q2 j,S (m+q2) j→U q j from hfin q (hmle q (by omega)) fun q2 _=>main q2
     intro q2
     induction q2 with
     | zero=>intro j h;rw [hU];exact ⟨0,by omega,h⟩
     | succ q2 ih2=>
       intro j h
       obtain ⟨l,h1,h2⟩:=(hSs (m+q2) j).1 h
       have h3:=ih2 l h1
       rw [hU] at h3
       obtain ⟨q3,h4,h5⟩:=h3
       have h6:S (m+q3+1) j:=(hSs _ _).2 ⟨l,h5,h2⟩
       by_cases hq3:q3=q
       ·subst hq3;exact hb j (hSle _ _ h6) h6
       ·rw [hU];exact ⟨q3+1,by omega,h6⟩
    ·refine zby fun j hj=>?_
     rw [hU]
     constructor
     ·rintro (⟨q3,h1,h2⟩ | h)
      ·exact ⟨q3,by omega,h2⟩
      ·exact ⟨q+1,by omega,h⟩
     ·rintro ⟨q3,h1,h2⟩
      by_cases hq3:q3=q+1
      ·subst hq3;exact .inr h2
      ·exact .inl ⟨q3,by omega,h2⟩
    ·have hb:¬ ∀ j,j≤s.size→S (m+q+1) j→U q j:=by simpa using hb
     have:∃ j,j < s.size+1∧¬ U q j∧U (q+1) j:=by
      refine Classical.byContradiction fun hno=>hb fun j hj h=>?_
      refine Classical.byContradiction fun hu=>hno ⟨j,by omega,hu,?_⟩
      rw [hU];exact ⟨q+1,by omega,h⟩
     have:=cntB_lt (s.size+1) (fun j _ h=>by
      rw [hU] at h ⊢
      obtain ⟨q3,h1,h2⟩:=h
      exact ⟨q3,by omega,h2⟩) this
     omega
   ·have ht:(q:Int)=most:=by have:=of_decide_eq_false ht;omega
    refine hfin q (hmle q (by omega)) fun q2 hq2 j hj=>?_
    by_cases hh:x.Hi < 0
    ·rcases hmA hh with hA | ⟨hc,hA⟩
     ·exact cntB_full (s.size+1) (by omega) j (by have:=hSle _ _ hj;omega)
     ·have htr:∀ i l j,acc s.size (bt s) (gof k) i l→acc s.size (bt s) (gof k) l j→acc s.size (bt s) (gof k) i j:=fun i l j=>clo_trans (hrk k hkm) hc
      rw [hU]
      rw [hS] at hj ⊢
      obtain ⟨i,hi,hf,hp⟩:=hj
      rcases hA with ⟨hm1,hA⟩ | ⟨hm0,hA⟩
      ·obtain ⟨n,rfl⟩:∃ n,m=n+1:=⟨m - 1,by omega⟩
       rw [show n+1+q2=n+(q2+1) by omega] at hp
       obtain ⟨l,p1,p2⟩:=pow_add.1 hp
       exact ⟨0,by omega,i,hi,hf,l,p1,zhg htr p2⟩
      ·subst hm0
       cases q2 with
       | zero=>exact ⟨0,by omega,i,hi,hf,hp⟩
       | succ q2=>
         rw [Nat.zero_add] at hp
         exact ⟨1,by omega,i,hi,hf,zfT.2 (zhg htr hp)⟩
    ·rw [hU]
     have:=hmB hh
     exact ⟨q2,by omega,hj⟩
  ·have hh:x.Hi < 0:=of_decide_eq_true hh
   have hw3:w64 (1 - x.Lo)=1 - x.Lo:=zO (by omega) (by omega)
   rw [hw3]
   refine ⟨by split<;>omega,fun _=>.inr ⟨hc,?_⟩,fun h=>absurd hh h⟩
   by_cases h1:1≤m
   ·exact .inl ⟨h1,by rw [if_neg (by omega)]⟩
   ·exact .inr ⟨by omega,by rw [if_pos (by omega)];omega⟩
  ·have hh:x.Hi < 0:=of_decide_eq_true hh
   have:=hmost.1 hh
   exact ⟨by omega,fun _=>.inl this,fun h=>absurd hh h⟩
  ·have hh:¬ x.Hi < 0:=of_decide_eq_false hh
   have:=hmost.2 hh
   exact ⟨by omega,fun h=>absurd h hh,fun _=>this⟩
  ·have hh:x.Hi < 0:=of_decide_eq_true hh
   exact ⟨fun _=>by rw [hlen];omega,fun h=>absurd hh h⟩
  ·have hh:¬ x.Hi < 0:=of_decide_eq_false hh
   exact ⟨fun h=>absurd h hh,fun _=>zO (by omega) (by omega)⟩
 ·have e1:x.Kind≠1:=by simpa using h1
  have e2:x.Kind≠2:=by simpa using h2
  have e3:x.Kind≠3:=by simpa using h3
  have e4:x.Kind≠4:=by simpa using h4
  have e5:x.Kind≠5:=by simpa using h5
  omega
end Go.Ev.Pl
set_option linter.unusedSimpArgs false
set_option linter.unusedVariables false
namespace Go.Ev.Pl
open Go Go.Ev
theorem may_ok (x:za) (s:ByteArray) (hw:Wf x) (hr:rightB x=true) (hs:s.size≤10000):zbO x s true:=
 zc9 x s _ ⟨_,zcr x hw,by rw [hr,Bool.true_and];exact (decide_eq_true (by omega)).symm⟩
theorem lst_succ (n:Nat) (p:Nat→Bool):lst (n+1) p 0=lst n p 0++if p n=true then [(n:Int)] else []:=by
 unfold lst
 rw [List.range_succ,List.filter_append,List.map_append]
 by_cases h:p n=true
 ·simp [h]
 ·simp [h]
noncomputable def accB (s:ByteArray) (g:GA) (j:Nat):Bool:=@decide (acc s.size (bt s) g 0 j) (Classical.propDecidable _)
theorem zcc {s:ByteArray} {g:GA} {j:Nat}:accB s g j=true↔acc s.size (bt s) g 0 j:=by simp [accB]
theorem ends_ok (x:za) (s:ByteArray) (hw:Wf x) (hr:rightB x=true) (hs:s.size≤10000):zbf x s 0 (lst (s.size+1) (accB s (gof x)) 0):=by
 have hw1:w64 ((s.size:Int)+1)=((s.size+1:Nat):Int):=zO (by omega) (by omega)
 have e0:List.set (List.replicate (s.size+1) false) 0 true=bl s.size fun j=>j=0:=by
  rw [bl_none,bl_set true (Nat.zero_le _)]
  exact zby fun j hj=>by by_cases h:j=0<;>simp [h]
 have hstep:=st_congr (step_ok s (by omega) x hw (zbI hr).1 fun j=>j=0) (Q:=fun j=>acc s.size (bt s) (gof x) 0 j) fun j hj=>
  ⟨fun ⟨i,_,e,h⟩=>e▸h,fun h=>⟨0,by omega,rfl,h⟩⟩
 refine zcX x s 0 _ ⟨true,may_ok x s hw hr hs,fun h=>?_,fun _=>?_⟩
 ·have:¬ ((0:Int) > (s.size:Int)):=by omega
  simp [this] at h
 rw [hw1,Int.toNat_natCast]
 refine ⟨⟨by omega,by omega,by omega,by omega⟩,by omega,by simp,by simp,_,(by rw [show (0:Int).toNat=0 from rfl,e0];exact hstep),?_⟩
 rw [zcw]
 refine ⟨fun out t=>∃ i:Nat,t=i∧i≤s.size+1∧out=lst i (accB s (gof x)) 0,fun _ t=>(s.size+1 - t).toNat,⟨0,rfl,by omega,rfl⟩,?_⟩
 rintro out t ⟨i,rfl,hi,rfl⟩
 refine ⟨fun ht=>?_,fun ht=>?_⟩
 ·have ht:i < s.size+1:=by have:=of_decide_eq_true ht;omega
  have hw2:w64 ((i:Int)+1)=((i+1:Nat):Int):=zO (by omega) (by omega)
  have hll:=zan i (accB s (gof x)) 0
  have hs2:=lst_succ i (accB s (gof x))
  refine ⟨fun o=>o=lst (i+1) (accB s (gof x)) 0,fun o ho=>⟨by rw [hw2];exact ⟨i+1,rfl,by omega,ho⟩,by rw [hw2];first | omega | (dsimp only;omega)⟩,by omega,by omega,fun hg=>⟨by omega,?_⟩,fun hg=>?_⟩
  ·have hg:=zcc.2 ((bl_gd (by omega)).1 hg)
   rw [hs2,if_pos hg]
  ·have hg:¬ accB s (gof x) i=true:=fun e=>(bl_gdf (by omega)).1 hg (zcc.1 e)
   rw [hs2,if_neg hg,List.append_nil]
 ·have ht:i=s.size+1:=by have:=of_decide_eq_false ht;omega
  subst ht;rfl
theorem match_ok (x:za) (s:ByteArray) (hw:Wf x) (hr:rightB x=true) (hs:s.size≤10000):zam x s (accB s (gof x) s.size):=by
 have hll:=zan (s.size+1) (accB s (gof x)) 0
 obtain ⟨l,hl⟩:∃ l,l=lst (s.size+1) (accB s (gof x)) 0:=⟨_,rfl⟩
 have hE:=ends_ok x s hw hr hs
 rw [← hl] at hll hE
 have hwm:0 < l.length→w64 ((l.length:Int) - 1)=((l.length - 1:Nat):Int):=fun h=>(zO (by omega) (by omega)).trans (by omega)
 refine zcO x s _ ⟨l,hE,fun h=>?_,fun h=>?_,fun h=>?_,?_⟩
 ·have h:0 < l.length:=by simpa using h
  rw [hwm h];omega
 ·have h:0 < l.length:=by simpa using h
  rw [hwm h,Int.toNat_natCast];omega
 ·have h:0 < l.length:=by simpa using h
  rw [hwm h];omega
 ·by_cases h0:0 < l.length
  ·rw [hwm h0,zad (by omega),decide_eq_true (by omega),Bool.true_and]
   have hlast:=List.getElem_mem (l:=l) (n:=l.length - 1) (by omega)
   rw [Bool.eq_iff_iff,beq_iff_eq]
   constructor
   ·intro ha
    have:l=lst s.size (accB s (gof x)) 0++[(s.size:Int)]:=by rw [hl,lst_succ,if_pos ha]
    simp [this]
   ·intro he
    rw [he,hl] at hlast
    obtain ⟨i,_,hp,hi⟩:=zax.1 hlast
    have:i=s.size:=by omega
    subst this;exact hp
  ·rw [decide_eq_false (by omega),Bool.false_and]
   cases ha:accB s (gof x) s.size with
   | false=>rfl
   | true=>
     have:l=lst s.size (accB s (gof x)) 0++[(s.size:Int)]:=by rw [hl,lst_succ,if_pos ha]
     rw [this] at h0;simp at h0
abbrev alph:ByteArray:={ data:=#[(97:UInt8),(97:UInt8),(98:UInt8),(98:UInt8),(99:UInt8),(99:UInt8),(45:UInt8),(90:UInt8),(10:UInt8),(48:UInt8),(0:UInt8),(255:UInt8)] }
def txt (l:List Int):Nat→ByteArray
 | 0=>{ data:=#[] }
 | n+1=>txt l n++ByteArray.extract alph (Int.toNat (Int.tmod (w64 (gd l n)) 12)) (Int.toNat (w64 (Int.tmod (w64 (gd l n)) 12+1)))
theorem text_ok (l:List Int) (hb:Bytes l):∃ s,zbC l s∧s.size≤12:=by
 have hal:alph.size=12:=by rfl
 have one:∀ i,i < l.length→0≤Int.tmod (w64 (gd l (i:Int))) 12∧w64 (Int.tmod (w64 (gd l (i:Int))) 12+1)=Int.tmod (w64 (gd l (i:Int))) 12+1∧Int.tmod (w64 (gd l (i:Int))) 12 < 12:=by
  intro i hi
  obtain ⟨h0,h1⟩:=hb _ (List.getElem_mem hi)
  rw [zad hi,zO (by omega) (by omega)]
  have h2:=Int.tmod_nonneg (a:=l[i]) 12 h0
  have h3:=Int.tmod_lt_of_pos l[i] (show (0:Int) < 12 by omega)
  exact ⟨h2,zO (by omega) (by omega),h3⟩
 have hsz:∀ n,n≤l.length→(txt l n).size=n:=by
  intro n
  induction n with
  | zero=>intro _;rfl
  | succ n ih=>
    intro hn
    obtain ⟨h1,h2,h3⟩:=one n (by omega)
    rw [txt,ByteArray.size_append,ih (by omega),ByteArray.size_extract,h2,hal]
    omega
 refine ⟨txt l (min 12 l.length),?_,by rw [hsz _ (Nat.min_le_right _ _)];exact Nat.min_le_left _ _⟩
 refine zfH l _ ⟨fun s t=>∃ i:Nat,t=i∧i≤min 12 l.length∧s=txt l i,fun _ t=>(12 - t).toNat,⟨0,rfl,by omega,rfl⟩,?_⟩
 rintro s t ⟨i,rfl,hi,rfl⟩
 rw [List.length_map]
 refine ⟨fun ht=>?_,fun ht=>?_⟩
 ·simp only [Bool.and_eq_true,decide_eq_true_eq] at ht
  have hil:i < l.length:=by omega
  obtain ⟨h1,h2,h3⟩:=one i hil
  have hw2:w64 ((i:Int)+1)=((i+1:Nat):Int):=zO (by omega) (by omega)
  refine ⟨by omega,by omega,by omega,by omega,⟨h1,by rw [h2];omega,by rw [h2];omega,?_⟩,?_,?_,?_⟩
  ·rw [h2];show _≤12;omega
  ·rw [hsz i (by omega),show ByteArray.size (ByteArray.extract _ _ _)=_ from ByteArray.size_extract,h2,show IntKind.max IntKind.i64=9223372036854775807 by decide]
   show (((i+(min _ 12 - _):Nat)):Int)≤_
   omega
  ·rw [hw2];exact ⟨i+1,rfl,by omega,rfl⟩
  ·rw [hw2];first | omega | (dsimp only;omega)
 ·simp only [Bool.and_eq_false_iff,decide_eq_false_iff_not] at ht
  have:i=min 12 l.length:=by omega
  rw [this]
end Go.Ev.Pl
set_option linter.unusedSimpArgs false
set_option linter.unusedVariables false
namespace Go.Ev.Pl
open Go Go.Ev
def rev:za→za:=cata fun x l=>{ x with Kids:=if x.Kind=3 then l.reverse else l }
theorem bytes_of {w:World} {a:Option Addr} {len cap:Nat} {zs:List Int}
 (h:(a=none∧len=0∧cap=0∧zs=[])∨∃ x,a=some x∧len≤cap∧cap≤maxLen∧zs.length=cap∧(∀ i,i < zs.length→w.cell? (x.add i)=some (.int .u8 (zs.getD i 0)))∧∀ n∈zs,(Lit.int .u8 n).wf=true):Bytes (zs.take len):=by
 intro b hb
 have hb:=List.mem_of_mem_take hb
 rcases h with ⟨_,_,_,rfl⟩ | ⟨_,_,_,_,_,_,h⟩
 ·simp at hb
 ·have:=h b hb
  simp only [Lit.wf,Bool.and_eq_true,decide_eq_true_eq] at this
  have e1:IntKind.u8.min=0:=by decide
  have e2:IntKind.u8.max=255:=by decide
  rw [e1,e2] at this
  exact this
theorem zdL (x:za):rev x={ x with Kids:=if x.Kind=3 then (x.Kids.map rev).reverse else x.Kids.map rev }:=zdr _ x
theorem zcD (x:za):(rev x).Kind=x.Kind:=by rw [zdL]
theorem zbU (x:za):(rev x).Kids=if x.Kind=3 then (x.Kids.map rev).reverse else x.Kids.map rev:=by rw [zdL]
section
variable {N : Nat} {B : Nat → Int}
def chn (N:Nat) (B:Nat→Int):List za→Nat→Nat→Prop
 | [],i,j=>i=j
 | y :: r,i,j=>∃ k,acc N B (gof y) i k∧chn N B r k j
theorem zf3:∀ {a b:List za} {i j:Nat},chn N B (a++b) i j↔∃ k,chn N B a i k∧chn N B b k j
 | [],b,i,j=>⟨fun h=>⟨i,rfl,h⟩,fun ⟨k,e,h⟩=>(by cases e;exact h)⟩
 | y :: a,b,i,j=>by
   simp only [List.cons_append,chn]
   constructor
   ·rintro ⟨k,h1,h2⟩
    obtain ⟨l,h3,h4⟩:=zf3.1 h2
    exact ⟨l,⟨k,h1,h3⟩,h4⟩
   ·rintro ⟨l,⟨k,h1,h3⟩,h4⟩
    exact ⟨k,h1,zf3.2 ⟨l,h3,h4⟩⟩
theorem zg5:∀ (l:List za) {z:GA} {i j:Nat},Canon z→(acc N B (l.foldl (fun o y=>gCat o (gof y)) z) i j↔∃ k,acc N B z i k∧chn N B l k j)
 | [],z,i,j,_=>⟨fun h=>⟨j,h,rfl⟩,fun ⟨k,h,e⟩=>(by cases e;exact h)⟩
 | y :: r,z,i,j,hz=>by
   rw [List.foldl_cons,zg5 r (zbG hz (zae y))]
   constructor
   ·rintro ⟨k,h1,h2⟩
    obtain ⟨m,h3,h4⟩:=(zf9 hz).1 h1
    exact ⟨m,h3,k,h4,h2⟩
   ·rintro ⟨m,h3,k,h4,h2⟩
    exact ⟨k,(zf9 hz).2 ⟨m,h3,h4⟩,h2⟩
theorem acc_altF:∀ (l:List za) {z:GA} {i j:Nat},Canon z→(acc N B (l.foldl (fun o y=>gAlt o (gof y)) z) i j↔acc N B z i j∨∃ y,y∈l∧acc N B (gof y) i j)
 | [],z,i,j,_=>by simp
 | y :: r,z,i,j,hz=>by
   rw [List.foldl_cons,acc_altF r (zdZ hz (zae y)),acc_alt hz]
   simp only [List.mem_cons]
   constructor
   ·rintro ((h | h) | ⟨a,h1,h2⟩)
    ·exact .inl h
    ·exact .inr ⟨y,.inl rfl,h⟩
    ·exact .inr ⟨a,.inr h1,h2⟩
   ·rintro (h | ⟨a,rfl | h1,h2⟩)
    ·exact .inl (.inl h)
    ·exact .inl (.inr h2)
    ·exact .inr ⟨a,h1,h2⟩
abbrev bkw (N:Nat) (B:Nat→Int) (i:Nat):Int:=B (N - 1 - i)
theorem chn_le:∀ {l:List za} {i j:Nat},chn N B l i j→i≤N→j≤N
 | [],i,j,h,hi=>by cases h;exact hi
 | y :: r,i,j,⟨k,h1,h2⟩,hi=>chn_le h2 (zfu h1 hi).2
theorem chn_rev:∀ {l:List za} {i j:Nat},(∀ y,y∈l→∀ i j,i≤N→j≤N→(acc N (bkw N B) (gof (rev y)) i j↔acc N B (gof y) (N - j) (N - i)))→i≤N→j≤N→
 (chn N (bkw N B) (l.map rev).reverse i j↔chn N B l (N - j) (N - i))
 | [],i,j,_,hi,hj=>by
   show i=j↔N - j=N - i
   omega
 | y :: r,i,j,hy,hi,hj=>by
   rw [List.map_cons,List.reverse_cons,zf3]
   have hr:=fun i j=>chn_rev (l:=r) (i:=i) (j:=j) fun z hz=>hy z (List.mem_cons_of_mem _ hz)
   constructor
   ·rintro ⟨k,h1,k2,h2,e⟩
    cases e
    have hk:=chn_le h1 hi
    exact ⟨N - k,(hy y (List.mem_cons_self ..) k j hk hj).1 h2,(hr i k hi hk).1 h1⟩
   ·rintro ⟨m,h1,h2⟩
    have hm:=(zfu h1 (by omega)).2
    have e:N - (N - m)=m:=by omega
    refine ⟨N - m,(hr i (N - m) hi (by omega)).2 (by rw [e];exact h2),j,(hy y (List.mem_cons_self ..) (N - m) j (by omega) hj).2 (by rw [e];exact h1),rfl⟩
theorem pow_rev {R R':Nat→Nat→Prop} (hR:∀ i j,i≤N→j≤N→(R' i j↔R (N - j) (N - i))) (hle:∀ i j,R' i j→i≤N→j≤N) (hle2:∀ i j,R i j→i≤N→j≤N):∀ {m i j:Nat},i≤N→j≤N→(pow R' m i j↔pow R m (N - j) (N - i))
 | 0,i,j,hi,hj=>by
   show i=j↔N - j=N - i
   omega
 | m+1,i,j,hi,hj=>by
   rw [zct]
   show (∃ k,R' i k∧pow R' m k j)↔∃ k,pow R m (N - j) k∧R k (N - i)
   constructor
   ·rintro ⟨k,h1,h2⟩
    have hk:=hle _ _ h1 hi
    exact ⟨N - k,(pow_rev hR hle hle2 hk hj).1 h2,(hR i k hi hk).1 h1⟩
   ·rintro ⟨k,h1,h2⟩
    have hk:k≤N:=by
     have:∀ {m i j:Nat},pow R m i j→i≤N→j≤N:=by
      intro m
      induction m with
      | zero=>intro i j h hi;cases h;exact hi
      | succ m ih=>rintro i j ⟨k,h1,h2⟩ hi;exact hle2 _ _ h2 (ih h1 hi)
     exact this h1 (by omega)
    have e:N - (N - k)=k:=by omega
    exact ⟨N - k,(hR i (N - k) hi (by omega)).2 (by rw [e];exact h2),(pow_rev hR hle hle2 (by omega) hj).2 (by rw [e];exact h1)⟩
theorem acc_rev:∀ x,Rgt x→∀ i j,i≤N→j≤N→(acc N (bkw N B) (gof (rev x)) i j↔acc N B (gof x) (N - j) (N - i)):=by
 refine rxInd fun x ih hr i j hi hj=>?_
 obtain ⟨ho,hk⟩:=zdf hr
 have hall:∀ y,y∈x.Kids→∀ i j,i≤N→j≤N→(acc N (bkw N B) (gof (rev y)) i j↔acc N B (gof y) (N - j) (N - i)):=fun y hy=>ih y hy (hk y hy)
 rcases zdj ho with h | h | h | h | h
 ·rw [gof_k1 h,gof_k1 (by rw [zcD];exact h),za4,za4];omega
 ·rw [zit h,zit (by rw [zcD];exact h),zdt,zdt]
  have:(rev x).Set=x.Set:=by rw [zdL]
  rw [this]
  constructor
  ·rintro ⟨h1,h2,rfl⟩
   refine ⟨by omega,?_,by omega⟩
   rw [show N - (i+1)=N - 1 - i by omega];exact h2
  ·rintro ⟨h1,h2,h3⟩
   refine ⟨by omega,?_,by omega⟩
   show setHas x.Set (B (N - 1 - i))=true
   rw [show N - 1 - i=N - j by omega];exact h2
 ·rw [gof_k3 h,gof_k3 (by rw [zcD];exact h),zg5 _ zaI,zg5 _ zaI,zbU,if_pos h]
  constructor
  ·rintro ⟨k,h1,h2⟩
   cases za4.1 h1
   exact ⟨_,za4.2 rfl,(chn_rev hall hi hj).1 h2⟩
  ·rintro ⟨k,h1,h2⟩
   cases za4.1 h1
   exact ⟨_,za4.2 rfl,(chn_rev hall hi hj).2 h2⟩
 ·rw [gof_k4 h,gof_k4 (by rw [zcD];exact h),acc_altF _ zbJ,acc_altF _ zbJ,zbU,if_neg (by omega)]
  constructor
  ·rintro (h1 | ⟨y,hy,h1⟩)
   ·exact absurd h1 acc_none
   ·obtain ⟨z,hz,rfl⟩:=List.mem_map.1 hy
    exact .inr ⟨z,hz,(hall z hz i j hi hj).1 h1⟩
  ·rintro (h1 | ⟨y,hy,h1⟩)
   ·exact absurd h1 acc_none
   ·exact .inr ⟨rev y,List.mem_map.2 ⟨y,hy,rfl⟩,(hall y hy i j hi hj).2 h1⟩
 ·obtain ⟨⟨k,hkk⟩,hlo0,_,hhi⟩:=zdP ho h
  have hhi':x.Hi = -1∨1≤x.Hi∧x.Lo≤x.Hi:=hhi.imp id fun h=>⟨h.1,h.2.1⟩
  have hkm:k∈x.Kids:=by rw [hkk];exact List.mem_cons_self ..
  have e1:(rev x).Lo=x.Lo:=by rw [zdL]
  have e2:(rev x).Hi=x.Hi:=by rw [zdL]
  rw [gof_k5 h hkk,gof_k5 (k:=rev k) (by rw [zcD];exact h) (by rw [zbU,if_neg (by omega),hkk];rfl),e1,e2,zd0 (zae _) hlo0 hhi',zd0 (zae _) hlo0 hhi']
  constructor
  ·rintro ⟨q,h1,h2⟩
   exact ⟨q,h1,(pow_rev (hall k hkm) (fun i j h hi=>(zfu h hi).2) (fun i j h hi=>(zfu h hi).2) hi hj).1 h2⟩
  ·rintro ⟨q,h1,h2⟩
   exact ⟨q,h1,(pow_rev (hall k hkm) (fun i j h hi=>(zfu h hi).2) (fun i j h hi=>(zfu h hi).2) hi hj).2 h2⟩
end
end Go.Ev.Pl
set_option linter.unusedSimpArgs false
set_option linter.unusedVariables false
namespace Go.Ev.Pl
open Go Go.Ev
theorem turnedByte_ok (l:List Int) (hl:l.length < 100000):zbp l l.reverse:=by
 refine zeM l _ ⟨⟨by omega,by omega,by omega,by omega⟩,backward_byte l,by omega,fun i out=>out=l.reverse.take i,by simp,?_,?_⟩
 ·rintro i y hi hy out rfl
  have hlt:(l.reverse.take i).length=i:=by rw [List.length_take,List.length_reverse];omega
  refine ⟨by omega,?_⟩
  show _=List.take (i+1) l.reverse
  rw [List.take_succ_eq_append_getElem (by rw [List.length_reverse];exact hi)]
  congr 2
  rw [List.getElem_reverse]
  rw [List.getElem?_eq_getElem (by omega)] at hy
  exact (Option.some.inj hy).symm
 ·rintro out rfl
  rw [List.take_of_length_le (by simp)]
theorem index_ok (l:List Int) (v:Int) (hl:l.length < 1000000):∃ r,za1 l v r∧(r≥0↔v∈l):=by
 by_cases hv:v∈l
 ·obtain ⟨n,hn,hnv,hmin⟩:∃ n,n < l.length∧l[n]?=some v∧∀ m,m < n→l[m]?≠some v:=by
   have hex:∃ n,l[n]?=some v:=List.mem_iff_getElem?.1 hv
   induction l with
   | nil=>simp at hv
   | cons x l ih=>
     by_cases hx:x=v
     ·exact ⟨0,by simp,by simp [hx],fun m hm=>by omega⟩
     ·have hv':v∈l:=by
       rcases List.mem_cons.1 hv with e | e
       ·exact absurd e.symm hx
       ·exact e
      obtain ⟨n,h1,h2,h3⟩:=ih (by simp at hl;omega) hv' (List.mem_iff_getElem?.1 hv')
      refine ⟨n+1,by simp;omega,by simpa using h2,fun m hm=>?_⟩
      cases m with
      | zero=>simp [hx]
      | succ m=>simpa using h3 m (by omega)
  refine ⟨n,?_,⟨fun _=>hv,fun _=>by omega⟩⟩
  refine zcd l v _ ⟨fun t=>∃ i:Nat,t=i∧i≤n,fun t=>(l.length - t).toNat,⟨0,rfl,by omega⟩,?_⟩
  rintro t ⟨i,rfl,hi⟩
  have hw2:w64 ((i:Int)+1)=((i+1:Nat):Int):=zO (by omega) (by omega)
  have hil:i < l.length:=by omega
  refine ⟨fun ht=>⟨by omega,by omega,fun he=>?_,fun he=>?_⟩,fun ht=>?_⟩
  ·rw [zad hil,beq_iff_eq] at he
   by_cases hin:i=n
   ·subst hin;rfl
   ·exact absurd (by rw [List.getElem?_eq_getElem hil,he]) (hmin i (by omega))
  ·rw [zad hil,beq_eq_false_iff_ne] at he
   have hin:i≠n:=fun e=>by
    subst e
    rw [List.getElem?_eq_getElem hil] at hnv
    exact he (Option.some.inj hnv).symm
   rw [hw2]
   exact ⟨⟨i+1,rfl,by omega⟩,by first | omega | (dsimp only;omega)⟩
  ·have:=of_decide_eq_false ht;omega
 ·refine ⟨-1,?_,⟨fun h=>by omega,fun h=>absurd h hv⟩⟩
  refine zcd l v _ ⟨fun t=>∃ i:Nat,t=i∧i≤l.length,fun t=>(l.length - t).toNat,⟨0,rfl,by omega⟩,?_⟩
  rintro t ⟨i,rfl,hi⟩
  refine ⟨fun ht=>?_,fun ht=>rfl⟩
  have hil:i < l.length:=by have:=of_decide_eq_true ht;omega
  have hw2:w64 ((i:Int)+1)=((i+1:Nat):Int):=zO (by omega) (by omega)
  refine ⟨by omega,by omega,fun he=>?_,fun he=>?_⟩
  ·rw [zad hil,beq_iff_eq] at he
   exact absurd (he▸List.getElem_mem hil) hv
  ·rw [hw2]
   exact ⟨⟨i+1,rfl,by omega⟩,by first | omega | (dsimp only;omega)⟩
theorem contains_ok (l:List Int) (v:Int) (hl:l.length < 1000000) (b:Bool) (hb:b=true↔v∈l):zaG l v b:=by
 obtain ⟨r,h1,h2⟩:=index_ok l v hl
 refine zcQ l v _ ⟨r,h1,?_⟩
 rw [Bool.eq_iff_iff,hb,decide_eq_true_eq,h2]
theorem same3Refl_ok:∀ x,Wf x→zbg x x true:=by
 refine rxInd fun x ih hw=>?_
 obtain ⟨hl,hk⟩:=(zdx x).1 hw
 refine zfD x x _ ⟨fun h=>by simp at h,fun _=>⟨fun t=>∃ i:Nat,t=i∧i≤x.Kids.length,fun t=>(x.Kids.length - t).toNat,⟨0,rfl,by omega⟩,?_⟩⟩
 rintro t ⟨i,rfl,hi⟩
 refine ⟨fun ht=>?_,fun ht=>rfl⟩
 have ht:i < x.Kids.length:=by have:=of_decide_eq_true ht;omega
 have hw2:w64 ((i:Int)+1)=((i+1:Nat):Int):=zO (by omega) (by omega)
 refine ⟨by omega,by omega,by omega,by omega,true,by rw [zad ht];exact ih _ (List.getElem_mem ht) (hk _ (List.getElem_mem ht)),fun h=>(by cases h),fun _=>?_⟩
 rw [hw2]
 exact ⟨⟨i+1,rfl,by omega⟩,by first | omega | (dsimp only;omega)⟩
end Go.Ev.Pl
set_option linter.unusedSimpArgs false
set_option linter.unusedVariables false
namespace Go.Ev
open Go Go.Proofs
def bitOf2 (w:Int) (i:Int):Bool:=!(IntKind.u64.wrap (BitVec.ofInt IntKind.u64.bits w &&& BitVec.ofInt IntKind.u64.bits (IntKind.u64.wrap (1 * 2 ^ min i.toNat IntKind.u64.bits))).toNat == 0)
def setHas2 (s:zb) (i:Int):Bool:=
 if i < 0 then false else if i < 64 then bitOf2 s.e0 i else if i < 128 then bitOf2 s.e1 (i - 64) else if i < 192 then bitOf2 s.e2 (i - 128) else if i < 256 then bitOf2 s.e3 (i - 192) else false
theorem has2_ok (s:zb) (i:Int):zd8 s i (setHas2 s i):=by
 refine W_set_Has s i _ ⟨fun g=>⟨fun g1=>?_,fun g1=>?_⟩,fun g=>?_⟩
 ·have g:=of_decide_eq_true g
  have g1:=of_decide_eq_true g1
  obtain ⟨q,m,hm⟩:=quot64 i g g1
  rw [q,m]
  refine ⟨by omega,fun h=>⟨fun _ _ _=>by omega,?_⟩,fun h=>⟨fun _ _ _=>by omega,?_⟩,fun h=>⟨fun _ _ _=>by omega,?_⟩,fun h=>⟨fun _ _ _=>by omega,?_⟩⟩
  all_goals
   have h:=of_decide_eq_true h
   rw [h]
  ·simp [setHas2,show ¬ i < 0 by omega,show i < 64 by omega,bitOf2,bne]
  ·simp [setHas2,show ¬ i < 0 by omega,show ¬ i < 64 by omega,show i < 128 by omega,bitOf2,bne]
  ·simp [setHas2,show ¬ i < 0 by omega,show ¬ i < 64 by omega,show ¬ i < 128 by omega,show i < 192 by omega,bitOf2,bne]
  ·simp [setHas2,show ¬ i < 0 by omega,show ¬ i < 64 by omega,show ¬ i < 128 by omega,show ¬ i < 192 by omega,show i < 256 by omega,bitOf2,bne]
 ·have g:=of_decide_eq_true g
  have g1:=of_decide_eq_false g1
  simp [setHas2,show ¬ i < 0 by omega,show ¬ i < 64 by omega,show ¬ i < 128 by omega,show ¬ i < 192 by omega,show ¬ i < 256 by omega]
 ·have g:=of_decide_eq_false g
  simp [setHas2,show i < 0 by omega]
end Go.Ev
set_option linter.unusedSimpArgs false
set_option linter.unusedVariables false
namespace Go.Ev.Pl
open Go Go.Ev
theorem wrapu (n:Int):IntKind.u64.wrap n=n % 2 ^ 64:=by
 simp [IntKind.wrap,IntKind.bits,IntKind.signed]
theorem and_pow (V k:Nat):V &&& 2 ^ k=(V / 2 ^ k % 2) * 2 ^ k:=by
 have hb:V.testBit k=decide (V / 2 ^ k % 2=1):=Nat.testBit_eq_decide_div_mod_eq
 have hlt:V / 2 ^ k % 2 < 2:=Nat.mod_lt _ (by omega)
 by_cases h:V / 2 ^ k % 2=1
 ·rw [h,Nat.one_mul]
  refine Nat.eq_of_testBit_eq fun j=>?_
  rw [Nat.testBit_and,Nat.testBit_two_pow]
  by_cases hj:k=j
  ·subst hj;rw [hb];simp [h]
  ·simp [hj]
 ·rw [show V / 2 ^ k % 2=0 by omega,Nat.zero_mul]
  refine Nat.eq_of_testBit_eq fun j=>?_
  rw [Nat.testBit_and,Nat.testBit_two_pow,Nat.zero_testBit]
  by_cases hj:k=j
  ·subst hj;rw [hb];simp [h]
  ·simp [hj]
theorem bit_eq (w i:Int) (h0:0≤i) (h1:i < 64):bitOf2 w i=bitOf w i:=by
 obtain ⟨k,rfl⟩:∃ k:Nat,i=k:=⟨i.toNat,by omega⟩
 have hk:k < 64:=by omega
 have hmin:min ((k:Int)).toNat IntKind.u64.bits=k:=by simp [IntKind.bits];omega
 have hb:IntKind.u64.bits=64:=rfl
 unfold bitOf2 bitOf
 rw [hmin,hb]
 simp only [wrapu,BitVec.toNat_and,BitVec.toNat_ofInt]
 obtain ⟨V,hV⟩:∃ V:Nat,w % 2 ^ 64=V:=⟨(w % 2 ^ 64).toNat,by omega⟩
 have e0:((2 ^ 64:Nat):Int)=2 ^ 64:=by norm_cast
 have h2k:(2:Int) ^ k=((2 ^ k:Nat):Int):=by norm_cast
 have hkk:2 ^ k < 2 ^ 64:=Nat.pow_lt_pow_right (by omega) hk
 have hkp:0 < 2 ^ k:=Nat.pow_pos (by omega)
 have hVlt:V < 2 ^ 64:=by omega
 have e1:(1 * 2 ^ k % 2 ^ 64 % ((2 ^ 64:Nat):Int)).toNat=2 ^ k:=by
  rw [e0,Int.one_mul,h2k];omega
 have e2:((1:Int) % ((2 ^ 64:Nat):Int)).toNat=1:=by rw [e0];rfl
 rw [e1,e2,e0,hV,Int.toNat_natCast,and_pow,Nat.and_one_is_mod]
 have hw:w=V+2 ^ 64 * (w / 2 ^ 64):=by have:=Int.emod_add_mul_ediv w (2 ^ 64);omega
 have hsplit:(2:Int) ^ 64=2 ^ k * (2 * 2 ^ (63 - k)):=by
  rw [← Int.mul_assoc,← Int.pow_succ,← Int.pow_add];congr 1;omega
 have hdiv:w.fdiv (2 ^ k)=((V / 2 ^ k:Nat):Int)+2 * (2 ^ (63 - k) * (w / 2 ^ 64)):=by
  rw [Int.fdiv_eq_ediv_of_nonneg _ (by rw [h2k];omega)]
  have:w=V+2 ^ k * (2 * (2 ^ (63 - k) * (w / 2 ^ 64))):=by
   rw [← Int.mul_assoc,← Int.mul_assoc,Int.mul_assoc (2 ^ k) 2,← hsplit];exact hw
  conv=>lhs;rw [this]
  rw [Int.add_mul_ediv_left _ _ (by rw [h2k];omega),h2k]
  norm_cast
 have hmod:(w.fdiv (2 ^ k) % 2 ^ 64).toNat % 2=V / 2 ^ k % 2:=by
  rw [hdiv]
  generalize 2 ^ (63 - k) * (w / 2 ^ 64)=Z
  omega
 rw [hmod]
 have:V / 2 ^ k % 2 < 2:=Nat.mod_lt _ (by omega)
 by_cases hbit:V / 2 ^ k % 2=1
 ·rw [hbit];simp;omega
 ·have:V / 2 ^ k % 2=0:=by omega
  rw [this];simp
theorem has2_eq (s:zb) (i:Int):setHas2 s i=setHas s i:=by
 unfold setHas2 setHas
 split
 ·rfl
 ·split
  ·exact bit_eq _ _ (by omega) (by omega)
  ·split
   ·exact bit_eq _ _ (by omega) (by omega)
   ·split
    ·exact bit_eq _ _ (by omega) (by omega)
    ·split
     ·exact bit_eq _ _ (by omega) (by omega)
     ·rfl
theorem setHas_ok (s:zb) (i:Int):zd8 s i (setHas s i):=by rw [← has2_eq];exact has2_ok s i
end Go.Ev.Pl
set_option linter.unusedSimpArgs false
set_option linter.unusedVariables false
namespace Go.Ev.Pl
open Go Go.Ev
theorem aheadL1_ok (p:zc) (s:ByteArray) (k i:Nat) (hk:k < p.Sets.length) (hi:i < s.size):zbW (k:Int) p s (i:Int) (setHas p.Sets[k] (bt s i)) p s (i:Int):=by
 refine zgI _ _ _ _ _ _ _ _ ⟨by omega,by omega,by omega,by omega,_,setHas_ok _ _,?_,rfl,rfl,rfl⟩
 rw [zad hk];rfl
theorem zgA (a:List Bool) (ha:a.length < 1000000):zK a a true:=by
 refine zeQ a a _ ⟨fun h=>by simp at h,fun _=>⟨fun t=>∃ i:Nat,t=i∧i≤a.length,fun t=>(a.length - t).toNat,⟨0,rfl,by omega⟩,?_⟩⟩
 rintro t ⟨i,rfl,hi⟩
 refine ⟨fun ht=>?_,fun ht=>rfl⟩
 have ht:i < a.length:=by have:=of_decide_eq_true ht;omega
 have hw2:w64 ((i:Int)+1)=((i+1:Nat):Int):=zO (by omega) (by omega)
 rw [hw2]
 refine ⟨by omega,by omega,by omega,by omega,fun h=>?_,fun _=>⟨⟨i+1,rfl,by omega⟩,by first | omega | (dsimp only;omega)⟩⟩
 cases hg:gd a (i:Int)<;>rw [hg] at h<;>simp at h
end Go.Ev.Pl
set_option linter.unusedSimpArgs false
set_option linter.unusedVariables false
namespace Go.Ev.Pl
open Go Go.Ev
section
variable {N M h : Nat} {B B' : Nat → Int}
theorem hdS_sub (hM:h+M≤N) (hB:∀ i,i < M→B' i=B (h+i)) {sets:List zb} {p i:Nat}:hdS M B' sets p i↔i < M∧hdS N B sets p (h+i):=by
 constructor
 ·rintro ⟨h1,s,h2,h3⟩
  exact ⟨h1,by omega,s,h2,by rw [← hB i h1];exact h3⟩
 ·rintro ⟨h1,_,s,h2,h3⟩
  exact ⟨h1,s,h2,by rw [hB i h1];exact h3⟩
theorem pth_sub1 (hM:h+M≤N) (hB:∀ i,i < M→B' i=B (h+i)) {sets:List zb} {last:Nat→Bool} {fo:Nat→Nat→Bool} {p i j:Nat} (hp:Pth M B' sets last fo p i j):Pth N B sets last fo p (h+i) (h+j):=by
 induction hp with
 | last h1 hl=>exact .last ((hdS_sub hM hB).1 h1).2 hl
 | step h1 hf _ ih=>exact .step ((hdS_sub hM hB).1 h1).2 hf ih
theorem pth_sub2 (hM:h+M≤N) (hB:∀ i,i < M→B' i=B (h+i)) {sets:List zb} {last:Nat→Bool} {fo:Nat→Nat→Bool} {p a b:Nat} (hp:Pth N B sets last fo p a b):∀ i j,a=h+i→b=h+j→j≤M→Pth M B' sets last fo p i j:=by
 induction hp with
 | last h1 hl=>
   intro i j e1 e2 hj
   obtain rfl:j=i+1:=by omega
   exact .last ((hdS_sub hM hB).2 ⟨by omega,by rw [← e1];exact h1⟩) hl
 | step h1 hf hp ih=>
   intro i j e1 e2 hj
   have:=pth_lt hp
   exact .step ((hdS_sub hM hB).2 ⟨by omega,by rw [← e1];exact h1⟩) hf (ih (i+1) j (by omega) e2 hj)
theorem acc_sub (hM:h+M≤N) (hB:∀ i,i < M→B' i=B (h+i)) {g:GA} {i j:Nat} (hj:j≤M):acc M B' g i j↔acc N B g (h+i) (h+j):=by
 constructor
 ·rintro (⟨h1,rfl⟩ | ⟨p,h1,h2⟩)
  ·exact .inl ⟨h1,rfl⟩
  ·exact .inr ⟨p,h1,pth_sub1 hM hB h2⟩
 ·rintro (⟨h1,e⟩ | ⟨p,h1,h2⟩)
  ·exact .inl ⟨h1,by omega⟩
  ·exact .inr ⟨p,h1,pth_sub2 hM hB h2 _ _ rfl rfl hj⟩
def Rch (N:Nat) (B:Nat→Int) (g:GA):Nat→Nat→Prop
 | 0,p=>g.first p=true
 | m+1,q=>∃ p,Rch N B g m p∧hdS N B g.sets p m∧g.follow p q=true
theorem rch_acc {g:GA} {j:Nat}:∀ {m:Nat},m < j→(acc N B g 0 j↔∃ p,Rch N B g m p∧Pth N B g.sets g.last g.follow p m j)
 | 0,h=>by
   constructor
   ·rintro (⟨_,e⟩ | h)
    ·omega
    ·exact h
   ·exact fun h=>.inr h
 | m+1,h=>by
   rw [rch_acc (show m < j by omega)]
   constructor
   ·rintro ⟨p,h1,h2⟩
    cases h2 with
    | last=>omega
    | step hd hf hp=>exact ⟨_,⟨p,h1,hd,hf⟩,hp⟩
   ·rintro ⟨q,⟨p,h1,hd,hf⟩,hp⟩
    exact ⟨p,h1,.step hd hf hp⟩
theorem rch_last {g:GA} {m:Nat}:acc N B g 0 (m+1)↔∃ p,Rch N B g m p∧hdS N B g.sets p m∧g.last p=true:=by
 rw [rch_acc (Nat.lt_succ_self m)]
 constructor
 ·rintro ⟨p,h1,h2⟩
  cases h2 with
  | last hd hl=>exact ⟨p,h1,hd,hl⟩
  | step hd hf hp=>have:=pth_lt hp;omega
 ·rintro ⟨p,h1,hd,hl⟩
  exact ⟨p,h1,.last hd hl⟩
theorem acc_zero {g:GA}:acc N B g 0 0↔g.null=true:=by
 constructor
 ·rintro (⟨h,_⟩ | ⟨p,_,h⟩)
  ·exact h
  ·have:=pth_lt h;omega
 ·exact fun h=>.inl ⟨h,rfl⟩
end
noncomputable def ahd (x:za) (s:ByteArray):List Bool:=(List.range (s.size+1)).map (accB s (gof x))
theorem ahd_len (x:za) (s:ByteArray):(ahd x s).length=s.size+1:=by simp [ahd]
theorem ahd_get (x:za) (s:ByteArray) {i:Nat} (h:i < s.size+1):gd (ahd x s) (i:Int)=accB s (gof x) i:=by
 simp [gd,ahd,h]
end Go.Ev.Pl
set_option linter.unusedSimpArgs false
set_option linter.unusedVariables false
namespace Go.Ev.Pl
open Go Go.Ev
theorem rev_set (x:za):(rev x).Set=x.Set:=by rw [zdL]
theorem rev_lo (x:za):(rev x).Lo=x.Lo:=by rw [zdL]
theorem rev_hi (x:za):(rev x).Hi=x.Hi:=by rw [zdL]
theorem rev_len (x:za):(rev x).Kids.length=x.Kids.length:=by rw [zbU];split<;>simp
theorem rev_mem {x y:za}:y∈(rev x).Kids↔∃ z,z∈x.Kids∧rev z=y:=by rw [zbU];split<;>simp
theorem rev_sum (f:za→Nat) (x:za) (h:∀ y∈x.Kids,f (rev y)=f y):((rev x).Kids.map f).sum=(x.Kids.map f).sum:=by
 have e:(x.Kids.map rev).map f=x.Kids.map f:=by
  rw [List.map_map];exact List.map_congr_left h
 rw [zbU]
 split
 ·rw [List.map_reverse,List.sum_reverse,e]
 ·rw [e]
theorem rev_rev:∀ x,rev (rev x)=x:=by
 refine rxInd fun x ih=>?_
 have e:(x.Kids.map rev).map rev=x.Kids:=by
  rw [List.map_map]
  conv=>rhs;rw [← List.map_id x.Kids]
  exact List.map_congr_left ih
 rw [zdL (rev x),zcD,zbU]
 have e2:(if x.Kind=3 then ((if x.Kind=3 then (x.Kids.map rev).reverse else x.Kids.map rev).map rev).reverse else (if x.Kind=3 then (x.Kids.map rev).reverse else x.Kids.map rev).map rev)=x.Kids:=by
  split
  ·rw [List.map_reverse,List.reverse_reverse,e]
  ·exact e
 rw [e2,rev_set,rev_lo,rev_hi]
 clear e2 e ih
 cases x;rfl
theorem rev_wf:∀ x,Wf x→Wf (rev x):=by
 refine rxInd fun x ih h=>?_
 obtain ⟨h1,h2⟩:=(zdx x).1 h
 refine (zdx _).2 ⟨by rw [rev_len];exact h1,fun y hy=>?_⟩
 obtain ⟨z,hz,rfl⟩:=rev_mem.1 hy
 exact ih z hz (h2 z hz)
theorem rev_size:∀ x,sizeN (rev x)=sizeN x:=by
 refine rxInd fun x ih=>?_
 rw [zb5,zb5 x,rev_sum sizeN x ih,zcD]
 have:timesN (rev x)=timesN x:=by simp [timesN,rev_lo,rev_hi]
 rw [this]
theorem rev_cnt:∀ x,cnt (rev x)=cnt x:=by
 refine rxInd fun x ih=>?_
 rw [zdY,zdY x,rev_sum cnt x ih]
theorem nodesZ_ge:∀ x (most:Int),0≤nodesZ x most→nodesZ x most=most - cnt x:=by
 refine rxInd fun x ih most h=>?_
 rw [zdQ] at h ⊢
 rw [zdY]
 have hstay:∀ (l:List za) (m:Int),m < 0→l.foldl (fun m y=>if m≥0 then nodesZ y m else m) m=m:=by
  intro l
  induction l with
  | nil=>intro m _;rfl
  | cons y r ih2=>intro m h;rw [List.foldl_cons,if_neg (by omega)];exact ih2 m h
 have key:∀ (l:List za) (m:Int),(∀ y∈l,y∈x.Kids)→0≤l.foldl (fun m y=>if m≥0 then nodesZ y m else m) m→l.foldl (fun m y=>if m≥0 then nodesZ y m else m) m=m - ((l.map cnt).sum:Nat):=by
  intro l
  induction l with
  | nil=>intro m _ _;simp
  | cons y r ih2=>
    intro m hl h
    simp only [List.foldl_cons,List.map_cons,List.sum_cons] at h ⊢
    rcases (show m < 0∨m≥0 by omega) with hn | hp
    ·rw [if_neg (by omega),hstay _ _ hn] at h;omega
    ·rw [if_pos hp] at h ⊢
     rcases (show nodesZ y m < 0∨0≤nodesZ y m by omega) with hn | hp2
     ·rw [hstay _ _ hn] at h;omega
     ·rw [ih2 _ (fun z hz=>hl z (List.mem_cons_of_mem _ hz)) h,ih y (hl y (List.mem_cons_self ..)) m hp2];omega
 rw [key x.Kids (most - 1) (fun _ h=>h) h]
 omega
theorem nodes_rev (x:za) (most:Int) (h:0≤nodesZ x most):nodesZ (rev x) most=nodesZ x most:=by
 have h1:=nodesZ_ge x most h
 rw [h1,zik (rev x) most (by rw [rev_cnt];omega),rev_cnt]
theorem rev_ownB (x:za):ownB (rev x)=ownB x:=by
 simp only [ownB,zcD,rev_set,rev_lo,rev_hi,rev_len]
theorem rev_rgt:∀ x d,rgt (rev x) d=rgt x d:=by
 refine rxInd fun x ih d=>?_
 rw [zet,zet x,rev_ownB]
 congr 1
 have e:(x.Kids.map rev).all (fun k=>!oddK (rev x) k && rgt k (d - 1))=x.Kids.all fun k=>!oddK x k && rgt k (d - 1):=by
  rw [List.all_map]
  rw [Bool.eq_iff_iff,List.all_eq_true,List.all_eq_true]
  refine forall_congr' fun y=>forall_congr' fun hy=>?_
  simp only [Function.comp_apply,oddK,zcD,ih y hy]
 rw [zbU]
 split
 ·rw [List.all_reverse,e]
 ·exact e
theorem rev_right (x:za):rightB (rev x)=rightB x:=by
 have key:∀ x,rightB x=true→rightB (rev x)=true:=by
  intro x h
  simp only [rightB,Bool.and_eq_true,decide_eq_true_eq] at h ⊢
  refine ⟨by rw [rev_rgt];exact h.1,?_,?_⟩
  ·have:sizeZ (rev x)=sizeZ x:=by simp only [sizeZ,rev_size]
   omega
  ·have:=nodes_rev x 1000 h.2.2
   omega
 rw [Bool.eq_iff_iff]
 constructor
 ·intro h;have:=key _ h;rwa [rev_rev] at this
 ·exact key x
end Go.Ev.Pl
set_option linter.unusedSimpArgs false
set_option linter.unusedVariables false
namespace Go.Ev.Pl
open Go Go.Ev
theorem turnedRx_ok (l:List za) (hl:l.length < 1099511627776):zbc l l.reverse:=by
 refine zd2 l _ ⟨⟨by omega,by omega,by omega⟩,backward_rx l,by omega,fun i out=>out=l.reverse.take i,by simp,?_,?_⟩
 ·rintro i y hi hy out rfl
  have hlt:(l.reverse.take i).length=i:=by rw [List.length_take,List.length_reverse];omega
  refine ⟨by omega,by omega,by omega,by simp,?_⟩
  show _=List.take (i+1) l.reverse
  rw [List.take_succ_eq_append_getElem (by rw [List.length_reverse];exact hi),List.set_append_right _ _ (by omega),Nat.sub_self,List.set_cons_zero]
  congr 2
  rw [List.getElem_reverse]
  rw [List.getElem?_eq_getElem (by omega)] at hy
  exact (Option.some.inj hy).symm
 ·rintro out rfl
  rw [List.take_of_length_le (by simp)]
theorem zig:∀ x,Wf x→zbk x (rev x):=by
 refine rxInd fun x ih hw=>?_
 obtain ⟨hl,hk⟩:=(zdx x).1 hw
 refine zh3 x _ ⟨fun l=>l.map rev=(rev x).Kids∧l.length=x.Kids.length∧∀ y∈l,y∈x.Kids,?_,fun h=>⟨_,turnedRx_ok _ (by omega),?_⟩,fun h=>?_⟩
 ·rintro l ⟨e,hle,hm⟩
  refine ⟨fun k t=>∃ i:Nat,t=i∧i≤l.length∧k=(l.take i).map rev,fun _ t=>(l.length - t).toNat,⟨0,rfl,by omega,by simp⟩,?_⟩
  rintro k t ⟨i,rfl,hi,rfl⟩
  refine ⟨fun ht=>?_,fun ht=>?_⟩
  ·have ht:i < l.length:=by have:=of_decide_eq_true ht;omega
   have hw2:w64 ((i:Int)+1)=((i+1:Nat):Int):=zO (by omega) (by omega)
   have hlen:((l.take i).map rev).length=i:=by rw [List.length_map,List.length_take];omega
   rw [zad ht,hw2]
   refine ⟨by omega,by omega,_,ih _ (hm _ (List.getElem_mem ht)) (hk _ (hm _ (List.getElem_mem ht))),by omega,⟨i+1,rfl,by omega,?_⟩,by first | omega | (dsimp only;omega)⟩
   rw [List.take_succ_eq_append_getElem ht,List.map_append];rfl
  ·have ht:i=l.length:=by have:=of_decide_eq_false ht;omega
   subst ht
   rw [List.take_of_length_le (Nat.le_refl _),e,zdL]
 ·have h:x.Kind=3:=by simpa using h
  exact ⟨by rw [zbU,if_pos h,List.map_reverse],by simp,fun y hy=>by simpa using hy⟩
 ·have h:¬ x.Kind=3:=by simpa using h
  exact ⟨by rw [zbU,if_neg h],rfl,fun y hy=>hy⟩
theorem lst_add {n:Nat} {p q r:Nat→Bool} (h:∀ i,i < n→(r i=true↔p i=true∨q i=true)):addL (lst n p 0) (lst n q 0)=lst n r 0:=by
 refine zgh (zhZ (zbE _ _ _) (zbE _ _ _)) (zbE _ _ _) fun x=>?_
 rw [zcW,zax,zax,zax]
 constructor
 ·rintro (⟨i,hi,hp,rfl⟩ | ⟨i,hi,hp,rfl⟩)
  ·exact ⟨i,hi,(h i hi).2 (.inl hp),rfl⟩
  ·exact ⟨i,hi,(h i hi).2 (.inr hp),rfl⟩
 ·rintro ⟨i,hi,hp,rfl⟩
  exact ((h i hi).1 hp).imp (fun h=>⟨i,hi,h,rfl⟩) fun h=>⟨i,hi,h,rfl⟩
theorem zV {α:Type} {l:List α} {i:Nat} (h:i < l.length) (v:α):v∈l.take (i+1)↔v∈l.take i∨v=l[i]:=by
 rw [List.take_succ_eq_append_getElem h,List.mem_append,List.mem_singleton]
end Go.Ev.Pl
set_option linter.unusedSimpArgs false
set_option linter.unusedVariables false
namespace Go.Ev.Pl
open Go Go.Ev
theorem ahead_ok (x:za) (s:ByteArray) (hw:Wf x) (hr:rightB x=true) (hs:s.size≤100000):zcf x s (ahd x s):=by
 have hP:=placeOf_ok x hw
 rw [if_pos hr,if_pos hr] at hP
 obtain ⟨hr2,hs200⟩:=zbI hr
 have hn:=zia x hr2
 have hca:=zae x
 obtain ⟨g,hg⟩:∃ g,g=gof x:=⟨_,rfl⟩
 have hah:ahd x s=(List.range (s.size+1)).map (accB s g):=by rw [hg];rfl
 rw [hah]
 rw [← hg] at hP hn hca
 have hS:(plc g).Sets.length=g.n:=hca.sets
 have hF:(plc g).Follow.length=g.n:=z8 _ _
 refine W_split_ahead x s _ ⟨_,_,hP,fun s' pS pF pL pFo pN out next t=>(s'=s∧pS=(plc g).Sets∧pF=(plc g).First∧pL=(plc g).Last∧pFo=(plc g).Follow∧pN=(plc g).Null)∧∃ m:Nat,t=m∧m≤s.size∧out=(List.range (m+1)).map (accB s g)∧
  ∃ q:Nat→Bool,(∀ p,p < g.n→(q p=true↔Rch s.size (bt s) g m p))∧next=lst g.n q 0,
  fun _ _ _ _ _ _ _ _ t=>(s.size - t).toNat,⟨⟨rfl,rfl,rfl,rfl,rfl,rfl⟩,0,rfl,by omega,?_,g.first,fun p _=>Iff.rfl,rfl⟩,?_⟩
 ·show [g.null]=[accB s g 0]
  have:g.null=accB s g 0:=by rw [Bool.eq_iff_iff,zcc,acc_zero]
  rw [this]
 rintro s' pS pF pL pFo pN out next t ⟨⟨e1,e2,e3,e4,e5,e6⟩,m,rfl,hm,rfl,q,hq,hnext⟩
 refine ⟨fun ht=>?_,fun ht=>?_⟩
 rotate_left
 ·have ht:m=s.size:=by have:=of_decide_eq_false ht;omega
  subst ht;rfl
 have ht:m < s.size:=by have:=of_decide_eq_true ht;omega
 have hll:=zan g.n q 0
 rw [← hnext] at hll
 have hel:∀ (k:Nat) (hk:k < next.length),∃ p,p < g.n∧next[k]=((p:Nat):Int)∧Rch s.size (bt s) g m p:=by
  intro k hk
  have hm1:∀ v,v∈next→v∈lst g.n q 0:=fun v hv=>by rw [← hnext];exact hv
  obtain ⟨p,hp,hq2,e⟩:=zax.1 (hm1 _ (List.getElem_mem hk))
  exact ⟨p,hp,e,(hq p hp).1 hq2⟩
 have hmem:∀ p,p < g.n→(((p:Nat):Int)∈next↔Rch s.size (bt s) g m p):=by
  intro p hp
  rw [hnext,zax,← hq p hp]
  constructor
  ·rintro ⟨i,hi,hqi,e⟩
   obtain rfl:i=p:=by omega
   exact hqi
  ·exact fun h=>⟨p,hp,h,by omega⟩
 have hw2:w64 ((m:Int)+1)=((m+1:Nat):Int):=zO (by omega) (by omega)
 refine ⟨fun s'' pS' pF' pL' pFo' pN' i thn is k=>(s''=s∧pS'=(plc g).Sets∧pF'=(plc g).First∧pL'=(plc g).Last∧pFo'=(plc g).Follow∧pN'=(plc g).Null∧i=(m:Int))∧∃ c:Nat,k=c∧c≤next.length∧thn.length≤c * g.n∧
  (is=true↔∃ p:Nat,((p:Nat):Int)∈next.take c∧hdS s.size (bt s) g.sets p m∧g.last p=true)∧
  (∀ v,v∈thn↔∃ p r:Nat,((p:Nat):Int)∈next.take c∧hdS s.size (bt s) g.sets p m∧r < g.n∧g.follow p r=true∧v=r),
  fun _ _ _ _ _ _ _ _ _ k=>(next.length - k).toNat,⟨⟨e1,e2,e3,e4,e5,e6,rfl⟩,0,rfl,by omega,by simp,by simp,fun v=>by simp⟩,?_⟩
 rintro s'' pS' pF' pL' pFo' pN' i thn is k ⟨⟨f1,f2,f3,f4,f5,f6,f7⟩,c,rfl,hc,hlen,hi,hthn⟩
 have hcn:c * g.n≤200 * 200:=Nat.mul_le_mul (by omega) (by omega)
 refine ⟨fun hk=>?_,fun hk=>?_⟩
 ·have hk:c < next.length:=by have:=of_decide_eq_true hk;omega
  have hw3:w64 ((c:Int)+1)=((c+1:Nat):Int):=zO (by omega) (by omega)
  obtain ⟨p,hp,ep,hR⟩:=hel c hk
  have hpS:p < (plc g).Sets.length:=by rw [hS];exact hp
  have hdp:hdS s.size (bt s) g.sets p m↔setHas (plc g).Sets[p] (bt s m)=true:=by
   constructor
   ·rintro ⟨_,st,h1,h2⟩
    rw [List.getElem?_eq_getElem (show p < g.sets.length from hpS)] at h1
    cases h1;exact h2
   ·exact fun h=>⟨ht,_,List.getElem?_eq_getElem (show p < g.sets.length from hpS),h⟩
  have hgf:gd (plc g).Follow ((p:Nat):Int)=lst g.n (g.follow p) 0:=(zad (l:=flw g 0) (by rw [z8];exact hp)).trans (zcz g 0 hp)
  have hfl:=zan g.n (g.follow p) 0
  rw [zad hk,ep,hw3,f1,f2,f3,f4,f5,f6,f7]
  have hmc:c * g.n+g.n=(c+1) * g.n:=by rw [Nat.add_mul,Nat.one_mul]
  have fin:∀ (thn':List Int) (is':Bool),thn'.length≤(c+1) * g.n→(is'=true↔∃ p:Nat,((p:Nat):Int)∈next.take (c+1)∧hdS s.size (bt s) g.sets p m∧g.last p=true)→
   (∀ v,v∈thn'↔∃ p r:Nat,((p:Nat):Int)∈next.take (c+1)∧hdS s.size (bt s) g.sets p m∧r < g.n∧g.follow p r=true∧v=r)→
   ∃ c':Nat,((c+1:Nat):Int)=c'∧c'≤next.length∧thn'.length≤c' * g.n∧(is'=true↔∃ p:Nat,((p:Nat):Int)∈next.take c'∧hdS s.size (bt s) g.sets p m∧g.last p=true)∧
     (∀ v,v∈thn'↔∃ p r:Nat,((p:Nat):Int)∈next.take c'∧hdS s.size (bt s) g.sets p m∧r < g.n∧g.follow p r=true∧v=r):=
   fun thn' is' h1 h2 h3=>⟨c+1,rfl,by omega,h1,h2,h3⟩
  have h1n:hdS s.size (bt s) g.sets p m→∀ v,v∈thn++lst g.n (g.follow p) 0↔∃ p r:Nat,((p:Nat):Int)∈next.take (c+1)∧hdS s.size (bt s) g.sets p m∧r < g.n∧g.follow p r=true∧v=r:=by
   intro hd v
   rw [List.mem_append,hthn,zax]
   constructor
   ·rintro (⟨p',r,h1,h2⟩ | ⟨r,h1,h2,h3⟩)
    ·exact ⟨p',r,(zV hk _).2 (.inl h1),h2⟩
    ·exact ⟨p,r,(zV hk _).2 (.inr ep.symm),hd,h1,h2,by omega⟩
   ·rintro ⟨p',r,h1,h2,h3,h4,h5⟩
    rcases (zV hk _).1 h1 with h1 | h1
    ·exact .inl ⟨p',r,h1,h2,h3,h4,h5⟩
    ·rw [ep] at h1
     obtain rfl:p'=p:=by omega
     exact .inr ⟨r,h3,h4,by omega⟩
  have h0n:¬ hdS s.size (bt s) g.sets p m→(∀ v,v∈thn↔∃ p r:Nat,((p:Nat):Int)∈next.take (c+1)∧hdS s.size (bt s) g.sets p m∧r < g.n∧g.follow p r=true∧v=r):=by
   intro hd v
   rw [hthn]
   constructor
   ·rintro ⟨p',r,h1,h2⟩
    exact ⟨p',r,(zV hk _).2 (.inl h1),h2⟩
   ·rintro ⟨p',r,h1,h2,h3⟩
    rcases (zV hk _).1 h1 with h1 | h1
    ·exact ⟨p',r,h1,h2,h3⟩
    ·rw [ep] at h1
     obtain rfl:p'=p:=by omega
     exact absurd h2 hd
  have his:∀ b:Bool,(b=true↔is=true∨(hdS s.size (bt s) g.sets p m∧g.last p=true))→(b=true↔∃ p:Nat,((p:Nat):Int)∈next.take (c+1)∧hdS s.size (bt s) g.sets p m∧g.last p=true):=by
   intro b hb
   rw [hb,hi]
   constructor
   ·rintro (⟨p',h1,h2⟩ | h)
    ·exact ⟨p',(zV hk _).2 (.inl h1),h2⟩
    ·exact ⟨p,(zV hk _).2 (.inr ep.symm),h⟩
   ·rintro ⟨p',h1,h2⟩
    rcases (zV hk _).1 h1 with h1 | h1
    ·exact .inl ⟨p',h1,h2⟩
    ·rw [ep] at h1
     obtain rfl:p'=p:=by omega
     exact .inr h2
  refine ⟨fun a1 a2 a3 a4 a5 a6 a7 thn' is'=>(a1=s∧a2=(plc g).Sets∧a3=(plc g).First∧a4=(plc g).Last∧a5=(plc g).Follow∧a6=(plc g).Null∧a7=(m:Int))∧thn'.length≤(c+1) * g.n∧(is'=true↔∃ p:Nat,((p:Nat):Int)∈next.take (c+1)∧hdS s.size (bt s) g.sets p m∧g.last p=true)∧
   (∀ v,v∈thn'↔∃ p r:Nat,((p:Nat):Int)∈next.take (c+1)∧hdS s.size (bt s) g.sets p m∧r < g.n∧g.follow p r=true∧v=r),
   fun a1 a2 a3 a4 a5 a6 a7 thn' is' h=>⟨⟨h.1,fin _ _ h.2.1 h.2.2.1 h.2.2.2⟩,by first | omega | (dsimp only;omega)⟩,by omega,by omega,
   _,_,_,_,aheadL1_ok (plc g) s p m hpS ht,fun hh=>?_,fun hh=>?_⟩
  ·have hd:=hdp.2 hh
   rw [hgf]
   have hA:=h1n hd
   refine ⟨by omega,by omega,by omega,fun hi'=>⟨⟨rfl,rfl,rfl,rfl,rfl,rfl,rfl⟩,by rw [List.length_append];omega,his _ (by simp [hi']),hA⟩,fun hi'=>?_⟩
   refine ⟨g.last p,contains_ok _ _ (by have:=zan g.n g.last 0;show (lst g.n g.last 0).length < _;omega) _ ?_,⟨rfl,rfl,rfl,rfl,rfl,rfl,rfl⟩,by rw [List.length_append];omega,his _ (by simp [hi',hd]),hA⟩
   show _↔_∈lst g.n g.last 0
   rw [zax]
   constructor
   ·exact fun h=>⟨p,hp,h,by omega⟩
   ·rintro ⟨i,_,h,e⟩
    obtain rfl:i=p:=by omega
    exact h
  ·have hd:¬ hdS s.size (bt s) g.sets p m:=fun h=>by rw [hdp.1 h] at hh;cases hh
   exact ⟨⟨rfl,rfl,rfl,rfl,rfl,rfl,rfl⟩,by omega,his _ (by simp [hd]),h0n hd⟩
 ·have hk:c=next.length:=by have:=of_decide_eq_false hk;omega
  subst hk
  rw [List.take_of_length_le (Nat.le_refl _)] at hi hthn
  have hlt:∀ p:Nat,hdS s.size (bt s) g.sets p m→p < g.n:=fun p h=>by rw [← hca.sets];exact zh9 h
  have hacc:is=accB s g (m+1):=by
   rw [Bool.eq_iff_iff,hi,zcc,rch_last]
   constructor
   ·rintro ⟨p,h1,h2,h3⟩;exact ⟨p,(hmem p (hlt p h2)).1 h1,h2,h3⟩
   ·rintro ⟨p,h1,h2,h3⟩;exact ⟨p,(hmem p (hlt p h2)).2 h1,h2,h3⟩
  rw [hw2]
  refine ⟨join thn [],zfX thn [] (by omega) (by simp),by simp;omega,⟨⟨f1,f2,f3,f4,f5,f6⟩,m+1,rfl,by omega,?_,fun r=>@decide (Rch s.size (bt s) g (m+1) r) (Classical.propDecidable _),fun r hr=>by simp,?_⟩,by first | omega | (dsimp only;omega)⟩
  ·rw [hacc,List.range_succ (n:=m+1),List.map_append];rfl
  ·refine zgh (zbT _ _).1 (zbE _ _ _) fun v=>?_
   rw [(zbT _ _).2,hthn,zax]
   constructor
   ·rintro (⟨p,r,h1,h2,h3,h4,rfl⟩ | h)
    ·exact ⟨r,h3,by simp only [decide_eq_true_eq];exact ⟨p,(hmem p (hlt p h2)).1 h1,h2,h4⟩,by omega⟩
    ·simp at h
   ·rintro ⟨r,h1,h2,e⟩
    simp only [decide_eq_true_eq] at h2
    obtain ⟨p,h3,h4,h5⟩:=h2
    exact .inl ⟨p,r,(hmem p (hlt p h4)).2 h3,h4,h1,h5,by omega⟩
end Go.Ev.Pl
set_option linter.unusedSimpArgs false
set_option linter.unusedVariables false
namespace Go.Ev.Pl
open Go Go.Ev
theorem Ahead_ok (x:za) (s:ByteArray) (hw:Wf x) (hs:(s.size:Int) < 2 ^ 60):zbM x s (if rightB x=true∧s.size≤10000 then ahd x s else []):=by
 refine W_split_Ahead x s _ ⟨_,zcC x hw,fun h=>?_,fun h=>?_⟩
 ·have h':¬ (rightB x=true∧s.size≤10000):=by
   rintro ⟨h1,h2⟩
   simp only [h1,Bool.not_true,Bool.false_or,decide_eq_true_eq] at h;omega
  rw [if_neg h']
 ·simp only [Bool.or_eq_false_iff,Bool.not_eq_false',decide_eq_false_iff_not] at h
  have h':rightB x=true∧s.size≤10000:=⟨h.1,by omega⟩
  rw [if_pos h']
  exact ⟨_,ahead_ok x s hw h.1 (by omega),rfl⟩
abbrev zRx:za:={ Kind:=(0:Int),Set:={ e0:=(0:Int),e1:=(0:Int),e2:=(0:Int),e3:=(0:Int) },Lo:=(0:Int),Hi:=(0:Int),Kids:=[] }
theorem zgg (x:za) (hw:Wf x):zaQ x (if rightB x=true then rev x else zRx) (if rightB x=true then 0 else 1):=by
 refine zh4 x _ _ ⟨_,zcC x hw,fun h=>?_,fun h=>?_⟩
 ·have h:¬ rightB x=true:=by simpa using h
  rw [if_neg h,if_neg h];exact ⟨rfl,rfl⟩
 ·have h:rightB x=true:=by simpa using h
  rw [if_pos h,if_pos h]
  exact ⟨_,zig x hw,rfl,rfl⟩
def Rvd (s t:ByteArray):Prop:=t.size=s.size∧∀ i,i < s.size→bt t i=bt s (s.size - 1 - i)
theorem acc_rvd {s t:ByteArray} (h:Rvd s t) (x:za) (hr:Rgt x) {k:Nat} (hk:k≤s.size):accB t (gof (rev x)) k=true↔acc s.size (bt s) (gof x) (s.size - k) s.size:=by
 rw [zcc,h.1]
 have h1:=acc_rev (N:=s.size) (B:=bt s) x hr 0 k (by omega) hk
 rw [Nat.sub_zero] at h1
 rw [← h1]
 have h2:=acc_sub (N:=s.size) (M:=s.size) (h:=0) (B:=bkw s.size (bt s)) (B':=bt t) (by omega) (fun i hi=>by rw [h.2 i hi,Nat.zero_add]) (g:=gof (rev x)) (i:=0) (j:=k) hk
 rw [h2,Nat.zero_add,Nat.zero_add]
noncomputable def lastN (p:Nat→Prop):Nat→Nat
 | 0=>0
 | n+1=>@ite _ (p (n+1)) (Classical.propDecidable _) (n+1) (lastN p n)
theorem zhp {p:Nat→Prop} {n:Nat} (h:p (n+1)):lastN p (n+1)=n+1:=by simp [lastN,h]
theorem zfd {p:Nat→Prop} {n:Nat} (h:¬ p (n+1)):lastN p (n+1)=lastN p n:=by simp [lastN,h]
theorem zfW {p:Nat→Prop}:∀ {n:Nat},(∀ k,0 < k→k≤n→¬ p k)→lastN p n=0
 | 0,_=>rfl
 | n+1,h=>by rw [zfd (h _ (by omega) (by omega)),zfW fun k h1 h2=>h k h1 (by omega)]
noncomputable def prt (r:zA) (s:ByteArray):Nat:=
 if rightB (zA.Rx r)=true∧s.size≤10000 then
  if (zA.Trail r).Kind=0 then (if accB s (gof (zA.Rx r)) s.size=true then s.size else 0)
  else if rightB (zA.Trail r)=true then lastN (fun h=>acc s.size (bt s) (gof (zA.Rx r)) 0 h∧acc s.size (bt s) (gof (zA.Trail r)) h s.size) s.size
  else 0
 else 0
end Go.Ev.Pl
set_option linter.unusedSimpArgs false
set_option linter.unusedVariables false
namespace Go.Ev.Pl
open Go Go.Ev
theorem empty_text (s:ByteArray):(ByteArray.toList s == ByteArray.toList { data:=#[] })=true↔s.size=0:=by
 rw [beq_iff_eq,ByteArray.toList_eq,ByteArray.toList_eq]
 constructor
 ·intro h
  have:=congrArg List.length h
  simpa using this
 ·intro h
  have:s.data.size=0:=h
  simp only [Array.toList_eq_nil_iff]
  exact Array.eq_empty_of_size_eq_zero this
theorem zfr {s:ByteArray} {i:Nat} (h:i < s.size):byteAt s (i:Int)=s.data[i]'h:=by
 have h1:s[i]?=some (s.data[i]'h):=by
  rw [getElem?_pos s i h];rfl
 simp only [byteAt,Int.toNat_natCast,h1,Option.getD_some]
theorem rvd_list {s t:ByteArray} (h:t.data.toList=s.data.toList.reverse):Rvd s t:=by
 have hsz:t.size=s.size:=by
  have:=congrArg List.length h
  simpa using this
 refine ⟨hsz,fun i hi=>?_⟩
 have h1:i < t.size:=by omega
 have h2:s.size - 1 - i < s.size:=by omega
 unfold bt
 rw [zfr h1,zfr h2]
 have e:t.data[i]'h1=s.data[s.size - 1 - i]'h2:=by
  have g1:t.data[i]'h1=t.data.toList[i]'(by simpa using h1):=by simp
  have g2:t.data.toList[i]'(by simpa using h1)=s.data.toList.reverse[i]'(by rw [← h];simpa using h1):=by simp only [h]
  rw [g1,g2,List.getElem_reverse]
  simp
 rw [e]
theorem rvd_bytes (s:ByteArray):Rvd s (bytesT (List.map zE (bytesOf s).reverse)):=by
 refine rvd_list ?_
 simp only [bytesT,bytesOf,List.map_map,← List.map_reverse]
 have e:toU8∘zE∘(fun b:UInt8=>(b.toNat:Int))=id:=by
  funext b
  simp [toU8,zE]
 rw [e]
 simp
theorem Split_ok (r:zA) (s:ByteArray) (hw1:Wf (zA.Rx r)) (hw2:Wf (zA.Trail r)) (hs:(s.size:Int) < 2 ^ 60):zas r s (prt r s:Nat):=by
 refine W_split_Split r s _ ⟨_,Ahead_ok _ s hw1 hs,fun h=>?_,fun h=>?_⟩
 ·have:¬ (rightB (zA.Rx r)=true∧s.size≤10000):=by
   intro hh
   rw [if_pos hh,ahd_len] at h
   simp at h;omega
  simp [prt,this]
 ·have hh:rightB (zA.Rx r)=true∧s.size≤10000:=by
   by_cases hh:rightB (zA.Rx r)=true∧s.size≤10000
   ·exact hh
   ·rw [if_neg hh] at h;simp at h
  rw [if_pos hh,ahd_len]
  refine ⟨fun ht=>?_,fun ht=>?_⟩
  ·have ht:(zA.Trail r).Kind=0:=by simpa using ht
   have hg:=ahd_get (zA.Rx r) s (i:=s.size) (by omega)
   rw [gd,Int.toNat_natCast] at hg
   refine ⟨by omega,by omega,by omega,fun ha=>?_,fun ha=>?_⟩
   ·rw [hg] at ha;simp [prt,hh,ht,ha]
   ·rw [hg] at ha;simp [prt,hh,ht,ha]
  ·have ht:¬ (zA.Trail r).Kind=0:=by simpa using ht
   refine ⟨_,zcC _ hw2,fun hr=>?_,fun hr=>?_⟩
   ·have hr:¬ rightB (zA.Trail r)=true:=by simpa using hr
    simp [prt,hh,ht,hr]
   ·have hr:rightB (zA.Trail r)=true:=by simpa using hr
    have hbl:(bytesOf s).length=s.size:=by simp [bytesOf]
    have hrv:=rvd_bytes s
    obtain ⟨t,ht2⟩:∃ t,t=bytesT (List.map zE (bytesOf s).reverse):=⟨_,rfl⟩
    rw [← ht2] at hrv
    have hts:t.size=s.size:=hrv.1
    have hrr:rightB (rev (zA.Trail r))=true:=by rw [rev_right];exact hr
    have hR:=(zbI hr).1
    refine ⟨_,zig _ hw2,_,turnedByte_ok _ (by omega),ahd (rev (zA.Trail r)) t,?_,?_⟩
    ·rw [← ht2];exact ahead_ok _ t (rev_wf _ hw2) hrr (by omega)
    obtain ⟨p,hp⟩:∃ p:Nat→Prop,p=fun h=>acc s.size (bt s) (gof (zA.Rx r)) 0 h∧acc s.size (bt s) (gof (zA.Trail r)) h s.size:=⟨_,rfl⟩
    have hprt:prt r s=lastN p s.size:=by simp [prt,hh,ht,hr,hp]
    rw [hprt,ahd_len,hts]
    refine ⟨fun h=>∃ i:Nat,h=i∧i≤s.size∧lastN p i=lastN p s.size,fun h=>h.toNat,⟨s.size,rfl,Nat.le_refl _,rfl⟩,?_⟩
    rintro _ ⟨i,rfl,hi,hl⟩
    have hwN:w64 ((s.size:Int) - i)=((s.size - i:Nat):Int):=(zO (by omega) (by omega)).trans (by omega)
    have hw1:0 < i→w64 ((i:Int) - 1)=((i - 1:Nat):Int):=fun h=>(zO (by omega) (by omega)).trans (by omega)
    have hA:(gd (ahd (zA.Rx r) s) (i:Int) && gd (ahd (rev (zA.Trail r)) t) (w64 ((s.size:Int) - i)))=true↔p i:=by
     rw [hwN,ahd_get _ s (by omega),ahd_get _ t (by omega),Bool.and_eq_true,zcc,acc_rvd hrv _ hR (by omega),hp,show s.size - (s.size - i)=i by omega]
    refine ⟨fun h0=>?_,fun h0=>?_⟩
    ·have h0:0 < i:=by have:=of_decide_eq_true h0;omega
     obtain ⟨k,rfl⟩:∃ k,i=k+1:=⟨i - 1,by omega⟩
     refine ⟨by omega,by omega,by omega,fun _=>by rw [hwN];omega,fun _=>by rw [hwN,Int.toNat_natCast];omega,fun _=>by rw [hwN];omega,fun ha=>?_,fun ha=>?_⟩
     ·rw [← hl,zhp (hA.1 ha)]
     ·have hn:¬ p (k+1):=fun h=>by rw [hA.2 h] at ha;cases ha
      rw [zfd hn] at hl
      rw [hw1 h0]
      exact ⟨⟨k,by omega,by omega,hl⟩,by first | omega | (dsimp only;omega)⟩
    ·have h0:i=0:=by have:=of_decide_eq_false h0;omega
     subst h0
     rw [← hl];rfl
theorem endsBad_ok (x:za) (s:ByteArray) (hw:Wf x) (hr:¬ rightB x=true):zbf x s 0 []:=by
 have hf:rightB x=false:=by simpa using hr
 refine zcX x s 0 _ ⟨false,zc9 x s _ ⟨_,zcr x hw,by rw [hf,Bool.false_and]⟩,fun _=>rfl,fun h=>by simp at h⟩
theorem matchBad_ok (x:za) (s:ByteArray) (hw:Wf x) (hr:¬ rightB x=true):zam x s false:=
 zcO x s _ ⟨[],endsBad_ok x s hw hr,fun h=>by simp at h,fun h=>by simp at h,fun h=>by simp at h,by simp⟩
noncomputable def mtc (x:za) (s:ByteArray):Bool:=rightB x && accB s (gof x) s.size
theorem zeG (x:za) (s:ByteArray) (hw:Wf x) (hs:s.size≤10000):zam x s (mtc x s):=by
 by_cases hr:rightB x=true
 ·have:=match_ok x s hw hr hs
  rwa [mtc,hr,Bool.true_and]
 ·have:=matchBad_ok x s hw hr
  have hf:rightB x=false:=by simpa using hr
  rwa [mtc,hf,Bool.false_and]
theorem zdH {s:ByteArray} {a b:Nat} (h1:a≤b) (h2:b≤s.size):(s.extract a b).size=b - a:=by rw [ByteArray.size_extract];omega
theorem bt_part {s:ByteArray} {a b:Nat} (h1:a≤b) (h2:b≤s.size) {i:Nat} (hi:i < b - a):bt (s.extract a b) i=bt s (a+i):=by
 have e1:i < (s.extract a b).size:=by rw [zdH h1 h2];exact hi
 have e2:a+i < s.size:=by omega
 unfold bt
 rw [zfr e1,zfr e2]
 have:(s.extract a b).data[i]'e1=s.data[a+i]'e2:=by
  have e3:(s.extract a b).data=s.data.extract a b:=ByteArray.data_extract
  simp [e3]
 rw [this]
theorem mtc_head (x:za) (s:ByteArray) {h:Nat} (hh:h≤s.size):mtc x (s.extract 0 h)=true↔rightB x=true∧acc s.size (bt s) (gof x) 0 h:=by
 have hsz:=zdH (s:=s) (Nat.zero_le h) hh
 rw [mtc,Bool.and_eq_true,zcc,hsz]
 have:=acc_sub (N:=s.size) (M:=h - 0) (h:=0) (B:=bt s) (B':=bt (s.extract 0 h)) (by omega) (fun i hi=>bt_part (Nat.zero_le _) hh hi) (g:=gof x) (i:=0) (j:=h - 0) (by omega)
 rw [this];simp
theorem mtc_tail (x:za) (s:ByteArray) {h:Nat} (hh:h≤s.size):mtc x (s.extract h s.size)=true↔rightB x=true∧acc s.size (bt s) (gof x) h s.size:=by
 have hsz:=zdH (s:=s) hh (Nat.le_refl _)
 rw [mtc,Bool.and_eq_true,zcc,hsz]
 have:=acc_sub (N:=s.size) (M:=s.size - h) (h:=h) (B:=bt s) (B':=bt (s.extract h s.size)) (by omega) (fun i hi=>bt_part hh (Nat.le_refl _) hi) (g:=gof x) (i:=0) (j:=s.size - h) (by omega)
 rw [this,Nat.add_zero,show h+(s.size - h)=s.size by omega]
theorem Head_ok (r:zA) (s:ByteArray) (hw1:Wf (zA.Rx r)) (hw2:Wf (zA.Trail r)) (hs:s.size≤10000):zbA r s (prt r s:Nat):=by
 refine zfz r s _ ⟨fun ht=>?_,fun ht=>?_⟩
 ·have ht:(zA.Trail r).Kind=0:=by simpa using ht
  refine ⟨fun h=>⟨_,zeG _ s hw1 hs,fun hm=>?_,fun hm=>?_⟩,fun h=>?_⟩
  ·simp only [mtc,Bool.and_eq_true] at hm;simp [prt,hm.1,hm.2,hs,ht]
  ·by_cases hr:rightB (zA.Rx r)=true
   ·simp only [mtc,hr,Bool.true_and] at hm;simp [prt,hm,hr,hs,ht]
   ·simp [prt,hr]
  ·have:s.size=0:=(empty_text s).1 (by simpa using h)
   have hz:prt r s=0:=by simp [prt,ht,this]
   rw [hz];rfl
 ·have ht:¬ (zA.Trail r).Kind=0:=by simpa using ht
  obtain ⟨p,hp⟩:∃ p:Nat→Prop,p=fun h=>(rightB (zA.Rx r)=true∧acc s.size (bt s) (gof (zA.Rx r)) 0 h)∧rightB (zA.Trail r)=true∧acc s.size (bt s) (gof (zA.Trail r)) h s.size:=⟨_,rfl⟩
  have hprt:prt r s=lastN p s.size:=by
   by_cases h1:rightB (zA.Rx r)=true
   ·by_cases h2:rightB (zA.Trail r)=true
    ·simp [prt,h1,h2,hs,ht,hp]
    ·rw [zfW (fun k _ _ h=>by rw [hp] at h;exact h2 h.2.1)];simp [prt,h1,h2,ht]
   ·rw [zfW (fun k _ _ h=>by rw [hp] at h;exact h1 h.1.1)];simp [prt,h1]
  rw [hprt]
  refine ⟨fun h=>∃ i:Nat,h=i∧i≤s.size∧lastN p i=lastN p s.size,fun h=>h.toNat,⟨s.size,rfl,Nat.le_refl _,rfl⟩,?_⟩
  rintro _ ⟨i,rfl,hi,hl⟩
  have hw1':0 < i→w64 ((i:Int) - 1)=((i - 1:Nat):Int):=fun h=>(zO (by omega) (by omega)).trans (by omega)
  rw [Int.toNat_natCast]
  have m1:=zeG (zA.Rx r) (s.extract 0 i) hw1 (by rw [zdH (Nat.zero_le i) hi];omega)
  have m2:=zeG (zA.Trail r) (s.extract i s.size) hw2 (by rw [zdH hi (Nat.le_refl _)];omega)
  refine ⟨fun h0=>?_,fun h0=>?_⟩
  ·have h0:0 < i:=by have:=of_decide_eq_true h0;omega
   obtain ⟨k,rfl⟩:∃ k,i=k+1:=⟨i - 1,by omega⟩
   have next:¬ p (k+1)→(∃ j:Nat,w64 (((k+1:Nat):Int) - 1)=j∧j≤s.size∧lastN p j=lastN p s.size)∧(w64 (((k+1:Nat):Int) - 1)).toNat < ((k+1:Nat):Int).toNat:=fun hn=>by
    rw [zfd hn] at hl
    rw [hw1' h0]
    exact ⟨⟨k,by omega,by omega,hl⟩,by omega⟩
   refine ⟨⟨by omega,hi⟩,_,m1,fun ha=>⟨fun _=>⟨by omega,hi⟩,_,m2,fun hb=>?_,fun hb=>next ?_⟩,fun ha=>next ?_⟩
   ·rw [← hl,zhp (show p (k+1) by rw [hp];exact ⟨(mtc_head _ s hi).1 ha,(mtc_tail _ s hi).1 hb⟩)]
   ·rw [hp];rintro ⟨_,h⟩;rw [(mtc_tail _ s hi).2 h] at hb;cases hb
   ·rw [hp];rintro ⟨h,_⟩;rw [(mtc_head _ s hi).2 h] at ha;cases ha
  ·have h0:i=0:=by have:=of_decide_eq_false h0;omega
   subst h0
   rw [← hl];rfl
theorem refSplit_ok (r:zA) (s:ByteArray) (hw1:Wf (zA.Rx r)) (hw2:Wf (zA.Trail r)) (hs:s.size≤10000):zbr r s (prt r s:Nat):=
 zeP r s _ ⟨fun h=>absurd (of_decide_eq_true h) (by omega),fun _=>⟨_,Head_ok r s hw1 hw2 hs,rfl⟩⟩
end Go.Ev.Pl
set_option linter.unusedSimpArgs false
set_option linter.unusedVariables false
namespace Go.Ev.Pl
open Go Go.Ev
def runsN (a:zb):Nat→List zH
 | 0=>[]
 | n+1=>
   if setHas a n=true then
    if 0 < n∧setHas a ((n:Int) - 1)=true then List.set (runsN a n) ((runsN a n).length - 1) { e0:=zH.e0 ((runsN a n).getD ((runsN a n).length - 1) default),e1:=n }
    else runsN a n++[{ e0:=n,e1:=n }]
   else runsN a n
theorem runsN_len (a:zb):∀ n,(runsN a n).length≤n
 | 0=>by simp [runsN]
 | n+1=>by
   have:=runsN_len a n
   unfold runsN
   split
   ·split
    ·rw [List.length_set];omega
    ·rw [List.length_append];simp;omega
   ·omega
theorem runsN_pos (a:zb):∀ n:Nat,setHas a n=true→0 < (runsN a (n+1)).length
 | n,h=>by
   unfold runsN
   rw [if_pos h]
   split
   ·rename_i hc
    rw [List.length_set]
    obtain ⟨k,rfl⟩:∃ k,n=k+1:=⟨n - 1,by omega⟩
    exact runsN_pos a k (by have:=hc.2;rwa [show (((k+1:Nat):Int) - 1)=(k:Int) by omega] at this)
   ·rw [List.length_append];simp
theorem runs_ok (a:zb):zbB a (runsN a 256):=by
 refine zfE a _ ⟨fun o i=>∃ n:Nat,i=n∧n≤256∧o=runsN a n,fun _ i=>(256 - i).toNat,⟨0,rfl,by omega,rfl⟩,?_⟩
 rintro o i ⟨n,rfl,hn,rfl⟩
 have hlen:=runsN_len a n
 have hw2:w64 ((n:Int)+1)=((n+1:Nat):Int):=zO (by omega) (by omega)
 refine ⟨fun ht=>?_,fun ht=>?_⟩
 ·have ht:n < 256:=by have:=of_decide_eq_true ht;omega
  have hstep:∀ o',o'=runsN a (n+1)→(∃ m:Nat,w64 ((n:Int)+1)=m∧m≤256∧o'=runsN a m)∧(256 - w64 ((n:Int)+1)).toNat < (256 - (n:Int)).toNat:=fun o' h=>by
   rw [hw2];exact ⟨⟨n+1,rfl,by omega,h⟩,by omega⟩
  refine ⟨fun o'=>o'=runsN a (n+1),hstep,_,has_ok a n,fun h=>?_,fun h=>?_⟩
  ·have h:¬ setHas a n=true:=by simpa using h
   rw [runsN,if_neg h]
  ·have h:setHas a n=true:=by simpa using h
   refine ⟨fun h0=>?_,fun h0=>?_⟩
   ·have h0:0 < n:=by have:=of_decide_eq_true h0;omega
    have hw1:w64 ((n:Int) - 1)=(n:Int) - 1:=zO (by omega) (by omega)
    rw [hw1]
    refine ⟨_,has_ok a _,fun h1=>?_,fun h1=>⟨by omega,?_⟩⟩
    ·have hp:0 < (runsN a n).length:=by
      have:=runsN_pos a (n - 1) (by rw [show (((n - 1:Nat)):Int)=(n:Int) - 1 by omega];exact h1)
      rwa [show n - 1+1=n by omega] at this
     have hwl:w64 (((runsN a n).length:Int) - 1)=(((runsN a n).length - 1:Nat):Int):=(zO (by omega) (by omega)).trans (by omega)
     rw [hwl]
     refine ⟨by omega,by rw [Int.toNat_natCast];omega,by omega,?_⟩
     rw [runsN,if_pos h,if_pos ⟨h0,h1⟩,Int.toNat_natCast,gd,Int.toNat_natCast]
    ·rw [runsN,if_pos h,if_neg (by rintro ⟨_,h2⟩;rw [h2] at h1;cases h1)]
   ·have h0:n=0:=by have:=of_decide_eq_false h0;omega
    refine ⟨by omega,?_⟩
    rw [runsN,if_pos h,if_neg (by omega)]
 ·have ht:n=256:=by have:=of_decide_eq_false ht;omega
  subst ht;rfl
theorem zie (b:Int) (t:ByteArray) (hr:runsN (setOf b b) 256=[{ e0:=b,e1:=b }]) (hp:zaA b t):zZ (chr b) t:=by
 have h:=runs_ok (setOf b b)
 rw [hr] at h
 have hb:zbu (setOf b b) t:=by
  refine zeX _ _ ⟨_,h,fun _=>(by simp),fun _=>by simp,fun _=>(by simp),fun _=>by simp,fun _=>⟨by simp,by simp,t,hp,rfl⟩,fun h=>by simp at h⟩
 exact zce _ _ ⟨fun h=>(by simp [chr] at h),fun _=>⟨fun _=>⟨t,hb,rfl⟩,fun h=>by simp [chr] at h⟩⟩
theorem zgz (b:Int) (t:ByteArray) (hp:97≤b∧b≤122) (ht:bytesT [FV.pv (Value.int IntKind.u8 (IntKind.wrap IntKind.u8 b))]=t):zaA b t:=
 zfB b _ ⟨true,zeZ b _ (by simp [hp.1,hp.2]),fun _=>ht.symm,fun h=>(by cases h)⟩
theorem text_a:zZ (chr 97) ⟨#[97]⟩:=zie 97 _ (by kernel_rfl) (zgz 97 _ (by omega) (by kernel_rfl))
theorem text_b:zZ (chr 98) ⟨#[98]⟩:=zie 98 _ (by kernel_rfl) (zgz 98 _ (by omega) (by kernel_rfl))
abbrev rpB:za:=⟨5,zset,0,-1,[chr 98]⟩
abbrev aw15:za:=⟨3,zset,0,0,[chr 97,rpB]⟩
abbrev aw15r:za:=⟨3,zset,0,0,[rpB,chr 97]⟩
theorem text_in (x:za) (t:ByteArray) (h:zZ x t):za8 x false t:=zgO x false _ ⟨fun h=>(by cases h),fun _=>⟨t,h,rfl⟩⟩
theorem digit0:zaE 0 ⟨#[48]⟩:=zeo 0 _ ⟨fun _=>(by kernel_rfl),fun h=>by simp at h⟩
theorem text_rp:zZ rpB ⟨#[98,123,48,44,125]⟩:=by
 refine zce _ _ ⟨fun h=>(by simp at h),fun _=>⟨fun h=>(by simp at h),fun _=>⟨fun _=>⟨by simp,by simp,_,text_in (chr 98) _ text_b,by decide,_,digit0,by decide,by decide,fun s=>s=⟨#[98,123,48,44]⟩,fun s hs=>⟨by subst hs;decide,by subst hs;decide⟩,fun h=>(by simp at h),fun _=>by decide⟩,fun h=>by simp at h⟩⟩⟩
end Go.Ev.Pl
set_option linter.unusedSimpArgs false
set_option linter.unusedVariables false
namespace Go.Ev.Pl
open Go Go.Ev
abbrev bra:ByteArray:=⟨#[98,123,48,44,125,97]⟩
theorem text_aw:zZ aw15r bra:=by
 refine zce _ _ ⟨fun h=>(by simp at h),fun _=>⟨fun h=>(by simp at h),fun _=>⟨fun h=>(by simp at h),fun _=>?_⟩⟩⟩
 refine ⟨fun s i=>(i=0∧s=⟨#[]⟩)∨(i=1∧s=⟨#[98,123,48,44,125]⟩)∨(i=2∧s=bra),fun _ i=>(2 - i).toNat,.inl ⟨rfl,rfl⟩,?_⟩
 rintro s i (⟨rfl,rfl⟩ | ⟨rfl,rfl⟩ | ⟨rfl,rfl⟩)
 ·refine ⟨fun _=>⟨fun s=>s=⟨#[]⟩,fun s hs=>?_,fun h=>(by simp at h),fun _=>rfl⟩,fun h=>(by simp at h)⟩
  subst hs
  refine ⟨by omega,by simp,fun _=>⟨fun _=>by omega,fun _=>by simp,_,text_in rpB _ text_rp,fun _=>by decide,.inr (.inl ⟨by decide,by decide⟩),by decide⟩,fun h=>(by simp at h)⟩
 ·refine ⟨fun _=>⟨fun s=>s=⟨#[98,123,48,44,125]⟩,fun s hs=>?_,fun h=>(by simp at h),fun _=>rfl⟩,fun h=>(by simp at h)⟩
  subst hs
  refine ⟨by omega,by simp,fun _=>⟨fun _=>by omega,fun _=>by simp,_,text_in (chr 97) _ text_a,fun _=>by decide,.inr (.inr ⟨by decide,by decide⟩),by decide⟩,fun h=>(by simp at h)⟩
 ·exact ⟨fun h=>(by simp at h),fun _=>rfl⟩
theorem wf_rpB:Wf rpB:=(zdx _).2 ⟨by simp,fun y hy=>by
 simp only [List.mem_cons,List.not_mem_nil,or_false] at hy
 subst hy;exact zdC _ _ _ _⟩
theorem wf_aw15:Wf aw15:=(zdx _).2 ⟨by simp,fun y hy=>by
 simp only [List.mem_cons,List.not_mem_nil,or_false] at hy
 rcases hy with rfl | rfl
 ·exact zdC _ _ _ _
 ·exact wf_rpB⟩
theorem zc0:rightB aw15=true:=by kernel_rfl
theorem rev_aw15:rev aw15=aw15r:=by kernel_rfl
theorem right_zRx:rightB zRx=false:=by kernel_rfl
theorem right_b:rightB (chr 98)=true:=by kernel_rfl
abbrev abb:ByteArray:={ data:=#[(97:UInt8),(98:UInt8),(98:UInt8)] }
theorem acc_b (i j:Nat):acc 3 (bt abb) (gof (chr 98)) i j↔i < 3∧setHas (chr 98).Set (bt abb i)=true∧j=i+1:=by
 rw [zit (x:=chr 98) rfl];exact zdt
theorem sb1:setHas (chr 98).Set (bt abb 1)=true:=by kernel_rfl
theorem sb2:setHas (chr 98).Set (bt abb 2)=true:=by kernel_rfl
theorem sa0:setHas (chr 97).Set (bt abb 0)=true:=by kernel_rfl
theorem acc_rpB (i j:Nat):acc 3 (bt abb) (gof rpB) i j↔∃ q,pow (acc 3 (bt abb) (gof (chr 98))) q i j:=by
 rw [gof_k5 (x:=rpB) (k:=chr 98) rfl rfl,zd0 (zae _) (by decide) (.inl rfl)]
 constructor
 ·rintro ⟨q,_,h⟩;exact ⟨_,h⟩
 ·rintro ⟨q,h⟩;exact ⟨q,.inl (by decide),by simpa using h⟩
theorem acc_aw15 (j:Nat) (hj:j≤3):acc 3 (bt abb) (gof aw15) 0 j↔1≤j:=by
 rw [gof_k3 (x:=aw15) rfl,zg5 _ zaI]
 constructor
 ·rintro ⟨k,h1,k2,h2,k3,h3,h4⟩
  cases za4.1 h1
  rw [zit (x:=chr 97) rfl,zdt] at h2
  have:=zfu h3 (by omega)
  cases h4
  omega
 ·intro h
  refine ⟨0,za4.2 rfl,1,by rw [zit (x:=chr 97) rfl,zdt];exact ⟨by omega,sa0,rfl⟩,j,?_,rfl⟩
  rw [acc_rpB]
  rcases (show j=1∨j=2∨j=3 by omega) with rfl | rfl | rfl
  ·exact ⟨0,rfl⟩
  ·exact ⟨1,1,rfl,(acc_b 1 2).2 ⟨by omega,sb1,rfl⟩⟩
  ·exact ⟨2,2,⟨1,rfl,(acc_b 1 2).2 ⟨by omega,sb1,rfl⟩⟩,(acc_b 2 3).2 ⟨by omega,sb2,rfl⟩⟩
theorem zd1 (j:Nat) (hj:j≤3):accB abb (gof aw15) j=decide (1≤j):=by
 rw [Bool.eq_iff_iff,zcc,decide_eq_true_eq];exact acc_aw15 j hj
theorem ahd_aw15:ahd aw15 abb=[false,true,true,true]:=by
 show (List.range 4).map _=_
 simp only [List.range,List.range.loop,List.map_cons,List.map_nil]
 rw [zd1 0 (by omega),zd1 1 (by omega),zd1 2 (by omega),zd1 3 (by omega)]
 rfl
theorem prt_aw1:prt { Conds:=[],All:=false,Bol:=false,Rx:=aw15,Trail:=chr 98,Eof:=false,Act:=0,To:=0 } abb=2:=by
 have h1:rightB aw15=true∧abb.size≤10000:=⟨zc0,by decide⟩
 unfold prt
 rw [if_pos h1,if_neg (show ¬ (chr 98).Kind=0 by decide),if_pos right_b]
 show lastN _ 3=2
 rw [zfd (by rintro ⟨_,h⟩;have:=(acc_b 3 3).1 h;omega),zhp ⟨(acc_aw15 2 (by omega)).2 (by omega),(acc_b 2 3).2 ⟨by omega,sb2,rfl⟩⟩]
theorem prt_aw2:prt { Conds:=[],All:=false,Bol:=false,Rx:=aw15,Trail:=zRx,Eof:=false,Act:=0,To:=0 } abb=3:=by
 have h1:rightB aw15=true∧abb.size≤10000:=⟨zc0,by decide⟩
 unfold prt
 rw [if_pos h1,if_pos rfl]
 show (if accB abb (gof aw15) 3=true then _ else _)=3
 rw [zd1 3 (by omega)];rfl
theorem zhR (b:Int):zaT b (chr b):=zfG b _ ⟨_,zgR b b,rfl⟩
theorem awake15_ok:zbv true:=by
 have hR:=zgg aw15 wf_aw15
 rw [if_pos zc0,if_pos zc0,rev_aw15] at hR
 have hZ:=zgg zRx (zdC _ _ _ _)
 rw [if_neg (by rw [right_zRx];simp),if_neg (by rw [right_zRx];simp)] at hZ
 have hA:=Ahead_ok aw15 abb wf_aw15 (by decide)
 rw [if_pos ⟨zc0,by decide⟩,ahd_aw15] at hA
 have hS1:=Split_ok { Conds:=[],All:=false,Bol:=false,Rx:=aw15,Trail:=chr 98,Eof:=false,Act:=0,To:=0 } abb wf_aw15 (zdC _ _ _ _) (by decide)
 rw [prt_aw1] at hS1
 have hS2:=Split_ok { Conds:=[],All:=false,Bol:=false,Rx:=aw15,Trail:=zRx,Eof:=false,Act:=0,To:=0 } abb wf_aw15 (zdC _ _ _ _) (by decide)
 rw [prt_aw2] at hS2
 refine ze1 _ ⟨chr 97,zhR 97,chr 98,zhR 98,_,_,hR,_,_,hZ,_,hA,fun _=>⟨_,text_aw,fun _=>⟨fun _=>⟨_,zgA _ (by simp),fun _=>⟨chr 98,zhR 98,_,hS1,fun _=>⟨_,hS2,by decide⟩,fun h=>(by simp at h)⟩,fun h=>(by cases h)⟩,fun h=>(by simp at h)⟩,fun h=>(by simp at h)⟩,fun h=>(by simp at h)⟩
end Go.Ev.Pl
set_option linter.unusedSimpArgs false
set_option linter.unusedVariables false
namespace Go.Ev.Pl
open Go Go.Ev
theorem refReverse_ok:∀ x,Wf x→zaR x (rev x):=by
 refine rxInd fun x ih hw=>?_
 obtain ⟨hl,hk⟩:=(zdx x).1 hw
 have hlen:(rev x).Kids.length=x.Kids.length:=rev_len x
 refine zd6 x _ ⟨fun k i=>∃ j:Nat,i=j∧j≤x.Kids.length∧k=(rev x).Kids.take j,fun _ i=>(x.Kids.length - i).toNat,⟨0,rfl,by omega,by simp⟩,?_⟩
 rintro k i ⟨j,rfl,hj,rfl⟩
 refine ⟨fun ht=>?_,fun ht=>?_⟩
 ·have ht:j < x.Kids.length:=by have:=of_decide_eq_true ht;omega
  have hw2:w64 ((j:Int)+1)=((j+1:Nat):Int):=zO (by omega) (by omega)
  have hlt:((rev x).Kids.take j).length=j:=by rw [List.length_take];omega
  have h1:w64 ((x.Kids.length:Int) - 1)=((x.Kids.length - 1:Nat):Int):=(zO (by omega) (by omega)).trans (by omega)
  have h2:w64 (((x.Kids.length - 1:Nat):Int) - (j:Int))=((x.Kids.length - 1 - j:Nat):Int):=(zO (by omega) (by omega)).trans (by omega)
  rw [h1,h2,hw2]
  have hjr:j < (rev x).Kids.length:=by omega
  refine ⟨fun k=>∃ m:Nat,k=m∧∃ hm:m < x.Kids.length,rev (x.Kids[m])=(rev x).Kids[j],?_,fun h=>?_,fun h=>?_⟩
  ·rintro _ ⟨m,rfl,hm,hr⟩
   rw [zad hm]
   refine ⟨by omega,by omega,_,ih _ (List.getElem_mem hm) (hk _ (List.getElem_mem hm)),by omega,⟨j+1,rfl,by omega,?_⟩,by first | omega | (dsimp only;omega)⟩
   rw [List.take_succ_eq_append_getElem hjr,hr]
  ·have h:x.Kind=3:=by simpa using h
   refine ⟨x.Kids.length - 1 - j,rfl,by omega,?_⟩
   have e:=zbU x
   rw [if_pos h] at e
   simp only [e,List.getElem_reverse,List.getElem_map,List.length_map]
  ·have h:¬ x.Kind=3:=by simpa using h
   refine ⟨j,rfl,by omega,?_⟩
   have e:=zbU x
   rw [if_neg h] at e
   simp only [e,List.getElem_map]
 ·have ht:j=x.Kids.length:=by have:=of_decide_eq_false ht;omega
  subst ht
  rw [List.take_of_length_le (by omega),zdL]
theorem zgB (x:za) (hw:Wf x):zbe x (if rightB x=true then rev x else zRx) (if rightB x=true then 0 else 1):=by
 refine zd7 x _ _ ⟨_,zcr x hw,fun h=>?_,fun h=>?_⟩
 ·have h:¬ rightB x=true:=by simpa using h
  rw [if_neg h,if_neg h];exact ⟨rfl,rfl⟩
 ·have h:rightB x=true:=by simpa using h
  rw [if_pos h,if_pos h]
  exact ⟨_,refReverse_ok x hw,rfl,rfl⟩
theorem refAhead_ok (x:za) (s:ByteArray) (hw:Wf x) (hs:s.size≤10000):zbs x s (if rightB x=true∧s.size≤10000 then ahd x s else []):=by
 have hO:=refOfAll_ok x hw
 refine zeR x s _ ⟨_,_,hO,fun h=>?_,fun h=>?_⟩
 ·have h':¬ (rightB x=true∧s.size≤10000):=by
   rintro ⟨h1,h2⟩
   rw [if_pos h1] at h
   simp at h;omega
  rw [if_neg h']
 have hr:rightB x=true:=by
  by_cases hr:rightB x=true
  ·exact hr
  ·rw [if_neg hr] at h;simp at h
 rw [if_pos hr,if_pos ⟨hr,hs⟩]
 obtain ⟨hr2,hs200⟩:=zbI hr
 have hn:=zia x hr2
 have hca:=zae x
 obtain ⟨g,hg⟩:∃ g,g=gof x:=⟨_,rfl⟩
 have hah:ahd x s=(List.range (s.size+1)).map (accB s g):=by rw [hg];rfl
 rw [hah]
 rw [← hg] at hn hca ⊢
 have hS:(plc g).Sets.length=g.n:=hca.sets
 have hF:(plc g).Follow.length=g.n:=z8 _ _
 refine ⟨fun out next t=>∃ m:Nat,t=m∧m≤s.size∧out=(List.range (m+1)).map (accB s g)∧∃ q:Nat→Bool,(∀ p,p < g.n→(q p=true↔Rch s.size (bt s) g m p))∧next=lst g.n q 0,
  fun _ _ t=>(s.size - t).toNat,⟨0,rfl,by omega,?_,g.first,fun p _=>Iff.rfl,rfl⟩,?_⟩
 ·show [g.null]=[accB s g 0]
  have:g.null=accB s g 0:=by rw [Bool.eq_iff_iff,zcc,acc_zero]
  rw [this]
 rintro out next t ⟨m,rfl,hm,rfl,q,hq,hnext⟩
 refine ⟨fun ht=>?_,fun ht=>?_⟩
 rotate_left
 ·have ht:m=s.size:=by have:=of_decide_eq_false ht;omega
  subst ht;rfl
 have ht:m < s.size:=by have:=of_decide_eq_true ht;omega
 have hll:=zan g.n q 0
 rw [← hnext] at hll
 have hel:∀ (k:Nat) (hk:k < next.length),∃ p,p < g.n∧next[k]=((p:Nat):Int)∧Rch s.size (bt s) g m p:=by
  intro k hk
  have hm1:∀ v,v∈next→v∈lst g.n q 0:=fun v hv=>by rw [← hnext];exact hv
  obtain ⟨p,hp,hq2,e⟩:=zax.1 (hm1 _ (List.getElem_mem hk))
  exact ⟨p,hp,e,(hq p hp).1 hq2⟩
 have hmem:∀ p,p < g.n→(((p:Nat):Int)∈next↔Rch s.size (bt s) g m p):=by
  intro p hp
  rw [hnext,zax,← hq p hp]
  constructor
  ·rintro ⟨i,hi,hqi,e⟩
   obtain rfl:i=p:=by omega
   exact hqi
  ·exact fun h=>⟨p,hp,h,by omega⟩
 have hw2:w64 ((m:Int)+1)=((m+1:Nat):Int):=zO (by omega) (by omega)
 refine ⟨fun is thn k=>∃ c:Nat,k=c∧c≤next.length∧(is=true↔∃ p:Nat,((p:Nat):Int)∈next.take c∧hdS s.size (bt s) g.sets p m∧g.last p=true)∧
  ∃ w:Nat→Bool,thn=lst g.n w 0∧∀ r,r < g.n→(w r=true↔∃ p:Nat,((p:Nat):Int)∈next.take c∧hdS s.size (bt s) g.sets p m∧g.follow p r=true),
  fun _ _ k=>(next.length - k).toNat,⟨0,rfl,by omega,by simp,fun _=>false,(lst_none _ _).symm,fun r _=>by simp⟩,?_⟩
 rintro is thn k ⟨c,rfl,hc,hi,w,rfl,hw⟩
 refine ⟨fun hk=>?_,fun hk=>?_⟩
 ·have hk:c < next.length:=by have:=of_decide_eq_true hk;omega
  have hw3:w64 ((c:Int)+1)=((c+1:Nat):Int):=zO (by omega) (by omega)
  obtain ⟨p,hp,ep,hR⟩:=hel c hk
  have hpS:p < (plc g).Sets.length:=by rw [hS];exact hp
  have hdp:hdS s.size (bt s) g.sets p m↔setHas (plc g).Sets[p] (bt s m)=true:=by
   constructor
   ·rintro ⟨_,st,h1,h2⟩
    rw [List.getElem?_eq_getElem (show p < g.sets.length from hpS)] at h1
    cases h1;exact h2
   ·exact fun h=>⟨ht,_,List.getElem?_eq_getElem (show p < g.sets.length from hpS),h⟩
  have hgs:gd (plc g).Sets ((p:Nat):Int)=(plc g).Sets[p]:=zad hpS
  have hgf:gd (plc g).Follow ((p:Nat):Int)=lst g.n (g.follow p) 0:=(zad (l:=flw g 0) (by rw [z8];exact hp)).trans (zcz g 0 hp)
  rw [zad hk,ep,hw3,hgs,hgf,hS,hF]
  have his:∀ b:Bool,(b=true↔is=true∨(hdS s.size (bt s) g.sets p m∧g.last p=true))→(b=true↔∃ p:Nat,((p:Nat):Int)∈next.take (c+1)∧hdS s.size (bt s) g.sets p m∧g.last p=true):=by
   intro b hb
   rw [hb,hi]
   constructor
   ·rintro (⟨p',h1,h2⟩ | h)
    ·exact ⟨p',(zV hk _).2 (.inl h1),h2⟩
    ·exact ⟨p,(zV hk _).2 (.inr ep.symm),h⟩
   ·rintro ⟨p',h1,h2⟩
    rcases (zV hk _).1 h1 with h1 | h1
    ·exact .inl ⟨p',h1,h2⟩
    ·rw [ep] at h1
     obtain rfl:p'=p:=by omega
     exact .inr h2
  refine ⟨fun is' thn'=>(is'=true↔∃ p:Nat,((p:Nat):Int)∈next.take (c+1)∧hdS s.size (bt s) g.sets p m∧g.last p=true)∧
   ∃ w:Nat→Bool,thn'=lst g.n w 0∧∀ r,r < g.n→(w r=true↔∃ p:Nat,((p:Nat):Int)∈next.take (c+1)∧hdS s.size (bt s) g.sets p m∧g.follow p r=true),
   fun is' thn' h=>⟨⟨c+1,rfl,by omega,h.1,h.2⟩,by first | omega | (dsimp only;omega)⟩,by omega,by omega,by omega,by omega,by omega,by omega,_,has_ok _ _,fun hh=>?_,fun hh=>?_⟩
  ·have hd:¬ hdS s.size (bt s) g.sets p m:=fun h=>by
    have hn3:(!setHas (plc g).Sets[p] (bt s m))=true:=hh
    have h2:setHas (plc g).Sets[p] (bt s m)=false:=by simpa using hn3
    rw [hdp.1 h] at h2;cases h2
   refine ⟨his _ (by simp [hd]),w,rfl,fun r hr=>?_⟩
   rw [hw r hr]
   constructor
   ·rintro ⟨p',h1,h2,h3⟩;exact ⟨p',(zV hk _).2 (.inl h1),h2,h3⟩
   ·rintro ⟨p',h1,h2,h3⟩
    rcases (zV hk _).1 h1 with h1 | h1
    ·exact ⟨p',h1,h2,h3⟩
    ·rw [ep] at h1
     obtain rfl:p'=p:=by omega
     exact absurd h2 hd
  ·have hn3:(!setHas (plc g).Sets[p] (bt s m))=false:=hh
   have hd:=hdp.2 (show setHas (plc g).Sets[p] (bt s m)=true by simpa using hn3)
   have hLL:=zan g.n g.last 0
   refine ⟨by omega,by omega,by omega,by omega,_,zft _ _ ?_ ?_,?_⟩
   ·have:=zan g.n w 0;omega
   ·have:=zan g.n (g.follow p) 0;omega
   obtain ⟨L,hL⟩:∃ L,L=lst g.n g.last 0:=⟨_,rfl⟩
   rw [show (plc g).Last=L from hL.symm]
   rw [← hL] at hLL
   refine ⟨fun is3 j=>∃ d:Nat,j=d∧d≤L.length∧(is3=true↔is=true∨∃ u,u∈L.take d∧u=(p:Int)),fun _ j=>(L.length - j).toNat,⟨0,rfl,by omega,by simp⟩,?_⟩
   rintro is3 j ⟨d,rfl,hd2,hi3⟩
   refine ⟨fun hj=>?_,fun hj=>?_⟩
   ·have hj:d < L.length:=by have:=of_decide_eq_true hj;omega
    have hw5:w64 ((d:Int)+1)=((d+1:Nat):Int):=zO (by omega) (by omega)
    rw [hw5,zad hj]
    refine ⟨fun _=>by omega,fun _=>by omega,fun _=>by omega,fun _=>by omega,⟨d+1,rfl,by omega,?_⟩,by first | omega | (dsimp only;omega)⟩
    rw [Bool.or_eq_true,hi3,beq_iff_eq]
    constructor
    ·rintro ((h | ⟨u,h1,h2⟩) | h)
     ·exact .inl h
     ·exact .inr ⟨u,(zV hj _).2 (.inl h1),h2⟩
     ·exact .inr ⟨_,(zV hj _).2 (.inr rfl),h⟩
    ·rintro (h | ⟨u,h1,h2⟩)
     ·exact .inl (.inl h)
     ·rcases (zV hj _).1 h1 with h1 | h1
      ·exact .inl (.inr ⟨u,h1,h2⟩)
      ·exact .inr (by rw [← h1];exact h2)
   ·have hj:d=L.length:=by have:=of_decide_eq_false hj;omega
    subst hj
    rw [List.take_of_length_le (Nat.le_refl _)] at hi3
    refine ⟨his _ ?_,fun r=>w r || g.follow p r,lst_add fun i hi=>by rw [Bool.or_eq_true],fun r hr=>?_⟩
    ·rw [hi3]
     constructor
     ·rintro (h | ⟨u,h1,h2⟩)
      ·exact .inl h
      ·rw [hL] at h1
       obtain ⟨i,_,h3,h4⟩:=zax.1 h1
       obtain rfl:i=p:=by omega
       exact .inr ⟨hd,h3⟩
     ·rintro (h | ⟨_,h⟩)
      ·exact .inl h
      ·exact .inr ⟨(p:Int),by rw [hL];exact zax.2 ⟨p,hp,h,by omega⟩,rfl⟩
    ·rw [Bool.or_eq_true,hw r hr]
     constructor
     ·rintro (⟨p',h1,h2,h3⟩ | h)
      ·exact ⟨p',(zV hk _).2 (.inl h1),h2,h3⟩
      ·exact ⟨p,(zV hk _).2 (.inr ep.symm),hd,h⟩
     ·rintro ⟨p',h1,h2,h3⟩
      rcases (zV hk _).1 h1 with h1 | h1
      ·exact .inl ⟨p',h1,h2,h3⟩
      ·rw [ep] at h1
       obtain rfl:p'=p:=by omega
       exact .inr h3
 ·have hk:c=next.length:=by have:=of_decide_eq_false hk;omega
  subst hk
  rw [List.take_of_length_le (Nat.le_refl _)] at hi hw
  have hlt:∀ p:Nat,hdS s.size (bt s) g.sets p m→p < g.n:=fun p h=>by rw [← hca.sets];exact zh9 h
  have hacc:is=accB s g (m+1):=by
   rw [Bool.eq_iff_iff,hi,zcc,rch_last]
   constructor
   ·rintro ⟨p,h1,h2,h3⟩;exact ⟨p,(hmem p (hlt p h2)).1 h1,h2,h3⟩
   ·rintro ⟨p,h1,h2,h3⟩;exact ⟨p,(hmem p (hlt p h2)).2 h1,h2,h3⟩
  rw [hw2]
  refine ⟨by simp;omega,⟨m+1,rfl,by omega,?_,w,fun r hr=>?_,rfl⟩,by first | omega | (dsimp only;omega)⟩
  ·rw [hacc,List.range_succ (n:=m+1),List.map_append];rfl
  ·rw [hw r hr]
   constructor
   ·rintro ⟨p,h1,h2,h3⟩;exact ⟨p,(hmem p (hlt p h2)).1 h1,h2,h3⟩
   ·rintro ⟨p,h1,h2,h3⟩;exact ⟨p,(hmem p (hlt p h2)).2 h1,h2,h3⟩
theorem same15_ok (x y:za) (s:ByteArray) (hx:Wf x) (hy:Wf y) (hs:s.size≤10000):zaB x y s true:=by
 have hRs:Wf (if rightB x=true then rev x else zRx):=by
  split
  ·exact rev_wf x hx
  ·exact zdC _ _ _ _
 have hL:(if rightB x=true∧s.size≤10000 then ahd x s else []).length < 1000000:=by
  split
  ·rw [ahd_len];omega
  ·simp
 refine zfF x y s _ ⟨_,_,zgg x hx,_,_,zgB x hx,true,same3Refl_ok _ hRs,fun _=>⟨fun _=>⟨_,Ahead_ok x s hx (by omega),_,refAhead_ok x s hx hs,true,zgA _ hL,fun _=>⟨_,Split_ok _ s hx hy (by omega),_,refSplit_ok _ s hx hy hs,by simp⟩,fun h=>(by cases h)⟩,fun h=>(by simp at h)⟩,fun h=>(by cases h)⟩
theorem splitMade_ok (l m t:List Int) (hb:Bytes l) (hb1:Bytes m) (hb2:Bytes t):zbw l m t true:=by
 obtain ⟨x,hx,hf⟩:=made_ok l hb
 obtain ⟨y,hy,hg⟩:=made_ok m hb1
 obtain ⟨s,hs,hsz⟩:=text_ok t hb2
 exact zdu l m t _ ⟨x,hx,y,hy,s,hs,true,awake15_ok,fun _=>⟨true,same15_ok x y s hf.wf hg.wf (by omega),fun _=>⟨true,same15_ok x _ s hf.wf (zdC _ _ _ _) (by omega),rfl⟩,fun h=>(by cases h)⟩,fun h=>(by cases h)⟩
end Go.Ev.Pl
