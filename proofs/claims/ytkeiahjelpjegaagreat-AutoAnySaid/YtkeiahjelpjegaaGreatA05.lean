import Derived.Test.YtkeiahjelpjegaaGreatA04
import Derived.ChangeArms
import Derived.Deep.Slices
set_option linter.unusedSimpArgs false
set_option linter.unusedVariables false
namespace Go.Ev.Pl
open Go Go.Ev
theorem zeY (n:Nat) (p:Nat→Bool) (off d:Nat) (h:n+off+d < 1000000):zap (lst n p off) d (lst n p (off+d)):=by
 have hl:=zaj n p off
 have he:lst n p (off+d)=(lst n p off).map (·+(d:Int)):=by
  simp only [lst,List.map_map]
  refine List.map_congr_left fun i _=>?_
  simp only [Function.comp];omega
 rw [he]
 refine zeE _ _ _ ⟨fun o t=>∃ i:Nat,t=i∧i≤(lst n p off).length∧o=((lst n p off).take i).map (·+(d:Int)),fun o t=>((lst n p off).length - t).toNat,⟨0,rfl,by omega,rfl⟩,?_⟩
 rintro o t ⟨i,rfl,hi,rfl⟩
 refine ⟨fun ht=>?_,fun ht=>?_⟩
 ·have ht:i < (lst n p off).length:=by simpa using ht
  have hm:=za4.1 (List.getElem_mem ht)
  obtain ⟨j,hj,_,hv⟩:=hm
  have hw:w64 (gd (lst n p off) (i:Int)+d)=(lst n p off)[i]+d:=by rw [zW ht];exact zQ (by omega) (by omega)
  have hw2:w64 ((i:Int)+1)=((i+1:Nat):Int):=zQ (by omega) (by omega)
  rw [hw,hw2]
  refine ⟨by omega,by omega,by simp;omega,⟨i+1,rfl,by omega,?_⟩,by first | omega | (dsimp only;omega)⟩
  rw [List.take_succ_eq_append_getElem ht,List.map_append];rfl
 ·have:i=(lst n p off).length:=by have:¬ i < (lst n p off).length:=by simpa using ht
                                  omega
  subst this
  rw [List.take_of_length_le (Nat.le_refl _)]
theorem zig:∀ a,addL a []=a
 | []=>by rw [addL]
 | x :: a=>by rw [addL];simp
theorem zhE {a b:List Int} {i k:Nat} (hk:k=b.length) (hi:i < a.length):addL (a.drop i) (b.drop k)=a[i] :: addL (a.drop (i+1)) (b.drop k):=by
 subst hk
 rw [List.drop_length,zig,zig,List.drop_eq_getElem_cons hi]
theorem addL_drop_l {a b:List Int} {i k:Nat} (hi:i=a.length) (hk:k < b.length):addL (a.drop i) (b.drop k)=b[k] :: addL (a.drop i) (b.drop (k+1)):=by
 subst hi
 rw [List.drop_length,addL,addL,List.drop_eq_getElem_cons hk]
theorem zhF {a b:List Int} {i k:Nat} (hi:i < a.length) (hk:k < b.length):addL (a.drop i) (b.drop k)=if a[i] < b[k] then a[i] :: addL (a.drop (i+1)) (b.drop k) else if b[k] < a[i] then b[k] :: addL (a.drop i) (b.drop (k+1)) else a[i] :: addL (a.drop (i+1)) (b.drop (k+1)):=by
 conv=>lhs;rw [List.drop_eq_getElem_cons hi,List.drop_eq_getElem_cons hk,addL]
 rw [← List.drop_eq_getElem_cons hi,← List.drop_eq_getElem_cons hk]
theorem zff (a b:List Int) (ha:a.length < 10000000) (hb:b.length < 10000000):zC a b (addL a b):=by
 refine zfP a b _ ⟨fun o s t=>∃ i k:Nat,s=i∧t=k∧i≤a.length∧k≤b.length∧o.length≤i+k∧o++addL (a.drop i) (b.drop k)=addL a b,fun o s t=>(a.length - s).toNat+(b.length - t).toNat,⟨0,0,rfl,rfl,by omega,by omega,by simp,rfl⟩,?_⟩
 rintro o s t ⟨i,k,rfl,rfl,hi,hk,hol,ho⟩
 have hwi:w64 ((i:Int)+1)=((i+1:Nat):Int):=zQ (by omega) (by omega)
 have hwk:w64 ((k:Int)+1)=((k+1:Nat):Int):=zQ (by omega) (by omega)
 simp only [List.length_map]
 refine ⟨fun ht=>?_,fun ht=>?_⟩
 ·simp only [Bool.or_eq_true,decide_eq_true_eq] at ht
  have hkb:((k:Int) == (b.length:Int))=decide (k=b.length):=by show decide _=decide _;simp only [decide_eq_decide];omega
  have hib:((i:Int) == (a.length:Int))=decide (i=a.length):=by show decide _=decide _;simp only [decide_eq_decide];omega
  have hia:decide ((i:Int) < (a.length:Int))=decide (i < a.length):=by simp only [decide_eq_decide];omega
  rw [hkb,hib,hia]
  refine ⟨fun h1 h2=>by omega,fun h1 h2=>by have:=of_decide_eq_true h2;omega,fun h1 h2=>by omega,fun h1 h2=>by have:=of_decide_eq_false h1;omega,fun h=>?_,fun h=>⟨fun h1=>by omega,fun h1=>?_,fun h1=>by omega,fun h1=>?_,fun h2=>?_,fun h2=>?_⟩⟩
  ·simp only [Bool.or_eq_true,Bool.and_eq_true,decide_eq_true_eq] at h
   have hil:i < a.length:=by omega
   rw [zW hil,hwi]
   refine ⟨by omega,by omega,by omega,⟨i+1,k,rfl,rfl,by omega,hk,by simp;omega,?_⟩,by first | omega | (dsimp only;omega)⟩
   rw [← ho,List.append_assoc]
   congr 1
   rcases h with h | ⟨_,h⟩
   ·rw [zhE h hil];rfl
   ·by_cases hkl:k < b.length
    ·rw [zW hil,zW hkl] at h
     rw [zhF hil hkl,if_pos h];rfl
    ·rw [zhE (by omega) hil];rfl
  ·simp only [Bool.or_eq_false_iff,decide_eq_false_iff_not] at h;omega
  ·have:=of_decide_eq_false h1;omega
  ·simp only [Bool.or_eq_false_iff,decide_eq_false_iff_not] at h
   have hkl:k < b.length:=by omega
   rw [zW hkl,hwk]
   refine ⟨by omega,by omega,by omega,⟨i,k+1,rfl,rfl,hi,by omega,by simp;omega,?_⟩,by first | omega | (dsimp only;omega)⟩
   rw [← ho,List.append_assoc]
   congr 1
   simp only [Bool.or_eq_true,decide_eq_true_eq] at h2
   by_cases hia2:i=a.length
   ·rw [addL_drop_l hia2 hkl];rfl
   ·have hil:i < a.length:=by omega
    have h2:b[k] < a[i]:=by
     rcases h2 with h2 | h2
     ·exact absurd h2 hia2
     ·rw [zW hkl,zW hil] at h2;exact h2
    rw [zhF hil hkl,if_neg (by omega),if_pos h2];rfl
  ·simp only [Bool.or_eq_false_iff,decide_eq_false_iff_not,Bool.and_eq_false_iff] at h h2
   have hkl:k < b.length:=by omega
   have hil:i < a.length:=by omega
   rw [zW hkl,zW hil] at h h2
   rw [zW hil,hwi,hwk]
   refine ⟨by omega,by omega,by omega,⟨i+1,k+1,rfl,rfl,by omega,by omega,by simp;omega,?_⟩,by first | omega | (dsimp only;omega)⟩
   rw [← ho,List.append_assoc]
   congr 1
   rw [zhF hil hkl,if_neg (by rcases h.2 with h | h<;>omega),if_neg h2.2];rfl
 ·simp only [Bool.or_eq_false_iff,decide_eq_false_iff_not] at ht
  have e1:i=a.length:=by omega
  have e2:k=b.length:=by omega
  rw [← ho,e1,e2,List.drop_length,List.drop_length,addL,List.append_nil]
theorem flw_mem {g:GA} {off i:Nat} (h:i < g.n):gd (flw g off) (i:Int)=lst g.n (g.follow i) off:=by rw [zW (by rw [zX];exact h),zbN _ _ h]
theorem both_ok (a b:GA) (ha:Canon a) (hb:Canon b) (hn:a.n+b.n < 1000) (nb:Bool) (f l:List Int):zat (plc a) { Sets:=b.sets,First:=f,Last:=l,Follow:=flw b 0,Null:=nb } ⟨a.sets++b.sets,[],[],flw a 0++flw b a.n,false⟩:=by
 have has:=ha.sets
 have hbs:=hb.sets
 refine zfk _ _ _ ⟨by show a.sets.length * 32≤_;omega,by show (a.sets.length+b.sets.length) * 32≤_;omega,fun o t=>∃ i:Nat,t=i∧i≤a.n∧o=(flw a 0).take i,fun o t=>(a.n - t).toNat,⟨0,rfl,by omega,rfl⟩,?_⟩
 rintro o t ⟨i,rfl,hi,rfl⟩
 have hfa:(plc a).Follow=flw a 0:=rfl
 simp only [hfa]
 refine ⟨fun ht=>?_,fun ht=>?_⟩
 ·have ht:i < a.n:=by rw [zX] at ht;simpa using ht
  have hw2:w64 ((i:Int)+1)=((i+1:Nat):Int):=zQ (by omega) (by omega)
  have hfl:=zX a 0
  rw [hw2,zW (by rw [zX];exact ht)]
  refine ⟨by omega,by omega,by simp [zX];omega,⟨i+1,rfl,by omega,?_⟩,by first | omega | (dsimp only;omega)⟩
  rw [List.take_succ_eq_append_getElem (by rw [zX];exact ht)]
 ·have:i=a.n:=by rw [zX] at ht;have:¬ i < a.n:=by simpa using ht
                 omega
  subst this
  rw [List.take_of_length_le (by rw [zX];exact Nat.le_refl _)]
  refine ⟨fun o t=>∃ i:Nat,t=i∧i≤b.n∧o=flw a 0++(flw b a.n).take i,fun o t=>(b.n - t).toNat,⟨0,rfl,by omega,by simp⟩,?_⟩
  rintro o t ⟨i,rfl,hi,rfl⟩
  simp only [zX]
  refine ⟨fun ht=>?_,fun ht=>?_⟩
  ·have ht:i < b.n:=by simpa using ht
   have hw2:w64 ((i:Int)+1)=((i+1:Nat):Int):=zQ (by omega) (by omega)
   have hmv:=zeY b.n (b.follow i) 0 a.n (by omega)
   rw [Nat.zero_add] at hmv
   rw [flw_mem ht,hw2]
   have:((plc a).Sets.length:Int)=a.n:=by show (a.sets.length:Int)=_;rw [has]
   rw [this]
   refine ⟨by omega,by omega,_,hmv,by simp [zX];omega,⟨i+1,rfl,by omega,?_⟩,by first | omega | (dsimp only;omega)⟩
   rw [List.take_succ_eq_append_getElem (by rw [zX];exact ht),zbN _ _ ht,List.append_assoc]
  ·have:i=b.n:=by have:¬ i < b.n:=by simpa using ht
                  omega
   subst this
   rw [List.take_of_length_le (by rw [zX];exact Nat.le_refl _)];rfl
theorem leadA_ok {fr to:List Int} {F:List (List Int)} (hfr:SS fr) (hto:SS to) (hF:∀ f∈F,SS f) (hin:∀ x∈fr,0≤x∧x < F.length) (hsm:∀ f∈F,f.length < 1000000) (hts:to.length < 1000000) (hfs:fr.length < 1000000)
 {Q:List (List Int)→Prop} (hQ:Q (leadF F fr to)) :
 ∃ (Inv:List (List Int)→Int→Prop) (mu:List (List Int)→Int→Nat),Inv F 0∧∀ (o:List (List Int)) (i:Int),Inv o i→
   (decide (i < (fr.length:Int))=true→0≤i∧i < (fr.length:Int)∧0≤i∧i < (fr.length:Int)∧0≤gd fr i∧(Int.toNat (gd fr i) < o.length)∧gd fr i < (o.length:Int)∧
     (∃ r,zC (gd o (gd fr i)) to r∧0≤gd fr i∧(Int.toNat (gd fr i) < o.length)∧gd fr i < (o.length:Int)∧(Inv (List.set o (Int.toNat (gd fr i)) r) (w64 (i+1))∧mu (List.set o (Int.toNat (gd fr i)) r) (w64 (i+1)) < mu o i)))∧
   (decide (i < (fr.length:Int))=false→Q o):=by
 refine ⟨fun o t=>∃ i:Nat,t=i∧i≤fr.length∧o=leadF F (fr.take i) to,fun o t=>(fr.length - t).toNat,⟨0,rfl,by omega,by simp [leadF];exact (List.ext_getElem (by simp) (fun j h1 h2=>by simp))⟩,?_⟩
 rintro o t ⟨i,rfl,hi,rfl⟩
 refine ⟨fun ht=>?_,fun ht=>?_⟩
 ·have ht:i < fr.length:=by simpa using ht
  have hg:gd fr (i:Int)=fr[i]:=zW ht
  rw [hg]
  obtain ⟨q0,q1⟩:=hin _ (List.getElem_mem ht)
  obtain ⟨e,he⟩:∃ e:Nat,fr[i]=e:=⟨fr[i].toNat,by omega⟩
  rw [he] at q1 ⊢
  have he2:e < F.length:=by omega
  have hl:(leadF F (fr.take i) to).length=F.length:=zaz _ _ _
  have hnot:¬ ((e:Int)∈fr.take i):=by
   intro hm
   obtain ⟨k,hk,hk2⟩:=List.mem_iff_getElem.1 hm
   simp only [List.length_take] at hk
   rw [List.getElem_take] at hk2
   have:=List.pairwise_iff_getElem.1 hfr k i (by omega) ht (by omega)
   omega
  have hge:gd (leadF F (fr.take i) to) (e:Int)=F[e]:=by
   rw [zW (by rw [hl];exact he2),zaV _ _ _ he2,if_neg hnot]
  have hw2:w64 ((i:Int)+1)=((i+1:Nat):Int):=zQ (by omega) (by omega)
  have hFe:=hF _ (List.getElem_mem he2)
  refine ⟨by omega,by omega,by omega,by omega,by omega,by rw [hl];omega,by rw [hl];omega,addL F[e] to,?_,by omega,by rw [hl];omega,by rw [hl];omega,?_⟩
  ·rw [hge];exact zff _ _ (by have:=hsm _ (List.getElem_mem he2);omega) (by omega)
  ·rw [hw2,← zdG hFe hto]
   refine ⟨⟨i+1,rfl,by omega,?_⟩,by first | omega | (dsimp only;omega)⟩
   show List.set _ e _=_
   refine set_eq (by rw [zaz,zaz]) (fun j hj hne=>?_) (fun hj=>?_)
   ·rw [hl] at hj
    rw [zaV _ _ _ hj,zaV _ _ _ hj,List.take_succ_eq_append_getElem ht,he]
    have:((j:Int)∈fr.take i++[(e:Int)])↔(j:Int)∈fr.take i:=by
     rw [List.mem_append,List.mem_singleton]
     constructor
     ·rintro (h | h)
      ·exact h
      ·exact absurd (by omega) hne
     ·exact .inl
    simp only [this]
   ·rw [zaV _ _ _ he2,List.take_succ_eq_append_getElem ht,he,if_pos (by simp)]
 ·have:i=fr.length:=by have:¬ i < fr.length:=by simpa using ht
                       omega
  subst this
  rw [List.take_of_length_le (Nat.le_refl _)];exact hQ
theorem flw_ss (g:GA) (off:Nat):∀ f∈flw g off,SS f:=by
 intro f hf
 simp only [flw,List.mem_map] at hf
 obtain ⟨i,_,rfl⟩:=hf
 exact zbh _ _ _
theorem zdB (a b:GA) (ha:Canon a) (hb:Canon b) (hn:a.n+b.n < 1000):zT (plc a) (plc b) (plc (gCat a b)):=by
 have has:=ha.sets
 have l1:=zaj a.n a.first 0
 have l2:=zaj a.n a.last 0
 have l3:=zaj b.n b.first a.n
 have l4:=zaj b.n b.last a.n
 have m1:=zeY b.n b.first 0 a.n (by omega)
 have m2:=zeY b.n b.last 0 a.n (by omega)
 rw [Nat.zero_add] at m1 m2
 have hsz:((plc a).Sets.length:Int)=a.n:=by show (a.sets.length:Int)=_;rw [has]
 refine zfN _ _ _ ⟨_,both_ok a b ha hb hn b.null _ _,_,by rw [hsz];exact m1,_,by rw [hsz];exact m2,?_⟩
 have hlead:=zgu [] a b
 simp only [List.nil_append,List.length_nil,Nat.zero_add] at hlead
 refine leadA_ok (fr:=lst a.n a.last 0) (to:=lst b.n b.first a.n) (F:=flw a 0++flw b a.n) (zbh _ _ _) (zbh _ _ _) (fun f hf=>?_) (fun x hx=>?_) (fun f hf=>?_) (by omega) (by omega) ?_
 ·rcases List.mem_append.1 hf with hf | hf
  ·exact flw_ss _ _ f hf
  ·exact flw_ss _ _ f hf
 ·obtain ⟨i,hi,_,rfl⟩:=za4.1 hx
  simp only [List.length_append,zX];omega
 ·rcases List.mem_append.1 hf with hf | hf
  ·simp only [flw,List.mem_map] at hf
   obtain ⟨i,_,rfl⟩:=hf
   have:=zaj a.n (a.follow i) 0;omega
  ·simp only [flw,List.mem_map] at hf
   obtain ⟨i,_,rfl⟩:=hf
   have:=zaj b.n (b.follow i) a.n;omega
 ·rw [hlead]
  have c1:=zhw a b 0
  have c2:=zfd a b 0
  rw [Nat.zero_add] at c1 c2
  refine ⟨fun l=>l=lst (a.n+b.n) (gCat a b).first 0,?_,fun hnn=>⟨_,zff _ _ (by show (lst _ _ _).length < _;omega) (by omega),?_⟩,fun hnn=>?_⟩
  ·rintro l rfl
   refine ⟨fun l=>l=lst (a.n+b.n) (gCat a b).last 0,?_,fun hnn=>⟨_,zff _ _ (by show (lst _ _ _).length < _;omega) (by omega),?_⟩,fun hnn=>?_⟩
   ·rintro l rfl;rfl
   ·rw [if_pos (show b.null=true from hnn),zdG (zbh _ _ _) (zbh _ _ _)] at c2;exact c2
   ·rw [if_neg (by show ¬ (b.null=true);have:b.null=false:=hnn;simp [this])] at c2;exact c2
  ·rw [if_pos (show a.null=true from hnn),zdG (zbh _ _ _) (zbh _ _ _)] at c1;exact c1
  ·rw [if_neg (by show ¬ (a.null=true);have:a.null=false:=hnn;simp [this])] at c1;exact c1
theorem refAlt_ok (a b:GA) (ha:Canon a) (hb:Canon b) (hn:a.n+b.n < 1000):zbG (plc a) (plc b) (plc (gAlt a b)):=by
 have has:=ha.sets
 have l1:=zaj a.n a.first 0
 have l2:=zaj a.n a.last 0
 have l3:=zaj b.n b.first a.n
 have l4:=zaj b.n b.last a.n
 have m1:=zeY b.n b.first 0 a.n (by omega)
 have m2:=zeY b.n b.last 0 a.n (by omega)
 rw [Nat.zero_add] at m1 m2
 have hsz:((plc a).Sets.length:Int)=a.n:=by show (a.sets.length:Int)=_;rw [has]
 have c1:=alt_first a b 0
 have c2:=alt_last a b 0
 have c3:=flw_alt a b 0
 rw [Nat.zero_add] at c1 c2 c3
 rw [zdG (zbh _ _ _) (zbh _ _ _)] at c1 c2
 refine zfO _ _ _ ⟨_,both_ok a b ha hb hn b.null _ _,_,by rw [hsz];exact m1,_,zff _ _ (by show (lst _ _ _).length < _;omega) (by omega),_,by rw [hsz];exact m2,_,zff _ _ (by show (lst _ _ _).length < _;omega) (by omega),?_⟩
 show plc (gAlt a b)=⟨_,addL (lst a.n a.first 0) (lst b.n b.first a.n),addL (lst a.n a.last 0) (lst b.n b.last a.n),_,_⟩
 rw [c1,c2]
 show _=(⟨a.sets++b.sets,_,_,flw a 0++flw b a.n,a.null || b.null⟩:za)
 rw [c3];rfl
theorem refAgain_ok (a:GA) (ha:Canon a) (hn:a.n < 1000):zbp (plc a) (plc (gAgain a)):=by
 have l1:=zaj a.n a.first 0
 have l2:=zaj a.n a.last 0
 have hb:=both_ok a gNone ha zd1 (by show a.n+0 < 1000;omega) false [] []
 have e1:a.sets++gNone.sets=a.sets:=List.append_nil _
 have e2:flw a 0++flw gNone a.n=flw a 0:=List.append_nil _
 rw [e1,e2] at hb
 have hlead:=zh3 [] a
 simp only [List.nil_append,List.length_nil] at hlead
 refine zeH _ _ ⟨_,hb,?_⟩
 refine leadA_ok (fr:=lst a.n a.last 0) (to:=lst a.n a.first 0) (F:=flw a 0) (zbh _ _ _) (zbh _ _ _) (flw_ss _ _) (fun x hx=>?_) (fun f hf=>?_) (by omega) (by omega) ?_
 ·obtain ⟨i,hi,_,rfl⟩:=za4.1 hx
  simp only [zX];omega
 ·simp only [flw,List.mem_map] at hf
  obtain ⟨i,_,rfl⟩:=hf
  have:=zaj a.n (a.follow i) 0;omega
 ·rw [hlead];rfl
theorem zgQ (a:GA):zae (plc a) (plc (gMaybe a)):=zeF _ _ rfl
end Go.Ev.Pl
namespace Go.Ev.Pl
open Go Go.Ev
theorem eta_pl (p:za):(⟨p.Sets,p.First,p.Last,p.Follow,p.Null⟩:za)=p:=rfl
theorem empty_ok:zaL (plc gEmpty):=zeG _ rfl
theorem zhK {a:GA} (h:Canon a) (k:Nat) {z:GA} (hz:Canon z):Canon (iter (gCat a) k z):=zb9 (fun b hb=>zbI h hb) k hz
theorem refOf_ok:∀ x,Wf x→Rgt x→sizeN x≤200→zaE x (plc (gof x)):=by
 refine rxInd fun x ih hw hr hs=>?_
 obtain ⟨hl,hkw⟩:=(wf_eq x).1 hw
 obtain ⟨ho,hk⟩:=zfy hr
 have hgn:=gof_n x hr
 refine zgl x _ ⟨fun h=>?_,fun h2=>⟨fun h=>?_,fun h3=>⟨fun h=>?_,fun h4=>⟨fun h=>?_,fun h5=>?_⟩⟩⟩⟩
 ·have h:x.Kind=2:=by simpa using h
  have hg:gof x=gByte x.Set:=by rw [zcT,if_pos h]
  rw [hg];rfl
 ·have h:x.Kind=3:=by simpa using h
  have hg:gof x=x.Kids.foldl (fun o y=>gCat o (gof y)) gEmpty:=by rw [zcT];simp [h]
  refine ⟨_,empty_ok,fun s f a b c t=>∃ i:Nat,t=i∧i≤x.Kids.length∧(⟨s,f,a,b,c⟩:za)=plc ((x.Kids.take i).foldl (fun o y=>gCat o (gof y)) gEmpty),
   fun _ _ _ _ _ t=>(x.Kids.length - t).toNat,⟨0,rfl,by omega,rfl⟩,?_⟩
  rintro s f a b c t ⟨i,rfl,hi,hp⟩
  refine ⟨fun ht=>?_,fun ht=>?_⟩
  ·have ht:i < x.Kids.length:=by simpa using ht
   have hm:=List.getElem_mem ht
   obtain ⟨o,ho'⟩:∃ o,o=(x.Kids.take i).foldl (fun o y=>gCat o (gof y)) gEmpty:=⟨_,rfl⟩
   have hn:=pre_n (f:=gCat) (fun _ _=>rfl) (z:=gEmpty) rfl ht
   rw [← hg,← ho'] at hn
   have hsucc:=zaA (f:=fun o y=>gCat o (gof y)) (b:=gEmpty) ht
   rw [← ho'] at hsucc hp
   have hoc:Canon o:=by
    rw [ho']
    have:∀ (l:List zb) (z:GA),Canon z→Canon (l.foldl (fun o y=>gCat o (gof y)) z):=by
     intro l
     induction l with
     | nil=>intro z h;exact h
     | cons y r ih2=>intro z h;exact ih2 _ (zbI h (zaB y))
    exact this _ _ zbm
   have hkn:=gof_n _ (hk _ hm)
   have hw2:w64 ((i:Int)+1)=((i+1:Nat):Int):=zQ (by omega) (by omega)
   rw [zW ht,hp]
   refine ⟨by omega,by omega,_,ih _ hm (hkw _ hm) (hk _ hm) (by omega),_,zdB o (gof x.Kids[i]) hoc (zaB _) (by omega),?_⟩
   rw [hw2]
   exact ⟨⟨i+1,rfl,by omega,by rw [hsucc]⟩,by first | omega | (dsimp only;omega)⟩
  ·have:i=x.Kids.length:=by have:¬ i < x.Kids.length:=by simpa using ht
                            omega
   subst this
   rw [List.take_of_length_le (Nat.le_refl _),← hg] at hp
   exact hp.symm
 ·have h:x.Kind=4:=by simpa using h
  have hg:gof x=x.Kids.foldl (fun o y=>gAlt o (gof y)) gNone:=by rw [zcT];simp [h]
  have h2k:=own_kids ho (.inr h)
  have hm0:x.Kids[0]'(by omega)∈x.Kids:=List.getElem_mem _
  have hg0:List.getD x.Kids 0 default=x.Kids[0]'(by omega):=by simp [List.getD,show 0 < x.Kids.length by omega]
  have hn0:=pre_n (f:=gAlt) (fun _ _=>rfl) (z:=gNone) rfl (l:=x.Kids) (i:=0) (by omega)
  rw [← hg] at hn0
  have hkn0:=gof_n _ (hk _ hm0)
  refine ⟨by omega,_,by rw [hg0];exact ih _ hm0 (hkw _ hm0) (hk _ hm0) (by omega),fun s f a b c t=>∃ i:Nat,t=i∧1≤i∧i≤x.Kids.length∧(⟨s,f,a,b,c⟩:za)=plc ((x.Kids.take i).foldl (fun o y=>gAlt o (gof y)) gNone),
   fun _ _ _ _ _ t=>(x.Kids.length - t).toNat,⟨1,rfl,by omega,by omega,?_⟩,?_⟩
  ·rw [eta_pl,zaA (by omega)]
   show _=plc (gAlt gNone _)
   rw [alt_none_l]
  rintro s f a b c t ⟨i,rfl,hi1,hi,hp⟩
  refine ⟨fun ht=>?_,fun ht=>?_⟩
  ·have ht:i < x.Kids.length:=by simpa using ht
   have hm:=List.getElem_mem ht
   obtain ⟨o,ho'⟩:∃ o,o=(x.Kids.take i).foldl (fun o y=>gAlt o (gof y)) gNone:=⟨_,rfl⟩
   have hn:=pre_n (f:=gAlt) (fun _ _=>rfl) (z:=gNone) rfl ht
   rw [← hg,← ho'] at hn
   have hsucc:=zaA (f:=fun o y=>gAlt o (gof y)) (b:=gNone) ht
   rw [← ho'] at hsucc hp
   have hoc:Canon o:=by
    rw [ho']
    have:∀ (l:List zb) (z:GA),Canon z→Canon (l.foldl (fun o y=>gAlt o (gof y)) z):=by
     intro l
     induction l with
     | nil=>intro z h;exact h
     | cons y r ih2=>intro z h;exact ih2 _ (zhy h (zaB y))
    exact this _ _ zd1
   have hkn:=gof_n _ (hk _ hm)
   have hw2:w64 ((i:Int)+1)=((i+1:Nat):Int):=zQ (by omega) (by omega)
   rw [zW ht,hp]
   refine ⟨by omega,by omega,_,ih _ hm (hkw _ hm) (hk _ hm) (by omega),_,refAlt_ok o (gof x.Kids[i]) hoc (zaB _) (by omega),?_⟩
   rw [hw2]
   exact ⟨⟨i+1,rfl,by omega,by omega,by rw [hsucc]⟩,by first | omega | (dsimp only;omega)⟩
  ·have:i=x.Kids.length:=by have:¬ i < x.Kids.length:=by simpa using ht
                            omega
   subst this
   rw [List.take_of_length_le (Nat.le_refl _),← hg] at hp
   exact hp.symm
 ·have h:x.Kind=5:=by simpa using h
  obtain ⟨⟨k,hq⟩,h1,h2',h3'⟩:=zgU ho h
  have hkm:k∈x.Kids:=by rw [hq];simp
  have hgof:gof x=gRep (gof k) x.Lo x.Hi:=by rw [zcT,h,hq];simp
  have hn:(gof x).n=(max 1 (max x.Lo x.Hi)).toNat * (gof k).n:=by rw [hgof,rep_n _ h1 (by omega)]
  have hkn:=gof_n k (hk k hkm)
  have hkle:(gof k).n≤(gof x).n:=by
   rw [hn];exact Nat.le_mul_of_pos_left _ (by omega)
  have hkc:=zaB k
  have hkd:List.getD x.Kids 0 default=k:=by rw [hq];rfl
  rw [hkd]
  have hbound:∀ j:Nat,j≤(max 1 (max x.Lo x.Hi)).toNat→j * (gof k).n≤200:=fun j hj=>by
   have:=Nat.mul_le_mul_right (gof k).n hj
   omega
  refine ⟨by rw [hq];simp,_,ih k hkm (hkw k hkm) (hk k hkm) (by omega),_,empty_ok,fun hneg=>?_,fun hpos=>?_⟩
  ·have hneg:x.Hi < 0:=of_decide_eq_true hneg
   have hmx:max 1 (max x.Lo x.Hi)=max x.Lo 1:=by omega
   refine ⟨fun s f a b c t=>∃ i:Nat,t=i+1∧(i:Int)≤max x.Lo 1 - 1∧(⟨s,f,a,b,c⟩:za)=plc (leftp (gof k) i),fun _ _ _ _ _ t=>(x.Lo - t).toNat,⟨0,rfl,by omega,rfl⟩,?_⟩
   rintro s f a b c t ⟨i,rfl,hi,hp⟩
   have hln:(leftp (gof k) i).n=i * (gof k).n:=by
    have:=zg6 (f:=fun o=>gCat o (gof k)) (a:=gof k) (fun o=>by show o.n+(gof k).n=_;omega) i gEmpty
    rw [show leftp (gof k) i=iter (fun o=>gCat o (gof k)) i gEmpty from rfl,this];rfl
   have hlc:Canon (leftp (gof k) i):=zb9 (fun b hb=>zbI hb hkc) i zbm
   have hb1:=hbound (i+1) (by omega)
   rw [Nat.succ_mul] at hb1
   refine ⟨fun ht=>?_,fun ht=>?_⟩
   ·have ht:(i:Int)+1 < x.Lo:=of_decide_eq_true ht
    have hw2:w64 ((i:Int)+1+1)=((i+1:Nat):Int)+1:=(zQ (by omega) (by omega)).trans (by omega)
    rw [hp]
    refine ⟨_,zdB _ _ hlc hkc (by omega),?_⟩
    rw [hw2]
    exact ⟨⟨i+1,rfl,by omega,rfl⟩,by first | omega | (dsimp only;omega)⟩
   ·have ht:¬ (i:Int)+1 < x.Lo:=of_decide_eq_false ht
    have hii:i=(max x.Lo 1 - 1).toNat:=by omega
    have hfin:∀ z:GA,z=(if x.Lo=0 then gMaybe (gAgain (gof k)) else gAgain (gof k))→gCat (leftp (gof k) i) z=gof x:=by
     rintro z rfl
     rw [leftp_cat,hgof]
     unfold gRep
     rw [if_pos hneg,hii]
    refine ⟨_,refAgain_ok (gof k) hkc (by omega),fun s f a b c=>∃ z:GA,Canon z∧z.n=(gof k).n∧z=(if x.Lo=0 then gMaybe (gAgain (gof k)) else gAgain (gof k))∧(⟨s,f,a,b,c⟩:za)=plc z,?_,fun h0=>?_,fun h0=>?_⟩
    ·rintro s f a b c ⟨z,hzc,hzn,hz,hpz⟩
     rw [hp,hpz]
     exact ⟨_,zdB _ _ hlc hzc (by omega),by rw [hfin z hz]⟩
    ·have h0:x.Lo=0:=by simpa using h0
     exact ⟨_,zgQ _,gMaybe (gAgain (gof k)),zcE (zca hkc),rfl,by rw [if_pos h0],rfl⟩
    ·have h0:x.Lo≠0:=by simpa using h0
     exact ⟨gAgain (gof k),zca hkc,rfl,by rw [if_neg h0],rfl⟩
  ·have hpos:¬ x.Hi < 0:=of_decide_eq_false hpos
   have hmx:max 1 (max x.Lo x.Hi)=x.Hi:=by omega
   refine ⟨fun s f a b c t=>∃ i:Nat,t=x.Lo+i∧x.Lo+i≤x.Hi∧(⟨s,f,a,b,c⟩:za)=plc (iter (fun o=>gMaybe (gCat (gof k) o)) i gEmpty),fun _ _ _ _ _ t=>(x.Hi - t).toNat,⟨0,by simp,by omega,rfl⟩,?_⟩
   rintro s f a b c t ⟨i,rfl,hi,hp⟩
   have hin:=zg6 (f:=fun o=>gMaybe (gCat (gof k) o)) (a:=gof k) (fun _=>rfl) i gEmpty
   have hin:(iter (fun o=>gMaybe (gCat (gof k) o)) i gEmpty).n=i * (gof k).n:=hin
   have hic:Canon (iter (fun o=>gMaybe (gCat (gof k) o)) i gEmpty):=zb9 (fun b hb=>zcE (zbI hkc hb)) i zbm
   refine ⟨fun ht=>?_,fun ht=>?_⟩
   ·have ht:x.Lo+i < x.Hi:=of_decide_eq_true ht
    have hb1:=hbound (i+1) (by omega)
    rw [Nat.succ_mul] at hb1
    have hw2:w64 (x.Lo+(i:Int)+1)=x.Lo+((i+1:Nat):Int):=(zQ (by omega) (by omega)).trans (by omega)
    rw [hp]
    refine ⟨_,zdB _ _ hkc hic (by omega),_,zgQ _,?_⟩
    rw [hw2]
    exact ⟨⟨i+1,rfl,by omega,rfl⟩,by first | omega | (dsimp only;omega)⟩
   ·have ht:¬ x.Lo+i < x.Hi:=of_decide_eq_false ht
    have hii:i=(x.Hi - x.Lo).toNat:=by omega
    refine ⟨fun s f a b c t=>∃ j:Nat,t=j∧(j:Int)≤x.Lo∧(⟨s,f,a,b,c⟩:za)=plc (iter (gCat (gof k)) j (iter (fun o=>gMaybe (gCat (gof k) o)) i gEmpty)),fun _ _ _ _ _ t=>(x.Lo - t).toNat,⟨0,rfl,by omega,hp⟩,?_⟩
    rintro s f a b c t ⟨j,rfl,hj,hp⟩
    have hjn:=zg6 (f:=gCat (gof k)) (a:=gof k) (fun _=>rfl) j (iter (fun o=>gMaybe (gCat (gof k) o)) i gEmpty)
    rw [hin,← Nat.add_mul] at hjn
    have hjc:=zhK hkc j hic
    refine ⟨fun ht=>?_,fun ht=>?_⟩
    ·have ht:(j:Int) < x.Lo:=of_decide_eq_true ht
     have hb1:=hbound (j+i+1) (by omega)
     rw [Nat.succ_mul] at hb1
     have hw2:w64 ((j:Int)+1)=((j+1:Nat):Int):=zQ (by omega) (by omega)
     rw [hp]
     refine ⟨_,zdB _ _ hkc hjc (by omega),?_⟩
     rw [hw2]
     exact ⟨⟨j+1,rfl,by omega,rfl⟩,by first | omega | (dsimp only;omega)⟩
    ·have ht:¬ (j:Int) < x.Lo:=of_decide_eq_false ht
     rw [hp,hgof]
     unfold gRep
     rw [if_neg hpos,← hii,show j=x.Lo.toNat by omega]
 ·have h1:x.Kind=1:=by
   simp only [beq_eq_false_iff_ne,ne_eq] at h2 h3 h4 h5
   have:=zeT ho;omega
  have hg:gof x=gEmpty:=by rw [zcT];simp [h1]
  rw [hg]
  exact ⟨_,empty_ok,rfl⟩
theorem zgP (x:zb) (hw:Wf x):zbs x (if rightB x=true then plc (gof x) else noPl) (if rightB x=true then 0 else 1):=by
 refine zgm x _ _ ⟨_,zcO x hw,fun h=>?_,fun h=>?_⟩
 ·have h:rightB x=false:=by simpa using h
  rw [h];exact ⟨rfl,rfl⟩
 ·have h:rightB x=true:=by simpa using h
  obtain ⟨hr,hs⟩:=zc4 h
  exact ⟨_,refOf_ok x hw hr hs,by rw [if_pos h],by rw [if_pos h]⟩
theorem zet (a:List Int) (h:a.length < 1000000):zaS a a true:=by
 refine zfj a a _ ⟨fun h=>by simp at h,fun _=>⟨fun t=>∃ i:Nat,t=i∧i≤a.length,fun t=>(a.length - t).toNat,⟨0,rfl,by omega⟩,?_⟩⟩
 rintro t ⟨i,rfl,hi⟩
 refine ⟨fun ht=>?_,fun _=>rfl⟩
 have ht:i < a.length:=by simpa using ht
 have hw2:w64 ((i:Int)+1)=((i+1:Nat):Int):=zQ (by omega) (by omega)
 rw [hw2]
 exact ⟨by omega,by omega,by omega,by omega,fun h=>by simp at h,fun _=>⟨⟨i+1,rfl,by omega⟩,by first | omega | (dsimp only;omega)⟩⟩
theorem sameRefl_ok (p:za) (h1:p.Sets.length < 1000000) (h2:p.First.length < 1000000) (h3:p.Last.length < 1000000) (h4:p.Follow.length < 1000000) (h5:∀ f∈p.Follow,f.length < 1000000):zab p p true:=by
 refine zfl p p _ ?_
 refine ⟨fun h=>by simp at h,fun _=>?_⟩
 refine ⟨fun h=>by simp at h,fun _=>?_⟩
 refine ⟨fun h=>by simp at h,fun _=>⟨true,zet _ h2,?_⟩⟩
 refine ⟨fun h=>(by cases h),fun _=>⟨true,zet _ h3,?_⟩⟩
 refine ⟨fun h=>(by cases h),fun _=>?_⟩
 refine ⟨fun t=>∃ i:Nat,t=i∧i≤p.Sets.length,fun t=>(p.Sets.length - t).toNat,⟨0,rfl,by omega⟩,?_⟩
 rintro t ⟨i,rfl,hi⟩
 refine ⟨fun ht=>?_,fun ht=>?_⟩
 ·have ht:i < p.Sets.length:=by simpa using ht
  have hw2:w64 ((i:Int)+1)=((i+1:Nat):Int):=zQ (by omega) (by omega)
  rw [hw2]
  exact ⟨by omega,by omega,by omega,by omega,fun h=>by simp at h,fun _=>⟨⟨i+1,rfl,by omega⟩,by first | omega | (dsimp only;omega)⟩⟩
 ·refine ⟨fun t=>∃ i:Nat,t=i∧i≤p.Follow.length,fun t=>(p.Follow.length - t).toNat,⟨0,rfl,by omega⟩,?_⟩
  rintro t ⟨j,rfl,hj⟩
  refine ⟨fun ht=>?_,fun _=>rfl⟩
  have ht:j < p.Follow.length:=by simpa using ht
  have hw2:w64 ((j:Int)+1)=((j+1:Nat):Int):=zQ (by omega) (by omega)
  rw [hw2,zW ht]
  exact ⟨by omega,by omega,by omega,by omega,_,zet _ (h5 _ (List.getElem_mem ht)),fun h=>(by cases h),fun _=>⟨⟨j+1,rfl,by omega⟩,by first | omega | (dsimp only;omega)⟩⟩
end Go.Ev.Pl
namespace Go.Ev.Pl
open Go Go.Ev
end Go.Ev.Pl
namespace Go.Ev.Pl
open Go Go.Ev
end Go.Ev.Pl
namespace Go.Ev.Pl
open Go Go.Ev
section
variable (N : Nat) (B : Nat → Int)
def hdS (sets:List zc) (p i:Nat):Prop:=i < N∧∃ s,sets[p]?=some s∧setHas s (B i)=true
inductive Pth (sets:List zc) (last:Nat→Bool) (fo:Nat→Nat→Bool):Nat→Nat→Nat→Prop where
 | last {p i:Nat} (h:hdS N B sets p i) (hl:last p=true):Pth sets last fo p i (i+1)
 | step {p q i j:Nat} (h:hdS N B sets p i) (hf:fo p q=true) (hp:Pth sets last fo q (i+1) j):Pth sets last fo p i j
def one (g:GA) (i j:Nat):Prop:=∃ p,g.first p=true∧Pth N B g.sets g.last g.follow p i j
variable {N B}
variable {a b : GA}
end
end Go.Ev.Pl
namespace Go.Ev.Pl
open Go Go.Ev
end Go.Ev.Pl
namespace Go.Ev.Pl
open Go Go.Ev
def clo (k:zb):Bool:=k.Kind == 5 && (decide (k.Hi < 0) && decide (k.Lo≤1))
end Go.Ev.Pl
namespace Go.Ev.Pl
open Go Go.Ev
end Go.Ev.Pl
namespace Go.Ev.Pl
open Go Go.Ev
section
variable {N : Nat} {B : Nat → Int}
end
end Go.Ev.Pl
namespace Go.Ev.Pl
open Go Go.Ev
theorem index_ok (l:List Int) (v:Int) (hl:l.length < 1000000):∃ r,zaZ l v r∧(r≥0↔v∈l):=by
 by_cases hv:v∈l
 ·obtain ⟨n,hn,hnv,hmin⟩:∃ n,n < l.length∧l[n]?=some v∧∀ m,m < n→l[m]?≠some v:=by
   have hex:∃ n,l[n]?=some v:=List.mem_iff_getElem?.1 hv
   induction l with
   | nil=>simp at hv
   | cons x l ih=>
     by_cases hx:x=v
     ·exact ⟨0,by simp,by simp [hx],fun m hm=>by omega⟩
     ·have hv':v∈l:=by
       rcases List.mem_cons.1 hv with e | e
       ·exact absurd e.symm hx
       ·exact e
      obtain ⟨n,h1,h2,h3⟩:=ih (by simp at hl;omega) hv' (List.mem_iff_getElem?.1 hv')
      refine ⟨n+1,by simp;omega,by simpa using h2,fun m hm=>?_⟩
      cases m with
      | zero=>simp [hx]
      | succ m=>simpa using h3 m (by omega)
  refine ⟨n,?_,⟨fun _=>hv,fun _=>by omega⟩⟩
  refine zb2 l v _ ⟨fun t=>∃ i:Nat,t=i∧i≤n,fun t=>(l.length - t).toNat,⟨0,rfl,by omega⟩,?_⟩
  rintro t ⟨i,rfl,hi⟩
  have hw2:w64 ((i:Int)+1)=((i+1:Nat):Int):=zQ (by omega) (by omega)
  have hil:i < l.length:=by omega
  refine ⟨fun ht=>⟨by omega,by omega,fun he=>?_,fun he=>?_⟩,fun ht=>?_⟩
  ·rw [zW hil,beq_iff_eq] at he
   by_cases hin:i=n
   ·subst hin;rfl
   ·exact absurd (by rw [List.getElem?_eq_getElem hil,he]) (hmin i (by omega))
  ·rw [zW hil,beq_eq_false_iff_ne] at he
   have hin:i≠n:=fun e=>by
    subst e
    rw [List.getElem?_eq_getElem hil] at hnv
    exact he (Option.some.inj hnv).symm
   rw [hw2]
   exact ⟨⟨i+1,rfl,by omega⟩,by first | omega | (dsimp only;omega)⟩
  ·have:=of_decide_eq_false ht;omega
 ·refine ⟨-1,?_,⟨fun h=>by omega,fun h=>absurd h hv⟩⟩
  refine zb2 l v _ ⟨fun t=>∃ i:Nat,t=i∧i≤l.length,fun t=>(l.length - t).toNat,⟨0,rfl,by omega⟩,?_⟩
  rintro t ⟨i,rfl,hi⟩
  refine ⟨fun ht=>?_,fun ht=>rfl⟩
  have hil:i < l.length:=by have:=of_decide_eq_true ht;omega
  have hw2:w64 ((i:Int)+1)=((i+1:Nat):Int):=zQ (by omega) (by omega)
  refine ⟨by omega,by omega,fun he=>?_,fun he=>?_⟩
  ·rw [zW hil,beq_iff_eq] at he
   exact absurd (he▸List.getElem_mem hil) hv
  ·rw [hw2]
   exact ⟨⟨i+1,rfl,by omega⟩,by first | omega | (dsimp only;omega)⟩
theorem contains_ok (l:List Int) (v:Int) (hl:l.length < 1000000) (b:Bool) (hb:b=true↔v∈l):zaG l v b:=by
 obtain ⟨r,h1,h2⟩:=index_ok l v hl
 refine zcI l v _ ⟨r,h1,?_⟩
 rw [Bool.eq_iff_iff,hb,decide_eq_true_eq,h2]
end Go.Ev.Pl
namespace Go.Ev
open Go Go.Proofs
end Go.Ev
namespace Go.Ev.Pl
open Go Go.Ev
end Go.Ev.Pl
namespace Go.Ev.Pl
open Go Go.Ev
def ixF {α:Type} (p:α→Bool):List α→Int→Int
 | [],_=>-1
 | x :: r,i=>if p x=true then i else ixF p r (i+1)
theorem ixF_any {α:Type} (p:α→Bool):∀ (l:List α) (i:Int),0≤i→decide (ixF p l i≥0)=l.any p
 | [],i,h=>by simp [ixF]
 | x :: r,i,h=>by
   unfold ixF
   cases hp:p x with
   | true=>simp [hp,h]
   | false=>simp [hp];have:=ixF_any p r (i+1) (by omega);simpa using this
theorem za7 {i n:Nat}:decide ((i:Int) < (n:Int))=decide (i < n):=by simp only [decide_eq_decide];omega
theorem ix_walk {α:Type} [Inhabited α] (p:α→Bool) (l:List α) (hl:l.length < 1099511627776) (res:Int) (hres:res=ixF p l 0) :
 ∃ (Inv:Int→Prop) (mu:Int→Nat),Inv 0∧∀ t:Int,Inv t→(decide (t < (l.length:Int))=true→0≤t∧t < (l.length:Int)∧(p (gd l t)=true→res=t)∧(p (gd l t)=false→Inv (w64 (t+1))∧mu (w64 (t+1)) < mu t))∧(decide (t < (l.length:Int))=false→res = -1):=by
 refine ⟨fun t=>∃ i:Nat,t=i∧i≤l.length∧ixF p (l.drop i) i=res,fun t=>(l.length - t).toNat,⟨0,rfl,by omega,by rw [hres];rfl⟩,?_⟩
 rintro t ⟨i,rfl,hi,he⟩
 rw [za7]
 refine ⟨fun ht=>?_,fun ht=>?_⟩
 ·have ht:=of_decide_eq_true ht
  rw [List.drop_eq_getElem_cons ht,ixF] at he
  rw [zW ht,show w64 ((i:Int)+1)=((i+1:Nat):Int) from zQ (by omega) (by omega)]
  refine ⟨by omega,by omega,fun h=>?_,fun h=>?_⟩
  ·rw [if_pos h] at he;exact he.symm
  ·rw [if_neg (by rw [h];simp)] at he
   exact ⟨⟨i+1,rfl,by omega,by rw [← he];rfl⟩,by first | omega | (dsimp only;omega)⟩
 ·have ht:=of_decide_eq_false ht
  rw [List.drop_of_length_le (by omega)] at he
  exact he.symm
def risesB (m:Int):Int→List Int→Bool
 | _,[]=>true
 | last,x :: r=>if (decide (x≤last) || decide (x≥m))=true then false else risesB m x r
theorem places_ok (l:List Int) (m:Int) (hl:l.length≤9223372036854775807):zcu l m (risesB m (-1) l):=by
 refine W_auto_places l m _ ⟨fun s t=>∃ i:Nat,t=i∧i≤l.length∧risesB m s (l.drop i)=risesB m (-1) l,fun s t=>(l.length - t).toNat,⟨0,rfl,by omega,rfl⟩,?_⟩
 rintro s t ⟨i,rfl,hi,he⟩
 rw [za7]
 refine ⟨fun ht=>?_,fun ht=>?_⟩
 ·have ht:=of_decide_eq_true ht
  rw [List.drop_eq_getElem_cons ht,risesB] at he
  rw [zW ht,show w64 ((i:Int)+1)=((i+1:Nat):Int) from zQ (by omega) (by omega)]
  refine ⟨by omega,by omega,fun h=>?_,fun h=>?_⟩
  ·rw [if_pos h] at he;exact he.symm
  ·rw [if_neg (by rw [h];simp)] at he
   exact ⟨⟨i+1,rfl,by omega,he⟩,by first | omega | (dsimp only;omega)⟩
 ·have ht:=of_decide_eq_false ht
  rw [List.drop_of_length_le (by omega)] at he
  exact he.symm
def oddB (i:Int):Bool:=decide (i < 0) || decide (i≥40)
def zeroB (s:zc):Bool:=(0:Int) == s.e0 && ((0:Int) == s.e1 && ((0:Int) == s.e2 && ((0:Int) == s.e3 && true)))
def lensB (a:zh):Bool:=decide ((a.Sets.length:Int) > 600) || ((a.Owner.length:Int) != (a.Sets.length:Int) || ((a.Follow.length:Int) != (a.Sets.length:Int) || ((a.Ends.length:Int) != (a.Sets.length:Int) || decide ((a.Starts.length:Int) > 16))))
def rightA (a:zh):Bool:=if lensB a=true then false else if a.Owner.any oddB=true then false else if a.Sets.any zeroB=true then false else (a.Follow++a.Starts).all (risesB a.Sets.length (-1))
theorem odd_ok (l:List Int) (hl:l.length < 1099511627776):zS l (l.any oddB):=by
 obtain ⟨Inv,mu,h0,hs⟩:=ix_walk oddB l hl _ rfl
 rw [← ixF_any oddB l 0 (by omega)]
 exact zbd l _ ⟨_,zbg l _ ⟨Inv,mu,h0,fun t ht=>⟨fun h=>let ⟨a,b,c,d⟩:=(hs t ht).1 h;⟨a,b,_,zhI _ _ rfl,c,d⟩,(hs t ht).2⟩⟩,rfl⟩
theorem zero_ok (l:List zc) (hl:l.length < 1099511627776):zai l { e0:=0,e1:=0,e2:=0,e3:=0 } (l.any zeroB):=by
 obtain ⟨Inv,mu,h0,hs⟩:=ix_walk zeroB l hl _ rfl
 rw [← ixF_any zeroB l 0 (by omega)]
 exact zbT l _ _ ⟨_,zcb l _ _ ⟨Inv,mu,h0,fun t ht=>⟨fun h=>(hs t ht).1 h,(hs t ht).2⟩⟩,rfl⟩
theorem lens_of {a:zh} (h:lensB a=false):a.Sets.length≤600∧a.Owner.length=a.Sets.length∧a.Follow.length=a.Sets.length∧a.Ends.length=a.Sets.length∧a.Starts.length≤16:=by
 simp only [lensB,Bool.or_eq_false_iff,decide_eq_false_iff_not,bne_eq_false_iff_eq] at h
 omega
def Small (a:zh):Prop:=∀ l∈a.Follow++a.Starts,l.length≤9223372036854775807
theorem right_ok (a:zh) (hsm:Small a):zdT a (rightA a):=by
 refine W_auto_Right a _ ?_
 simp only [List.length_map]
 refine ⟨fun h=>by unfold rightA;rw [if_pos (show lensB a=true from h)],fun h=>?_⟩
 have hlens:=h
 obtain ⟨l1,l2,l3,l4,l5⟩:=lens_of (a:=a) h
 refine ⟨_,odd_ok a.Owner (by omega),fun h1=>by unfold rightA;rw [if_neg (by rw [show lensB a=false from h];simp),if_pos h1],fun h1=>⟨_,zero_ok a.Sets (by omega),fun h2=>by unfold rightA;rw [if_neg (by rw [show lensB a=false from h];simp),if_neg (by rw [h1];simp),if_pos h2],fun h2=>⟨auto_lists_ok a,⟨by omega,by omega⟩,?_⟩⟩⟩
 have hr:rightA a=(a.Follow++a.Starts).all (risesB a.Sets.length (-1)):=by
  unfold rightA;rw [if_neg (by rw [show lensB a=false from h];simp),if_neg (by rw [h1];simp),if_neg (by rw [h2];simp)]
 refine ⟨fun i=>((a.Follow++a.Starts).take i).all (risesB a.Sets.length (-1))=true,rightA a=false,by simp,fun i y hi hy hI=>?_,fun hI=>?_,fun hS=>hS⟩
 ·have hlen:i < (a.Follow++a.Starts).length:=by rw [List.length_append];exact hi
  have hy':y=(a.Follow++a.Starts)[i]:=by rw [hy,List.getD_eq_getElem?_getD,List.getElem?_eq_getElem hlen];rfl
  refine ⟨_,places_ok y _ (by rw [hy'];exact hsm _ (List.getElem_mem hlen)),fun hb=>?_,fun hb=>?_⟩
  ·rw [hr,List.all_eq_false]
   refine ⟨y,by rw [hy'];exact List.getElem_mem hlen,?_⟩
   simpa using hb
  ·show ((a.Follow++a.Starts).take (i+1)).all _=true
   have hI:((a.Follow++a.Starts).take i).all (risesB a.Sets.length (-1))=true:=hI
   rw [List.take_succ_eq_append_getElem hlen,List.all_append,hI]
   rw [hy'] at hb
   simpa using hb
 ·rw [hr,List.take_of_length_le (by rw [List.length_append];omega)] at *;exact hI
end Go.Ev.Pl
namespace Go.Ev.Pl
open Go Go.Ev
theorem zhG (n:Nat) (p:Nat→Bool) (off d:Nat) (h:n+off+d < 1000000):zbS (lst n p off) d (lst n p (off+d)):=by
 have hl:=zaj n p off
 have he:lst n p (off+d)=(lst n p off).map (·+(d:Int)):=by
  simp only [lst,List.map_map]
  refine List.map_congr_left fun i _=>?_
  simp only [Function.comp];omega
 rw [he]
 refine W_auto_moved _ _ _ ⟨fun o t=>∃ i:Nat,t=i∧i≤(lst n p off).length∧o=((lst n p off).take i).map (·+(d:Int)),fun o t=>((lst n p off).length - t).toNat,⟨0,rfl,by omega,rfl⟩,?_⟩
 rintro o t ⟨i,rfl,hi,rfl⟩
 refine ⟨fun ht=>?_,fun ht=>?_⟩
 ·have ht:i < (lst n p off).length:=by simpa using ht
  have hm:=za4.1 (List.getElem_mem ht)
  obtain ⟨j,hj,_,hv⟩:=hm
  have hw:w64 (gd (lst n p off) (i:Int)+d)=(lst n p off)[i]+d:=by rw [zW ht];exact zQ (by omega) (by omega)
  have hw2:w64 ((i:Int)+1)=((i+1:Nat):Int):=zQ (by omega) (by omega)
  rw [hw,hw2]
  refine ⟨by omega,by omega,by simp;omega,⟨i+1,rfl,by omega,?_⟩,by first | omega | (dsimp only;omega)⟩
  rw [List.take_succ_eq_append_getElem ht,List.map_append];rfl
 ·have:i=(lst n p off).length:=by have:¬ i < (lst n p off).length:=by simpa using ht
                                  omega
  subst this
  rw [List.take_of_length_le (Nat.le_refl _)]
structure Bd (a:zh) (m:Nat):Prop where
 own:a.Owner.length=a.Sets.length
 fol:a.Follow.length=a.Sets.length
 ends:a.Ends.length=a.Sets.length
 small:∀ f∈a.Follow,f.length < 10000
 room:a.Sets.length≤m
def putM (g:GA) (rule:Int) (a:zh):zh:=
 { Sets:=a.Sets++g.sets,Owner:=a.Owner++List.replicate g.n rule,Follow:=a.Follow++flw g a.Sets.length,Ends:=a.Ends++List.replicate g.n false,Starts:=a.Starts }
theorem zdZ (g:GA) (off:Nat) {f:List Int} (hf:f∈flw g off):f.length≤g.n:=by
 simp only [flw,List.mem_map,List.mem_range] at hf
 obtain ⟨i,_,rfl⟩:=hf
 exact zaj g.n (g.follow i) off
theorem Bd.put {a:zh} {m:Nat} (h:Bd a m) {g:GA} (hc:Canon g) (hg:g.n < 10000) (rule:Int):Bd (putM g rule a) (m+g.n):=
 ⟨by simp [putM,h.own,hc.sets],by simp [putM,h.fol,zX,hc.sets],by simp [putM,h.ends,hc.sets],fun f hf=>by
   rcases List.mem_append.1 hf with hf | hf
   ·exact h.small f hf
   ·have:=zdZ g _ hf;omega,by simp only [putM,List.length_append,hc.sets];have:=h.room;omega⟩
theorem put_ok (x:zb) (hw:Wf x) (hr:rightB x=true) (rule:Int) (a:zh) (hb:Bd a 100000) (hn:(gof x).n < 10000) :
 zbb x rule ⟨a⟩ (lst (gof x).n (gof x).first a.Sets.length) (lst (gof x).n (gof x).last a.Sets.length) (gof x).null ⟨putM (gof x) rule a⟩:=by
 have hp:=placeOf_ok x hw
 rw [hr] at hp
 simp only [if_true] at hp
 have hc:=zaB x
 have h1:=hb.own;have h2:=hb.fol;have h3:=hb.ends;have h4:=hb.room
 refine zfq x rule ⟨a⟩ _ _ _ _ ⟨_,_,hp,by simp only [plc,hc.sets];omega,fun O F E t=>∃ i:Nat,t=i∧i≤(gof x).n∧O=a.Owner++List.replicate i rule∧F=a.Follow++(flw (gof x) a.Sets.length).take i∧E=a.Ends++List.replicate i false,
  fun O F E t=>((gof x).n - t).toNat,⟨0,rfl,by omega,by simp,by simp,by simp⟩,?_⟩
 rintro O F E t ⟨i,rfl,hi,rfl,rfl,rfl⟩
 have hlen:(plc (gof x)).Follow.length=(gof x).n:=zX _ _
 rw [hlen]
 refine ⟨fun ht=>?_,fun ht=>?_⟩
 ·have ht:i < (gof x).n:=by simpa using ht
  have hw2:w64 ((i:Int)+1)=((i+1:Nat):Int):=zQ (by omega) (by omega)
  have hgd:gd (plc (gof x)).Follow (i:Int)=lst (gof x).n ((gof x).follow i) 0:=by
   rw [zW (by rw [hlen];exact ht)];exact zbN _ _ ht
  have hf:i < (flw (gof x) a.Sets.length).length:=by rw [zX];exact ht
  rw [hgd,hw2]
  refine ⟨by omega,by omega,by simp;omega,by simp;omega,_,zhG _ _ 0 a.Sets.length (by omega),by simp;omega,⟨i+1,rfl,by omega,?_,?_,?_⟩,by first | omega | (dsimp only;omega)⟩
  ·rw [List.append_assoc,← List.replicate_succ']
  ·rw [List.take_succ_eq_append_getElem hf,zbN _ _ ht,Nat.zero_add,List.append_assoc]
  ·rw [List.append_assoc,← List.replicate_succ']
 ·have ht:i=(gof x).n:=by have:¬ i < (gof x).n:=by simpa using ht
                          omega
  subst ht
  have e1:=zhG (gof x).n (gof x).first 0 a.Sets.length (by omega)
  have e2:=zhG (gof x).n (gof x).last 0 a.Sets.length (by omega)
  rw [Nat.zero_add] at e1 e2
  refine ⟨_,e1,_,e2,rfl,rfl,rfl,?_⟩
  rw [List.take_of_length_le (by rw [zX];omega)];rfl
def gHT (a b:GA):GA:={ gCat a b with first:=a.first }
def gR (r:zj):GA:=if r.Eof=true then gEmpty else if r.Trail.Kind=0 then gof r.Rx else gHT (gof r.Rx) (gof r.Trail)
theorem canon_gHT {a b:GA} (ha:Canon a) (hb:Canon b):Canon (gHT a b):=by
 have h:=zbI ha hb
 exact ⟨h.sets,fun i hi=>ha.first i (by have:a.n+b.n≤i:=hi;omega),h.last,h.follow⟩
theorem canon_gR (r:zj):Canon (gR r):=by
 unfold gR
 split
 ·exact zbm
 ·split
  ·exact zaB _
  ·exact canon_gHT (zaB _) (zaB _)
def addM (r:zj) (i:Int) (a:zh):zh:=
 { Sets:=a.Sets++(gR r).sets,Owner:=a.Owner++List.replicate (gR r).n i,Follow:=a.Follow++flw (gR r) a.Sets.length,Ends:=a.Ends++(List.range (gR r).n).map (gR r).last,Starts:=a.Starts }
def begM (r:zj) (a:zh):List Int:=if r.Eof=true then [] else lst (gof r.Rx).n (gof r.Rx).first a.Sets.length
def markF (E:List Bool) (l:List Int):List Bool:=E.mapIdx fun i b=>if (i:Int)∈l then true else b
theorem zbV (E:List Bool) (l:List Int):(markF E l).length=E.length:=by simp [markF]
theorem zdE (E:List Bool) (l:List Int) {i:Nat} (h:i < E.length):(markF E l)[i]'(by rw [zbV];exact h)=if (i:Int)∈l then true else E[i]:=by simp [markF]
theorem mark_step {E:List Bool} {l:List Int} {i e:Nat} (ht:i < l.length) (he:l[i]=(e:Int)) (hE:e < E.length):(markF E (l.take i)).set e true=markF E (l.take (i+1)):=by
 refine set_eq (by rw [zbV,zbV]) (fun j hj hne=>?_) (fun hj=>?_)
 ·rw [zbV] at hj
  rw [zdE _ _ hj,zdE _ _ hj,List.take_succ_eq_append_getElem ht,he]
  have:((j:Int)∈l.take i++[(e:Int)])↔(j:Int)∈l.take i:=by
   rw [List.mem_append,List.mem_singleton]
   constructor
   ·rintro (h | h)
    ·exact h
    ·exact absurd (by omega) hne
   ·exact .inl
  simp only [this]
 ·rw [zdE _ _ hE,List.take_succ_eq_append_getElem ht,he,if_pos (by simp)]
theorem mark_lst (E0:List Bool) (g:GA) {off:Nat} (hE:E0.length=off):markF (E0++List.replicate g.n false) (lst g.n g.last off)=E0++(List.range g.n).map g.last:=by
 apply List.ext_getElem
 ·rw [zbV];simp
 ·intro i h1 h2
  rw [zbV] at h1
  rw [zdE _ _ h1]
  simp only [List.length_append,List.length_replicate] at h1
  have hin:(i:Int)∈lst g.n g.last off↔off≤i∧i < off+g.n∧g.last (i - off)=true:=by
   rw [za4]
   constructor
   ·rintro ⟨j,hj,hp,e⟩
    have:i=j+off:=by omega
    subst this
    exact ⟨by omega,by omega,by rw [Nat.add_sub_cancel];exact hp⟩
   ·rintro ⟨q1,q2,q3⟩
    exact ⟨i - off,by omega,q3,by omega⟩
  rcases Nat.lt_or_ge i off with hi | hi
  ·rw [if_neg (by rw [hin];omega),List.getElem_append_left (by omega),List.getElem_append_left (by omega)]
  ·rw [List.getElem_append_right (by omega),List.getElem_append_right (by omega)]
   simp only [List.getElem_replicate,List.getElem_map,List.getElem_range,hE]
   by_cases hl:g.last (i - off)=true
   ·rw [if_pos (hin.2 ⟨hi,by omega,hl⟩),hl]
   ·rw [if_neg (fun h=>hl (hin.1 h).2.2)];simpa using hl
theorem lead_step {F:List (List Int)} {fr to:List Int} {i e:Nat} (hs:SS fr) (ht:i < fr.length) (he:fr[i]=(e:Int)) (hF:e < F.length) :
 gd (leadF F (fr.take i) to) (e:Int)=F[e]∧(leadF F (fr.take i) to).set e (join F[e] to)=leadF F (fr.take (i+1)) to:=by
 have hl:(leadF F (fr.take i) to).length=F.length:=zaz _ _ _
 have hnot:¬ ((e:Int)∈fr.take i):=by
  intro hm
  obtain ⟨k,hk,hk2⟩:=List.mem_iff_getElem.1 hm
  simp only [List.length_take] at hk
  rw [List.getElem_take] at hk2
  have:=List.pairwise_iff_getElem.1 hs k i (by omega) ht (by omega)
  omega
 refine ⟨by rw [zW (by rw [hl];exact hF),zaV _ _ _ hF,if_neg hnot],?_⟩
 refine set_eq (by rw [zaz,zaz]) (fun j hj hne=>?_) (fun hj=>?_)
 ·rw [hl] at hj
  rw [zaV _ _ _ hj,zaV _ _ _ hj,List.take_succ_eq_append_getElem ht,he]
  have:((j:Int)∈fr.take i++[(e:Int)])↔(j:Int)∈fr.take i:=by
   rw [List.mem_append,List.mem_singleton]
   constructor
   ·rintro (h | h)
    ·exact h
    ·exact absurd (by omega) hne
   ·exact .inl
  simp only [this]
 ·rw [zaV _ _ _ hF,List.take_succ_eq_append_getElem ht,he,if_pos (by simp)]
end Go.Ev.Pl
namespace Go.Ev.Pl
open Go Go.Ev
def RBody (r:zj):Prop:=r.Eof=true∨(r.Eof=false∧(Wf r.Rx∧rightB r.Rx=true)∧(r.Trail.Kind=0∨(r.Trail.Kind≠0∧Wf r.Trail∧rightB r.Trail=true)))
theorem zcB {x:zb} (h:rightB x=true):(gof x).n≤200:=by
 obtain ⟨h1,h2⟩:=zc4 h
 rw [gof_n x h1];exact h2
theorem gR_n {r:zj} (h:RBody r):(gR r).n≤400:=by
 unfold gR
 rcases h with h | ⟨h0,h1,h2⟩
 ·rw [if_pos h];show (0:Nat)≤400;omega
 ·rw [if_neg (by rw [h0];simp)]
  have:=zcB h1.2
  rcases h2 with h2 | ⟨h2,h3,h4⟩
  ·rw [if_pos h2];omega
  ·rw [if_neg h2]
   have:=zcB h4
   show (gof r.Rx).n+(gof r.Trail).n≤400;omega
theorem addM_eof {r:zj} (h:r.Eof=true) (i:Int) (a:zh):addM r i a=a:=by
 cases a
 simp [addM,gR,h,gEmpty,flw]
theorem ruleEnd {g:GA} {i:Int} {a:zh} {r0:List Int} {res:List Int} {fin:zm} (hb:Bd a 50000) (hg:g.n≤400) (hres:res=r0)
 (hfin:fin=⟨{ Sets:=a.Sets++g.sets,Owner:=a.Owner++List.replicate g.n i,Follow:=a.Follow++flw g a.Sets.length,Ends:=a.Ends++(List.range g.n).map g.last,Starts:=a.Starts }⟩) :
 ∀ S O F E St (e:List Int),(S=a.Sets++g.sets∧O=a.Owner++List.replicate g.n i∧F=a.Follow++flw g a.Sets.length∧E=a.Ends++List.replicate g.n false∧St=a.Starts∧e=lst g.n g.last a.Sets.length)→
   ∃ (Inv:List Bool→Int→Prop) (mu:List Bool→Int→Nat),Inv E 0∧∀ (E':List Bool) (t:Int),Inv E' t→
     (decide (t < (e.length:Int))=true→0≤t∧t < (e.length:Int)∧0≤gd e t∧(gd e t).toNat < E'.length∧gd e t < (E'.length:Int)∧(Inv (E'.set (gd e t).toNat true) (w64 (t+1))∧mu (E'.set (gd e t).toNat true) (w64 (t+1)) < mu E' t))∧
     (decide (t < (e.length:Int))=false→res=r0∧fin=⟨{ Sets:=S,Owner:=O,Follow:=F,Ends:=E',Starts:=St }⟩):=by
 rintro S O F E St e ⟨rfl,rfl,rfl,rfl,rfl,rfl⟩
 have hl:=zaj g.n g.last a.Sets.length
 have h3:=hb.ends
 refine ⟨fun E' t=>∃ j:Nat,t=j∧j≤(lst g.n g.last a.Sets.length).length∧E'=markF (a.Ends++List.replicate g.n false) ((lst g.n g.last a.Sets.length).take j),fun E' t=>((lst g.n g.last a.Sets.length).length - t).toNat,⟨0,rfl,by omega,?_⟩,?_⟩
 ·exact (List.ext_getElem (by rw [zbV]) (fun j h1 h2=>by rw [zdE _ _ (by rw [zbV] at h1;exact h1)];simp)).symm
 rintro E' t ⟨j,rfl,hj,rfl⟩
 rw [za7]
 refine ⟨fun ht=>?_,fun ht=>?_⟩
 ·have ht:=of_decide_eq_true ht
  obtain ⟨k,hk,_,he⟩:=za4.1 (List.getElem_mem ht)
  have hel:(a.Ends++List.replicate g.n false).length=a.Sets.length+g.n:=by simp [h3]
  rw [zW ht,show w64 ((j:Int)+1)=((j+1:Nat):Int) from zQ (by omega) (by omega),zbV,hel,he,Int.toNat_natCast]
  refine ⟨by omega,by omega,by omega,by omega,by omega,⟨j+1,rfl,by omega,?_⟩,by first | omega | (dsimp only;omega)⟩
  exact mark_step ht he (by omega)
 ·have ht:=of_decide_eq_false ht
  refine ⟨hres,?_⟩
  rw [List.take_of_length_le (by omega),mark_lst _ _ h3,hfin]
theorem aRule_ok (r:zj) (hr:RBody r) (i:Int) (a:zh) (hb:Bd a 50000):zbq r i ⟨a⟩ (begM r a) ⟨addM r i a⟩:=by
 have hb':Bd a 100000:=⟨hb.own,hb.fol,hb.ends,hb.small,by have:=hb.room;omega⟩
 have hroom:=hb.room
 refine zeM r i ⟨a⟩ _ _ ⟨fun h=>?_,fun h=>?_⟩
 ·rw [addM_eof h];unfold begM;rw [if_pos h];exact ⟨rfl,rfl⟩
 ·have hne:¬ r.Eof=true:=by rw [h];simp
  rcases hr with hr | ⟨-,⟨w1,q1⟩,hT⟩
  ·exact absurd hr hne
  have n1:=zcB q1
  have hc1:=zaB r.Rx
  have hbeg:begM r a=lst (gof r.Rx).n (gof r.Rx).first a.Sets.length:=by unfold begM;rw [if_neg hne]
  refine ⟨_,_,_,_,put_ok r.Rx w1 q1 i a hb' (by omega),?_⟩
  rcases hT with hT | ⟨hT,w2,q2⟩
  ·have hg:gR r=gof r.Rx:=by unfold gR;rw [if_neg hne,if_pos hT]
   refine ⟨fun S O F E St e=>S=a.Sets++(gof r.Rx).sets∧O=a.Owner++List.replicate (gof r.Rx).n i∧F=a.Follow++flw (gof r.Rx) a.Sets.length∧E=a.Ends++List.replicate (gof r.Rx).n false∧St=a.Starts∧e=lst (gof r.Rx).n (gof r.Rx).last a.Sets.length,
    ruleEnd hb (by omega) hbeg (by unfold addM;rw [hg]),fun h=>by rw [hT] at h;simp at h,fun _=>⟨rfl,rfl,rfl,rfl,rfl,rfl⟩⟩
  ·have hg:gR r=gHT (gof r.Rx) (gof r.Trail):=by unfold gR;rw [if_neg hne,if_neg hT]
   have n2:=zcB q2
   have hc2:=zaB r.Trail
   obtain ⟨A,hA⟩:∃ A,A=gof r.Rx:=⟨_,rfl⟩
   obtain ⟨B,hB⟩:∃ B,B=gof r.Trail:=⟨_,rfl⟩
   rw [← hA] at n1 hc1 hbeg ⊢
   rw [← hB] at n2 hc2
   rw [← hA,← hB] at hg
   have hb1:Bd (putM A i a) 100000:=by
    have:=hb.put hc1 (by omega) i
    exact ⟨this.own,this.fol,this.ends,this.small,by have:=this.room;omega⟩
   have hp:=put_ok r.Trail w2 q2 i (putM A i a) hb1 (by rw [← hB];omega)
   rw [← hB] at hp
   have hs1:(putM A i a).Sets.length=a.Sets.length+A.n:=by simp [putM,hc1.sets]
   rw [hs1] at hp
   have hF:(putM B i (putM A i a)).Follow=a.Follow++flw A a.Sets.length++flw B (a.Sets.length+A.n):=by
    show (a.Follow++flw A a.Sets.length)++flw B (putM A i a).Sets.length=_
    rw [hs1]
   have hfl:=hb.fol
   have hla:=zaj A.n A.last a.Sets.length
   have hlb:=zaj B.n B.first (a.Sets.length+A.n)
   have hlb2:=zaj B.n B.last (a.Sets.length+A.n)
   have hcat:=zgu a.Follow A B
   rw [hfl] at hcat
   have hFl:(a.Follow++flw A a.Sets.length++flw B (a.Sets.length+A.n)).length=a.Sets.length+A.n+B.n:=by simp [zX,hfl];omega
   refine ⟨fun S O F E St e=>S=a.Sets++(gHT A B).sets∧O=a.Owner++List.replicate (gHT A B).n i∧F=a.Follow++flw (gHT A B) a.Sets.length∧E=a.Ends++List.replicate (gHT A B).n false∧St=a.Starts∧e=lst (gHT A B).n (gHT A B).last a.Sets.length,
    ruleEnd hb (show A.n+B.n≤400 by omega) hbeg (by unfold addM;rw [hg]),fun _=>⟨_,_,_,_,hp,?_⟩,fun h=>by exact absurd (by simpa using h) hT⟩
   refine ⟨fun F t=>∃ j:Nat,t=j∧j≤(lst A.n A.last a.Sets.length).length∧F=leadF (a.Follow++flw A a.Sets.length++flw B (a.Sets.length+A.n)) ((lst A.n A.last a.Sets.length).take j) (lst B.n B.first (a.Sets.length+A.n)),
    fun F t=>((lst A.n A.last a.Sets.length).length - t).toNat,⟨0,rfl,by omega,?_⟩,?_⟩
   ·rw [hF];exact (List.ext_getElem (by rw [zaz]) (fun j h1 h2=>by rw [zaV _ _ _ (by rw [zaz] at h1;exact h1)];simp)).symm
   rintro F t ⟨j,rfl,hj,rfl⟩
   simp only [za7]
   refine ⟨fun ht=>?_,fun ht=>?_⟩
   ·have ht:=of_decide_eq_true ht
    obtain ⟨k,hk,_,he⟩:=za4.1 (List.getElem_mem ht)
    have hkl:k+a.Sets.length < (a.Follow++flw A a.Sets.length++flw B (a.Sets.length+A.n)).length:=by rw [hFl];omega
    obtain ⟨g1,g2⟩:=lead_step (to:=lst B.n B.first (a.Sets.length+A.n)) (zbh _ _ _) ht he hkl
    rw [zW ht,show w64 ((j:Int)+1)=((j+1:Nat):Int) from zQ (by omega) (by omega),zaz,he,Int.toNat_natCast,g1]
    have hsm:((a.Follow++flw A a.Sets.length++flw B (a.Sets.length+A.n))[k+a.Sets.length]).length < 10000:=by
     have hm:=List.getElem_mem hkl
     rcases List.mem_append.1 hm with hm | hm
     ·rcases List.mem_append.1 hm with hm | hm
      ·exact hb.small _ hm
      ·have:=zdZ A _ hm;omega
     ·have:=zdZ B _ hm;omega
    exact ⟨by omega,by omega,by omega,by omega,by omega,_,zdF _ _ (by omega) (by omega),by omega,by omega,by omega,⟨j+1,rfl,by omega,g2⟩,by first | omega | (dsimp only;omega)⟩
   ·have ht:=of_decide_eq_false ht
    rw [List.take_of_length_le (by omega),hcat]
    have hlast:=zfd A B a.Sets.length
    refine ⟨fun e=>e=lst (gHT A B).n (gHT A B).last a.Sets.length,?_,fun hn=>?_,fun hn=>?_⟩
    ·rintro e rfl
     refine ⟨?_,?_,rfl,?_,rfl,rfl⟩
     ·show (a.Sets++A.sets)++B.sets=a.Sets++(A.sets++B.sets);rw [List.append_assoc]
     ·show (a.Owner++List.replicate A.n i)++List.replicate B.n i=a.Owner++List.replicate (A.n+B.n) i
      rw [List.append_assoc,List.replicate_append_replicate]
     ·show (a.Ends++List.replicate A.n false)++List.replicate B.n false=a.Ends++List.replicate (A.n+B.n) false
      rw [List.append_assoc,List.replicate_append_replicate]
    ·rw [if_pos hn] at hlast
     exact ⟨_,zdF _ _ (by omega) (by omega),hlast⟩
    ·rw [if_neg (by rw [hn];simp)] at hlast
     exact hlast
end Go.Ev.Pl
namespace Go.Ev.Pl
open Go Go.Ev
def activeB (s:api_Spec) (i c:Nat):Bool:=
 if (s.Rules.getD i default).All=true then true else if (s.Rules.getD i default).Conds.contains (c:Int)=true then true else
  if (s.Rules.getD i default).Conds.length=0 then !(s.Conds.getD c default).Exclusive else false
theorem active_ok (s:api_Spec) {i c:Nat} (hi:i < s.Rules.length) (hc:c < s.Conds.length) (hr:s.Rules.length < 1000000) (hcl:s.Conds.length < 1000000) (hl:(s.Rules.getD i default).Conds.length < 1000000):zcs s i c (activeB s i c):=by
 refine W_spec_Active s i c _ ?_
 simp only [List.length_map]
 have hg:gd s.Rules (i:Int)=s.Rules.getD i default:=by rw [zW hi];simp [List.getD,hi]
 have hgc:gd s.Conds (c:Int)=s.Conds.getD c default:=by rw [zW hc];simp [List.getD,hc]
 rw [hg,hgc]
 refine ⟨fun h=>?_,fun _=>⟨by omega,by omega,fun h=>?_,fun h=>⟨_,contains_ok _ _ (by omega) _ List.contains_iff_mem,fun h2=>?_,fun h2=>⟨fun h3=>⟨fun _ _ _=>by omega,fun _ _ _=>by omega,?_⟩,fun h3=>?_⟩⟩⟩⟩
 ·simp only [Bool.or_eq_true,decide_eq_true_eq] at h;omega
 ·unfold activeB;rw [if_pos h]
 ·unfold activeB;rw [if_neg (by rw [h];simp),if_pos h2]
 ·unfold activeB;rw [if_neg (by rw [h];simp),if_neg (by rw [h2];simp)]
  have:(s.Rules.getD i default).Conds.length=0:=by simpa using h3
  rw [if_pos this]
 ·unfold activeB;rw [if_neg (by rw [h];simp),if_neg (by rw [h2];simp)]
  have:¬ (s.Rules.getD i default).Conds.length=0:=by simpa using h3
  rw [if_neg this]
def takB (s:api_Spec) (c:Nat) (bol:Bool) (k:Nat):Bool:=activeB s k c && (bol || !(s.Rules.getD k default).Bol)
def stM (s:api_Spec) (bs:List (List Int)) (c:Nat) (bol:Bool):Nat→List Int
 | 0=>[]
 | k+1=>if takB s c bol k=true then join (stM s bs c bol k) (bs.getD k []) else stM s bs c bol k
theorem stM_len {s:api_Spec} {bs:List (List Int)} (hb:∀ b∈bs,b.length≤400) (c:Nat) (bol:Bool):∀ k,k≤bs.length→(stM s bs c bol k).length≤400 * k
 | 0,_=>by simp [stM]
 | k+1,hk=>by
   have ih:=stM_len (s:=s) hb c bol k (by omega)
   have hbk:(bs.getD k []).length≤400:=by
    rw [List.getD_eq_getElem?_getD,List.getElem?_eq_getElem (by omega)];exact hb _ (List.getElem_mem _)
   unfold stM
   split
   ·have:=join_len (stM s bs c bol k) (bs.getD k []);omega
   ·omega
theorem start_ok (s:api_Spec) (bs:List (List Int)) (hbs:bs.length=s.Rules.length) (hb:∀ b∈bs,b.length≤400) {c:Nat} (hc:c < s.Conds.length) (hr:s.Rules.length≤100) (hcl:s.Conds.length < 1000000) (hl:∀ r∈s.Rules,r.Conds.length < 1000000) (bol:Bool) :
 zcN s bs c bol (stM s bs c bol bs.length):=by
 refine W_auto_start s bs c bol _ ⟨fun o t=>∃ k:Nat,t=k∧k≤bs.length∧o=stM s bs c bol k,fun o t=>(bs.length - t).toNat,⟨0,rfl,by omega,rfl⟩,?_⟩
 rintro o t ⟨k,rfl,hk,rfl⟩
 rw [za7]
 refine ⟨fun ht=>?_,fun ht=>?_⟩
 ·have ht:=of_decide_eq_true ht
  have hkr:k < s.Rules.length:=by omega
  have hg:gd s.Rules (k:Int)=s.Rules.getD k default:=by rw [zW hkr];simp [List.getD,hkr]
  have hgb:gd bs (k:Int)=bs.getD k []:=by rw [zW ht];simp [List.getD,ht]
  have hs:=stM_len hb c bol (s:=s) k (by omega)
  have hbk:(bs.getD k []).length≤400:=by
   rw [List.getD_eq_getElem?_getD,List.getElem?_eq_getElem ht];exact hb _ (List.getElem_mem _)
  rw [hg,hgb,show w64 ((k:Int)+1)=((k+1:Nat):Int) from zQ (by omega) (by omega)]
  refine ⟨fun o=>o=stM s bs c bol (k+1),fun o h=>⟨⟨k+1,rfl,by omega,h⟩,by first | omega | (dsimp only;omega)⟩,by omega,by omega,_,active_ok s hkr hc (by omega) hcl ?_,fun _ _=>by omega,fun _ _=>by omega,fun h=>⟨_,zdF _ _ (by omega) (by omega),?_⟩,fun h=>?_⟩
  ·rw [List.getD_eq_getElem?_getD,List.getElem?_eq_getElem hkr];exact hl _ (List.getElem_mem _)
  ·rw [stM,if_pos (show takB s c bol k=true from h)]
  ·rw [stM,if_neg (by rw [show takB s c bol k=false from h];simp)]
 ·have ht:=of_decide_eq_false ht
  rw [show k=bs.length by omega]
def zAuto:zh:=⟨[],[],[],[],[]⟩
def accM (rs:List zj):Nat→zh×List (List Int)
 | 0=>(zAuto,[])
 | k+1=>(addM (rs.getD k default) k (accM rs k).1,(accM rs k).2++[begM (rs.getD k default) (accM rs k).1])
theorem begM_len {r:zj} (h:RBody r) (a:zh):(begM r a).length≤400:=by
 unfold begM
 split
 ·simp
 ·rename_i hne
  rcases h with h | ⟨-,⟨_,q⟩,_⟩
  ·exact absurd h hne
  ·have:=zcB q;have:=zaj (gof r.Rx).n (gof r.Rx).first a.Sets.length;omega
theorem acc_bd {rs:List zj} (hr:∀ r∈rs,RBody r):∀ k,k≤rs.length→Bd (accM rs k).1 (400 * k)∧(accM rs k).2.length=k∧(∀ b∈(accM rs k).2,b.length≤400)∧(accM rs k).1.Starts=[]
 | 0,_=>⟨⟨rfl,rfl,rfl,fun f hf=>by simp [accM,zAuto] at hf,by simp [accM,zAuto]⟩,rfl,fun b hb=>by simp [accM] at hb,rfl⟩
 | k+1,hk=>by
   obtain ⟨h1,h2,h3,h4⟩:=acc_bd hr k (by omega)
   have hm:rs.getD k default∈rs:=by rw [List.getD_eq_getElem?_getD,List.getElem?_eq_getElem (by omega)];exact List.getElem_mem _
   have hn:=gR_n (hr _ hm)
   have hc:=canon_gR (rs.getD k default)
   refine ⟨⟨by simp only [accM,addM,List.length_append,List.length_replicate,h1.own,hc.sets],by simp only [accM,addM,List.length_append,h1.fol,zX,hc.sets],by simp only [accM,addM,List.length_append,List.length_map,List.length_range,h1.ends,hc.sets],fun f hf=>?_,by simp only [accM,addM,List.length_append,hc.sets];have:=h1.room;omega⟩,by simp [accM,h2],fun b hb=>?_,h4⟩
   ·rcases List.mem_append.1 hf with hf | hf
    ·exact h1.small f hf
    ·have:=zdZ _ _ hf;omega
   ·rcases List.mem_append.1 hb with hb | hb
    ·exact h3 b hb
    ·rw [List.mem_singleton.1 hb];exact begM_len (hr _ hm) _
def buildM (s:api_Spec):zh:={ (accM s.Rules s.Rules.length).1 with Starts:=(List.range (2 * s.Conds.length)).map fun c=>stM s (accM s.Rules s.Rules.length).2 (c / 2) (c % 2 == 1) s.Rules.length }
theorem build_ok (s:api_Spec) (hR:zbR s true) (hr:∀ r∈s.Rules,RBody r) (hn:s.Rules.length≤100) (hc:s.Conds.length≤100) (hl:∀ r∈s.Rules,r.Conds.length < 1000000) :
 zci s (if (accM s.Rules s.Rules.length).1.Sets.length > 600 then zAuto else buildM s) (if (accM s.Rules s.Rules.length).1.Sets.length > 600 then 2 else 0):=by
 refine zga s _ _ ⟨true,hR,(fun h=>by cases h),fun _=>⟨fun bs S O F E T t=>∃ k:Nat,t=k∧k≤s.Rules.length∧bs=(accM s.Rules k).2∧zh.mk S O F E T=(accM s.Rules k).1,fun _ _ _ _ _ _ t=>(s.Rules.length - t).toNat,⟨0,rfl,by omega,rfl,rfl⟩,?_⟩⟩
 rintro bs S O F E T t ⟨k,rfl,hk,rfl,ha⟩
 simp only [za7]
 obtain ⟨b1,b2,b3,b4⟩:=acc_bd hr k hk
 refine ⟨fun ht=>?_,fun ht=>?_⟩
 ·have ht:=of_decide_eq_true ht
  have hg:gd s.Rules (k:Int)=s.Rules.getD k default:=by rw [zW ht];simp [List.getD,ht]
  have hm:s.Rules.getD k default∈s.Rules:=by rw [List.getD_eq_getElem?_getD,List.getElem?_eq_getElem ht];exact List.getElem_mem _
  rw [hg,ha,show w64 ((k:Int)+1)=((k+1:Nat):Int) from zQ (by omega) (by omega)]
  exact ⟨by omega,by omega,_,_,aRule_ok _ (hr _ hm) k _ ⟨b1.own,b1.fol,b1.ends,b1.small,by have:=b1.room;omega⟩,by rw [b2];omega,⟨k+1,rfl,by omega,rfl,rfl⟩,by first | omega | (dsimp only;omega)⟩
 ·have ht:=of_decide_eq_false ht
  have hk':k=s.Rules.length:=by omega
  subst hk'
  have hS:(accM s.Rules s.Rules.length).1.Sets=S:=by rw [← ha]
  rw [hS]
  refine ⟨fun h=>?_,fun h=>?_⟩
  ·have h:=of_decide_eq_true h
   rw [if_pos (by omega),if_pos (by omega)];exact ⟨rfl,rfl⟩
  ·have h:=of_decide_eq_false h
   have h:¬ S.length > 600:=by omega
   rw [if_neg h,if_neg h]
   have hT:T=[]:=by rw [← ha] at b4;exact b4
   have hw:w64 (2 * (s.Conds.length:Int))=((2 * s.Conds.length:Nat):Int):=(zQ (by omega) (by omega)).trans (by omega)
   rw [hw]
   refine ⟨fun T t=>∃ j:Nat,t=j∧j≤2 * s.Conds.length∧T=(List.range j).map fun c=>stM s (accM s.Rules s.Rules.length).2 (c / 2) (c % 2 == 1) s.Rules.length,fun T t=>(2 * s.Conds.length - t).toNat,⟨0,rfl,by omega,by rw [hT];rfl⟩,?_⟩
   rintro T' t ⟨j,rfl,hj,rfl⟩
   rw [za7]
   refine ⟨fun ht=>?_,fun ht=>?_⟩
   ·have ht:=of_decide_eq_true ht
    have e1:w64 (Int.tdiv (j:Int) 2)=((j / 2:Nat):Int):=by
     rw [Int.tdiv_eq_ediv_of_nonneg (by omega)];exact (zQ (by omega) (by omega)).trans (by omega)
    have e2:(Int.tmod (j:Int) 2 == 1)=(j % 2 == 1):=by
     rw [Int.tmod_eq_emod_of_nonneg (by omega),Bool.eq_iff_iff];simp only [beq_iff_eq];omega
    rw [e1,e2,show w64 ((j:Int)+1)=((j+1:Nat):Int) from zQ (by omega) (by omega)]
    have hst:=start_ok s (accM s.Rules s.Rules.length).2 b2 b3 (c:=j / 2) (by omega) hn (by omega) hl (j % 2 == 1)
    rw [b2] at hst
    exact ⟨_,hst,by simp;omega,⟨j+1,rfl,by omega,by rw [List.range_succ,List.map_append];rfl⟩,by first | omega | (dsimp only;omega)⟩
   ·have ht:=of_decide_eq_false ht
    rw [show j=2 * s.Conds.length by omega]
    refine ⟨?_,rfl⟩
    unfold buildM
    rw [← ha]
end Go.Ev.Pl
namespace Go.Ev.Pl
open Go Go.Ev
theorem zdC (n:Nat) (p:Nat→Bool) (off d:Nat) (h:n+off+d < 1000000):z6 (lst n p off) d (lst n p (off+d)):=by
 have hl:=zaj n p off
 have he:lst n p (off+d)=(lst n p off).map (·+(d:Int)):=by
  simp only [lst,List.map_map]
  refine List.map_congr_left fun i _=>?_
  simp only [Function.comp];omega
 rw [he]
 refine zeD _ _ _ ⟨fun o t=>∃ i:Nat,t=i∧i≤(lst n p off).length∧o=((lst n p off).take i).map (·+(d:Int)),fun o t=>((lst n p off).length - t).toNat,⟨0,rfl,by omega,rfl⟩,?_⟩
 rintro o t ⟨i,rfl,hi,rfl⟩
 refine ⟨fun ht=>?_,fun ht=>?_⟩
 ·have ht:i < (lst n p off).length:=by simpa using ht
  have hm:=za4.1 (List.getElem_mem ht)
  obtain ⟨j,hj,_,hv⟩:=hm
  have hw:w64 (gd (lst n p off) (i:Int)+d)=(lst n p off)[i]+d:=by rw [zW ht];exact zQ (by omega) (by omega)
  have hw2:w64 ((i:Int)+1)=((i+1:Nat):Int):=zQ (by omega) (by omega)
  rw [hw,hw2]
  refine ⟨by omega,by omega,by simp;omega,⟨i+1,rfl,by omega,?_⟩,by first | omega | (dsimp only;omega)⟩
  rw [List.take_succ_eq_append_getElem ht,List.map_append];rfl
 ·have:i=(lst n p off).length:=by have:¬ i < (lst n p off).length:=by simpa using ht
                                  omega
  subst this
  rw [List.take_of_length_le (Nat.le_refl _)]
theorem rPut_ok {g:GA} (hc:Canon g) (hn:g.n < 10000) (rule:Int) (a:zh) (hb:Bd a 100000):zbe (plc g) rule a (putM g rule a):=by
 have h1:=hb.own;have h2:=hb.fol;have h3:=hb.ends;have h4:=hb.room
 have hs:=hc.sets
 refine zfL (plc g) rule a _ ⟨fun S O F E t=>∃ i:Nat,t=i∧i≤g.n∧S=a.Sets++g.sets.take i∧O=a.Owner++List.replicate i rule∧F=a.Follow++(flw g a.Sets.length).take i∧E=a.Ends++List.replicate i false,
  fun S O F E t=>(g.n - t).toNat,⟨0,rfl,by omega,by simp,by simp,by simp,by simp⟩,?_⟩
 rintro S O F E t ⟨i,rfl,hi,rfl,rfl,rfl,rfl⟩
 have hlen:(plc g).Sets.length=g.n:=hs
 have hlenF:(plc g).Follow.length=g.n:=zX _ _
 rw [hlen,hlenF]
 refine ⟨fun ht=>?_,fun ht=>?_⟩
 ·have ht:i < g.n:=by simpa using ht
  have hw2:w64 ((i:Int)+1)=((i+1:Nat):Int):=zQ (by omega) (by omega)
  have hgd:gd (plc g).Follow (i:Int)=lst g.n (g.follow i) 0:=by
   rw [zW (by rw [hlenF];exact ht)];exact zbN _ _ ht
  have hgs:gd (plc g).Sets (i:Int)=g.sets[i]'(by omega):=zW (by rw [hlen];exact ht)
  have hf:i < (flw g a.Sets.length).length:=by rw [zX];exact ht
  rw [hgd,hgs,hw2]
  refine ⟨by omega,by omega,by simp;omega,by simp;omega,by simp;omega,by omega,by omega,_,zdC _ _ 0 a.Sets.length (by omega),by simp;omega,⟨i+1,rfl,by omega,?_,?_,?_,?_⟩,by first | omega | (dsimp only;omega)⟩
  ·rw [List.take_succ_eq_append_getElem (by omega),List.append_assoc]
  ·rw [List.append_assoc,← List.replicate_succ']
  ·rw [List.take_succ_eq_append_getElem hf,zbN _ _ ht,Nat.zero_add,List.append_assoc]
  ·rw [List.append_assoc,← List.replicate_succ']
 ·have ht:i=g.n:=by have:¬ i < g.n:=by simpa using ht
                    omega
  subst ht
  rw [List.take_of_length_le (show g.sets.length≤g.n by omega),List.take_of_length_le (show (flw g a.Sets.length).length≤g.n by rw [zX];exact Nat.le_refl _)];rfl
theorem rAdd_ok (r:zj) (hr:RBody r) (hE:r.Eof=false) (i:Int) (a:zh) (hb:Bd a 50000):zbF r i a (begM r a) (addM r i a):=by
 have hb':Bd a 100000:=⟨hb.own,hb.fol,hb.ends,hb.small,by have:=hb.room;omega⟩
 have hroom:=hb.room
 have hne:¬ r.Eof=true:=by rw [hE];simp
 rcases hr with hr | ⟨-,⟨w1,q1⟩,hT⟩
 ·exact absurd hr hne
 have n1:=zcB q1
 have hc1:=zaB r.Rx
 have hbeg:begM r a=lst (gof r.Rx).n (gof r.Rx).first a.Sets.length:=by unfold begM;rw [if_neg hne]
 have hOf:=zgP r.Rx w1
 rw [q1] at hOf
 simp only [if_true] at hOf
 have e1:=zdC (gof r.Rx).n (gof r.Rx).first 0 a.Sets.length (by omega)
 have e2:=zdC (gof r.Rx).n (gof r.Rx).last 0 a.Sets.length (by omega)
 rw [Nat.zero_add] at e1 e2
 refine zfM r i a _ _ ⟨_,_,hOf,_,rPut_ok hc1 (by omega) i a hb',_,e2,?_⟩
 have fin:∀ {g:GA},g.n≤400→addM r i a=({ Sets:=a.Sets++g.sets,Owner:=a.Owner++List.replicate g.n i,Follow:=a.Follow++flw g a.Sets.length,Ends:=a.Ends++(List.range g.n).map g.last,Starts:=a.Starts }:zh)→
  ∀ S O F E St (e:List Int),(S=a.Sets++g.sets∧O=a.Owner++List.replicate g.n i∧F=a.Follow++flw g a.Sets.length∧E=a.Ends++List.replicate g.n false∧St=a.Starts∧e=lst g.n g.last a.Sets.length)→_:=fun {g} hg ha S O F E St e h=>
  let ⟨Inv,mu,h0,hs⟩:=ruleEnd (g:=g) (i:=i) (res:=begM r a) (fin:=⟨addM r i a⟩) hb hg hbeg (congrArg zm.mk ha) S O F E St e h
  (⟨Inv,mu,h0,fun E' t hI=>⟨(hs E' t hI).1,fun h2=>⟨_,e1,((hs E' t hI).2 h2).1,zm.mk.inj ((hs E' t hI).2 h2).2⟩⟩⟩:∃ (Inv:List Bool→Int→Prop) (mu:List Bool→Int→Nat),Inv E 0∧∀ (E':List Bool) (t:Int),Inv E' t→
     (decide (t < (e.length:Int))=true→0≤t∧t < (e.length:Int)∧0≤gd e t∧(gd e t).toNat < E'.length∧gd e t < (E'.length:Int)∧(Inv (E'.set (gd e t).toNat true) (w64 (t+1))∧mu (E'.set (gd e t).toNat true) (w64 (t+1)) < mu E' t))∧
     (decide (t < (e.length:Int))=false→∃ q,z6 (plc (gof r.Rx)).First a.Sets.length q∧begM r a=q∧addM r i a=({ Sets:=S,Owner:=O,Follow:=F,Ends:=E',Starts:=St }:zh)))
 rcases hT with hT | ⟨hT,w2,q2⟩
 ·have hg:gR r=gof r.Rx:=by unfold gR;rw [if_neg hne,if_pos hT]
  exact ⟨fun S O F E St e=>S=a.Sets++(gof r.Rx).sets∧O=a.Owner++List.replicate (gof r.Rx).n i∧F=a.Follow++flw (gof r.Rx) a.Sets.length∧E=a.Ends++List.replicate (gof r.Rx).n false∧St=a.Starts∧e=lst (gof r.Rx).n (gof r.Rx).last a.Sets.length,
   fin (g:=gof r.Rx) (by omega) (by unfold addM;rw [hg]),fun h=>by rw [hT] at h;simp at h,fun _=>⟨rfl,rfl,rfl,rfl,rfl,rfl⟩⟩
 ·have hg:gR r=gHT (gof r.Rx) (gof r.Trail):=by unfold gR;rw [if_neg hne,if_neg hT]
  have n2:=zcB q2
  have hc2:=zaB r.Trail
  have hOf2:=zgP r.Trail w2
  rw [q2] at hOf2
  simp only [if_true] at hOf2
  obtain ⟨A,hA⟩:∃ A,A=gof r.Rx:=⟨_,rfl⟩
  obtain ⟨B,hB⟩:∃ B,B=gof r.Trail:=⟨_,rfl⟩
  rw [← hA] at n1 hc1 hbeg e1 e2 fin ⊢
  rw [← hB] at n2 hc2 hOf2
  rw [← hA,← hB] at hg
  have hb1:Bd (putM A i a) 100000:=by
   have:=hb.put hc1 (by omega) i
   exact ⟨this.own,this.fol,this.ends,this.small,by have:=this.room;omega⟩
  have hs1:(putM A i a).Sets.length=a.Sets.length+A.n:=by simp [putM,hc1.sets]
  have hp:=rPut_ok hc2 (by omega) i (putM A i a) hb1
  have f1:=zdC B.n B.first 0 (a.Sets.length+A.n) (by omega)
  have f2:=zdC B.n B.last 0 (a.Sets.length+A.n) (by omega)
  rw [Nat.zero_add] at f1 f2
  have hF:(putM B i (putM A i a)).Follow=a.Follow++flw A a.Sets.length++flw B (a.Sets.length+A.n):=by
   show (a.Follow++flw A a.Sets.length)++flw B (putM A i a).Sets.length=_
   rw [hs1]
  have hfl:=hb.fol
  have hla:=zaj A.n A.last a.Sets.length
  have hlb:=zaj B.n B.first (a.Sets.length+A.n)
  have hlb2:=zaj B.n B.last (a.Sets.length+A.n)
  have hcat:=zgu a.Follow A B
  rw [hfl] at hcat
  have hFl:(a.Follow++flw A a.Sets.length++flw B (a.Sets.length+A.n)).length=a.Sets.length+A.n+B.n:=by simp [zX,hfl];omega
  refine ⟨fun S O F E St e=>S=a.Sets++(gHT A B).sets∧O=a.Owner++List.replicate (gHT A B).n i∧F=a.Follow++flw (gHT A B) a.Sets.length∧E=a.Ends++List.replicate (gHT A B).n false∧St=a.Starts∧e=lst (gHT A B).n (gHT A B).last a.Sets.length,
   fin (g:=gHT A B) (show A.n+B.n≤400 by omega) (by unfold addM;rw [hg]),fun _=>⟨_,_,hOf2,_,hp,?_⟩,fun h=>by exact absurd (by simpa using h) hT⟩
  rw [hs1]
  refine ⟨fun F t=>∃ j:Nat,t=j∧j≤(lst A.n A.last a.Sets.length).length∧F=leadF (a.Follow++flw A a.Sets.length++flw B (a.Sets.length+A.n)) ((lst A.n A.last a.Sets.length).take j) (lst B.n B.first (a.Sets.length+A.n)),
   fun F t=>((lst A.n A.last a.Sets.length).length - t).toNat,⟨0,rfl,by omega,?_⟩,?_⟩
  ·rw [hF];exact (List.ext_getElem (by rw [zaz]) (fun j h1 h2=>by rw [zaV _ _ _ (by rw [zaz] at h1;exact h1)];simp)).symm
  rintro F t ⟨j,rfl,hj,rfl⟩
  simp only [za7]
  refine ⟨fun ht=>?_,fun ht=>?_⟩
  ·have ht:=of_decide_eq_true ht
   obtain ⟨k,hk,_,he⟩:=za4.1 (List.getElem_mem ht)
   have hkl:k+a.Sets.length < (a.Follow++flw A a.Sets.length++flw B (a.Sets.length+A.n)).length:=by rw [hFl];omega
   obtain ⟨g1,g2⟩:=lead_step (to:=lst B.n B.first (a.Sets.length+A.n)) (zbh _ _ _) ht he hkl
   have hval:(a.Follow++flw A a.Sets.length++flw B (a.Sets.length+A.n))[k+a.Sets.length]=lst A.n (A.follow k) a.Sets.length:=by
    rw [List.getElem_append_left (by simp only [List.length_append,zX];omega),List.getElem_append_right (by omega)]
    simp only [hfl,Nat.add_sub_cancel]
    exact zbN _ _ hk
   rw [hval] at g1 g2
   have hsm:=zaj A.n (A.follow k) a.Sets.length
   rw [zdG (zbh _ _ _) (zbh _ _ _)] at g2
   rw [zW ht,show w64 ((j:Int)+1)=((j+1:Nat):Int) from zQ (by omega) (by omega),zaz,he,Int.toNat_natCast,Int.toNat_natCast,g1]
   exact ⟨by omega,by omega,by omega,by omega,by omega,by omega,by omega,by omega,by omega,_,f1,_,zff _ _ (by omega) (by omega),by omega,by omega,by omega,⟨j+1,rfl,by omega,g2⟩,by first | omega | (dsimp only;omega)⟩
  ·have ht:=of_decide_eq_false ht
   rw [List.take_of_length_le (by omega),hcat]
   have hlast:=zfd A B a.Sets.length
   have hJ:∀ e,e=lst (gHT A B).n (gHT A B).last a.Sets.length→((putM B i (putM A i a)).Sets=a.Sets++(gHT A B).sets∧(putM B i (putM A i a)).Owner=a.Owner++List.replicate (gHT A B).n i∧a.Follow++flw (gCat A B) a.Sets.length=a.Follow++flw (gHT A B) a.Sets.length∧(putM B i (putM A i a)).Ends=a.Ends++List.replicate (gHT A B).n false∧(putM B i (putM A i a)).Starts=a.Starts∧e=lst (gHT A B).n (gHT A B).last a.Sets.length):=by
    rintro e rfl
    refine ⟨?_,?_,rfl,?_,rfl,rfl⟩
    ·show (a.Sets++A.sets)++B.sets=a.Sets++(A.sets++B.sets);rw [List.append_assoc]
    ·show (a.Owner++List.replicate A.n i)++List.replicate B.n i=a.Owner++List.replicate (A.n+B.n) i
     rw [List.append_assoc,List.replicate_append_replicate]
    ·show (a.Ends++List.replicate A.n false)++List.replicate B.n false=a.Ends++List.replicate (A.n+B.n) false
     rw [List.append_assoc,List.replicate_append_replicate]
   refine ⟨fun hn=>⟨_,f2,_,zff _ _ (by omega) (by omega),hJ _ ?_⟩,fun hn=>⟨_,f2,hJ _ ?_⟩⟩
   ·have hn:B.null=true:=by rw [hB];simpa [plc,← hB] using hn
    rw [if_pos hn,zdG (zbh _ _ _) (zbh _ _ _)] at hlast
    exact hlast
   ·have hn:B.null=false:=by rw [hB];simpa [plc,← hB] using hn
    rw [if_neg (by rw [hn];simp)] at hlast
    exact hlast
end Go.Ev.Pl
namespace Go.Ev.Pl
open Go Go.Ev
theorem rActive_ok (s:api_Spec) {i c:Nat} (hi:i < s.Rules.length) (hc:c < s.Conds.length) (hr:s.Rules.length < 1000000) (hcl:s.Conds.length < 1000000) (hl:(s.Rules.getD i default).Conds.length < 1000000):zaY s i c (activeB s i c):=by
 refine zea s i c _ ?_
 simp only [List.length_map]
 have hg:gd s.Rules (i:Int)=s.Rules.getD i default:=by rw [zW hi];simp [List.getD,hi]
 have hgc:gd s.Conds (c:Int)=s.Conds.getD c default:=by rw [zW hc];simp [List.getD,hc]
 rw [hg,hgc]
 obtain ⟨L,hL⟩:∃ L,L=(s.Rules.getD i default).Conds:=⟨_,rfl⟩
 refine ⟨fun h=>?_,fun _=>⟨by omega,by omega,fun h=>?_,fun h=>?_⟩⟩
 ·simp only [Bool.or_eq_true,decide_eq_true_eq] at h;omega
 ·unfold activeB;rw [if_pos h]
 have hB:activeB s i c=if L.contains (c:Int)=true then true else if L.length=0 then !(s.Conds.getD c default).Exclusive else false:=by
  unfold activeB;rw [if_neg (by rw [h];simp),hL]
 rw [hB,← hL]
 rw [← hL] at hl
 refine ⟨fun t=>∃ k:Nat,t=k∧k≤L.length∧∀ j,∀ h:j < L.length,j < k→L[j]≠(c:Int),fun t=>(L.length - t).toNat,⟨0,rfl,by omega,fun j _ h=>by omega⟩,?_⟩
 rintro t ⟨k,rfl,hk,hno⟩
 rw [za7]
 refine ⟨fun ht=>?_,fun ht=>?_⟩
 ·have ht:=of_decide_eq_true ht
  rw [zW ht,show w64 ((k:Int)+1)=((k+1:Nat):Int) from zQ (by omega) (by omega)]
  refine ⟨by omega,by omega,fun h=>?_,fun h=>⟨⟨k+1,rfl,by omega,fun j hj hjk=>?_⟩,by first | omega | (dsimp only;omega)⟩⟩
  ·have he:L[k]=(c:Int):=by simpa using h
   rw [if_pos (List.contains_iff_mem.2 (he▸List.getElem_mem ht))]
  ·rcases Nat.lt_or_ge j k with h2 | h2
   ·exact hno j hj h2
   ·have:j=k:=by omega
    subst this
    simpa using h
 ·have ht:=of_decide_eq_false ht
  have hnc:¬ L.contains (c:Int)=true:=fun h=>by
   obtain ⟨j,hj,he⟩:=List.getElem_of_mem (List.contains_iff_mem.1 h)
   exact hno j hj (by omega) he
  rw [if_neg hnc]
  refine ⟨fun _=>by omega,fun _=>by omega,?_⟩
  by_cases h0:L.length=0
  ·rw [if_pos h0,h0];rfl
  ·rw [if_neg h0,show ((L.length:Int) == 0)=false from by simpa using h0];rfl
theorem begM_ss (r:zj) (a:zh):SS (begM r a):=by
 unfold begM
 split
 ·simp [SS]
 ·exact zbh _ _ _
theorem acc_ss (rs:List zj):∀ k,∀ b∈(accM rs k).2,SS b
 | 0,b,hb=>by simp [accM] at hb
 | k+1,b,hb=>by
   rcases List.mem_append.1 hb with hb | hb
   ·exact acc_ss rs k b hb
   ·rw [List.mem_singleton.1 hb];exact begM_ss _ _
theorem stM_ss {s:api_Spec} {bs:List (List Int)} (hb:∀ b∈bs,SS b) (c:Nat) (bol:Bool):∀ k,k≤bs.length→SS (stM s bs c bol k)
 | 0,_=>by simp [stM,SS]
 | k+1,hk=>by
   have ih:=stM_ss (s:=s) hb c bol k (by omega)
   have hbk:SS (bs.getD k []):=by
    rw [List.getD_eq_getElem?_getD,List.getElem?_eq_getElem (by omega)];exact hb _ (List.getElem_mem _)
   unfold stM
   split
   ·rw [zdG ih hbk];exact zhD ih hbk
   ·exact ih
theorem rStart (s:api_Spec) (bs:List (List Int)) (hbs:bs.length=s.Rules.length) (hb:∀ b∈bs,b.length≤400) (hss:∀ b∈bs,SS b) {c:Nat} (hc:c < s.Conds.length) (hr:s.Rules.length≤100) (hcl:s.Conds.length < 1000000) (hl:∀ r∈s.Rules,r.Conds.length < 1000000) (bol:Bool) (ci:Int) (hci:ci=c) (P:List Int→Prop) (hP:P (stM s bs c bol bs.length)) :
 (∃ (Inv214:List Int→Int→Prop) (mu215:List Int→Int→Nat),Inv214 ([]) 0∧(∀ (start_9:List Int) (i_3:Int),Inv214 start_9 i_3→(((decide (i_3 < (↑(List.length (api_Spec.Rules s)):Int)))=true→(∃ J227:List Int→Prop,(∀ (start_11:List Int),J227 start_11→(Inv214 start_11 (w64 (i_3+1))∧mu215 start_11 (w64 (i_3+1)) < mu215 start_9 i_3))∧(∃ r0_41:Bool,zaY s i_3 ci r0_41∧((r0_41)=true→(bol=false→((0:Int)≤i_3)))∧((r0_41)=true→(bol=false→i_3 < ↑(List.length (api_Spec.Rules s))))∧(((r0_41 && (bol || !zj.Bol (gd (api_Spec.Rules s) i_3)))=true→((0:Int)≤i_3)∧(Int.toNat i_3 < List.length bs)∧i_3 < ↑(List.length bs)∧(∃ r0_42:List Int,zC start_9 (gd bs i_3) r0_42∧J227 r0_42))∧((r0_41 && (bol || !zj.Bol (gd (api_Spec.Rules s) i_3)))=false→J227 start_9)))))∧((decide (i_3 < (↑(List.length (api_Spec.Rules s)):Int)))=false→P start_9)))):=by
 subst hci
 refine ⟨fun o t=>∃ k:Nat,t=k∧k≤bs.length∧o=stM s bs c bol k,fun o t=>(bs.length - t).toNat,⟨0,rfl,by omega,rfl⟩,?_⟩
 rintro o t ⟨k,rfl,hk,rfl⟩
 rw [za7]
 refine ⟨fun ht=>?_,fun ht=>?_⟩
 ·have hkr:=of_decide_eq_true ht
  have ht:k < bs.length:=by omega
  have hg:gd s.Rules (k:Int)=s.Rules.getD k default:=by rw [zW hkr];simp [List.getD,hkr]
  have hgb:gd bs (k:Int)=bs.getD k []:=by rw [zW ht];simp [List.getD,ht]
  have hs:=stM_len hb c bol (s:=s) k (by omega)
  have hbk:(bs.getD k []).length≤400:=by
   rw [List.getD_eq_getElem?_getD,List.getElem?_eq_getElem ht];exact hb _ (List.getElem_mem _)
  have hbs2:SS (bs.getD k []):=by
   rw [List.getD_eq_getElem?_getD,List.getElem?_eq_getElem ht];exact hss _ (List.getElem_mem _)
  rw [hg,hgb,show w64 ((k:Int)+1)=((k+1:Nat):Int) from zQ (by omega) (by omega)]
  refine ⟨fun o=>o=stM s bs c bol (k+1),fun o h=>⟨⟨k+1,rfl,by omega,h⟩,by first | omega | (dsimp only;omega)⟩,_,rActive_ok s hkr hc (by omega) hcl ?_,fun _ _=>by omega,fun _ _=>by omega,fun h=>⟨by omega,by omega,by omega,_,zff _ _ (by omega) (by omega),?_⟩,fun h=>?_⟩
  ·rw [List.getD_eq_getElem?_getD,List.getElem?_eq_getElem hkr];exact hl _ (List.getElem_mem _)
  ·rw [stM,if_pos (show takB s c bol k=true from h),zdG (stM_ss hss c bol k (by omega)) hbs2]
  ·rw [stM,if_neg (by rw [show takB s c bol k=false from h];simp)]
 ·have ht:=of_decide_eq_false ht
  have:k=bs.length:=by omega
  rw [this];exact hP
theorem begM_eof {r:zj} (h:r.Eof=true) (a:zh):begM r a=[]:=by unfold begM;rw [if_pos h]
theorem rBuild_ok (s:api_Spec) (hR:zaM s true) (hr:∀ r∈s.Rules,RBody r) (hn:s.Rules.length≤100) (hc:s.Conds.length≤100) (hl:∀ r∈s.Rules,r.Conds.length < 1000000) :
 za5 s (if (accM s.Rules s.Rules.length).1.Sets.length > 600 then zAuto else buildM s) (if (accM s.Rules s.Rules.length).1.Sets.length > 600 then 2 else 0):=by
 refine zcF s _ _ ⟨true,hR,(fun h=>by cases h),fun _=>⟨fun S O F E T bs t=>∃ k:Nat,t=k∧k≤s.Rules.length∧bs=(accM s.Rules k).2∧zh.mk S O F E T=(accM s.Rules k).1,fun _ _ _ _ _ _ t=>(s.Rules.length - t).toNat,⟨0,rfl,by omega,rfl,rfl⟩,?_⟩⟩
 rintro S O F E T bs t ⟨k,rfl,hk,rfl,ha⟩
 simp only [za7]
 obtain ⟨b1,b2,b3,b4⟩:=acc_bd hr k hk
 refine ⟨fun ht=>?_,fun ht=>?_⟩
 ·have ht:=of_decide_eq_true ht
  have hg:gd s.Rules (k:Int)=s.Rules.getD k default:=by rw [zW ht];simp [List.getD,ht]
  have hm:s.Rules.getD k default∈s.Rules:=by rw [List.getD_eq_getElem?_getD,List.getElem?_eq_getElem ht];exact List.getElem_mem _
  obtain ⟨r,hrr⟩:∃ r,r=s.Rules.getD k default:=⟨_,rfl⟩
  have hacc:accM s.Rules (k+1)=(addM r k (accM s.Rules k).1,(accM s.Rules k).2++[begM r (accM s.Rules k).1]):=by rw [hrr];rfl
  rw [hg,ha,show w64 ((k:Int)+1)=((k+1:Nat):Int) from zQ (by omega) (by omega),← hrr]
  rw [← hrr] at hm
  refine ⟨fun S O F E T f=>zh.mk S O F E T=addM r k (accM s.Rules k).1∧f=begM r (accM s.Rules k).1,fun S O F E T f h=>⟨by rw [b2];omega,⟨k+1,rfl,by omega,by rw [hacc,h.2],by rw [hacc];exact h.1⟩,by first | omega | (dsimp only;omega)⟩,by omega,by omega,fun h=>⟨by omega,by omega,_,_,rAdd_ok r (hr _ hm) (by simpa using h) k _ ⟨b1.own,b1.fol,b1.ends,b1.small,by have:=b1.room;omega⟩,rfl,rfl⟩,fun h=>?_⟩
  have h:r.Eof=true:=by simpa using h
  exact ⟨by rw [addM_eof h,ha],(begM_eof h _).symm⟩
 ·have ht:=of_decide_eq_false ht
  have hk':k=s.Rules.length:=by omega
  subst hk'
  have hS:(accM s.Rules s.Rules.length).1.Sets=S:=by rw [← ha]
  rw [hS]
  refine ⟨fun h=>?_,fun h=>?_⟩
  ·have h:=of_decide_eq_true h
   rw [if_pos (by omega),if_pos (by omega)];exact ⟨rfl,rfl⟩
  ·have h:=of_decide_eq_false h
   have h:¬ S.length > 600:=by omega
   rw [if_neg h,if_neg h]
   have hT:T=[]:=by rw [← ha] at b4;exact b4
   have hw:w64 (2 * (s.Conds.length:Int))=((2 * s.Conds.length:Nat):Int):=(zQ (by omega) (by omega)).trans (by omega)
   rw [hw]
   refine ⟨fun T t=>∃ j:Nat,t=j∧j≤2 * s.Conds.length∧T=(List.range j).map fun c=>stM s (accM s.Rules s.Rules.length).2 (c / 2) (c % 2 == 1) s.Rules.length,fun T t=>(2 * s.Conds.length - t).toNat,⟨0,rfl,by omega,by rw [hT];rfl⟩,?_⟩
   rintro T' t ⟨j,rfl,hj,rfl⟩
   refine ⟨fun ht=>?_,fun ht=>?_⟩
   ·have ht:=of_decide_eq_true ht
    have e1:w64 (Int.tdiv (j:Int) 2)=((j / 2:Nat):Int):=by
     rw [Int.tdiv_eq_ediv_of_nonneg (by omega)];exact (zQ (by omega) (by omega)).trans (by omega)
    have e2:(Int.tmod (j:Int) 2 == 1)=(j % 2 == 1):=by
     rw [Int.tmod_eq_emod_of_nonneg (by omega),Bool.eq_iff_iff];simp only [beq_iff_eq];omega
    rw [e2,show w64 ((j:Int)+1)=((j+1:Nat):Int) from zQ (by omega) (by omega)]
    refine rStart s (accM s.Rules s.Rules.length).2 b2 b3 (acc_ss _ _) (c:=j / 2) (by omega) hn (by omega) hl (j % 2 == 1) _ e1 _ ?_
    rw [b2]
    exact ⟨by simp;omega,⟨j+1,rfl,by omega,by rw [List.range_succ,List.map_append];rfl⟩,by first | omega | (dsimp only;omega)⟩
   ·have ht:=of_decide_eq_false ht
    rw [show j=2 * s.Conds.length by omega]
    refine ⟨?_,rfl⟩
    unfold buildM
    rw [← ha]
end Go.Ev.Pl
namespace Go.Ev.Pl
open Go Go.Ev Go.Proofs
theorem zf9 {n:Nat} {p:Nat→Bool} (h:∀ j,j < n→p j=true):(List.range n).all p=true:=List.all_eq_true.2 fun j hj=>h j (List.mem_range.1 hj)
theorem zhC {n k:Nat} {p:Nat→Bool} (hk:k < n) (h:p k=false):(List.range n).all p=false:=by
 cases e:(List.range n).all p with
 | false=>rfl
 | true=>rw [List.all_eq_true.1 e k (List.mem_range.2 hk)] at h;cases h
theorem zgF {k n:Nat} (h:k < n) (hn:n≤9223372036854775807):w64 ((k:Int)+1)=((k+1:Nat):Int):=zQ (by omega) (by omega)
def letB (c:Int):Bool:=bif decide (c≥97) then decide (c≤122) || decide (c≥65) && decide (c≤90) else decide (c≥65) && decide (c≤90)
def digB (c:Int):Bool:=decide (c≥48) && decide (c≤57)
def u8 (s:ByteArray) (i:Nat):Int:=((UInt8.toNat (byteAt s (i:Int)):Nat):Int)
def okC (z:Bool) (c:Int):Bool:=letB c || (c == 95) || (!z && digB c)
def nameB (s:ByteArray):Bool:=(List.range s.size).all (fun i=>okC (i == 0) (u8 s i)) && (!(ByteArray.toList s == ByteArray.toList { data:=#[] }) && decide ((s.size:Int)≤12))
theorem name_ok (s:ByteArray) (hs:s.size≤9223372036854775807):zdn s (nameB s):=by
 refine W_read_Name s _ ⟨fun t=>∃ k:Nat,t=k∧k≤s.size∧∀ j,j < k→okC (j == 0) (u8 s j)=true,fun t=>(s.size - t).toNat,⟨0,rfl,by omega,fun j h=>by omega⟩,?_⟩
 rintro t ⟨k,rfl,hk,hno⟩
 rw [za7]
 refine ⟨fun ht=>?_,fun ht=>?_⟩
 ·have ht:=of_decide_eq_true ht
  rw [zgF ht hs]
  have no:okC (k == 0) (u8 s k)=false→nameB s=false:=fun h=>by
   unfold nameB;rw [zhC ht h];rfl
  have nx:okC (k == 0) (u8 s k)=true→(∃ m:Nat,((k+1:Nat):Int)=m∧m≤s.size∧∀ j,j < m→okC (j == 0) (u8 s j)=true)∧(s.size - ((k+1:Nat):Int)).toNat < (s.size - (k:Int)).toNat:=fun h=>
   ⟨⟨k+1,rfl,by omega,fun j hj=>by
     rcases Nat.lt_or_ge j k with h2 | h2
     ·exact hno j h2
     ·rw [show j=k by omega];exact h⟩,by omega⟩
  have hz:((k:Int) == 0)=(k == 0):=by rw [Bool.eq_iff_iff];simp
  rw [hz]
  refine ⟨by omega,by omega,letB (u8 s k),W_read_letter _ _ rfl,fun h1=>⟨fun _=>by omega,fun _=>by omega,fun h2=>⟨fun h3=>?_,fun h3=>⟨fun _ _ _=>by omega,fun _ _ _=>by omega,digB (u8 s k),W_read_digit _ _ rfl,fun h4=>?_,fun h4=>?_⟩⟩,fun h2=>?_⟩,fun h1=>?_⟩
  ·have h1:letB (u8 s k)=false:=by simpa using h1
   have h2:(u8 s k == 95)=false:=by simpa [bne,u8] using h2
   exact no (by unfold okC;rw [h1,h2,h3];rfl)
  ·have h1:letB (u8 s k)=false:=by simpa using h1
   have h2:(u8 s k == 95)=false:=by simpa [bne,u8] using h2
   have h4:digB (u8 s k)=false:=by simpa using h4
   exact no (by unfold okC;rw [h1,h2,h3,h4];rfl)
  ·have h4:digB (u8 s k)=true:=by simpa using h4
   exact nx (by unfold okC;rw [h3,h4];simp)
  ·have h2:(u8 s k == 95)=true:=by simpa [bne,u8] using h2
   exact nx (by unfold okC;rw [h2];simp)
  ·have h1:letB (u8 s k)=true:=by simpa using h1
   exact nx (by unfold okC;rw [h1];simp)
 ·have ht:=of_decide_eq_false ht
  unfold nameB
  rw [zf9 fun j hj=>hno j (by omega)];rfl
theorem ref_c:∀ A B C D E Z F G:Bool,((!bif A then B || bif C then D || E else E else bif C then D || E else E) && (Z || (F || G)))=!((bif A then B || C && D else C && D) || E || (!Z && (!F && !G))):=by decide
theorem digB_eq (c:Int):digB c=(!decide (c < 48) && !decide (c > 57)):=by
 unfold digB;rw [Bool.eq_iff_iff];simp
theorem rName_ok (s:ByteArray) (hs:s.size≤9223372036854775807):zbv s (nameB s):=by
 refine zfo s _ ⟨fun h=>?_,fun h=>?_⟩
 ·unfold nameB
  rcases Bool.or_eq_true_iff.1 h with h | h
  ·rw [h];simp
  ·have h:=of_decide_eq_true h
   rw [decide_eq_false (show ¬ (s.size:Int)≤12 by omega)];simp
 obtain ⟨h1,h2⟩:=Bool.or_eq_false_iff.1 h
 have h2:=of_decide_eq_false h2
 have hB:nameB s=(List.range s.size).all (fun i=>okC (i == 0) (u8 s i)):=by
  unfold nameB;rw [h1,decide_eq_true (show (s.size:Int)≤12 by omega)];simp
 rw [hB]
 refine ⟨fun t=>∃ k:Nat,t=k∧k≤s.size∧∀ j,j < k→okC (j == 0) (u8 s j)=true,fun t=>(s.size - t).toNat,⟨0,rfl,by omega,fun j h=>by omega⟩,?_⟩
 rintro t ⟨k,rfl,hk,hno⟩
 rw [za7]
 refine ⟨fun ht=>?_,fun ht=>?_⟩
 ·have ht:=of_decide_eq_true ht
  have hz:((k:Int) == 0)=(k == 0):=by rw [Bool.eq_iff_iff];simp
  have hk2:(k:Int) < (s.size:Int):=by omega
  have hk0:(0:Int)≤(k:Int):=by omega
  have hc:∀ c:Int,c=u8 s k→okC (k == 0) c=((bif decide (c≥97) then decide (c≤122) || decide (c≥65) && decide (c≤90) else decide (c≥65) && decide (c≤90)) || c == 95 || (!(k == 0) && (!decide (c < 48) && !decide (c > 57)))):=fun c _=>by unfold okC;rw [digB_eq];rfl
  rw [zgF ht hs,hz]
  simp only [ref_c,hk2,hk0,implies_true,true_and]
  refine ⟨fun h=>?_,fun h=>?_⟩
  ·exact zhC ht ((hc _ rfl).trans (by simp only [Bool.not_eq_true'] at h;exact h))
  ·exact ⟨⟨k+1,rfl,by omega,fun j hj=>by
    rcases Nat.lt_or_ge j k with h2 | h2
    ·exact hno j h2
    ·rw [show j=k by omega];exact (hc _ rfl).trans (by simp only [Bool.not_eq_false'] at h;exact h)⟩,by first | omega | (dsimp only;omega)⟩
 ·have ht:=of_decide_eq_false ht
  exact zf9 fun j hj=>hno j (by omega)
def bad (l:List Int) (n:Int) (k:Nat):Bool:=decide (gd l (k:Int) < 0) || (decide (gd l (k:Int)≥n) || decide ((k:Int) > 0) && decide (gd l (k:Int)≤gd l (w64 ((k:Int) - 1))))
def riseB (l:List Int) (n:Int):Bool:=(List.range l.length).all fun i=>!bad l n i
def doesB (n:Int) (r:zj):Bool:=if r.Act=3 then decide (r.To≥0) && decide (r.To < n) else (bif r.Act == 1 then r.To == 0 else r.Act == 2 && r.To == 0)
def noneB (x:zb):Bool:=x.Kind == 0 && ((x.Set.e0 == 0 && (x.Set.e1 == 0 && (x.Set.e2 == 0 && (x.Set.e3 == 0 && true)))) && (x.Lo == 0 && (x.Hi == 0 && ((x.Kids.length:Nat):Int) == 0)))
def matB (r:zj):Bool:=if r.Eof=true then !r.Bol && (noneB r.Rx && noneB r.Trail) else rightB r.Rx && (noneB r.Trail || rightB r.Trail)
def holdB (n:Int) (r:zj):Bool:=riseB r.Conds n && (!r.All || ((r.Conds.length:Nat):Int) == 0)
def ruleB (n:Int) (r:zj):Bool:=holdB n r && (doesB n r && matB r)
def spr (r:zj):zt:=⟨r.Conds,r.All,r.Bol,r.Rx,r.Trail,r.Eof,r.Act,r.To⟩
theorem bad_k {k n:Nat} (h:k < n) (hn:n≤9223372036854775807):decide ((k:Int) > 0)=true→w64 ((k:Int) - 1)=((k - 1:Nat):Int):=fun h=>by
 have:=of_decide_eq_true h
 rw [zQ (by omega) (by omega)];omega
theorem holds_ok (r:zj) (n:Int) (hl:r.Conds.length≤9223372036854775807):zbE (spr r) n (holdB n r):=by
 refine zfK (spr r) n _ ⟨fun t=>∃ k:Nat,t=k∧k≤r.Conds.length∧∀ j,j < k→(!bad r.Conds n j)=true,fun t=>(r.Conds.length - t).toNat,⟨0,rfl,by omega,fun j h=>by omega⟩,?_⟩
 rintro t ⟨k,rfl,hk,hno⟩
 show (decide ((k:Int) < (r.Conds.length:Int))=true→(0:Int)≤k∧(k:Int) < (r.Conds.length:Int)∧(_→_→decide ((k:Int) > 0)=true→_)∧(_→_→decide ((k:Int) > 0)=true→w64 ((k:Int) - 1) < (r.Conds.length:Int))∧(bad r.Conds n k=true→_)∧(bad r.Conds n k=false→_))∧(decide ((k:Int) < (r.Conds.length:Int))=false→_)
 rw [za7]
 refine ⟨fun ht=>?_,fun ht=>?_⟩
 ·have ht:=of_decide_eq_true ht
  have hb:=bad_k ht hl
  rw [zgF ht hl]
  refine ⟨by omega,by omega,fun _ _ h=>by rw [hb h];omega,fun _ _ h=>by rw [hb h];omega,fun h=>?_,fun h=>?_⟩
  ·unfold holdB riseB;rw [zhC ht (by rw [h];rfl)];rfl
  ·exact ⟨⟨k+1,rfl,by omega,fun j hj=>by
    rcases Nat.lt_or_ge j k with h2 | h2
    ·exact hno j h2
    ·rw [show j=k by omega,h];rfl⟩,by first | omega | (dsimp only;omega)⟩
 ·have ht:=of_decide_eq_false ht
  unfold holdB riseB;rw [zf9 fun j hj=>hno j (by omega)];rfl
theorem does_ok (r:zj) (n:Int):zbJ (spr r) n (doesB n r):=by
 refine zgi (spr r) n _ ⟨fun h=>?_,fun h=>?_⟩
 ·unfold doesB;rw [if_pos (by simpa [spr] using h)];rfl
 ·unfold doesB;rw [if_neg (by simpa [spr] using h)];rfl
theorem none_ok (x:zb):zcc x (noneB x):=W_spec_none x _ rfl
theorem rNone_ok (x:zb):zaU x (noneB x):=zfn x _ rfl
theorem mat_ok (r:zj) (h1:Wf r.Rx) (h2:Wf r.Trail):zbn (spr r) (matB r):=by
 refine zeA (spr r) _ ⟨fun he=>?_,fun he=>?_⟩
 ·have he:r.Eof=true:=he
  unfold matB;rw [if_pos he]
  refine ⟨fun hb=>⟨noneB r.Rx,none_ok _,fun h3=>⟨noneB r.Trail,none_ok _,?_⟩,fun h3=>?_⟩,fun hb=>?_⟩
  ·have hb:(!r.Bol)=true:=hb
   rw [hb,h3];rfl
  ·rw [h3];simp
  ·have hb:(!r.Bol)=false:=hb
   rw [hb];rfl
 ·have he:¬ r.Eof=true:=by rw [show r.Eof=false from he];simp
  unfold matB;rw [if_neg he]
  refine ⟨rightB r.Rx,zc6 _ h1,fun h3=>⟨noneB r.Trail,none_ok _,fun h4=>?_,fun h4=>⟨rightB r.Trail,zc6 _ h2,?_⟩⟩,fun h3=>?_⟩
  ·rw [h3,h4];rfl
  ·rw [h3,h4];rfl
  ·rw [h3];rfl
def Ask (n:Int) (r:zj):Prop:=r.Conds.length≤9223372036854775807∧(riseB r.Conds n=true→Wf r.Rx∧Wf r.Trail)
theorem oddR_ok {r:zj} {n:Int} (h:Ask n r):zb3 r n (!ruleB n r) n:=by
 refine zhH r n _ _ ⟨holdB n r,holds_ok r n h.1,fun h1=>?_,fun h1=>⟨doesB n r,does_ok r n,fun h2=>?_,fun h2=>⟨matB r,mat_ok r ?_ ?_,?_,rfl⟩⟩⟩
 ·unfold ruleB;rw [show holdB n r=false by simpa using h1];exact ⟨rfl,rfl⟩
 ·unfold ruleB;rw [show doesB n r=false by simpa using h2];simp
 ·exact (h.2 (by have h1:holdB n r=true:=by simpa using h1
                 unfold holdB at h1;exact (Bool.and_eq_true_iff.1 h1).1)).1
 ·exact (h.2 (by have h1:holdB n r=true:=by simpa using h1
                 unfold holdB at h1;exact (Bool.and_eq_true_iff.1 h1).1)).2
 ·unfold ruleB;rw [show holdB n r=true by simpa using h1,show doesB n r=true by simpa using h2];rfl
theorem big_eq {n:Int} (hn:1≤n) (r:zj):(bif r.All then decide (((r.Conds.length:Nat):Int) > 0) || (decide (r.Act < 1) || (decide (r.Act > 3) || (decide (r.To < 0) || (decide (r.To≥n) || r.Act != 3 && r.To != 0)))) else decide (r.Act < 1) || (decide (r.Act > 3) || (decide (r.To < 0) || (decide (r.To≥n) || r.Act != 3 && r.To != 0)))) =
 !((!r.All || ((r.Conds.length:Nat):Int) == 0) && doesB n r):=by
 have hx:(decide (r.Act < 1) || (decide (r.Act > 3) || (decide (r.To < 0) || (decide (r.To≥n) || r.Act != 3 && r.To != 0))))=!doesB n r:=by
  rw [Bool.eq_iff_iff]
  unfold doesB
  split
  ·rename_i h;simp [h]
  ·rename_i h
   by_cases h1:r.Act=1
   ·simp [h1];omega
   ·by_cases h2:r.Act=2
    ·simp [h2];omega
    ·simp [h,h1,h2];omega
 rw [hx]
 cases r.All with
 | false=>rfl
 | true=>
   have:decide (((r.Conds.length:Nat):Int) > 0)=!(((r.Conds.length:Nat):Int) == 0):=by
    rcases Nat.eq_zero_or_pos r.Conds.length with h | h
    ·rw [h];rfl
    ·rw [decide_eq_true (by omega),beq_eq_false_iff_ne.2 (by omega)];rfl
   rw [this];simp
theorem rRule_ok {r:zj} {n:Int} (hn:1≤n) (h:Ask n r):zaT r n (ruleB n r):=by
 have hl:=h.1
 refine zfm r n _ ⟨fun t=>∃ k:Nat,t=k∧k≤r.Conds.length∧∀ j,j < k→(!bad r.Conds n j)=true,fun t=>(r.Conds.length - t).toNat,⟨0,rfl,by omega,fun j h=>by omega⟩,?_⟩
 rintro t ⟨k,rfl,hk,hno⟩
 simp only [List.length_map]
 rw [za7,big_eq hn]
 refine ⟨fun ht=>?_,fun ht=>?_⟩
 ·have ht:=of_decide_eq_true ht
  have hb:=bad_k ht hl
  rw [zgF ht hl]
  refine ⟨by omega,by omega,fun _=>by omega,fun _=>by omega,fun _ _ _=>by omega,fun _ _ _=>by omega,fun _ _ h=>by rw [hb h];omega,fun _ _ h=>by rw [hb h];omega,fun h=>?_,fun h=>?_⟩
  ·unfold ruleB holdB riseB;rw [zhC ht (by rw [show bad r.Conds n k=true from h];rfl)];rfl
  ·exact ⟨⟨k+1,rfl,by omega,fun j hj=>by
    rcases Nat.lt_or_ge j k with h2 | h2
    ·exact hno j h2
    ·rw [show j=k by omega,show bad r.Conds n k=false from h];rfl⟩,by first | omega | (dsimp only;omega)⟩
 ·have ht:=of_decide_eq_false ht
  have hr:riseB r.Conds n=true:=zf9 fun j hj=>hno j (by omega)
  obtain ⟨w1,w2⟩:=h.2 hr
  have hR:ruleB n r=((!r.All || ((r.Conds.length:Nat):Int) == 0) && doesB n r && matB r):=by
   unfold ruleB holdB;rw [hr,Bool.true_and,Bool.and_assoc]
  refine ⟨fun h=>?_,fun h=>?_⟩
  ·rw [hR,show ((!r.All || ((r.Conds.length:Nat):Int) == 0) && doesB n r)=false by simpa only [Bool.not_eq_true'] using h];rfl
  rw [hR,show ((!r.All || ((r.Conds.length:Nat):Int) == 0) && doesB n r)=true by simpa only [Bool.not_eq_false'] using h,Bool.true_and]
  refine ⟨fun he=>?_,fun he=>?_⟩
  ·unfold matB;rw [if_pos he]
   refine ⟨fun hb=>⟨noneB r.Rx,rNone_ok _,fun h3=>⟨noneB r.Trail,rNone_ok _,?_⟩,fun h3=>?_⟩,fun hb=>?_⟩
   ·rw [hb,h3];rfl
   ·rw [h3];simp
   ·rw [hb];rfl
  ·unfold matB;rw [if_neg (by rw [he];simp)]
   refine ⟨rightB r.Rx,zcO _ w1,fun h3=>⟨noneB r.Trail,rNone_ok _,fun h4=>?_,fun h4=>⟨rightB r.Trail,zcO _ w2,?_⟩⟩,fun h3=>?_⟩
   ·rw [h3,h4];rfl
   ·rw [h3,h4];rfl
   ·rw [h3];rfl
end Go.Ev.Pl
namespace Go.Ev
open Go Go.RowKit
variable {P : Program}
def Rd {α:Type} (enc:α→FV) (sz:Nat) (W:World) (v:α) (cs:List Value):Prop:=
 cs.length=sz∧((enc v).cells.length=sz∧∀ (j:Nat) y u,(enc v).cells[j]?=some y→cs[j]?=some u→RF no W y u)
def RdTy (P:Program) (t:TypeId) {α:Type} (enc:α→FV) (sz:Nat) (Wf:α→Prop):Prop:=
 ∀ (H:Type) (e:TypeId×Value→H) (W:World) (fuel:Nat) (cs:List Value) x,DataW.trod e P W 0 (fun _=>true) true fuel t cs=some x→∃ v,Wf v∧Rd enc sz W v cs
theorem zgR {t:TypeId} {k:IntKind} (ht:P.underlying t=some (.int k)):RdTy P t (fun n:Int=>.pv (.int k n)) 1 (fun n=>(Lit.int k n).wf=true):=by
 intro H e W fuel cs x h
 cases fuel with
 | zero=>simp [DataW.trod] at h
 | succ m=>
   unfold DataW.trod at h
   rw [ht] at h
   dsimp only at h
   split at h
   all_goals try (simp_all;done)
   rename_i k1 k2 n hk
   split at h
   ·rename_i hw
    cases hk
    obtain ⟨rfl,hw⟩:=hw
    refine ⟨n,hw,rfl,rfl,fun j y u h1 h2=>?_⟩
    match j with
    | 0=>cases h1;cases h2;exact .pv _ rfl
    | j+1=>cases h2
   ·cases h
theorem zgT {t:TypeId} (ht:P.underlying t=some .bool):RdTy P t (fun b:Bool=>.pv (.bool b)) 1 (fun _=>True):=by
 intro H e W fuel cs x h
 cases fuel with
 | zero=>simp [DataW.trod] at h
 | succ m=>
   unfold DataW.trod at h
   rw [ht] at h
   dsimp only at h
   split at h
   all_goals try (simp_all;done)
   rename_i b hb
   refine ⟨b,trivial,rfl,rfl,fun j y u h1 h2=>?_⟩
   match j with
   | 0=>cases h1;cases h2;exact .pv _ rfl
   | j+1=>cases h2
theorem rd_string {t:TypeId} (ht:P.underlying t=some .string):RdTy P t (fun s:ByteArray=>.pv (.string s)) 1 (fun s=>s.size≤maxLen):=by
 intro H e W fuel cs x h
 cases fuel with
 | zero=>simp [DataW.trod] at h
 | succ m=>
   unfold DataW.trod at h
   rw [ht] at h
   dsimp only at h
   split at h
   all_goals try (simp_all;done)
   rename_i s hs
   split at h
   ·rename_i hw
    refine ⟨s,hw,rfl,rfl,fun j y u h1 h2=>?_⟩
    match j with
    | 0=>cases h1;cases h2;exact .pv _ rfl
    | j+1=>cases h2
   ·cases h
theorem list_mk {α:Type} {enc:α→FV} {sz:Nat} (h0:0 < sz) {W:World} {len cap:Nat} {a:Addr} (hl:len≤cap) {f:Nat→α} {cs:Nat→List Value}
 (hc:∀ i,i < len→W.cells? 0 (a.add (i * sz)) sz=some (cs i)) (hr:∀ i,i < len→Rd enc sz W (f i) (cs i)) :
 RF no W (.sl (List.map enc ((List.range len).map f))) (.slice (some a) len cap):=by
 rcases Nat.eq_zero_or_pos len with rfl | hp
 ·exact RF.nil
 have hcell:∀ i j,i < len→j < sz→W.cell? (a.add (i * sz+j))=(cs i)[j]?:=fun i j hi hj=>by
  rw [← Go.Deep.add_add];exact (World.cells?_some (hc i hi)).2.2 j hj
 have hsome:∀ i j,i < len→j < sz→∃ v,(cs i)[j]?=some v:=fun i j hi hj=>⟨_,List.getElem?_eq_getElem (by rw [(hr i hi).1];exact hj)⟩
 obtain ⟨b,off,spot⟩:=a
 have hspot:spot=none:=by
  obtain ⟨v,hv⟩:=hsome 0 0 hp h0
  simpa [Addr.add] using World.cell?_spot ((hcell 0 0 hp h0).trans hv)
 subst hspot
 have hb:b < W.heap.size:=by
  obtain ⟨v,hv⟩:=hsome 0 0 hp h0
  have:=cell_lt ((hcell 0 0 hp h0).trans hv)
  simpa [Addr.add] using this
 have hel:∀ (i:Nat) x,(List.map enc ((List.range len).map f))[i]?=some x→i < len∧x=enc (f i):=by
  intro i x h
  rw [List.getElem?_map,List.getElem?_map] at h
  by_cases hi:i < len
  ·rw [List.getElem?_range hi] at h;exact ⟨hi,by simpa using h.symm⟩
  ·rw [List.getElem?_eq_none (by simpa using hi)] at h;simp at h
 refine RF.sl _ _ _ _ ⟨b,off,none⟩ sz (by simp) hl (fun _=>⟨rfl,rfl,rfl,hb⟩) ?_ ?_ ?_
 ·intro y hy
  obtain ⟨r,hm,rfl⟩:=List.mem_map.1 hy
  obtain ⟨i,hi,rfl⟩:=List.mem_map.1 hm
  exact (hr i (List.mem_range.1 hi)).2.1
 ·intro i x j y h1 h2
  obtain ⟨hi,rfl⟩:=hel i x h1
  have hj:j < sz:=by have:=(List.getElem?_eq_some_iff.1 h2).1;rw [(hr i hi).2.1] at this;exact this
  obtain ⟨v,hv⟩:=hsome i j hi hj
  have:=(hcell i j hi hj).trans hv
  rw [Go.WideShapes.add_plain] at this
  exact ⟨v,this⟩
 ·intro i x j y v h1 h2 h3
  obtain ⟨hi,rfl⟩:=hel i x h1
  have hj:j < sz:=by have:=(List.getElem?_eq_some_iff.1 h2).1;rw [(hr i hi).2.1] at this;exact this
  have:=hcell i j hi hj
  rw [Go.WideShapes.add_plain] at this
  exact (hr i hi).2.2 j y v h2 (this.symm.trans h3)
theorem rd_listN {t e:TypeId} {α:Type} [Inhabited α] {enc:α→FV} {sz:Nat} {Wf:α→Prop} (ht:P.underlying t=some (.slice e)) (hs:P.cellsOf e=sz) (h0:0 < sz) {H:Type} {ee:TypeId×Value→H} {W:World} {fuel:Nat} {cs:List Value} {x:DataW H×List MemPlace}
 (hx:DataW.trod ee P W 0 (fun _=>true) true fuel t cs=some x) (h:∀ m,m < fuel→∀ cs y,DataW.trod ee P W 0 (fun _=>true) true m e cs=some y→∃ v,Wf v∧Rd enc sz W v cs) :
 ∃ l:List α,(l.length≤maxLen∧∀ x∈l,Wf x)∧Rd (fun l:List α=>.sl (List.map enc l)) 1 W l cs:=by
 have one:∀ (l:List α) (u:Value),RF no W (.sl (List.map enc l)) u→Rd (fun l:List α=>.sl (List.map enc l)) 1 W l [u]:=fun l u hr=>⟨rfl,rfl,fun j y v h1 h2=>by
  match j with
  | 0=>cases h1;cases h2;exact hr
  | j+1=>cases h2⟩
 rcases DataW.trod_slice ht hx with ⟨hs',-⟩ | ⟨a,len,cap,el,rest,m,hm,hs',-,-,hlc,hcm,hel,hel2,-,-⟩
 ·subst hs'
  exact ⟨[],⟨by simp,fun y hy=>by simp at hy⟩,one [] _ RF.nil⟩
 ·subst hs'
  have hone:∀ i,i < len→∃ p:α×List Value,Wf p.1∧Rd enc sz W p.1 p.2∧W.cells? 0 (a.add (i * sz)) sz=some p.2:=by
   intro i hi
   have:=hel2 i hi
   rw [hs,List.getElem?_eq_getElem (by omega)] at this
   obtain ⟨cs',k1,k2⟩:=Option.bind_eq_some_iff.1 this
   obtain ⟨r,k3,k4⟩:=h m (by omega) cs' _ k2
   exact ⟨(r,cs'),k3,k4,k1⟩
  haveI:Inhabited (α×List Value):=⟨(default,[])⟩
  obtain ⟨f,hfam⟩:=Go.Deep.choose_lt hone
  refine ⟨(List.range len).map fun i=>(f i).1,⟨by simp;omega,fun y hy=>?_⟩,one _ _ (list_mk h0 (cs:=fun i=>(f i).2) hlc (fun i hi=>(hfam i hi).2.2) fun i hi=>(hfam i hi).2.1)⟩
  obtain ⟨i,hi,rfl⟩:=List.mem_map.1 hy
  exact (hfam i (List.mem_range.1 hi)).1
theorem rd_list {t e:TypeId} {α:Type} [Inhabited α] {enc:α→FV} {sz:Nat} {Wf:α→Prop} (ht:P.underlying t=some (.slice e)) (hs:P.cellsOf e=sz) (h0:0 < sz) (h:RdTy P e enc sz Wf) :
 RdTy P t (fun l:List α=>.sl (List.map enc l)) 1 (fun l=>l.length≤maxLen∧∀ x∈l,Wf x):=
 fun H ee W fuel cs x hx=>rd_listN ht hs h0 hx fun m _ cs y hy=>h H ee W m cs y hy
theorem zfz {t:TypeId} {fs:Array Field} {H:Type} {e:TypeId×Value→H} {W:World} {fuel:Nat} {cs:List Value} {x:DataW H×List MemPlace} (ht:P.underlying t=some (.struct fs)) (h:DataW.trod e P W 0 (fun _=>true) true fuel t cs=some x) :
 cs.length=P.cellsOf t∧∀ (i:Nat) f,fs[i]?=some f→∀ (o:Nat) t' l,f.offset=o→f.type=t'→(cs.drop o).take (P.cellsOf t')=l→∃ m y,m < fuel∧DataW.trod e P W 0 (fun _=>true) true m t' l=some y:=by
 obtain ⟨xs,n,rfl,-,hl,hx,hf⟩:=DataW.trod_struct ht h
 refine ⟨hl,?_⟩
 rintro i f hi _ _ l rfl rfl rfl
 have:=hf i f hi
 have hlt:i < fs.size:=(Array.getElem?_eq_some_iff.1 hi).1
 rw [List.getElem?_eq_getElem (by rw [hx];exact hlt)] at this
 exact ⟨n,_,by omega,this⟩
theorem zgS {t:TypeId} {fs:Array Field} {H:Type} {e:TypeId×Value→H} {W:World} {fuel:Nat} {cs:List Value} {x:DataW H×List MemPlace} (ht:P.underlying t=some (.struct fs)) (h:DataW.trod e P W 0 (fun _=>true) true fuel t cs=some x) :
 cs.length=P.cellsOf t∧∀ (i:Nat) f,fs[i]?=some f→∀ (o:Nat) t' l,f.offset=o→f.type=t'→(cs.drop o).take (P.cellsOf t')=l→∃ m y,DataW.trod e P W 0 (fun _=>true) true m t' l=some y:=
 ⟨(zfz ht h).1,fun i f hi o t' l h1 h2 h3=>let ⟨m,y,_,hy⟩:=(zfz ht h).2 i f hi o t' l h1 h2 h3;⟨m,y,hy⟩⟩
theorem rd_elems {t e':TypeId} {n:Nat} {H:Type} {e:TypeId×Value→H} {W:World} {fuel:Nat} {cs:List Value} {x:DataW H×List MemPlace} (ht:P.underlying t=some (.array n e')) (h:DataW.trod e P W 0 (fun _=>true) true fuel t cs=some x) :
 cs.length=P.cellsOf t∧∀ i,i < n→∃ m y,DataW.trod e P W 0 (fun _=>true) true m e' ((cs.drop (i * P.cellsOf e')).take (P.cellsOf e'))=some y:=by
 cases fuel with
 | zero=>simp [DataW.trod] at h
 | succ m=>
   unfold DataW.trod at h
   rw [ht] at h
   simp only at h
   split at h
   ·rename_i hl
    simp only [Option.map_eq_some_iff] at h
    obtain ⟨xs,h1,-⟩:=h
    refine ⟨hl,fun i hi=>?_⟩
    have h2:=mapM_some_get h1 i i (by simp [hi])
    have h3:xs.length=n:=by simpa using mapM_some_length h1
    rw [List.getElem?_eq_getElem (by omega)] at h2
    exact ⟨m,_,h2⟩
   ·simp at h
theorem Rd.one {α:Type} {enc:α→FV} {W:World} {v:α} {cs:List Value} (h:Rd enc 1 W v cs):∃ u y,cs=[u]∧(enc v).cells=[y]∧RF no W y u:=by
 obtain ⟨h1,h2,h3⟩:=h
 match cs,h1 with
 | [u],_=>
   obtain ⟨y,hy⟩:∃ y,(enc v).cells=[y]:=by
    match hc:(enc v).cells,h2 with
    | [y],_=>exact ⟨y,rfl⟩
   exact ⟨u,y,rfl,hy,h3 0 y u (by rw [hy];rfl) rfl⟩
end Go.Ev
namespace Go.Ev.Pl
open Go Go.Ev Go.Proofs Go.RowKit
theorem rd_set:RdTy Tryz.prog 25 ze 4 (fun _=>True):=by
 intro H e W fuel cs x h
 obtain ⟨hl,hf⟩:=rd_elems Tryz.underlying25 h
 have e1:Tryz.prog.cellsOf 25=4:=by kernel_rfl
 have e2:Tryz.prog.cellsOf 23=1:=by kernel_rfl
 rw [e1] at hl
 rw [e2] at hf
 have g:∀ i,i < 4→∃ z,(cs.drop i).take 1=[Value.int .u64 z]:=fun i hi=>by
  obtain ⟨m,y,hm⟩:=hf i hi
  rw [Nat.mul_one] at hm
  obtain ⟨z,-,hr⟩:=zgR Tryz.underlying23 _ _ _ _ _ _ hm
  obtain ⟨u,y,h1,h2,h3⟩:=hr.one
  refine ⟨z,?_⟩
  rw [h1]
  cases h2;cases h3;rfl
 obtain ⟨a,g0⟩:=g 0 (by omega)
 obtain ⟨b,g1⟩:=g 1 (by omega)
 obtain ⟨c,g2⟩:=g 2 (by omega)
 obtain ⟨d,g3⟩:=g 3 (by omega)
 match cs,hl with
 | [c0,c1,c2,c3],_=>
   cases g0;cases g1;cases g2;cases g3
   refine ⟨⟨a,b,c,d⟩,trivial,rfl,rfl,fun j y u h1 h2=>?_⟩
   match j with
   | 0=>cases h1;cases h2;exact .pv _ rfl
   | 1=>cases h1;cases h2;exact .pv _ rfl
   | 2=>cases h1;cases h2;exact .pv _ rfl
   | 3=>cases h1;cases h2;exact .pv _ rfl
   | j+4=>cases h2
theorem k1:Tryz.prog.cellsOf 3=1∧Tryz.prog.cellsOf 25=4∧Tryz.prog.cellsOf 26=1∧Tryz.prog.cellsOf 28=8∧Tryz.prog.cellsOf 9=1∧Tryz.prog.cellsOf 4=1∧Tryz.prog.cellsOf 40=1∧Tryz.prog.cellsOf 34=1∧Tryz.prog.cellsOf 35=1∧Tryz.prog.cellsOf 57=2∧Tryz.prog.cellsOf 60=22∧Tryz.prog.cellsOf 37=3:=by
 refine ⟨?_,?_,?_,?_,?_,?_,?_,?_,?_,?_,?_,?_⟩<;>kernel_rfl
set_option maxRecDepth 20000 in
theorem rd_rx:RdTy Tryz.prog 28 zn 8 WfB:=by
 intro H e W fuel
 induction fuel using Nat.strongRecOn with
 | ind fuel ih=>
   intro cs x h
   obtain ⟨hl,hf⟩:=zfz Tryz.underlying28 h
   rw [k1.2.2.2.1] at hl
   match cs,hl with
   | [c0,c1,c2,c3,c4,c5,c6,c7],_=>
     obtain ⟨_,_,-,h0⟩:=hf 0 _ rfl 0 3 [c0] rfl rfl (by rw [k1.1];rfl)
     obtain ⟨_,_,-,h1⟩:=hf 1 _ rfl 1 25 [c1,c2,c3,c4] rfl rfl (by rw [k1.2.1];rfl)
     obtain ⟨_,_,-,h2⟩:=hf 2 _ rfl 5 3 [c5] rfl rfl (by rw [k1.1];rfl)
     obtain ⟨_,_,-,h3⟩:=hf 3 _ rfl 6 3 [c6] rfl rfl (by rw [k1.1];rfl)
     obtain ⟨_,_,l4,h4⟩:=hf 4 _ rfl 7 26 [c7] rfl rfl (by rw [k1.2.2.1];rfl)
     obtain ⟨n0,-,r0⟩:=zgR Tryz.underlying3 _ _ _ _ _ _ h0
     obtain ⟨s,-,r1⟩:=rd_set _ _ _ _ _ _ h1
     obtain ⟨n2,-,r2⟩:=zgR Tryz.underlying3 _ _ _ _ _ _ h2
     obtain ⟨n3,-,r3⟩:=zgR Tryz.underlying3 _ _ _ _ _ _ h3
     obtain ⟨ks,w4,r4⟩:=rd_listN (Wf:=WfB) Tryz.underlying26 k1.2.2.2.1 (by omega) h4 fun m hm cs y hy=>ih m (by omega) cs y hy
     have hm:maxLen=9223372036854775807:=by decide
     refine ⟨⟨n0,s,n2,n3,ks⟩,(wfB_eq _).2 ⟨by have:=w4.1;simp only;omega,w4.2⟩,rfl,(by rw [zL];rfl),fun j y u q1 q2=>?_⟩
     rw [zL] at q1
     match j with
     | 0=>cases q1;cases q2;exact r0.2.2 0 _ _ rfl rfl
     | 1=>cases q1;cases q2;exact r1.2.2 0 _ _ rfl rfl
     | 2=>cases q1;cases q2;exact r1.2.2 1 _ _ rfl rfl
     | 3=>cases q1;cases q2;exact r1.2.2 2 _ _ rfl rfl
     | 4=>cases q1;cases q2;exact r1.2.2 3 _ _ rfl rfl
     | 5=>cases q1;cases q2;exact r2.2.2 0 _ _ rfl rfl
     | 6=>cases q1;cases q2;exact r3.2.2 0 _ _ rfl rfl
     | 7=>cases q1;cases q2;exact r4.2.2 0 _ _ rfl rfl
     | j+8=>cases q2
set_option maxRecDepth 20000 in
theorem rd_cond:RdTy Tryz.prog 57 zu 2 (fun c=>c.Name.size≤maxLen):=by
 intro H e W fuel cs x h
 obtain ⟨hl,hf⟩:=zgS Tryz.underlying57 h
 rw [k1.2.2.2.2.2.2.2.2.2.1] at hl
 match cs,hl with
 | [c0,c1],_=>
   obtain ⟨_,_,h0⟩:=hf 0 _ rfl 0 9 [c0] rfl rfl (by rw [k1.2.2.2.2.1];rfl)
   obtain ⟨_,_,h1⟩:=hf 1 _ rfl 1 4 [c1] rfl rfl (by rw [k1.2.2.2.2.2.1];rfl)
   obtain ⟨n,w0,r0⟩:=rd_string Tryz.underlying9 _ _ _ _ _ _ h0
   obtain ⟨b,-,r1⟩:=zgT Tryz.underlying4 _ _ _ _ _ _ h1
   refine ⟨⟨n,b⟩,w0,rfl,rfl,fun j y u q1 q2=>?_⟩
   match j with
   | 0=>cases q1;cases q2;exact r0.2.2 0 _ _ rfl rfl
   | 1=>cases q1;cases q2;exact r1.2.2 0 _ _ rfl rfl
   | j+2=>cases q2
def WfR (r:zj):Prop:=r.Conds.length≤maxLen∧WfB r.Rx∧WfB r.Trail
set_option maxRecDepth 20000 in
theorem rd_rule:RdTy Tryz.prog 60 zw 22 WfR:=by
 intro H e W fuel cs x h
 obtain ⟨hl,hf⟩:=zgS Tryz.underlying60 h
 rw [k1.2.2.2.2.2.2.2.2.2.2.1] at hl
 match cs,hl with
 | [c0,c1,c2,c3,c4,c5,c6,c7,c8,c9,c10,c11,c12,c13,c14,c15,c16,c17,c18,c19,c20,c21],_=>
   obtain ⟨_,_,h0⟩:=hf 0 _ rfl 0 40 [c0] rfl rfl (by rw [k1.2.2.2.2.2.2.1];rfl)
   obtain ⟨_,_,h1⟩:=hf 1 _ rfl 1 4 [c1] rfl rfl (by rw [k1.2.2.2.2.2.1];rfl)
   obtain ⟨_,_,h2⟩:=hf 2 _ rfl 2 4 [c2] rfl rfl (by rw [k1.2.2.2.2.2.1];rfl)
   obtain ⟨_,_,h3⟩:=hf 3 _ rfl 3 28 [c3,c4,c5,c6,c7,c8,c9,c10] rfl rfl (by rw [k1.2.2.2.1];rfl)
   obtain ⟨_,_,h4⟩:=hf 4 _ rfl 11 28 [c11,c12,c13,c14,c15,c16,c17,c18] rfl rfl (by rw [k1.2.2.2.1];rfl)
   obtain ⟨_,_,h5⟩:=hf 5 _ rfl 19 4 [c19] rfl rfl (by rw [k1.2.2.2.2.2.1];rfl)
   obtain ⟨_,_,h6⟩:=hf 6 _ rfl 20 3 [c20] rfl rfl (by rw [k1.1];rfl)
   obtain ⟨_,_,h7⟩:=hf 7 _ rfl 21 3 [c21] rfl rfl (by rw [k1.1];rfl)
   obtain ⟨cs,w0,r0⟩:=rd_list Tryz.underlying40 k1.1 (by omega) (zgR Tryz.underlying3) _ _ _ _ _ _ h0
   obtain ⟨a,-,r1⟩:=zgT Tryz.underlying4 _ _ _ _ _ _ h1
   obtain ⟨b,-,r2⟩:=zgT Tryz.underlying4 _ _ _ _ _ _ h2
   obtain ⟨p,w3,r3⟩:=rd_rx _ _ _ _ _ _ h3
   obtain ⟨t,w4,r4⟩:=rd_rx _ _ _ _ _ _ h4
   obtain ⟨f,-,r5⟩:=zgT Tryz.underlying4 _ _ _ _ _ _ h5
   obtain ⟨n6,-,r6⟩:=zgR Tryz.underlying3 _ _ _ _ _ _ h6
   obtain ⟨n7,-,r7⟩:=zgR Tryz.underlying3 _ _ _ _ _ _ h7
   refine ⟨⟨cs,a,b,p,t,f,n6,n7⟩,⟨w0.1,w3,w4⟩,rfl,rfl,fun j y u q1 q2=>?_⟩
   have g3:=fun k y u h1 h2=>r3.2.2 k y u (by rw [zL];exact h1) h2
   have g4:=fun k y u h1 h2=>r4.2.2 k y u (by rw [zL];exact h1) h2
   match j with
   | 0=>cases q1;cases q2;exact r0.2.2 0 _ _ rfl rfl
   | 1=>cases q1;cases q2;exact r1.2.2 0 _ _ rfl rfl
   | 2=>cases q1;cases q2;exact r2.2.2 0 _ _ rfl rfl
   | 3=>cases q1;cases q2;exact g3 0 _ _ rfl rfl
   | 4=>cases q1;cases q2;exact g3 1 _ _ rfl rfl
   | 5=>cases q1;cases q2;exact g3 2 _ _ rfl rfl
   | 6=>cases q1;cases q2;exact g3 3 _ _ rfl rfl
   | 7=>cases q1;cases q2;exact g3 4 _ _ rfl rfl
   | 8=>cases q1;cases q2;exact g3 5 _ _ rfl rfl
   | 9=>cases q1;cases q2;exact g3 6 _ _ rfl rfl
   | 10=>cases q1;cases q2;exact g3 7 _ _ rfl rfl
   | 11=>cases q1;cases q2;exact g4 0 _ _ rfl rfl
   | 12=>cases q1;cases q2;exact g4 1 _ _ rfl rfl
   | 13=>cases q1;cases q2;exact g4 2 _ _ rfl rfl
   | 14=>cases q1;cases q2;exact g4 3 _ _ rfl rfl
   | 15=>cases q1;cases q2;exact g4 4 _ _ rfl rfl
   | 16=>cases q1;cases q2;exact g4 5 _ _ rfl rfl
   | 17=>cases q1;cases q2;exact g4 6 _ _ rfl rfl
   | 18=>cases q1;cases q2;exact g4 7 _ _ rfl rfl
   | 19=>cases q1;cases q2;exact r5.2.2 0 _ _ rfl rfl
   | 20=>cases q1;cases q2;exact r6.2.2 0 _ _ rfl rfl
   | 21=>cases q1;cases q2;exact r7.2.2 0 _ _ rfl rfl
   | j+22=>cases q2
structure WfS (s:api_Spec):Prop where
 conds:s.Conds.length≤maxLen
 names:∀ c∈s.Conds,c.Name.size≤maxLen
 rules:s.Rules.length≤maxLen
 rule:∀ r∈s.Rules,WfR r
set_option maxRecDepth 20000 in
theorem rd_spec:RdTy Tryz.prog 37 enc_api_Spec 3 WfS:=by
 intro H e W fuel cs x h
 obtain ⟨hl,hf⟩:=zgS Tryz.underlying37 h
 rw [k1.2.2.2.2.2.2.2.2.2.2.2] at hl
 match cs,hl with
 | [c0,c1,c2],_=>
   obtain ⟨_,_,h0⟩:=hf 0 _ rfl 0 34 [c0] rfl rfl (by rw [k1.2.2.2.2.2.2.2.1];rfl)
   obtain ⟨_,_,h1⟩:=hf 1 _ rfl 1 4 [c1] rfl rfl (by rw [k1.2.2.2.2.2.1];rfl)
   obtain ⟨_,_,h2⟩:=hf 2 _ rfl 2 35 [c2] rfl rfl (by rw [k1.2.2.2.2.2.2.2.2.1];rfl)
   obtain ⟨C,w0,r0⟩:=rd_list Tryz.underlying34 k1.2.2.2.2.2.2.2.2.2.1 (by omega) rd_cond _ _ _ _ _ _ h0
   obtain ⟨b,-,r1⟩:=zgT Tryz.underlying4 _ _ _ _ _ _ h1
   obtain ⟨R,w2,r2⟩:=rd_list Tryz.underlying35 k1.2.2.2.2.2.2.2.2.2.2.1 (by omega) rd_rule _ _ _ _ _ _ h2
   refine ⟨⟨C,b,R⟩,⟨w0.1,w0.2,w2.1,w2.2⟩,rfl,rfl,fun j y u q1 q2=>?_⟩
   match j with
   | 0=>cases q1;cases q2;exact r0.2.2 0 _ _ rfl rfl
   | 1=>cases q1;cases q2;exact r1.2.2 0 _ _ rfl rfl
   | 2=>cases q1;cases q2;exact r2.2.2 0 _ _ rfl rfl
   | j+3=>cases q2
theorem r1_spec {W:World} {s:api_Spec} {cs:Array Value} (h:Rd enc_api_Spec 3 W s cs.toList):R1 Tryz.prog [] no W (zK s) (.agg cs):=by
 refine ⟨cs,rfl,by have:=h.1;simpa using this.symm,fun j x v h1 h2=>?_⟩
 have h2:cs.toList[j]?=some v:=by simpa using h2
 have h3:=h.2.2 j
 match j with
 | 0=>cases h1;exact ⟨rfl,h3 _ _ rfl h2⟩
 | 1=>cases h1;exact ⟨rfl,h3 _ _ rfl h2⟩
 | 2=>cases h1;exact ⟨rfl,h3 _ _ rfl h2⟩
 | j+3=>cases h1
end Go.Ev.Pl
namespace Go.Ev.Pl
open Go Go.Ev Go.Proofs
theorem sput_len {α:Type} [DecidableEq α] (k:α):∀ l:List α,(sput k l).length=if k∈l then l.length else l.length+1
 | []=>by simp [sput]
 | a :: r=>by
   unfold sput
   split
   ·rename_i h;rw [if_pos (by rw [h];exact List.mem_cons_self ..)];rfl
   ·rename_i h
    rw [List.length_cons,sput_len k r]
    by_cases h2:k∈r
    ·rw [if_pos h2,if_pos (List.mem_cons_of_mem _ h2)];rfl
    ·rw [if_neg h2,if_neg (fun e=>(List.mem_cons.1 e).elim h h2)];rfl
theorem sput_mem {α:Type} [DecidableEq α] (k x:α):∀ l:List α,x∈sput k l↔x=k∨x∈l
 | []=>by simp [sput]
 | a :: r=>by
   unfold sput
   split
   ·rename_i h;subst h;simp
   ·rw [List.mem_cons,List.mem_cons,sput_mem k x r]
    constructor<;>rintro (h | h | h)<;>simp [h]
def ddN (f:Nat→ByteArray):Nat→List ByteArray
 | 0=>[]
 | k+1=>sput (f k) (ddN f k)
theorem dd_mem (f:Nat→ByteArray) (x:ByteArray):∀ k,x∈ddN f k↔∃ j,j < k∧f j=x
 | 0=>by simp [ddN]
 | k+1=>by
   rw [ddN,sput_mem,dd_mem f x k]
   constructor
   ·rintro (h | ⟨j,h1,h2⟩)
    ·exact ⟨k,by omega,h.symm⟩
    ·exact ⟨j,by omega,h2⟩
   ·rintro ⟨j,h1,h2⟩
    rcases Nat.lt_or_ge j k with h3 | h3
    ·exact .inr ⟨j,h3,h2⟩
    ·exact .inl (by rw [← h2,show j=k by omega])
theorem dd_len (f:Nat→ByteArray):∀ k,(ddN f k).length≤k∧((ddN f k).length=k↔∀ i,i < k→∀ j,j < i→f j≠f i)
 | 0=>by simp [ddN]
 | k+1=>by
   obtain ⟨h1,h2⟩:=dd_len f k
   rw [ddN,sput_len]
   split
   ·rename_i h
    refine ⟨by omega,⟨fun h3=>by omega,fun h3=>?_⟩⟩
    obtain ⟨j,q1,q2⟩:=(dd_mem f _ k).1 h
    exact absurd q2 (h3 k (by omega) j q1)
   ·rename_i h
    refine ⟨by omega,⟨fun h3 i hi j hj e=>?_,fun h3=>by rw [h2.2 fun i hi=>h3 i (by omega)]⟩⟩
    rcases Nat.lt_or_ge i k with h4 | h4
    ·exact h2.1 (by omega) i h4 j hj e
    ·exact h ((dd_mem f _ k).2 ⟨j,by omega,by rw [e,show i=k by omega]⟩)
theorem toList_inj {a b:ByteArray}:ByteArray.toList a=ByteArray.toList b↔a=b:=by
 rw [ByteArray.toList_eq,ByteArray.toList_eq,Array.toList_inj]
 exact ⟨fun h=>ByteArray.ext h,fun h=>by rw [h]⟩
def nmN (s:api_Spec) (i:Nat):ByteArray:=(gd s.Conds (i:Int)).Name
def apB (s:api_Spec) (i:Nat):Bool:=(List.range i).all fun k=>!(ByteArray.toList (nmN s k) == ByteArray.toList (nmN s i))
def cndB (s:api_Spec):Bool:=(List.range s.Conds.length).all fun i=>nameB (nmN s i) && apB s i
def firstB (s:api_Spec):Bool:=ByteArray.toList (zN.Name (List.getD (api_Spec.Conds s) (0:Nat) default)) == ByteArray.toList { data:=#[(73:UInt8),(78:UInt8),(73:UInt8),(84:UInt8),(73:UInt8),(65:UInt8),(76:UInt8)] } && (zN.Exclusive (List.getD (api_Spec.Conds s) (0:Nat) default) == false && true)
def hdB (s:api_Spec):Bool:=decide (((s.Conds.length:Nat):Int) < 1) || (decide (((s.Conds.length:Nat):Int) > 8) || (decide (((s.Rules.length:Nat):Int) > 40) || !firstB s))
def specB (s:api_Spec):Bool:=!hdB s && (cndB s && s.Rules.all (ruleB s.Conds.length))
theorem hd_no {s:api_Spec} (h:hdB s=false):1≤s.Conds.length∧s.Conds.length≤8∧s.Rules.length≤40:=by
 unfold hdB at h
 simp only [Bool.or_eq_false_iff,decide_eq_false_iff_not] at h
 omega
theorem cnd_dd (s:api_Spec) (h:∀ i,i < s.Conds.length→nameB (nmN s i)=true):cndB s=(((ddN (nmN s) s.Conds.length).length:Int) == (s.Conds.length:Int)):=by
 rw [Bool.eq_iff_iff,beq_iff_eq]
 have:=(dd_len (nmN s) s.Conds.length).2
 rw [show (((ddN (nmN s) s.Conds.length).length:Int)=(s.Conds.length:Int))↔(ddN (nmN s) s.Conds.length).length=s.Conds.length by omega,this]
 unfold cndB apB
 constructor
 ·intro hc i hi j hj e
  have h1:=(Bool.and_eq_true_iff.1 (List.all_eq_true.1 hc i (List.mem_range.2 hi))).2
  have h2:=List.all_eq_true.1 h1 j (List.mem_range.2 hj)
  rw [e] at h2;simp at h2
 ·intro hc
  refine zf9 fun i hi=>?_
  rw [h i hi,Bool.true_and]
  refine zf9 fun k hk=>?_
  have:=hc i hi k hk
  simpa [toList_inj] using this
theorem first_no {α:Type} (p:α→Bool):∀ l:List α,l.all p=true∨∃ k,∃ h:k < l.length,p l[k]=false∧∀ j,∀ hj:j < k,p (l[j]'(by omega))=true
 | []=>.inl rfl
 | x :: l=>by
   cases hx:p x with
   | false=>exact .inr ⟨0,by simp,hx,fun j hj=>by omega⟩
   | true=>
     rcases first_no p l with h | ⟨k,hk,h1,h2⟩
     ·exact .inl (by simp [hx,h])
     ·refine .inr ⟨k+1,by simp;omega,h1,fun j hj=>?_⟩
      cases j with
      | zero=>exact hx
      | succ j=>exact h2 j (by omega)
def Asks (n:Int) (rs:List zj):Prop:=∀ k,∀ h:k < rs.length,(∀ j,∀ hj:j < k,ruleB n (rs[j]'(by omega))=true)→Ask n rs[k]
theorem odds_ok {rs:List zj} {n:Int} (ha:Asks n rs) (hl:rs.length≤9223372036854775807):zI rs n (!rs.all (ruleB n)) n:=by
 obtain ⟨r,hr,hd⟩:∃ r:Int,((rs.all (ruleB n)=true∧r = -1)∨∃ k,∃ h:k < rs.length,ruleB n rs[k]=false∧(∀ j,∀ hj:j < k,ruleB n (rs[j]'(by omega))=true)∧r=k)∧decide (r≥0)=!rs.all (ruleB n):=by
  rcases first_no (ruleB n) rs with h | ⟨k,hk,h1,h2⟩
  ·exact ⟨-1,.inl ⟨h,rfl⟩,by rw [h];rfl⟩
  ·refine ⟨k,.inr ⟨k,hk,h1,h2,rfl⟩,?_⟩
   have:rs.all (ruleB n)=false:=by
    cases e:rs.all (ruleB n) with
    | false=>rfl
    | true=>rw [List.all_eq_true.1 e _ (List.getElem_mem hk)] at h1;cases h1
   rw [this];simp
 refine zaQ rs n _ _ ⟨r,n,zaW rs n _ _ ⟨fun o t=>o=n∧∃ k:Nat,t=k∧k≤rs.length∧∀ j,∀ h:j < rs.length,j < k→ruleB n rs[j]=true,fun _ t=>(rs.length - t).toNat,⟨rfl,0,rfl,by omega,fun j _ h=>by omega⟩,?_⟩,hd.symm,rfl⟩
 rintro o t ⟨rfl,k,rfl,hk,hno⟩
 rw [za7]
 refine ⟨fun ht=>?_,fun ht=>?_⟩
 ·have ht:=of_decide_eq_true ht
  rw [zW ht,zgF ht hl]
  refine ⟨by omega,by omega,!ruleB o rs[k],o,oddR_ok (ha k ht fun j hj=>hno j (by omega) hj),fun h=>?_,fun h=>⟨⟨rfl,k+1,rfl,by omega,fun j h1 hj=>?_⟩,by first | omega | (dsimp only;omega)⟩⟩
  ·have h:ruleB o rs[k]=false:=by simpa using h
   rcases hr with ⟨h1,-⟩ | ⟨k2,h1,h2,h3,h4⟩
   ·rw [List.all_eq_true.1 h1 _ (List.getElem_mem ht)] at h;cases h
   ·refine ⟨?_,rfl⟩
    rcases Nat.lt_trichotomy k k2 with q | q | q
    ·rw [h3 k q] at h;cases h
    ·rw [h4,q]
    ·rw [hno k2 h1 q] at h2;cases h2
  ·rcases Nat.lt_or_ge j k with h2 | h2
   ·exact hno j h1 h2
   ·have:j=k:=by omega
    subst this;simpa using h
 ·have ht:=of_decide_eq_false ht
  rcases hr with ⟨h1,h2⟩ | ⟨k2,h1,h2,h3,h4⟩
  ·exact ⟨h2,rfl⟩
  ·rw [hno k2 h1 (by omega)] at h2;cases h2
theorem specRightB_ok (s:api_Spec) (hs:WfS s) (ha:hdB s=false→Asks s.Conds.length s.Rules):zbR s (specB s):=by
 have hm:maxLen=9223372036854775807:=by decide
 refine W_spec_Right s _ ?_
 simp only [List.length_map]
 refine ⟨fun h _ _=>by have h:=of_decide_eq_false h;omega,fun hb=>?_,fun hb=>?_⟩
 ·have hb:hdB s=true:=hb
  unfold specB;rw [hb];rfl
 have hb:hdB s=false:=hb
 obtain ⟨n1,n2,n3⟩:=hd_no hb
 have hS:specB s=(cndB s && s.Rules.all (ruleB s.Conds.length)):=by unfold specB;rw [hb];rfl
 rw [hS]
 refine ⟨fun l t=>∃ k:Nat,t=k∧k≤s.Conds.length∧l=ddN (nmN s) k∧∀ j,j < k→nameB (nmN s j)=true,fun l t=>(s.Conds.length - t).toNat,⟨0,rfl,by omega,rfl,fun j h=>by omega⟩,?_⟩
 rintro l t ⟨k,rfl,hk,rfl,hno⟩
 rw [za7]
 refine ⟨fun ht=>?_,fun ht=>?_⟩
 ·have ht:=of_decide_eq_true ht
  rw [zgF ht (by omega)]
  have hsz:(nmN s k).size≤9223372036854775807:=by
   unfold nmN;rw [zW ht,← hm];exact hs.names _ (List.getElem_mem ht)
  refine ⟨by omega,by omega,nameB (nmN s k),name_ok _ hsz,fun h=>?_,fun h=>⟨⟨k+1,rfl,by omega,rfl,fun j hj=>?_⟩,by first | omega | (dsimp only;omega)⟩⟩
  ·have:cndB s=false:=zhC ht (by rw [show nameB (nmN s k)=false by simpa using h];rfl)
   rw [this];rfl
  ·rcases Nat.lt_or_ge j k with h2 | h2
   ·exact hno j h2
   ·rw [show j=k by omega];simpa using h
 ·have ht:=of_decide_eq_false ht
  have hk':k=s.Conds.length:=by omega
  subst hk'
  rw [cnd_dd s hno]
  refine ⟨fun h=>⟨_,_,odds_ok (ha hb) (by omega),?_⟩,fun h=>?_⟩
  ·rw [h];simp
  ·rw [h];rfl
theorem refRightB_ok (s:api_Spec) (hs:WfS s) (ha:hdB s=false→Asks s.Conds.length s.Rules):zaM s (specB s):=by
 have hm:maxLen=9223372036854775807:=by decide
 have hor:∀ a b c d:Bool,(a || (b || (c || d)))=(a || (b || (d || c))):=by decide
 refine zeI s _ ?_
 simp only [List.length_map]
 rw [hor]
 refine ⟨fun h _=>by have h:=of_decide_eq_false h;omega,fun hb=>?_,fun hb=>?_⟩
 ·have hb:hdB s=true:=hb
  unfold specB;rw [hb];rfl
 have hb:hdB s=false:=hb
 obtain ⟨n1,n2,n3⟩:=hd_no hb
 have hS:specB s=(cndB s && s.Rules.all (ruleB s.Conds.length)):=by unfold specB;rw [hb];rfl
 rw [hS]
 refine ⟨fun t=>∃ k:Nat,t=k∧k≤s.Conds.length∧∀ j,j < k→(nameB (nmN s j) && apB s j)=true,fun t=>(s.Conds.length - t).toNat,⟨0,rfl,by omega,fun j h=>by omega⟩,?_⟩
 rintro t ⟨k,rfl,hk,hno⟩
 rw [za7]
 refine ⟨fun ht=>?_,fun ht=>?_⟩
 ·have ht:=of_decide_eq_true ht
  have hsz:(nmN s k).size≤9223372036854775807:=by
   unfold nmN;rw [zW ht,← hm];exact hs.names _ (List.getElem_mem ht)
  have no:(nameB (nmN s k) && apB s k)=false→(cndB s && s.Rules.all (ruleB s.Conds.length))=false:=fun h=>by
   rw [show cndB s=false from zhC ht h];rfl
  refine ⟨by omega,by omega,nameB (nmN s k),rName_ok _ hsz,fun h=>no (by rw [show nameB (nmN s k)=false by simpa using h];rfl),fun h=>?_⟩
  have h:nameB (nmN s k)=true:=by simpa using h
  refine ⟨fun t=>∃ i:Nat,t=i∧i≤k∧∀ j,j < i→(!(ByteArray.toList (nmN s j) == ByteArray.toList (nmN s k)))=true,fun t=>(k - t).toNat,⟨0,rfl,by omega,fun j h=>by omega⟩,?_⟩
  rintro t ⟨i,rfl,hi,hin⟩
  rw [za7]
  refine ⟨fun ht2=>?_,fun ht2=>?_⟩
  ·have ht2:=of_decide_eq_true ht2
   rw [zgF ht2 (by omega)]
   refine ⟨by omega,by omega,by omega,by omega,fun h2=>no ?_,fun h2=>⟨⟨i+1,rfl,by omega,fun j hj=>?_⟩,by first | omega | (dsimp only;omega)⟩⟩
   ·rw [h,show apB s k=false from zhC ht2 (by rw [show (ByteArray.toList (nmN s i) == ByteArray.toList (nmN s k))=true from h2];rfl)];rfl
   ·rcases Nat.lt_or_ge j i with h3 | h3
    ·exact hin j h3
    ·rw [show j=i by omega,show (ByteArray.toList (nmN s i) == ByteArray.toList (nmN s k))=false from h2];rfl
  ·have ht2:=of_decide_eq_false ht2
   rw [zgF ht (by omega)]
   refine ⟨⟨k+1,rfl,by omega,fun j hj=>?_⟩,by first | omega | (dsimp only;omega)⟩
   rcases Nat.lt_or_ge j k with h3 | h3
   ·exact hno j h3
   ·rw [show j=k by omega,h,Bool.true_and];exact zf9 fun m hm=>hin m (by omega)
 ·have ht:=of_decide_eq_false ht
  have hc:cndB s=true:=zf9 fun j hj=>hno j (by omega)
  rw [hc,Bool.true_and]
  refine ⟨fun t=>∃ k:Nat,t=k∧k≤s.Rules.length∧∀ j,∀ h:j < s.Rules.length,j < k→ruleB s.Conds.length s.Rules[j]=true,fun t=>(s.Rules.length - t).toNat,⟨0,rfl,by omega,fun j _ h=>by omega⟩,?_⟩
  rintro t ⟨i,rfl,hi,hin⟩
  rw [za7]
  refine ⟨fun ht2=>?_,fun ht2=>?_⟩
  ·have ht2:=of_decide_eq_true ht2
   rw [zW ht2,zgF ht2 (by omega)]
   refine ⟨by omega,by omega,ruleB s.Conds.length s.Rules[i],rRule_ok (by omega) (ha hb i ht2 fun j hj=>hin j (by omega) hj),fun h=>?_,fun h=>⟨⟨i+1,rfl,by omega,fun j h1 hj=>?_⟩,by first | omega | (dsimp only;omega)⟩⟩
   ·cases e:s.Rules.all (ruleB s.Conds.length) with
    | false=>rfl
    | true=>rw [List.all_eq_true.1 e _ (List.getElem_mem ht2)] at h;cases h
   ·rcases Nat.lt_or_ge j i with h3 | h3
    ·exact hin j h1 h3
    ·have:j=i:=by omega
     subst this;simpa using h
  ·have ht2:=of_decide_eq_false ht2
   exact (List.all_eq_true.2 fun r hr=>by
    obtain ⟨j,hj,rfl⟩:=List.getElem_of_mem hr
    exact hin j hj (by omega))
end Go.Ev.Pl
namespace Go.Ev
open Go Go.RowKit
variable {P : Program}
section
variable {R : Type}
def fNat (n:Nat) (k:Nat→R):R:=match n with
 | .zero=>k 0
 | .succ n=>k (.succ n)
theorem zev (n:Nat) (k:Nat→R):fNat n k=k n:=by cases n<;>rfl
def fInt (n:Int) (k:Int→R):R:=match n with
 | .ofNat n=>fNat n fun n=>k (.ofNat n)
 | .negSucc n=>fNat n fun n=>k (.negSucc n)
theorem fInt_eq (n:Int) (k:Int→R):fInt n k=k n:=by cases n<;>simp [fInt,zev]
def fBo (b:Bool) (k:Bool→R):R:=match b with
 | true=>k true
 | false=>k false
theorem fBo_eq (b:Bool) (k:Bool→R):fBo b k=k b:=by cases b<;>rfl
def fVal (v:Value) (k:Value→R):R:=match v with
 | .int q n=>fInt n fun n=>k (.int q n)
 | .bool b=>fBo b fun b=>k (.bool b)
 | v=>k v
theorem fVal_eq (v:Value) (k:Value→R):fVal v k=k v:=by
 unfold fVal
 split
 ·exact fInt_eq _ _
 ·exact fBo_eq _ _
 ·rfl
def fList {α:Type} (f:α→(α→R)→R):List α→(List α→R)→R
 | [],k=>k []
 | a :: l,k=>f a fun a=>fList f l fun l=>k (a :: l)
theorem zce {α:Type} {f:α→(α→R)→R} (h:∀ a k,f a k=k a):∀ (l:List α) (k:List α→R),fList f l k=k l
 | [],k=>rfl
 | a :: l,k=>by rw [fList,h,zce h l]
def fFV:Nat→FV→(FV→R)→R
 | 0,x,k=>k x
 | n+1,x,k=>match x with
   | .pv v=>fVal v fun v=>k (.pv v)
   | .agg l=>fList (fFV n) l fun l=>k (.agg l)
   | .sl l=>fList (fFV n) l fun l=>k (.sl l)
theorem fFV_eq:∀ (n:Nat) (x:FV) (k:FV→R),fFV n x k=k x
 | 0,x,k=>rfl
 | n+1,x,k=>by
   unfold fFV
   cases x with
   | pv v=>exact fVal_eq _ _
   | agg l=>exact zce (fFV_eq n) _ _
   | sl l=>exact zce (fFV_eq n) _ _
def fAV:Nat→AV→(AV→R)→R
 | 0,x,k=>k x
 | n+1,x,k=>match x with
   | .bad=>k .bad
   | .f x=>fFV 1 x fun x=>k (.f x)
   | .ptr b o=>fNat b fun b=>fNat o fun o=>k (.ptr b o)
   | .fp x o=>fNat o fun o=>k (.fp x o)
   | .ep b o i c=>fNat b fun b=>fNat o fun o=>fNat i fun i=>fNat c fun c=>k (.ep b o i c)
   | .rf b o i c=>fNat b fun b=>fNat o fun o=>fNat i fun i=>fNat c fun c=>k (.rf b o i c)
   | .own E l=>fList (fFV 1) l fun l=>k (.own E l)
   | .clo g l=>fList (fAV n) l fun l=>k (.clo g l)
   | .agg l=>fList (fAV n) l fun l=>k (.agg l)
   | .tup l=>fList (fAV n) l fun l=>k (.tup l)
theorem zf5:∀ (n:Nat) (x:AV) (k:AV→R),fAV n x k=k x
 | 0,x,k=>rfl
 | n+1,x,k=>by
   unfold fAV
   cases x with
   | bad=>rfl
   | f x=>exact fFV_eq _ _ _
   | ptr b o=>simp only [zev]
   | fp x o=>simp only [zev,fFV_eq]
   | ep b o i c=>simp only [zev]
   | rf b o i c=>simp only [zev]
   | own E l=>exact zce (fFV_eq _) _ _
   | clo g l=>exact zce (zf5 n) _ _
   | agg l=>exact zce (zf5 n) _ _
   | tup l=>exact zce (zf5 n) _ _
def sLf (x:AV) (k:AV→R):R:=match x with
 | .bad=>k .bad
 | .f x=>k (.f x)
 | .ptr b o=>k (.ptr b o)
 | .fp x o=>k (.fp x o)
 | .ep b o i c=>k (.ep b o i c)
 | .rf b o i c=>k (.rf b o i c)
 | .own E l=>k (.own E l)
 | .clo g l=>k (.clo g l)
 | .agg l=>k (.agg l)
 | .tup l=>k (.tup l)
theorem sLf_eq (x:AV) (k:AV→R):sLf x k=k x:=by cases x<;>rfl
def sAV (x:AV) (k:AV→R):R:=match x with
 | .bad=>k .bad
 | .f x=>k (.f x)
 | .ptr b o=>k (.ptr b o)
 | .fp x o=>k (.fp x o)
 | .ep b o i c=>k (.ep b o i c)
 | .rf b o i c=>k (.rf b o i c)
 | .own E l=>k (.own E l)
 | .clo g l=>k (.clo g l)
 | .agg l=>fList sLf l fun l=>k (.agg l)
 | .tup l=>fList (fAV 5) l fun l=>k (.tup l)
theorem sAV_eq (x:AV) (k:AV→R):sAV x k=k x:=by
 cases x with
 | agg l=>exact zce sLf_eq _ _
 | tup l=>exact zce (zf5 5) _ _
 | _=>rfl
def fSta (f:AV→(AV→R)→R):Sta→(Sta→R)→R
 | [],k=>k []
 | (b,v) :: r,k=>fNat b fun b=>f v fun v=>fSta f r fun r=>k ((b,v) :: r)
theorem zfD {f:AV→(AV→R)→R} (h:∀ a k,f a k=k a):∀ (G:Sta) (k:Sta→R),fSta f G k=k G
 | [],k=>rfl
 | (b,v) :: r,k=>by rw [fSta,zev,h,zfD h r]
def fUp (u:Up) (k:Up→R):R:=match u with
 | .set b v=>fNat b fun b=>fAV 5 v fun v=>k (.set b v)
 | .put b v=>fNat b fun b=>fAV 5 v fun v=>k (.put b v)
 | .leaf b o v=>fNat b fun b=>fNat o fun o=>fAV 5 v fun v=>k (.leaf b o v)
 | .upo b o v=>fNat b fun b=>fNat o fun o=>fAV 5 v fun v=>k (.upo b o v)
 | .frz b o=>fNat b fun b=>fNat o fun o=>k (.frz b o)
 | .newbox b v=>fNat b fun b=>fAV 5 v fun v=>k (.newbox b v)
theorem fUp_eq (u:Up) (k:Up→R):fUp u k=k u:=by
 cases u<;>simp only [fUp,zev,zf5]
end
section
variable {R : Type}
noncomputable def getX (G:Sta) (b:Nat):Option AV:=List.rec none (fun p _ ih=>match p with
 | (a,x)=>match Nat.beq a b with
   | true=>some x
   | false=>ih) G
theorem zfB (b:Nat):∀ G:Sta,getX G b=get G b
 | []=>rfl
 | (a,x) :: r=>by
   change (match Nat.beq a b with
    | true=>some x
    | false=>getX r b)=if b=a then some x else get r b
   rw [zfB b r]
   cases h:Nat.beq a b with
   | true=>rw [if_pos (Nat.eq_of_beq_eq_true h).symm]
   | false=>rw [if_neg (fun e=>by rw [e] at h;simp at h)]
noncomputable def lookX (G:Sta) (b:Nat):Option Nat→Option AV
 | none=>getX G b
 | some o=>match getX G b with
   | some v=>(v.leaves[o]?).filter AV.isLeaf
   | none=>none
theorem lookX_eq (b:Nat) (o:Option Nat) (G:Sta):lookX G b o=look G b o:=by
 cases o with
 | none=>exact zfB b G
 | some o=>
   simp only [lookX,look,zfB]
   cases get G b<;>rfl
def nv0 (b:Nat) (x:AV):Bool:=match x with
 | .rf c _ _ _=>!Nat.beq c b
 | .ep c _ _ _=>!Nat.beq c b
 | .agg _=>false
 | .tup _=>false
 | _=>true
noncomputable def nvL (b:Nat) (l:List AV):Bool:=List.rec true (fun x _ ih=>match nv0 b x with
 | true=>ih
 | false=>false) l
noncomputable def nv1 (b:Nat) (x:AV):Bool:=match x with
 | .agg l=>nvL b l
 | .tup _=>false
 | x=>nv0 b x
noncomputable def noV (b:Nat) (G:Sta):Bool:=List.rec true (fun p _ ih=>match nv1 b p.2 with
 | true=>ih
 | false=>false) G
theorem nv0_eq {b:Nat} {x:AV} (h:nv0 b x=true) (o:Option Nat):killr b o x=x:=by
 cases x with
 | rf c _ _ _=>
   simp only [nv0,Bool.not_eq_true'] at h
   simp only [killr];rw [if_neg];rintro ⟨e,_⟩;rw [e] at h;simp at h
 | ep c _ _ _=>
   simp only [nv0,Bool.not_eq_true'] at h
   simp only [killr];rw [if_neg];rintro ⟨e,_⟩;rw [e] at h;simp at h
 | _=>rfl
theorem nvL_eq {b:Nat} (o:Option Nat):∀ {l:List AV},nvL b l=true→l.map (killr b o)=l
 | [],_=>rfl
 | x :: r,h=>by
   change (match nv0 b x with
    | true=>nvL b r
    | false=>false)=true at h
   split at h
   ·rename_i hx;rw [List.map_cons,nv0_eq hx,nvL_eq o h]
   ·cases h
theorem nv1_eq {b:Nat} {x:AV} (h:nv1 b x=true) (o:Option Nat):AV.map2 (killr b o) x=x:=by
 cases x with
 | agg l=>show AV.agg (l.map _)=_;rw [nvL_eq o h]
 | tup l=>cases h
 | bad=>rfl
 | f x=>rfl
 | ptr c p=>rfl
 | fp x p=>rfl
 | ep c p i d=>exact nv0_eq (x:=.ep c p i d) h o
 | rf c p i d=>exact nv0_eq (x:=.rf c p i d) h o
 | own E l=>rfl
 | clo g l=>rfl
theorem noV_eq {b:Nat} (o:Option Nat):∀ {G:Sta},noV b G=true→mapv (AV.map2 (killr b o)) G=G
 | [],_=>rfl
 | (a,x) :: r,h=>by
   change (match nv1 b x with
    | true=>noV b r
    | false=>false)=true at h
   split at h
   ·rename_i hx;rw [mapv,nv1_eq hx,noV_eq o h]
   ·cases h
noncomputable def insX (b:Nat) (v:AV) (G:Sta):(Sta→R)→R:=List.rec (fun k=>k [(b,v)]) (fun p r ih k=>match Nat.beq p.1 b with
 | true=>k ((b,v) :: r)
 | false=>match Nat.blt b p.1 with
   | true=>k ((b,v) :: p :: r)
   | false=>ih fun m=>k (p :: m)) G
theorem insX_eq (b:Nat) (v:AV):∀ (G:Sta) (k:Sta→R),insX b v G k=k (ins b v G)
 | [],k=>rfl
 | (a,x) :: r,k=>by
   change (match Nat.beq a b with
    | true=>k ((b,v) :: r)
    | false=>match Nat.blt b a with
      | true=>k ((b,v) :: (a,x) :: r)
      | false=>insX b v r fun m=>k ((a,x) :: m))=k (if b < a then (b,v) :: (a,x) :: r else if b=a then (b,v) :: r else (a,x) :: ins b v r)
   rw [insX_eq b v r]
   cases h:Nat.beq a b with
   | true=>
     have:=Nat.eq_of_beq_eq_true h
     rw [if_neg (by omega),if_pos this.symm]
   | false=>
     have hne:b≠a:=fun e=>by rw [e] at h;simp at h
     cases h2:Nat.blt b a with
     | true=>
       rw [if_pos (by simpa [Nat.blt_eq] using h2)]
     | false=>
       rw [if_neg (fun e=>by rw [show Nat.blt b a=true from by simpa [Nat.blt_eq] using e] at h2;cases h2),if_neg hne]
noncomputable def updX (b:Nat) (g:AV→AV) (G:Sta):(Sta→R)→R:=List.rec (fun k=>k []) (fun p r ih k=>match Nat.beq p.1 b with
 | true=>sAV (g p.2) fun x=>k ((p.1,x) :: r)
 | false=>ih fun m=>k (p :: m)) G
theorem zgG (b:Nat) (g:AV→AV):∀ (G:Sta) (k:Sta→R),updX b g G k=k (upd b g G)
 | [],k=>rfl
 | (a,x) :: r,k=>by
   change (match Nat.beq a b with
    | true=>sAV (g x) fun x=>k ((a,x) :: r)
    | false=>updX b g r fun m=>k ((a,x) :: m))=k (if b=a then (a,g x) :: r else (a,x) :: upd b g r)
   rw [zgG b g r,sAV_eq]
   cases h:Nat.beq a b with
   | true=>rw [if_pos (Nat.eq_of_beq_eq_true h).symm]
   | false=>rw [if_neg (fun e=>by rw [e] at h;simp at h)]
noncomputable def appX (u:Up) (G:Sta) (k:Sta→R):R:=match u with
 | .set b v=>match noV b G with
   | true=>insX b v G k
   | false=>fSta sAV ((Up.set b v).app G) k
 | .put b v=>match noV b G with
   | true=>updX b (putV v) G k
   | false=>fSta sAV ((Up.put b v).app G) k
 | .leaf b o v=>match noV b G with
   | true=>updX b (setLeaf o v) G k
   | false=>fSta sAV ((Up.leaf b o v).app G) k
 | .upo b o v=>updX b (setLeaf o v) G k
 | .frz b o=>updX b (mapLeaf o Ev.frz) G k
 | .newbox b v=>fSta sAV ((Up.newbox b v).app G) k
theorem appX_eq (u:Up) (G:Sta) (k:Sta→R):appX u G k=k (u.app G):=by
 cases u with
 | set b v=>
   simp only [appX]
   split
   ·rename_i h;rw [insX_eq,Up.app,noV_eq none h]
   ·rw [zfD sAV_eq]
 | put b v=>
   simp only [appX]
   split
   ·rename_i h;rw [zgG,Up.app,noV_eq none h]
   ·rw [zfD sAV_eq]
 | leaf b o v=>
   simp only [appX]
   split
   ·rename_i h;rw [zgG,Up.app,noV_eq (some o) h]
   ·rw [zfD sAV_eq]
 | upo b o v=>simp only [appX,zgG,Up.app]
 | frz b o=>simp only [appX,zgG,Up.app]
 | newbox b v=>simp only [appX,zfD sAV_eq]
noncomputable def appsX (U:List Up) (G:Sta) (k:List Up→Sta→R):R:=List.rec (fun G k=>k [] G) (fun u _ ih G k=>fUp u fun u=>appX u G fun G=>ih G fun U G=>k (u :: U) G) U G k
theorem appsX_eq:∀ (U:List Up) (G:Sta) (k:List Up→Sta→R),appsX U G k=k U (app U G)
 | [],G,k=>rfl
 | u :: r,G,k=>by
   change (fUp u fun u=>appX u G fun G=>appsX r G fun U G=>k (u :: U) G)=_
   rw [fUp_eq,appX_eq,appsX_eq r];rfl
noncomputable def dropX (mask:Nat) (G:Sta):(Sta→R)→R:=List.rec (fun k=>k []) (fun p _ ih k=>match Nat.beq (Nat.mod p.1 3) 1 with
 | false=>ih fun m=>k (p :: m)
 | true=>match Nat.beq (Nat.land (Nat.shiftRight mask (Nat.div p.1 3)) 1) 0 with
   | true=>ih k
   | false=>ih fun m=>k (p :: m)) G
def deadB (mask:Nat) (b:Nat):Bool:=match Nat.beq (Nat.mod b 3) 1 with
 | false=>false
 | true=>Nat.beq (Nat.land (Nat.shiftRight mask (Nat.div b 3)) 1) 0
theorem dropX_eq (mask:Nat):∀ (G:Sta) (k:Sta→R),dropX mask G k=k (dropN (deadB mask) G)
 | [],k=>rfl
 | (a,x) :: r,k=>by
   change (match Nat.beq (Nat.mod a 3) 1 with
    | false=>dropX mask r fun m=>k ((a,x) :: m)
    | true=>match Nat.beq (Nat.land (Nat.shiftRight mask (Nat.div a 3)) 1) 0 with
      | true=>dropX mask r k
      | false=>dropX mask r fun m=>k ((a,x) :: m))=_
   simp only [dropX_eq mask r,dropN]
   cases h1:Nat.beq (Nat.mod a 3) 1 with
   | false=>
     rw [if_neg (by simp [deadB,h1])]
   | true=>
     cases h2:Nat.beq (Nat.land (Nat.shiftRight mask (Nat.div a 3)) 1) 0 with
     | true=>rw [if_pos (by simp only [deadB,h1,h2])]
     | false=>rw [if_neg (by simp only [deadB,h1,h2];simp)]
end
abbrev Kw:=FuncId→List AV→List AV→Option (AV×List AV)
abbrev ExR:=Option (Ex×Sta)
noncomputable def RM.ex (C:Kw) (G:Sta) (m:RM):List Acc→Option (List Up×List Acc):=
 RM.rec (motive:=fun _=>List Acc→Option (List Up×List Acc)) (fun U T=>some (U,T)) (fun _=>none)
  (fun b o _ ih T=>match lookX G b o with
    | some v=>match v.ok with
      | true=>ih v (T++accOf b o :: v.refs)
      | false=>none
    | none=>none)
  (fun b _ ih T=>match getX G b with
    | some v=>ih v.leaves.length (T++[.id b])
    | none=>none)
  (fun g args outs _ ih T=>match C g args outs with
    | some (r,o)=>ih r o T
    | none=>none) m
theorem ex_ret {C:Kw} {G:Sta} {U:List Up} {T:List Acc}:RM.ex C G (.ret U) T=some (U,T):=rfl
theorem ex_ask {C:Kw} {G:Sta} {b:Nat} {o:Option Nat} {k:AV→RM} {T:List Acc}:RM.ex C G (.ask b o k) T=match look G b o with
 | some v=>match v.ok with
   | true=>(k v).ex C G (T++accOf b o :: v.refs)
   | false=>none
 | none=>none:=by rw [← lookX_eq];rfl
theorem zhm {C:Kw} {G:Sta} {b:Nat} {k:Nat→RM} {T:List Acc}:RM.ex C G (.peek b k) T=match get G b with
 | some v=>(k v.leaves.length).ex C G (T++[.id b])
 | none=>none:=by rw [← zfB];rfl
theorem zhn {C:Kw} {G:Sta} {g:FuncId} {args outs:List AV} {k:AV→List AV→RM} {T:List Acc}:RM.ex C G (.call g args outs k) T=match C g args outs with
 | some (r,o)=>(k r o).ex C G T
 | none=>none:=rfl
def KwOk (P:Program) (C:Kw):Prop:=∀ g args outs r o,C g args outs=some (r,o)→CallE P g args outs r o
theorem RM.ex_wp {C:Kw} {G:Sta} (hC:KwOk P C):∀ (m:RM) {T:List Acc} {U:List Up} {T':List Acc} {K:List Up→List Acc→Prop},m.ex C G T=some (U,T')→K U T'→m.wp (CallE P) G T K
 | .ret U,T,U',T',K,h,hk=>by simp only [ex_ret,Option.some.injEq,Prod.mk.injEq] at h;obtain ⟨rfl,rfl⟩:=h;exact hk
 | .fail,T,U',T',K,h,hk=>by cases h
 | .ask b o k,T,U',T',K,h,hk=>by
   simp only [ex_ask,zhm,zhn] at h
   split at h
   ·rename_i v hv
    split at h
    ·rename_i hok;exact ⟨v,hv,hok,RM.ex_wp hC _ h hk⟩
    ·cases h
   ·cases h
 | .peek b k,T,U',T',K,h,hk=>by
   simp only [ex_ask,zhm,zhn] at h
   split at h
   ·rename_i v hv;exact ⟨v,hv,RM.ex_wp hC _ h hk⟩
   ·cases h
 | .call g args outs k,T,U',T',K,h,hk=>by
   simp only [ex_ask,zhm,zhn] at h
   split at h
   ·rename_i r o hr;exact ⟨r,o,hC _ _ _ _ _ hr,RM.ex_wp hC _ h hk⟩
   ·cases h
noncomputable def exOps (C:Kw) (c:Cfg) (ops:Array Oper) (draw:Bool) (K:List Lg→Sta→ExR):List Oper→Nat→List Lg→Sta→ExR
 | [],_,log,G=>K log G
 | o :: r,i,log,G=>match (guardRM c ops o).ex C G [] with
   | some (U,T)=>appsX U G fun U G'=>exOps C c ops draw K r (i+1) (match draw with | true=>log++[⟨i,T++Ups.refs U,Ups.writes U⟩] | false=>[]) G'
   | none=>none
theorem zia {C:Kw} {c:Cfg} {ops:Array Oper} {draw:Bool} {K:List Lg→Sta→ExR} (hC:KwOk P C):∀ (r:List Oper) {p:List Oper} {log:List Lg} {G:Sta} {z:Ex×Sta},ops.toList=p++r→exOps C c ops draw K r p.length log G=some z→
 ∃ es G' log',es.map (·.i)=List.range' p.length r.length∧Runs (CallE P) (stepRM c ops) es G G'∧K log' G'=some z∧(draw=true→log'=log++es.map Ent.lg)
 | [],p,log,G,z,hp,h=>⟨[],G,log,rfl,rfl,h,fun _=>by simp⟩
 | o :: r,p,log,G,z,hp,h=>by
   have hop:ops[p.length]?=some o:=by
    rw [← Array.getElem?_toList,hp,List.getElem?_append_right (Nat.le_refl _)];simp
   unfold exOps at h
   split at h
   ·rename_i U T h1
    rw [appsX_eq] at h
    have hl:(p++[o]).length=p.length+1:=by simp
    rw [← hl] at h
    obtain ⟨es,G',log',e1,e2,e3,e4⟩:=zia hC r (p:=p++[o]) (by rw [hp];simp) h
    refine ⟨⟨p.length,U,T⟩ :: es,G',log',by simp [e1,List.range'_succ],⟨?_,e2⟩,e3,fun hd=>?_⟩
    ·rw [zfr hop]
     exact RM.ex_wp hC _ h1 ⟨rfl,rfl⟩
    ·rw [e4 hd];subst hd;simp [Ent.lg,Ent.reads]
   ·cases h
noncomputable def exReg (C:Kw) (c:Cfg) (mk:Nat) (ops:Array Oper) (draw:Bool) (G:Sta):ExR:=
 exOps C c ops draw (fun log G'=>match draw with
  | true=>match topo ops && (ancOk ops (tabOf ops) && logOk (tabOf ops) log) with
    | true=>dropX mk G' fun G'=>some (.normal,G')
    | false=>none
  | false=>dropX mk G' fun G'=>some (.normal,G')) ops.toList 0 [] G
theorem exReg_sem {C:Kw} {c:Cfg} (hc:COk P c) (hC:KwOk P C) {id:Nat} {ops:Array Oper} {draw:Bool} {G:Sta} {e:Ex} {G':Sta} {K:Ex→Sta→Prop} {mk:Nat} (h:exReg C c mk ops draw G=some (e,G')) (hk:K e G'):Sem P c (.region id ops draw) G K:=by
 intro own a w F n Q hF s hQ
 obtain ⟨es,G1,log,e1,e2,e3,e4⟩:=zia (P:=P) hC (p:=[]) _ rfl h
 have hd:e=.normal∧dropN (deadB mk) G1=G'∧(draw=true→topo ops=true∧ancOk ops (tabOf ops)=true∧logOk (tabOf ops) log=true):=by
  cases draw with
  | true=>
    dsimp only at e3
    split at e3
    ·rename_i hb
     simp only [Bool.and_eq_true] at hb
     simp only [dropX_eq,Option.some.injEq,Prod.mk.injEq] at e3
     exact ⟨e3.1.symm,e3.2,fun _=>hb⟩
    ·cases e3
  | false=>
    simp only [dropX_eq,Option.some.injEq,Prod.mk.injEq] at e3
    exact ⟨e3.1.symm,e3.2,fun h=>by cases h⟩
 obtain ⟨rfl,rfl,hd⟩:=hd
 have e1:es.map (·.i)=List.range ops.size:=by rw [e1,List.range_eq_range'];simp
 have hlt:∀ x∈es,x.i < ops.size:=fun x hx=>by
  have:x.i∈es.map (·.i):=List.mem_map.2 ⟨x,hx,rfl⟩
  rw [e1] at this;exact List.mem_range.1 this
 have fin:∀ own' a' w',St P c.nt G1 own' a' w'→Tr own w own' w'→a'.defers=a.defers→Q .normal a' w':=fun own' a' w' s' t' d'=>hQ .normal _ own' a' w' hk (s'.drop _) t' (.same d')
 cases draw with
 | true=>
   obtain ⟨htopo,htab,hlog⟩:=hd rfl
   obtain ⟨s1,t1⟩:=s.drawn (w.drawn+1)
   refine wpIn_region_any hc.ro ?_
   refine runs_any hc.cfg hc.ip (fun _ _ _ _ _ h=>h) hF.1 htopo ops.size es (by have:=congrArg List.length e1;simp at this;omega) (by simp) ?_ ?_ hlt (by rw [e1];exact List.pairwise_lt_range) (zew htopo htab hlt (by rw [e4 rfl,List.nil_append] at hlog;exact hlog)) s1 e2
    (fun own' a' w' s' t' d'=>fin own' a' w' s' (t1.trans t') d')
   ·intro i o ho hl
    have hi:=(Array.getElem?_eq_some_iff.1 ho).1
    simp [Array.getD_eq_getD_getElem?,hi] at hl
   ·intro i hi
    rw [e1];simp [Array.getD_eq_getD_getElem?,hi]
 | false=>
   refine wpIn_region ?_
   rw [← e1]
   exact zgL hc.cfg hc.ip (fun _ _ _ _ _ h=>h) hF.1 es s e2 fin
noncomputable def condB (x:Operand) (G:Sta):Option Bool:=match x with
 | .tmp t=>match getX G (tb t) with
   | some (.f (.pv (.bool b)))=>some b
   | _=>none
 | .const (.bool b)=>some b
 | _=>none
noncomputable def exStep (c:Cfg) (mk:Nat) (C:Kw) (ih:Code→Sta→ExR) (x:Code) (G:Sta):ExR:=
 match x with
 | .skip=>some (.normal,G)
 | .region _ ops draw=>exReg C c mk ops draw G
 | .seq x y=>match ih x G with
   | some (.normal,G')=>ih y G'
   | r=>r
 | .cond b x y=>match condB b G with
   | some true=>ih x G
   | some false=>ih y G
   | none=>none
 | .block id x=>match ih x G with
   | some (.exit j,G')=>match Nat.beq j id with
     | true=>some (.normal,G')
     | false=>some (.exit j,G')
   | r=>r
 | .loop x=>match ih x G with
   | some (.normal,G')=>ih (.loop x) G'
   | r=>r
 | .exit id=>some (.exit id,G)
 | .ret=>some (.ret,G)
 | .label _=>some (.normal,G)
 | _=>none
noncomputable def exC (c:Cfg) (mk:Nat) (C:Kw) (n:Nat):Code→Sta→ExR:=Nat.rec (fun _ _=>none) (fun _ ih=>exStep c mk C ih) n
theorem exC_sem {C:Kw} {c:Cfg} {mk:Nat} (hc:COk P c) (hC:KwOk P C):∀ (n:Nat) (m:Nat) (x:Code) {G:Sta} {e:Ex} {G':Sta} {K:Ex→Sta→Prop},m≤n→exC c mk C m x G=some (e,G')→K e G'→Sem P c x G K
 | _,0,_,_,_,_,_,_,h,_=>by cases h
 | 0,m+1,_,_,_,_,_,hm,_,_=>absurd hm (by omega)
 | n+1,m+1,x,G,e,G',K,hm,h,hk=>by
   have ih:=fun (x:Code) {G:Sta} {e:Ex} {G':Sta} {K:Ex→Sta→Prop} (h:exC c mk C m x G=some (e,G')) (hk:K e G')=>exC_sem hc hC n m x (by omega) h hk
   change exStep c mk C (exC c mk C m) x G=some (e,G') at h
   unfold exStep at h
   split at h
   ·simp only [Option.some.injEq,Prod.mk.injEq] at h;obtain ⟨rfl,rfl⟩:=h;exact Sem.skip Wk.refl hk
   ·exact exReg_sem hc hC h hk
   ·rename_i x y
    split at h
    ·rename_i G1 h1
     exact Sem.seq (ih x h1 (ih y h hk))
    ·rename_i h1
     refine Sem.seq (ih x h ?_)
     cases e with
     | normal=>exact absurd h (h1 _)
     | _=>exact hk
   ·rename_i b x y
    split at h
    ·rename_i hb
     unfold condB at hb
     simp only [zfB] at hb
     split at hb
     ·split at hb
      ·rename_i hg;cases hb
       exact Sem.cond hg (fun _=>ih x h hk) (fun e=>by cases e)
      ·cases hb
     ·cases hb;exact Sem.condc (fun _=>ih x h hk) (fun e=>by cases e)
     ·cases hb
    ·rename_i hb
     unfold condB at hb
     simp only [zfB] at hb
     split at hb
     ·split at hb
      ·rename_i hg;cases hb
       exact Sem.cond hg (fun e=>by cases e) (fun _=>ih y h hk)
      ·cases hb
     ·cases hb;exact Sem.condc (fun e=>by cases e) (fun _=>ih y h hk)
     ·cases hb
    ·cases h
   ·rename_i id x
    refine Sem.block ?_
    split at h
    ·rename_i j G1 h1
     refine ih x h1 ?_
     simp only [blockK]
     split at h
     ·rename_i hj
      simp only [Option.some.injEq,Prod.mk.injEq] at h;obtain ⟨rfl,rfl⟩:=h
      rw [if_pos (Nat.eq_of_beq_eq_true hj)];exact hk
     ·rename_i hj
      simp only [Option.some.injEq,Prod.mk.injEq] at h;obtain ⟨rfl,rfl⟩:=h
      rw [if_neg (fun e=>by rw [e] at hj;simp at hj)];exact hk
    ·rename_i h1
     refine ih x h ?_
     cases e with
     | exit j=>exact absurd h (h1 _ _)
     | _=>exact hk
   ·rename_i x
    refine Sem.loop (σ:=Nat×Sta) (fun s=>s.2) (fun s=>s.1≤m+1∧exC c mk C s.1 (.loop x) s.2=some (e,G')) (fun s=>s.1) (m+1,G) Wk.refl ⟨Nat.le_refl _,h⟩ ?_
    rintro ⟨k,S⟩ ⟨hk1,hk2⟩
    cases k with
    | zero=>cases hk2
    | succ k=>
      dsimp only at hk1 hk2 ⊢
      change (match exC c mk C k x S with
       | some (.normal,G')=>exC c mk C k (.loop x) G'
       | r=>r)=some (e,G') at hk2
      split at hk2
      ·rename_i G1 h1
       exact exC_sem hc hC n k x (by omega) h1 ⟨(k,G1),Wk.refl,⟨by show k≤m+1;omega,hk2⟩,Nat.lt_succ_self _⟩
      ·rename_i h1
       refine exC_sem hc hC n k x (by omega) hk2 ?_
       cases e with
       | normal=>exact absurd hk2 (h1 _)
       | _=>exact hk
   ·simp only [Option.some.injEq,Prod.mk.injEq] at h;obtain ⟨rfl,rfl⟩:=h;exact Sem.exit Wk.refl hk
   ·simp only [Option.some.injEq,Prod.mk.injEq] at h;obtain ⟨rfl,rfl⟩:=h;exact Sem.ret Wk.refl hk
   ·simp only [Option.some.injEq,Prod.mk.injEq] at h;obtain ⟨rfl,rfl⟩:=h;exact Sem.label Wk.refl hk
   ·cases h
def noK:Kw:=fun _ _ _=>none
theorem noK_ok:KwOk P noK:=fun _ _ _ _ _ h=>by cases h
noncomputable def exEnd (c:Cfg) (rs:List ResultVar) (n:Nat) (e:Ex) (G:Sta):Option (AV×List AV):=
 match e with
 | .exit _=>none
 | _=>match (resRM c rs).ex noK G [] with
   | some (.set _ x :: W,_)=>match evOuts n 0 (app W G) with
     | some l=>fAV 5 x fun x=>fList (fAV 5) l fun l=>some (x,l)
     | none=>none
   | _=>none
theorem RM.ex_wq {CE:CEx} {G:Sta}:∀ (m:RM) {T:List Acc} {U:List Up} {T':List Acc} {K:List Up→Prop},m.ex noK G T=some (U,T')→K U→m.wq CE G K
 | .ret U,T,U',T',K,h,hk=>by simp only [ex_ret,Option.some.injEq,Prod.mk.injEq] at h;obtain ⟨rfl,rfl⟩:=h;exact hk
 | .fail,T,U',T',K,h,hk=>by cases h
 | .ask b o k,T,U',T',K,h,hk=>by
   simp only [ex_ask,zhm,zhn] at h
   split at h
   ·rename_i v hv
    split at h
    ·rename_i hok
     simp only [RM.wq,hv];exact ⟨hok,RM.ex_wq _ h hk⟩
    ·cases h
   ·cases h
 | .peek b k,T,U',T',K,h,hk=>by
   simp only [ex_ask,zhm,zhn] at h
   split at h
   ·rename_i v hv;simp only [RM.wq,hv];exact RM.ex_wq _ h hk
   ·cases h
 | .call g args outs k,T,U',T',K,h,hk=>by cases h
theorem exEnd_endK {c:Cfg} {rs:List ResultVar} {n:Nat} {e:Ex} {G:Sta} {x:AV} {l:List AV} {R:AV→List AV→Prop} {CE:CEx} (h:exEnd c rs n e G=some (x,l)) (hR:R x l):endK CE c rs n R e G:=by
 unfold exEnd at h
 split at h
 ·cases h
 ·rename_i he
  split at h
  ·rename_i b x1 W T h1
   split at h
   ·rename_i l1 hl
    rw [zf5,zce (zf5 5)] at h
    simp only [Option.some.injEq,Prod.mk.injEq] at h;obtain ⟨rfl,rfl⟩:=h
    have:=RM.ex_wq (CE:=CE) (K:=endU n R G) _ h1 (zdj hl hR)
    cases e with
    | exit id=>exact absurd rfl (he id)
    | normal=>exact this
    | ret=>exact this
   ·cases h
  ·cases h
structure XOk (P:Program) (cfg:FuncId→Nat→Cfg):Prop where
 ok:∀ g nt,COk P (cfg g nt)
 nt:∀ g nt,(cfg g nt).nt=nt
noncomputable def exF (P:Program) (cfg:FuncId→Nat→Cfg) (mks:FuncId→Nat) (K0:Kw) (m:Nat) (n:Nat):Kw:=
 Nat.rec (fun _ _ _=>none) (fun _ ih g args outs=>match K0 g args outs with
  | some r=>some r
  | none=>match P.funcs[g]? with
    | none=>none
    | some fn=>match fn.body with
      | none=>none
      | some x=>match !(fn.name == "runtime.NumGoroutine") && (Nat.ble args.length fn.ntmps && (args.all (shut1 false fun _=>true) && (outs.all (shut1 true fun _=>true) && Nat.ble (args.length+outs.length) 64))) with
        | false=>none
        | true=>fSta (fAV 5) (entryF 64 0 args outs) fun G=>match exC (cfg g fn.ntmps) (mks g) ih m x G with
          | some (e,G')=>exEnd (cfg g fn.ntmps) fn.results.toList outs.length e G'
          | none=>none) n
theorem exF_ok {cfg:FuncId→Nat→Cfg} {mks:FuncId→Nat} {K0:Kw} (hx:XOk P cfg) (h0:KwOk P K0) (m:Nat):∀ n,KwOk P (exF P cfg mks K0 m n)
 | 0=>noK_ok
 | n+1=>fun g args outs r o h=>by
   change (match K0 g args outs with
    | some r=>some r
    | none=>match P.funcs[g]? with
      | none=>none
      | some fn=>match fn.body with
        | none=>none
        | some x=>match !(fn.name == "runtime.NumGoroutine") && (Nat.ble args.length fn.ntmps && (args.all (shut1 false fun _=>true) && (outs.all (shut1 true fun _=>true) && Nat.ble (args.length+outs.length) 64))) with
          | false=>none
          | true=>fSta (fAV 5) (entryF 64 0 args outs) fun G=>match exC (cfg g fn.ntmps) (mks g) (exF P cfg mks K0 m n) m x G with
            | some (e,G')=>exEnd (cfg g fn.ntmps) fn.results.toList outs.length e G'
            | none=>none)=some (r,o) at h
   split at h
   ·rename_i hk;cases h;exact h0 _ _ _ _ _ hk
   ·split at h
    ·cases h
    ·rename_i fn hfn
     split at h
     ·cases h
     ·rename_i x hx1
      split at h
      ·cases h
      ·rename_i hb
       rw [zfD (zf5 5)] at h
       simp only [Bool.and_eq_true,Bool.not_eq_true'] at hb
       obtain ⟨b1,b2,b3,b4,b5⟩:=hb
       split at h
       ·rename_i e G' he
        refine zd2 (hx.ok g fn.ntmps) hfn b1 hx1 (hx.nt g _) (Nat.le_of_ble_eq_true b2) b3 b4 (Nat.le_of_ble_eq_true b5) ?_
        refine exC_sem (hx.ok g _) (exF_ok hx h0 m n) m m x (Nat.le_refl _) he ⟨G',Wk.refl,exEnd_endK h ⟨rfl,rfl⟩⟩
       ·cases h
end Go.Ev
namespace Go.Ev
open Go
def insI (x:Int):List Int→List Int
 | []=>[x]
 | y :: r=>match decide (x≤y) with
   | true=>x :: y :: r
   | false=>y :: insI x r
def isort:List Int→List Int
 | []=>[]
 | x :: r=>insI x (isort r)
theorem zg8 (x:Int):∀ l,List.Perm (insI x l) (x :: l)
 | []=>.refl _
 | y :: r=>by
   unfold insI
   split
   ·exact .refl _
   ·exact ((zg8 x r).cons y).trans (.swap x y r)
theorem zh5:∀ l,List.Perm (isort l) l
 | []=>.refl _
 | x :: r=>(zg8 x _).trans ((zh5 r).cons x)
theorem zg7 (x:Int):∀ l,l.Pairwise (·≤·)→(insI x l).Pairwise (·≤·)
 | [],_=>by simp [insI]
 | y :: r,h=>by
   rw [List.pairwise_cons] at h
   unfold insI
   split
   ·rename_i hxy
    have hxy:=of_decide_eq_true hxy
    refine List.pairwise_cons.2 ⟨fun z hz=>?_,List.pairwise_cons.2 h⟩
    rcases List.mem_cons.1 hz with rfl | hz
    ·exact hxy
    ·exact Int.le_trans hxy (h.1 z hz)
   ·rename_i hxy
    have hxy:=of_decide_eq_false hxy
    refine List.pairwise_cons.2 ⟨fun z hz=>?_,zg7 x r h.2⟩
    rcases List.mem_cons.1 ((zg8 x r).mem_iff.1 hz) with rfl | hz
    ·omega
    ·exact h.1 z hz
theorem zf0:∀ l,(isort l).Pairwise (·≤·)
 | []=>.nil
 | x :: r=>zg7 x _ (zf0 r)
theorem isort_eq (l:List Int):isort l=sortInts l:=by
 refine List.Perm.eq_of_pairwise (le:=(·≤·)) (fun a b _ _ h1 h2=>Int.le_antisymm h1 h2) (zf0 l) ?_ ((zh5 l).trans (List.mergeSort_perm l _).symm)
 have:=List.pairwise_mergeSort (le:=fun x y:Int=>decide (x≤y)) (fun a b c h1 h2=>by simp at *;omega) (fun a b=>by simp;omega) l
 exact this.imp fun h=>of_decide_eq_true h
def sortF2 (l:List FV):Option (List FV):=match fvInts l with
 | some zs=>match Nat.blt zs.length (2 ^ 40) with
   | true=>some ((isort zs).map fun n=>.pv (.int .i64 n))
   | false=>none
 | none=>none
theorem sortF2_eq:sortF2=sortF:=by
 funext l
 unfold sortF2 sortF
 cases fvInts l with
 | none=>rfl
 | some zs=>
   dsimp only
   by_cases h:zs.length < 2 ^ 40
   ·rw [if_pos h,show Nat.blt zs.length (2 ^ 40)=true from by simp [Nat.blt_eq,h],isort_eq]
   ·rw [if_neg h,show Nat.blt zs.length (2 ^ 40)=false from by rw [Bool.eq_false_iff];simpa [Nat.blt_eq] using h]
def cfgX (c:Cfg) (g0:FuncId):Cfg:={ c with ip:=fun g=>match Nat.beq g g0 with
 | true=>some (sortF2,false)
 | false=>c.ip g }
theorem cfgX_ok {P:Program} {c:Cfg} {g0:FuncId} (hc:COk P c) (h:c.ip g0=some (sortF,false)):COk P (cfgX c g0):=by
 have:cfgX c g0=c:=by
  unfold cfgX
  cases c
  simp only [Cfg.mk.injEq,true_and,and_true] at h ⊢
  funext g
  split
  ·rename_i e
   rw [Nat.eq_of_beq_eq_true e,h,sortF2_eq]
  ·rfl
 rw [this];exact hc
def mvT:List (Nat×List Nat)→Nat→List Nat
 | [],_=>[]
 | (a,l) :: r,g=>match Nat.beq a g with
   | true=>l
   | false=>mvT r g
def mkT:List (Nat×Nat)→Nat→Nat
 | [],_=>2 ^ 300 - 1
 | (a,l) :: r,g=>match Nat.beq a g with
   | true=>l
   | false=>mkT r g
def eqL {α:Type} (f:α→α→Bool):List α→List α→Bool
 | [],[]=>true
 | x :: r,y :: s=>match f x y with
   | true=>eqL f r s
   | false=>false
 | _,_=>false
theorem zho {α:Type} {f:α→α→Bool} (h:∀ x y,f x y=true→x=y):∀ {l m:List α},eqL f l m=true→l=m
 | [],[],_=>rfl
 | x :: r,y :: s,e=>by
   unfold eqL at e
   split at e
   ·rename_i hx;rw [h x y hx,zho h e]
   ·cases e
 | [],_ :: _,e=>by cases e
 | _ :: _,[],e=>by cases e
def eqI (a b:Int):Bool:=match a,b with
 | .ofNat a,.ofNat b=>Nat.beq a b
 | .negSucc a,.negSucc b=>Nat.beq a b
 | _,_=>false
theorem eqI_eq {a b:Int} (h:eqI a b=true):a=b:=by
 unfold eqI at h
 split at h
 ·rw [Nat.eq_of_beq_eq_true h]
 ·rw [Nat.eq_of_beq_eq_true h]
 ·cases h
def eqVal (x y:Value):Bool:=match x,y with
 | .int k a,.int k' b=>decide (k=k') && eqI a b
 | .bool true,.bool true=>true
 | .bool false,.bool false=>true
 | .string a,.string b=>eqL (fun (x y:UInt8)=>Nat.beq x.toNat y.toNat) a.data.toList b.data.toList
 | _,_=>false
theorem eqVal_eq {x y:Value} (h:eqVal x y=true):x=y:=by
 unfold eqVal at h
 split at h
 ·simp only [Bool.and_eq_true,decide_eq_true_eq] at h;rw [h.1,eqI_eq h.2]
 ·rfl
 ·rfl
 ·rename_i a b
  have:=zho (fun x y e=>UInt8.toNat_inj.1 (Nat.eq_of_beq_eq_true e)) h
  obtain ⟨⟨a⟩⟩:=a
  obtain ⟨⟨b⟩⟩:=b
  simp only at this
  rw [this]
 ·cases h
def eqFV:Nat→FV→FV→Bool
 | 0,_,_=>false
 | n+1,x,y=>match x,y with
   | .pv a,.pv b=>eqVal a b
   | .agg l,.agg m=>eqL (eqFV n) l m
   | .sl l,.sl m=>eqL (eqFV n) l m
   | _,_=>false
theorem eqFV_eq:∀ (n:Nat) (x y:FV),eqFV n x y=true→x=y
 | 0,_,_,h=>by cases h
 | n+1,x,y,h=>by
   unfold eqFV at h
   split at h
   ·rw [eqVal_eq h]
   ·rw [zho (eqFV_eq n) h]
   ·rw [zho (eqFV_eq n) h]
   ·cases h
def eqAV:Nat→AV→AV→Bool
 | 0,_,_=>false
 | n+1,x,y=>match x,y with
   | .f a,.f b=>eqFV 60 a b
   | .agg l,.agg m=>eqL (eqAV n) l m
   | .tup l,.tup m=>eqL (eqAV n) l m
   | _,_=>false
theorem eqAV_eq:∀ (n:Nat) (x y:AV),eqAV n x y=true→x=y
 | 0,_,_,h=>by cases h
 | n+1,x,y,h=>by
   unfold eqAV at h
   split at h
   ·rw [eqFV_eq _ _ _ h]
   ·rw [zho (eqAV_eq n) h]
   ·rw [zho (eqAV_eq n) h]
   ·cases h
def addK (C:Kw) (g0:FuncId) (a0:List AV) (r0:AV):Kw:=fun g args outs=>match Nat.beq g g0 with
 | false=>C g args outs
 | true=>match outs with
   | []=>match eqL (eqAV 3) args a0 with
     | true=>some (r0,[])
     | false=>C g args outs
   | _=>C g args outs
theorem addK_ok {P:Program} {C:Kw} {g0:FuncId} {a0:List AV} {r0:AV} (hC:KwOk P C) (h0:CallE P g0 a0 [] r0 []):KwOk P (addK C g0 a0 r0):=by
 intro g args outs r o h
 unfold addK at h
 split at h
 ·exact hC _ _ _ _ _ h
 ·rename_i hg
  split at h
  ·split at h
   ·rename_i he
    simp only [Option.some.injEq,Prod.mk.injEq] at h
    obtain ⟨rfl,rfl⟩:=h
    rw [Nat.eq_of_beq_eq_true hg,zho (eqAV_eq 3) he];exact h0
   ·exact hC _ _ _ _ _ h
  ·exact hC _ _ _ _ _ h
end Go.Ev
namespace Go.Ev
open Go Go.Proofs
def mvTab:List (Nat×List Nat):=[(9,[19]),(10,[31]),(16,[91]),(18,[49]),(20,[21,39,47,48]),(21,[85,86]),(24,[40,41,87,88]),(25,[74]),(31,[80]),(33,[28,59]),(36,[92]),(38,[26]),(42,[84]),(43,[38]),(47,[85]),(50,[45,61]),(57,[60]),(59,[22]),(61,[64]),(63,[40]),(65,[28]),(66,[62]),(69,[12]),(72,[43]),(74,[40]),(87,[22]),(89,[11]),(90,[17]),(91,[17]),(94,[35]),(95,[16]),(96,[50]),(97,[16]),(100,[22]),(105,[34]),(109,[42,65,117]),(114,[17]),(115,[20]),(117,[9,60]),(119,[26]),(121,[99,159]),(126,[37,68]),(127,[17]),(131,[76]),(132,[36]),(133,[44]),(134,[4]),(137,[26]),(141,[17]),(144,[41]),(145,[75]),(146,[55]),(147,[22]),(151,[53,56,50]),(155,[83]),(156,[80,167]),(160,[17]),(162,[4]),(167,[35]),(170,[24,25,26,27])]
def mkTab:List (Nat×Nat):=[(0,0),(1,0),(2,1),(3,51150847),(4,26180351),(5,20311114336839225606048738967551),(6,103676184045524862859273305087),(7,8919376833460436991),(8,169911889778823454311579647),(9,970687),(10,21303391),(11,1720048800366591),(12,79938063368191),(13,16615140451519999),(14,1246180066586631010303),(15,1069352461359706520575),(16,4949071951373595215252910079),(17,799652870357495316479),(18,1094156190546943),(19,22440920856670463),(20,48705928839167),(21,20769374479943885436092415),(22,182519825271200419703983765723122025471),(23,103),(24,19796178920360271631417343),(25,35568957268767864651903),(26,91861730047),(27,103),(28,103),(29,991),(30,45119),(31,32012181013889739044351),(32,44717439),(33,365515997340883455),(34,991),(35,827304666842329471),(36,9452216576849685421410746367),(37,415),(38,14222911),(39,32767),(40,44717439),(41,2033016789861426175),(42,26483012487235437344062975),(43,404633387007),(44,749885181142786709002495),(45,30333194644781450604232866942414591),(46,976816504391623167),(47,46776595544969660462940927),(48,6939940625324713458896383),(49,2611899615),(50,4198966582730863103),(51,7),(52,127),(53,127),(54,15),(55,2105343),(56,783),(57,1034750495697600511),(58,16415),(59,7078271),(60,63),(61,697315381217042431),(62,290184631),(63,2181808166271),(64,2127),(65,503316351),(66,6595090301555572669),(67,237382586126004735),(68,1151),(69,2319),(70,245631),(71,2127),(72,17519415613311),(73,991),(74,575735489279),(75,1073742063),(76,33311),(77,6771418607615),(78,69341631),(79,214746687),(80,127),(81,2144634104195964678593313791),(82,16383),(83,3813328480645375),(84,9223372036854810655),(85,1038451245142597451828003408537023),(86,579892441841488023295),(87,7431551),(88,44717439),(89,3951),(90,89087),(91,121855),(92,804978687),(93,16415),(94,51526074367),(95,98847),(96,2098614184710143),(97,111199),(98,115837),(99,45659165119),(100,458367),(101,1015679),(102,796878719),(103,1791),(104,63),(105,32689427039),(106,32919),(107,15),(108,366884988728372564664010998062997922430463),(109,647397559094766186389539901497343999),(110,156543),(111,7),(112,7),(113,25437071),(114,121855),(115,1454079),(116,1071),(117,1966582826695732095),(118,25437071),(119,114756319),(120,63),(121,1459996639440916079562133290943170518297767444479),(122,67775),(123,581127330000383),(124,127),(125,15),(126,34027325145605147099135),(127,87039),(128,7),(129,305439),(130,3),(131,119239753670294744330239),(132,108414238207),(133,34084522268415),(134,31),(135,5617494048973968087432204999419197128703),(136,7),(137,120153471),(138,4239),(139,4870847),(140,4361359),(141,121855),(142,370975),(143,17177742271),(144,4398032355071),(145,71461516959638126311422),(146,70783739968878591),(147,7431551),(148,468711010996479),(149,40154758497437695),(150,30706254751536809979),(151,20849270198378495),(152,223699197),(153,9066260874307452476066618962120827488255),(154,31),(155,503725912592557376450559),(156,155890296682650809670969036044288494793371396956159),(157,279),(158,16663),(159,527671295),(160,194559),(161,15),(162,31),(163,30882313655943784629245),(164,7),(165,2723227799),(166,255),(167,4716044287),(168,7),(169,370975),(170,9787391)]
noncomputable def cfx (g:FuncId) (nt:Nat):Cfg:=cfgX (cf (mvT mvTab g) nt) 116
theorem cfx_ok:XOk Tryz.prog cfx:=⟨fun g nt=>cfgX_ok (cfOk _ nt) rfl,fun _ _=>rfl⟩
end Go.Ev
