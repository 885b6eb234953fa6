import Derived.Test.YtkeiahjelpjegaaGreatA09
set_option linter.unusedSimpArgs false
set_option linter.unusedVariables false
namespace Go.Ev.Pl
open Go Go.Ev
def bolB (w:ByteArray) (b:Nat):Bool:=b == 0 || (((UInt8.toNat (byteAt w ((b - 1:Nat):Int)):Nat):Int) == 10)
def Tk (s:zx) (c:Nat) (bol:Bool) (k:Nat):Prop:=takB s c bol k=true∧(s.Rules.getD k default).Eof=false
def PS (s:zx) (w:ByteArray) (c:Nat) (bol:Bool) (b n:Nat) (rule most:Int):Prop:=
 (rule = -1∧most=0∧∀ k,k < n→Tk s c bol k→∀ j,¬ Mr w (s.Rules.getD k default) b j)∨
 ∃ k j:Nat,k < n∧rule=k∧most=(j:Int) - b∧b < j∧Tk s c bol k∧Mr w (s.Rules.getD k default) b j∧(∀ k',k' < n→Tk s c bol k'→∀ j',Mr w (s.Rules.getD k' default) b j'→j'≤j)∧∀ k',k' < n→Tk s c bol k'→Mr w (s.Rules.getD k' default) b j→k≤k'
section
variable {s : zx} {w : ByteArray} {c b n : Nat} {bol : Bool} {rule most : Int}
theorem PS.uniq {rule' most':Int} (h:PS s w c bol b n rule most) (h':PS s w c bol b n rule' most'):rule=rule'∧most=most':=by
 rcases h with ⟨h1,h2,h3⟩ | ⟨k,j,h1,h2,h3,h4,h5,h6,h7,h8⟩<;>rcases h' with ⟨g1,g2,g3⟩ | ⟨k',j',g1,g2,g3,g4,g5,g6,g7,g8⟩
 ·omega
 ·exact absurd g6 (h3 k' g1 g5 j')
 ·exact absurd h6 (g3 k h1 h5 j)
 ·have e1:=h7 k' g1 g5 j' g6
  have e2:=g7 k h1 h5 j h6
  obtain rfl:j=j':=by omega
  have e3:=h8 k' g1 g5 g6
  have e4:=g8 k h1 h5 h6
  omega
theorem PS.skip (h:PS s w c bol b n rule most) (hn:¬ Tk s c bol n):PS s w c bol b (n+1) rule most:=by
 have cs:∀ {k},k < n+1→Tk s c bol k→k < n:=fun {k} hk ht=>by
  rcases Nat.lt_or_ge k n with h | h
  ·exact h
  ·exact absurd (by rw [← show k=n by omega];exact ht) hn
 rcases h with ⟨h1,h2,h3⟩ | ⟨k,j,h1,h2,h3,h4,h5,h6,h7,h8⟩
 ·exact .inl ⟨h1,h2,fun k hk ht=>h3 k (cs hk ht) ht⟩
 ·exact .inr ⟨k,j,by omega,h2,h3,h4,h5,h6,fun k' hk ht=>h7 k' (cs hk ht) ht,fun k' hk ht=>h8 k' (cs hk ht) ht⟩
theorem PS.take {L:Int} (h:PS s w c bol b n rule most) (hn:Tk s c bol n) (hL:LS b (Mr w (s.Rules.getD n default) b) L):(L > most→PS s w c bol b (n+1) n L)∧(¬ L > most→PS s w c bol b (n+1) rule most):=by
 have cs:∀ {k},k < n+1→k < n∨k=n:=fun h=>by omega
 rcases h with ⟨h1,h2,h3⟩ | ⟨k,j,h1,h2,h3,h4,h5,h6,h7,h8⟩
 ·rcases hL with ⟨l1,l2⟩ | ⟨j,l1,l2,l3,l4⟩
  ·refine ⟨fun h=>by omega,fun _=>.inl ⟨h1,h2,fun k hk ht j hj=>?_⟩⟩
   rcases cs hk with hk | rfl
   ·exact h3 k hk ht j hj
   ·exact l2 j hj
  ·refine ⟨fun _=>.inr ⟨n,j,by omega,rfl,l1,l2,hn,l3,fun k' hk ht j' hj=>?_,fun k' hk ht hj=>?_⟩,fun h=>by omega⟩
   ·rcases cs hk with hk | rfl
    ·exact absurd hj (h3 k' hk ht j')
    ·exact l4 j' hj
   ·rcases cs hk with hk | rfl
    ·exact absurd hj (h3 k' hk ht j)
    ·exact Nat.le_refl _
 ·rcases hL with ⟨l1,l2⟩ | ⟨j2,l1,l2,l3,l4⟩
  ·refine ⟨fun h=>by omega,fun _=>.inr ⟨k,j,by omega,h2,h3,h4,h5,h6,fun k' hk ht j' hj=>?_,fun k' hk ht hj=>?_⟩⟩
   ·rcases cs hk with hk | rfl
    ·exact h7 k' hk ht j' hj
    ·exact absurd hj (l2 j')
   ·rcases cs hk with hk | rfl
    ·exact h8 k' hk ht hj
    ·exact absurd hj (l2 j)
  ·refine ⟨fun h=>.inr ⟨n,j2,by omega,rfl,l1,l2,hn,l3,fun k' hk ht j' hj=>?_,fun k' hk ht hj=>?_⟩,fun h=>.inr ⟨k,j,by omega,h2,h3,h4,h5,h6,fun k' hk ht j' hj=>?_,fun k' hk ht hj=>?_⟩⟩
   ·rcases cs hk with hk | rfl
    ·have:=h7 k' hk ht j' hj;omega
    ·exact l4 j' hj
   ·rcases cs hk with hk | rfl
    ·have:=h7 k' hk ht j2 hj;omega
    ·exact Nat.le_refl _
   ·rcases cs hk with hk | rfl
    ·exact h7 k' hk ht j' hj
    ·have:=l4 j' hj;omega
   ·rcases cs hk with hk | rfl
    ·exact h8 k' hk ht hj
    ·omega
end
theorem ps_ex (s:zx) (w:ByteArray) (c:Nat) (bol:Bool) (b:Nat):∀ n,∃ rule most,PS s w c bol b n rule most
 | 0=>⟨-1,0,.inl ⟨rfl,rfl,fun k hk=>absurd hk (by omega)⟩⟩
 | n+1=>by
   obtain ⟨rule,most,h⟩:=ps_ex s w c bol b n
   by_cases ht:Tk s c bol n
   ·obtain ⟨L,hL⟩:=LS.ex b (w.size+1) (Mr w (s.Rules.getD n default) b) fun j hj=>by have:=zfl hj;omega
    obtain ⟨h1,h2⟩:=h.take ht hL
    by_cases hl:L > most
    ·exact ⟨_,_,h1 hl⟩
    ·exact ⟨_,_,h2 hl⟩
   ·exact ⟨_,_,h.skip ht⟩
theorem pick8_ok (s:zx) (w:ByteArray) (hw:w.size≤100) (hR:za2 s true) (hb:∀ r∈s.Rules,RBody r) (hrl:s.Rules.length≤100) (hcl:s.Conds.length≤100) (hl:∀ r∈s.Rules,r.Conds.length < 1000000) {c b:Nat} (hc:c < s.Conds.length) (hbw:b≤w.size) :
 ∃ rule most,PS s w c (bolB w b) b s.Rules.length rule most∧zbB s w b c rule most:=by
 obtain ⟨rule,most,hP⟩:=ps_ex s w c (bolB w b) b s.Rules.length
 refine ⟨rule,most,hP,zfJ s w b c _ _ ⟨true,zge s w _ ⟨true,hR,by rw [decide_eq_true (by omega)];rfl⟩,fun h=>?_,fun _=>?_⟩⟩
 ·rw [decide_eq_false (show ¬ (b:Int) < 0 by omega),decide_eq_false (show ¬ (b:Int) > (w.size:Int) by omega),decide_eq_false (show ¬ (c:Int) < 0 by omega),decide_eq_false (show ¬ (c:Int)≥(s.Conds.length:Int) by omega)] at h
  cases h
 refine ⟨fun r m t=>∃ i:Nat,t=i∧i≤s.Rules.length∧PS s w c (bolB w b) b i r m,fun r m t=>(s.Rules.length - t).toNat,⟨0,rfl,by omega,.inl ⟨rfl,rfl,fun k hk=>absurd hk (by omega)⟩⟩,?_⟩
 rintro r m t ⟨i,rfl,hi,hp⟩
 rw [zbd]
 refine ⟨fun ht=>?_,fun ht=>?_⟩
 ·have ht:=of_decide_eq_true ht
  have hg:gd s.Rules (i:Int)=s.Rules.getD i default:=by rw [z8 ht];simp [List.getD,ht]
  have hm:s.Rules.getD i default∈s.Rules:=by rw [List.getD_eq_getElem?_getD,List.getElem?_eq_getElem ht];exact List.getElem_mem _
  rw [hg,show w64 ((i:Int)+1)=((i+1:Nat):Int) from zG (by omega) (by omega)]
  have go:Tk s c (bolB w b) i→∃ p,zal (s.Rules.getD i default) w b p∧(decide (p > m)=true→PS s w c (bolB w b) b (i+1) i p)∧(decide (p > m)=false→PS s w c (bolB w b) b (i+1) r m):=fun hT=>by
   obtain ⟨L,h1,h2⟩:=longest_ok w hw (hb _ hm) hT.2 hbw
   obtain ⟨t1,t2⟩:=hp.take hT h2
   exact ⟨L,h1,fun h=>t1 (of_decide_eq_true h),fun h=>t2 (of_decide_eq_false h)⟩
  have hact:=rActive_ok s ht hc (by omega) (by omega) (hl _ hm)
  refine ⟨fun r m=>PS s w c (bolB w b) b (i+1) r m,fun r m h=>⟨⟨i+1,rfl,by omega,h⟩,by first | omega | (dsimp only;omega)⟩,by omega,by omega,(fun he=>hp.skip fun hT=>(by rw [hT.2] at he;cases he)),fun he=>⟨_,hact,fun ha=>hp.skip fun hT=>?_,fun ha=>⟨fun hB=>⟨fun h0=>⟨fun _ _ _ _=>?_,fun _ _ _ _=>?_,fun h10=>hp.skip fun hT=>?_,fun h10=>go ⟨?_,he⟩⟩,fun h0=>go ⟨?_,he⟩⟩,fun hB=>go ⟨?_,he⟩⟩⟩⟩
  ·have h1:=hT.1
   unfold takB at h1
   rw [show activeB s i c=false by simpa using ha] at h1;cases h1
  ·have:=of_decide_eq_true h0
   rw [show w64 ((b:Int) - 1)=((b - 1:Nat):Int) from (zG (by omega) (by omega)).trans (by omega)];omega
  ·have:=of_decide_eq_true h0
   rw [show w64 ((b:Int) - 1)=((b - 1:Nat):Int) from (zG (by omega) (by omega)).trans (by omega)];omega
  ·have h0:=of_decide_eq_true h0
   rw [show w64 ((b:Int) - 1)=((b - 1:Nat):Int) from (zG (by omega) (by omega)).trans (by omega)] at h10
   have h1:=hT.1
   unfold takB at h1
   have hbol:bolB w b=false:=by
    unfold bolB
    rw [show (b == 0)=false from beq_eq_false_iff_ne.2 (by omega),Bool.false_or]
    simpa [bne] using h10
   rw [hbol,hB] at h1;simp at h1
  ·have h0:=of_decide_eq_true h0
   rw [show w64 ((b:Int) - 1)=((b - 1:Nat):Int) from (zG (by omega) (by omega)).trans (by omega)] at h10
   have hbol:bolB w b=true:=by
    unfold bolB
    rw [show (b == 0)=false from beq_eq_false_iff_ne.2 (by omega),Bool.false_or]
    simpa [bne] using h10
   unfold takB
   rw [show activeB s i c=true by simpa using ha,hbol];rfl
  ·have h0:=of_decide_eq_false h0
   have hbol:bolB w b=true:=by
    unfold bolB
    rw [show (b == 0)=true from beq_iff_eq.2 (by omega)];rfl
   unfold takB
   rw [show activeB s i c=true by simpa using ha,hbol];rfl
  ·unfold takB
   rw [show activeB s i c=true by simpa using ha,hB];simp
 ·have ht:=of_decide_eq_false ht
  have:i=s.Rules.length:=by omega
  subst this
  obtain ⟨e1,e2⟩:=hP.uniq hp
  exact ⟨e1,e2⟩
theorem one_sub {w:ByteArray} {g:GA} {b:Nat} (hb:b≤w.size) {j:Nat}:one (w.extract b w.size).size (bt (w.extract b w.size)) g 0 j↔one w.size (bt w) g b (b+j):=by
 have hs:=zhf hb (Nat.le_refl w.size)
 have hB:∀ i,i < (w.extract b w.size).size→bt (w.extract b w.size) i=bt w (b+i):=fun i hi=>bt_part hb (Nat.le_refl _) (by omega)
 constructor
 ·rintro ⟨p,h1,h2⟩
  exact ⟨p,h1,pth_sub1 (by omega) hB h2⟩
 ·rintro ⟨p,h1,h2⟩
  have:=pth_lt h2
  exact ⟨p,h1,pth_sub2 (N:=w.size) (by omega) hB h2 0 j rfl rfl (by omega)⟩
theorem run_ps {s:zx} (hb:∀ r∈s.Rules,RBody r) (g:Gd (buildM s)) (w:ByteArray) (c:Nat) (bol:Bool) {b:Nat} (hbw:b≤w.size) (hf:InR (buildM s) (stM s (accM s.Rules s.Rules.length).2 c bol s.Rules.length)) :
 PS s w c bol b s.Rules.length (runN (buildM s) (w.extract b w.size) (w.extract b w.size).size (stM s (accM s.Rules s.Rules.length).2 c bol s.Rules.length) (-1) 0 0).1 (runN (buildM s) (w.extract b w.size) (w.extract b w.size).size (stM s (accM s.Rules s.Rules.length).2 c bol s.Rules.length) (-1) 0 0).2:=by
 have hF:∀ j o,From (buildM s) (w.extract b w.size).size (bt (w.extract b w.size)) (stM s (accM s.Rules s.Rules.length).2 c bol s.Rules.length) 0 j o↔∃ k,k < s.Rules.length∧Tk s c bol k∧o=k∧Mr w (s.Rules.getD k default) b (b+j):=fun j o=>by
  rw [start_from hb]
  constructor
  ·rintro ⟨k,h1,h2,h3,h4,h5⟩;exact ⟨k,h1,⟨h2,h3⟩,h4,(one_sub hbw).1 h5⟩
  ·rintro ⟨k,h1,⟨h2,h3⟩,h4,h5⟩;exact ⟨k,h1,h2,h3,h4,(one_sub hbw).2 h5⟩
 have back:∀ {r:zp} {j:Nat},Mr w r b j→b < j∧b+(j - b)=j:=fun h=>by have:=zfl h;omega
 rcases run_sp (buildM s) g (w.extract b w.size) (w.extract b w.size).size _ (-1) 0 0 (by omega) hf with ⟨h1,h2⟩ | ⟨j,o,h1,h2,h3,h4⟩
 ·rw [h2]
  refine .inl ⟨rfl,rfl,fun k hk ht j hj=>?_⟩
  exact h1 (j - b) k ((hF _ _).2 ⟨k,hk,ht,rfl,by rw [(back hj).2];exact hj⟩)
 ·rw [h1]
  obtain ⟨k,k1,k2,rfl,k4⟩:=(hF j o).1 h2
  refine .inr ⟨k,b+j,k1,rfl,by simp only;omega,(back k4).1,k2,k4,fun k' hk ht j' hj=>?_,fun k' hk ht hj=>?_⟩
  ·have:=h3 (j' - b) k' ((hF _ _).2 ⟨k',hk,ht,rfl,by rw [(back hj).2];exact hj⟩)
   have:=(back hj).1;omega
  ·have:=h4 k' ((hF _ _).2 ⟨k',hk,ht,rfl,hj⟩);omega
theorem small_of' {a:zi} (g:Gd a):Small a:=fun l hl=>by
 have:InR a l:=g.rise l hl
 have:=this.len g;omega
theorem autoPick_ok (l t:List Int) (hl:Bytes l) (ht:Bytes t) (u cond:Int) (hu:0≤u∧u < 256) (hcd:0≤cond∧cond < 256):zbx l t u cond true:=by
 obtain ⟨s,hm,hs,-⟩:=made6_ok l hl false
 obtain ⟨w,hw,hwz⟩:=text_ok t ht
 obtain ⟨b1,b4⟩:=fitBuildA s hs
 obtain ⟨f1,f2,f3,f4,f5⟩:=fit_ok s hs
 obtain ⟨n,bb,n1,n3,hC,hlen,hRl⟩:=hs.conds
 obtain ⟨m1,m2⟩:=hs.many
 have hb:∀ r∈s.Rules,RBody r:=fun r hr=>fit_body (hRl r hr)
 have r2:=refRightB_ok s f2 fun _=>f3
 rw [f1] at r2
 have g:=gd_of b4
 have hR:=right_ok _ (small_of' g)
 rw [b4] at hR
 have hSt:(buildM s).Starts.length=2 * s.Conds.length:=by simp [buildM]
 obtain ⟨c,hc⟩:∃ c,c=cond.toNat % s.Conds.length:=⟨_,rfl⟩
 obtain ⟨b,hbe⟩:∃ b,b=u.toNat % (w.size+1):=⟨_,rfl⟩
 have hcl:c < s.Conds.length:=by rw [hc];exact Nat.mod_lt _ (by omega)
 have hbw:b≤w.size:=by have:=Nat.mod_lt u.toNat (show 0 < w.size+1 by omega);omega
 have e1:w64 ((w.size:Int)+1)=((w.size+1:Nat):Int):=zG (by omega) (by omega)
 have e2:Int.tmod (w64 cond) (s.Conds.length:Int)=(c:Int):=by
  rw [zG (by omega) (by omega),hc,Int.tmod_eq_emod_of_nonneg hcd.1,Int.natCast_emod]
  congr 1;omega
 have e3:Int.tmod (w64 u) ((w.size+1:Nat):Int)=(b:Int):=by
  rw [zG (by omega) (by omega),hbe,Int.tmod_eq_emod_of_nonneg hu.1,Int.natCast_emod]
  congr 1;omega
 have e4:w64 (2 * (s.Conds.length:Int))=((2 * s.Conds.length:Nat):Int):=(zG (by omega) (by omega)).trans (by omega)
 have e5:w64 (2 * (c:Int))=((2 * c:Nat):Int):=(zG (by omega) (by omega)).trans (by omega)
 refine zdP l t u cond _ ⟨true,awake_ok,(fun h=>by cases h),fun _=>⟨s,hm,w,hw,_,_,b1,?_⟩⟩
 rw [hSt,e1,e2,e3,e4,e5]
 refine ⟨fun h=>by simp at h,fun _=>⟨by omega,by omega,fun p=>p=if bolB w b=true then 1 else 0,fun p hp=>?_,fun h=>?_,fun h=>?_,fun h=>?_,fun h=>?_⟩⟩
 ·have hi:w64 (((2 * c:Nat):Int)+p)=((2 * c+(if bolB w b=true then 1 else 0):Nat):Int):=by
   rw [hp];split<;>exact (zG (by omega) (by omega)).trans (by omega)
  have hlt:2 * c+(if bolB w b=true then 1 else 0) < 2 * s.Conds.length:=by split<;>omega
  have hgd:gd (buildM s).Starts ((2 * c+(if bolB w b=true then 1 else 0):Nat):Int)=stM s (accM s.Rules s.Rules.length).2 c (bolB w b) s.Rules.length:=by
   refine zd5 ?_
   show ((List.range (2 * s.Conds.length)).map fun c=>stM s (accM s.Rules s.Rules.length).2 (c / 2) (c % 2 == 1) s.Rules.length)[_]?=_
   rw [List.getElem?_map,List.getElem?_range hlt,Option.map_some]
   refine congrArg some ?_
   cases hbb:bolB w b with
   | true=>
     simp only [if_true]
     rw [show (2 * c+1) / 2=c by omega,show ((2 * c+1) % 2 == 1)=true from beq_iff_eq.2 (by omega)]
   | false=>
     simp only [Bool.false_eq_true,if_false,Nat.add_zero]
     rw [show 2 * c / 2=c by omega,show ((2 * c) % 2 == 1)=false from beq_eq_false_iff_ne.2 (by omega)]
  have hmem:gd (buildM s).Starts ((2 * c+(if bolB w b=true then 1 else 0):Nat):Int)∈(buildM s).Starts:=by
   rw [z8 (by rw [hSt];exact hlt)];exact List.getElem_mem _
  have hf:InR (buildM s) (stM s (accM s.Rules s.Rules.length).2 c (bolB w b) s.Rules.length):=by rw [← hgd];exact g.rise _ (List.mem_append_right _ hmem)
  rw [hi,hgd,Int.toNat_natCast]
  obtain ⟨rule,most,p1,p2⟩:=pick8_ok s w (by omega) r2 hb (by omega) (by omega) f5 hcl hbw
  have p3:=run_ps hb g w c (bolB w b) hbw hf
  obtain ⟨q1,q2⟩:=p1.uniq p3
  have hvs:=zhf hbw (Nat.le_refl w.size)
  refine ⟨by omega,by omega,⟨by omega,hbw⟩,_,_,run_ok _ g hR _ hf _ (by omega),rule,most,p2,?_⟩
  rw [q1,q2];simp
 ·have:¬ b=0:=by have:¬ (b:Int)=0:=by simpa using h
                 omega
  rw [show w64 ((b:Int) - 1)=((b - 1:Nat):Int) from (zG (by omega) (by omega)).trans (by omega)];omega
 ·have:¬ b=0:=by have:¬ (b:Int)=0:=by simpa using h
                 omega
  rw [show w64 ((b:Int) - 1)=((b - 1:Nat):Int) from (zG (by omega) (by omega)).trans (by omega)];omega
 ·rw [if_pos]
  unfold bolB
  by_cases h0:b=0
  ·subst h0;rfl
  ·rw [show w64 ((b:Int) - 1)=((b - 1:Nat):Int) from (zG (by omega) (by omega)).trans (by omega),show ((b:Int) == 0)=false from beq_eq_false_iff_ne.2 (by omega),Bool.false_or] at h
   rw [h];simp
 ·rw [if_neg]
  unfold bolB
  have h0:¬ b=0:=fun h0=>by subst h0;simp at h
  rw [show w64 ((b:Int) - 1)=((b - 1:Nat):Int) from (zG (by omega) (by omega)).trans (by omega),show ((b:Int) == 0)=false from beq_eq_false_iff_ne.2 (by omega),Bool.false_or] at h
  rw [h,show (b == 0)=false from beq_eq_false_iff_ne.2 h0];simp
end Go.Ev.Pl
