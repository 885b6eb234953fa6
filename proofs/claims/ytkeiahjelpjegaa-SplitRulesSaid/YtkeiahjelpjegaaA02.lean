import Derived.Test.YtkeiahjelpjegaaA01
import Derived.KernelRfl
import Derived.Test.YtkeiahjelpjegaaProg
import Derived.Shelf.Small.Bits
import Derived.Shelf.Small.Wraps
import Derived.Shelf.Strconv.Itoa0
import Derived.Shelf.Sort.Plain
import Derived.Shelf.Slices.Turned
import Derived.Ground.Names2Prog
import Derived.Shelf.Slices.CompactI
import Derived.Shelf.Slices.SearchI
import Derived.Shelf.Slices.Cells
import Derived.Shelf.Slices.In.SortNone
import Derived.Shelf.Spec.SlicesGrow
import Derived.Lib.RowBridge
set_option linter.unusedVariables false
set_option linter.unusedSimpArgs false
namespace Go.Ev
open Go Go.RowKit
variable {P : Program}
section
variable {c : Cfg} {G : Sta} {own own' : Own} {a : Act} {w w' : World}
theorem gt_get {bs:List Nat} {gt:Sta} (h:gtOk bs gt=true) {b:Nat} {v:AV} (e:get gt b=some v):b % 3=1∧shut1 false bs.contains v=true:=by
 have:=get_all h e
 simpa using this
theorem rk_get {bs:List Nat} {gt:Sta} {cs:List AV} (h1:gtOk bs gt=true) (h3:bsOk bs=true) {b:Nat} {v:AV} (e:get (gt++zs bs cs) b=some v) :
 (b % 3=1∧shut1 false bs.contains v=true∧get gt b=some v)∨(b % 3≠1∧∃ i:Nat,bs[i]?=some b∧cs[i]?=some v):=by
 rw [get_app] at e
 cases hg:get gt b with
 | some x=>rw [hg] at e;simp at e;subst e;exact .inl ⟨(gt_get h1 hg).1,(gt_get h1 hg).2,rfl⟩
 | none=>
   rw [hg] at e;simp at e
   obtain ⟨i,q1,q2⟩:=get_zs e
   have:=List.all_eq_true.1 h3 b (List.mem_of_getElem? q1)
   exact .inr ⟨by simpa using this,i,q1,q2⟩
theorem round_st {nt:Nat} {gt:Sta} {bs:List Nat} {cs:List AV} (h1:gtOk bs gt=true) (h2:csOk bs cs=true) (h3:bsOk bs=true) (hn:bs.Nodup) (s:St P nt (gt++zs bs cs) own a w) {p0 p1:Tmp} (hp0:p0 < nt) (hp1:p1 < nt) (hp:p0≠p1)
 {i:Int} {y:FV} {u:Value} {sz:Nat} (hy:y.fits sz=true) (hu:RF own w y u) :
 St P nt (rst gt bs cs p0 p1 i y) (ownC bs own) { tmps:=((#[p0,p1]:Array Tmp).zip #[.int .i64 i,u]).foldl (fun t (p,v)=>t.setIfInBounds p v) a.tmps,defers:=[] } w:=by
 have htm:((#[p0,p1]:Array Tmp).zip (#[.int .i64 i,u]:Array Value)).foldl (fun t (x:Tmp×Value)=>t.setIfInBounds x.1 x.2) a.tmps=(a.tmps.setIfInBounds p0 (.int .i64 i)).setIfInBounds p1 u:=by
  simp [List.zip_toArray]
 have hnn:∀ k,own k=none→ownC bs own k=none:=fun k hk=>by simp [ownC,hk]
 have hbx:∀ k b,bs.contains b=true→own k=some (.box b)→ownC bs own k=some (.box (toOut bs b)):=fun k b hb hk=>by
  simp only [ownC,hk,Option.map_some,toOwn];rw [if_pos hb]
 simp only [csOk,Bool.and_eq_true,beq_iff_eq] at h2
 have htr:∀ x u,RF own w x u→RF (ownC bs own) w x u:=fun x u h=>h.mono0 hnn
 refine ⟨by rw [htm];simp [s.size],fun t v e=>?_,fun b v hb e=>?_,fun k k' x e e'=>?_,fun k x e=>?_⟩
 ·rw [htm]
  simp only [rst,get] at e
  split at e
  ·rename_i ht;cases e
   have:=tb_inj ht;subst this
   refine ⟨.int .i64 i,by rw [Array.getElem?_setIfInBounds_ne (fun e=>hp e.symm),Array.getElem?_setIfInBounds_self_of_lt (by rw [s.size];exact hp0)],⟨rfl,.pv _ rfl⟩⟩
  ·rename_i hne0
   split at e
   ·rename_i ht;cases e
    have:=tb_inj ht;subst this
    refine ⟨u,by rw [Array.getElem?_setIfInBounds_self_of_lt (by simp [s.size];exact hp1)],asAV_rl hy (htr _ _ hu)⟩
   ·rename_i hne1
    rw [get_app,get_renG] at e
    cases hg:get gt (tb t) with
    | none=>
      rw [hg] at e;simp at e
      obtain ⟨j,q1,q2⟩:=get_zo e
      exfalso;simp only [tb,ob] at q1;omega
    | some x=>
      rw [hg] at e;simp at e;subst e
      obtain ⟨u',q1,q2⟩:=s.temps t x (by rw [get_app,hg];rfl)
      refine ⟨u',?_,shut_rl (gt_get h1 hg).2 hnn hbx q2⟩
      rw [Array.getElem?_setIfInBounds_ne (by rintro rfl;exact hne1 rfl),Array.getElem?_setIfInBounds_ne (by rintro rfl;exact hne0 rfl)];exact q1
 ·simp only [rst,get] at e
  split at e
  ·rename_i ht;subst ht;simp [tb] at hb
  ·split at e
   ·rename_i ht;subst ht;simp [tb] at hb
   ·rw [get_app,get_renG] at e
    cases hg:get gt b with
    | some x=>exact absurd (gt_get h1 hg).1 hb
    | none=>
      rw [hg] at e;simp at e
      obtain ⟨j,q1,q2⟩:=get_zo e
      rw [Nat.zero_add] at q1
      rw [List.getElem?_map] at q2
      cases hj:cs[j]? with
      | none=>rw [hj] at q2;cases q2
      | some y'=>
        rw [hj] at q2;cases q2
        have hlt:j < bs.length:=by have:=(List.getElem?_eq_some_iff.1 hj).1;omega
        obtain ⟨b0,hb0⟩:∃ b0,bs[j]?=some b0:=⟨bs[j],by simp⟩
        have hmem:=List.mem_of_getElem? hb0
        have hb03:b0 % 3≠1:=by have:=List.all_eq_true.1 h3 b0 hmem;simpa using this
        have hgg:get (gt++zs bs cs) b0=some y':=by
         rw [get_app]
         cases hq:get gt b0 with
         | some z=>exact absurd (gt_get h1 hq).1 hb03
         | none=>simp;exact get_zs_of hn hb0 hj
        obtain ⟨k,arr,TT,e1,e2,e3⟩:=s.boxes b0 y' hb03 hgg
        have hto:=toOut_get hn hb0
        subst q1
        refine ⟨k,arr,TT,by rw [← hto];exact hbx k b0 (by simpa using hmem) e1,e2,?_⟩
        refine ren_rb hnn hbx ?_ e3 (List.all_eq_true.1 h2.2 y' (List.mem_of_getElem? hj))
        intro k j hk
        simp only [ownC,hk,Option.map_some,toOwn]
        rw [if_pos (by simpa using hmem),hto]
 ·simp only [ownC] at e e'
  cases q:own k with
  | none=>rw [q] at e;cases e
  | some y=>
    cases q':own k' with
    | none=>rw [q'] at e';cases e'
    | some y'=>
      rw [q] at e;rw [q'] at e'
      simp only [Option.map_some,Option.some.injEq] at e e'
      have:=toOwn_inj hn e e'
      subst this
      exact s.one k k' y q q'
 ·simp only [ownC] at e
  cases q:own k with
  | none=>rw [q] at e;cases e
  | some y=>exact s.lt k y q
theorem round_back {gt:Sta} {bs:List Nat} {cs cs':List AV} (h1:gtOk bs gt=true) (h2:csOk bs cs=true) (h2':csOk bs cs'=true) (h3:bsOk bs=true) (hn:bs.Nodup) (hlen:sameLens cs cs'=true) (s:St P c.nt (gt++zs bs cs) own a w)
 {G3:Sta} {a3:Act} (s3:St P c.nt G3 own' a3 w') (hG:evOuts bs.length 0 G3=some (cs'.map (ren1 (toOut bs)))) (tr:Tr (ownC bs own) w own' w') :
 ∃ own2,St P c.nt (gt++zs bs cs') own2 a w'∧Tr own w own2 w':=by
 have h2a:=h2;have h2b:=h2'
 simp only [csOk,Bool.and_eq_true,beq_iff_eq] at h2a h2b
 have hshut:∀ v,v∈cs'→shut1 true bs.contains v=true:=fun v hv=>List.all_eq_true.1 h2b.2 v hv
 have hin:∀ b,bs.contains b=true→∃ i:Nat,bs[i]?=some b:=fun b hb=>List.mem_iff_getElem?.1 (by simpa using hb)
 have hr0:∀ o v,shut0 o bs.contains v=true→shut0 o (isOut bs.length) (ren0 (toOut bs) v)=true∧ren0 (back bs) (ren0 (toOut bs) v)=v:=by
  intro o v hv
  have hc:∀ v,capIn bs.contains v=true→capIn (isOut bs.length) (renC (toOut bs) v)=true∧renC (back bs) (renC (toOut bs) v)=v:=by
   intro v hv
   cases v with
   | ptr b off=>
     obtain ⟨i,hi⟩:=hin b hv
     have hto:=toOut_get hn hi
     refine ⟨?_,?_⟩
     ·show isOut bs.length (toOut bs b)=true
      rw [hto];exact isOut_ob (List.getElem?_eq_some_iff.1 hi).1
     ·simp only [renC];rw [hto,back_ob hi]
   | _=>exact ⟨hv,rfl⟩
  cases v with
  | clo g caps=>
    simp only [shut0,List.all_eq_true] at hv ⊢
    refine ⟨?_,?_⟩
    ·simp only [ren0,shut0,List.all_map,List.all_eq_true]
     exact fun x hx=>(hc x (hv x hx)).1
    ·simp only [ren0,List.map_map,AV.clo.injEq,true_and]
     conv=>rhs;rw [← List.map_id caps]
     exact List.map_congr_left fun x hx=>(hc x (hv x hx)).2
  | own E l=>exact ⟨hv,rfl⟩
  | ptr b off=>exact hc (.ptr b off) hv
  | _=>exact ⟨hv,rfl⟩
 have hr1:∀ o v,shut1 o bs.contains v=true→shut1 o (isOut bs.length) (ren1 (toOut bs) v)=true∧ren1 (back bs) (ren1 (toOut bs) v)=v:=by
  intro o v hv
  rcases shut1_forms (f:=toOut bs) hv with ⟨l,rfl,hl⟩ | ⟨q1,q2,q3,q4⟩
  ·refine ⟨?_,?_⟩
   ·simp only [ren1,shut1,List.all_map,List.all_eq_true]
    exact fun x hx=>(hr0 o x (List.all_eq_true.1 hl x hx)).1
   ·simp only [ren1,List.map_map,AV.agg.injEq]
    conv=>rhs;rw [← List.map_id l]
    exact List.map_congr_left fun x hx=>(hr0 o x (List.all_eq_true.1 hl x hx)).2
  ·have key:=hr0 o v q1
   rw [q3]
   have hne:∀ l,ren0 (toOut bs) v≠.agg l:=fun l e=>by rw [e] at q4;simp [AV.isLeaf] at q4
   generalize hx:ren0 (toOut bs) v=x at key hne
   cases x with
   | agg l=>exact absurd rfl (hne l)
   | _=>exact key
 obtain ⟨outs,houts⟩:∃ outs,outs=cs'.map (ren1 (toOut bs)):=⟨_,rfl⟩
 have ho:Outs P own' w' outs:=by
  have hsp:=evOuts_spec (K:=fun l=>l=outs) hG houts.symm
  obtain ⟨l,rfl,hl⟩:=outsOf_spec hsp
  refine ⟨fun i v hv=>?_,s3.one,s3.lt⟩
  obtain ⟨k,arr,TT,e1,e2,e3⟩:=s3.boxes (ob i) v (by simp only [ob];omega) (by have:=hl i v hv;rwa [Nat.zero_add] at this)
  have hv':∃ z,z∈cs'∧v=ren1 (toOut bs) z:=by
   rw [houts,List.getElem?_map] at hv
   cases hz:cs'[i]? with
   | none=>rw [hz] at hv;cases hv
   | some z=>rw [hz] at hv;cases hv;exact ⟨z,List.mem_of_getElem? hz,rfl⟩
  obtain ⟨z,hz,rfl⟩:=hv'
  have hs:=(hr1 true z (hshut z hz)).1
  refine ⟨k,arr,TT,e1,e2,?_⟩
  have:=ren_rb (P:=P) (G':=[]) (own':=own') (f:=fun b=>b) (p:=isOut bs.length) (fun k h=>h) (fun k b _ h=>h) (b:=ob i) (b':=ob i) (fun k j h=>h) e3 hs
  have hid:ren1 (fun b=>b) (ren1 (toOut bs) z)=ren1 (toOut bs) z:=by
   generalize ren1 (toOut bs) z=v
   have h0:∀ v,ren0 (fun b=>b) v=v:=by
    intro v
    cases v with
    | clo g caps=>
      simp only [ren0,AV.clo.injEq,true_and]
      conv=>rhs;rw [← List.map_id caps]
      exact List.map_congr_left fun x _=>by cases x<;>rfl
    | _=>rfl
   cases v with
   | agg l=>
     simp only [ren1,AV.agg.injEq]
     conv=>rhs;rw [← List.map_id l]
     exact List.map_congr_left fun x _=>h0 x
   | _=>simp only [ren1];exact h0 _
  rw [hid] at this;exact this
 have g1:outs.length=bs.length:=by rw [houts,List.length_map];exact h2b.1
 have g3:outs.all (shut1 true (isOut bs.length))=true:=by
  rw [houts,List.all_map,List.all_eq_true]
  exact fun x hx=>(hr1 true x (hshut x hx)).1
 have h3':∀ b∈bs,b % 3≠1:=fun b hb=>by have:=List.all_eq_true.1 h3 b hb;simpa using this
 have hcs:∀ (i:Nat) b v,bs[i]?=some b→cs[i]?=some v→get (gt++zs bs cs) b=some v:=by
  intro i b v hb hv
  rw [get_app]
  cases hq:get gt b with
  | some z=>exact absurd (gt_get h1 hq).1 (h3' b (List.mem_of_getElem? hb))
  | none=>simp;exact get_zs_of hn hb hv
 have hlm:∀ v:AV,(ren1 (toOut bs) v).leaves.length=v.leaves.length→True:=fun _ _=>trivial
 have g2:sameLens cs outs=true:=by
  rw [houts]
  have hx:∀ (cs cs':List AV),sameLens cs cs'=true→(∀ v∈cs',shut1 true bs.contains v=true)→sameLens cs (cs'.map (ren1 (toOut bs)))=true:=by
   intro cs
   induction cs with
   | nil=>intro cs' _ _;cases cs'<;>rfl
   | cons x cs ih=>
     intro cs' h hs
     cases cs' with
     | nil=>simp [sameLens] at h
     | cons y cs'=>
       simp only [sameLens,List.map_cons,Bool.and_eq_true,beq_iff_eq] at h ⊢
       refine ⟨?_,ih cs' h.2 fun v hv=>hs v (List.mem_cons_of_mem _ hv)⟩
       rw [(ren1_leaves (f:=toOut bs) (hs y (List.mem_cons_self ..))).1,List.length_map];exact h.1
  exact hx cs cs' hlen hshut
 obtain ⟨s4,t4⟩:=call_back (c:=c) (d:=none) (r:=.tup []) (u:=.tuple #[]) s h2a.1.symm hcs h3' hn rfl g1 g2 g3 rfl tr ho ⟨#[],rfl,rfl,fun j x v h=>by simp at h⟩
 refine ⟨_,⟨s4.size,fun t v e=>?_,fun b v hb e=>?_,s4.one,s4.lt⟩,t4⟩
 ·rcases rk_get h1 h3 e with ⟨q1,q2,q3⟩ | ⟨q1,_⟩
  ·have hS:outS bs none (tb t)=false:=by
    have:tb t∉bs:=fun hb=>h3' _ hb (by simp [tb])
    simp [outS,dIs,this]
   have hg:=get_out (r:=ren2 (back bs) (.tup [])) (G:=gt++zs bs cs) (back bs) g1.symm hS
   have hg2:get (gt++zs bs cs) (tb t)=some v:=by rw [get_app,q3];rfl
   rw [hg2,Option.map_some] at hg
   have hk:AV.map2 (killS (outS bs none)) v=v:=by
    have h0:∀ o v,shut0 o bs.contains v=true→killS (outS bs none) v=v:=by
     intro o v hv;cases v<;>first | rfl | simp [shut0,capIn] at hv
    rcases shut1_forms (f:=toOut bs) q2 with ⟨l,rfl,hl⟩ | ⟨z1,z2,_,_⟩
    ·simp only [AV.map2,AV.agg.injEq]
     conv=>rhs;rw [← List.map_id l]
     exact List.map_congr_left fun x hx=>h0 false x (List.all_eq_true.1 hl x hx)
    ·rw [map2_leaf (isLeaf_forms z2).1 (isLeaf_forms z2).2];exact h0 false v z1
   rw [hk] at hg
   obtain ⟨u,e1,e2⟩:=s4.temps t v hg
   refine ⟨u,e1,?_⟩
   have:=shut_rl (P:=P) (G':=gt++zs bs cs') (own':=ownR bs none own own') (f:=fun b=>b) (b':=tb t) q2 (fun k h=>h) (fun k b _ h=>h) e2
   have hid:ren1 (fun b=>b) v=v:=by
    have h0:∀ v,ren0 (fun b=>b) v=v:=by
     intro v
     cases v with
     | clo g caps=>
       simp only [ren0,AV.clo.injEq,true_and]
       conv=>rhs;rw [← List.map_id caps]
       exact List.map_congr_left fun x _=>by cases x<;>rfl
     | _=>rfl
    cases v with
    | agg l=>
      simp only [ren1,AV.agg.injEq]
      conv=>rhs;rw [← List.map_id l]
      exact List.map_congr_left fun x _=>h0 x
    | _=>simp only [ren1];exact h0 _
   rwa [hid] at this
  ·exact absurd (show tb t % 3=1 by simp only [tb];omega) q1
 ·rcases rk_get h1 h3 e with ⟨q1,_⟩ | ⟨q1,i,q2,q3⟩
  ·exact absurd q1 hb
  ·have hv:outs[i]?=some (ren1 (toOut bs) v):=by rw [houts,List.getElem?_map,q3];rfl
   obtain ⟨x,hx⟩:∃ x,cs[i]?=some x:=by
    have:i < cs.length:=by have:=(List.getElem?_eq_some_iff.1 q2).1;omega
    exact ⟨cs[i],by simp⟩
   have hlen':(ren1 (back bs) (ren1 (toOut bs) v)).leaves.length=x.leaves.length:=by
    rw [(hr1 true v (hshut v (List.mem_of_getElem? q3))).2];exact sameLens_get hlen i x v hx q3
   have hg:=get_out_box (d:=none) (r:=ren2 (back bs) (.tup [])) (G:=gt++zs bs cs) (back bs) g1.symm hn q2 hv hb (fun v hv S=>shut_kill (List.all_eq_true.1 g3 v hv) S) ⟨x,hcs i b x q2 hx,hlen'⟩
   rw [(hr1 true v (hshut v (List.mem_of_getElem? q3))).2] at hg
   obtain ⟨k,arr,TT,e1,e2,e3⟩:=s4.boxes b v hb hg
   refine ⟨k,arr,TT,e1,e2,?_⟩
   have:=ren_rb (P:=P) (G':=gt++zs bs cs') (own':=ownR bs none own own') (f:=fun b=>b) (p:=bs.contains) (fun k h=>h) (fun k b _ h=>h) (b:=b) (b':=b) (fun k j h=>h) e3 (hshut v (List.mem_of_getElem? q3))
   have hid:ren1 (fun b=>b) v=v:=by
    have h0:∀ v,ren0 (fun b=>b) v=v:=by
     intro v
     cases v with
     | clo g caps=>
       simp only [ren0,AV.clo.injEq,true_and]
       conv=>rhs;rw [← List.map_id caps]
       exact List.map_congr_left fun x _=>by cases x<;>rfl
     | _=>rfl
    cases v with
    | agg l=>
      simp only [ren1,AV.agg.injEq]
      conv=>rhs;rw [← List.map_id l]
      exact List.map_congr_left fun x _=>h0 x
    | _=>simp only [ren1];exact h0 _
   rwa [hid] at this
end
end Go.Ev
set_option linter.unusedVariables false
set_option linter.unusedSimpArgs false
namespace Go.Ev
open Go Go.RowKit
variable {P : Program}
section
variable {c : Cfg} {G : Sta} {K : Ex → Sta → Prop} {x : Code}
def rndK (P:Program) (c:Cfg) (bs:List Nat) (J:List AV→Prop):Ex→Sta→Prop
 | .normal,G=>∃ G' cs',Wk P c.nt G G'∧evOuts bs.length 0 G'=some (cs'.map (ren1 (toOut bs)))∧J cs'
 | _,_=>False
theorem Sem.range {σ:Type} (hr:c.rnd=false) {tg p0 p1:Tmp} (e:x=.rangeFunc (.tmp tg) #[p0,p1] (sq1 x) (sq2 x))
 {gf:FuncId} {α:Type} {enc:α→FV} {xs:List α} {sz:Nat} (hg:get G (tb tg)=some (.clo gf [.fp (.sl (xs.map enc)) 0])) (hb:BackOk P gf enc) {ey:α→FV} (he:∀ x,enc x=ey x) (hl:∀ x,(enc x).fits sz=true) (hll:(xs.length:Int)≤9223372036854775807)
 (gt:Sta) (bs:List Nat) (cs:σ→List AV) (Inv:Nat→σ→Prop) (s0:σ) (hw:Wk P c.nt G (gt++zs bs (cs s0))) (hi:Inv 0 s0)
 (k1:gtOk bs gt=true) (k2:∀ s,csOk bs (cs s)=true) (k3:bsOk bs=true) (k4:bs.Nodup) (k5:∀ s s',sameLens (cs s) (cs s')=true) (k6:p0 < c.nt) (k7:p1 < c.nt) (k8:p0≠p1)
 (round:∀ i s y,i < xs.length→xs[xs.length - 1 - i]?=some y→Inv i s→Sem P { c with rnd:=true } (sq1 x) (rst gt bs (cs s) p0 p1 ((xs.length:Int) - 1 - i) (ey y))
   fun e G'=>e=.normal∧Sem P { c with rnd:=true } (sq2 x) G' (rndK P c bs fun l=>∃ s',l=cs s'∧Inv (i+1) s'))
 (done:∀ s,Inv xs.length s→∃ G',Wk P c.nt (gt++zs bs (cs s)) G'∧K .normal G'):Sem P c x G K:=by
 rw [e]
 intro own a w F n Q hF s hQ
 obtain ⟨hF,hro⟩:=hF
 have hro:=hro hr
 obtain ⟨u,hu,hru⟩:=s.temps tg _ hg
 obtain ⟨arr,ha1,ha2,ha3⟩:∃ arr,u=.func (.func gf) #[] arr∧([AV.fp (.sl (xs.map enc)) 0]:List AV).length=arr.size∧∀ (j:Nat) x v,[AV.fp (.sl (xs.map enc)) 0][j]?=some x→arr[j]?=some v→RC own w x v:=hru
 obtain ⟨lb,rfl⟩:∃ lb,arr=#[lb]:=by
  match arr,ha2 with
  | ⟨[lb]⟩,_=>exact ⟨lb,rfl⟩
 have hlb:RC own w (.fp (.sl (xs.map enc)) 0) lb:=ha3 0 _ lb rfl rfl
 have hgive:=hb xs own w lb hll hlb s.one s.lt
 have hev:a.eval (.tmp tg)=.func (.func gf) #[] #[lb]:=by
  show a.tmps.getD tg _=_
  rw [Array.getD_eq_getD_getElem?,hu,← ha1];rfl
 obtain ⟨own0,s00,t00⟩:=hw own a w s
 refine range_wp (P:=P) hF hro hev hgive (fun k hk=>hk.1) (fun i y hy=>by obtain ⟨_,_,_,rfl,_⟩:=hy;rfl)
  (fun rec i W=>∃ st own',Inv i st∧St P c.nt (gt++zs bs (cs st)) own' a W∧Tr own w own' W∧own' w.heap.size=none∧own' (w.heap.size+1)=none∧w.heap.size+1 < W.heap.size) ?_ ?_ ?_ ?_
 ·rintro rec i W W' ⟨st,own',hinv,s1,t1,o1,o2,hsz⟩ _ hg
  refine ⟨st,own',hinv,s1.ck ⟨hg.size,fun k arr T z hk=>(hg.keep k (Array.getElem?_eq_some_iff.1 hk).1).trans hk⟩,t1.trans (hg.tr s1.lt),o1,o2,Nat.lt_of_lt_of_le hsz hg.size⟩
 ·rintro fn rec i xx m W hrdy hpd hlt ⟨y',v,hy,hxx,hrf⟩ ⟨st,own',hinv,s1,t1,o1,o2,hsz⟩ hL hD hku
  rw [List.length_map] at hy hxx
  subst hxx
  obtain ⟨y,hy1,rfl⟩:∃ y,xs[xs.length - 1 - i]?=some y∧enc y=y':=by
   rw [List.getElem?_map] at hy
   cases hq:xs[xs.length - 1 - i]? with
   | none=>rw [hq] at hy;cases hy
   | some z=>rw [hq] at hy;cases hy;exact ⟨z,rfl,rfl⟩
  have s2:=round_st k1 (k2 st) k3 k4 s1 k6 k7 k8 (i:=(xs.length:Int) - 1 - i) (hl y) (hrf.mono t1)
  have hnn:∀ k,own' k=none→ownC bs own' k=none:=fun k hk=>by simp [ownC,hk]
  have hrnd:=round i st y hlt hy1 hinv
  rw [← he y] at hrnd
  refine hrnd _ _ W (F.inRound (w.heap.size+1)) m _ ⟨wideF_round hF _,fun h=>(by cases h)⟩ s2 ?_
  rintro e2 G2 own2 a2 w2 ⟨rfl,hsem⟩ s3 t3 _
  have hL2:w2.heap[w.heap.size+1]?=some (Obj.loop rec):=(t3.keep _ hsz (hnn _ o2)).2.trans hL
  refine ⟨hL2,?_⟩
  have hck:CK w2 (w2.putObj (w.heap.size+1) (Obj.loop { rec with state:=.busy })):=CK.put hL2 (fun _ _ _ e=>by cases e)
  refine hsem own2 a2 _ (F.inRound (w.heap.size+1)) m _ ⟨wideF_round hF _,fun h=>(by cases h)⟩ (s3.ck hck) ?_
  intro e3 G3 own3 a3 w3 hk s4 t4 _
  cases e3 with
  | exit id=>exact hk.elim
  | ret=>exact hk.elim
  | normal=>
    obtain ⟨G4,cs',hwk,hout,st',rfl,hinv'⟩:=hk
    obtain ⟨own4,s5,t5⟩:=hwk own3 a3 w3 s4
    have hsz2:w.heap.size+1 < w2.heap.size:=Nat.lt_of_lt_of_le hsz t3.size
    have o2':own2 (w.heap.size+1)=none:=(t3.keep _ hsz (hnn _ o2)).1
    have o1':own2 w.heap.size=none:=(t3.keep _ (by omega) (hnn _ o1)).1
    have t45:Tr own2 (w2.putObj (w.heap.size+1) (Obj.loop { rec with state:=.busy })) own4 w3:=t4.trans t5
    have hL3:w3.heap[w.heap.size+1]?=some (Obj.loop { rec with state:=.busy }):=
     (t45.keep _ (by rw [putObj_lt];exact hsz2) o2').2.trans (World.putObj_heap_same hsz2)
    have hD2:w2.heap[w.heap.size]?=some (Obj.deferred (some [])):=(t3.keep _ (by omega) (hnn _ o1)).2.trans hD
    have hD3:w3.heap[w.heap.size]?=some (Obj.deferred (some [])):=
     (t45.keep _ (by rw [putObj_lt];omega) o1').2.trans ((World.putObj_heap_other (by omega)).trans hD2)
    have t6:=t45.norm (X:=Obj.loop rec) (l:=w.heap.size+1) (by rw [putObj_lt];exact hsz2) o2'
    rw [putObj_putObj,putObj_self hL2] at t6
    have t7:Tr (ownC bs own') W own4 (w3.putObj (w.heap.size+1) (Obj.loop rec)):=t3.trans t6
    have hck3:CK w3 (w3.putObj (w.heap.size+1) (Obj.loop rec)):=CK.put hL3 (fun _ _ _ e=>by cases e)
    obtain ⟨own5,s6,t8⟩:=round_back k1 (k2 st) (k2 st') k3 k4 (k5 st st') s1 (s5.ck hck3) hout t7
    have t9:Tr own w own5 (w3.putObj (w.heap.size+1) (Obj.loop rec)):=t1.trans t8
    refine ⟨hL3,hD3,?_,⟨st',own5,hinv',s6,t9,(t8.keep _ (by omega) o1).1,(t8.keep _ hsz o2).1,Nat.lt_of_lt_of_le hsz t8.size⟩⟩
    have hku2:=t9.ku
    have h3e:w3=(w3.putObj (w.heap.size+1) (Obj.loop rec)).putObj (w.heap.size+1) (Obj.loop { rec with state:=.busy }):=by
     rw [putObj_putObj,putObj_self hL3]
    rw [h3e]
    exact hku2.put _ fun k hk=>by have:=hk.1;omega
 ·intro rec
  have hsz:((w.alloc (Obj.deferred (some []))).alloc (Obj.loop rec)).heap.size=w.heap.size+2:=by simp
  have hold:∀ k,k < w.heap.size→((w.alloc (Obj.deferred (some []))).alloc (Obj.loop rec)).heap[k]?=w.heap[k]?:=fun k hk=>
   (Below.heap_alloc _ _ _ (by simp;omega)).trans (Below.heap_alloc _ _ _ hk)
  have hlt0:=s00.lt
  have tt:Tr own0 w own0 ((w.alloc (Obj.deferred (some []))).alloc (Obj.loop rec)):=
   ⟨by rw [hsz];omega,fun k hk h=>⟨h,hold k hk⟩,rfl,rfl,rfl,fun k o h=>⟨h,hold k (hlt0 _ _ h)⟩,fun _ _ _ h=>h⟩
  refine ⟨s0,own0,hi,?_,t00.trans tt,?_,?_,by rw [hsz];omega⟩
  ·refine s00.ck ⟨by rw [hsz];omega,fun k arr T z hk=>?_⟩
   rw [hold k (Array.getElem?_eq_some_iff.1 hk).1];exact hk
  ·cases h:own0 w.heap.size with
   | none=>rfl
   | some o=>have:=hlt0 _ _ h;omega
  ·cases h:own0 (w.heap.size+1) with
   | none=>rfl
   | some o=>have:=hlt0 _ _ h;omega
 ·rintro rec W ⟨st,own',hinv,s1,t1,o1,o2,hsz⟩ hL hD
  have hck:CK W (W.putObj (w.heap.size+1) (Obj.loop { rec with state:=.exhausted })):=CK.put hL (fun _ _ _ e=>by cases e)
  have s2':=s1.ck hck
  obtain ⟨G',hwk,hkk⟩:=done st hinv
  obtain ⟨own'',s2,t2⟩:=hwk own' a _ s2'
  refine hQ .normal _ own'' { a with defers:=mark w.heap.size :: a.defers } _ hkk ⟨s2.size,s2.temps,s2.boxes,s2.one,s2.lt⟩ ((t1.put (by omega) _ s.lt).trans t2) ?_
  refine ⟨[w.heap.size],rfl,by simp,fun D hD'=>?_⟩
  simp only [List.mem_singleton] at hD'
  subst hD'
  exact ⟨Nat.le_refl _,(t2.keep _ (by rw [putObj_lt];omega) o1).1,(World.putObj_heap_other (by omega)).trans hD⟩
end
end Go.Ev
set_option linter.unusedVariables false
set_option linter.unusedSimpArgs false
namespace Go.Ev
open Go Go.RowKit
variable {P : Program}
def opsOf (x:Code):List Oper:=match x with
 | .region _ ops _=>ops.toList
 | _=>[]
section
variable {F : Fence} {n : Nat} {a : Act} {w : World} {next next' : Act → World → Prop} {Q Q' : Exit → Act → World → Prop} {o : Oper}
theorem put_ne {a:Act} {t:Tmp} {d:Option Tmp} {v:Value} (h:d≠some t):(a.put d v).tmps[t]?=a.tmps[t]?:=by
 cases d with
 | none=>rfl
 | some s=>rw [put_tmps,Array.getElem?_setIfInBounds_ne (by rintro rfl;exact h rfl)]
theorem uponIn_keep {t:Tmp} (ht:o.dst≠some t) (hn:∀ a' w',next' a' w'→a'.tmps[t]?=a.tmps[t]?→next a' w') (hq:∀ e a w,e≠.normal→Q' e a w→Q e a w) {r:Result Next} (h:o.uponIn F n P a next' Q' r):o.uponIn F n P a next Q r:=by
 have hlets:LetsOut Q'→LetsOut Q:=fun ⟨a,w,h⟩=>⟨a,w,hq _ _ _ (by simp) h⟩
 unfold Oper.uponIn at h ⊢
 split at h
 ·exact hn _ _ h (put_ne ht)
 ·exact hn _ _ h (put_ne ht)
 ·exact hn _ _ h (put_ne (a:={ a with defers:=_ :: a.defers }) ht)
 ·refine ⟨h.1,h.2.mono ?_⟩
  intro e w' h'
  cases e with
  | returned v=>exact hn _ _ h' (put_ne ht)
  | panicked c=>exact hq _ _ _ (by simp) h'
  | outgrown=>exact hlets h'
 ·refine ⟨h.1,h.2.mono ?_⟩
  intro e w' h'
  exact hn _ _ h' (put_ne ht)
 ·refine ⟨h.1,h.2.mono ?_⟩
  intro e w' h'
  cases e with
  | returned v=>exact hn _ _ h' (put_ne ht)
  | panicked c=>exact hq _ _ _ (by simp) h'
  | outgrown=>exact hlets h'
 ·exact hq _ _ _ (by simp) h
 ·exact h.elim
theorem wpOps_keep {ops:Array Oper} {t:Tmp}:∀ (l:List Nat) {a:Act} {w:World},(∀ i∈l,∀ o,ops[i]?=some o→o.dst≠some t)→
 wpOpsIn F n P ops (fun e a' w'=>(e=.normal→a'.tmps[t]?=a.tmps[t]?)→Q e a' w') l a w→wpOpsIn F n P ops Q l a w
 | [],a,w,_,h=>h fun _=>rfl
 | i :: r,a,w,hl,h=>by
   have hr:=fun j hj=>hl j (List.mem_cons_of_mem _ hj)
   unfold wpOpsIn at h ⊢
   split
   ·rename_i ho;rw [ho] at h;exact wpOps_keep r hr h
   ·rename_i o ho
    rw [ho] at h
    dsimp only at h ⊢
    have hd:=hl i (List.mem_cons_self ..) o ho
    have key:∀ a' w',wpOpsIn F n P ops (fun e a' w'=>(e=.normal→a'.tmps[t]?=a.tmps[t]?)→Q e a' w') r a' w'→a'.tmps[t]?=a.tmps[t]?→wpOpsIn F n P ops Q r a' w':=by
     intro a' w' h2 e
     rw [← e] at h2
     exact wpOps_keep r hr h2
    split at h
    ·rename_i hw
     rw [if_pos hw]
     exact ⟨h.1,uponIn_keep hd key (fun e a w hne hq=>hq fun e'=>absurd e' hne) h.2⟩
    ·rename_i hw
     rw [if_neg hw]
     exact ⟨h.1,key _ _ h.2 (put_ne hd)⟩
end
section
variable {c : Cfg} {F : Fence} {n : Nat} {Q : Exit → Act → World → Prop} {ops : Array Oper}
theorem regX (hc:COk P c) (hF:WideF P F) {id:Nat} {q:List Ora} {G G':Sta} {obs:List Prop} {log:List Lg} {own:Own} {a:Act} {w:World} (h:evOps (CallE P) c ops false ops.toList 0 [] G q=some (obs,log,G')) (ho:AllP obs)
 (hd:ops.toList.all (fun o=>o.dst != some 0 && o.dst != some 1)=true) (s:St P c.nt G own a w)
 (hq:∀ own' a' w',St P c.nt G' own' a' w'→Tr own w own' w'→a'.defers=a.defers→a'.tmps[0]?=a.tmps[0]?→a'.tmps[1]?=a.tmps[1]?→Q .normal a' w'):(Code.region id ops false).wpIn F n P Q a w:=by
 have hdd:∀ (i:Nat) o,ops[i]?=some o→o.dst≠some 0∧o.dst≠some 1:=fun i o h=>by
  have:=List.all_eq_true.1 hd o (by rw [← Array.getElem?_toList] at h;exact List.mem_of_getElem? h)
  simpa using this
 refine wpIn_region (wpOps_keep (t:=0) _ (fun i _ o h=>(hdd i o h).1) (wpOps_keep (t:=1) _ (fun i _ o h=>(hdd i o h).2) ?_))
 refine wpOps_pre hc hF (pre:=ops.toList) (rest:=[]) (by simp) h ho s ?_
 intro own' a' w' s' t' d' h1 h0
 exact hq own' a' w' s' t' d' (h0 rfl) (h1 rfl)
theorem fp_no {own:Own} {w:World} {x:FV} {o:Nat} {u:Value} (h:RC own w (.fp x o) u):RC no w (.fp x o) u:=by
 obtain ⟨k,q,h1,h2,h3,h4⟩:=h
 exact ⟨k,q,h1,rfl,h3,fun j y e=>let ⟨v,e1,e2⟩:=h4 j y e;⟨v,e1,e2.mono0 fun _ _=>rfl⟩⟩
theorem tr_no {own':Own} {w w':World} (t:Tr no w own' w'):Grow w w':=⟨t.size,fun k hk=>(t.keep k hk rfl).2,t.os,t.tape,t.output⟩
theorem run_callY {a:Act} {w:World} {o:Oper} {t:Tmp} {args:Array Operand} {ats:Array TypeId} {l:Nat} (ho:o.op=.call { callee:=.value (.tmp t),args,argTypes:=ats })
 (hv:a.eval (.tmp t)=.func (.yield l) #[] #[]):(execOp a.eval o).run P w=(Instr.yield l (args.map a.eval)).run P w:=by
 simp only [execOp,ho,resolve,hv,Deferred.ofValue,Sem.run_bind,Sem.run_pure,Result.andThen_ok,invoke,Array.empty_append,Array.append_empty]
theorem rc_pv {own:Own} {w:World} {v u:Value} (h:RC own w (.f (.pv v)) u):u=v:=by
 obtain ⟨_,h⟩:=h
 cases h;rfl
theorem temp_pv {G:Sta} {own:Own} {a:Act} {w:World} {t:Tmp} {v:Value} (s:St P c.nt G own a w) (h:get G (tb t)=some (.f (.pv v))):a.tmps[t]?=some v:=by
 obtain ⟨u,h1,h2⟩:=s.temps t _ h
 rw [h1,rc_pv (show RC own w (.f (.pv v)) u from h2)]
theorem getD_of {l:Array Value} {t:Nat} {v d:Value} (h:l[t]?=some v):l.getD t d=v:=by
 rw [Array.getD_eq_getD_getElem?,h];rfl
def encX (agg:Bool) (sz:Nat) (f:Nat→Value):FV:=
 match agg with
 | true=>.agg ((List.range sz).map fun j=>.pv (f j))
 | false=>.pv (f 0)
def isAggF:FV→Bool
 | .agg _=>true
 | _=>false
theorem rf_one {own:Own} {w:World} {y:FV} {v:Value} (h:RF own w y v) (hy:y.one=true):v.oneCell'=true:=by
 cases h with
 | pv=>assumption
 | agg=>simp [FV.one] at hy
 | sl=>rfl
theorem exact_list {own:Own} {w:World} {α:Type} {enc:α→FV} {xs:List α} {s:Value} {sz:Nat} {agg:Bool} (hfit:∀ x,(enc x).fits sz=true) (hagg:∀ x,isAggF (enc x)=agg) (hsz:agg=false→sz=1) (h:RF own w (.sl (xs.map enc)) s) :
 ∃ fs:List (Nat→Value),fs.length=xs.length∧RF own w (.sl (fs.map (encX agg sz))) s∧
   ∀ (i:Nat) x f,xs[i]?=some x→fs[i]?=some f→∀ u own' w' b,RL P [] own' w' b (asAV (encX agg sz f)) u→RF own w (enc x) u:=by
 cases h with
 | sl _ a n c ad sz' hn hc ha hsz' hcell hv=>
 have hcells:∀ (x:α),(enc x).cells.length=sz∧∀ y∈(enc x).cells,y.one=true:=fun x=>by
  have:=hfit x
  simp only [FV.fits,FV.size,Bool.and_eq_true,beq_iff_eq,List.all_eq_true] at this
  exact this
 let f:Nat→Nat→Value:=fun i j=>((w.cell? ⟨ad.block,ad.off+(i * sz'+j),none⟩).getD undef)
 have hfc:∀ (i:Nat) x (j:Nat) y,xs[i]?=some x→(enc x).cells[j]?=some y→w.cell? ⟨ad.block,ad.off+(i * sz'+j),none⟩=some (f i j)∧RF own w y (f i j):=by
  intro i x j y hx hy
  have hxe:(xs.map enc)[i]?=some (enc x):=by rw [List.getElem?_map,hx];rfl
  obtain ⟨v,e1⟩:=hcell i (enc x) j y hxe hy
  have:f i j=v:=by simp only [f,e1];rfl
  rw [this]
  exact ⟨e1,hv i (enc x) j y v hxe hy e1⟩
 have hxl:(encX agg sz fun _=>undef).cells.length=sz:=by
  cases agg with
  | true=>simp [encX,FV.cells]
  | false=>simp [encX,FV.cells,hsz rfl]
 have hxc:∀ (g:Nat→Value) (j:Nat) y,(encX agg sz g).cells[j]?=some y→j < sz∧y=.pv (g j):=by
  intro g j y h
  cases agg with
  | true=>
    simp only [encX,FV.cells,List.getElem?_map] at h
    by_cases hj:j < sz
    ·rw [List.getElem?_range hj] at h;simp at h;exact ⟨hj,h.symm⟩
    ·rw [List.getElem?_eq_none (by simpa using hj)] at h;simp at h
  | false=>
    simp only [encX,FV.cells] at h
    cases j with
    | zero=>simp at h;exact ⟨by rw [hsz rfl];omega,h.symm⟩
    | succ j=>simp at h
 have hsize:∀ g,(encX agg sz g).size=sz:=fun g=>by
  cases agg with
  | true=>simp [encX,FV.size,FV.cells]
  | false=>simp [encX,FV.size,FV.cells,hsz rfl]
 have hget:∀ (i:Nat),((List.range xs.length).map f)[i]?=if i < xs.length then some (f i) else none:=fun i=>by
  rw [List.getElem?_map]
  split
  ·rename_i h;rw [List.getElem?_range h];rfl
  ·rename_i h;rw [List.getElem?_eq_none (by simpa using h)];rfl
 refine ⟨(List.range xs.length).map f,by simp,?_,?_⟩
 ·have hne:((List.range xs.length).map f).map (encX agg sz)≠[]→xs.map enc≠[]:=by
   intro h e
   have:xs=[]:=by simpa using e
   subst this;simp at h
  have hcell':∀ (i:Nat) x (j:Nat) y,(((List.range xs.length).map f).map (encX agg sz))[i]?=some x→x.cells[j]?=some y→w.cell? ⟨ad.block,ad.off+(i * sz'+j),none⟩=some (f i j)∧y=.pv (f i j)∧(f i j).oneCell'=true:=by
   intro i x j y hx hy
   rw [List.getElem?_map,hget] at hx
   split at hx
   ·rename_i hi
    simp only [Option.map_some,Option.some.injEq] at hx
    subst hx
    obtain ⟨hj,rfl⟩:=hxc _ _ _ hy
    obtain ⟨x0,hx0⟩:∃ x0,xs[i]?=some x0:=⟨xs[i],by simp⟩
    obtain ⟨y0,hy0⟩:∃ y0,(enc x0).cells[j]?=some y0:=⟨(enc x0).cells[j]'(by rw [(hcells x0).1];exact hj),by simp⟩
    obtain ⟨q1,q2⟩:=hfc i x0 j y0 hx0 hy0
    exact ⟨q1,rfl,rf_one q2 ((hcells x0).2 y0 (List.mem_of_getElem? hy0))⟩
   ·simp at hx
  have hsz2:xs≠[]→sz'=sz:=by
   intro hne
   cases xs with
   | nil=>exact absurd rfl hne
   | cons x r=>rw [← hsz' (enc x) (by simp)];exact (hcells x).1
  refine .sl _ a n c ad sz' (by simpa using hn) hc (fun h=>ha (hne h)) ?_ (fun i x j y hx hy=>⟨_,(hcell' i x j y hx hy).1⟩) ?_
  ·intro x hx
   obtain ⟨g,_,rfl⟩:=List.mem_map.1 hx
   rw [hsize,hsz2]
   rintro rfl;simp at hx
  ·intro i x j y v hx hy hw
   obtain ⟨q1,rfl,q3⟩:=hcell' i x j y hx hy
   rw [q1] at hw;cases hw
   exact .pv _ q3
 ·intro i x g hx hg u own' w' b hr
  rw [hget] at hg
  have hi:i < xs.length:=(List.getElem?_eq_some_iff.1 hx).1
  rw [if_pos hi] at hg;cases hg
  have hlen:=(hcells x).1
  have hl:=hagg x
  cases agg with
  | true=>
    cases hx':enc x with
    | agg l=>
      obtain ⟨arr,rfl,e2,e3⟩:=hr
      rw [hx'] at hlen
      simp only [FV.cells] at hlen
      refine .agg l arr (by rw [← e2];simp [hlen]) fun j y v e4 e5=>?_
      have hj:j < sz:=by rw [← hlen];exact (List.getElem?_eq_some_iff.1 e4).1
      have e6:=e3 j (.f (.pv (f i j))) v (by simp [hj]) e5
      rw [rc_pv (show RC own' w' (.f (.pv (f i j))) v from e6)]
      exact (hfc i x j y hx (by rw [hx'];exact e4)).2
    | _=>rw [hx'] at hl;cases hl
  | false=>
    have hu:u=f i 0:=rc_pv (show RC own' w' (.f (.pv (f i 0))) u from hr)
    rw [hu]
    cases hx':enc x with
    | agg l=>rw [hx'] at hl;cases hl
    | pv v=>exact (hfc i x 0 _ hx (by rw [hx'];rfl)).2
    | sl l=>exact (hfc i x 0 _ hx (by rw [hx'];rfl)).2
def nu3 (a:Act):Nat:=match a.tmps[3]? with
 | some (Value.int _ v)=>(v+1).toNat
 | _=>0
theorem back_of (hc:COk P c) {gf:FuncId} {fn:Func} (hf:P.funcs[gf]?=some fn) (hnm:(fn.name == "runtime.NumGoroutine")=false) (hnt:c.nt=fn.ntmps) (hnt2:fn.ntmps=19) (hres:fn.results=#[])
 {oA oB o3 oD:Array Oper} {iA iB i3 iD:Nat} {α:Type} {enc:α→FV} {agg:Bool} {sz:Nat} (hfit:∀ x,(enc x).fits sz=true) (hagg:∀ x,isAggF (enc x)=agg) (hsz:agg=false→sz=1)
 (hb:fn.body=some (.seq (.region iA oA false) (.block 0 (.loop (.seq (.seq (.region iB oB false) (.cond (.tmp 8) .skip (.exit 0))) (.seq (.block 1 (.seq (.region i3 o3 false) (.cond (.tmp 18) .ret .skip))) (.region iD oD false)))))))
 (dA:oA.toList.all (fun o=>o.dst != some 0 && o.dst != some 1)=true) (dB:oB.toList.all (fun o=>o.dst != some 0 && o.dst != some 1)=true) (d3:o3.toList.all (fun o=>o.dst != some 0 && o.dst != some 1)=true) (dD:oD.toList.all (fun o=>o.dst != some 0 && o.dst != some 1)=true)
 {pre:List Oper} {oc on:Oper} {ats:Array TypeId} (h3:o3.toList=pre++[oc,on]) (hoc:oc.op=.call { callee:=.value (.tmp 11),args:=#[.tmp 12,.tmp 16],argTypes:=ats }) (hocd:oc.dst=some 17) (hocg:oc.guard=none)
 (kA:∀ (yv:Value) (xs:List (Nat→Value)),∃ log G',evOps (CallE P) c oA false oA.toList 0 [] [(1,.f (.pv yv)),(4,.fp (.sl (xs.map (encX agg sz))) 0)] []=some ([],log,G')∧get G' 10=some (.f (.pv (.int .i64 (IntKind.wrap .i64 (((xs.map (encX agg sz)).length:Int) - 1))))))
 (kB:∀ (yv:Value) (xs:List (Nat→Value)) (i:Int),∃ log G',evOps (CallE P) c oB false oB.toList 0 [] [(1,.f (.pv yv)),(4,.fp (.sl (xs.map (encX agg sz))) 0),(10,.f (.pv (.int .i64 i)))] []=some ([],log,G')∧get G' 10=some (.f (.pv (.int .i64 i)))∧get G' 25=some (.f (.pv (.bool (decide (i≥0))))))
 (kD:∀ (yv:Value) (xs:List (Nat→Value)) (i:Int),∃ log G',evOps (CallE P) c oD false oD.toList 0 [] [(1,.f (.pv yv)),(4,.fp (.sl (xs.map (encX agg sz))) 0),(10,.f (.pv (.int .i64 i)))] []=some ([],log,G')∧get G' 10=some (.f (.pv (.int .i64 (IntKind.wrap .i64 (i - 1))))))
 (k3:∀ (yv:Value) (xs:List (Nat→Value)) (i:Int) (x:Nat→Value),∃ log G',evOps (CallE P) c o3 false pre 0 [] [(1,.f (.pv yv)),(4,.fp (.sl (xs.map (encX agg sz))) 0),(10,.f (.pv (.int .i64 i)))] [.e (encX agg sz x)]=some ([0≤i,(xs.map (encX agg sz))[i.toNat]?=some (encX agg sz x)],log,G')∧
   get G' 10=some (.f (.pv (.int .i64 i)))∧get G' 34=some (.f (.pv yv))∧get G' 37=some (.f (.pv (.int .i64 i)))∧get G' 49=some (asAV (encX agg sz x)))
 (kN:∃ log G',evOps (CallE P) c o3 false [on] (pre.length+1) [] [(52,.f (.pv (.bool true)))] []=some ([],log,G')∧get G' 55=some (.f (.pv (.bool false))))
 (hond:on.dst≠some 3):BackOk P gf enc:=by
 intro xs own w0 lb hll hlb hone hlt0
 refine ⟨⟨fn,hf,hnm,by rw [hb];rfl⟩,?_⟩
 intro F n lp J W hF hro hku hst hyield hJ
 have hn19:c.nt=19:=hnt.trans hnt2
 obtain ⟨fs,hfl,hfb,hfx⟩:∃ fs:List (Nat→Value),fs.length=xs.length∧RC own w0 (.fp (.sl (fs.map (encX agg sz))) 0) lb∧
  ∀ (i:Nat) x f,xs[i]?=some x→fs[i]?=some f→∀ u own' w' b,RL P [] own' w' b (asAV (encX agg sz f)) u→RF own w0 (enc x) u:=by
  obtain ⟨k,o,q1,q2,q3,q4⟩:=hlb
  obtain ⟨s,e1,e2⟩:=q4 0 _ rfl
  obtain ⟨fs,h1,h2,h3⟩:=exact_list (P:=P) hfit hagg hsz e2
  refine ⟨fs,h1,⟨k,o,q1,q2,q3,fun j y hy=>?_⟩,h3⟩
  cases j with
  | zero=>cases hy;exact ⟨s,e1,h2⟩
  | succ j=>simp [FV.cells] at hy
 obtain ⟨yv,hyv⟩:∃ yv,yv=Value.func (.yield lp) #[] #[]:=⟨_,rfl⟩
 rw [← hyv]
 have hU:∀ k,(k < w0.heap.size∧(own k=none∨∃ o,own k=some (.al o)))→k < w0.heap.size:=fun k h=>h.1
 have hyc:yv.oneCell'=true:=by rw [hyv];rfl
 have base:∀ (a:Act) (w:World) (i:Int),a.tmps.size=19→a.tmps[0]?=some yv→a.tmps[1]?=some lb→a.tmps[3]?=some (.int .i64 i)→KU (fun k=>k < w0.heap.size∧(own k=none∨∃ o,own k=some (.al o))) w0 w→
  St P c.nt [(1,.f (.pv yv)),(4,.fp (.sl (fs.map (encX agg sz))) 0),(10,.f (.pv (.int .i64 i)))] no a w:=by
  intro a w i hs h0 h1 h2 hk
  refine ⟨hs.trans hn19.symm,fun t v e=>?_,fun b v hb e=>?_,fun k k' o h=>(nomatch h),fun k o h=>(nomatch h)⟩
  ·simp only [get] at e
   split at e
   ·rename_i ht;cases e
    have:t=0:=by simp only [tb] at ht;omega
    subst this;exact ⟨yv,h0,⟨rfl,.pv _ hyc⟩⟩
   ·split at e
    ·rename_i ht;cases e
     have:t=1:=by simp only [tb] at ht;omega
     subst this;exact ⟨lb,h1,fp_no (RC.fp_mono (hk.tr hlt0) hfb)⟩
    ·split at e
     ·rename_i ht;cases e
      have:t=3:=by simp only [tb] at ht;omega
      subst this;exact ⟨_,h2,⟨rfl,.pv _ rfl⟩⟩
     ·cases e
  ·simp only [get] at e
   split at e
   ·rename_i ht;omega
   ·split at e
    ·rename_i ht;omega
    ·split at e
     ·rename_i ht;omega
     ·cases e
 refine callsIn_of_wp_marks hf hb (hF.fn _) ?_ hro
 have hpost:∀ (a:Act) (w:World),a.defers=[]→J xs.length w→LeavesInM F n P fn a.tmps (fun e W'=>(∃ v,e=.returned v)∧J xs.length W') a.defers .returning w:=by
  intro a w hd hJ
  rw [hd]
  exact ⟨.tuple #[],by simp [results,hres,go_sem],⟨_,rfl⟩,hJ⟩
 have s0:St P c.nt [(1,.f (.pv yv)),(4,.fp (.sl (fs.map (encX agg sz))) 0)] no { tmps:=(#[yv]++#[lb])++Array.replicate (fn.ntmps - (#[yv]++#[lb]).size) undef,defers:=[] } W:=by
  refine ⟨by simp [hn19,hnt2],fun t v e=>?_,fun b v hb e=>?_,fun k k' o h=>(nomatch h),fun k o h=>(nomatch h)⟩
  ·simp only [get] at e
   split at e
   ·rename_i ht;cases e
    have:t=0:=by simp only [tb] at ht;omega
    subst this;exact ⟨yv,(Array.getElem?_append_left (by simp)).trans rfl,⟨rfl,.pv _ hyc⟩⟩
   ·split at e
    ·rename_i ht;cases e
     have:t=1:=by simp only [tb] at ht;omega
     subst this;exact ⟨lb,(Array.getElem?_append_left (by simp)).trans rfl,fp_no (RC.fp_mono (hku.tr hlt0) hfb)⟩
    ·cases e
  ·simp only [get] at e
   split at e
   ·rename_i ht;omega
   ·split at e
    ·rename_i ht;omega
    ·cases e
 refine wpIn_seq ?_
 obtain ⟨logA,GA,eA,gA⟩:=kA yv fs
 refine regX hc hF eA trivial dA s0 ?_
 intro ownA aA wA sA tA dfA q0 q1
 have q0:aA.tmps[0]?=some yv:=by rw [q0];exact (Array.getElem?_append_left (by simp)).trans rfl
 have q1:aA.tmps[1]?=some lb:=by rw [q1];exact (Array.getElem?_append_left (by simp)).trans rfl
 have q3:=temp_pv (t:=3) sA gA
 have hlen:(fs.map (encX agg sz)).length=xs.length:=by rw [List.length_map,hfl]
 rw [hlen,wrap64 (by omega) (by omega)] at q3
 show (Code.block 0 _).wpIn _ _ _ _ _ _
 refine wpIn_block ?_
 let U:Nat→Prop:=fun k=>k < w0.heap.size∧(own k=none∨∃ o,own k=some (.al o))
 let Inv:Act→World→Prop:=fun a w=>∃ i:Nat,i≤xs.length∧J i w∧KU U w0 w∧a.tmps.size=19∧a.tmps[0]?=some yv∧a.tmps[1]?=some lb∧a.tmps[3]?=some (.int .i64 ((xs.length:Int) - 1 - i))∧a.defers=[]
 refine wpIn_loop Inv (fun a _=>nu3 a) ⟨0,Nat.zero_le _,hst _ _ _ hJ (tr_no tA),(tr_no tA).ku hku hU,by rw [sA.size,hn19],q0,q1,by rw [q3];simp,dfA⟩ ?_
 rintro a1 w1 ⟨i,hi,hJ1,hk1,z1,z2,z3,z4,z5⟩
 have hν1:nu3 a1=xs.length - i:=by
  unfold nu3;rw [z4];dsimp only;omega
 refine wpIn_seq (wpIn_seq ?_)
 obtain ⟨logB,GB,eB,gB,gB2⟩:=kB yv fs ((xs.length:Int) - 1 - i)
 refine regX hc hF eB trivial dB (base a1 w1 _ z1 z2 z3 z4 hk1) ?_
 intro ownB aB wB sB tB dfB p0 p1
 have p3:=temp_pv (t:=3) sB gB
 have p8:=temp_pv (t:=8) sB gB2
 have hJB:=hst _ _ _ hJ1 (tr_no tB)
 have hkB:=(tr_no tB).ku hk1 hU
 have zB:aB.tmps.size=19:=by rw [sB.size,hn19]
 refine wpIn_cond (show aB.eval (.tmp 8)=.bool (decide ((xs.length:Int) - 1 - i≥0)) from getD_of p8) ?_
 rcases Nat.lt_or_ge i xs.length with hlt | hlt'
 case' inr=>
  have hge:decide ((xs.length:Int) - 1 - i≥0)=false:=by simp;omega
  rw [hge]
  refine wpIn_exit ?_
  have hie:i=xs.length:=by omega
  subst hie
  exact hpost aB wB (dfB.trans z5) hJB
 have hge:decide ((xs.length:Int) - 1 - i≥0)=true:=by simp;omega
 rw [hge]
 refine wpIn_skip ?_
 show (Code.seq _ _).wpIn _ _ _ _ _ _
 refine wpIn_seq (wpIn_block (wpIn_seq ?_))
 obtain ⟨x,hx⟩:∃ x,xs[xs.length - 1 - i]?=some x:=⟨xs[xs.length - 1 - i]'(by omega),by simp⟩
 obtain ⟨f,hf'⟩:∃ f,fs[xs.length - 1 - i]?=some f:=⟨fs[xs.length - 1 - i]'(by omega),by simp⟩
 obtain ⟨log3,G3,e3,g3,g34,g37,g49⟩:=k3 yv fs ((xs.length:Int) - 1 - i) f
 have hidx:((xs.length:Int) - 1 - i).toNat=xs.length - 1 - i:=by omega
 have hget:(fs.map (encX agg sz))[((xs.length:Int) - 1 - i).toNat]?=some (encX agg sz f):=by rw [hidx,List.getElem?_map,hf'];rfl
 have hdd:∀ (i:Nat) o,o3[i]?=some o→o.dst≠some 0∧o.dst≠some 1:=fun i o h=>by
  have:=List.all_eq_true.1 d3 o (by rw [← Array.getElem?_toList] at h;exact List.mem_of_getElem? h)
  simpa using this
 refine wpIn_region (wpOps_keep (t:=0) _ (fun i _ o h=>(hdd i o h).1) (wpOps_keep (t:=1) _ (fun i _ o h=>(hdd i o h).2) ?_))
 refine wpOps_pre hc hF (pre:=pre) (rest:=[oc,on]) h3 e3 ⟨by omega,hget,trivial⟩ (base aB wB _ zB (p0.trans z2) (p1.trans z3) p3 hkB) ?_
 intro own3 a3 w3 s3 t3 df3
 have r3:=temp_pv (t:=3) s3 g3
 have r11:=temp_pv (t:=11) s3 g34
 have r12:=temp_pv (t:=12) s3 g37
 obtain ⟨u16,r16,hr16⟩:=s3.temps 16 _ g49
 have hJ3:=hst _ _ _ hJB (tr_no t3)
 have hk3:=(tr_no t3).ku hkB hU
 show wpOpsIn F n P o3 _ (pre.length :: (pre.length+1) :: []) a3 w3
 have hocI:o3[pre.length]?=some oc:=by
  rw [← Array.getElem?_toList,h3,List.getElem?_append_right (Nat.le_refl _)];simp
 unfold wpOpsIn
 rw [hocI]
 dsimp only
 rw [if_pos (by simp [Region.wanted,hocg])]
 have hv11:a3.eval (.tmp 11)=.func (.yield lp) #[] #[]:=by rw [← hyv];show a3.tmps.getD 11 _=_;exact getD_of r11
 refine wpIn_of hF.fn (by simp [hoc]) ?_
 have hargs:(#[Operand.tmp 12,Operand.tmp 16]:Array Operand).map a3.eval=#[.int .i64 ((xs.length:Int) - 1 - i),u16]:=by
  have e1:a3.eval (.tmp 12)=.int .i64 ((xs.length:Int) - 1 - i):=by show a3.tmps.getD 12 _=_;exact getD_of r12
  have e2:a3.eval (.tmp 16)=u16:=by show a3.tmps.getD 16 _=_;exact getD_of r16
  simp [e1,e2]
 rw [run_callY hoc hv11,hargs]
 have hok:okBack own w0 (xs.map enc) i #[.int .i64 ((xs.length:Int) - 1 - i),u16]:=
  ⟨enc x,u16,by rw [List.length_map,List.getElem?_map,hx];rfl,by rw [List.length_map],hfx _ x f hx hf' u16 own3 w3 (tb 16) (rl_sub (fun b v e=>by simp [get] at e) hr16)⟩
 obtain ⟨fn',tmps',as',bd',hrun,hround⟩:=hyield (n - 1) i _ w3 hJ3 hlt hok hk3
 rw [hrun,Oper.uponIn_round]
 refine ⟨fun e=>(by rw [hF.deep] at e;cases e),hround.mono ?_⟩
 rintro e w4 ⟨rfl,hJ4,hk4⟩
 dsimp only
 rw [hocd]
 have s4:St P c.nt [(52,.f (.pv (.bool true)))] no (a3.put (some 17) (.bool true)) w4:=by
  have s00:St P c.nt [] no a3 w4:=⟨s3.size,fun t v e=>(by cases e),fun b v hb e=>(by cases e),fun k k' o h=>(nomatch h),fun k o h=>(nomatch h)⟩
  exact s00.set_pure (t:=17) (by omega) ⟨rfl,.pv _ rfl⟩
 obtain ⟨logN,GN,eN,gN⟩:=kN
 have honI:o3[pre.length+1]?=some on:=by
  rw [← Array.getElem?_toList,h3,List.getElem?_append_right (by omega)];simp
 refine wpOps_keep (t:=3) _ (fun i hi o h=>?_) ?_
 ·simp only [List.mem_singleton] at hi
  subst hi
  rw [honI] at h;cases h
  exact hond
 obtain ⟨es,x1,x2,_⟩:=evOps_pre (P:=P) (c:=c) (obs:=[]) [on] (p:=pre++[oc]) (rest:=[]) (by rw [h3];simp) (by rw [List.length_append];exact eN) trivial
 have hes:[pre.length+1]=es.map (·.i)++[]:=by rw [x1,List.length_append];rfl
 rw [hes]
 refine runs_pre hc.cfg hc.ip (fun _ _ _ _ _ h=>h) hF _ es s4 x2 ?_
 intro own5 a5 w5 s5 t5 df5 c3 c1 c0
 have y0:a5.tmps[0]?=some yv:=(c0 rfl).trans (p0.trans z2)
 have y1:a5.tmps[1]?=some lb:=(c1 rfl).trans (p1.trans z3)
 have y3:a5.tmps[3]?=some (.int .i64 ((xs.length:Int) - 1 - i)):=(c3 rfl).trans ((put_ne (by simp)).trans r3)
 have yd:a5.defers=[]:=df5.trans (df3.trans (dfB.trans z5))
 have hJ5:=hst _ _ _ hJ4 (tr_no t5)
 have hk5:=(tr_no t5).ku hk4 hU
 refine wpIn_cond (show a5.eval (.tmp 18)=.bool false from getD_of (temp_pv (t:=18) s5 gN)) ?_
 refine wpIn_skip ?_
 obtain ⟨logD,GD,eD,gD⟩:=kD yv fs ((xs.length:Int) - 1 - i)
 refine regX hc hF eD trivial dD (base a5 w5 _ (by rw [s5.size,hn19]) y0 y1 y3 hk5) ?_
 intro own6 a6 w6 s6 t6 df6 v0 v1
 have v3:=temp_pv (t:=3) s6 gD
 rw [wrap64 (by omega) (by omega)] at v3
 have v3':a6.tmps[3]?=some (.int .i64 ((xs.length:Int) - 1 - ((i+1:Nat):Int))):=by rw [v3];congr 2;omega
 refine ⟨⟨i+1,hlt,hst _ _ _ hJ5 (tr_no t6),(tr_no t6).ku hk5 hU,by rw [s6.size,hn19],v0.trans y0,v1.trans y1,v3',df6.trans yd⟩,?_⟩
 rw [hν1]
 unfold nu3;rw [v3'];dsimp only;omega
end
end Go.Ev
set_option linter.unusedVariables false
set_option linter.unusedSimpArgs false
namespace Go.Ev
open Go Go.RowKit
variable {P : Program}
def fpzC (b:Nat) (x:FV):AV→AV
 | .ptr c o=>if c=b then .fp x o else .ptr c o
 | v=>v
def fpz0 (b:Nat) (x:FV):AV→AV
 | .ptr c o=>if c=b then .fp x o else .ptr c o
 | .clo g caps=>.clo g (caps.map (fpzC b x))
 | .rf _ _ _ _=>.bad
 | .ep _ _ _ _=>.bad
 | v=>v
def fpz1 (b:Nat) (x:FV):AV→AV
 | .agg l=>.agg (l.map (fpz0 b x))
 | v=>fpz0 b x v
def fpz2 (b:Nat) (x:FV):AV→AV
 | .tup l=>.tup (l.map (fpz1 b x))
 | .agg l=>.agg (l.map (fpz0 b x))
 | v=>fpz0 b x v
def ownX (own:Own) (b:Nat):Own:=fun k=>if own k=some (.box b) then none else own k
def fpzS (b:Nat) (x:FV):Sta→Sta
 | []=>[]
 | (c,v) :: r=>if c=b then fpzS b x r else (c,fpz2 b x v) :: fpzS b x r
theorem get_fpzS {b c:Nat} {x:FV}:∀ {G:Sta},get (fpzS b x G) c=if c=b then none else (get G c).map (fpz2 b x)
 | []=>by simp [fpzS,get]
 | (d,v) :: r=>by
   have ih:=get_fpzS (b:=b) (c:=c) (x:=x) (G:=r)
   simp only [fpzS]
   by_cases hd:d=b
   ·rw [if_pos hd,ih]
    by_cases hc:c=b
    ·rw [if_pos hc,if_pos hc]
    ·rw [if_neg hc,if_neg hc];simp only [get];rw [if_neg (fun e=>hc (e.trans hd))]
   ·rw [if_neg hd]
    simp only [get]
    by_cases hc:c=d
    ·subst hc;simp [hd]
    ·rw [if_neg hc,ih,if_neg hc]
def toFV:AV→Option FV
 | .agg l=>(fLeaves l).map .agg
 | .f x=>if x.one=true then some x else none
 | _=>none
theorem fLeaves_spec:∀ {l:List AV} {m:List FV},fLeaves l=some m→l=m.map .f∧∀ y∈m,y.one=true
 | [],m,h=>by simp [fLeaves] at h;subst h;exact ⟨rfl,fun y h=>by simp at h⟩
 | v :: r,m,h=>by
   unfold fLeaves at h
   split at h
   ·rename_i x l h1 h2
    simp only [Option.some.injEq] at h;subst h
    obtain ⟨e1,e2⟩:=fLeaves_spec h2
    have:v=.f x∧x.one=true:=by
     unfold AV.leafF at h1
     split at h1
     ·split at h1
      ·rename_i hx;cases h1;exact ⟨rfl,hx⟩
      ·cases h1
     ·cases h1
    refine ⟨by rw [this.1,e1];rfl,fun y hy=>?_⟩
    rcases List.mem_cons.1 hy with rfl | hy
    ·exact this.2
    ·exact e2 y hy
   ·cases h
theorem toFV_leaves {v:AV} {x:FV} (h:toFV v=some x):v.leaves=x.cells.map .f:=by
 unfold toFV at h
 split at h
 ·rename_i l
  simp only [Option.map_eq_some_iff] at h
  obtain ⟨m,h1,rfl⟩:=h
  exact (fLeaves_spec h1).1
 ·rename_i y
  split at h
  ·rename_i hy;cases h
   cases x with
   | agg l=>simp [FV.one] at hy
   | _=>rfl
  ·cases h
 ·cases h
section
variable {nt b : Nat} {x : FV} {G : Sta} {own : Own} {a : Act} {w : World}
theorem Wk.fpz {v:AV} (hb:b % 3=2) (hg:get G b=some v) (hx:toFV v=some x):Wk P nt G (fpzS b x G):=by
 intro own a w s
 obtain ⟨k0,arr,T,e1,e2,e3⟩:=s.boxes b v (by omega) hg
 have hn:∀ k,own k=none→ownX own b k=none:=fun k h=>by simp [ownX,h]
 have hk0:ownX own b k0=none:=by simp [ownX,e1]
 have hklt:k0 < w.heap.size:=s.lt _ _ e1
 have hbb:∀ {k c},c≠b→own k=some (.box c)→ownX own b k=some (.box c):=fun {k c} hc h=>by
  simp only [ownX];rw [if_neg (by rw [h];simp [hc])];exact h
 have hss:∀ {k c o},own k=some (.sl c o)→ownX own b k=some (.sl c o):=fun {k c o} h=>by
  simp only [ownX];rw [if_neg (by rw [h];simp)];exact h
 have hlv:=toFV_leaves hx
 have hfp:∀ o u,RC own w (.ptr b o) u→RC (ownX own b) w (.fp x o) u:=by
  rintro o u ⟨k,h1,rfl⟩
  have:k=k0:=s.one _ _ _ h1 e1
  subst this
  refine ⟨k,0,by simp,hk0,hklt,fun j y hy=>?_⟩
  have hl:v.leaves[j]?=some (.f y):=by rw [hlv,List.getElem?_map,hy];rfl
  have hj:j < arr.size:=by rw [← e3.1];exact (List.getElem?_eq_some_iff.1 hl).1
  have hr:=e3.2 j (.f y) arr[j] hl (by simp [hj])
  refine ⟨arr[j],?_,(show RC own w (.f y) arr[j] from hr).2.mono0 hn⟩
  simp [World.cell?,e2,hj]
 have hC:∀ v u,RC own w v u→RC (ownX own b) w (fpzC b x v) u:=by
  intro v u h
  cases v with
  | ptr c o=>
    simp only [fpzC]
    split
    ·rename_i e;subst e;exact hfp o u h
    ·rename_i e;obtain ⟨k,h1,h2⟩:=h;exact ⟨k,hbb e h1,h2⟩
  | f y=>exact ⟨h.1,h.2.mono0 hn⟩
  | fp y o=>obtain ⟨k,q,h1,h2,h3,h4⟩:=h;exact ⟨k,q,h1,hn _ h2,h3,fun j z hz=>let ⟨t,q1,q2⟩:=h4 j z hz;⟨t,q1,q2.mono0 hn⟩⟩
  | bad=>trivial
  | _=>exact h.elim
 have h0:∀ {v u},R0 P G own w v u→R0 P (fpzS b x G) (ownX own b) w (fpz0 b x v) u:=by
  intro v u h
  cases v with
  | clo g caps=>
    obtain ⟨ar,h1,h2,h3⟩:=h
    refine ⟨ar,h1,by simpa using h2,fun j y z q1 q2=>?_⟩
    rw [List.getElem?_map] at q1
    cases hj:caps[j]? with
    | none=>rw [hj] at q1;cases q1
    | some t=>rw [hj] at q1;cases q1;exact hC _ _ (h3 j t z hj q2)
  | rf c o i n=>trivial
  | ep c o i n=>trivial
  | ptr c o=>
    have:=hC (.ptr c o) u h
    simp only [fpz0,fpzC] at this ⊢
    split
    ·rename_i e;rw [if_pos e] at this;exact this
    ·rename_i e;rw [if_neg e] at this;exact this
  | f y=>exact hC (.f y) u h
  | fp y o=>exact hC (.fp y o) u h
  | bad=>trivial
  | _=>exact h.elim
 have hO:∀ {c j v u},c≠b→RO P G own w c j v u→RO P (fpzS b x G) (ownX own b) w c j (fpz0 b x v) u:=by
  intro c j v u hc h
  cases v with
  | own E l=>
    obtain ⟨ad,cp,h1,h2,h3⟩:=h
    refine ⟨ad,cp,h1,h2,h3.imp id ?_⟩
    rintro ⟨k,q1,q2,arr',q3,q4,q5,q6⟩
    exact ⟨k,q1,hss q2,arr',q3,q4,q5,fun i y j z z1 z2=>let ⟨t,t1,t2⟩:=q6 i y j z z1 z2;⟨t,t1,t2.mono0 hn⟩⟩
  | _=>
    all_goals
     rw [ro_r0 (by simp)] at h
     have h':=h0 h
     rw [ro_r0];exact h'
     intro E l e;simp only [fpz0] at e;first | (split at e<;>cases e) | cases e
 have h1:∀ {v u},R1 P G own w v u→R1 P (fpzS b x G) (ownX own b) w (fpz1 b x v) u:=by
  intro v u h
  have key:∀ v,(∀ l,v≠.agg l)→R1 P G own w v u→R1 P (fpzS b x G) (ownX own b) w (fpz0 b x v) u:=by
   intro v hv h
   rw [r1_r0 hv] at h
   have h':=h0 h
   rw [r1_r0];exact h'
   intro l e
   cases v<;>simp only [fpz0] at e<;>first | exact hv _ rfl | (split at e<;>cases e) | cases e
  cases v with
  | agg l=>
    obtain ⟨ar,z1,z2,z3⟩:=h
    refine ⟨ar,z1,by simpa using z2,fun j y z q1 q2=>?_⟩
    rw [List.getElem?_map] at q1
    cases hj:l[j]? with
    | none=>rw [hj] at q1;cases q1
    | some t=>rw [hj] at q1;cases q1;exact h0 (z3 j t z hj q2)
  | _=>exact key _ (by simp) h
 have hL:∀ {c v u},c≠b→RL P G own w c v u→RL P (fpzS b x G) (ownX own b) w c (fpz2 b x v) u:=by
  intro c v u hc h
  cases v with
  | agg l=>
    obtain ⟨ar,z1,z2,z3⟩:=h
    refine ⟨ar,z1,by simpa using z2,fun j y z q1 q2=>?_⟩
    rw [List.getElem?_map] at q1
    cases hj:l[j]? with
    | none=>rw [hj] at q1;cases q1
    | some t=>rw [hj] at q1;cases q1;exact hO hc (z3 j t z hj q2)
  | tup l=>
    obtain ⟨ar,z1,z2,z3⟩:=h
    refine ⟨ar,z1,by simpa using z2,fun j y z q1 q2=>?_⟩
    rw [List.getElem?_map] at q1
    cases hj:l[j]? with
    | none=>rw [hj] at q1;cases q1
    | some t=>rw [hj] at q1;cases q1;exact h1 (z3 j t z hj q2)
  | bad=>exact hO (j:=0) (u:=u) (v:=.bad) hc h
  | ptr d o=>
    have:=hO (j:=0) (u:=u) (v:=.ptr d o) hc h
    simp only [fpz0,fpz2] at this ⊢
    split
    ·rename_i e;rw [if_pos e] at this;exact this
    ·rename_i e;rw [if_neg e] at this;exact this
  | f y=>exact hO (j:=0) (u:=u) (v:=.f y) hc h
  | fp y o=>exact hO (j:=0) (u:=u) (v:=.fp y o) hc h
  | ep q1 q2 q3 q4=>exact hO (j:=0) (u:=u) (v:=.ep q1 q2 q3 q4) hc h
  | rf q1 q2 q3 q4=>exact hO (j:=0) (u:=u) (v:=.rf q1 q2 q3 q4) hc h
  | own E l=>exact hO (j:=0) (u:=u) (v:=.own E l) hc h
  | clo g caps=>exact hO (j:=0) (u:=u) (v:=.clo g caps) hc h
 have hleaves:∀ v:AV,(fpz2 b x v).leaves.length=v.leaves.length∧(∀ (j:Nat) y,(fpz2 b x v).leaves[j]?=some y→(∃ z,v.leaves[j]?=some z∧y=fpz0 b x z)∨∃ l,v=.tup l):=by
  intro v
  have key:∀ v,fpz2 b x v=fpz0 b x v→(∀ l,v≠.agg l)→(fpz2 b x v).leaves.length=v.leaves.length∧(∀ (j:Nat) y,(fpz2 b x v).leaves[j]?=some y→(∃ z,v.leaves[j]?=some z∧y=fpz0 b x z)∨∃ l,v=.tup l):=by
   intro v e hv
   have l1:v.leaves=[v]:=by cases v<;>first | rfl | exact absurd rfl (hv _)
   have l2:(fpz0 b x v).leaves=[fpz0 b x v]:=by
    cases v<;>simp only [fpz0]<;>first | rfl | exact absurd rfl (hv _) | (split<;>rfl)
   rw [e,l1,l2]
   refine ⟨rfl,fun j y h=>.inl ?_⟩
   cases j with
   | zero=>simp at h;exact ⟨v,rfl,h.symm⟩
   | succ j=>simp at h
  cases v with
  | agg l=>
    refine ⟨by simp [fpz2,AV.leaves],fun j y h=>.inl ?_⟩
    simp only [fpz2,AV.leaves,List.getElem?_map] at h ⊢
    cases hj:l[j]? with
    | none=>rw [hj] at h;cases h
    | some z=>rw [hj] at h;cases h;exact ⟨z,rfl,rfl⟩
  | tup l=>exact ⟨rfl,fun j y h=>.inr ⟨l,rfl⟩⟩
  | _=>exact key _ rfl (by simp)
 refine ⟨ownX own b,⟨s.size,fun t v' e=>?_,fun c v' hc e=>?_,fun k k' o q1 q2=>?_,fun k o q=>?_⟩,⟨Nat.le_refl _,fun k hk h=>⟨hn k h,rfl⟩,rfl,rfl,rfl,fun k o h=>⟨?_,rfl⟩,fun k c hc h=>?_⟩⟩
 ·rw [get_fpzS] at e
  split at e
  ·cases e
  ·rename_i hne
   cases hq:get G (tb t) with
   | none=>rw [hq] at e;cases e
   | some z=>rw [hq] at e;cases e;obtain ⟨u,u1,u2⟩:=s.temps t z hq;exact ⟨u,u1,hL hne u2⟩
 ·rw [get_fpzS] at e
  split at e
  ·cases e
  ·rename_i hne
   cases hq:get G c with
   | none=>rw [hq] at e;cases e
   | some z=>
     rw [hq] at e;cases e
     obtain ⟨k,ar,TT,z1,z2,z3⟩:=s.boxes c z hc hq
     obtain ⟨l1,l2⟩:=hleaves z
     refine ⟨k,ar,TT,hbb hne z1,z2,by rw [l1];exact z3.1,fun j y u q1 q2=>?_⟩
     rcases l2 j y q1 with ⟨y',q3,rfl⟩ | ⟨l,rfl⟩
     ·exact hO hne (z3.2 j y' u q3 q2)
     ·exfalso
      have hj:j=0:=by
       have:=(List.getElem?_eq_some_iff.1 q1).1
       simp [fpz2,AV.leaves] at this;exact this
      subst hj
      exact z3.2 0 (.tup l) u rfl q2
 ·have g:∀ {k o},ownX own b k=some o→own k=some o:=fun {k o} h=>by simp only [ownX] at h;split at h;cases h;exact h
  exact s.one _ _ _ (g q1) (g q2)
 ·have g:∀ {k o},ownX own b k=some o→own k=some o:=fun {k o} h=>by simp only [ownX] at h;split at h;cases h;exact h
  exact s.lt _ _ (g q)
 ·simp only [ownX];rw [if_neg (by rw [h];simp)];exact h
 ·simp only [ownX];rw [if_neg (by rw [h];simp;omega)];exact h
end
end Go.Ev
set_option linter.unusedVariables false
set_option linter.unusedSimpArgs false
namespace Go.Ev
open Go Go.RowKit
variable {P : Program}
def pickS:List Nat→Sta→Sta
 | [],_=>[]
 | b :: r,G=>match get G b with
   | some v=>(b,v) :: pickS r G
   | none=>pickS r G
theorem get_pickS {b:Nat} {v:AV} {G:Sta}:∀ {l:List Nat},get (pickS l G) b=some v→get G b=some v
 | [],h=>by cases h
 | c :: r,h=>by
   unfold pickS at h
   split at h
   ·rename_i x hx
    simp only [get] at h
    split at h
    ·rename_i e;cases h;rw [e];exact hx
    ·exact get_pickS h
   ·exact get_pickS h
theorem Wk.pick {nt:Nat} {G G':Sta} (l:List Nat) (h:pickS l G=G'):Wk P nt G G':=by
 subst h
 exact fun own a w s=>⟨own,s.sub (fun b v e=>get_pickS e),Tr.refl _ _⟩
theorem rndE {c:Cfg} {bs:List Nat} {J:List AV→Prop} {G G':Sta} {cs':List AV} (hw:Wk P c.nt G G') (h1:evOuts bs.length 0 G'=some (cs'.map (ren1 (toOut bs)))) (h2:J cs') :
 rndK P c bs J .normal G:=⟨G',cs',hw,h1,h2⟩
end Go.Ev
set_option linter.unusedVariables false
set_option linter.unusedSimpArgs false
namespace Go.Ev
open Go Go.RowKit
variable {P : Program}
def insS (b:Nat) (v:AV):Sta→Sta
 | []=>[(b,v)]
 | (a,x) :: m=>match Nat.blt b a with
   | true=>(b,v) :: (a,x) :: m
   | false=>match Nat.beq b a with
     | true=>(b,v) :: m
     | false=>(a,x) :: insS b v m
def inss:Sta→Sta→Sta
 | [],G=>G
 | (b,v) :: r,G=>inss r (insS b v G)
def edt (dr:List Nat) (ch:Sta) (G:Sta):Sta:=inss ch (dropN (fun b=>dr.contains b) G)
def keysOf:Sta→List Nat
 | []=>[]
 | (b,_) :: r=>b :: keysOf r
section
variable {c : Cfg} {G G' : Sta} {K : Ex → Sta → Prop} {x : Code}
theorem sD (hc:COk P c) (q:List Ora) (dr:List Nat) (ch:Sta) {obs:List Prop} (ho:AllP obs) (hk:Sem P c (sq2 x) (edt dr ch G) K) (e:x=.seq (sq1 x) (sq2 x):=by kernel_rfl)
 (h:evReg P c (sq1 x) q [] (keysOf (edt dr ch G)) G=some (obs,edt dr ch G):=by kernel_rfl):Sem P c x G K:=Sem.seqR hc e h ho hk
theorem rD (hc:COk P c) (q:List Ora) (dr:List Nat) (ch:Sta) {obs:List Prop} (ho:AllP obs) (hk:K .normal (edt dr ch G))
 (h:evReg P c x q [] (keysOf (edt dr ch G)) G=some (obs,edt dr ch G):=by kernel_rfl):Sem P c x G K:=Sem.region hc h ho hk
theorem wkD (dr:List Nat) (k:Sem P c x (edt dr [] G) K):Sem P c x G K:=Sem.weak (Wk.drop _) k
theorem cD {t:Nat} {b:Bool} (h1:b=true→Sem P c (sq1 x) G K) (h2:b=false→Sem P c (sq2 x) G K) (e:x=.cond (.tmp t) (sq1 x) (sq2 x):=by kernel_rfl) (hg:get G (tb t)=some (.f (.pv (.bool b))):=by kernel_rfl):Sem P c x G K:=Sem.cond' e hg h1 h2
theorem qD (h:Sem P c (sq1 x) G (seqK K fun G'=>Sem P c (sq2 x) G' K)) (e:x=.seq (sq1 x) (sq2 x):=by kernel_rfl):Sem P c x G K:=Sem.seq' e h
theorem xD {i:Nat} (h:K (.exit i) G) (e:x=.exit i:=by kernel_rfl):Sem P c x G K:=Sem.exit' e Wk.refl h
theorem tD (h:K .ret G) (e:x=.ret:=by kernel_rfl):Sem P c x G K:=Sem.ret' e Wk.refl h
theorem bD {id:Nat} (h:Sem P c (sq1 x) G (blockK id K)) (e:x=.block id (sq1 x):=by kernel_rfl):Sem P c x G K:=Sem.block' e h
theorem jD {nt:Nat} {σ:Type} {J:σ→Prop} {st:σ→Sta} (s:σ) (fz:List (Nat×Nat)) (h:J s) (hw:Ev.tidy fz (keysOf (st s)) G=st s:=by kernel_rfl):∃ s,Wk P nt G (st s)∧J s:=⟨s,Wk.eq hw,h⟩
theorem lD {nt:Nat} {σ:Type} {Inv:σ→Prop} {st:σ→Sta} {μ:σ→Nat} {s0:σ} (s:σ) (fz:List (Nat×Nat)) (h:Inv s∧μ s < μ s0) (hw:Ev.tidy fz (keysOf (st s)) G=st s:=by kernel_rfl):∃ s',Wk P nt G (st s')∧Inv s'∧μ s' < μ s0:=⟨s,Wk.eq hw,h⟩
theorem loD {σ:Type} (st:σ→Sta) (Inv:σ→Prop) (μ:σ→Nat) (s0:σ) (fz:List (Nat×Nat)) (hI:Inv s0)
 (step:∀ s,Inv s→Sem P c (sq1 x) (st s) (seqK K fun G'=>∃ s',Wk P c.nt G' (st s')∧Inv s'∧μ s' < μ s)) (e:x=.loop (sq1 x):=by kernel_rfl) (h0:Ev.tidy fz (keysOf (st s0)) G=st s0:=by kernel_rfl):Sem P c x G K:=Sem.loop' e st Inv μ s0 (Wk.eq h0) hI step
theorem sjD {σ:Type} (J:σ→Prop) (st:σ→Sta) (h2:∀ s,J s→Sem P c (sq2 x) (st s) K)
 (h1:Sem P c (sq1 x) G (seqK K fun G'=>∃ s,Wk P c.nt G' (st s)∧J s)) (e:x=.seq (sq1 x) (sq2 x):=by kernel_rfl):Sem P c x G K:=Sem.seqJ J st e h2 h1
end
theorem fD {c:Cfg} {fn:Func} {x:Code} {g:FuncId} {args outs outs':List AV} {r:AV} (hc:COk P c) (hf:P.funcs[g]?=some fn)
 (h:Sem P c x (entryF 64 0 args outs) fun e G=>∃ G',Wk P c.nt G G'∧endK (CallE P) c fn.results.toList outs.length (fun r' o'=>r'=r∧o'=outs') e G')
 (hnm:(fn.name == "runtime.NumGoroutine")=false:=by rfl) (hb:fn.body=some x:=by rfl) (hnt:c.nt=fn.ntmps:=by rfl) (hlen:args.length≤fn.ntmps:=by exact Nat.le_of_ble_eq_true rfl) (ha:args.all (shut1 false fun _=>true)=true:=by rfl) (ho:outs.all (shut1 true fun _=>true)=true:=by rfl)
 (hl2:args.length+outs.length≤64:=by exact Nat.le_of_ble_eq_true rfl):CallE P g args outs r outs':=callE_semW hc hf hnm hb hnt hlen ha ho hl2 h
theorem gtt {b:Bool} (h:b=true):(b == true)=true:=by rw [h];rfl
theorem gtf {b:Bool} (h:b=false):(b == true)=false:=by rw [h];rfl
theorem gft {b:Bool} (h:b=false):(b == false)=true:=by rw [h];rfl
theorem gff {b:Bool} (h:b=true):(b == false)=false:=by rw [h];rfl
theorem sM {c:Cfg} {G:Sta} {K:Ex→Sta→Prop} {x:Code} (dr:List Nat) (ch:Sta) (h:Sem P c (sq2 x) (edt dr ch G) K) (k:Sem P c (sq2 x) (edt dr ch G) K→Sem P c x G K):Sem P c x G K:=k h
theorem rM {c:Cfg} {G:Sta} {K:Ex→Sta→Prop} {x:Code} (dr:List Nat) (ch:Sta) (h:K .normal (edt dr ch G)) (k:K .normal (edt dr ch G)→Sem P c x G K):Sem P c x G K:=k h
theorem n0:(∀ (α:Type) (l:List α),l.drop 0=l)∧(∀ (α:Type) (l:List α),l.take l.length=l):=⟨fun _ _=>rfl,fun _ _=>List.take_length⟩
theorem nm:((∀ (α β:Type) (f:α→β) (l:List α),(List.map f l).length=l.length)∧(∀ (α:Type) (l m:List α),(l++m).length=l.length+m.length)∧(∀ (α:Type) (a:α) (l:List α),(a :: l).length=l.length+1)∧
 (∀ (α:Type),([]:List α).length=0)∧(∀ (α:Type) (l:List α) (i:Nat) (a:α),(l.set i a).length=l.length)∧(∀ (α:Type) (n:Nat) (a:α),(List.replicate n a).length=n)∧
 (∀ (α:Type) (l:List α),l.drop 0=l)∧(∀ (α:Type) (l:List α),l.take l.length=l)∧(∀ (α β:Type) (f:α→β),List.map f []=[])∧(∀ (α β:Type) (f:α→β) (a:α) (l:List α),List.map f (a :: l)=f a :: List.map f l)∧
 (∀ (α β:Type) (f:α→β) (l m:List α),List.map f (l++m)=List.map f l++List.map f m)∧(∀ (α β:Type) (f:α→β) (l:List α) (i:Nat) (a:α),List.map f (l.set i a)=(List.map f l).set i (f a))∧
 (∀ (α β:Type) (f:α→β) (l:List α) (i:Nat),List.map f (l.take i)=(List.map f l).take i)∧(∀ (α β:Type) (f:α→β) (l:List α) (i:Nat),List.map f (l.drop i)=(List.map f l).drop i)∧
 (∀ (α β:Type) (f:α→β) (n:Nat) (a:α),List.map f (List.replicate n a)=List.replicate n (f a))∧(∀ n:Nat,((n:Int)).toNat=n)∧(∀ n:Nat,0+n=n)∧(∀ (α:Type) (n:Nat) (a:α) (l:List α),(a :: l).take (n+1)=a :: l.take n)∧
 (∀ (α:Type) (l:List α),l.take 0=[])∧(∀ (α:Type) (n:Nat),([]:List α).take n=[])∧(∀ n:Nat,n - 0=n)∧(∀ (α:Type) (l:List α),l++[]=l)∧(∀ (α:Type) (l:List α),[]++l=l)∧
 (∀ (α:Type) (E:TypeId) (enc:α→FV) (l:List α),oL E enc l=.own E (List.map enc l))∧(∀ (α:Type) (enc:α→FV) (l:List α),vL enc l=.f (.sl (List.map enc l)))∧(∀ (α:Type) (enc:α→FV) (l:List α),fL enc l=.sl (List.map enc l))∧
 (∀ n,vi n=.f (.pv (.int .i64 n)))∧(∀ k n,vI k n=.f (.pv (.int k n)))∧(∀ b,vB b=.f (.pv (.bool b)))∧(∀ b,vS b=.f (.pv (.string b)))∧(∀ n,fi n=.pv (.int .i64 n))∧(∀ b,fB b=.pv (.bool b))∧((0:Int).toNat=0)∧(∀ (α:Type) (l:List α),l.drop l.length=[]))∧
 (∀ (α:Type) (a b:α),(if True then a else b)=a)∧(∀ (α:Type) (a:α),(a=a)=True)∧(∀ p:Prop,(True∧p)=p)∧(∀ p:Prop,(p∧True)=p)∧(∀ n:Nat,(n≤n)=True)∧(∀ n:Nat,(0≤n)=True)∧(∀ (α β:Type) (f:α→β) (l:List α),(List.map f l).take l.length=List.map f l):=
 ⟨nrm,fun _ _ _=>if_pos trivial,fun _ _=>by simp,fun _=>by simp,fun _=>by simp,fun _=>by simp,fun _=>by simp,fun _ _ _ _=>by rw [← List.map_take,List.take_length]⟩
end Go.Ev
set_option linter.unusedSimpArgs false
set_option linter.unusedVariables false
namespace Go.Ev
open Go Go.Proofs
set_option maxRecDepth 8000
def enc_i64 (n:Int):FV:=.pv (.int .i64 n)
theorem fits_i64 (l:List Int):(List.map enc_i64 l).all (FV.fits 1)=true:=by simp [FV.fits,FV.size,FV.cells,FV.one,enc_i64]
def enc_bool (b:Bool):FV:=.pv (.bool b)
theorem fits_bool (l:List Bool):(List.map enc_bool l).all (FV.fits 1)=true:=by simp [FV.fits,FV.size,FV.cells,FV.one,enc_bool]
theorem fits_u8 (l:List Int):(List.map enc_u8 l).all (FV.fits 1)=true:=by simp [FV.fits,FV.size,FV.cells,FV.one,enc_u8]
structure runtime_boundsError where
 x:Int
 y:Int
 signed:Bool
 code:Int
 deriving Inhabited,DecidableEq
def enc_runtime_boundsError (x:runtime_boundsError):FV:=.agg [.pv (.int .i64 x.x),.pv (.int .i64 x.y),.pv (.bool x.signed),.pv (.int .u8 x.code)]
theorem enc_runtime_boundsError_eq (x:runtime_boundsError):enc_runtime_boundsError x=.agg [.pv (.int .i64 x.x),.pv (.int .i64 x.y),.pv (.bool x.signed),.pv (.int .u8 x.code)]:=rfl
abbrev fv_runtime_boundsError (x:runtime_boundsError):FV:=.agg [.pv (.int .i64 x.x),.pv (.int .i64 x.y),.pv (.bool x.signed),.pv (.int .u8 x.code)]
abbrev av_runtime_boundsError (x:runtime_boundsError):AV:=.agg [vI .i64 x.x,vI .i64 x.y,vB x.signed,vI .u8 x.code]
abbrev ao_runtime_boundsError (x:runtime_boundsError):AV:=.agg [vI .i64 x.x,vI .i64 x.y,vB x.signed,vI .u8 x.code]
def enc_string (s:ByteArray):FV:=.pv (.string s)
def enc_u64 (n:Int):FV:=.pv (.int .u64 n)
theorem fits_u64 (l:List Int):(List.map enc_u64 l).all (FV.fits 1)=true:=by simp [FV.fits,FV.size,FV.cells,FV.one,enc_u64]
structure runtime_errorAddressString where
 msg:ByteArray
 addr:Int
 deriving Inhabited,DecidableEq
def enc_runtime_errorAddressString (x:runtime_errorAddressString):FV:=.agg [.pv (.string x.msg),.pv (.int .u64 x.addr)]
theorem enc_runtime_errorAddressString_eq (x:runtime_errorAddressString):enc_runtime_errorAddressString x=.agg [.pv (.string x.msg),.pv (.int .u64 x.addr)]:=rfl
abbrev fv_runtime_errorAddressString (x:runtime_errorAddressString):FV:=.agg [.pv (.string x.msg),.pv (.int .u64 x.addr)]
abbrev av_runtime_errorAddressString (x:runtime_errorAddressString):AV:=.agg [vS x.msg,vI .u64 x.addr]
abbrev ao_runtime_errorAddressString (x:runtime_errorAddressString):AV:=.agg [vS x.msg,vI .u64 x.addr]
def enc_i32 (n:Int):FV:=.pv (.int .i32 n)
def encs_u8 (l:(List Int)):FV:=.sl (List.map enc_u8 l)
structure api_Cond where
 Name:ByteArray
 Exclusive:Bool
 deriving Inhabited,DecidableEq
def enc_api_Cond (x:api_Cond):FV:=.agg [.pv (.string x.Name),.pv (.bool x.Exclusive)]
theorem enc_api_Cond_eq (x:api_Cond):enc_api_Cond x=.agg [.pv (.string x.Name),.pv (.bool x.Exclusive)]:=rfl
abbrev fv_api_Cond (x:api_Cond):FV:=.agg [.pv (.string x.Name),.pv (.bool x.Exclusive)]
abbrev av_api_Cond (x:api_Cond):AV:=.agg [vS x.Name,vB x.Exclusive]
abbrev ao_api_Cond (x:api_Cond):AV:=.agg [vS x.Name,vB x.Exclusive]
def encs_api_Cond (l:(List api_Cond)):FV:=.sl (List.map enc_api_Cond l)
def encs_i64 (l:(List Int)):FV:=.sl (List.map enc_i64 l)
structure arr4_uint64 where
 e0:Int
 e1:Int
 e2:Int
 e3:Int
 deriving Inhabited,DecidableEq
def enc_arr4_uint64 (x:arr4_uint64):FV:=.agg [.pv (.int .u64 x.e0),.pv (.int .u64 x.e1),.pv (.int .u64 x.e2),.pv (.int .u64 x.e3)]
theorem enc_arr4_uint64_eq (x:arr4_uint64):enc_arr4_uint64 x=.agg [.pv (.int .u64 x.e0),.pv (.int .u64 x.e1),.pv (.int .u64 x.e2),.pv (.int .u64 x.e3)]:=rfl
abbrev fv_arr4_uint64 (x:arr4_uint64):FV:=.agg [.pv (.int .u64 x.e0),.pv (.int .u64 x.e1),.pv (.int .u64 x.e2),.pv (.int .u64 x.e3)]
abbrev av_arr4_uint64 (x:arr4_uint64):AV:=.agg [vI .u64 x.e0,vI .u64 x.e1,vI .u64 x.e2,vI .u64 x.e3]
abbrev ao_arr4_uint64 (x:arr4_uint64):AV:=.agg [vI .u64 x.e0,vI .u64 x.e1,vI .u64 x.e2,vI .u64 x.e3]
structure api_Rx where
 Kind:Int
 Set:arr4_uint64
 Lo:Int
 Hi:Int
 Kids:(List api_Rx)
 deriving Inhabited
def enc_api_Rx:api_Rx→FV
 | ⟨a_Kind,a_Set,a_Lo,a_Hi,a_Kids⟩=>.agg [.pv (.int .i64 a_Kind),.pv (.int .u64 a_Set.e0),.pv (.int .u64 a_Set.e1),.pv (.int .u64 a_Set.e2),.pv (.int .u64 a_Set.e3),.pv (.int .i64 a_Lo),.pv (.int .i64 a_Hi),.sl (List.map enc_api_Rx a_Kids)]
theorem enc_api_Rx_eq (x:api_Rx):enc_api_Rx x=.agg [.pv (.int .i64 x.Kind),.pv (.int .u64 x.Set.e0),.pv (.int .u64 x.Set.e1),.pv (.int .u64 x.Set.e2),.pv (.int .u64 x.Set.e3),.pv (.int .i64 x.Lo),.pv (.int .i64 x.Hi),.sl (List.map enc_api_Rx x.Kids)]:=by cases x;rw [enc_api_Rx]
theorem fits_api_Rx (l:List api_Rx):(List.map enc_api_Rx l).all (FV.fits 8)=true:=by simp [FV.fits,FV.size,FV.cells,FV.one,enc_api_Rx_eq]
abbrev fv_api_Rx (x:api_Rx):FV:=.agg [.pv (.int .i64 x.Kind),.pv (.int .u64 x.Set.e0),.pv (.int .u64 x.Set.e1),.pv (.int .u64 x.Set.e2),.pv (.int .u64 x.Set.e3),.pv (.int .i64 x.Lo),.pv (.int .i64 x.Hi),.sl (List.map enc_api_Rx x.Kids)]
abbrev av_api_Rx (x:api_Rx):AV:=.agg [vI .i64 x.Kind,vI .u64 x.Set.e0,vI .u64 x.Set.e1,vI .u64 x.Set.e2,vI .u64 x.Set.e3,vI .i64 x.Lo,vI .i64 x.Hi,vL enc_api_Rx x.Kids]
abbrev ao_api_Rx (x:api_Rx):AV:=.agg [vI .i64 x.Kind,vI .u64 x.Set.e0,vI .u64 x.Set.e1,vI .u64 x.Set.e2,vI .u64 x.Set.e3,vI .i64 x.Lo,vI .i64 x.Hi,oL 36 enc_api_Rx x.Kids]
structure api_Rule where
 Conds:(List Int)
 All:Bool
 Bol:Bool
 Rx:api_Rx
 Trail:api_Rx
 Eof:Bool
 Act:Int
 To:Int
 deriving Inhabited
def enc_api_Rule (x:api_Rule):FV:=.agg [.sl (List.map enc_i64 x.Conds),.pv (.bool x.All),.pv (.bool x.Bol),.pv (.int .i64 x.Rx.Kind),.pv (.int .u64 x.Rx.Set.e0),.pv (.int .u64 x.Rx.Set.e1),.pv (.int .u64 x.Rx.Set.e2),.pv (.int .u64 x.Rx.Set.e3),.pv (.int .i64 x.Rx.Lo),.pv (.int .i64 x.Rx.Hi),.sl (List.map enc_api_Rx x.Rx.Kids),.pv (.int .i64 x.Trail.Kind),.pv (.int .u64 x.Trail.Set.e0),.pv (.int .u64 x.Trail.Set.e1),.pv (.int .u64 x.Trail.Set.e2),.pv (.int .u64 x.Trail.Set.e3),.pv (.int .i64 x.Trail.Lo),.pv (.int .i64 x.Trail.Hi),.sl (List.map enc_api_Rx x.Trail.Kids),.pv (.bool x.Eof),.pv (.int .i64 x.Act),.pv (.int .i64 x.To)]
theorem enc_api_Rule_eq (x:api_Rule):enc_api_Rule x=.agg [.sl (List.map enc_i64 x.Conds),.pv (.bool x.All),.pv (.bool x.Bol),.pv (.int .i64 x.Rx.Kind),.pv (.int .u64 x.Rx.Set.e0),.pv (.int .u64 x.Rx.Set.e1),.pv (.int .u64 x.Rx.Set.e2),.pv (.int .u64 x.Rx.Set.e3),.pv (.int .i64 x.Rx.Lo),.pv (.int .i64 x.Rx.Hi),.sl (List.map enc_api_Rx x.Rx.Kids),.pv (.int .i64 x.Trail.Kind),.pv (.int .u64 x.Trail.Set.e0),.pv (.int .u64 x.Trail.Set.e1),.pv (.int .u64 x.Trail.Set.e2),.pv (.int .u64 x.Trail.Set.e3),.pv (.int .i64 x.Trail.Lo),.pv (.int .i64 x.Trail.Hi),.sl (List.map enc_api_Rx x.Trail.Kids),.pv (.bool x.Eof),.pv (.int .i64 x.Act),.pv (.int .i64 x.To)]:=rfl
abbrev fv_api_Rule (x:api_Rule):FV:=.agg [.sl (List.map enc_i64 x.Conds),.pv (.bool x.All),.pv (.bool x.Bol),.pv (.int .i64 x.Rx.Kind),.pv (.int .u64 x.Rx.Set.e0),.pv (.int .u64 x.Rx.Set.e1),.pv (.int .u64 x.Rx.Set.e2),.pv (.int .u64 x.Rx.Set.e3),.pv (.int .i64 x.Rx.Lo),.pv (.int .i64 x.Rx.Hi),.sl (List.map enc_api_Rx x.Rx.Kids),.pv (.int .i64 x.Trail.Kind),.pv (.int .u64 x.Trail.Set.e0),.pv (.int .u64 x.Trail.Set.e1),.pv (.int .u64 x.Trail.Set.e2),.pv (.int .u64 x.Trail.Set.e3),.pv (.int .i64 x.Trail.Lo),.pv (.int .i64 x.Trail.Hi),.sl (List.map enc_api_Rx x.Trail.Kids),.pv (.bool x.Eof),.pv (.int .i64 x.Act),.pv (.int .i64 x.To)]
abbrev av_api_Rule (x:api_Rule):AV:=.agg [vL enc_i64 x.Conds,vB x.All,vB x.Bol,vI .i64 x.Rx.Kind,vI .u64 x.Rx.Set.e0,vI .u64 x.Rx.Set.e1,vI .u64 x.Rx.Set.e2,vI .u64 x.Rx.Set.e3,vI .i64 x.Rx.Lo,vI .i64 x.Rx.Hi,vL enc_api_Rx x.Rx.Kids,vI .i64 x.Trail.Kind,vI .u64 x.Trail.Set.e0,vI .u64 x.Trail.Set.e1,vI .u64 x.Trail.Set.e2,vI .u64 x.Trail.Set.e3,vI .i64 x.Trail.Lo,vI .i64 x.Trail.Hi,vL enc_api_Rx x.Trail.Kids,vB x.Eof,vI .i64 x.Act,vI .i64 x.To]
abbrev ao_api_Rule (x:api_Rule):AV:=.agg [oL 3 enc_i64 x.Conds,vB x.All,vB x.Bol,vI .i64 x.Rx.Kind,vI .u64 x.Rx.Set.e0,vI .u64 x.Rx.Set.e1,vI .u64 x.Rx.Set.e2,vI .u64 x.Rx.Set.e3,vI .i64 x.Rx.Lo,vI .i64 x.Rx.Hi,oL 36 enc_api_Rx x.Rx.Kids,vI .i64 x.Trail.Kind,vI .u64 x.Trail.Set.e0,vI .u64 x.Trail.Set.e1,vI .u64 x.Trail.Set.e2,vI .u64 x.Trail.Set.e3,vI .i64 x.Trail.Lo,vI .i64 x.Trail.Hi,oL 36 enc_api_Rx x.Trail.Kids,vB x.Eof,vI .i64 x.Act,vI .i64 x.To]
def encs_api_Rule (l:(List api_Rule)):FV:=.sl (List.map enc_api_Rule l)
structure api_Spec where
 Conds:(List api_Cond)
 Default:Bool
 Rules:(List api_Rule)
 deriving Inhabited
def enc_api_Spec (x:api_Spec):FV:=.agg [.sl (List.map enc_api_Cond x.Conds),.pv (.bool x.Default),.sl (List.map enc_api_Rule x.Rules)]
theorem enc_api_Spec_eq (x:api_Spec):enc_api_Spec x=.agg [.sl (List.map enc_api_Cond x.Conds),.pv (.bool x.Default),.sl (List.map enc_api_Rule x.Rules)]:=rfl
abbrev fv_api_Spec (x:api_Spec):FV:=.agg [.sl (List.map enc_api_Cond x.Conds),.pv (.bool x.Default),.sl (List.map enc_api_Rule x.Rules)]
abbrev av_api_Spec (x:api_Spec):AV:=.agg [vL enc_api_Cond x.Conds,vB x.Default,vL enc_api_Rule x.Rules]
abbrev ao_api_Spec (x:api_Spec):AV:=.agg [oL 69 enc_api_Cond x.Conds,vB x.Default,oL 38 enc_api_Rule x.Rules]
def encs_api_Rx (l:(List api_Rx)):FV:=.sl (List.map enc_api_Rx l)
def encs_bool (l:(List Bool)):FV:=.sl (List.map enc_bool l)
def encs_arr4_uint64 (l:(List arr4_uint64)):FV:=.sl (List.map enc_arr4_uint64 l)
def encs__i64 (l:(List (List Int))):FV:=.sl (List.map encs_i64 l)
structure api_Auto where
 Sets:(List arr4_uint64)
 Owner:(List Int)
 Follow:(List (List Int))
 Ends:(List Bool)
 Starts:(List (List Int))
 deriving Inhabited,DecidableEq
def enc_api_Auto (x:api_Auto):FV:=.agg [.sl (List.map enc_arr4_uint64 x.Sets),.sl (List.map enc_i64 x.Owner),.sl (List.map encs_i64 x.Follow),.sl (List.map enc_bool x.Ends),.sl (List.map encs_i64 x.Starts)]
theorem enc_api_Auto_eq (x:api_Auto):enc_api_Auto x=.agg [.sl (List.map enc_arr4_uint64 x.Sets),.sl (List.map enc_i64 x.Owner),.sl (List.map encs_i64 x.Follow),.sl (List.map enc_bool x.Ends),.sl (List.map encs_i64 x.Starts)]:=rfl
abbrev fv_api_Auto (x:api_Auto):FV:=.agg [.sl (List.map enc_arr4_uint64 x.Sets),.sl (List.map enc_i64 x.Owner),.sl (List.map encs_i64 x.Follow),.sl (List.map enc_bool x.Ends),.sl (List.map encs_i64 x.Starts)]
abbrev av_api_Auto (x:api_Auto):AV:=.agg [vL enc_arr4_uint64 x.Sets,vL enc_i64 x.Owner,vL encs_i64 x.Follow,vL enc_bool x.Ends,vL encs_i64 x.Starts]
abbrev ao_api_Auto (x:api_Auto):AV:=.agg [oL 33 enc_arr4_uint64 x.Sets,oL 3 enc_i64 x.Owner,oL 30 encs_i64 x.Follow,oL 4 enc_bool x.Ends,oL 30 encs_i64 x.Starts]
structure hecklelaw03_Maker where
 L:(List Int)
 At:Int
 deriving Inhabited,DecidableEq
def enc_hecklelaw03_Maker (x:hecklelaw03_Maker):FV:=.agg [.sl (List.map enc_u8 x.L),.pv (.int .i64 x.At)]
theorem enc_hecklelaw03_Maker_eq (x:hecklelaw03_Maker):enc_hecklelaw03_Maker x=.agg [.sl (List.map enc_u8 x.L),.pv (.int .i64 x.At)]:=rfl
abbrev fv_hecklelaw03_Maker (x:hecklelaw03_Maker):FV:=.agg [.sl (List.map enc_u8 x.L),.pv (.int .i64 x.At)]
abbrev av_hecklelaw03_Maker (x:hecklelaw03_Maker):AV:=.agg [vL enc_u8 x.L,vI .i64 x.At]
abbrev ao_hecklelaw03_Maker (x:hecklelaw03_Maker):AV:=.agg [oL 5 enc_u8 x.L,vI .i64 x.At]
structure auto_builder where
 Auto:api_Auto
 deriving Inhabited,DecidableEq
def enc_auto_builder (x:auto_builder):FV:=.agg [.sl (List.map enc_arr4_uint64 x.Auto.Sets),.sl (List.map enc_i64 x.Auto.Owner),.sl (List.map encs_i64 x.Auto.Follow),.sl (List.map enc_bool x.Auto.Ends),.sl (List.map encs_i64 x.Auto.Starts)]
theorem enc_auto_builder_eq (x:auto_builder):enc_auto_builder x=.agg [.sl (List.map enc_arr4_uint64 x.Auto.Sets),.sl (List.map enc_i64 x.Auto.Owner),.sl (List.map encs_i64 x.Auto.Follow),.sl (List.map enc_bool x.Auto.Ends),.sl (List.map encs_i64 x.Auto.Starts)]:=rfl
abbrev fv_auto_builder (x:auto_builder):FV:=.agg [.sl (List.map enc_arr4_uint64 x.Auto.Sets),.sl (List.map enc_i64 x.Auto.Owner),.sl (List.map encs_i64 x.Auto.Follow),.sl (List.map enc_bool x.Auto.Ends),.sl (List.map encs_i64 x.Auto.Starts)]
abbrev av_auto_builder (x:auto_builder):AV:=.agg [vL enc_arr4_uint64 x.Auto.Sets,vL enc_i64 x.Auto.Owner,vL encs_i64 x.Auto.Follow,vL enc_bool x.Auto.Ends,vL encs_i64 x.Auto.Starts]
abbrev ao_auto_builder (x:auto_builder):AV:=.agg [oL 33 enc_arr4_uint64 x.Auto.Sets,oL 3 enc_i64 x.Auto.Owner,oL 30 encs_i64 x.Auto.Follow,oL 4 enc_bool x.Auto.Ends,oL 30 encs_i64 x.Auto.Starts]
structure rx_pattern where
 Kind:Int
 Set:arr4_uint64
 Lo:Int
 Hi:Int
 Kids:(List api_Rx)
 deriving Inhabited
def enc_rx_pattern (x:rx_pattern):FV:=.agg [.pv (.int .i64 x.Kind),.pv (.int .u64 x.Set.e0),.pv (.int .u64 x.Set.e1),.pv (.int .u64 x.Set.e2),.pv (.int .u64 x.Set.e3),.pv (.int .i64 x.Lo),.pv (.int .i64 x.Hi),.sl (List.map enc_api_Rx x.Kids)]
theorem enc_rx_pattern_eq (x:rx_pattern):enc_rx_pattern x=.agg [.pv (.int .i64 x.Kind),.pv (.int .u64 x.Set.e0),.pv (.int .u64 x.Set.e1),.pv (.int .u64 x.Set.e2),.pv (.int .u64 x.Set.e3),.pv (.int .i64 x.Lo),.pv (.int .i64 x.Hi),.sl (List.map enc_api_Rx x.Kids)]:=rfl
abbrev fv_rx_pattern (x:rx_pattern):FV:=.agg [.pv (.int .i64 x.Kind),.pv (.int .u64 x.Set.e0),.pv (.int .u64 x.Set.e1),.pv (.int .u64 x.Set.e2),.pv (.int .u64 x.Set.e3),.pv (.int .i64 x.Lo),.pv (.int .i64 x.Hi),.sl (List.map enc_api_Rx x.Kids)]
abbrev av_rx_pattern (x:rx_pattern):AV:=.agg [vI .i64 x.Kind,vI .u64 x.Set.e0,vI .u64 x.Set.e1,vI .u64 x.Set.e2,vI .u64 x.Set.e3,vI .i64 x.Lo,vI .i64 x.Hi,vL enc_api_Rx x.Kids]
abbrev ao_rx_pattern (x:rx_pattern):AV:=.agg [vI .i64 x.Kind,vI .u64 x.Set.e0,vI .u64 x.Set.e1,vI .u64 x.Set.e2,vI .u64 x.Set.e3,vI .i64 x.Lo,vI .i64 x.Hi,oL 36 enc_api_Rx x.Kids]
structure api_Places where
 Sets:(List arr4_uint64)
 First:(List Int)
 Last:(List Int)
 Follow:(List (List Int))
 Null:Bool
 deriving Inhabited,DecidableEq
def enc_api_Places (x:api_Places):FV:=.agg [.sl (List.map enc_arr4_uint64 x.Sets),.sl (List.map enc_i64 x.First),.sl (List.map enc_i64 x.Last),.sl (List.map encs_i64 x.Follow),.pv (.bool x.Null)]
theorem enc_api_Places_eq (x:api_Places):enc_api_Places x=.agg [.sl (List.map enc_arr4_uint64 x.Sets),.sl (List.map enc_i64 x.First),.sl (List.map enc_i64 x.Last),.sl (List.map encs_i64 x.Follow),.pv (.bool x.Null)]:=rfl
abbrev fv_api_Places (x:api_Places):FV:=.agg [.sl (List.map enc_arr4_uint64 x.Sets),.sl (List.map enc_i64 x.First),.sl (List.map enc_i64 x.Last),.sl (List.map encs_i64 x.Follow),.pv (.bool x.Null)]
abbrev av_api_Places (x:api_Places):AV:=.agg [vL enc_arr4_uint64 x.Sets,vL enc_i64 x.First,vL enc_i64 x.Last,vL encs_i64 x.Follow,vB x.Null]
abbrev ao_api_Places (x:api_Places):AV:=.agg [oL 33 enc_arr4_uint64 x.Sets,oL 3 enc_i64 x.First,oL 3 enc_i64 x.Last,oL 30 encs_i64 x.Follow,vB x.Null]
structure struct121 where
 deriving Inhabited,DecidableEq
def enc_struct121 (x:struct121):FV:=.agg []
theorem enc_struct121_eq (x:struct121):enc_struct121 x=.agg []:=rfl
abbrev fv_struct121 (x:struct121):FV:=.agg []
abbrev av_struct121 (x:struct121):AV:=.agg []
abbrev ao_struct121 (x:struct121):AV:=.agg []
structure spec_rule where
 Conds:(List Int)
 All:Bool
 Bol:Bool
 Rx:api_Rx
 Trail:api_Rx
 Eof:Bool
 Act:Int
 To:Int
 deriving Inhabited
def enc_spec_rule (x:spec_rule):FV:=.agg [.sl (List.map enc_i64 x.Conds),.pv (.bool x.All),.pv (.bool x.Bol),.pv (.int .i64 x.Rx.Kind),.pv (.int .u64 x.Rx.Set.e0),.pv (.int .u64 x.Rx.Set.e1),.pv (.int .u64 x.Rx.Set.e2),.pv (.int .u64 x.Rx.Set.e3),.pv (.int .i64 x.Rx.Lo),.pv (.int .i64 x.Rx.Hi),.sl (List.map enc_api_Rx x.Rx.Kids),.pv (.int .i64 x.Trail.Kind),.pv (.int .u64 x.Trail.Set.e0),.pv (.int .u64 x.Trail.Set.e1),.pv (.int .u64 x.Trail.Set.e2),.pv (.int .u64 x.Trail.Set.e3),.pv (.int .i64 x.Trail.Lo),.pv (.int .i64 x.Trail.Hi),.sl (List.map enc_api_Rx x.Trail.Kids),.pv (.bool x.Eof),.pv (.int .i64 x.Act),.pv (.int .i64 x.To)]
theorem enc_spec_rule_eq (x:spec_rule):enc_spec_rule x=.agg [.sl (List.map enc_i64 x.Conds),.pv (.bool x.All),.pv (.bool x.Bol),.pv (.int .i64 x.Rx.Kind),.pv (.int .u64 x.Rx.Set.e0),.pv (.int .u64 x.Rx.Set.e1),.pv (.int .u64 x.Rx.Set.e2),.pv (.int .u64 x.Rx.Set.e3),.pv (.int .i64 x.Rx.Lo),.pv (.int .i64 x.Rx.Hi),.sl (List.map enc_api_Rx x.Rx.Kids),.pv (.int .i64 x.Trail.Kind),.pv (.int .u64 x.Trail.Set.e0),.pv (.int .u64 x.Trail.Set.e1),.pv (.int .u64 x.Trail.Set.e2),.pv (.int .u64 x.Trail.Set.e3),.pv (.int .i64 x.Trail.Lo),.pv (.int .i64 x.Trail.Hi),.sl (List.map enc_api_Rx x.Trail.Kids),.pv (.bool x.Eof),.pv (.int .i64 x.Act),.pv (.int .i64 x.To)]:=rfl
abbrev fv_spec_rule (x:spec_rule):FV:=.agg [.sl (List.map enc_i64 x.Conds),.pv (.bool x.All),.pv (.bool x.Bol),.pv (.int .i64 x.Rx.Kind),.pv (.int .u64 x.Rx.Set.e0),.pv (.int .u64 x.Rx.Set.e1),.pv (.int .u64 x.Rx.Set.e2),.pv (.int .u64 x.Rx.Set.e3),.pv (.int .i64 x.Rx.Lo),.pv (.int .i64 x.Rx.Hi),.sl (List.map enc_api_Rx x.Rx.Kids),.pv (.int .i64 x.Trail.Kind),.pv (.int .u64 x.Trail.Set.e0),.pv (.int .u64 x.Trail.Set.e1),.pv (.int .u64 x.Trail.Set.e2),.pv (.int .u64 x.Trail.Set.e3),.pv (.int .i64 x.Trail.Lo),.pv (.int .i64 x.Trail.Hi),.sl (List.map enc_api_Rx x.Trail.Kids),.pv (.bool x.Eof),.pv (.int .i64 x.Act),.pv (.int .i64 x.To)]
abbrev av_spec_rule (x:spec_rule):AV:=.agg [vL enc_i64 x.Conds,vB x.All,vB x.Bol,vI .i64 x.Rx.Kind,vI .u64 x.Rx.Set.e0,vI .u64 x.Rx.Set.e1,vI .u64 x.Rx.Set.e2,vI .u64 x.Rx.Set.e3,vI .i64 x.Rx.Lo,vI .i64 x.Rx.Hi,vL enc_api_Rx x.Rx.Kids,vI .i64 x.Trail.Kind,vI .u64 x.Trail.Set.e0,vI .u64 x.Trail.Set.e1,vI .u64 x.Trail.Set.e2,vI .u64 x.Trail.Set.e3,vI .i64 x.Trail.Lo,vI .i64 x.Trail.Hi,vL enc_api_Rx x.Trail.Kids,vB x.Eof,vI .i64 x.Act,vI .i64 x.To]
abbrev ao_spec_rule (x:spec_rule):AV:=.agg [oL 3 enc_i64 x.Conds,vB x.All,vB x.Bol,vI .i64 x.Rx.Kind,vI .u64 x.Rx.Set.e0,vI .u64 x.Rx.Set.e1,vI .u64 x.Rx.Set.e2,vI .u64 x.Rx.Set.e3,vI .i64 x.Rx.Lo,vI .i64 x.Rx.Hi,oL 36 enc_api_Rx x.Rx.Kids,vI .i64 x.Trail.Kind,vI .u64 x.Trail.Set.e0,vI .u64 x.Trail.Set.e1,vI .u64 x.Trail.Set.e2,vI .u64 x.Trail.Set.e3,vI .i64 x.Trail.Lo,vI .i64 x.Trail.Hi,oL 36 enc_api_Rx x.Trail.Kids,vB x.Eof,vI .i64 x.Act,vI .i64 x.To]
structure place_builder where
 sets:(List arr4_uint64)
 follow:(List (List Int))
 deriving Inhabited,DecidableEq
def enc_place_builder (x:place_builder):FV:=.agg [.sl (List.map enc_arr4_uint64 x.sets),.sl (List.map encs_i64 x.follow)]
theorem enc_place_builder_eq (x:place_builder):enc_place_builder x=.agg [.sl (List.map enc_arr4_uint64 x.sets),.sl (List.map encs_i64 x.follow)]:=rfl
abbrev fv_place_builder (x:place_builder):FV:=.agg [.sl (List.map enc_arr4_uint64 x.sets),.sl (List.map encs_i64 x.follow)]
abbrev av_place_builder (x:place_builder):AV:=.agg [vL enc_arr4_uint64 x.sets,vL encs_i64 x.follow]
abbrev ao_place_builder (x:place_builder):AV:=.agg [oL 33 enc_arr4_uint64 x.sets,oL 30 encs_i64 x.follow]
structure place_piece where
 first:(List Int)
 last:(List Int)
 null:Bool
 deriving Inhabited,DecidableEq
def enc_place_piece (x:place_piece):FV:=.agg [.sl (List.map enc_i64 x.first),.sl (List.map enc_i64 x.last),.pv (.bool x.null)]
theorem enc_place_piece_eq (x:place_piece):enc_place_piece x=.agg [.sl (List.map enc_i64 x.first),.sl (List.map enc_i64 x.last),.pv (.bool x.null)]:=rfl
abbrev fv_place_piece (x:place_piece):FV:=.agg [.sl (List.map enc_i64 x.first),.sl (List.map enc_i64 x.last),.pv (.bool x.null)]
abbrev av_place_piece (x:place_piece):AV:=.agg [vL enc_i64 x.first,vL enc_i64 x.last,vB x.null]
abbrev ao_place_piece (x:place_piece):AV:=.agg [oL 3 enc_i64 x.first,oL 3 enc_i64 x.last,vB x.null]
structure arr2_int where
 e0:Int
 e1:Int
 deriving Inhabited,DecidableEq
def enc_arr2_int (x:arr2_int):FV:=.agg [.pv (.int .i64 x.e0),.pv (.int .i64 x.e1)]
theorem enc_arr2_int_eq (x:arr2_int):enc_arr2_int x=.agg [.pv (.int .i64 x.e0),.pv (.int .i64 x.e1)]:=rfl
abbrev fv_arr2_int (x:arr2_int):FV:=.agg [.pv (.int .i64 x.e0),.pv (.int .i64 x.e1)]
abbrev av_arr2_int (x:arr2_int):AV:=.agg [vI .i64 x.e0,vI .i64 x.e1]
abbrev ao_arr2_int (x:arr2_int):AV:=.agg [vI .i64 x.e0,vI .i64 x.e1]
def encs_arr2_int (l:(List arr2_int)):FV:=.sl (List.map enc_arr2_int l)
def encs_place_piece (l:(List place_piece)):FV:=.sl (List.map enc_place_piece l)
def enc_u32 (n:Int):FV:=.pv (.int .u32 n)
theorem strElems_ints (s:ByteArray):strElems s=List.map enc_u8 (strInts s):=strElems_of s _ fun _=>rfl
theorem enq:(∀ n:Int,enc_i64 n=.pv (.int .i64 n))∧
 (∀ n:Bool,enc_bool n=.pv (.bool n))∧
 (∀ n:Int,enc_u8 n=.pv (.int .u8 n))∧
 (∀ x:runtime_boundsError,enc_runtime_boundsError x=.agg [.pv (.int .i64 x.x),.pv (.int .i64 x.y),.pv (.bool x.signed),.pv (.int .u8 x.code)])∧
 (∀ x:runtime_boundsError,fv_runtime_boundsError x=.agg [.pv (.int .i64 x.x),.pv (.int .i64 x.y),.pv (.bool x.signed),.pv (.int .u8 x.code)])∧
 (∀ x:runtime_boundsError,av_runtime_boundsError x=.agg [vI .i64 x.x,vI .i64 x.y,vB x.signed,vI .u8 x.code])∧
 (∀ x:runtime_boundsError,ao_runtime_boundsError x=.agg [vI .i64 x.x,vI .i64 x.y,vB x.signed,vI .u8 x.code])∧
 (∀ n:ByteArray,enc_string n=.pv (.string n))∧
 (∀ n:Int,enc_u64 n=.pv (.int .u64 n))∧
 (∀ x:runtime_errorAddressString,enc_runtime_errorAddressString x=.agg [.pv (.string x.msg),.pv (.int .u64 x.addr)])∧
 (∀ x:runtime_errorAddressString,fv_runtime_errorAddressString x=.agg [.pv (.string x.msg),.pv (.int .u64 x.addr)])∧
 (∀ x:runtime_errorAddressString,av_runtime_errorAddressString x=.agg [vS x.msg,vI .u64 x.addr])∧
 (∀ x:runtime_errorAddressString,ao_runtime_errorAddressString x=.agg [vS x.msg,vI .u64 x.addr])∧
 (∀ n:Int,enc_i32 n=.pv (.int .i32 n))∧
 (∀ l:(List Int),encs_u8 l=.sl (List.map enc_u8 l))∧
 (∀ x:api_Cond,enc_api_Cond x=.agg [.pv (.string x.Name),.pv (.bool x.Exclusive)])∧
 (∀ x:api_Cond,fv_api_Cond x=.agg [.pv (.string x.Name),.pv (.bool x.Exclusive)])∧
 (∀ x:api_Cond,av_api_Cond x=.agg [vS x.Name,vB x.Exclusive])∧
 (∀ x:api_Cond,ao_api_Cond x=.agg [vS x.Name,vB x.Exclusive])∧
 (∀ l:(List api_Cond),encs_api_Cond l=.sl (List.map enc_api_Cond l))∧
 (∀ l:(List Int),encs_i64 l=.sl (List.map enc_i64 l))∧
 (∀ x:arr4_uint64,enc_arr4_uint64 x=.agg [.pv (.int .u64 x.e0),.pv (.int .u64 x.e1),.pv (.int .u64 x.e2),.pv (.int .u64 x.e3)])∧
 (∀ x:arr4_uint64,fv_arr4_uint64 x=.agg [.pv (.int .u64 x.e0),.pv (.int .u64 x.e1),.pv (.int .u64 x.e2),.pv (.int .u64 x.e3)])∧
 (∀ x:arr4_uint64,av_arr4_uint64 x=.agg [vI .u64 x.e0,vI .u64 x.e1,vI .u64 x.e2,vI .u64 x.e3])∧
 (∀ x:arr4_uint64,ao_arr4_uint64 x=.agg [vI .u64 x.e0,vI .u64 x.e1,vI .u64 x.e2,vI .u64 x.e3])∧
 (∀ x:api_Rx,enc_api_Rx x=.agg [.pv (.int .i64 x.Kind),.pv (.int .u64 x.Set.e0),.pv (.int .u64 x.Set.e1),.pv (.int .u64 x.Set.e2),.pv (.int .u64 x.Set.e3),.pv (.int .i64 x.Lo),.pv (.int .i64 x.Hi),.sl (List.map enc_api_Rx x.Kids)])∧
 (∀ x:api_Rx,fv_api_Rx x=.agg [.pv (.int .i64 x.Kind),.pv (.int .u64 x.Set.e0),.pv (.int .u64 x.Set.e1),.pv (.int .u64 x.Set.e2),.pv (.int .u64 x.Set.e3),.pv (.int .i64 x.Lo),.pv (.int .i64 x.Hi),.sl (List.map enc_api_Rx x.Kids)])∧
 (∀ x:api_Rx,av_api_Rx x=.agg [vI .i64 x.Kind,vI .u64 x.Set.e0,vI .u64 x.Set.e1,vI .u64 x.Set.e2,vI .u64 x.Set.e3,vI .i64 x.Lo,vI .i64 x.Hi,vL enc_api_Rx x.Kids])∧
 (∀ x:api_Rx,ao_api_Rx x=.agg [vI .i64 x.Kind,vI .u64 x.Set.e0,vI .u64 x.Set.e1,vI .u64 x.Set.e2,vI .u64 x.Set.e3,vI .i64 x.Lo,vI .i64 x.Hi,oL 36 enc_api_Rx x.Kids])∧
 (∀ x:api_Rule,enc_api_Rule x=.agg [.sl (List.map enc_i64 x.Conds),.pv (.bool x.All),.pv (.bool x.Bol),.pv (.int .i64 x.Rx.Kind),.pv (.int .u64 x.Rx.Set.e0),.pv (.int .u64 x.Rx.Set.e1),.pv (.int .u64 x.Rx.Set.e2),.pv (.int .u64 x.Rx.Set.e3),.pv (.int .i64 x.Rx.Lo),.pv (.int .i64 x.Rx.Hi),.sl (List.map enc_api_Rx x.Rx.Kids),.pv (.int .i64 x.Trail.Kind),.pv (.int .u64 x.Trail.Set.e0),.pv (.int .u64 x.Trail.Set.e1),.pv (.int .u64 x.Trail.Set.e2),.pv (.int .u64 x.Trail.Set.e3),.pv (.int .i64 x.Trail.Lo),.pv (.int .i64 x.Trail.Hi),.sl (List.map enc_api_Rx x.Trail.Kids),.pv (.bool x.Eof),.pv (.int .i64 x.Act),.pv (.int .i64 x.To)])∧
 (∀ x:api_Rule,fv_api_Rule x=.agg [.sl (List.map enc_i64 x.Conds),.pv (.bool x.All),.pv (.bool x.Bol),.pv (.int .i64 x.Rx.Kind),.pv (.int .u64 x.Rx.Set.e0),.pv (.int .u64 x.Rx.Set.e1),.pv (.int .u64 x.Rx.Set.e2),.pv (.int .u64 x.Rx.Set.e3),.pv (.int .i64 x.Rx.Lo),.pv (.int .i64 x.Rx.Hi),.sl (List.map enc_api_Rx x.Rx.Kids),.pv (.int .i64 x.Trail.Kind),.pv (.int .u64 x.Trail.Set.e0),.pv (.int .u64 x.Trail.Set.e1),.pv (.int .u64 x.Trail.Set.e2),.pv (.int .u64 x.Trail.Set.e3),.pv (.int .i64 x.Trail.Lo),.pv (.int .i64 x.Trail.Hi),.sl (List.map enc_api_Rx x.Trail.Kids),.pv (.bool x.Eof),.pv (.int .i64 x.Act),.pv (.int .i64 x.To)])∧
 (∀ x:api_Rule,av_api_Rule x=.agg [vL enc_i64 x.Conds,vB x.All,vB x.Bol,vI .i64 x.Rx.Kind,vI .u64 x.Rx.Set.e0,vI .u64 x.Rx.Set.e1,vI .u64 x.Rx.Set.e2,vI .u64 x.Rx.Set.e3,vI .i64 x.Rx.Lo,vI .i64 x.Rx.Hi,vL enc_api_Rx x.Rx.Kids,vI .i64 x.Trail.Kind,vI .u64 x.Trail.Set.e0,vI .u64 x.Trail.Set.e1,vI .u64 x.Trail.Set.e2,vI .u64 x.Trail.Set.e3,vI .i64 x.Trail.Lo,vI .i64 x.Trail.Hi,vL enc_api_Rx x.Trail.Kids,vB x.Eof,vI .i64 x.Act,vI .i64 x.To])∧
 (∀ x:api_Rule,ao_api_Rule x=.agg [oL 3 enc_i64 x.Conds,vB x.All,vB x.Bol,vI .i64 x.Rx.Kind,vI .u64 x.Rx.Set.e0,vI .u64 x.Rx.Set.e1,vI .u64 x.Rx.Set.e2,vI .u64 x.Rx.Set.e3,vI .i64 x.Rx.Lo,vI .i64 x.Rx.Hi,oL 36 enc_api_Rx x.Rx.Kids,vI .i64 x.Trail.Kind,vI .u64 x.Trail.Set.e0,vI .u64 x.Trail.Set.e1,vI .u64 x.Trail.Set.e2,vI .u64 x.Trail.Set.e3,vI .i64 x.Trail.Lo,vI .i64 x.Trail.Hi,oL 36 enc_api_Rx x.Trail.Kids,vB x.Eof,vI .i64 x.Act,vI .i64 x.To])∧
 (∀ l:(List api_Rule),encs_api_Rule l=.sl (List.map enc_api_Rule l))∧
 (∀ x:api_Spec,enc_api_Spec x=.agg [.sl (List.map enc_api_Cond x.Conds),.pv (.bool x.Default),.sl (List.map enc_api_Rule x.Rules)])∧
 (∀ x:api_Spec,fv_api_Spec x=.agg [.sl (List.map enc_api_Cond x.Conds),.pv (.bool x.Default),.sl (List.map enc_api_Rule x.Rules)])∧
 (∀ x:api_Spec,av_api_Spec x=.agg [vL enc_api_Cond x.Conds,vB x.Default,vL enc_api_Rule x.Rules])∧
 (∀ x:api_Spec,ao_api_Spec x=.agg [oL 69 enc_api_Cond x.Conds,vB x.Default,oL 38 enc_api_Rule x.Rules])∧
 (∀ l:(List api_Rx),encs_api_Rx l=.sl (List.map enc_api_Rx l))∧
 (∀ l:(List Bool),encs_bool l=.sl (List.map enc_bool l))∧
 (∀ l:(List arr4_uint64),encs_arr4_uint64 l=.sl (List.map enc_arr4_uint64 l))∧
 (∀ l:(List (List Int)),encs__i64 l=.sl (List.map encs_i64 l))∧
 (∀ x:api_Auto,enc_api_Auto x=.agg [.sl (List.map enc_arr4_uint64 x.Sets),.sl (List.map enc_i64 x.Owner),.sl (List.map encs_i64 x.Follow),.sl (List.map enc_bool x.Ends),.sl (List.map encs_i64 x.Starts)])∧
 (∀ x:api_Auto,fv_api_Auto x=.agg [.sl (List.map enc_arr4_uint64 x.Sets),.sl (List.map enc_i64 x.Owner),.sl (List.map encs_i64 x.Follow),.sl (List.map enc_bool x.Ends),.sl (List.map encs_i64 x.Starts)])∧
 (∀ x:api_Auto,av_api_Auto x=.agg [vL enc_arr4_uint64 x.Sets,vL enc_i64 x.Owner,vL encs_i64 x.Follow,vL enc_bool x.Ends,vL encs_i64 x.Starts])∧
 (∀ x:api_Auto,ao_api_Auto x=.agg [oL 33 enc_arr4_uint64 x.Sets,oL 3 enc_i64 x.Owner,oL 30 encs_i64 x.Follow,oL 4 enc_bool x.Ends,oL 30 encs_i64 x.Starts])∧
 (∀ x:hecklelaw03_Maker,enc_hecklelaw03_Maker x=.agg [.sl (List.map enc_u8 x.L),.pv (.int .i64 x.At)])∧
 (∀ x:hecklelaw03_Maker,fv_hecklelaw03_Maker x=.agg [.sl (List.map enc_u8 x.L),.pv (.int .i64 x.At)])∧
 (∀ x:hecklelaw03_Maker,av_hecklelaw03_Maker x=.agg [vL enc_u8 x.L,vI .i64 x.At])∧
 (∀ x:hecklelaw03_Maker,ao_hecklelaw03_Maker x=.agg [oL 5 enc_u8 x.L,vI .i64 x.At])∧
 (∀ x:auto_builder,enc_auto_builder x=.agg [.sl (List.map enc_arr4_uint64 x.Auto.Sets),.sl (List.map enc_i64 x.Auto.Owner),.sl (List.map encs_i64 x.Auto.Follow),.sl (List.map enc_bool x.Auto.Ends),.sl (List.map encs_i64 x.Auto.Starts)])∧
 (∀ x:auto_builder,fv_auto_builder x=.agg [.sl (List.map enc_arr4_uint64 x.Auto.Sets),.sl (List.map enc_i64 x.Auto.Owner),.sl (List.map encs_i64 x.Auto.Follow),.sl (List.map enc_bool x.Auto.Ends),.sl (List.map encs_i64 x.Auto.Starts)])∧
 (∀ x:auto_builder,av_auto_builder x=.agg [vL enc_arr4_uint64 x.Auto.Sets,vL enc_i64 x.Auto.Owner,vL encs_i64 x.Auto.Follow,vL enc_bool x.Auto.Ends,vL encs_i64 x.Auto.Starts])∧
 (∀ x:auto_builder,ao_auto_builder x=.agg [oL 33 enc_arr4_uint64 x.Auto.Sets,oL 3 enc_i64 x.Auto.Owner,oL 30 encs_i64 x.Auto.Follow,oL 4 enc_bool x.Auto.Ends,oL 30 encs_i64 x.Auto.Starts])∧
 (∀ x:rx_pattern,enc_rx_pattern x=.agg [.pv (.int .i64 x.Kind),.pv (.int .u64 x.Set.e0),.pv (.int .u64 x.Set.e1),.pv (.int .u64 x.Set.e2),.pv (.int .u64 x.Set.e3),.pv (.int .i64 x.Lo),.pv (.int .i64 x.Hi),.sl (List.map enc_api_Rx x.Kids)])∧
 (∀ x:rx_pattern,fv_rx_pattern x=.agg [.pv (.int .i64 x.Kind),.pv (.int .u64 x.Set.e0),.pv (.int .u64 x.Set.e1),.pv (.int .u64 x.Set.e2),.pv (.int .u64 x.Set.e3),.pv (.int .i64 x.Lo),.pv (.int .i64 x.Hi),.sl (List.map enc_api_Rx x.Kids)])∧
 (∀ x:rx_pattern,av_rx_pattern x=.agg [vI .i64 x.Kind,vI .u64 x.Set.e0,vI .u64 x.Set.e1,vI .u64 x.Set.e2,vI .u64 x.Set.e3,vI .i64 x.Lo,vI .i64 x.Hi,vL enc_api_Rx x.Kids])∧
 (∀ x:rx_pattern,ao_rx_pattern x=.agg [vI .i64 x.Kind,vI .u64 x.Set.e0,vI .u64 x.Set.e1,vI .u64 x.Set.e2,vI .u64 x.Set.e3,vI .i64 x.Lo,vI .i64 x.Hi,oL 36 enc_api_Rx x.Kids])∧
 (∀ x:api_Places,enc_api_Places x=.agg [.sl (List.map enc_arr4_uint64 x.Sets),.sl (List.map enc_i64 x.First),.sl (List.map enc_i64 x.Last),.sl (List.map encs_i64 x.Follow),.pv (.bool x.Null)])∧
 (∀ x:api_Places,fv_api_Places x=.agg [.sl (List.map enc_arr4_uint64 x.Sets),.sl (List.map enc_i64 x.First),.sl (List.map enc_i64 x.Last),.sl (List.map encs_i64 x.Follow),.pv (.bool x.Null)])∧
 (∀ x:api_Places,av_api_Places x=.agg [vL enc_arr4_uint64 x.Sets,vL enc_i64 x.First,vL enc_i64 x.Last,vL encs_i64 x.Follow,vB x.Null])∧
 (∀ x:api_Places,ao_api_Places x=.agg [oL 33 enc_arr4_uint64 x.Sets,oL 3 enc_i64 x.First,oL 3 enc_i64 x.Last,oL 30 encs_i64 x.Follow,vB x.Null])∧
 (∀ x:struct121,enc_struct121 x=.agg [])∧
 (∀ x:struct121,fv_struct121 x=.agg [])∧
 (∀ x:struct121,av_struct121 x=.agg [])∧
 (∀ x:struct121,ao_struct121 x=.agg [])∧
 (∀ x:spec_rule,enc_spec_rule x=.agg [.sl (List.map enc_i64 x.Conds),.pv (.bool x.All),.pv (.bool x.Bol),.pv (.int .i64 x.Rx.Kind),.pv (.int .u64 x.Rx.Set.e0),.pv (.int .u64 x.Rx.Set.e1),.pv (.int .u64 x.Rx.Set.e2),.pv (.int .u64 x.Rx.Set.e3),.pv (.int .i64 x.Rx.Lo),.pv (.int .i64 x.Rx.Hi),.sl (List.map enc_api_Rx x.Rx.Kids),.pv (.int .i64 x.Trail.Kind),.pv (.int .u64 x.Trail.Set.e0),.pv (.int .u64 x.Trail.Set.e1),.pv (.int .u64 x.Trail.Set.e2),.pv (.int .u64 x.Trail.Set.e3),.pv (.int .i64 x.Trail.Lo),.pv (.int .i64 x.Trail.Hi),.sl (List.map enc_api_Rx x.Trail.Kids),.pv (.bool x.Eof),.pv (.int .i64 x.Act),.pv (.int .i64 x.To)])∧
 (∀ x:spec_rule,fv_spec_rule x=.agg [.sl (List.map enc_i64 x.Conds),.pv (.bool x.All),.pv (.bool x.Bol),.pv (.int .i64 x.Rx.Kind),.pv (.int .u64 x.Rx.Set.e0),.pv (.int .u64 x.Rx.Set.e1),.pv (.int .u64 x.Rx.Set.e2),.pv (.int .u64 x.Rx.Set.e3),.pv (.int .i64 x.Rx.Lo),.pv (.int .i64 x.Rx.Hi),.sl (List.map enc_api_Rx x.Rx.Kids),.pv (.int .i64 x.Trail.Kind),.pv (.int .u64 x.Trail.Set.e0),.pv (.int .u64 x.Trail.Set.e1),.pv (.int .u64 x.Trail.Set.e2),.pv (.int .u64 x.Trail.Set.e3),.pv (.int .i64 x.Trail.Lo),.pv (.int .i64 x.Trail.Hi),.sl (List.map enc_api_Rx x.Trail.Kids),.pv (.bool x.Eof),.pv (.int .i64 x.Act),.pv (.int .i64 x.To)])∧
 (∀ x:spec_rule,av_spec_rule x=.agg [vL enc_i64 x.Conds,vB x.All,vB x.Bol,vI .i64 x.Rx.Kind,vI .u64 x.Rx.Set.e0,vI .u64 x.Rx.Set.e1,vI .u64 x.Rx.Set.e2,vI .u64 x.Rx.Set.e3,vI .i64 x.Rx.Lo,vI .i64 x.Rx.Hi,vL enc_api_Rx x.Rx.Kids,vI .i64 x.Trail.Kind,vI .u64 x.Trail.Set.e0,vI .u64 x.Trail.Set.e1,vI .u64 x.Trail.Set.e2,vI .u64 x.Trail.Set.e3,vI .i64 x.Trail.Lo,vI .i64 x.Trail.Hi,vL enc_api_Rx x.Trail.Kids,vB x.Eof,vI .i64 x.Act,vI .i64 x.To])∧
 (∀ x:spec_rule,ao_spec_rule x=.agg [oL 3 enc_i64 x.Conds,vB x.All,vB x.Bol,vI .i64 x.Rx.Kind,vI .u64 x.Rx.Set.e0,vI .u64 x.Rx.Set.e1,vI .u64 x.Rx.Set.e2,vI .u64 x.Rx.Set.e3,vI .i64 x.Rx.Lo,vI .i64 x.Rx.Hi,oL 36 enc_api_Rx x.Rx.Kids,vI .i64 x.Trail.Kind,vI .u64 x.Trail.Set.e0,vI .u64 x.Trail.Set.e1,vI .u64 x.Trail.Set.e2,vI .u64 x.Trail.Set.e3,vI .i64 x.Trail.Lo,vI .i64 x.Trail.Hi,oL 36 enc_api_Rx x.Trail.Kids,vB x.Eof,vI .i64 x.Act,vI .i64 x.To])∧
 (∀ x:place_builder,enc_place_builder x=.agg [.sl (List.map enc_arr4_uint64 x.sets),.sl (List.map encs_i64 x.follow)])∧
 (∀ x:place_builder,fv_place_builder x=.agg [.sl (List.map enc_arr4_uint64 x.sets),.sl (List.map encs_i64 x.follow)])∧
 (∀ x:place_builder,av_place_builder x=.agg [vL enc_arr4_uint64 x.sets,vL encs_i64 x.follow])∧
 (∀ x:place_builder,ao_place_builder x=.agg [oL 33 enc_arr4_uint64 x.sets,oL 30 encs_i64 x.follow])∧
 (∀ x:place_piece,enc_place_piece x=.agg [.sl (List.map enc_i64 x.first),.sl (List.map enc_i64 x.last),.pv (.bool x.null)])∧
 (∀ x:place_piece,fv_place_piece x=.agg [.sl (List.map enc_i64 x.first),.sl (List.map enc_i64 x.last),.pv (.bool x.null)])∧
 (∀ x:place_piece,av_place_piece x=.agg [vL enc_i64 x.first,vL enc_i64 x.last,vB x.null])∧
 (∀ x:place_piece,ao_place_piece x=.agg [oL 3 enc_i64 x.first,oL 3 enc_i64 x.last,vB x.null])∧
 (∀ x:arr2_int,enc_arr2_int x=.agg [.pv (.int .i64 x.e0),.pv (.int .i64 x.e1)])∧
 (∀ x:arr2_int,fv_arr2_int x=.agg [.pv (.int .i64 x.e0),.pv (.int .i64 x.e1)])∧
 (∀ x:arr2_int,av_arr2_int x=.agg [vI .i64 x.e0,vI .i64 x.e1])∧
 (∀ x:arr2_int,ao_arr2_int x=.agg [vI .i64 x.e0,vI .i64 x.e1])∧
 (∀ l:(List arr2_int),encs_arr2_int l=.sl (List.map enc_arr2_int l))∧
 (∀ l:(List place_piece),encs_place_piece l=.sl (List.map enc_place_piece l))∧
 (∀ n:Int,enc_u32 n=.pv (.int .u32 n))∧
 (∀ s:ByteArray,strElems s=List.map enc_u8 (strInts s)):=
 ⟨fun _=>rfl,fun _=>rfl,fun _=>rfl,enc_runtime_boundsError_eq,fun _=>rfl,fun _=>rfl,fun _=>rfl,fun _=>rfl,fun _=>rfl,enc_runtime_errorAddressString_eq,fun _=>rfl,fun _=>rfl,fun _=>rfl,fun _=>rfl,fun _=>rfl,enc_api_Cond_eq,fun _=>rfl,fun _=>rfl,fun _=>rfl,fun _=>rfl,fun _=>rfl,enc_arr4_uint64_eq,fun _=>rfl,fun _=>rfl,fun _=>rfl,enc_api_Rx_eq,fun _=>rfl,fun _=>rfl,fun _=>rfl,enc_api_Rule_eq,fun _=>rfl,fun _=>rfl,fun _=>rfl,fun _=>rfl,enc_api_Spec_eq,fun _=>rfl,fun _=>rfl,fun _=>rfl,fun _=>rfl,fun _=>rfl,fun _=>rfl,fun _=>rfl,enc_api_Auto_eq,fun _=>rfl,fun _=>rfl,fun _=>rfl,enc_hecklelaw03_Maker_eq,fun _=>rfl,fun _=>rfl,fun _=>rfl,enc_auto_builder_eq,fun _=>rfl,fun _=>rfl,fun _=>rfl,enc_rx_pattern_eq,fun _=>rfl,fun _=>rfl,fun _=>rfl,enc_api_Places_eq,fun _=>rfl,fun _=>rfl,fun _=>rfl,enc_struct121_eq,fun _=>rfl,fun _=>rfl,fun _=>rfl,enc_spec_rule_eq,fun _=>rfl,fun _=>rfl,fun _=>rfl,enc_place_builder_eq,fun _=>rfl,fun _=>rfl,fun _=>rfl,enc_place_piece_eq,fun _=>rfl,fun _=>rfl,fun _=>rfl,enc_arr2_int_eq,fun _=>rfl,fun _=>rfl,fun _=>rfl,fun _=>rfl,fun _=>rfl,fun _=>rfl,strElems_ints⟩
noncomputable def tyTab:List (Nat×TI):=[(1,⟨Try.t1.desc,1,8,Option.some (AV.f (FV.pv Value.nilFunc))⟩),
 (2,⟨Try.t2.desc,1,8,Option.some (AV.f (FV.pv (Value.int IntKind.i64 (0:Int))))⟩),
 (3,⟨Try.t3.desc,1,8,Option.some (AV.f (FV.pv (Value.int IntKind.i64 (0:Int))))⟩),
 (4,⟨Try.t4.desc,1,1,Option.some (AV.f (FV.pv (Value.bool Bool.false)))⟩),
 (5,⟨Try.t5.desc,1,1,Option.some (AV.f (FV.pv (Value.int IntKind.u8 (0:Int))))⟩),
 (7,⟨Try.t7.desc,4,24,Option.some (AV.agg [AV.f (FV.pv (Value.int IntKind.i64 (0:Int))),AV.f (FV.pv (Value.int IntKind.i64 (0:Int))),AV.f (FV.pv (Value.bool Bool.false)),AV.f (FV.pv (Value.int IntKind.u8 (0:Int)))])⟩),
 (9,⟨Try.t9.desc,1,16,Option.some (AV.f (FV.pv (Value.string { data:=#[] })))⟩),
 (12,⟨Try.t12.desc,1,8,Option.some (AV.f (FV.pv (Value.int IntKind.u64 (0:Int))))⟩),
 (13,⟨Try.t13.desc,2,24,Option.some (AV.agg [AV.f (FV.pv (Value.string { data:=#[] })),AV.f (FV.pv (Value.int IntKind.u64 (0:Int)))])⟩),
 (18,⟨Try.t18.desc,1,8,Option.some (AV.agg [AV.f (FV.pv (Value.pointer Option.none))])⟩),
 (21,⟨Try.t21.desc,1,4,Option.some (AV.f (FV.pv (Value.int IntKind.i32 (0:Int))))⟩),
 (22,⟨Try.t22.desc,1,24,Option.some (AV.own (5:Nat) [])⟩),
 (23,⟨Try.t23.desc,1,24,Option.some (AV.own (69:Nat) [])⟩),
 (24,⟨Try.t24.desc,1,24,Option.some (AV.own (38:Nat) [])⟩),
 (25,⟨Try.t25.desc,3,56,Option.some (AV.agg [AV.own (69:Nat) [],AV.f (FV.pv (Value.bool Bool.false)),AV.own (38:Nat) []])⟩),
 (26,⟨Try.t25.desc,3,56,Option.some (AV.agg [AV.own (69:Nat) [],AV.f (FV.pv (Value.bool Bool.false)),AV.own (38:Nat) []])⟩),
 (27,⟨Try.t27.desc,1,8,Option.some (AV.f (FV.pv Value.nilFunc))⟩),
 (28,⟨Try.t28.desc,1,8,Option.some (AV.f (FV.pv Value.nilFunc))⟩),
 (29,⟨Try.t29.desc,1,8,Option.some (AV.f (FV.pv Value.nilFunc))⟩),
 (30,⟨Try.t30.desc,1,24,Option.some (AV.own (3:Nat) [])⟩),
 (31,⟨Try.t31.desc,1,8,Option.some (AV.f (FV.pv (Value.int IntKind.u64 (0:Int))))⟩),
 (32,⟨Try.t32.desc,4,32,Option.some (AV.agg [AV.f (FV.pv (Value.int IntKind.u64 (0:Int))),AV.f (FV.pv (Value.int IntKind.u64 (0:Int))),AV.f (FV.pv (Value.int IntKind.u64 (0:Int))),AV.f (FV.pv (Value.int IntKind.u64 (0:Int)))])⟩),
 (33,⟨Try.t32.desc,4,32,Option.some (AV.agg [AV.f (FV.pv (Value.int IntKind.u64 (0:Int))),AV.f (FV.pv (Value.int IntKind.u64 (0:Int))),AV.f (FV.pv (Value.int IntKind.u64 (0:Int))),AV.f (FV.pv (Value.int IntKind.u64 (0:Int)))])⟩),
 (34,⟨Try.t34.desc,1,24,Option.some (AV.own (36:Nat) [])⟩),
 (35,⟨Try.t35.desc,8,80,Option.some (AV.agg [AV.f (FV.pv (Value.int IntKind.i64 (0:Int))),AV.f (FV.pv (Value.int IntKind.u64 (0:Int))),AV.f (FV.pv (Value.int IntKind.u64 (0:Int))),AV.f (FV.pv (Value.int IntKind.u64 (0:Int))),AV.f (FV.pv (Value.int IntKind.u64 (0:Int))),AV.f (FV.pv (Value.int IntKind.i64 (0:Int))),AV.f (FV.pv (Value.int IntKind.i64 (0:Int))),AV.own (36:Nat) []])⟩),
 (36,⟨Try.t35.desc,8,80,Option.some (AV.agg [AV.f (FV.pv (Value.int IntKind.i64 (0:Int))),AV.f (FV.pv (Value.int IntKind.u64 (0:Int))),AV.f (FV.pv (Value.int IntKind.u64 (0:Int))),AV.f (FV.pv (Value.int IntKind.u64 (0:Int))),AV.f (FV.pv (Value.int IntKind.u64 (0:Int))),AV.f (FV.pv (Value.int IntKind.i64 (0:Int))),AV.f (FV.pv (Value.int IntKind.i64 (0:Int))),AV.own (36:Nat) []])⟩),
 (37,⟨Try.t37.desc,22,216,Option.some (AV.agg [AV.own (3:Nat) [],AV.f (FV.pv (Value.bool Bool.false)),AV.f (FV.pv (Value.bool Bool.false)),AV.f (FV.pv (Value.int IntKind.i64 (0:Int))),AV.f (FV.pv (Value.int IntKind.u64 (0:Int))),AV.f (FV.pv (Value.int IntKind.u64 (0:Int))),AV.f (FV.pv (Value.int IntKind.u64 (0:Int))),AV.f (FV.pv (Value.int IntKind.u64 (0:Int))),AV.f (FV.pv (Value.int IntKind.i64 (0:Int))),AV.f (FV.pv (Value.int IntKind.i64 (0:Int))),AV.own (36:Nat) [],AV.f (FV.pv (Value.int IntKind.i64 (0:Int))),AV.f (FV.pv (Value.int IntKind.u64 (0:Int))),AV.f (FV.pv (Value.int IntKind.u64 (0:Int))),AV.f (FV.pv (Value.int IntKind.u64 (0:Int))),AV.f (FV.pv (Value.int IntKind.u64 (0:Int))),AV.f (FV.pv (Value.int IntKind.i64 (0:Int))),AV.f (FV.pv (Value.int IntKind.i64 (0:Int))),AV.own (36:Nat) [],AV.f (FV.pv (Value.bool Bool.false)),AV.f (FV.pv (Value.int IntKind.i64 (0:Int))),AV.f (FV.pv (Value.int IntKind.i64 (0:Int)))])⟩),
 (38,⟨Try.t37.desc,22,216,Option.some (AV.agg [AV.own (3:Nat) [],AV.f (FV.pv (Value.bool Bool.false)),AV.f (FV.pv (Value.bool Bool.false)),AV.f (FV.pv (Value.int IntKind.i64 (0:Int))),AV.f (FV.pv (Value.int IntKind.u64 (0:Int))),AV.f (FV.pv (Value.int IntKind.u64 (0:Int))),AV.f (FV.pv (Value.int IntKind.u64 (0:Int))),AV.f (FV.pv (Value.int IntKind.u64 (0:Int))),AV.f (FV.pv (Value.int IntKind.i64 (0:Int))),AV.f (FV.pv (Value.int IntKind.i64 (0:Int))),AV.own (36:Nat) [],AV.f (FV.pv (Value.int IntKind.i64 (0:Int))),AV.f (FV.pv (Value.int IntKind.u64 (0:Int))),AV.f (FV.pv (Value.int IntKind.u64 (0:Int))),AV.f (FV.pv (Value.int IntKind.u64 (0:Int))),AV.f (FV.pv (Value.int IntKind.u64 (0:Int))),AV.f (FV.pv (Value.int IntKind.i64 (0:Int))),AV.f (FV.pv (Value.int IntKind.i64 (0:Int))),AV.own (36:Nat) [],AV.f (FV.pv (Value.bool Bool.false)),AV.f (FV.pv (Value.int IntKind.i64 (0:Int))),AV.f (FV.pv (Value.int IntKind.i64 (0:Int)))])⟩),
 (39,⟨Try.t39.desc,1,8,Option.some (AV.f (FV.pv Value.nilFunc))⟩),
 (40,⟨Try.t40.desc,1,8,Option.some (AV.f (FV.pv Value.nilFunc))⟩),
 (41,⟨Try.t41.desc,1,8,Option.some (AV.f (FV.pv Value.nilFunc))⟩),
 (42,⟨Try.t3.desc,1,8,Option.some (AV.f (FV.pv (Value.int IntKind.i64 (0:Int))))⟩),
 (44,⟨Try.t44.desc,1,8,Option.some (AV.f (FV.pv Value.nilFunc))⟩),
 (45,⟨Try.t45.desc,1,8,Option.some (AV.f (FV.pv Value.nilFunc))⟩),
 (46,⟨Try.t46.desc,1,8,Option.some (AV.f (FV.pv Value.nilFunc))⟩),
 (47,⟨Try.t47.desc,1,8,Option.some (AV.f (FV.pv Value.nilFunc))⟩),
 (48,⟨Try.t48.desc,1,8,Option.some (AV.f (FV.pv Value.nilFunc))⟩),
 (49,⟨Try.t49.desc,1,24,Option.some (AV.own (4:Nat) [])⟩),
 (50,⟨Try.t50.desc,1,8,Option.some (AV.f (FV.pv Value.nilFunc))⟩),
 (51,⟨Try.t51.desc,1,8,Option.some (AV.f (FV.pv Value.nilFunc))⟩),
 (52,⟨Try.t52.desc,1,24,Option.some (AV.own (33:Nat) [])⟩),
 (53,⟨Try.t53.desc,1,24,Option.some (AV.own (30:Nat) [])⟩),
 (54,⟨Try.t54.desc,5,120,Option.some (AV.agg [AV.own (33:Nat) [],AV.own (3:Nat) [],AV.own (30:Nat) [],AV.own (4:Nat) [],AV.own (30:Nat) []])⟩),
 (55,⟨Try.t54.desc,5,120,Option.some (AV.agg [AV.own (33:Nat) [],AV.own (3:Nat) [],AV.own (30:Nat) [],AV.own (4:Nat) [],AV.own (30:Nat) []])⟩),
 (56,⟨Try.t56.desc,1,8,Option.some (AV.f (FV.pv Value.nilFunc))⟩),
 (58,⟨Try.t58.desc,1,8,Option.some (AV.f (FV.pv Value.nilFunc))⟩),
 (59,⟨Try.t59.desc,1,8,Option.some (AV.f (FV.pv Value.nilFunc))⟩),
 (61,⟨Try.t61.desc,1,8,Option.some (AV.f (FV.pv Value.nilFunc))⟩),
 (62,⟨Try.t62.desc,1,8,Option.some (AV.f (FV.pv Value.nilFunc))⟩),
 (63,⟨Try.t63.desc,1,8,Option.some (AV.f (FV.pv Value.nilFunc))⟩),
 (64,⟨Try.t64.desc,1,8,Option.some (AV.f (FV.pv (Value.pointer Option.none)))⟩),
 (65,⟨Try.t65.desc,2,32,Option.some (AV.agg [AV.own (5:Nat) [],AV.f (FV.pv (Value.int IntKind.i64 (0:Int)))])⟩),
 (66,⟨Try.t65.desc,2,32,Option.some (AV.agg [AV.own (5:Nat) [],AV.f (FV.pv (Value.int IntKind.i64 (0:Int)))])⟩),
 (67,⟨Try.t67.desc,1,8,Option.some (AV.f (FV.pv Value.nilFunc))⟩),
 (68,⟨Try.t68.desc,2,24,Option.some (AV.agg [AV.f (FV.pv (Value.string { data:=#[] })),AV.f (FV.pv (Value.bool Bool.false))])⟩),
 (69,⟨Try.t68.desc,2,24,Option.some (AV.agg [AV.f (FV.pv (Value.string { data:=#[] })),AV.f (FV.pv (Value.bool Bool.false))])⟩),
 (70,⟨Try.t70.desc,1,8,Option.some (AV.f (FV.pv Value.nilFunc))⟩),
 (71,⟨Try.t71.desc,1,8,Option.some (AV.f (FV.pv Value.nilFunc))⟩),
 (72,⟨Try.t72.desc,1,8,Option.some (AV.f (FV.pv Value.nilFunc))⟩),
 (73,⟨Try.t73.desc,1,8,Option.some (AV.f (FV.pv Value.nilFunc))⟩),
 (74,⟨Try.t74.desc,1,8,Option.some (AV.f (FV.pv Value.nilFunc))⟩),
 (75,⟨Try.t75.desc,1,8,Option.some (AV.f (FV.pv Value.nilFunc))⟩),
 (76,⟨Try.t76.desc,1,8,Option.some (AV.f (FV.pv Value.nilFunc))⟩),
 (77,⟨Try.t77.desc,1,8,Option.some (AV.f (FV.pv Value.nilFunc))⟩),
 (78,⟨Try.t78.desc,1,8,Option.some (AV.f (FV.pv Value.nilFunc))⟩),
 (79,⟨Try.t79.desc,1,8,Option.some (AV.f (FV.pv Value.nilFunc))⟩),
 (80,⟨Try.t80.desc,1,8,Option.some (AV.f (FV.pv Value.nilFunc))⟩),
 (81,⟨Try.t81.desc,1,8,Option.some (AV.f (FV.pv Value.nilFunc))⟩),
 (82,⟨Try.t82.desc,1,8,Option.some (AV.f (FV.pv Value.nilFunc))⟩),
 (83,⟨Try.t83.desc,1,8,Option.some (AV.f (FV.pv Value.nilFunc))⟩),
 (84,⟨Try.t84.desc,1,8,Option.some (AV.f (FV.pv Value.nilFunc))⟩),
 (85,⟨Try.t84.desc,1,8,Option.some (AV.f (FV.pv Value.nilFunc))⟩),
 (86,⟨Try.t86.desc,1,8,Option.some (AV.f (FV.pv Value.nilFunc))⟩),
 (87,⟨Try.t87.desc,1,8,Option.some (AV.f (FV.pv Value.nilFunc))⟩),
 (89,⟨Try.t89.desc,1,8,Option.some (AV.f (FV.pv Value.nilFunc))⟩),
 (90,⟨Try.t90.desc,1,8,Option.some (AV.f (FV.pv Value.nilFunc))⟩),
 (91,⟨Try.t91.desc,1,8,Option.some (AV.f (FV.pv Value.nilFunc))⟩),
 (92,⟨Try.t92.desc,1,8,Option.some (AV.f (FV.pv Value.nilFunc))⟩),
 (93,⟨Try.t93.desc,1,8,Option.some (AV.f (FV.pv (Value.pointer Option.none)))⟩),
 (94,⟨Try.t94.desc,5,120,Option.some (AV.agg [AV.own (33:Nat) [],AV.own (3:Nat) [],AV.own (30:Nat) [],AV.own (4:Nat) [],AV.own (30:Nat) []])⟩),
 (95,⟨Try.t94.desc,5,120,Option.some (AV.agg [AV.own (33:Nat) [],AV.own (3:Nat) [],AV.own (30:Nat) [],AV.own (4:Nat) [],AV.own (30:Nat) []])⟩),
 (96,⟨Try.t96.desc,1,8,Option.some (AV.f (FV.pv Value.nilFunc))⟩),
 (97,⟨Try.t97.desc,1,8,Option.some (AV.f (FV.pv Value.nilFunc))⟩),
 (98,⟨Try.t98.desc,1,8,Option.some (AV.f (FV.pv Value.nilFunc))⟩),
 (99,⟨Try.t35.desc,8,80,Option.some (AV.agg [AV.f (FV.pv (Value.int IntKind.i64 (0:Int))),AV.f (FV.pv (Value.int IntKind.u64 (0:Int))),AV.f (FV.pv (Value.int IntKind.u64 (0:Int))),AV.f (FV.pv (Value.int IntKind.u64 (0:Int))),AV.f (FV.pv (Value.int IntKind.u64 (0:Int))),AV.f (FV.pv (Value.int IntKind.i64 (0:Int))),AV.f (FV.pv (Value.int IntKind.i64 (0:Int))),AV.own (36:Nat) []])⟩),
 (100,⟨Try.t100.desc,5,104,Option.some (AV.agg [AV.own (33:Nat) [],AV.own (3:Nat) [],AV.own (3:Nat) [],AV.own (30:Nat) [],AV.f (FV.pv (Value.bool Bool.false))])⟩),
 (101,⟨Try.t100.desc,5,104,Option.some (AV.agg [AV.own (33:Nat) [],AV.own (3:Nat) [],AV.own (3:Nat) [],AV.own (30:Nat) [],AV.f (FV.pv (Value.bool Bool.false))])⟩),
 (103,⟨Try.t103.desc,1,8,Option.some (AV.f (FV.pv Value.nilFunc))⟩),
 (104,⟨Try.t104.desc,1,8,Option.some (AV.f (FV.pv Value.nilFunc))⟩),
 (105,⟨Try.t105.desc,1,8,Option.some (AV.f (FV.pv Value.nilFunc))⟩),
 (106,⟨Try.t105.desc,1,8,Option.some (AV.f (FV.pv Value.nilFunc))⟩),
 (107,⟨Try.t107.desc,1,8,Option.some (AV.f (FV.pv Value.nilFunc))⟩),
 (108,⟨Try.t108.desc,1,8,Option.some (AV.f (FV.pv Value.nilFunc))⟩),
 (109,⟨Try.t109.desc,1,8,Option.some (AV.f (FV.pv Value.nilFunc))⟩),
 (110,⟨Try.t110.desc,1,8,Option.some (AV.f (FV.pv Value.nilFunc))⟩),
 (111,⟨Try.t111.desc,1,8,Option.some (AV.f (FV.pv Value.nilFunc))⟩),
 (112,⟨Try.t112.desc,1,8,Option.some (AV.f (FV.pv Value.nilFunc))⟩),
 (113,⟨Try.t113.desc,1,8,Option.some (AV.f (FV.pv Value.nilFunc))⟩),
 (114,⟨Try.t114.desc,1,8,Option.some (AV.f (FV.pv Value.nilFunc))⟩),
 (115,⟨Try.t115.desc,1,8,Option.some (AV.f (FV.pv Value.nilFunc))⟩),
 (116,⟨Try.t116.desc,1,8,Option.some (AV.f (FV.pv Value.nilFunc))⟩),
 (117,⟨Try.t117.desc,1,8,Option.some (AV.f (FV.pv Value.nilFunc))⟩),
 (118,⟨Try.t118.desc,1,8,Option.some (AV.f (FV.pv Value.nilFunc))⟩),
 (120,⟨Try.t120.desc,1,8,Option.some (AV.f (FV.pv Value.nilFunc))⟩),
 (121,⟨Try.t121.desc,0,0,Option.some (AV.agg [])⟩),
 (122,⟨Try.t37.desc,22,216,Option.some (AV.agg [AV.own (3:Nat) [],AV.f (FV.pv (Value.bool Bool.false)),AV.f (FV.pv (Value.bool Bool.false)),AV.f (FV.pv (Value.int IntKind.i64 (0:Int))),AV.f (FV.pv (Value.int IntKind.u64 (0:Int))),AV.f (FV.pv (Value.int IntKind.u64 (0:Int))),AV.f (FV.pv (Value.int IntKind.u64 (0:Int))),AV.f (FV.pv (Value.int IntKind.u64 (0:Int))),AV.f (FV.pv (Value.int IntKind.i64 (0:Int))),AV.f (FV.pv (Value.int IntKind.i64 (0:Int))),AV.own (36:Nat) [],AV.f (FV.pv (Value.int IntKind.i64 (0:Int))),AV.f (FV.pv (Value.int IntKind.u64 (0:Int))),AV.f (FV.pv (Value.int IntKind.u64 (0:Int))),AV.f (FV.pv (Value.int IntKind.u64 (0:Int))),AV.f (FV.pv (Value.int IntKind.u64 (0:Int))),AV.f (FV.pv (Value.int IntKind.i64 (0:Int))),AV.f (FV.pv (Value.int IntKind.i64 (0:Int))),AV.own (36:Nat) [],AV.f (FV.pv (Value.bool Bool.false)),AV.f (FV.pv (Value.int IntKind.i64 (0:Int))),AV.f (FV.pv (Value.int IntKind.i64 (0:Int)))])⟩),
 (123,⟨Try.t123.desc,1,8,Option.some (AV.f (FV.pv Value.nilFunc))⟩),
 (124,⟨Try.t124.desc,1,8,Option.some (AV.f (FV.pv Value.nilFunc))⟩),
 (126,⟨Try.t126.desc,1,8,Option.some (AV.f (FV.pv Value.nilFunc))⟩),
 (127,⟨Try.t127.desc,1,8,Option.some (AV.f (FV.pv Value.nilFunc))⟩),
 (128,⟨Try.t128.desc,1,8,Option.some (AV.f (FV.pv Value.nilFunc))⟩),
 (129,⟨Try.t129.desc,1,8,Option.some (AV.f (FV.pv (Value.pointer Option.none)))⟩),
 (130,⟨Try.t130.desc,2,48,Option.some (AV.agg [AV.own (33:Nat) [],AV.own (30:Nat) []])⟩),
 (131,⟨Try.t130.desc,2,48,Option.some (AV.agg [AV.own (33:Nat) [],AV.own (30:Nat) []])⟩),
 (132,⟨Try.t132.desc,3,56,Option.some (AV.agg [AV.own (3:Nat) [],AV.own (3:Nat) [],AV.f (FV.pv (Value.bool Bool.false))])⟩),
 (133,⟨Try.t132.desc,3,56,Option.some (AV.agg [AV.own (3:Nat) [],AV.own (3:Nat) [],AV.f (FV.pv (Value.bool Bool.false))])⟩),
 (134,⟨Try.t134.desc,1,8,Option.some (AV.f (FV.pv Value.nilFunc))⟩),
 (135,⟨Try.t135.desc,1,8,Option.some (AV.f (FV.pv Value.nilFunc))⟩),
 (136,⟨Try.t136.desc,1,8,Option.some (AV.f (FV.pv Value.nilFunc))⟩),
 (137,⟨Try.t137.desc,1,8,Option.some (AV.f (FV.pv Value.nilFunc))⟩),
 (138,⟨Try.t138.desc,1,8,Option.some (AV.f (FV.pv Value.nilFunc))⟩),
 (139,⟨Try.t138.desc,1,8,Option.some (AV.f (FV.pv Value.nilFunc))⟩),
 (140,⟨Try.t140.desc,1,8,Option.some (AV.f (FV.pv Value.nilFunc))⟩),
 (141,⟨Try.t141.desc,1,8,Option.some (AV.f (FV.pv Value.nilFunc))⟩),
 (142,⟨Try.t142.desc,1,8,Option.some (AV.f (FV.pv Value.nilFunc))⟩),
 (143,⟨Try.t143.desc,1,24,Option.some (AV.own (145:Nat) [])⟩),
 (144,⟨Try.t144.desc,1,8,Option.some (AV.f (FV.pv Value.nilFunc))⟩),
 (145,⟨Try.t145.desc,2,16,Option.some (AV.agg [AV.f (FV.pv (Value.int IntKind.i64 (0:Int))),AV.f (FV.pv (Value.int IntKind.i64 (0:Int)))])⟩),
 (146,⟨Try.t146.desc,1,8,Option.some (AV.f (FV.pv Value.nilFunc))⟩),
 (147,⟨Try.t147.desc,1,8,Option.some (AV.f (FV.pv Value.nilFunc))⟩),
 (148,⟨Try.t148.desc,1,8,Option.some (AV.f (FV.pv Value.nilFunc))⟩),
 (149,⟨Try.t149.desc,1,8,Option.some (AV.f (FV.pv Value.nilFunc))⟩),
 (150,⟨Try.t150.desc,1,8,Option.some (AV.f (FV.pv Value.nilFunc))⟩),
 (151,⟨Try.t151.desc,1,8,Option.some (AV.f (FV.pv Value.nilFunc))⟩),
 (152,⟨Try.t152.desc,1,8,Option.some (AV.f (FV.pv Value.nilFunc))⟩),
 (153,⟨Try.t153.desc,1,8,Option.some (AV.f (FV.pv Value.nilFunc))⟩),
 (154,⟨Try.t154.desc,1,8,Option.some (AV.f (FV.pv Value.nilFunc))⟩),
 (155,⟨Try.t155.desc,1,8,Option.some (AV.f (FV.pv Value.nilFunc))⟩),
 (156,⟨Try.t156.desc,1,8,Option.some (AV.f (FV.pv (Value.int IntKind.u64 (0:Int))))⟩),
 (157,⟨Try.t157.desc,1,8,Option.some (AV.f (FV.pv Value.nilFunc))⟩),
 (158,⟨Try.t158.desc,1,8,Option.some (AV.f (FV.pv Value.nilFunc))⟩),
 (159,⟨Try.t159.desc,1,24,Option.some (AV.own (133:Nat) [])⟩),
 (160,⟨Try.t160.desc,1,8,Option.some (AV.f (FV.pv Value.nilFunc))⟩),
 (161,⟨Try.t161.desc,1,8,Option.some (AV.f (FV.pv (Value.pointer Option.none)))⟩),
 (162,⟨Try.t162.desc,1,8,Option.some (AV.f (FV.pv Value.nilFunc))⟩),
 (163,⟨Try.t162.desc,1,8,Option.some (AV.f (FV.pv Value.nilFunc))⟩),
 (164,⟨Try.t164.desc,1,8,Option.some (AV.f (FV.pv Value.nilFunc))⟩),
 (165,⟨Try.t165.desc,1,8,Option.some (AV.f (FV.pv Value.nilFunc))⟩),
 (166,⟨Try.t166.desc,1,8,Option.some (AV.f (FV.pv Value.nilFunc))⟩),
 (167,⟨Try.t3.desc,1,8,Option.some (AV.f (FV.pv (Value.int IntKind.i64 (0:Int))))⟩),
 (169,⟨Try.t169.desc,1,8,Option.some (AV.f (FV.pv Value.nilFunc))⟩),
 (170,⟨Try.t170.desc,1,8,Option.some (AV.f (FV.pv Value.nilFunc))⟩),
 (171,⟨Try.t171.desc,1,8,Option.some (AV.f (FV.pv Value.nilFunc))⟩),
 (172,⟨Try.t172.desc,1,8,Option.some (AV.f (FV.pv Value.nilFunc))⟩),
 (174,⟨Try.t174.desc,1,8,Option.some (AV.f (FV.pv Value.nilFunc))⟩),
 (175,⟨Try.t175.desc,1,8,Option.some (AV.f (FV.pv Value.nilFunc))⟩),
 (176,⟨Try.t176.desc,1,4,Option.some (AV.f (FV.pv (Value.int IntKind.u32 (0:Int))))⟩),
 (177,⟨Try.t177.desc,1,8,Option.some (AV.f (FV.pv Value.nilFunc))⟩),
 (178,⟨Try.t178.desc,1,8,Option.some (AV.f (FV.pv Value.nilFunc))⟩),
 (179,⟨Try.t31.desc,1,8,Option.some (AV.f (FV.pv (Value.int IntKind.u64 (0:Int))))⟩),
 (180,⟨Try.t180.desc,1,8,Option.some (AV.f (FV.pv Value.nilFunc))⟩),
 (181,⟨Try.t181.desc,1,8,Option.some (AV.f (FV.pv Value.nilFunc))⟩),
 (182,⟨Try.t182.desc,1,8,Option.some (AV.f (FV.pv Value.nilFunc))⟩),
 (183,⟨Try.t183.desc,1,8,Option.some (AV.f (FV.pv (Value.pointer Option.none)))⟩),
 (184,⟨Try.t184.desc,1,8,Option.some (AV.f (FV.pv Value.nilFunc))⟩),
 (185,⟨Try.t185.desc,1,8,Option.some (AV.f (FV.pv (Value.pointer Option.none)))⟩),
 (186,⟨Try.t186.desc,1,8,Option.some (AV.f (FV.pv Value.nilFunc))⟩),
 (187,⟨Try.t187.desc,1,8,Option.some (AV.f (FV.pv Value.nilFunc))⟩),
 (188,⟨Try.t188.desc,4,40,Option.some (AV.agg [AV.f (FV.pv (Value.pointer Option.none)),AV.f (FV.pv (Value.pointer Option.none)),AV.f (FV.pv (Value.pointer Option.none)),AV.f (FV.pv (Value.string { data:=#[] }))])⟩),
 (190,⟨Try.t190.desc,0,0,Option.some (AV.agg [])⟩),
 (191,⟨Try.t191.desc,0,0,Option.some (AV.agg [])⟩),
 (193,⟨Try.t193.desc,1,8,Option.some (AV.f (FV.pv Value.nilFunc))⟩),
 (196,⟨Try.t196.desc,1,8,Option.some (AV.f (FV.pv Value.nilFunc))⟩),
 (197,⟨Try.t197.desc,1,8,Option.some (AV.f (FV.pv (Value.pointer Option.none)))⟩),
 (200,⟨Try.t200.desc,11,48,Option.some (AV.agg [AV.f (FV.pv (Value.int IntKind.u64 (0:Int))),AV.f (FV.pv (Value.int IntKind.u64 (0:Int))),AV.f (FV.pv (Value.int IntKind.u32 (0:Int))),AV.f (FV.pv (Value.int IntKind.u8 (0:Int))),AV.f (FV.pv (Value.int IntKind.u8 (0:Int))),AV.f (FV.pv (Value.int IntKind.u8 (0:Int))),AV.f (FV.pv (Value.int IntKind.u8 (0:Int))),AV.f (FV.pv Value.nilFunc),AV.f (FV.pv (Value.pointer Option.none)),AV.f (FV.pv (Value.int IntKind.i32 (0:Int))),AV.f (FV.pv (Value.int IntKind.i32 (0:Int)))])⟩)]
theorem tyTab_ok:TabOk Try.prog tyTab:=⟨tiOf_eq Try.underlying1 Try.type1 (by kernel_rfl),
 ⟨tiOf_eq Try.underlying2 Try.type2 (by kernel_rfl),
 ⟨tiOf_eq Try.underlying3 Try.type3 (by kernel_rfl),
 ⟨tiOf_eq Try.underlying4 Try.type4 (by kernel_rfl),
 ⟨tiOf_eq Try.underlying5 Try.type5 (by kernel_rfl),
 ⟨tiOf_eq Try.underlying7 Try.type7 (by kernel_rfl),
 ⟨tiOf_eq Try.underlying9 Try.type9 (by kernel_rfl),
 ⟨tiOf_eq Try.underlying12 Try.type12 (by kernel_rfl),
 ⟨tiOf_eq Try.underlying13 Try.type13 (by kernel_rfl),
 ⟨tiOf_eq Try.underlying18 Try.type18 (by kernel_rfl),
 ⟨tiOf_eq Try.underlying21 Try.type21 (by kernel_rfl),
 ⟨tiOf_eq Try.underlying22 Try.type22 (by kernel_rfl),
 ⟨tiOf_eq Try.underlying23 Try.type23 (by kernel_rfl),
 ⟨tiOf_eq Try.underlying24 Try.type24 (by kernel_rfl),
 ⟨tiOf_eq Try.underlying25 Try.type25 (by kernel_rfl),
 ⟨tiOf_eq Try.underlying26 Try.type26 (by kernel_rfl),
 ⟨tiOf_eq Try.underlying27 Try.type27 (by kernel_rfl),
 ⟨tiOf_eq Try.underlying28 Try.type28 (by kernel_rfl),
 ⟨tiOf_eq Try.underlying29 Try.type29 (by kernel_rfl),
 ⟨tiOf_eq Try.underlying30 Try.type30 (by kernel_rfl),
 ⟨tiOf_eq Try.underlying31 Try.type31 (by kernel_rfl),
 ⟨tiOf_eq Try.underlying32 Try.type32 (by kernel_rfl),
 ⟨tiOf_eq Try.underlying33 Try.type33 (by kernel_rfl),
 ⟨tiOf_eq Try.underlying34 Try.type34 (by kernel_rfl),
 ⟨tiOf_eq Try.underlying35 Try.type35 (by kernel_rfl),
 ⟨tiOf_eq Try.underlying36 Try.type36 (by kernel_rfl),
 ⟨tiOf_eq Try.underlying37 Try.type37 (by kernel_rfl),
 ⟨tiOf_eq Try.underlying38 Try.type38 (by kernel_rfl),
 ⟨tiOf_eq Try.underlying39 Try.type39 (by kernel_rfl),
 ⟨tiOf_eq Try.underlying40 Try.type40 (by kernel_rfl),
 ⟨tiOf_eq Try.underlying41 Try.type41 (by kernel_rfl),
 ⟨tiOf_eq Try.underlying42 Try.type42 (by kernel_rfl),
 ⟨tiOf_eq Try.underlying44 Try.type44 (by kernel_rfl),
 ⟨tiOf_eq Try.underlying45 Try.type45 (by kernel_rfl),
 ⟨tiOf_eq Try.underlying46 Try.type46 (by kernel_rfl),
 ⟨tiOf_eq Try.underlying47 Try.type47 (by kernel_rfl),
 ⟨tiOf_eq Try.underlying48 Try.type48 (by kernel_rfl),
 ⟨tiOf_eq Try.underlying49 Try.type49 (by kernel_rfl),
 ⟨tiOf_eq Try.underlying50 Try.type50 (by kernel_rfl),
 ⟨tiOf_eq Try.underlying51 Try.type51 (by kernel_rfl),
 ⟨tiOf_eq Try.underlying52 Try.type52 (by kernel_rfl),
 ⟨tiOf_eq Try.underlying53 Try.type53 (by kernel_rfl),
 ⟨tiOf_eq Try.underlying54 Try.type54 (by kernel_rfl),
 ⟨tiOf_eq Try.underlying55 Try.type55 (by kernel_rfl),
 ⟨tiOf_eq Try.underlying56 Try.type56 (by kernel_rfl),
 ⟨tiOf_eq Try.underlying58 Try.type58 (by kernel_rfl),
 ⟨tiOf_eq Try.underlying59 Try.type59 (by kernel_rfl),
 ⟨tiOf_eq Try.underlying61 Try.type61 (by kernel_rfl),
 ⟨tiOf_eq Try.underlying62 Try.type62 (by kernel_rfl),
 ⟨tiOf_eq Try.underlying63 Try.type63 (by kernel_rfl),
 ⟨tiOf_eq Try.underlying64 Try.type64 (by kernel_rfl),
 ⟨tiOf_eq Try.underlying65 Try.type65 (by kernel_rfl),
 ⟨tiOf_eq Try.underlying66 Try.type66 (by kernel_rfl),
 ⟨tiOf_eq Try.underlying67 Try.type67 (by kernel_rfl),
 ⟨tiOf_eq Try.underlying68 Try.type68 (by kernel_rfl),
 ⟨tiOf_eq Try.underlying69 Try.type69 (by kernel_rfl),
 ⟨tiOf_eq Try.underlying70 Try.type70 (by kernel_rfl),
 ⟨tiOf_eq Try.underlying71 Try.type71 (by kernel_rfl),
 ⟨tiOf_eq Try.underlying72 Try.type72 (by kernel_rfl),
 ⟨tiOf_eq Try.underlying73 Try.type73 (by kernel_rfl),
 ⟨tiOf_eq Try.underlying74 Try.type74 (by kernel_rfl),
 ⟨tiOf_eq Try.underlying75 Try.type75 (by kernel_rfl),
 ⟨tiOf_eq Try.underlying76 Try.type76 (by kernel_rfl),
 ⟨tiOf_eq Try.underlying77 Try.type77 (by kernel_rfl),
 ⟨tiOf_eq Try.underlying78 Try.type78 (by kernel_rfl),
 ⟨tiOf_eq Try.underlying79 Try.type79 (by kernel_rfl),
 ⟨tiOf_eq Try.underlying80 Try.type80 (by kernel_rfl),
 ⟨tiOf_eq Try.underlying81 Try.type81 (by kernel_rfl),
 ⟨tiOf_eq Try.underlying82 Try.type82 (by kernel_rfl),
 ⟨tiOf_eq Try.underlying83 Try.type83 (by kernel_rfl),
 ⟨tiOf_eq Try.underlying84 Try.type84 (by kernel_rfl),
 ⟨tiOf_eq Try.underlying85 Try.type85 (by kernel_rfl),
 ⟨tiOf_eq Try.underlying86 Try.type86 (by kernel_rfl),
 ⟨tiOf_eq Try.underlying87 Try.type87 (by kernel_rfl),
 ⟨tiOf_eq Try.underlying89 Try.type89 (by kernel_rfl),
 ⟨tiOf_eq Try.underlying90 Try.type90 (by kernel_rfl),
 ⟨tiOf_eq Try.underlying91 Try.type91 (by kernel_rfl),
 ⟨tiOf_eq Try.underlying92 Try.type92 (by kernel_rfl),
 ⟨tiOf_eq Try.underlying93 Try.type93 (by kernel_rfl),
 ⟨tiOf_eq Try.underlying94 Try.type94 (by kernel_rfl),
 ⟨tiOf_eq Try.underlying95 Try.type95 (by kernel_rfl),
 ⟨tiOf_eq Try.underlying96 Try.type96 (by kernel_rfl),
 ⟨tiOf_eq Try.underlying97 Try.type97 (by kernel_rfl),
 ⟨tiOf_eq Try.underlying98 Try.type98 (by kernel_rfl),
 ⟨tiOf_eq Try.underlying99 Try.type99 (by kernel_rfl),
 ⟨tiOf_eq Try.underlying100 Try.type100 (by kernel_rfl),
 ⟨tiOf_eq Try.underlying101 Try.type101 (by kernel_rfl),
 ⟨tiOf_eq Try.underlying103 Try.type103 (by kernel_rfl),
 ⟨tiOf_eq Try.underlying104 Try.type104 (by kernel_rfl),
 ⟨tiOf_eq Try.underlying105 Try.type105 (by kernel_rfl),
 ⟨tiOf_eq Try.underlying106 Try.type106 (by kernel_rfl),
 ⟨tiOf_eq Try.underlying107 Try.type107 (by kernel_rfl),
 ⟨tiOf_eq Try.underlying108 Try.type108 (by kernel_rfl),
 ⟨tiOf_eq Try.underlying109 Try.type109 (by kernel_rfl),
 ⟨tiOf_eq Try.underlying110 Try.type110 (by kernel_rfl),
 ⟨tiOf_eq Try.underlying111 Try.type111 (by kernel_rfl),
 ⟨tiOf_eq Try.underlying112 Try.type112 (by kernel_rfl),
 ⟨tiOf_eq Try.underlying113 Try.type113 (by kernel_rfl),
 ⟨tiOf_eq Try.underlying114 Try.type114 (by kernel_rfl),
 ⟨tiOf_eq Try.underlying115 Try.type115 (by kernel_rfl),
 ⟨tiOf_eq Try.underlying116 Try.type116 (by kernel_rfl),
 ⟨tiOf_eq Try.underlying117 Try.type117 (by kernel_rfl),
 ⟨tiOf_eq Try.underlying118 Try.type118 (by kernel_rfl),
 ⟨tiOf_eq Try.underlying120 Try.type120 (by kernel_rfl),
 ⟨tiOf_eq Try.underlying121 Try.type121 (by kernel_rfl),
 ⟨tiOf_eq Try.underlying122 Try.type122 (by kernel_rfl),
 ⟨tiOf_eq Try.underlying123 Try.type123 (by kernel_rfl),
 ⟨tiOf_eq Try.underlying124 Try.type124 (by kernel_rfl),
 ⟨tiOf_eq Try.underlying126 Try.type126 (by kernel_rfl),
 ⟨tiOf_eq Try.underlying127 Try.type127 (by kernel_rfl),
 ⟨tiOf_eq Try.underlying128 Try.type128 (by kernel_rfl),
 ⟨tiOf_eq Try.underlying129 Try.type129 (by kernel_rfl),
 ⟨tiOf_eq Try.underlying130 Try.type130 (by kernel_rfl),
 ⟨tiOf_eq Try.underlying131 Try.type131 (by kernel_rfl),
 ⟨tiOf_eq Try.underlying132 Try.type132 (by kernel_rfl),
 ⟨tiOf_eq Try.underlying133 Try.type133 (by kernel_rfl),
 ⟨tiOf_eq Try.underlying134 Try.type134 (by kernel_rfl),
 ⟨tiOf_eq Try.underlying135 Try.type135 (by kernel_rfl),
 ⟨tiOf_eq Try.underlying136 Try.type136 (by kernel_rfl),
 ⟨tiOf_eq Try.underlying137 Try.type137 (by kernel_rfl),
 ⟨tiOf_eq Try.underlying138 Try.type138 (by kernel_rfl),
 ⟨tiOf_eq Try.underlying139 Try.type139 (by kernel_rfl),
 ⟨tiOf_eq Try.underlying140 Try.type140 (by kernel_rfl),
 ⟨tiOf_eq Try.underlying141 Try.type141 (by kernel_rfl),
 ⟨tiOf_eq Try.underlying142 Try.type142 (by kernel_rfl),
 ⟨tiOf_eq Try.underlying143 Try.type143 (by kernel_rfl),
 ⟨tiOf_eq Try.underlying144 Try.type144 (by kernel_rfl),
 ⟨tiOf_eq Try.underlying145 Try.type145 (by kernel_rfl),
 ⟨tiOf_eq Try.underlying146 Try.type146 (by kernel_rfl),
 ⟨tiOf_eq Try.underlying147 Try.type147 (by kernel_rfl),
 ⟨tiOf_eq Try.underlying148 Try.type148 (by kernel_rfl),
 ⟨tiOf_eq Try.underlying149 Try.type149 (by kernel_rfl),
 ⟨tiOf_eq Try.underlying150 Try.type150 (by kernel_rfl),
 ⟨tiOf_eq Try.underlying151 Try.type151 (by kernel_rfl),
 ⟨tiOf_eq Try.underlying152 Try.type152 (by kernel_rfl),
 ⟨tiOf_eq Try.underlying153 Try.type153 (by kernel_rfl),
 ⟨tiOf_eq Try.underlying154 Try.type154 (by kernel_rfl),
 ⟨tiOf_eq Try.underlying155 Try.type155 (by kernel_rfl),
 ⟨tiOf_eq Try.underlying156 Try.type156 (by kernel_rfl),
 ⟨tiOf_eq Try.underlying157 Try.type157 (by kernel_rfl),
 ⟨tiOf_eq Try.underlying158 Try.type158 (by kernel_rfl),
 ⟨tiOf_eq Try.underlying159 Try.type159 (by kernel_rfl),
 ⟨tiOf_eq Try.underlying160 Try.type160 (by kernel_rfl),
 ⟨tiOf_eq Try.underlying161 Try.type161 (by kernel_rfl),
 ⟨tiOf_eq Try.underlying162 Try.type162 (by kernel_rfl),
 ⟨tiOf_eq Try.underlying163 Try.type163 (by kernel_rfl),
 ⟨tiOf_eq Try.underlying164 Try.type164 (by kernel_rfl),
 ⟨tiOf_eq Try.underlying165 Try.type165 (by kernel_rfl),
 ⟨tiOf_eq Try.underlying166 Try.type166 (by kernel_rfl),
 ⟨tiOf_eq Try.underlying167 Try.type167 (by kernel_rfl),
 ⟨tiOf_eq Try.underlying169 Try.type169 (by kernel_rfl),
 ⟨tiOf_eq Try.underlying170 Try.type170 (by kernel_rfl),
 ⟨tiOf_eq Try.underlying171 Try.type171 (by kernel_rfl),
 ⟨tiOf_eq Try.underlying172 Try.type172 (by kernel_rfl),
 ⟨tiOf_eq Try.underlying174 Try.type174 (by kernel_rfl),
 ⟨tiOf_eq Try.underlying175 Try.type175 (by kernel_rfl),
 ⟨tiOf_eq Try.underlying176 Try.type176 (by kernel_rfl),
 ⟨tiOf_eq Try.underlying177 Try.type177 (by kernel_rfl),
 ⟨tiOf_eq Try.underlying178 Try.type178 (by kernel_rfl),
 ⟨tiOf_eq Try.underlying179 Try.type179 (by kernel_rfl),
 ⟨tiOf_eq Try.underlying180 Try.type180 (by kernel_rfl),
 ⟨tiOf_eq Try.underlying181 Try.type181 (by kernel_rfl),
 ⟨tiOf_eq Try.underlying182 Try.type182 (by kernel_rfl),
 ⟨tiOf_eq Try.underlying183 Try.type183 (by kernel_rfl),
 ⟨tiOf_eq Try.underlying184 Try.type184 (by kernel_rfl),
 ⟨tiOf_eq Try.underlying185 Try.type185 (by kernel_rfl),
 ⟨tiOf_eq Try.underlying186 Try.type186 (by kernel_rfl),
 ⟨tiOf_eq Try.underlying187 Try.type187 (by kernel_rfl),
 ⟨tiOf_eq Try.underlying188 Try.type188 (by kernel_rfl),
 ⟨tiOf_eq Try.underlying190 Try.type190 (by kernel_rfl),
 ⟨tiOf_eq Try.underlying191 Try.type191 (by kernel_rfl),
 ⟨tiOf_eq Try.underlying193 Try.type193 (by kernel_rfl),
 ⟨tiOf_eq Try.underlying196 Try.type196 (by kernel_rfl),
 ⟨tiOf_eq Try.underlying197 Try.type197 (by kernel_rfl),
 ⟨tiOf_eq Try.underlying200 Try.type200 (by kernel_rfl),
 trivial⟩⟩⟩⟩⟩⟩⟩⟩⟩⟩⟩⟩⟩⟩⟩⟩⟩⟩⟩⟩⟩⟩⟩⟩⟩⟩⟩⟩⟩⟩⟩⟩⟩⟩⟩⟩⟩⟩⟩⟩⟩⟩⟩⟩⟩⟩⟩⟩⟩⟩⟩⟩⟩⟩⟩⟩⟩⟩⟩⟩⟩⟩⟩⟩⟩⟩⟩⟩⟩⟩⟩⟩⟩⟩⟩⟩⟩⟩⟩⟩⟩⟩⟩⟩⟩⟩⟩⟩⟩⟩⟩⟩⟩⟩⟩⟩⟩⟩⟩⟩⟩⟩⟩⟩⟩⟩⟩⟩⟩⟩⟩⟩⟩⟩⟩⟩⟩⟩⟩⟩⟩⟩⟩⟩⟩⟩⟩⟩⟩⟩⟩⟩⟩⟩⟩⟩⟩⟩⟩⟩⟩⟩⟩⟩⟩⟩⟩⟩⟩⟩⟩⟩⟩⟩⟩⟩⟩⟩⟩⟩⟩⟩⟩⟩⟩⟩⟩⟩⟩⟩⟩⟩⟩⟩⟩
section
variable {P : Program} {c : Cfg} {G G' : Sta} {K : Ex → Sta → Prop} {x : Code}
theorem sDE (hc:COk P c) (q:List Ora) (dr:List Nat) (ch ch':Sta) {obs:List Prop} (ho:AllP obs) (hk:Sem P c (sq2 x) (edt dr ch' G) K) (e':ch=ch':=by first | rfl | (simp only [nm,enq];done) | (simp only [n0];first | done | simp only [nm,enq])) (e:x=.seq (sq1 x) (sq2 x):=by kernel_rfl)
 (h:evReg P c (sq1 x) q [] (keysOf (edt dr ch G)) G=some (obs,edt dr ch G):=by kernel_rfl):Sem P c x G K:=by subst e';exact Sem.seqR hc e h ho hk
theorem rDE (hc:COk P c) (q:List Ora) (dr:List Nat) (ch ch':Sta) {obs:List Prop} (ho:AllP obs) (hk:K .normal (edt dr ch' G)) (e':ch=ch':=by first | rfl | (simp only [nm,enq];done) | (simp only [n0];first | done | simp only [nm,enq]))
 (h:evReg P c x q [] (keysOf (edt dr ch G)) G=some (obs,edt dr ch G):=by kernel_rfl):Sem P c x G K:=by subst e';exact Sem.region hc h ho hk
theorem endD {nt:Nat} {rs:List ResultVar} {n:Nat} (fz:List (Nat×Nat)) (r:AV) (l:List AV) {R:AV→List AV→Prop} (hR:R r l:=by first | exact ⟨rfl,rfl⟩ | (refine ⟨?_,?_⟩<;>(try simp only [nm,enq])<;>rfl) | (refine ⟨?_,?_⟩<;>simp only [nm,enq])) (h:evEnd P c rs n (Ev.frzs fz G)=some (r,l):=by kernel_rfl) :
 (∃ G',Wk P nt G G'∧endK (CallE P) c rs n R .ret G')∧(∃ G',Wk P nt G G'∧endK (CallE P) c rs n R .normal G'):=
 ⟨⟨_,Wk.frzs,(evEnd_endK h hR).1⟩,⟨_,Wk.frzs,(evEnd_endK h hR).2⟩⟩
end
end Go.Ev
namespace Go.Proofs
open Go.Shelf
def Try.lays189_ren:Go.Shelf.Ren:=⟨fun | 189=>93 | 125=>116 | 257=>115 | 128=>132 | 129=>133 | 294=>123 | 295=>124 | 296=>125 | 297=>126 | 298=>127 | 299=>128 | 216=>129 | 300=>130 | 301=>131 | 328=>135 | 329=>136 | 330=>137 | 331=>138 | 332=>139 | 215=>140 | 343=>141 | n=>n,fun | 28=>30 | 3=>3 | 46=>156 | 0=>0 | 51=>176 | 53=>31 | 4=>4 | 183=>168 | 182=>167 | 131=>173 | 5=>5 | 9=>9 | 218=>179 | 222=>183 | 228=>185 | 229=>57 | n=>n,fun | n=>n⟩
theorem Try.lays189:Go.Proofs.Lays.n189 Try.prog Try.lays189_ren:={
 mixed:=by kernel_rfl
 f125:=Try.func116.trans (congrArg some (by kernel_rfl))
 f128:=Try.func132.trans (congrArg some (by kernel_rfl))
 f129:=Try.func133.trans (congrArg some (by kernel_rfl))
 f189:=Try.func93.trans (congrArg some (by kernel_rfl))
 f215:=Try.func140.trans (congrArg some (by kernel_rfl))
 f216:=Try.func129.trans (congrArg some (by kernel_rfl))
 f257:=Try.func115.trans (congrArg some (by kernel_rfl))
 f294:=Try.func123.trans (congrArg some (by kernel_rfl))
 f295:=Try.func124.trans (congrArg some (by kernel_rfl))
 f296:=Try.func125.trans (congrArg some (by kernel_rfl))
 f297:=Try.func126.trans (congrArg some (by kernel_rfl))
 f298:=Try.func127.trans (congrArg some (by kernel_rfl))
 f299:=Try.func128.trans (congrArg some (by kernel_rfl))
 f300:=Try.func130.trans (congrArg some (by kernel_rfl))
 f301:=Try.func131.trans (congrArg some (by kernel_rfl))
 f328:=Try.func135.trans (congrArg some (by kernel_rfl))
 f329:=Try.func136.trans (congrArg some (by kernel_rfl))
 f330:=Try.func137.trans (congrArg some (by kernel_rfl))
 f331:=Try.func138.trans (congrArg some (by kernel_rfl))
 f332:=Try.func139.trans (congrArg some (by kernel_rfl))
 f343:=Try.func141.trans (congrArg some (by kernel_rfl))
 t0:=Try.underlying0
 a0:=Try.isAgg0
 z0:=Try.sizeOf0
 v0:=Try.zeroValue0
 t3:=Try.underlying3
 a3:=Try.isAgg3
 z3:=Try.sizeOf3
 v3:=Try.zeroValue3
 t4:=Try.underlying4
 a4:=Try.isAgg4
 z4:=Try.sizeOf4
 v4:=Try.zeroValue4
 t5:=Try.underlying5
 a5:=Try.isAgg5
 z5:=Try.sizeOf5
 v5:=Try.zeroValue5
 t9:=Try.underlying9
 a9:=Try.isAgg9
 z9:=Try.sizeOf9
 v9:=Try.zeroValue9
 t28:=Try.underlying30
 a28:=Try.isAgg30
 z28:=Try.sizeOf30
 v28:=Try.zeroValue30
 t46:=Try.underlying156
 a46:=Try.isAgg156
 z46:=Try.sizeOf156
 v46:=Try.zeroValue156
 t51:=Try.underlying176
 a51:=Try.isAgg176
 z51:=Try.sizeOf176
 v51:=Try.zeroValue176
 t53:=Try.underlying31
 a53:=Try.isAgg31
 z53:=Try.sizeOf31
 v53:=Try.zeroValue31
 t131:=Try.underlying173
 a131:=Try.isAgg173
 z131:=Try.sizeOf173
 v131:=Try.zeroValue173
 t182:=Try.underlying167
 a182:=Try.isAgg167
 z182:=Try.sizeOf167
 v182:=Try.zeroValue167
 t183:=Try.underlying168
 a183:=Try.isAgg168
 z183:=Try.sizeOf168
 v183:=Try.zeroValue168
 t218:=Try.underlying179
 a218:=Try.isAgg179
 z218:=Try.sizeOf179
 v218:=Try.zeroValue179
 t222:=Try.underlying183
 a222:=Try.isAgg183
 z222:=Try.sizeOf183
 v222:=Try.zeroValue183
 t228:=Try.underlying185
 a228:=Try.isAgg185
 z228:=Try.sizeOf185
 v228:=Try.zeroValue185
 t229:=Try.underlying57
 a229:=Try.isAgg57
 z229:=Try.sizeOf57
 v229:=Try.zeroValue57 }
open Go.Sort Go.RowKit in
theorem Try.slices_Sort_int (blk off cap:Nat) (zs:List Int) (w:World) (hH:Holds (Value.int .i64) w blk off zs.toArray) (hblk:blk < w.heap.size) (hsz:zs.length < 4611686018427387904) :
 Calls Try.prog 93 #[.slice (some ⟨blk,off,none⟩) zs.length cap] w fun e w'=>
  e=.returned (.tuple #[])∧∃ n os,w'=grow (putRow (Value.int .i64) (Sort.ahead w n) blk off (zs.mergeSort fun x y=>decide (x≤y)).toArray) os:=Any.slices_Sort_int Try.lays189 blk off cap zs w hH hblk hsz
def Try.laysNm220_ren:Go.Shelf.Ren:=⟨fun | 20=>94 | n=>n,fun | 22=>30 | 3=>3 | 4=>4 | 0=>0 | n=>n,fun | n=>n⟩
theorem Try.laysNm220:Go.Proofs.Lays2.n20 Try.prog Try.laysNm220_ren:={
 mixed:=by kernel_rfl
 f20:=Try.func94.trans (congrArg some (by kernel_rfl))
 t0:=Try.underlying0
 a0:=Try.isAgg0
 z0:=Try.sizeOf0
 v0:=Try.zeroValue0
 t3:=Try.underlying3
 a3:=Try.isAgg3
 z3:=Try.sizeOf3
 v3:=Try.zeroValue3
 t4:=Try.underlying4
 a4:=Try.isAgg4
 z4:=Try.sizeOf4
 v4:=Try.zeroValue4
 t22:=Try.underlying30
 a22:=Try.isAgg30
 z22:=Try.sizeOf30
 v22:=Try.zeroValue30
 i3:=by kernel_rfl }
open Go.RowKit Go.Lib Go.Sort in
theorem Try.slices_Compact_int (blk off cap:Nat) (zs:List Int) (w:World) (hH:Holds (Value.int .i64) w blk off zs.toArray) (hsz:zs.length≤9223372036854775807) (hcap:zs.length≤cap) :
 Calls Try.prog 94 #[.slice (some ⟨blk,off,none⟩) zs.length cap] w fun e w'=>e=.returned (.slice (some ⟨blk,off,none⟩) (Lib.compact zs).length cap)∧∃ q,w'=putRow (Value.int .i64) (Sort.ahead w q) blk off (Lib.compact zs++List.replicate (zs.length - (Lib.compact zs).length) 0).toArray:=Any.slices_Compact_int Try.laysNm220 blk off cap zs w hH hsz hcap
open Go.RowKit Go.Lib Go.Sort in
theorem Try.slices_Compact_int_empty (a:Option Addr) (cap:Nat) (w:World) :
 Calls Try.prog 94 #[.slice a 0 cap] w fun e w'=>e=.returned (.slice a 0 cap)∧w'=w:=Any.slices_Compact_int_empty Try.laysNm220 a cap w
open Go.RowKit Go.Sort in
theorem Try.slices_Sort_int_none (p:Option Addr) (cap:Nat) (w:World) :
 Calls Try.prog 93 #[.slice p 0 cap] w fun e w'=>e=.returned (.tuple #[])∧w'=w:=Any.slices_Sort_int_none Try.lays189 p cap w
end Go.Proofs
set_option linter.unusedVariables false
set_option linter.unusedSimpArgs false
namespace Go.Ev
open Go Go.RowKit Go.Sort
variable {P : Program}
def fvInts:List FV→Option (List Int)
 | []=>some []
 | .pv (.int .i64 n) :: r=>match fvInts r with
   | some l=>some (n :: l)
   | none=>none
 | _=>none
theorem fvInts_spec:∀ {l:List FV} {zs:List Int},fvInts l=some zs→l=zs.map fun n=>.pv (.int .i64 n)
 | [],zs,h=>by simp only [fvInts,Option.some.injEq] at h;subst h;rfl
 | .pv (.int k n) :: r,zs,h=>by
   unfold fvInts at h
   split at h
   ·rename_i heq;cases heq
   ·rename_i heq
    cases heq
    split at h
    ·rename_i l hl
     simp only [Option.some.injEq] at h;subst h
     rw [fvInts_spec hl];rfl
    ·cases h
   ·cases h
 | .pv (.bool _) :: r,zs,h | .pv (.float _ _) :: r,zs,h | .pv (.complex _ _ _) :: r,zs,h | .pv (.string _) :: r,zs,h | .pv (.pointer _) :: r,zs,h | .pv (.slice _ _ _) :: r,zs,h
 | .pv (.map _) :: r,zs,h | .pv (.chan _) :: r,zs,h | .pv (.func _ _ _) :: r,zs,h | .pv .nilFunc :: r,zs,h | .pv (.iface _ _) :: r,zs,h | .pv .nilIface :: r,zs,h
 | .pv (.agg _) :: r,zs,h | .pv (.tuple _) :: r,zs,h | .agg _ :: r,zs,h | .sl _ :: r,zs,h=>by simp [fvInts] at h
theorem fvInts_map (enc:Int→FV) (h:∀ n,enc n=.pv (.int .i64 n)):∀ zs:List Int,fvInts (zs.map enc)=some zs
 | []=>rfl
 | n :: r=>by simp only [List.map_cons,h n,fvInts,fvInts_map enc h r]
def sortInts (zs:List Int):List Int:=zs.mergeSort fun x y=>decide (x≤y)
def compactInts (zs:List Int):List Int:=Lib.compact zs
def sortF (l:List FV):Option (List FV):=match fvInts l with
 | some zs=>if zs.length < 2 ^ 40 then some ((sortInts zs).map fun n=>.pv (.int .i64 n)) else none
 | none=>none
def compactF (l:List FV):Option (List FV):=match fvInts l with
 | some zs=>if zs.length < 2 ^ 40 then some ((compactInts zs).map fun n=>.pv (.int .i64 n)) else none
 | none=>none
theorem sortF_map (enc:Int→FV) (h:∀ n,enc n=.pv (.int .i64 n)) (zs:List Int) (hl:zs.length < 2 ^ 40):sortF (zs.map enc)=some ((sortInts zs).map enc):=by
 have:enc=fun n=>.pv (.int .i64 n):=funext h
 unfold sortF
 rw [fvInts_map enc h]
 dsimp only
 rw [if_pos hl,this]
theorem compactF_map (enc:Int→FV) (h:∀ n,enc n=.pv (.int .i64 n)) (zs:List Int) (hl:zs.length < 2 ^ 40):compactF (zs.map enc)=some ((compactInts zs).map enc):=by
 have:enc=fun n=>.pv (.int .i64 n):=funext h
 unfold compactF
 rw [fvInts_map enc h]
 dsimp only
 rw [if_pos hl,this]
abbrev HasF (P:Program) (g:FuncId):Prop:=∃ fn,P.funcs[g]?=some fn∧(fn.name == "runtime.NumGoroutine")=false∧fn.body.isNone=false
theorem ownB_ints {own:Own} {w:World} {b o:Nat} {E:TypeId} {k n:Nat} {zs:List Int} (h:OwnB P own w b o E k (zs.map fun n=>.pv (.int .i64 n)) n) (hE:esz P E=1) :
 ∃ arr,w.heap[k]?=some (.cells arr E (0,0))∧n≤arr.size∧Holds (Value.int .i64) w k 0 zs.toArray∧k < w.heap.size:=by
 obtain ⟨_,arr,h2,h3,h4,h5⟩:=h
 rw [hE] at h3 h5
 have hk:k < w.heap.size:=(Array.getElem?_eq_some_iff.1 h2).1
 refine ⟨arr,h2,by omega,fun j hj=>?_,hk⟩
 have hj':j < zs.length:=by simpa using hj
 obtain ⟨v,e1,e2⟩:=h5 j (.pv (.int .i64 zs[j])) 0 (.pv (.int .i64 zs[j])) (by simp [hj']) rfl
 cases e2
 have he:zs.toArray[j]! = zs[j]:=by simp [hj']
 constructor
 ·simp only [World.cell?,h2,Nat.zero_add]
  rw [he];simpa using e1
 ·simp [World.frozen?,h2]
theorem heap_putRow_ne {enc:Int→Value} {w:World} {k off j:Nat} {d:Array Int} (h:j≠k):(putRow enc w k off d).heap[j]?=w.heap[j]?:=by
 simp only [putRow,mapBlock,Array.getElem?_modify]
 rw [if_neg (Ne.symm h)]
theorem heap_putRow_eq {enc:Int→Value} {w:World} {k off:Nat} {d:Array Int} {arr:Array Value} {E:TypeId} {f:Nat×Nat} (h:w.heap[k]?=some (.cells arr E f)):(putRow enc w k off d).heap[k]?=some (.cells (putCells enc off d arr) E f):=by
 simp only [putRow,mapBlock,Array.getElem?_modify,if_true,h,Option.map_some]
 rfl
theorem ownB_put' {own:Own} {w w':World} {b o:Nat} {E:TypeId} {k n:Nat} {zs ys:List Int} (h:OwnB P own w b o E k (zs.map fun n=>.pv (.int .i64 n)) n) (hE:esz P E=1) {d:Array Int}
 (hw:w'.heap[k]?=(putRow (Value.int .i64) w k 0 d).heap[k]?) (hlen:ys.length≤d.size) (hd:∀ j,j < ys.length→d[j]! = ys[j]!) (hsz:d.size≤zs.length):OwnB P own w' b o E k (ys.map fun n=>.pv (.int .i64 n)) n:=by
 obtain ⟨h1,arr,h2,h3,h4,h5⟩:=h
 refine ⟨h1,putCells (Value.int .i64) 0 d arr,by rw [hw,heap_putRow_eq h2],by simpa [putCells] using h3,?_,?_⟩
 ·intro x hx
  simp only [List.mem_map] at hx
  obtain ⟨y,_,rfl⟩:=hx
  rw [hE];rfl
 ·intro i x j y e1 e2
  simp only [List.getElem?_map,Option.map_eq_some_iff] at e1
  obtain ⟨z,e1,rfl⟩:=e1
  have hj:j=0:=by
   cases j with
   | zero=>rfl
   | succ j=>simp [FV.cells] at e2
  subst hj
  have hi:i < ys.length:=(List.getElem?_eq_some_iff.1 e1).1
  simp [FV.cells] at e2;subst e2
  have hE':=hE
  rw [hE]
  refine ⟨.int .i64 z,?_,RF.pv _ rfl⟩
  have hia:i < arr.size:=by
   have hiz:i < zs.length:=by omega
   obtain ⟨v,e3,_⟩:=h5 i (.pv (.int .i64 zs[i])) 0 (.pv (.int .i64 zs[i])) (by simp [hiz]) rfl
   rw [hE] at e3
   have:=(Array.getElem?_eq_some_iff.1 e3).1
   omega
  simp only [putCells,Array.getElem?_mapIdx,Nat.mul_one,Nat.add_zero,Array.getElem?_eq_getElem hia,Option.map_some,Nat.zero_le,true_and,Nat.zero_add,Nat.sub_zero]
  rw [if_pos (by omega),hd i hi]
  have:=(List.getElem?_eq_some_iff.1 e1).2
  simp [hi,this]
theorem ip_sort {g:FuncId} (hf:HasF P g) (hE:∀ own w b o E l u k n,OwnL P own w b o E l u→OwnB P own w b o E k l n→l≠[]→(∀ x∈l,x.size=1)→esz P E=1)
 (hs:∀ (blk off cap:Nat) (zs:List Int) (w:World),Holds (Value.int .i64) w blk off zs.toArray→blk < w.heap.size→zs.length < 4611686018427387904→
   Calls P g #[.slice (some ⟨blk,off,none⟩) zs.length cap] w fun e w'=>e=.returned (.tuple #[])∧∃ n os,w'=grow (putRow (Value.int .i64) (Sort.ahead w n) blk off (zs.mergeSort fun x y=>decide (x≤y)).toArray) os)
 (hn:∀ (p:Option Addr) (cap:Nat) (w:World),Calls P g #[.slice p 0 cap] w fun e w'=>e=.returned (.tuple #[])∧w'=w):IpOk P g sortF false:=by
 refine ⟨hf,fun own w b o E l l' u hl hlt hone hu=>?_⟩
 unfold sortF at hl
 split at hl
 ·rename_i zs hz
  split at hl
  ·rename_i hlen
   simp only [Option.some.injEq] at hl;subst hl
   have hlz:=fvInts_spec hz
   subst hlz
   have hu0:=hu
   obtain ⟨a,c,rfl,hc,h3⟩:=hu
   by_cases hnil:zs=[]
   ·subst hnil
    refine (hn a c w).mono ?_
    rintro e w' ⟨rfl,rfl⟩
    refine ⟨_,rfl,Nat.le_refl _,fun _ _ _=>rfl,rfl,rfl,rfl,?_⟩
    rw [if_neg (by simp)]
    exact ⟨rfl,fun k n h=>by simpa [sortInts] using h⟩
   ·rcases h3 with ⟨_,h,_⟩ | ⟨k,rfl,hB⟩
    ·simp at h;exact absurd h hnil
    ·have hE1:esz P E=1:=hE _ _ _ _ _ _ _ _ _ hu0 hB (by simpa using hnil) (fun x hx=>by simp only [List.mem_map] at hx;obtain ⟨y,_,rfl⟩:=hx;rfl)
     obtain ⟨arr,q1,q2,q3,q4⟩:=ownB_ints hB hE1
     have hll:(zs.map fun n=>FV.pv (.int .i64 n)).length=zs.length:=by simp
     rw [hll] at hc ⊢
     refine (hs k 0 c zs w q3 q4 (by omega)).mono ?_
     rintro e w' ⟨rfl,m,os,rfl⟩
     have hheap:∀ j,j < w.heap.size→(grow (putRow (Value.int .i64) (Sort.ahead w m) k 0 (zs.mergeSort fun x y=>decide (x≤y)).toArray) os).heap[j]?=(putRow (Value.int .i64) w k 0 (zs.mergeSort fun x y=>decide (x≤y)).toArray).heap[j]?:=fun j hj=>by
      simp only [grow]
      rw [Array.getElem?_append_left (by simpa using hj)]
      rfl
     refine ⟨_,rfl,by simp [grow],fun j hj hne=>?_,rfl,rfl,rfl,?_⟩
     ·rw [hheap j hj,heap_putRow_ne]
      intro e;subst e;exact hne hB.1
     ·rw [if_neg (by simp)]
      refine ⟨rfl,fun k' n' hB'=>?_⟩
      have:k'=k:=hone _ _ _ hB'.1 hB.1
      subst this
      refine ownB_put' hB' hE1 (hheap k' q4) (by simp [sortInts]) (fun j hj=>by simp [sortInts]) (by simp)
  ·cases hl
 ·cases hl
theorem ip_compact {g:FuncId} (hf:HasF P g) (hE:∀ own w b o E l u k n,OwnL P own w b o E l u→OwnB P own w b o E k l n→l≠[]→(∀ x∈l,x.size=1)→esz P E=1)
 (hs:∀ (blk off cap:Nat) (zs:List Int) (w:World),Holds (Value.int .i64) w blk off zs.toArray→zs.length≤9223372036854775807→zs.length≤cap→
   Calls P g #[.slice (some ⟨blk,off,none⟩) zs.length cap] w fun e w'=>e=.returned (.slice (some ⟨blk,off,none⟩) (Lib.compact zs).length cap)∧∃ q,w'=putRow (Value.int .i64) (Sort.ahead w q) blk off (Lib.compact zs++List.replicate (zs.length - (Lib.compact zs).length) 0).toArray)
 (hn:∀ (a:Option Addr) (cap:Nat) (w:World),Calls P g #[.slice a 0 cap] w fun e w'=>e=.returned (.slice a 0 cap)∧w'=w)
 (hle:∀ zs,(Lib.compact zs:List Int).length≤zs.length):IpOk P g compactF true:=by
 refine ⟨hf,fun own w b o E l l' u hl hlt hone hu=>?_⟩
 unfold compactF at hl
 split at hl
 ·rename_i zs hz
  split at hl
  ·rename_i hlen
   simp only [Option.some.injEq] at hl;subst hl
   have hlz:=fvInts_spec hz
   subst hlz
   have hu0:=hu
   obtain ⟨a,c,rfl,hc,h3⟩:=hu
   have hcl:=hle zs
   by_cases hnil:zs=[]
   ·subst hnil
    have hc0:Lib.compact ([]:List Int)=[]:=List.length_eq_zero_iff.1 (by simpa using hcl)
    refine (hn a c w).mono ?_
    rintro e w' ⟨rfl,rfl⟩
    refine ⟨_,rfl,Nat.le_refl _,fun _ _ _=>rfl,rfl,rfl,rfl,?_⟩
    rw [if_pos rfl]
    simp only [compactInts,hc0,List.map_nil]
    exact hu0
   ·rcases h3 with ⟨_,h,_⟩ | ⟨k,rfl,hB⟩
    ·simp at h;exact absurd h hnil
    ·have hE1:esz P E=1:=hE _ _ _ _ _ _ _ _ _ hu0 hB (by simpa using hnil) (fun x hx=>by simp only [List.mem_map] at hx;obtain ⟨y,_,rfl⟩:=hx;rfl)
     obtain ⟨arr,q1,q2,q3,q4⟩:=ownB_ints hB hE1
     have hll:(zs.map fun n=>FV.pv (.int .i64 n)).length=zs.length:=by simp
     rw [hll] at hc ⊢
     refine (hs k 0 c zs w q3 (by omega) hc).mono ?_
     rintro e w' ⟨rfl,m,rfl⟩
     refine ⟨_,rfl,by simp,fun j hj hne=>?_,rfl,rfl,rfl,?_⟩
     ·rw [heap_putRow_ne]
      ·rfl
      ·intro e;subst e;exact hne hB.1
     ·rw [if_pos rfl]
      refine ⟨_,c,by simp [compactInts],by simp [compactInts];omega,.inr ⟨k,rfl,?_⟩⟩
      refine ownB_put' hB hE1 rfl (by simp [compactInts]) (fun j hj=>?_) (by simp;omega)
      simp only [compactInts] at hj ⊢
      have hj2:j < (Lib.compact zs++List.replicate (zs.length - (Lib.compact zs).length) 0).length:=by simp;omega
      simp [hj,List.getElem?_append_left hj]
  ·cases hl
 ·cases hl
theorem gr_grow {g:FuncId} {E:TypeId} (hf:HasF P g) (hsz:esz P E=1) (hE0:∀ w n,0 < n→n≤2 ^ 40→Calls P g #[.slice none 0 0,.int .i64 (n:Nat)] w fun e w'=>∃ cap arr m,e=.returned (.slice (some ⟨w.heap.size,0,none⟩) 0 cap)∧w'=({ w with drawn:=m }:World).alloc (.cells arr E)∧cap≤arr.size)
 (h0:∀ w,Calls P g #[.slice none 0 0,.int .i64 0] w fun e w'=>e=.returned (.slice none 0 0)∧w'=w):GrOk P g E:=by
 refine ⟨hf,fun w n hn hn2=>?_⟩
 by_cases hz:n=0
 ·subst hz
  exact (h0 w).mono fun e w' h=>.inl h
 ·obtain ⟨m,rfl⟩:∃ m:Nat,n=m:=⟨n.toNat,by omega⟩
  refine (hE0 w m (by omega) (by omega)).mono ?_
  rintro e w' ⟨cap,arr,q,rfl,rfl,hc⟩
  exact .inr ⟨cap,arr,q,rfl,rfl,by rw [hsz];omega⟩
end Go.Ev
set_option linter.unusedSimpArgs false
set_option linter.unusedVariables false
namespace Go.Ev
open Go Go.Proofs
set_option maxRecDepth 8000
def growRen:Go.Shelf.Ren:=⟨fun | 4=>104 | n=>n,fun | 22=>30 | 25=>3 | n=>n,fun n=>n⟩
theorem growLays:Lays8.n4 Try.prog growRen:={
 mixed:=by kernel_rfl
 f4:=⟨Try.f104.name,by rfl,Try.func104.trans (congrArg some (by kernel_rfl))⟩
 t0:=Try.underlying0
 a0:=Try.isAgg0
 z0:=Try.sizeOf0
 v0:=Try.zeroValue0
 t3:=Try.underlying3
 a3:=Try.isAgg3
 z3:=Try.sizeOf3
 v3:=Try.zeroValue3
 t4:=Try.underlying4
 a4:=Try.isAgg4
 z4:=Try.sizeOf4
 v4:=Try.zeroValue4
 t9:=Try.underlying9
 a9:=Try.isAgg9
 z9:=Try.sizeOf9
 v9:=Try.zeroValue9
 t20:=Try.underlying20
 a20:=Try.isAgg20
 z20:=Try.sizeOf20
 v20:=Try.zeroValue20
 t22:=Try.underlying30
 a22:=Try.isAgg30
 z22:=Try.sizeOf30
 v22:=Try.zeroValue30 }
def ipTab (g:FuncId):Option ((List FV→Option (List FV))×Bool):=
 match Nat.beq g 93 with
 | true=>some (sortF,false)
 | false=>match Nat.beq g 94 with
   | true=>some (compactF,true)
   | false=>none
def grTab (g:FuncId):Option TypeId:=
 match Nat.beq g 104 with
 | true=>some 3
 | false=>none
theorem esz_one {own:Own} {w:World} {b o:Nat} {E:TypeId} {l:List FV} {u:Value} {k n:Nat} (h:OwnL Try.prog own w b o E l u) (h2:OwnB Try.prog own w b o E k l n) (hne:l≠[]) (hs:∀ x∈l,x.size=1):esz Try.prog E=1:=by
 obtain ⟨_,arr,_,_,h4,_⟩:=h2
 cases l with
 | nil=>exact absurd rfl hne
 | cons x r=>rw [← h4 x (List.mem_cons_self ..)];exact hs x (List.mem_cons_self ..)
theorem sort_ok:IpOk Try.prog 93 sortF false:=
 ip_sort ⟨_,Try.func93,by rfl,by rfl⟩ (fun _ _ _ _ _ _ _ _ _ h h2 h3 h4=>esz_one h h2 h3 h4) Try.slices_Sort_int Try.slices_Sort_int_none
theorem compact_ok:IpOk Try.prog 94 compactF true:=
 ip_compact ⟨_,Try.func94,by rfl,by rfl⟩ (fun _ _ _ _ _ _ _ _ _ h h2 h3 h4=>esz_one h h2 h3 h4) Try.slices_Compact_int Try.slices_Compact_int_empty Lib.compact_length_le
theorem grow_ok:GrOk Try.prog 104 3:=by
 refine gr_grow ⟨_,Try.func104,by rfl,by rfl⟩ (by kernel_rfl) (fun w n h0 h1=>?_) (fun w=>?_)
 ·refine (Any8.slices_Grow_grow growLays Try.t3 (.int .i64 0) Try.type3 (by kernel_rfl) (Nat.le_of_ble_eq_true rfl) none 0 0 n [] w (Nat.le_refl _) (by omega) ?_ (by omega) rfl (fun _=>rfl) (fun a h=>by cases h)).mono ?_
  ·have:Try.t3.bytes=8:=rfl
   rw [this];omega
  ·rintro e w' ⟨rfl,rfl⟩
   refine ⟨_,_,w.drawn+1,rfl,rfl,?_⟩
   have h1:(Value.int IntKind.i64 0).cells.size=1:=rfl
   simp [Builtin.zeroCells,h1]
   omega
 ·exact (Any8.slices_Grow_room growLays none 0 0 0 w (Nat.le_refl _) (by omega) (by omega) (by omega)).mono fun e w' h=>h
noncomputable def cf (mv:List Nat) (nt:Nat):Cfg:=mkCfgV tyTab ipTab grTab mv nt
theorem cfOk (mv:List Nat) (nt:Nat):COk Try.prog (cf mv nt):=by
 refine mkCfgV_ok tyTab_ok (by rfl) ⟨fun g f back h=>?_,fun g E h=>?_⟩
 ·change ipTab g=some (f,back) at h
  unfold ipTab at h
  split at h
  ·rename_i e
   simp only [Option.some.injEq,Prod.mk.injEq] at h
   obtain ⟨rfl,rfl⟩:=h
   rw [Nat.eq_of_beq_eq_true e];exact sort_ok
  ·split at h
   ·rename_i e
    simp only [Option.some.injEq,Prod.mk.injEq] at h
    obtain ⟨rfl,rfl⟩:=h
    rw [Nat.eq_of_beq_eq_true e];exact compact_ok
   ·cases h
 ·change grTab g=some E at h
  unfold grTab at h
  split at h
  ·rename_i e
   simp only [Option.some.injEq] at h;subst h
   rw [Nat.eq_of_beq_eq_true e];exact grow_ok
  ·cases h
end Go.Ev
set_option linter.unusedVariables false
set_option linter.unusedSimpArgs false
namespace Go.Ev
open Go Go.Proofs
set_option maxRecDepth 8000
noncomputable def cfr (mv:List Nat) (nt:Nat):Cfg:={ cf mv nt with rnd:=true }
theorem cfrOk (mv:List Nat) (nt:Nat):COk Try.prog (cfr mv nt):=⟨(cfOk mv nt).cfg,ipsOk_same (cfOk mv nt).ip rfl rfl,(cfOk mv nt).ro⟩
theorem back_ok_134:BackOk Try.prog 134 enc_place_piece:=
 back_of (c:=cf [] 19) (cfOk [] 19) Try.func134 (by rfl) (by rfl) (by rfl) (by rfl) (agg:=true) (sz:=3) (fun x=>by simp [FV.fits,FV.size,FV.cells,FV.one,enc_place_piece_eq]) (fun x=>rfl) (fun h=>by cases h) (by rfl)
  (by rfl) (by rfl) (by rfl) (by rfl) (pre:=(opsOf (sq1 (sq1 (sq1 (sq2 (sq1 (sq1 (sq2 (bodyOf Try.f134))))))))).take 6) (by rfl) (by rfl) (by rfl) (by rfl)
  (fun yv xs=>⟨[],[(1,.f (.pv yv)),(4,.fp (.sl (xs.map (encX true 3))) 0),(10,vi (w64 (((xs.map (encX true 3)).length:Int) - 1))),(13,.f (.sl (xs.map (encX true 3)))),(16,vi (((xs.map (encX true 3)).length:Int))),(19,vi (w64 (((xs.map (encX true 3)).length:Int) - 1)))],by kernel_rfl,by rfl⟩)
  (fun yv xs i=>⟨[],[(1,.f (.pv yv)),(4,.fp (.sl (xs.map (encX true 3))) 0),(10,vi i),(22,vi i),(25,vB (decide (i≥0)))],by kernel_rfl,by rfl,by rfl⟩)
  (fun yv xs i=>⟨[],[(1,.f (.pv yv)),(4,.fp (.sl (xs.map (encX true 3))) 0),(10,vi (w64 (i - 1))),(28,vi i),(31,vi (w64 (i - 1)))],by kernel_rfl,by rfl⟩)
  (fun yv xs i x=>⟨[],[(1,.f (.pv yv)),(4,.fp (.sl (xs.map (encX true 3))) 0),(10,vi i),(34,.f (.pv yv)),(37,vi i),(40,.f (.sl (xs.map (encX true 3)))),(43,vi i),(46,.fp (encX true 3 x) 0),(49,asAV (encX true 3 x))],by kernel_rfl,by rfl,by rfl,by rfl,by rfl⟩) ⟨[],[(52,vB true),(55,vB false)],by kernel_rfl,by rfl⟩ (by simp)
theorem backward_121 (l:List place_piece):CallE Try.prog 121 [vL enc_place_piece l] [] (.clo 134 [.fp (.sl (List.map enc_place_piece l)) 0]) []:=by
 refine callE_semW (x:=bodyOf Try.f121) (cfOk [] 4) Try.func121 (by rfl) (by rfl) (by rfl) (Nat.le_of_ble_eq_true rfl) (by rfl) (by rfl) (Nat.le_of_ble_eq_true rfl) ?_
 refine wkS [1] [(1,vL enc_place_piece l)] (by kernel_rfl) ?_
 refine sR (cfOk [] 4) [] [4,5] [(4,.ptr 5 0),(5,vL enc_place_piece l)] (obs:=[]) (by kernel_rfl) (by kernel_rfl) obN ?_
 refine sR (cfOk [] 4) [] [5,7] [(5,vL enc_place_piece l),(7,.clo 134 [.ptr 5 0])] (obs:=[]) (by kernel_rfl) (by kernel_rfl) obN ?_
 refine Sem.ret' (by kernel_rfl) Wk.refl ?_
 refine ⟨_,Wk.fpz (b:=5) (x:=.sl (List.map enc_place_piece l)) (by rfl) (by rfl) (by rfl),?_⟩
 exact (evEnd_endK (x:=.clo 134 [.fp (.sl (List.map enc_place_piece l)) 0]) (l:=[]) (by kernel_rfl) ⟨rfl,rfl⟩).1
def C_slices_Backward__place_piece_place_piece (a0:List place_piece):Prop:=CallE Try.prog 121 [vL enc_place_piece a0] [] (.clo 134 [.fp (.sl (List.map enc_place_piece a0)) 0]) []
theorem back_ok_117:BackOk Try.prog 117 enc_api_Rx:=
 back_of (c:=cf [] 19) (cfOk [] 19) Try.func117 (by rfl) (by rfl) (by rfl) (by rfl) (agg:=true) (sz:=8) (fun x=>by simp [FV.fits,FV.size,FV.cells,FV.one,enc_api_Rx_eq]) (fun x=>by rw [enc_api_Rx_eq];rfl) (fun h=>by cases h) (by rfl)
  (by rfl) (by rfl) (by rfl) (by rfl) (pre:=(opsOf (sq1 (sq1 (sq1 (sq2 (sq1 (sq1 (sq2 (bodyOf Try.f117))))))))).take 6) (by rfl) (by rfl) (by rfl) (by rfl)
  (fun yv xs=>⟨[],[(1,.f (.pv yv)),(4,.fp (.sl (xs.map (encX true 8))) 0),(10,vi (w64 (((xs.map (encX true 8)).length:Int) - 1))),(13,.f (.sl (xs.map (encX true 8)))),(16,vi (((xs.map (encX true 8)).length:Int))),(19,vi (w64 (((xs.map (encX true 8)).length:Int) - 1)))],by kernel_rfl,by rfl⟩)
  (fun yv xs i=>⟨[],[(1,.f (.pv yv)),(4,.fp (.sl (xs.map (encX true 8))) 0),(10,vi i),(22,vi i),(25,vB (decide (i≥0)))],by kernel_rfl,by rfl,by rfl⟩)
  (fun yv xs i=>⟨[],[(1,.f (.pv yv)),(4,.fp (.sl (xs.map (encX true 8))) 0),(10,vi (w64 (i - 1))),(28,vi i),(31,vi (w64 (i - 1)))],by kernel_rfl,by rfl⟩)
  (fun yv xs i x=>⟨[],[(1,.f (.pv yv)),(4,.fp (.sl (xs.map (encX true 8))) 0),(10,vi i),(34,.f (.pv yv)),(37,vi i),(40,.f (.sl (xs.map (encX true 8)))),(43,vi i),(46,.fp (encX true 8 x) 0),(49,asAV (encX true 8 x))],by kernel_rfl,by rfl,by rfl,by rfl,by rfl⟩) ⟨[],[(52,vB true),(55,vB false)],by kernel_rfl,by rfl⟩ (by simp)
theorem backward_95 (l:List api_Rx):CallE Try.prog 95 [vL enc_api_Rx l] [] (.clo 117 [.fp (.sl (List.map enc_api_Rx l)) 0]) []:=by
 refine callE_semW (x:=bodyOf Try.f95) (cfOk [] 4) Try.func95 (by rfl) (by rfl) (by rfl) (Nat.le_of_ble_eq_true rfl) (by rfl) (by rfl) (Nat.le_of_ble_eq_true rfl) ?_
 refine wkS [1] [(1,vL enc_api_Rx l)] (by kernel_rfl) ?_
 refine sR (cfOk [] 4) [] [4,5] [(4,.ptr 5 0),(5,vL enc_api_Rx l)] (obs:=[]) (by kernel_rfl) (by kernel_rfl) obN ?_
 refine sR (cfOk [] 4) [] [5,7] [(5,vL enc_api_Rx l),(7,.clo 117 [.ptr 5 0])] (obs:=[]) (by kernel_rfl) (by kernel_rfl) obN ?_
 refine Sem.ret' (by kernel_rfl) Wk.refl ?_
 refine ⟨_,Wk.fpz (b:=5) (x:=.sl (List.map enc_api_Rx l)) (by rfl) (by rfl) (by rfl),?_⟩
 exact (evEnd_endK (x:=.clo 117 [.fp (.sl (List.map enc_api_Rx l)) 0]) (l:=[]) (by kernel_rfl) ⟨rfl,rfl⟩).1
def C_slices_Backward__api_Rx_api_Rx (a0:List api_Rx):Prop:=CallE Try.prog 95 [vL enc_api_Rx a0] [] (.clo 117 [.fp (.sl (List.map enc_api_Rx a0)) 0]) []
theorem back_ok_96:BackOk Try.prog 96 enc_u8:=
 back_of (c:=cf [] 19) (cfOk [] 19) Try.func96 (by rfl) (by rfl) (by rfl) (by rfl) (agg:=false) (sz:=1) (fun x=>by rfl) (fun x=>rfl) (fun _=>rfl) (by rfl)
  (by rfl) (by rfl) (by rfl) (by rfl) (pre:=(opsOf (sq1 (sq1 (sq1 (sq2 (sq1 (sq1 (sq2 (bodyOf Try.f96))))))))).take 6) (by rfl) (by rfl) (by rfl) (by rfl)
  (fun yv xs=>⟨[],[(1,.f (.pv yv)),(4,.fp (.sl (xs.map (encX false 1))) 0),(10,vi (w64 (((xs.map (encX false 1)).length:Int) - 1))),(13,.f (.sl (xs.map (encX false 1)))),(16,vi (((xs.map (encX false 1)).length:Int))),(19,vi (w64 (((xs.map (encX false 1)).length:Int) - 1)))],by kernel_rfl,by rfl⟩)
  (fun yv xs i=>⟨[],[(1,.f (.pv yv)),(4,.fp (.sl (xs.map (encX false 1))) 0),(10,vi i),(22,vi i),(25,vB (decide (i≥0)))],by kernel_rfl,by rfl,by rfl⟩)
  (fun yv xs i=>⟨[],[(1,.f (.pv yv)),(4,.fp (.sl (xs.map (encX false 1))) 0),(10,vi (w64 (i - 1))),(28,vi i),(31,vi (w64 (i - 1)))],by kernel_rfl,by rfl⟩)
  (fun yv xs i x=>⟨[],[(1,.f (.pv yv)),(4,.fp (.sl (xs.map (encX false 1))) 0),(10,vi i),(34,.f (.pv yv)),(37,vi i),(40,.f (.sl (xs.map (encX false 1)))),(43,vi i),(46,.fp (encX false 1 x) 0),(49,asAV (encX false 1 x))],by kernel_rfl,by rfl,by rfl,by rfl,by rfl⟩) ⟨[],[(52,vB true),(55,vB false)],by kernel_rfl,by rfl⟩ (by simp)
theorem backward_66 (l:List Int):CallE Try.prog 66 [vL enc_u8 l] [] (.clo 96 [.fp (.sl (List.map enc_u8 l)) 0]) []:=by
 refine callE_semW (x:=bodyOf Try.f66) (cfOk [] 4) Try.func66 (by rfl) (by rfl) (by rfl) (Nat.le_of_ble_eq_true rfl) (by rfl) (by rfl) (Nat.le_of_ble_eq_true rfl) ?_
 refine wkS [1] [(1,vL enc_u8 l)] (by kernel_rfl) ?_
 refine sR (cfOk [] 4) [] [4,5] [(4,.ptr 5 0),(5,vL enc_u8 l)] (obs:=[]) (by kernel_rfl) (by kernel_rfl) obN ?_
 refine sR (cfOk [] 4) [] [5,7] [(5,vL enc_u8 l),(7,.clo 96 [.ptr 5 0])] (obs:=[]) (by kernel_rfl) (by kernel_rfl) obN ?_
 refine Sem.ret' (by kernel_rfl) Wk.refl ?_
 refine ⟨_,Wk.fpz (b:=5) (x:=.sl (List.map enc_u8 l)) (by rfl) (by rfl) (by rfl),?_⟩
 exact (evEnd_endK (x:=.clo 96 [.fp (.sl (List.map enc_u8 l)) 0]) (l:=[]) (by kernel_rfl) ⟨rfl,rfl⟩).1
def C_slices_Backward__byte_byte (a0:List Int):Prop:=CallE Try.prog 66 [vL enc_u8 a0] [] (.clo 96 [.fp (.sl (List.map enc_u8 a0)) 0]) []
end Go.Ev
set_option linter.unusedSimpArgs false
set_option linter.unusedVariables false
namespace Go.Ev
open Go Go.Proofs
set_option maxRecDepth 8000
def C_set_Has (a0:arr4_uint64) (a1:Int) (r0:Bool):Prop:=CallE Try.prog 62 [av_arr4_uint64 a0,vi a1] [] (vB r0) []
def C_hecklelaw03_Maker_Pick (a1:Int) (o0:hecklelaw03_Maker) (r0:Int) (o0':hecklelaw03_Maker):Prop:=CallE Try.prog 27 [.ptr 3 0,vi a1] [av_hecklelaw03_Maker o0] (vi r0) [av_hecklelaw03_Maker o0']
def C_heckleref01_add (a0:arr4_uint64) (a1:Int) (r0:arr4_uint64):Prop:=CallE Try.prog 97 [av_arr4_uint64 a0,vi a1] [] (av_arr4_uint64 r0) []
def C_heckleref01_Of (a0:Int) (a1:Int) (r0:arr4_uint64):Prop:=CallE Try.prog 67 [vi a0,vi a1] [] (av_arr4_uint64 r0) []
def C_heckleref01_Has (a0:arr4_uint64) (a1:Int) (r0:Bool):Prop:=CallE Try.prog 51 [av_arr4_uint64 a0,vi a1] [] (vB r0) []
def C_heckleref01_Not (a0:arr4_uint64) (r0:arr4_uint64):Prop:=CallE Try.prog 100 [av_arr4_uint64 a0] [] (av_arr4_uint64 r0) []
def C_hecklelaw03_char (a0:Int) (r0:api_Rx):Prop:=CallE Try.prog 38 [vi a0] [] (ao_api_Rx r0) []
def C_hecklelaw03_Maker_leaf (o0:hecklelaw03_Maker) (r0:api_Rx) (o0':hecklelaw03_Maker):Prop:=CallE Try.prog 71 [.ptr 3 0] [av_hecklelaw03_Maker o0] (ao_api_Rx r0) [av_hecklelaw03_Maker o0']
def C_hecklelaw03_joined (a0:Int) (a1:(List api_Rx)) (r0:api_Rx):Prop:=CallE Try.prog 72 [vi a0,vL enc_api_Rx a1] [] (ao_api_Rx r0) []
def C_hecklelaw03_Maker_Rx (a1:Int) (o0:hecklelaw03_Maker) (r0:api_Rx) (o0':hecklelaw03_Maker):Prop:=CallE Try.prog 37 [.ptr 3 0,vi a1] [av_hecklelaw03_Maker o0] (ao_api_Rx r0) [av_hecklelaw03_Maker o0']
def C_heckleref03_Size (a0:api_Rx) (r0:Int):Prop:=CallE Try.prog 26 [av_api_Rx a0] [] (vi r0) []
def C_hecklelaw06_small (o0:hecklelaw03_Maker) (r0:api_Rx) (o0':hecklelaw03_Maker):Prop:=CallE Try.prog 56 [.ptr 3 0] [av_hecklelaw03_Maker o0] (av_api_Rx r0) [av_hecklelaw03_Maker o0']
def C_hecklelaw06_rule (a1:Int) (a2:Bool) (o0:hecklelaw03_Maker) (r0:api_Rule) (o0':hecklelaw03_Maker):Prop:=CallE Try.prog 28 [.ptr 3 0,vi a1,vB a2] [av_hecklelaw03_Maker o0] (.agg [oL 3 enc_i64 (api_Rule.Conds r0),vB (api_Rule.All r0),vB (api_Rule.Bol r0),vi (api_Rx.Kind (api_Rule.Rx r0)),vI .u64 (arr4_uint64.e0 (api_Rx.Set (api_Rule.Rx r0))),vI .u64 (arr4_uint64.e1 (api_Rx.Set (api_Rule.Rx r0))),vI .u64 (arr4_uint64.e2 (api_Rx.Set (api_Rule.Rx r0))),vI .u64 (arr4_uint64.e3 (api_Rx.Set (api_Rule.Rx r0))),vi (api_Rx.Lo (api_Rule.Rx r0)),vi (api_Rx.Hi (api_Rule.Rx r0)),vL enc_api_Rx (api_Rx.Kids (api_Rule.Rx r0)),vi (api_Rx.Kind (api_Rule.Trail r0)),vI .u64 (arr4_uint64.e0 (api_Rx.Set (api_Rule.Trail r0))),vI .u64 (arr4_uint64.e1 (api_Rx.Set (api_Rule.Trail r0))),vI .u64 (arr4_uint64.e2 (api_Rx.Set (api_Rule.Trail r0))),vI .u64 (arr4_uint64.e3 (api_Rx.Set (api_Rule.Trail r0))),vi (api_Rx.Lo (api_Rule.Trail r0)),vi (api_Rx.Hi (api_Rule.Trail r0)),vL enc_api_Rx (api_Rx.Kids (api_Rule.Trail r0)),vB (api_Rule.Eof r0),vi (api_Rule.Act r0),vi (api_Rule.To r0)]) [av_hecklelaw03_Maker o0']
def C_hecklelaw06_Made (a0:(List Int)) (a1:Bool) (r0:api_Spec):Prop:=CallE Try.prog 8 [vL enc_u8 a0,vB a1] [] (.agg [vL enc_api_Cond (api_Spec.Conds r0),vB (api_Spec.Default r0),oL 38 enc_api_Rule (api_Spec.Rules r0)]) []
def C_hecklelaw05_Text (a0:(List Int)) (r0:ByteArray):Prop:=CallE Try.prog 9 [vL enc_u8 a0] [] (vS r0) []
def C_rx_pattern_times (a0:rx_pattern) (r0:Bool):Prop:=CallE Try.prog 110 [av_rx_pattern a0] [] (vB r0) []
def C_rx_pattern_own (a0:rx_pattern) (r0:Bool):Prop:=CallE Try.prog 89 [av_rx_pattern a0] [] (vB r0) []
def C_rx_pattern_right_L1 (a0:api_Rx) (o0:rx_pattern) (o1:Int) (r0:Bool) (o0':rx_pattern) (o1':Int):Prop:=CallE Try.prog 88 [av_api_Rx a0,.ptr 3 0,.ptr 6 0] [av_rx_pattern o0,vi o1] (vB r0) [av_rx_pattern o0',vi o1']
def C_slices_IndexFunc__api_Rx_api_Rx_at_rx_pattern_right_L1 (a0:(List api_Rx)) (o0:rx_pattern) (o1:Int) (r0:Int) (o0':rx_pattern) (o1':Int):Prop:=CallE Try.prog 111 [vL enc_api_Rx a0,.clo 88 [.ptr 3 0,.ptr 6 0]] [av_rx_pattern o0,vi o1] (vi r0) [av_rx_pattern o0',vi o1']
def C_slices_ContainsFunc__api_Rx_api_Rx_at_rx_pattern_right_L1 (a0:(List api_Rx)) (o0:rx_pattern) (o1:Int) (r0:Bool) (o0':rx_pattern) (o1':Int):Prop:=CallE Try.prog 90 [vL enc_api_Rx a0,.clo 88 [.ptr 3 0,.ptr 6 0]] [av_rx_pattern o0,vi o1] (vB r0) [av_rx_pattern o0',vi o1']
def C_rx_pattern_right (a0:rx_pattern) (a1:Int) (r0:Bool):Prop:=CallE Try.prog 57 [av_rx_pattern a0,vi a1] [] (vB r0) []
def C_rx_Size (a0:api_Rx) (r0:Int):Prop:=CallE Try.prog 58 [av_api_Rx a0] [] (vi r0) []
def C_rx_nodes (a0:api_Rx) (a1:Int) (r0:Int):Prop:=CallE Try.prog 59 [av_api_Rx a0,vi a1] [] (vi r0) []
def C_rx_Right (a0:api_Rx) (r0:Bool):Prop:=CallE Try.prog 29 [av_api_Rx a0] [] (vB r0) []
def C_place_builder_place (a1:arr4_uint64) (o0:place_builder) (r0:place_piece) (o0':place_builder):Prop:=CallE Try.prog 112 [.ptr 3 0,av_arr4_uint64 a1] [ao_place_builder o0] (av_place_piece r0) [ao_place_builder o0']
def C_slices_Concat__int_int (a0:(List (List Int))) (r0:(List Int)):Prop:=CallE Try.prog 79 [vL encs_i64 a0] [] (oL 3 enc_i64 r0) []
def C_place_Join_int (a0:(List Int)) (a1:(List Int)) (r0:(List Int)):Prop:=CallE Try.prog 64 [vL enc_i64 a0,vL enc_i64 a1] [] (vL enc_i64 r0) []
def C_place_builder_lead (a1:(List Int)) (a2:(List Int)) (o0:place_builder) (o0':place_builder):Prop:=CallE Try.prog 119 [.ptr 3 0,vL enc_i64 a1,vL enc_i64 a2] [ao_place_builder o0] (.tup []) [ao_place_builder o0']
def C_place_builder_cat (a1:place_piece) (a2:place_piece) (o0:place_builder) (r0:place_piece) (o0':place_builder):Prop:=CallE Try.prog 113 [.ptr 3 0,av_place_piece a1,av_place_piece a2] [ao_place_builder o0] (av_place_piece r0) [ao_place_builder o0']
def C_place_builder_copies (a1:api_Rx) (a2:Int) (o0:place_builder) (r0:(List place_piece)) (o0':place_builder):Prop:=CallE Try.prog 120 [.ptr 3 0,av_api_Rx a1,vi a2] [ao_place_builder o0] (oL 133 enc_place_piece r0) [ao_place_builder o0']
def C_place_maybe (a0:place_piece) (r0:place_piece):Prop:=CallE Try.prog 122 [av_place_piece a0] [] (av_place_piece r0) []
def C_place_builder_rep (a1:api_Rx) (o0:place_builder) (r0:place_piece) (o0':place_builder):Prop:=CallE Try.prog 114 [.ptr 3 0,av_api_Rx a1] [ao_place_builder o0] (av_place_piece r0) [ao_place_builder o0']
def C_place_builder_piece (a1:api_Rx) (o0:place_builder) (r0:place_piece) (o0':place_builder):Prop:=CallE Try.prog 91 [.ptr 3 0,av_api_Rx a1] [ao_place_builder o0] (av_place_piece r0) [ao_place_builder o0']
def C_place_Of (a0:api_Rx) (r0:api_Places) (r1:Int):Prop:=CallE Try.prog 60 [av_api_Rx a0] [] (.tup [av_api_Places r0,vi r1]) []
def C_slices_Index__int_int (a0:(List Int)) (a1:Int) (r0:Int):Prop:=CallE Try.prog 92 [vL enc_i64 a0,vi a1] [] (vi r0) []
def C_slices_Contains__int_int (a0:(List Int)) (a1:Int) (r0:Bool):Prop:=CallE Try.prog 63 [vL enc_i64 a0,vi a1] [] (vB r0) []
def C_split_ahead_L1 (a0:Int) (o0:api_Places) (o1:ByteArray) (o2:Int) (r0:Bool) (o0':api_Places) (o1':ByteArray) (o2':Int):Prop:=CallE Try.prog 61 [vi a0,.ptr 3 0,.ptr 6 0,.ptr 9 0] [av_api_Places o0,vS o1,vi o2] (vB r0) [av_api_Places o0',vS o1',vi o2']
def C_split_ahead (a0:api_Rx) (a1:ByteArray) (r0:(List Bool)):Prop:=CallE Try.prog 30 [av_api_Rx a0,vS a1] [] (oL 4 enc_bool r0) []
def C_split_Ahead (a0:api_Rx) (a1:ByteArray) (r0:(List Bool)):Prop:=CallE Try.prog 19 [av_api_Rx a0,vS a1] [] (oL 4 enc_bool r0) []
def C_split_turned_api_Rx (a0:(List api_Rx)) (r0:(List api_Rx)):Prop:=CallE Try.prog 65 [vL enc_api_Rx a0] [] (vL enc_api_Rx r0) []
def C_split_reverse (a0:api_Rx) (r0:api_Rx):Prop:=CallE Try.prog 31 [av_api_Rx a0] [] (av_api_Rx r0) []
def C_split_turned_byte (a0:(List Int)) (r0:(List Int)):Prop:=CallE Try.prog 32 [vL enc_u8 a0] [] (vL enc_u8 r0) []
def C_split_Split (a0:api_Rule) (a1:ByteArray) (r0:Int):Prop:=CallE Try.prog 10 [av_api_Rule a0,vS a1] [] (vi r0) []
def C_heckleref03_right (a0:api_Rx) (a1:Int) (r0:Bool):Prop:=CallE Try.prog 39 [av_api_Rx a0,vi a1] [] (vB r0) []
def C_heckleref03_Nodes (a0:api_Rx) (a1:Int) (r0:Int):Prop:=CallE Try.prog 40 [av_api_Rx a0,vi a1] [] (vi r0) []
def C_heckleref03_Right (a0:api_Rx) (r0:Bool):Prop:=CallE Try.prog 16 [av_api_Rx a0] [] (vB r0) []
def C_heckleref05_May (a0:api_Rx) (a1:ByteArray) (r0:Bool):Prop:=CallE Try.prog 73 [av_api_Rx a0,vS a1] [] (vB r0) []
def C_heckleref05_or (a0:(List Bool)) (a1:(List Bool)) (r0:(List Bool)):Prop:=CallE Try.prog 101 [vL enc_bool a0,vL enc_bool a1] [] (oL 4 enc_bool r0) []
def C_heckleref05_closed (a0:api_Rx) (r0:Bool):Prop:=CallE Try.prog 102 [av_api_Rx a0] [] (vB r0) []
def C_heckleref05_within (a0:(List Bool)) (a1:(List Bool)) (r0:Bool):Prop:=CallE Try.prog 103 [vL enc_bool a0,vL enc_bool a1] [] (vB r0) []
def C_heckleref05_step (a0:api_Rx) (a1:ByteArray) (a2:(List Bool)) (r0:(List Bool)):Prop:=CallE Try.prog 74 [av_api_Rx a0,vS a1,vL enc_bool a2] [] (vL enc_bool r0) []
def C_heckleref05_Ends (a0:api_Rx) (a1:ByteArray) (a2:Int) (r0:(List Int)):Prop:=CallE Try.prog 41 [av_api_Rx a0,vS a1,vi a2] [] (oL 3 enc_i64 r0) []
def C_heckleref05_Match (a0:api_Rx) (a1:ByteArray) (r0:Bool):Prop:=CallE Try.prog 17 [av_api_Rx a0,vS a1] [] (vB r0) []
def C_heckleref08_Head (a0:api_Rule) (a1:ByteArray) (r0:Int):Prop:=CallE Try.prog 33 [av_api_Rule a0,vS a1] [] (vi r0) []
def C_heckleref15_Split (a0:api_Rule) (a1:ByteArray) (r0:Int):Prop:=CallE Try.prog 11 [av_api_Rule a0,vS a1] [] (vi r0) []
def C_hecklelaw15_char (a0:Int) (r0:api_Rx):Prop:=CallE Try.prog 34 [vi a0] [] (ao_api_Rx r0) []
def C_split_Reverse (a0:api_Rx) (r0:api_Rx) (r1:Int):Prop:=CallE Try.prog 14 [av_api_Rx a0] [] (.tup [av_api_Rx r0,vi r1]) []
def C_heckleref01_Runs (a0:arr4_uint64) (r0:(List arr2_int)):Prop:=CallE Try.prog 98 [av_arr4_uint64 a0] [] (oL 145 enc_arr2_int r0) []
def C_heckleref03_Plain (a0:Int) (r0:Bool):Prop:=CallE Try.prog 118 [vi a0] [] (vB r0) []
def C_heckleref03_char (a0:Int) (r0:ByteArray):Prop:=CallE Try.prog 99 [vi a0] [] (vS r0) []
def C_heckleref03_bytes (a0:arr4_uint64) (r0:ByteArray):Prop:=CallE Try.prog 68 [av_arr4_uint64 a0] [] (vS r0) []
def C_heckleref03_in (a0:api_Rx) (a1:Bool) (r0:ByteArray):Prop:=CallE Try.prog 69 [av_api_Rx a0,vB a1] [] (vS r0) []
def C_heckleref03_Digits (a0:Int) (r0:ByteArray):Prop:=CallE Try.prog 70 [vi a0] [] (vS r0) []
def C_heckleref03_Text (a0:api_Rx) (r0:ByteArray):Prop:=CallE Try.prog 35 [av_api_Rx a0] [] (vS r0) []
def C_heckleref15_Bools (a0:(List Bool)) (a1:(List Bool)) (r0:Bool):Prop:=CallE Try.prog 36 [vL enc_bool a0,vL enc_bool a1] [] (vB r0) []
def C_hecklelaw15_awake (r0:Bool):Prop:=CallE Try.prog 12 [] [] (vB r0) []
def C_hecklelaw15_SplitRules (a0:(List Int)) (a1:(List Int)) (r0:Bool):Prop:=CallE Try.prog 3 [vL enc_u8 a0,vL enc_u8 a1] [] (vB r0) []
end Go.Ev
