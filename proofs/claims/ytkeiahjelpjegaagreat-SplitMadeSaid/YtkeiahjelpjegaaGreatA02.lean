import Derived.Test.YtkeiahjelpjegaaGreatA01
import Derived.KernelRfl
import Derived.Test.YtkeiahjelpjegaaGreatProg
import Derived.Shelf.Small.Bits
import Derived.Shelf.Small.Wraps
import Derived.Shelf.Strconv.Itoa0
import Derived.Shelf.Sort.Plain
import Derived.Shelf.Slices.Turned
import Derived.Ground.Names2Prog
import Derived.Shelf.Slices.CompactI
import Derived.Shelf.Slices.SearchI
import Derived.Shelf.Slices.Cells
import Derived.Shelf.Slices.In.SortNone
import Derived.Shelf.Spec.SlicesGrow
import Derived.Lib.RowBridge
set_option linter.unusedVariables false
set_option linter.unusedSimpArgs false
namespace Go.Ev
open Go Go.RowKit
variable {P : Program}
section
variable {c : Cfg} {G : Sta} {K : Ex → Sta → Prop} {x : Code}
def rndK (P:Program) (c:Cfg) (bs:List Nat) (J:List AV→Prop):Ex→Sta→Prop
 | .normal,G=>∃ G' cs',Wk P c.nt G G'∧evOuts bs.length 0 G'=some (cs'.map (ren1 (toOut bs)))∧J cs'
 | _,_=>False
theorem Sem.range {σ:Type} (hr:c.rnd=false) {tg p0 p1:Tmp} (e:x=.rangeFunc (.tmp tg) #[p0,p1] (sq1 x) (sq2 x))
 {gf:FuncId} {α:Type} {enc:α→FV} {xs:List α} {sz:Nat} (hg:get G (tb tg)=some (.clo gf [.fp (.sl (xs.map enc)) 0])) (hb:BackOk P gf enc) {ey:α→FV} (he:∀ x,enc x=ey x) (hl:∀ x,(enc x).fits sz=true) (hll:(xs.length:Int)≤9223372036854775807)
 (gt:Sta) (bs:List Nat) (cs:σ→List AV) (Inv:Nat→σ→Prop) (s0:σ) (hw:Wk P c.nt G (gt++zs bs (cs s0))) (hi:Inv 0 s0)
 (k1:gtOk bs gt=true) (k2:∀ s,csOk bs (cs s)=true) (k3:bsOk bs=true) (k4:bs.Nodup) (k5:∀ s s',sameLens (cs s) (cs s')=true) (k6:p0 < c.nt) (k7:p1 < c.nt) (k8:p0≠p1)
 (round:∀ i s y,i < xs.length→xs[xs.length - 1 - i]?=some y→Inv i s→Sem P { c with rnd:=true } (sq1 x) (rst gt bs (cs s) p0 p1 ((xs.length:Int) - 1 - i) (ey y))
   fun e G'=>e=.normal∧Sem P { c with rnd:=true } (sq2 x) G' (rndK P c bs fun l=>∃ s',l=cs s'∧Inv (i+1) s'))
 (done:∀ s,Inv xs.length s→∃ G',Wk P c.nt (gt++zs bs (cs s)) G'∧K .normal G'):Sem P c x G K:=by
 rw [e]
 intro own a w F n Q hF s hQ
 obtain ⟨hF,hro⟩:=hF
 have hro:=hro hr
 obtain ⟨u,hu,hru⟩:=s.temps tg _ hg
 obtain ⟨arr,ha1,ha2,ha3⟩:∃ arr,u=.func (.func gf) #[] arr∧([AV.fp (.sl (xs.map enc)) 0]:List AV).length=arr.size∧∀ (j:Nat) x v,[AV.fp (.sl (xs.map enc)) 0][j]?=some x→arr[j]?=some v→RC own w x v:=hru
 obtain ⟨lb,rfl⟩:∃ lb,arr=#[lb]:=by
  match arr,ha2 with
  | ⟨[lb]⟩,_=>exact ⟨lb,rfl⟩
 have hlb:RC own w (.fp (.sl (xs.map enc)) 0) lb:=ha3 0 _ lb rfl rfl
 have hgive:=hb xs own w lb hll hlb s.one s.lt
 have hev:a.eval (.tmp tg)=.func (.func gf) #[] #[lb]:=by
  show a.tmps.getD tg _=_
  rw [Array.getD_eq_getD_getElem?,hu,← ha1];rfl
 obtain ⟨own0,s00,t00⟩:=hw own a w s
 refine range_wp (P:=P) hF hro hev hgive (fun k hk=>hk.1) (fun i y hy=>by obtain ⟨_,_,_,rfl,_⟩:=hy;rfl)
  (fun rec i W=>∃ st own',Inv i st∧St P c.nt (gt++zs bs (cs st)) own' a W∧Tr own w own' W∧own' w.heap.size=none∧own' (w.heap.size+1)=none∧w.heap.size+1 < W.heap.size) ?_ ?_ ?_ ?_
 ·rintro rec i W W' ⟨st,own',hinv,s1,t1,o1,o2,hsz⟩ _ hg
  refine ⟨st,own',hinv,s1.ck ⟨hg.size,fun k arr T z hk=>(hg.keep k (Array.getElem?_eq_some_iff.1 hk).1).trans hk⟩,t1.trans (hg.tr s1.lt),o1,o2,Nat.lt_of_lt_of_le hsz hg.size⟩
 ·rintro fn rec i xx m W hrdy hpd hlt ⟨y',v,hy,hxx,hrf⟩ ⟨st,own',hinv,s1,t1,o1,o2,hsz⟩ hL hD hku
  rw [List.length_map] at hy hxx
  subst hxx
  obtain ⟨y,hy1,rfl⟩:∃ y,xs[xs.length - 1 - i]?=some y∧enc y=y':=by
   rw [List.getElem?_map] at hy
   cases hq:xs[xs.length - 1 - i]? with
   | none=>rw [hq] at hy;cases hy
   | some z=>rw [hq] at hy;cases hy;exact ⟨z,rfl,rfl⟩
  have s2:=round_st k1 (k2 st) k3 k4 s1 k6 k7 k8 (i:=(xs.length:Int) - 1 - i) (hl y) (hrf.mono t1)
  have hnn:∀ k,own' k=none→ownC bs own' k=none:=fun k hk=>by simp [ownC,hk]
  have hrnd:=round i st y hlt hy1 hinv
  rw [← he y] at hrnd
  refine hrnd _ _ W (F.inRound (w.heap.size+1)) m _ ⟨zg7 hF _,fun h=>(by cases h)⟩ s2 ?_
  rintro e2 G2 own2 a2 w2 ⟨rfl,hsem⟩ s3 t3 _
  have hL2:w2.heap[w.heap.size+1]?=some (Obj.loop rec):=(t3.keep _ hsz (hnn _ o2)).2.trans hL
  refine ⟨hL2,?_⟩
  have hck:CK w2 (w2.putObj (w.heap.size+1) (Obj.loop { rec with state:=.busy })):=CK.put hL2 (fun _ _ _ e=>by cases e)
  refine hsem own2 a2 _ (F.inRound (w.heap.size+1)) m _ ⟨zg7 hF _,fun h=>(by cases h)⟩ (s3.ck hck) ?_
  intro e3 G3 own3 a3 w3 hk s4 t4 _
  cases e3 with
  | exit id=>exact hk.elim
  | ret=>exact hk.elim
  | normal=>
    obtain ⟨G4,cs',hwk,hout,st',rfl,hinv'⟩:=hk
    obtain ⟨own4,s5,t5⟩:=hwk own3 a3 w3 s4
    have hsz2:w.heap.size+1 < w2.heap.size:=Nat.lt_of_lt_of_le hsz t3.size
    have o2':own2 (w.heap.size+1)=none:=(t3.keep _ hsz (hnn _ o2)).1
    have o1':own2 w.heap.size=none:=(t3.keep _ (by omega) (hnn _ o1)).1
    have t45:Tr own2 (w2.putObj (w.heap.size+1) (Obj.loop { rec with state:=.busy })) own4 w3:=t4.trans t5
    have hL3:w3.heap[w.heap.size+1]?=some (Obj.loop { rec with state:=.busy }):=
     (t45.keep _ (by rw [zb7];exact hsz2) o2').2.trans (World.putObj_heap_same hsz2)
    have hD2:w2.heap[w.heap.size]?=some (Obj.deferred (some [])):=(t3.keep _ (by omega) (hnn _ o1)).2.trans hD
    have hD3:w3.heap[w.heap.size]?=some (Obj.deferred (some [])):=
     (t45.keep _ (by rw [zb7];omega) o1').2.trans ((World.putObj_heap_other (by omega)).trans hD2)
    have t6:=t45.norm (X:=Obj.loop rec) (l:=w.heap.size+1) (by rw [zb7];exact hsz2) o2'
    rw [ze7,zhf hL2] at t6
    have t7:Tr (ownC bs own') W own4 (w3.putObj (w.heap.size+1) (Obj.loop rec)):=t3.trans t6
    have hck3:CK w3 (w3.putObj (w.heap.size+1) (Obj.loop rec)):=CK.put hL3 (fun _ _ _ e=>by cases e)
    obtain ⟨own5,s6,t8⟩:=round_back k1 (k2 st) (k2 st') k3 k4 (k5 st st') s1 (s5.ck hck3) hout t7
    have t9:Tr own w own5 (w3.putObj (w.heap.size+1) (Obj.loop rec)):=t1.trans t8
    refine ⟨hL3,hD3,?_,⟨st',own5,hinv',s6,t9,(t8.keep _ (by omega) o1).1,(t8.keep _ hsz o2).1,Nat.lt_of_lt_of_le hsz t8.size⟩⟩
    have hku2:=t9.ku
    have h3e:w3=(w3.putObj (w.heap.size+1) (Obj.loop rec)).putObj (w.heap.size+1) (Obj.loop { rec with state:=.busy }):=by
     rw [ze7,zhf hL3]
    rw [h3e]
    exact hku2.put _ fun k hk=>by have:=hk.1;omega
 ·intro rec
  have hsz:((w.alloc (Obj.deferred (some []))).alloc (Obj.loop rec)).heap.size=w.heap.size+2:=by simp
  have hold:∀ k,k < w.heap.size→((w.alloc (Obj.deferred (some []))).alloc (Obj.loop rec)).heap[k]?=w.heap[k]?:=fun k hk=>
   (Below.heap_alloc _ _ _ (by simp;omega)).trans (Below.heap_alloc _ _ _ hk)
  have hlt0:=s00.lt
  have tt:Tr own0 w own0 ((w.alloc (Obj.deferred (some []))).alloc (Obj.loop rec)):=
   ⟨by rw [hsz];omega,fun k hk h=>⟨h,hold k hk⟩,rfl,rfl,rfl,fun k o h=>⟨h,hold k (hlt0 _ _ h)⟩,fun _ _ _ h=>h⟩
  refine ⟨s0,own0,hi,?_,t00.trans tt,?_,?_,by rw [hsz];omega⟩
  ·refine s00.ck ⟨by rw [hsz];omega,fun k arr T z hk=>?_⟩
   rw [hold k (Array.getElem?_eq_some_iff.1 hk).1];exact hk
  ·cases h:own0 w.heap.size with
   | none=>rfl
   | some o=>have:=hlt0 _ _ h;omega
  ·cases h:own0 (w.heap.size+1) with
   | none=>rfl
   | some o=>have:=hlt0 _ _ h;omega
 ·rintro rec W ⟨st,own',hinv,s1,t1,o1,o2,hsz⟩ hL hD
  have hck:CK W (W.putObj (w.heap.size+1) (Obj.loop { rec with state:=.exhausted })):=CK.put hL (fun _ _ _ e=>by cases e)
  have s2':=s1.ck hck
  obtain ⟨G',hwk,hkk⟩:=done st hinv
  obtain ⟨own'',s2,t2⟩:=hwk own' a _ s2'
  refine hQ .normal _ own'' { a with defers:=mark w.heap.size :: a.defers } _ hkk ⟨s2.size,s2.temps,s2.boxes,s2.one,s2.lt⟩ ((t1.put (by omega) _ s.lt).trans t2) ?_
  refine ⟨[w.heap.size],rfl,by simp,fun D hD'=>?_⟩
  simp only [List.mem_singleton] at hD'
  subst hD'
  exact ⟨Nat.le_refl _,(t2.keep _ (by rw [zb7];omega) o1).1,(World.putObj_heap_other (by omega)).trans hD⟩
end
end Go.Ev
set_option linter.unusedVariables false
set_option linter.unusedSimpArgs false
namespace Go.Ev
open Go Go.RowKit
variable {P : Program}
def opsOf (x:Code):List Oper:=match x with
 | .region _ ops _=>ops.toList
 | _=>[]
section
variable {F : Fence} {n : Nat} {a : Act} {w : World} {next next' : Act → World → Prop} {Q Q' : Exit → Act → World → Prop} {o : Oper}
theorem zgn {a:Act} {t:Tmp} {d:Option Tmp} {v:Value} (h:d≠some t):(a.put d v).tmps[t]?=a.tmps[t]?:=by
 cases d with
 | none=>rfl
 | some s=>rw [zdi,Array.getElem?_setIfInBounds_ne (by rintro rfl;exact h rfl)]
theorem uponIn_keep {t:Tmp} (ht:o.dst≠some t) (hn:∀ a' w',next' a' w'→a'.tmps[t]?=a.tmps[t]?→next a' w') (hq:∀ e a w,e≠.normal→Q' e a w→Q e a w) {r:Result Next} (h:o.uponIn F n P a next' Q' r):o.uponIn F n P a next Q r:=by
 have hlets:LetsOut Q'→LetsOut Q:=fun ⟨a,w,h⟩=>⟨a,w,hq _ _ _ (by simp) h⟩
 unfold Oper.uponIn at h ⊢
 split at h
 ·exact hn _ _ h (zgn ht)
 ·exact hn _ _ h (zgn ht)
 ·exact hn _ _ h (zgn (a:={ a with defers:=_ :: a.defers }) ht)
 ·refine ⟨h.1,h.2.mono ?_⟩
  intro e w' h'
  cases e with
  | returned v=>exact hn _ _ h' (zgn ht)
  | panicked c=>exact hq _ _ _ (by simp) h'
  | outgrown=>exact hlets h'
 ·refine ⟨h.1,h.2.mono ?_⟩
  intro e w' h'
  exact hn _ _ h' (zgn ht)
 ·refine ⟨h.1,h.2.mono ?_⟩
  intro e w' h'
  cases e with
  | returned v=>exact hn _ _ h' (zgn ht)
  | panicked c=>exact hq _ _ _ (by simp) h'
  | outgrown=>exact hlets h'
 ·exact hq _ _ _ (by simp) h
 ·exact h.elim
theorem zci {ops:Array Oper} {t:Tmp}:∀ (l:List Nat) {a:Act} {w:World},(∀ i∈l,∀ o,ops[i]?=some o→o.dst≠some t)→
 wpOpsIn F n P ops (fun e a' w'=>(e=.normal→a'.tmps[t]?=a.tmps[t]?)→Q e a' w') l a w→wpOpsIn F n P ops Q l a w
 | [],a,w,_,h=>h fun _=>rfl
 | i :: r,a,w,hl,h=>by
   have hr:=fun j hj=>hl j (List.mem_cons_of_mem _ hj)
   unfold wpOpsIn at h ⊢
   split
   ·rename_i ho;rw [ho] at h;exact zci r hr h
   ·rename_i o ho
    rw [ho] at h
    dsimp only at h ⊢
    have hd:=hl i (List.mem_cons_self ..) o ho
    have key:∀ a' w',wpOpsIn F n P ops (fun e a' w'=>(e=.normal→a'.tmps[t]?=a.tmps[t]?)→Q e a' w') r a' w'→a'.tmps[t]?=a.tmps[t]?→wpOpsIn F n P ops Q r a' w':=by
     intro a' w' h2 e
     rw [← e] at h2
     exact zci r hr h2
    split at h
    ·rename_i hw
     rw [if_pos hw]
     exact ⟨h.1,uponIn_keep hd key (fun e a w hne hq=>hq fun e'=>absurd e' hne) h.2⟩
    ·rename_i hw
     rw [if_neg hw]
     exact ⟨h.1,key _ _ h.2 (zgn hd)⟩
end
section
variable {c : Cfg} {F : Fence} {n : Nat} {Q : Exit → Act → World → Prop} {ops : Array Oper}
theorem regX (hc:COk P c) (hF:WideF P F) {id:Nat} {q:List Ora} {G G':Sta} {obs:List Prop} {log:List Lg} {own:Own} {a:Act} {w:World} (h:evOps (CallE P) c ops false ops.toList 0 [] G q=some (obs,log,G')) (ho:AllP obs)
 (hd:ops.toList.all (fun o=>o.dst != some 0 && o.dst != some 1)=true) (s:St P c.nt G own a w)
 (hq:∀ own' a' w',St P c.nt G' own' a' w'→Tr own w own' w'→a'.defers=a.defers→a'.tmps[0]?=a.tmps[0]?→a'.tmps[1]?=a.tmps[1]?→Q .normal a' w'):(Code.region id ops false).wpIn F n P Q a w:=by
 have hdd:∀ (i:Nat) o,ops[i]?=some o→o.dst≠some 0∧o.dst≠some 1:=fun i o h=>by
  have:=List.all_eq_true.1 hd o (by rw [← Array.getElem?_toList] at h;exact List.mem_of_getElem? h)
  simpa using this
 refine wpIn_region (zci (t:=0) _ (fun i _ o h=>(hdd i o h).1) (zci (t:=1) _ (fun i _ o h=>(hdd i o h).2) ?_))
 refine wpOps_pre hc hF (pre:=ops.toList) (rest:=[]) (by simp) h ho s ?_
 intro own' a' w' s' t' d' h1 h0
 exact hq own' a' w' s' t' d' (h0 rfl) (h1 rfl)
theorem fp_no {own:Own} {w:World} {x:FV} {o:Nat} {u:Value} (h:RC own w (.fp x o) u):RC no w (.fp x o) u:=by
 obtain ⟨k,q,h1,h2,h3,h4⟩:=h
 exact ⟨k,q,h1,rfl,h3,fun j y e=>let ⟨v,e1,e2⟩:=h4 j y e;⟨v,e1,e2.mono0 fun _ _=>rfl⟩⟩
theorem zh6 {own':Own} {w w':World} (t:Tr no w own' w'):Grow w w':=⟨t.size,fun k hk=>(t.keep k hk rfl).2,t.os,t.tape,t.output⟩
theorem run_callY {a:Act} {w:World} {o:Oper} {t:Tmp} {args:Array Operand} {ats:Array TypeId} {l:Nat} (ho:o.op=.call { callee:=.value (.tmp t),args,argTypes:=ats })
 (hv:a.eval (.tmp t)=.func (.yield l) #[] #[]):(execOp a.eval o).run P w=(Instr.yield l (args.map a.eval)).run P w:=by
 simp only [execOp,ho,resolve,hv,Deferred.ofValue,Sem.run_bind,Sem.run_pure,Result.andThen_ok,invoke,Array.empty_append,Array.append_empty]
theorem rc_pv {own:Own} {w:World} {v u:Value} (h:RC own w (.f (.pv v)) u):u=v:=by
 obtain ⟨_,h⟩:=h
 cases h;rfl
theorem zdD {G:Sta} {own:Own} {a:Act} {w:World} {t:Tmp} {v:Value} (s:St P c.nt G own a w) (h:get G (tb t)=some (.f (.pv v))):a.tmps[t]?=some v:=by
 obtain ⟨u,h1,h2⟩:=s.temps t _ h
 rw [h1,rc_pv (show RC own w (.f (.pv v)) u from h2)]
theorem zhA {l:Array Value} {t:Nat} {v d:Value} (h:l[t]?=some v):l.getD t d=v:=by
 rw [Array.getD_eq_getD_getElem?,h];rfl
def encX (agg:Bool) (sz:Nat) (f:Nat→Value):FV:=
 match agg with
 | true=>.agg ((List.range sz).map fun j=>.pv (f j))
 | false=>.pv (f 0)
def isAggF:FV→Bool
 | .agg _=>true
 | _=>false
theorem rf_one {own:Own} {w:World} {y:FV} {v:Value} (h:RF own w y v) (hy:y.one=true):v.oneCell'=true:=by
 cases h with
 | pv=>assumption
 | agg=>simp [FV.one] at hy
 | sl=>rfl
theorem exact_list {own:Own} {w:World} {α:Type} {enc:α→FV} {xs:List α} {s:Value} {sz:Nat} {agg:Bool} (hfit:∀ x,(enc x).fits sz=true) (hagg:∀ x,isAggF (enc x)=agg) (hsz:agg=false→sz=1) (h:RF own w (.sl (xs.map enc)) s) :
 ∃ fs:List (Nat→Value),fs.length=xs.length∧RF own w (.sl (fs.map (encX agg sz))) s∧
   ∀ (i:Nat) x f,xs[i]?=some x→fs[i]?=some f→∀ u own' w' b,RL P [] own' w' b (asAV (encX agg sz f)) u→RF own w (enc x) u:=by
 cases h with
 | sl _ a n c ad sz' hn hc ha hsz' hcell hv=>
 have hcells:∀ (x:α),(enc x).cells.length=sz∧∀ y∈(enc x).cells,y.one=true:=fun x=>by
  have:=hfit x
  simp only [FV.fits,FV.size,Bool.and_eq_true,beq_iff_eq,List.all_eq_true] at this
  exact this
 let f:Nat→Nat→Value:=fun i j=>((w.cell? ⟨ad.block,ad.off+(i * sz'+j),none⟩).getD undef)
 have hfc:∀ (i:Nat) x (j:Nat) y,xs[i]?=some x→(enc x).cells[j]?=some y→w.cell? ⟨ad.block,ad.off+(i * sz'+j),none⟩=some (f i j)∧RF own w y (f i j):=by
  intro i x j y hx hy
  have hxe:(xs.map enc)[i]?=some (enc x):=by rw [List.getElem?_map,hx];rfl
  obtain ⟨v,e1⟩:=hcell i (enc x) j y hxe hy
  have:f i j=v:=by simp only [f,e1];rfl
  rw [this]
  exact ⟨e1,hv i (enc x) j y v hxe hy e1⟩
 have hxl:(encX agg sz fun _=>undef).cells.length=sz:=by
  cases agg with
  | true=>simp [encX,FV.cells]
  | false=>simp [encX,FV.cells,hsz rfl]
 have hxc:∀ (g:Nat→Value) (j:Nat) y,(encX agg sz g).cells[j]?=some y→j < sz∧y=.pv (g j):=by
  intro g j y h
  cases agg with
  | true=>
    simp only [encX,FV.cells,List.getElem?_map] at h
    by_cases hj:j < sz
    ·rw [List.getElem?_range hj] at h;simp at h;exact ⟨hj,h.symm⟩
    ·rw [List.getElem?_eq_none (by simpa using hj)] at h;simp at h
  | false=>
    simp only [encX,FV.cells] at h
    cases j with
    | zero=>simp at h;exact ⟨by rw [hsz rfl];omega,h.symm⟩
    | succ j=>simp at h
 have hsize:∀ g,(encX agg sz g).size=sz:=fun g=>by
  cases agg with
  | true=>simp [encX,FV.size,FV.cells]
  | false=>simp [encX,FV.size,FV.cells,hsz rfl]
 have hget:∀ (i:Nat),((List.range xs.length).map f)[i]?=if i < xs.length then some (f i) else none:=fun i=>by
  rw [List.getElem?_map]
  split
  ·rename_i h;rw [List.getElem?_range h];rfl
  ·rename_i h;rw [List.getElem?_eq_none (by simpa using h)];rfl
 refine ⟨(List.range xs.length).map f,by simp,?_,?_⟩
 ·have hne:((List.range xs.length).map f).map (encX agg sz)≠[]→xs.map enc≠[]:=by
   intro h e
   have:xs=[]:=by simpa using e
   subst this;simp at h
  have hcell':∀ (i:Nat) x (j:Nat) y,(((List.range xs.length).map f).map (encX agg sz))[i]?=some x→x.cells[j]?=some y→w.cell? ⟨ad.block,ad.off+(i * sz'+j),none⟩=some (f i j)∧y=.pv (f i j)∧(f i j).oneCell'=true:=by
   intro i x j y hx hy
   rw [List.getElem?_map,hget] at hx
   split at hx
   ·rename_i hi
    simp only [Option.map_some,Option.some.injEq] at hx
    subst hx
    obtain ⟨hj,rfl⟩:=hxc _ _ _ hy
    obtain ⟨x0,hx0⟩:∃ x0,xs[i]?=some x0:=⟨xs[i],by simp⟩
    obtain ⟨y0,hy0⟩:∃ y0,(enc x0).cells[j]?=some y0:=⟨(enc x0).cells[j]'(by rw [(hcells x0).1];exact hj),by simp⟩
    obtain ⟨q1,q2⟩:=hfc i x0 j y0 hx0 hy0
    exact ⟨q1,rfl,rf_one q2 ((hcells x0).2 y0 (List.mem_of_getElem? hy0))⟩
   ·simp at hx
  have hsz2:xs≠[]→sz'=sz:=by
   intro hne
   cases xs with
   | nil=>exact absurd rfl hne
   | cons x r=>rw [← hsz' (enc x) (by simp)];exact (hcells x).1
  refine .sl _ a n c ad sz' (by simpa using hn) hc (fun h=>ha (hne h)) ?_ (fun i x j y hx hy=>⟨_,(hcell' i x j y hx hy).1⟩) ?_
  ·intro x hx
   obtain ⟨g,_,rfl⟩:=List.mem_map.1 hx
   rw [hsize,hsz2]
   rintro rfl;simp at hx
  ·intro i x j y v hx hy hw
   obtain ⟨q1,rfl,q3⟩:=hcell' i x j y hx hy
   rw [q1] at hw;cases hw
   exact .pv _ q3
 ·intro i x g hx hg u own' w' b hr
  rw [hget] at hg
  have hi:i < xs.length:=(List.getElem?_eq_some_iff.1 hx).1
  rw [if_pos hi] at hg;cases hg
  have hlen:=(hcells x).1
  have hl:=hagg x
  cases agg with
  | true=>
    cases hx':enc x with
    | agg l=>
      obtain ⟨arr,rfl,e2,e3⟩:=hr
      rw [hx'] at hlen
      simp only [FV.cells] at hlen
      refine .agg l arr (by rw [← e2];simp [hlen]) fun j y v e4 e5=>?_
      have hj:j < sz:=by rw [← hlen];exact (List.getElem?_eq_some_iff.1 e4).1
      have e6:=e3 j (.f (.pv (f i j))) v (by simp [hj]) e5
      rw [rc_pv (show RC own' w' (.f (.pv (f i j))) v from e6)]
      exact (hfc i x j y hx (by rw [hx'];exact e4)).2
    | _=>rw [hx'] at hl;cases hl
  | false=>
    have hu:u=f i 0:=rc_pv (show RC own' w' (.f (.pv (f i 0))) u from hr)
    rw [hu]
    cases hx':enc x with
    | agg l=>rw [hx'] at hl;cases hl
    | pv v=>exact (hfc i x 0 _ hx (by rw [hx'];rfl)).2
    | sl l=>exact (hfc i x 0 _ hx (by rw [hx'];rfl)).2
def nu3 (a:Act):Nat:=match a.tmps[3]? with
 | some (Value.int _ v)=>(v+1).toNat
 | _=>0
theorem back_of (hc:COk P c) {gf:FuncId} {fn:Func} (hf:P.funcs[gf]?=some fn) (hnm:(fn.name == "runtime.NumGoroutine")=false) (hnt:c.nt=fn.ntmps) (hnt2:fn.ntmps=19) (hres:fn.results=#[])
 {oA oB o3 oD:Array Oper} {iA iB i3 iD:Nat} {α:Type} {enc:α→FV} {agg:Bool} {sz:Nat} (hfit:∀ x,(enc x).fits sz=true) (hagg:∀ x,isAggF (enc x)=agg) (hsz:agg=false→sz=1)
 (hb:fn.body=some (.seq (.region iA oA false) (.block 0 (.loop (.seq (.seq (.region iB oB false) (.cond (.tmp 8) .skip (.exit 0))) (.seq (.block 1 (.seq (.region i3 o3 false) (.cond (.tmp 18) .ret .skip))) (.region iD oD false)))))))
 (dA:oA.toList.all (fun o=>o.dst != some 0 && o.dst != some 1)=true) (dB:oB.toList.all (fun o=>o.dst != some 0 && o.dst != some 1)=true) (d3:o3.toList.all (fun o=>o.dst != some 0 && o.dst != some 1)=true) (dD:oD.toList.all (fun o=>o.dst != some 0 && o.dst != some 1)=true)
 {pre:List Oper} {oc on:Oper} {ats:Array TypeId} (h3:o3.toList=pre++[oc,on]) (hoc:oc.op=.call { callee:=.value (.tmp 11),args:=#[.tmp 12,.tmp 16],argTypes:=ats }) (hocd:oc.dst=some 17) (hocg:oc.guard=none)
 (kA:∀ (yv:Value) (xs:List (Nat→Value)),∃ log G',evOps (CallE P) c oA false oA.toList 0 [] [(1,.f (.pv yv)),(4,.fp (.sl (xs.map (encX agg sz))) 0)] []=some ([],log,G')∧get G' 10=some (.f (.pv (.int .i64 (IntKind.wrap .i64 (((xs.map (encX agg sz)).length:Int) - 1))))))
 (kB:∀ (yv:Value) (xs:List (Nat→Value)) (i:Int),∃ log G',evOps (CallE P) c oB false oB.toList 0 [] [(1,.f (.pv yv)),(4,.fp (.sl (xs.map (encX agg sz))) 0),(10,.f (.pv (.int .i64 i)))] []=some ([],log,G')∧get G' 10=some (.f (.pv (.int .i64 i)))∧get G' 25=some (.f (.pv (.bool (decide (i≥0))))))
 (kD:∀ (yv:Value) (xs:List (Nat→Value)) (i:Int),∃ log G',evOps (CallE P) c oD false oD.toList 0 [] [(1,.f (.pv yv)),(4,.fp (.sl (xs.map (encX agg sz))) 0),(10,.f (.pv (.int .i64 i)))] []=some ([],log,G')∧get G' 10=some (.f (.pv (.int .i64 (IntKind.wrap .i64 (i - 1))))))
 (k3:∀ (yv:Value) (xs:List (Nat→Value)) (i:Int) (x:Nat→Value),∃ log G',evOps (CallE P) c o3 false pre 0 [] [(1,.f (.pv yv)),(4,.fp (.sl (xs.map (encX agg sz))) 0),(10,.f (.pv (.int .i64 i)))] [.e (encX agg sz x)]=some ([0≤i,(xs.map (encX agg sz))[i.toNat]?=some (encX agg sz x)],log,G')∧
   get G' 10=some (.f (.pv (.int .i64 i)))∧get G' 34=some (.f (.pv yv))∧get G' 37=some (.f (.pv (.int .i64 i)))∧get G' 49=some (asAV (encX agg sz x)))
 (kN:∃ log G',evOps (CallE P) c o3 false [on] (pre.length+1) [] [(52,.f (.pv (.bool true)))] []=some ([],log,G')∧get G' 55=some (.f (.pv (.bool false))))
 (hond:on.dst≠some 3):BackOk P gf enc:=by
 intro xs own w0 lb hll hlb hone hlt0
 refine ⟨⟨fn,hf,hnm,by rw [hb];rfl⟩,?_⟩
 intro F n lp J W hF hro hku hst hyield hJ
 have hn19:c.nt=19:=hnt.trans hnt2
 obtain ⟨fs,hfl,hfb,hfx⟩:∃ fs:List (Nat→Value),fs.length=xs.length∧RC own w0 (.fp (.sl (fs.map (encX agg sz))) 0) lb∧
  ∀ (i:Nat) x f,xs[i]?=some x→fs[i]?=some f→∀ u own' w' b,RL P [] own' w' b (asAV (encX agg sz f)) u→RF own w0 (enc x) u:=by
  obtain ⟨k,o,q1,q2,q3,q4⟩:=hlb
  obtain ⟨s,e1,e2⟩:=q4 0 _ rfl
  obtain ⟨fs,h1,h2,h3⟩:=exact_list (P:=P) hfit hagg hsz e2
  refine ⟨fs,h1,⟨k,o,q1,q2,q3,fun j y hy=>?_⟩,h3⟩
  cases j with
  | zero=>cases hy;exact ⟨s,e1,h2⟩
  | succ j=>simp [FV.cells] at hy
 obtain ⟨yv,hyv⟩:∃ yv,yv=Value.func (.yield lp) #[] #[]:=⟨_,rfl⟩
 rw [← hyv]
 have hU:∀ k,(k < w0.heap.size∧(own k=none∨∃ o,own k=some (.al o)))→k < w0.heap.size:=fun k h=>h.1
 have hyc:yv.oneCell'=true:=by rw [hyv];rfl
 have base:∀ (a:Act) (w:World) (i:Int),a.tmps.size=19→a.tmps[0]?=some yv→a.tmps[1]?=some lb→a.tmps[3]?=some (.int .i64 i)→KU (fun k=>k < w0.heap.size∧(own k=none∨∃ o,own k=some (.al o))) w0 w→
  St P c.nt [(1,.f (.pv yv)),(4,.fp (.sl (fs.map (encX agg sz))) 0),(10,.f (.pv (.int .i64 i)))] no a w:=by
  intro a w i hs h0 h1 h2 hk
  refine ⟨hs.trans hn19.symm,fun t v e=>?_,fun b v hb e=>?_,fun k k' o h=>(nomatch h),fun k o h=>(nomatch h)⟩
  ·simp only [get] at e
   split at e
   ·rename_i ht;cases e
    have:t=0:=by simp only [tb] at ht;omega
    subst this;exact ⟨yv,h0,⟨rfl,.pv _ hyc⟩⟩
   ·split at e
    ·rename_i ht;cases e
     have:t=1:=by simp only [tb] at ht;omega
     subst this;exact ⟨lb,h1,fp_no (RC.fp_mono (hk.tr hlt0) hfb)⟩
    ·split at e
     ·rename_i ht;cases e
      have:t=3:=by simp only [tb] at ht;omega
      subst this;exact ⟨_,h2,⟨rfl,.pv _ rfl⟩⟩
     ·cases e
  ·simp only [get] at e
   split at e
   ·rename_i ht;omega
   ·split at e
    ·rename_i ht;omega
    ·split at e
     ·rename_i ht;omega
     ·cases e
 refine callsIn_of_wp_marks hf hb (hF.fn _) ?_ hro
 have hpost:∀ (a:Act) (w:World),a.defers=[]→J xs.length w→LeavesInM F n P fn a.tmps (fun e W'=>(∃ v,e=.returned v)∧J xs.length W') a.defers .returning w:=by
  intro a w hd hJ
  rw [hd]
  exact ⟨.tuple #[],by simp [results,hres,go_sem],⟨_,rfl⟩,hJ⟩
 have s0:St P c.nt [(1,.f (.pv yv)),(4,.fp (.sl (fs.map (encX agg sz))) 0)] no { tmps:=(#[yv]++#[lb])++Array.replicate (fn.ntmps - (#[yv]++#[lb]).size) undef,defers:=[] } W:=by
  refine ⟨by simp [hn19,hnt2],fun t v e=>?_,fun b v hb e=>?_,fun k k' o h=>(nomatch h),fun k o h=>(nomatch h)⟩
  ·simp only [get] at e
   split at e
   ·rename_i ht;cases e
    have:t=0:=by simp only [tb] at ht;omega
    subst this;exact ⟨yv,(Array.getElem?_append_left (by simp)).trans rfl,⟨rfl,.pv _ hyc⟩⟩
   ·split at e
    ·rename_i ht;cases e
     have:t=1:=by simp only [tb] at ht;omega
     subst this;exact ⟨lb,(Array.getElem?_append_left (by simp)).trans rfl,fp_no (RC.fp_mono (hku.tr hlt0) hfb)⟩
    ·cases e
  ·simp only [get] at e
   split at e
   ·rename_i ht;omega
   ·split at e
    ·rename_i ht;omega
    ·cases e
 refine wpIn_seq ?_
 obtain ⟨logA,GA,eA,gA⟩:=kA yv fs
 refine regX hc hF eA trivial dA s0 ?_
 intro ownA aA wA sA tA dfA q0 q1
 have q0:aA.tmps[0]?=some yv:=by rw [q0];exact (Array.getElem?_append_left (by simp)).trans rfl
 have q1:aA.tmps[1]?=some lb:=by rw [q1];exact (Array.getElem?_append_left (by simp)).trans rfl
 have q3:=zdD (t:=3) sA gA
 have hlen:(fs.map (encX agg sz)).length=xs.length:=by rw [List.length_map,hfl]
 rw [hlen,wrap64 (by omega) (by omega)] at q3
 show (Code.block 0 _).wpIn _ _ _ _ _ _
 refine wpIn_block ?_
 let U:Nat→Prop:=fun k=>k < w0.heap.size∧(own k=none∨∃ o,own k=some (.al o))
 let Inv:Act→World→Prop:=fun a w=>∃ i:Nat,i≤xs.length∧J i w∧KU U w0 w∧a.tmps.size=19∧a.tmps[0]?=some yv∧a.tmps[1]?=some lb∧a.tmps[3]?=some (.int .i64 ((xs.length:Int) - 1 - i))∧a.defers=[]
 refine wpIn_loop Inv (fun a _=>nu3 a) ⟨0,Nat.zero_le _,hst _ _ _ hJ (zh6 tA),(zh6 tA).ku hku hU,by rw [sA.size,hn19],q0,q1,by rw [q3];simp,dfA⟩ ?_
 rintro a1 w1 ⟨i,hi,hJ1,hk1,z1,z2,z3,z4,z5⟩
 have hν1:nu3 a1=xs.length - i:=by
  unfold nu3;rw [z4];dsimp only;omega
 refine wpIn_seq (wpIn_seq ?_)
 obtain ⟨logB,GB,eB,gB,gB2⟩:=kB yv fs ((xs.length:Int) - 1 - i)
 refine regX hc hF eB trivial dB (base a1 w1 _ z1 z2 z3 z4 hk1) ?_
 intro ownB aB wB sB tB dfB p0 p1
 have p3:=zdD (t:=3) sB gB
 have p8:=zdD (t:=8) sB gB2
 have hJB:=hst _ _ _ hJ1 (zh6 tB)
 have hkB:=(zh6 tB).ku hk1 hU
 have zB:aB.tmps.size=19:=by rw [sB.size,hn19]
 refine wpIn_cond (show aB.eval (.tmp 8)=.bool (decide ((xs.length:Int) - 1 - i≥0)) from zhA p8) ?_
 rcases Nat.lt_or_ge i xs.length with hlt | hlt'
 case' inr=>
  have hge:decide ((xs.length:Int) - 1 - i≥0)=false:=by simp;omega
  rw [hge]
  refine wpIn_exit ?_
  have hie:i=xs.length:=by omega
  subst hie
  exact hpost aB wB (dfB.trans z5) hJB
 have hge:decide ((xs.length:Int) - 1 - i≥0)=true:=by simp;omega
 rw [hge]
 refine wpIn_skip ?_
 show (Code.seq _ _).wpIn _ _ _ _ _ _
 refine wpIn_seq (wpIn_block (wpIn_seq ?_))
 obtain ⟨x,hx⟩:∃ x,xs[xs.length - 1 - i]?=some x:=⟨xs[xs.length - 1 - i]'(by omega),by simp⟩
 obtain ⟨f,hf'⟩:∃ f,fs[xs.length - 1 - i]?=some f:=⟨fs[xs.length - 1 - i]'(by omega),by simp⟩
 obtain ⟨log3,G3,e3,g3,g34,g37,g49⟩:=k3 yv fs ((xs.length:Int) - 1 - i) f
 have hidx:((xs.length:Int) - 1 - i).toNat=xs.length - 1 - i:=by omega
 have hget:(fs.map (encX agg sz))[((xs.length:Int) - 1 - i).toNat]?=some (encX agg sz f):=by rw [hidx,List.getElem?_map,hf'];rfl
 have hdd:∀ (i:Nat) o,o3[i]?=some o→o.dst≠some 0∧o.dst≠some 1:=fun i o h=>by
  have:=List.all_eq_true.1 d3 o (by rw [← Array.getElem?_toList] at h;exact List.mem_of_getElem? h)
  simpa using this
 refine wpIn_region (zci (t:=0) _ (fun i _ o h=>(hdd i o h).1) (zci (t:=1) _ (fun i _ o h=>(hdd i o h).2) ?_))
 refine wpOps_pre hc hF (pre:=pre) (rest:=[oc,on]) h3 e3 ⟨by omega,hget,trivial⟩ (base aB wB _ zB (p0.trans z2) (p1.trans z3) p3 hkB) ?_
 intro own3 a3 w3 s3 t3 df3
 have r3:=zdD (t:=3) s3 g3
 have r11:=zdD (t:=11) s3 g34
 have r12:=zdD (t:=12) s3 g37
 obtain ⟨u16,r16,hr16⟩:=s3.temps 16 _ g49
 have hJ3:=hst _ _ _ hJB (zh6 t3)
 have hk3:=(zh6 t3).ku hkB hU
 show wpOpsIn F n P o3 _ (pre.length :: (pre.length+1) :: []) a3 w3
 have hocI:o3[pre.length]?=some oc:=by
  rw [← Array.getElem?_toList,h3,List.getElem?_append_right (Nat.le_refl _)];simp
 unfold wpOpsIn
 rw [hocI]
 dsimp only
 rw [if_pos (by simp [Region.wanted,hocg])]
 have hv11:a3.eval (.tmp 11)=.func (.yield lp) #[] #[]:=by rw [← hyv];show a3.tmps.getD 11 _=_;exact zhA r11
 refine zfL hF.fn (by simp [hoc]) ?_
 have hargs:(#[Operand.tmp 12,Operand.tmp 16]:Array Operand).map a3.eval=#[.int .i64 ((xs.length:Int) - 1 - i),u16]:=by
  have e1:a3.eval (.tmp 12)=.int .i64 ((xs.length:Int) - 1 - i):=by show a3.tmps.getD 12 _=_;exact zhA r12
  have e2:a3.eval (.tmp 16)=u16:=by show a3.tmps.getD 16 _=_;exact zhA r16
  simp [e1,e2]
 rw [run_callY hoc hv11,hargs]
 have hok:okBack own w0 (xs.map enc) i #[.int .i64 ((xs.length:Int) - 1 - i),u16]:=
  ⟨enc x,u16,by rw [List.length_map,List.getElem?_map,hx];rfl,by rw [List.length_map],hfx _ x f hx hf' u16 own3 w3 (tb 16) (rl_sub (fun b v e=>by simp [get] at e) hr16)⟩
 obtain ⟨fn',tmps',as',bd',hrun,hround⟩:=hyield (n - 1) i _ w3 hJ3 hlt hok hk3
 rw [hrun,Oper.uponIn_round]
 refine ⟨fun e=>(by rw [hF.deep] at e;cases e),hround.mono ?_⟩
 rintro e w4 ⟨rfl,hJ4,hk4⟩
 dsimp only
 rw [hocd]
 have s4:St P c.nt [(52,.f (.pv (.bool true)))] no (a3.put (some 17) (.bool true)) w4:=by
  have s00:St P c.nt [] no a3 w4:=⟨s3.size,fun t v e=>(by cases e),fun b v hb e=>(by cases e),fun k k' o h=>(nomatch h),fun k o h=>(nomatch h)⟩
  exact s00.set_pure (t:=17) (by omega) ⟨rfl,.pv _ rfl⟩
 obtain ⟨logN,GN,eN,gN⟩:=kN
 have honI:o3[pre.length+1]?=some on:=by
  rw [← Array.getElem?_toList,h3,List.getElem?_append_right (by omega)];simp
 refine zci (t:=3) _ (fun i hi o h=>?_) ?_
 ·simp only [List.mem_singleton] at hi
  subst hi
  rw [honI] at h;cases h
  exact hond
 obtain ⟨es,x1,x2,_⟩:=zhH (P:=P) (c:=c) (obs:=[]) [on] (p:=pre++[oc]) (rest:=[]) (by rw [h3];simp) (by rw [List.length_append];exact eN) trivial
 have hes:[pre.length+1]=es.map (·.i)++[]:=by rw [x1,List.length_append];rfl
 rw [hes]
 refine runs_pre hc.cfg hc.ip (fun _ _ _ _ _ h=>h) hF _ es s4 x2 ?_
 intro own5 a5 w5 s5 t5 df5 c3 c1 c0
 have y0:a5.tmps[0]?=some yv:=(c0 rfl).trans (p0.trans z2)
 have y1:a5.tmps[1]?=some lb:=(c1 rfl).trans (p1.trans z3)
 have y3:a5.tmps[3]?=some (.int .i64 ((xs.length:Int) - 1 - i)):=(c3 rfl).trans ((zgn (by simp)).trans r3)
 have yd:a5.defers=[]:=df5.trans (df3.trans (dfB.trans z5))
 have hJ5:=hst _ _ _ hJ4 (zh6 t5)
 have hk5:=(zh6 t5).ku hk4 hU
 refine wpIn_cond (show a5.eval (.tmp 18)=.bool false from zhA (zdD (t:=18) s5 gN)) ?_
 refine wpIn_skip ?_
 obtain ⟨logD,GD,eD,gD⟩:=kD yv fs ((xs.length:Int) - 1 - i)
 refine regX hc hF eD trivial dD (base a5 w5 _ (by rw [s5.size,hn19]) y0 y1 y3 hk5) ?_
 intro own6 a6 w6 s6 t6 df6 v0 v1
 have v3:=zdD (t:=3) s6 gD
 rw [wrap64 (by omega) (by omega)] at v3
 have v3':a6.tmps[3]?=some (.int .i64 ((xs.length:Int) - 1 - ((i+1:Nat):Int))):=by rw [v3];congr 2;omega
 refine ⟨⟨i+1,hlt,hst _ _ _ hJ5 (zh6 t6),(zh6 t6).ku hk5 hU,by rw [s6.size,hn19],v0.trans y0,v1.trans y1,v3',df6.trans yd⟩,?_⟩
 rw [hν1]
 unfold nu3;rw [v3'];dsimp only;omega
end
end Go.Ev
set_option linter.unusedVariables false
set_option linter.unusedSimpArgs false
namespace Go.Ev
open Go Go.RowKit
variable {P : Program}
def fpzC (b:Nat) (x:FV):AV→AV
 | .ptr c o=>if c=b then .fp x o else .ptr c o
 | v=>v
def fpz0 (b:Nat) (x:FV):AV→AV
 | .ptr c o=>if c=b then .fp x o else .ptr c o
 | .clo g caps=>.clo g (caps.map (fpzC b x))
 | .rf _ _ _ _=>.bad
 | .ep _ _ _ _=>.bad
 | v=>v
def fpz1 (b:Nat) (x:FV):AV→AV
 | .agg l=>.agg (l.map (fpz0 b x))
 | v=>fpz0 b x v
def fpz2 (b:Nat) (x:FV):AV→AV
 | .tup l=>.tup (l.map (fpz1 b x))
 | .agg l=>.agg (l.map (fpz0 b x))
 | v=>fpz0 b x v
def ownX (own:Own) (b:Nat):Own:=fun k=>if own k=some (.box b) then none else own k
def fpzS (b:Nat) (x:FV):Sta→Sta
 | []=>[]
 | (c,v) :: r=>if c=b then fpzS b x r else (c,fpz2 b x v) :: fpzS b x r
theorem get_fpzS {b c:Nat} {x:FV}:∀ {G:Sta},get (fpzS b x G) c=if c=b then none else (get G c).map (fpz2 b x)
 | []=>by simp [fpzS,get]
 | (d,v) :: r=>by
   have ih:=get_fpzS (b:=b) (c:=c) (x:=x) (G:=r)
   simp only [fpzS]
   by_cases hd:d=b
   ·rw [if_pos hd,ih]
    by_cases hc:c=b
    ·rw [if_pos hc,if_pos hc]
    ·rw [if_neg hc,if_neg hc];simp only [get];rw [if_neg (fun e=>hc (e.trans hd))]
   ·rw [if_neg hd]
    simp only [get]
    by_cases hc:c=d
    ·subst hc;simp [hd]
    ·rw [if_neg hc,ih,if_neg hc]
def toFV:AV→Option FV
 | .agg l=>(fLeaves l).map .agg
 | .f x=>if x.one=true then some x else none
 | _=>none
theorem zgt:∀ {l:List AV} {m:List FV},fLeaves l=some m→l=m.map .f∧∀ y∈m,y.one=true
 | [],m,h=>by simp [fLeaves] at h;subst h;exact ⟨rfl,fun y h=>by simp at h⟩
 | v :: r,m,h=>by
   unfold fLeaves at h
   split at h
   ·rename_i x l h1 h2
    simp only [Option.some.injEq] at h;subst h
    obtain ⟨e1,e2⟩:=zgt h2
    have:v=.f x∧x.one=true:=by
     unfold AV.leafF at h1
     split at h1
     ·split at h1
      ·rename_i hx;cases h1;exact ⟨rfl,hx⟩
      ·cases h1
     ·cases h1
    refine ⟨by rw [this.1,e1];rfl,fun y hy=>?_⟩
    rcases List.mem_cons.1 hy with rfl | hy
    ·exact this.2
    ·exact e2 y hy
   ·cases h
theorem toFV_leaves {v:AV} {x:FV} (h:toFV v=some x):v.leaves=x.cells.map .f:=by
 unfold toFV at h
 split at h
 ·rename_i l
  simp only [Option.map_eq_some_iff] at h
  obtain ⟨m,h1,rfl⟩:=h
  exact (zgt h1).1
 ·rename_i y
  split at h
  ·rename_i hy;cases h
   cases x with
   | agg l=>simp [FV.one] at hy
   | _=>rfl
  ·cases h
 ·cases h
section
variable {nt b : Nat} {x : FV} {G : Sta} {own : Own} {a : Act} {w : World}
theorem Wk.fpz {v:AV} (hb:b % 3=2) (hg:get G b=some v) (hx:toFV v=some x):Wk P nt G (fpzS b x G):=by
 intro own a w s
 obtain ⟨k0,arr,T,e1,e2,e3⟩:=s.boxes b v (by omega) hg
 have hn:∀ k,own k=none→ownX own b k=none:=fun k h=>by simp [ownX,h]
 have hk0:ownX own b k0=none:=by simp [ownX,e1]
 have hklt:k0 < w.heap.size:=s.lt _ _ e1
 have hbb:∀ {k c},c≠b→own k=some (.box c)→ownX own b k=some (.box c):=fun {k c} hc h=>by
  simp only [ownX];rw [if_neg (by rw [h];simp [hc])];exact h
 have hss:∀ {k c o},own k=some (.sl c o)→ownX own b k=some (.sl c o):=fun {k c o} h=>by
  simp only [ownX];rw [if_neg (by rw [h];simp)];exact h
 have hlv:=toFV_leaves hx
 have hfp:∀ o u,RC own w (.ptr b o) u→RC (ownX own b) w (.fp x o) u:=by
  rintro o u ⟨k,h1,rfl⟩
  have:k=k0:=s.one _ _ _ h1 e1
  subst this
  refine ⟨k,0,by simp,hk0,hklt,fun j y hy=>?_⟩
  have hl:v.leaves[j]?=some (.f y):=by rw [hlv,List.getElem?_map,hy];rfl
  have hj:j < arr.size:=by rw [← e3.1];exact (List.getElem?_eq_some_iff.1 hl).1
  have hr:=e3.2 j (.f y) arr[j] hl (by simp [hj])
  refine ⟨arr[j],?_,(show RC own w (.f y) arr[j] from hr).2.mono0 hn⟩
  simp [World.cell?,e2,hj]
 have hC:∀ v u,RC own w v u→RC (ownX own b) w (fpzC b x v) u:=by
  intro v u h
  cases v with
  | ptr c o=>
    simp only [fpzC]
    split
    ·rename_i e;subst e;exact hfp o u h
    ·rename_i e;obtain ⟨k,h1,h2⟩:=h;exact ⟨k,hbb e h1,h2⟩
  | f y=>exact ⟨h.1,h.2.mono0 hn⟩
  | fp y o=>obtain ⟨k,q,h1,h2,h3,h4⟩:=h;exact ⟨k,q,h1,hn _ h2,h3,fun j z hz=>let ⟨t,q1,q2⟩:=h4 j z hz;⟨t,q1,q2.mono0 hn⟩⟩
  | bad=>trivial
  | _=>exact h.elim
 have h0:∀ {v u},R0 P G own w v u→R0 P (fpzS b x G) (ownX own b) w (fpz0 b x v) u:=by
  intro v u h
  cases v with
  | clo g caps=>
    obtain ⟨ar,h1,h2,h3⟩:=h
    refine ⟨ar,h1,by simpa using h2,fun j y z q1 q2=>?_⟩
    rw [List.getElem?_map] at q1
    cases hj:caps[j]? with
    | none=>rw [hj] at q1;cases q1
    | some t=>rw [hj] at q1;cases q1;exact hC _ _ (h3 j t z hj q2)
  | rf c o i n=>trivial
  | ep c o i n=>trivial
  | ptr c o=>
    have:=hC (.ptr c o) u h
    simp only [fpz0,fpzC] at this ⊢
    split
    ·rename_i e;rw [if_pos e] at this;exact this
    ·rename_i e;rw [if_neg e] at this;exact this
  | f y=>exact hC (.f y) u h
  | fp y o=>exact hC (.fp y o) u h
  | bad=>trivial
  | _=>exact h.elim
 have hO:∀ {c j v u},c≠b→RO P G own w c j v u→RO P (fpzS b x G) (ownX own b) w c j (fpz0 b x v) u:=by
  intro c j v u hc h
  cases v with
  | own E l=>
    obtain ⟨ad,cp,h1,h2,h3⟩:=h
    refine ⟨ad,cp,h1,h2,h3.imp id ?_⟩
    rintro ⟨k,q1,q2,arr',q3,q4,q5,q6⟩
    exact ⟨k,q1,hss q2,arr',q3,q4,q5,fun i y j z z1 z2=>let ⟨t,t1,t2⟩:=q6 i y j z z1 z2;⟨t,t1,t2.mono0 hn⟩⟩
  | _=>
    all_goals
     rw [zeE (by simp)] at h
     have h':=h0 h
     rw [zeE];exact h'
     intro E l e;simp only [fpz0] at e;first | (split at e<;>cases e) | cases e
 have h1:∀ {v u},R1 P G own w v u→R1 P (fpzS b x G) (ownX own b) w (fpz1 b x v) u:=by
  intro v u h
  have key:∀ v,(∀ l,v≠.agg l)→R1 P G own w v u→R1 P (fpzS b x G) (ownX own b) w (fpz0 b x v) u:=by
   intro v hv h
   rw [r1_r0 hv] at h
   have h':=h0 h
   rw [r1_r0];exact h'
   intro l e
   cases v<;>simp only [fpz0] at e<;>first | exact hv _ rfl | (split at e<;>cases e) | cases e
  cases v with
  | agg l=>
    obtain ⟨ar,z1,z2,z3⟩:=h
    refine ⟨ar,z1,by simpa using z2,fun j y z q1 q2=>?_⟩
    rw [List.getElem?_map] at q1
    cases hj:l[j]? with
    | none=>rw [hj] at q1;cases q1
    | some t=>rw [hj] at q1;cases q1;exact h0 (z3 j t z hj q2)
  | _=>exact key _ (by simp) h
 have hL:∀ {c v u},c≠b→RL P G own w c v u→RL P (fpzS b x G) (ownX own b) w c (fpz2 b x v) u:=by
  intro c v u hc h
  cases v with
  | agg l=>
    obtain ⟨ar,z1,z2,z3⟩:=h
    refine ⟨ar,z1,by simpa using z2,fun j y z q1 q2=>?_⟩
    rw [List.getElem?_map] at q1
    cases hj:l[j]? with
    | none=>rw [hj] at q1;cases q1
    | some t=>rw [hj] at q1;cases q1;exact hO hc (z3 j t z hj q2)
  | tup l=>
    obtain ⟨ar,z1,z2,z3⟩:=h
    refine ⟨ar,z1,by simpa using z2,fun j y z q1 q2=>?_⟩
    rw [List.getElem?_map] at q1
    cases hj:l[j]? with
    | none=>rw [hj] at q1;cases q1
    | some t=>rw [hj] at q1;cases q1;exact h1 (z3 j t z hj q2)
  | bad=>exact hO (j:=0) (u:=u) (v:=.bad) hc h
  | ptr d o=>
    have:=hO (j:=0) (u:=u) (v:=.ptr d o) hc h
    simp only [fpz0,fpz2] at this ⊢
    split
    ·rename_i e;rw [if_pos e] at this;exact this
    ·rename_i e;rw [if_neg e] at this;exact this
  | f y=>exact hO (j:=0) (u:=u) (v:=.f y) hc h
  | fp y o=>exact hO (j:=0) (u:=u) (v:=.fp y o) hc h
  | ep q1 q2 q3 q4=>exact hO (j:=0) (u:=u) (v:=.ep q1 q2 q3 q4) hc h
  | rf q1 q2 q3 q4=>exact hO (j:=0) (u:=u) (v:=.rf q1 q2 q3 q4) hc h
  | own E l=>exact hO (j:=0) (u:=u) (v:=.own E l) hc h
  | clo g caps=>exact hO (j:=0) (u:=u) (v:=.clo g caps) hc h
 have hleaves:∀ v:AV,(fpz2 b x v).leaves.length=v.leaves.length∧(∀ (j:Nat) y,(fpz2 b x v).leaves[j]?=some y→(∃ z,v.leaves[j]?=some z∧y=fpz0 b x z)∨∃ l,v=.tup l):=by
  intro v
  have key:∀ v,fpz2 b x v=fpz0 b x v→(∀ l,v≠.agg l)→(fpz2 b x v).leaves.length=v.leaves.length∧(∀ (j:Nat) y,(fpz2 b x v).leaves[j]?=some y→(∃ z,v.leaves[j]?=some z∧y=fpz0 b x z)∨∃ l,v=.tup l):=by
   intro v e hv
   have l1:v.leaves=[v]:=by cases v<;>first | rfl | exact absurd rfl (hv _)
   have l2:(fpz0 b x v).leaves=[fpz0 b x v]:=by
    cases v<;>simp only [fpz0]<;>first | rfl | exact absurd rfl (hv _) | (split<;>rfl)
   rw [e,l1,l2]
   refine ⟨rfl,fun j y h=>.inl ?_⟩
   cases j with
   | zero=>simp at h;exact ⟨v,rfl,h.symm⟩
   | succ j=>simp at h
  cases v with
  | agg l=>
    refine ⟨by simp [fpz2,AV.leaves],fun j y h=>.inl ?_⟩
    simp only [fpz2,AV.leaves,List.getElem?_map] at h ⊢
    cases hj:l[j]? with
    | none=>rw [hj] at h;cases h
    | some z=>rw [hj] at h;cases h;exact ⟨z,rfl,rfl⟩
  | tup l=>exact ⟨rfl,fun j y h=>.inr ⟨l,rfl⟩⟩
  | _=>exact key _ rfl (by simp)
 refine ⟨ownX own b,⟨s.size,fun t v' e=>?_,fun c v' hc e=>?_,fun k k' o q1 q2=>?_,fun k o q=>?_⟩,⟨Nat.le_refl _,fun k hk h=>⟨hn k h,rfl⟩,rfl,rfl,rfl,fun k o h=>⟨?_,rfl⟩,fun k c hc h=>?_⟩⟩
 ·rw [get_fpzS] at e
  split at e
  ·cases e
  ·rename_i hne
   cases hq:get G (tb t) with
   | none=>rw [hq] at e;cases e
   | some z=>rw [hq] at e;cases e;obtain ⟨u,u1,u2⟩:=s.temps t z hq;exact ⟨u,u1,hL hne u2⟩
 ·rw [get_fpzS] at e
  split at e
  ·cases e
  ·rename_i hne
   cases hq:get G c with
   | none=>rw [hq] at e;cases e
   | some z=>
     rw [hq] at e;cases e
     obtain ⟨k,ar,TT,z1,z2,z3⟩:=s.boxes c z hc hq
     obtain ⟨l1,l2⟩:=hleaves z
     refine ⟨k,ar,TT,hbb hne z1,z2,by rw [l1];exact z3.1,fun j y u q1 q2=>?_⟩
     rcases l2 j y q1 with ⟨y',q3,rfl⟩ | ⟨l,rfl⟩
     ·exact hO hne (z3.2 j y' u q3 q2)
     ·exfalso
      have hj:j=0:=by
       have:=(List.getElem?_eq_some_iff.1 q1).1
       simp [fpz2,AV.leaves] at this;exact this
      subst hj
      exact z3.2 0 (.tup l) u rfl q2
 ·have g:∀ {k o},ownX own b k=some o→own k=some o:=fun {k o} h=>by simp only [ownX] at h;split at h;cases h;exact h
  exact s.one _ _ _ (g q1) (g q2)
 ·have g:∀ {k o},ownX own b k=some o→own k=some o:=fun {k o} h=>by simp only [ownX] at h;split at h;cases h;exact h
  exact s.lt _ _ (g q)
 ·simp only [ownX];rw [if_neg (by rw [h];simp)];exact h
 ·simp only [ownX];rw [if_neg (by rw [h];simp;omega)];exact h
end
end Go.Ev
set_option linter.unusedVariables false
set_option linter.unusedSimpArgs false
namespace Go.Ev
open Go Go.RowKit
variable {P : Program}
def pickS:List Nat→Sta→Sta
 | [],_=>[]
 | b :: r,G=>match get G b with
   | some v=>(b,v) :: pickS r G
   | none=>pickS r G
theorem zhx {b:Nat} {v:AV} {G:Sta}:∀ {l:List Nat},get (pickS l G) b=some v→get G b=some v
 | [],h=>by cases h
 | c :: r,h=>by
   unfold pickS at h
   split at h
   ·rename_i x hx
    simp only [get] at h
    split at h
    ·rename_i e;cases h;rw [e];exact hx
    ·exact zhx h
   ·exact zhx h
theorem Wk.pick {nt:Nat} {G G':Sta} (l:List Nat) (h:pickS l G=G'):Wk P nt G G':=by
 subst h
 exact fun own a w s=>⟨own,s.sub (fun b v e=>zhx e),Tr.refl _ _⟩
theorem rndE {c:Cfg} {bs:List Nat} {J:List AV→Prop} {G G':Sta} {cs':List AV} (hw:Wk P c.nt G G') (h1:evOuts bs.length 0 G'=some (cs'.map (ren1 (toOut bs)))) (h2:J cs') :
 rndK P c bs J .normal G:=⟨G',cs',hw,h1,h2⟩
end Go.Ev
set_option linter.unusedVariables false
set_option linter.unusedSimpArgs false
namespace Go.Ev
open Go Go.RowKit
variable {P : Program}
def insS (b:Nat) (v:AV):Sta→Sta
 | []=>[(b,v)]
 | (a,x) :: m=>match Nat.blt b a with
   | true=>(b,v) :: (a,x) :: m
   | false=>match Nat.beq b a with
     | true=>(b,v) :: m
     | false=>(a,x) :: insS b v m
def inss:Sta→Sta→Sta
 | [],G=>G
 | (b,v) :: r,G=>inss r (insS b v G)
def edt (dr:List Nat) (ch:Sta) (G:Sta):Sta:=inss ch (dropN (fun b=>dr.contains b) G)
def keysOf:Sta→List Nat
 | []=>[]
 | (b,_) :: r=>b :: keysOf r
section
variable {c : Cfg} {G G' : Sta} {K : Ex → Sta → Prop} {x : Code}
theorem sD (hc:COk P c) (q:List Ora) (dr:List Nat) (ch:Sta) {obs:List Prop} (ho:AllP obs) (hk:Sem P c (sq2 x) (edt dr ch G) K) (e:x=.seq (sq1 x) (sq2 x):=by kernel_rfl)
 (h:evReg P c (sq1 x) q [] (keysOf (edt dr ch G)) G=some (obs,edt dr ch G):=by kernel_rfl):Sem P c x G K:=Sem.seqR hc e h ho hk
theorem rD (hc:COk P c) (q:List Ora) (dr:List Nat) (ch:Sta) {obs:List Prop} (ho:AllP obs) (hk:K .normal (edt dr ch G))
 (h:evReg P c x q [] (keysOf (edt dr ch G)) G=some (obs,edt dr ch G):=by kernel_rfl):Sem P c x G K:=Sem.region hc h ho hk
theorem wkD (dr:List Nat) (k:Sem P c x (edt dr [] G) K):Sem P c x G K:=Sem.weak (Wk.drop _) k
theorem cD {t:Nat} {b:Bool} (h1:b=true→Sem P c (sq1 x) G K) (h2:b=false→Sem P c (sq2 x) G K) (e:x=.cond (.tmp t) (sq1 x) (sq2 x):=by kernel_rfl) (hg:get G (tb t)=some (.f (.pv (.bool b))):=by kernel_rfl):Sem P c x G K:=Sem.cond' e hg h1 h2
theorem qD (h:Sem P c (sq1 x) G (seqK K fun G'=>Sem P c (sq2 x) G' K)) (e:x=.seq (sq1 x) (sq2 x):=by kernel_rfl):Sem P c x G K:=Sem.seq' e h
theorem xD {i:Nat} (h:K (.exit i) G) (e:x=.exit i:=by kernel_rfl):Sem P c x G K:=Sem.exit' e Wk.refl h
theorem tD (h:K .ret G) (e:x=.ret:=by kernel_rfl):Sem P c x G K:=Sem.ret' e Wk.refl h
theorem bD {id:Nat} (h:Sem P c (sq1 x) G (blockK id K)) (e:x=.block id (sq1 x):=by kernel_rfl):Sem P c x G K:=Sem.block' e h
theorem jD {nt:Nat} {σ:Type} {J:σ→Prop} {st:σ→Sta} (s:σ) (fz:List (Nat×Nat)) (h:J s) (hw:Ev.tidy fz (keysOf (st s)) G=st s:=by kernel_rfl):∃ s,Wk P nt G (st s)∧J s:=⟨s,Wk.eq hw,h⟩
theorem lD {nt:Nat} {σ:Type} {Inv:σ→Prop} {st:σ→Sta} {μ:σ→Nat} {s0:σ} (s:σ) (fz:List (Nat×Nat)) (h:Inv s∧μ s < μ s0) (hw:Ev.tidy fz (keysOf (st s)) G=st s:=by kernel_rfl):∃ s',Wk P nt G (st s')∧Inv s'∧μ s' < μ s0:=⟨s,Wk.eq hw,h⟩
theorem loD {σ:Type} (st:σ→Sta) (Inv:σ→Prop) (μ:σ→Nat) (s0:σ) (fz:List (Nat×Nat)) (hI:Inv s0)
 (step:∀ s,Inv s→Sem P c (sq1 x) (st s) (seqK K fun G'=>∃ s',Wk P c.nt G' (st s')∧Inv s'∧μ s' < μ s)) (e:x=.loop (sq1 x):=by kernel_rfl) (h0:Ev.tidy fz (keysOf (st s0)) G=st s0:=by kernel_rfl):Sem P c x G K:=Sem.loop' e st Inv μ s0 (Wk.eq h0) hI step
theorem sjD {σ:Type} (J:σ→Prop) (st:σ→Sta) (h2:∀ s,J s→Sem P c (sq2 x) (st s) K)
 (h1:Sem P c (sq1 x) G (seqK K fun G'=>∃ s,Wk P c.nt G' (st s)∧J s)) (e:x=.seq (sq1 x) (sq2 x):=by kernel_rfl):Sem P c x G K:=Sem.seqJ J st e h2 h1
end
theorem fD {c:Cfg} {fn:Func} {x:Code} {g:FuncId} {args outs outs':List AV} {r:AV} (hc:COk P c) (hf:P.funcs[g]?=some fn)
 (h:Sem P c x (entryF 64 0 args outs) fun e G=>∃ G',Wk P c.nt G G'∧endK (CallE P) c fn.results.toList outs.length (fun r' o'=>r'=r∧o'=outs') e G')
 (hnm:(fn.name == "runtime.NumGoroutine")=false:=by rfl) (hb:fn.body=some x:=by rfl) (hnt:c.nt=fn.ntmps:=by rfl) (hlen:args.length≤fn.ntmps:=by exact Nat.le_of_ble_eq_true rfl) (ha:args.all (shut1 false fun _=>true)=true:=by rfl) (ho:outs.all (shut1 true fun _=>true)=true:=by rfl)
 (hl2:args.length+outs.length≤64:=by exact Nat.le_of_ble_eq_true rfl):CallE P g args outs r outs':=zef hc hf hnm hb hnt hlen ha ho hl2 h
theorem gtt {b:Bool} (h:b=true):(b == true)=true:=by rw [h];rfl
theorem gtf {b:Bool} (h:b=false):(b == true)=false:=by rw [h];rfl
theorem gft {b:Bool} (h:b=false):(b == false)=true:=by rw [h];rfl
theorem gff {b:Bool} (h:b=true):(b == false)=false:=by rw [h];rfl
theorem sM {c:Cfg} {G:Sta} {K:Ex→Sta→Prop} {x:Code} (dr:List Nat) (ch:Sta) (h:Sem P c (sq2 x) (edt dr ch G) K) (k:Sem P c (sq2 x) (edt dr ch G) K→Sem P c x G K):Sem P c x G K:=k h
theorem rM {c:Cfg} {G:Sta} {K:Ex→Sta→Prop} {x:Code} (dr:List Nat) (ch:Sta) (h:K .normal (edt dr ch G)) (k:K .normal (edt dr ch G)→Sem P c x G K):Sem P c x G K:=k h
theorem n0:(∀ (α:Type) (l:List α),l.drop 0=l)∧(∀ (α:Type) (l:List α),l.take l.length=l):=⟨fun _ _=>rfl,fun _ _=>List.take_length⟩
theorem nm:((∀ (α β:Type) (f:α→β) (l:List α),(List.map f l).length=l.length)∧(∀ (α:Type) (l m:List α),(l++m).length=l.length+m.length)∧(∀ (α:Type) (a:α) (l:List α),(a :: l).length=l.length+1)∧
 (∀ (α:Type),([]:List α).length=0)∧(∀ (α:Type) (l:List α) (i:Nat) (a:α),(l.set i a).length=l.length)∧(∀ (α:Type) (n:Nat) (a:α),(List.replicate n a).length=n)∧
 (∀ (α:Type) (l:List α),l.drop 0=l)∧(∀ (α:Type) (l:List α),l.take l.length=l)∧(∀ (α β:Type) (f:α→β),List.map f []=[])∧(∀ (α β:Type) (f:α→β) (a:α) (l:List α),List.map f (a :: l)=f a :: List.map f l)∧
 (∀ (α β:Type) (f:α→β) (l m:List α),List.map f (l++m)=List.map f l++List.map f m)∧(∀ (α β:Type) (f:α→β) (l:List α) (i:Nat) (a:α),List.map f (l.set i a)=(List.map f l).set i (f a))∧
 (∀ (α β:Type) (f:α→β) (l:List α) (i:Nat),List.map f (l.take i)=(List.map f l).take i)∧(∀ (α β:Type) (f:α→β) (l:List α) (i:Nat),List.map f (l.drop i)=(List.map f l).drop i)∧
 (∀ (α β:Type) (f:α→β) (n:Nat) (a:α),List.map f (List.replicate n a)=List.replicate n (f a))∧(∀ n:Nat,((n:Int)).toNat=n)∧(∀ n:Nat,0+n=n)∧(∀ (α:Type) (n:Nat) (a:α) (l:List α),(a :: l).take (n+1)=a :: l.take n)∧
 (∀ (α:Type) (l:List α),l.take 0=[])∧(∀ (α:Type) (n:Nat),([]:List α).take n=[])∧(∀ n:Nat,n - 0=n)∧(∀ (α:Type) (l:List α),l++[]=l)∧(∀ (α:Type) (l:List α),[]++l=l)∧
 (∀ (α:Type) (E:TypeId) (enc:α→FV) (l:List α),oL E enc l=.own E (List.map enc l))∧(∀ (α:Type) (enc:α→FV) (l:List α),vL enc l=.f (.sl (List.map enc l)))∧(∀ (α:Type) (enc:α→FV) (l:List α),fL enc l=.sl (List.map enc l))∧
 (∀ n,vi n=.f (.pv (.int .i64 n)))∧(∀ k n,vI k n=.f (.pv (.int k n)))∧(∀ b,vB b=.f (.pv (.bool b)))∧(∀ b,vS b=.f (.pv (.string b)))∧(∀ n,fi n=.pv (.int .i64 n))∧(∀ b,fB b=.pv (.bool b))∧((0:Int).toNat=0)∧(∀ (α:Type) (l:List α),l.drop l.length=[]))∧
 (∀ (α:Type) (a b:α),(if True then a else b)=a)∧(∀ (α:Type) (a:α),(a=a)=True)∧(∀ p:Prop,(True∧p)=p)∧(∀ p:Prop,(p∧True)=p)∧(∀ n:Nat,(n≤n)=True)∧(∀ n:Nat,(0≤n)=True)∧(∀ (α β:Type) (f:α→β) (l:List α),(List.map f l).take l.length=List.map f l):=
 ⟨nrm,fun _ _ _=>if_pos trivial,fun _ _=>by simp,fun _=>by simp,fun _=>by simp,fun _=>by simp,fun _=>by simp,fun _ _ _ _=>by rw [← List.map_take,List.take_length]⟩
end Go.Ev
set_option linter.unusedSimpArgs false
set_option linter.unusedVariables false
namespace Go.Ev
open Go Go.Proofs
set_option maxRecDepth 8000
def zd (n:Int):FV:=.pv (.int .i64 n)
theorem zbo (l:List Int):(List.map zd l).all (FV.fits 1)=true:=by simp [FV.fits,FV.size,FV.cells,FV.one,zd]
def zk (b:Bool):FV:=.pv (.bool b)
theorem zcL (l:List Bool):(List.map zk l).all (FV.fits 1)=true:=by simp [FV.fits,FV.size,FV.cells,FV.one,zk]
theorem zf0 (l:List Int):(List.map zE l).all (FV.fits 1)=true:=by simp [FV.fits,FV.size,FV.cells,FV.one,zE]
structure zaa where
 x:Int
 y:Int
 signed:Bool
 code:Int
 deriving Inhabited,DecidableEq
def zcb (x:zaa):FV:=.agg [.pv (.int .i64 x.x),.pv (.int .i64 x.y),.pv (.bool x.signed),.pv (.int .u8 x.code)]
theorem zcP (x:zaa):zcb x=.agg [.pv (.int .i64 x.x),.pv (.int .i64 x.y),.pv (.bool x.signed),.pv (.int .u8 x.code)]:=rfl
abbrev zdy (x:zaa):FV:=.agg [.pv (.int .i64 x.x),.pv (.int .i64 x.y),.pv (.bool x.signed),.pv (.int .u8 x.code)]
abbrev zdz (x:zaa):AV:=.agg [vI .i64 x.x,vI .i64 x.y,vB x.signed,vI .u8 x.code]
abbrev zdA (x:zaa):AV:=.agg [vI .i64 x.x,vI .i64 x.y,vB x.signed,vI .u8 x.code]
def enc_string (s:ByteArray):FV:=.pv (.string s)
def enc_u64 (n:Int):FV:=.pv (.int .u64 n)
theorem fits_u64 (l:List Int):(List.map enc_u64 l).all (FV.fits 1)=true:=by simp [FV.fits,FV.size,FV.cells,FV.one,enc_u64]
structure zQ where
 msg:ByteArray
 addr:Int
 deriving Inhabited,DecidableEq
def zbm (x:zQ):FV:=.agg [.pv (.string x.msg),.pv (.int .u64 x.addr)]
theorem zca (x:zQ):zbm x=.agg [.pv (.string x.msg),.pv (.int .u64 x.addr)]:=rfl
abbrev zcy (x:zQ):FV:=.agg [.pv (.string x.msg),.pv (.int .u64 x.addr)]
abbrev zcA (x:zQ):AV:=.agg [vS x.msg,vI .u64 x.addr]
abbrev zcB (x:zQ):AV:=.agg [vS x.msg,vI .u64 x.addr]
def enc_i32 (n:Int):FV:=.pv (.int .i32 n)
def encs_u8 (l:(List Int)):FV:=.sl (List.map zE l)
structure zb where
 e0:Int
 e1:Int
 e2:Int
 e3:Int
 deriving Inhabited,DecidableEq
def zf (x:zb):FV:=.agg [.pv (.int .u64 x.e0),.pv (.int .u64 x.e1),.pv (.int .u64 x.e2),.pv (.int .u64 x.e3)]
theorem zaS (x:zb):zf x=.agg [.pv (.int .u64 x.e0),.pv (.int .u64 x.e1),.pv (.int .u64 x.e2),.pv (.int .u64 x.e3)]:=rfl
theorem zdv (l:List zb):(List.map zf l).all (FV.fits 4)=true:=by simp [FV.fits,FV.size,FV.cells,FV.one,zaS]
abbrev zcY (x:zb):FV:=.agg [.pv (.int .u64 x.e0),.pv (.int .u64 x.e1),.pv (.int .u64 x.e2),.pv (.int .u64 x.e3)]
abbrev zy (x:zb):AV:=.agg [vI .u64 x.e0,vI .u64 x.e1,vI .u64 x.e2,vI .u64 x.e3]
abbrev zic (x:zb):AV:=.agg [vI .u64 x.e0,vI .u64 x.e1,vI .u64 x.e2,vI .u64 x.e3]
structure za where
 Kind:Int
 Set:zb
 Lo:Int
 Hi:Int
 Kids:(List za)
 deriving Inhabited
def ze:za→FV
 | ⟨a_Kind,a_Set,a_Lo,a_Hi,a_Kids⟩=>.agg [.pv (.int .i64 a_Kind),.pv (.int .u64 a_Set.e0),.pv (.int .u64 a_Set.e1),.pv (.int .u64 a_Set.e2),.pv (.int .u64 a_Set.e3),.pv (.int .i64 a_Lo),.pv (.int .i64 a_Hi),.sl (List.map ze a_Kids)]
theorem zt (x:za):ze x=.agg [.pv (.int .i64 x.Kind),.pv (.int .u64 x.Set.e0),.pv (.int .u64 x.Set.e1),.pv (.int .u64 x.Set.e2),.pv (.int .u64 x.Set.e3),.pv (.int .i64 x.Lo),.pv (.int .i64 x.Hi),.sl (List.map ze x.Kids)]:=by cases x;rw [ze]
theorem fits_api_Rx (l:List za):(List.map ze l).all (FV.fits 8)=true:=by simp [FV.fits,FV.size,FV.cells,FV.one,zt]
abbrev zD (x:za):FV:=.agg [.pv (.int .i64 x.Kind),.pv (.int .u64 x.Set.e0),.pv (.int .u64 x.Set.e1),.pv (.int .u64 x.Set.e2),.pv (.int .u64 x.Set.e3),.pv (.int .i64 x.Lo),.pv (.int .i64 x.Hi),.sl (List.map ze x.Kids)]
abbrev zm (x:za):AV:=.agg [vI .i64 x.Kind,vI .u64 x.Set.e0,vI .u64 x.Set.e1,vI .u64 x.Set.e2,vI .u64 x.Set.e3,vI .i64 x.Lo,vI .i64 x.Hi,vL ze x.Kids]
abbrev zS (x:za):AV:=.agg [vI .i64 x.Kind,vI .u64 x.Set.e0,vI .u64 x.Set.e1,vI .u64 x.Set.e2,vI .u64 x.Set.e3,vI .i64 x.Lo,vI .i64 x.Hi,oL 28 ze x.Kids]
def encs_api_Rx (l:(List za)):FV:=.sl (List.map ze l)
structure zbV where
 Name:ByteArray
 Exclusive:Bool
 deriving Inhabited,DecidableEq
def zau (x:zbV):FV:=.agg [.pv (.string x.Name),.pv (.bool x.Exclusive)]
theorem zhM (x:zbV):zau x=.agg [.pv (.string x.Name),.pv (.bool x.Exclusive)]:=rfl
abbrev fv_api_Cond (x:zbV):FV:=.agg [.pv (.string x.Name),.pv (.bool x.Exclusive)]
abbrev av_api_Cond (x:zbV):AV:=.agg [vS x.Name,vB x.Exclusive]
abbrev ao_api_Cond (x:zbV):AV:=.agg [vS x.Name,vB x.Exclusive]
def encs_api_Cond (l:(List zbV)):FV:=.sl (List.map zau l)
def zj (l:(List Int)):FV:=.sl (List.map zd l)
structure zA where
 Conds:(List Int)
 All:Bool
 Bol:Bool
 Rx:za
 Trail:za
 Eof:Bool
 Act:Int
 To:Int
 deriving Inhabited
def zat (x:zA):FV:=.agg [.sl (List.map zd x.Conds),.pv (.bool x.All),.pv (.bool x.Bol),.pv (.int .i64 x.Rx.Kind),.pv (.int .u64 x.Rx.Set.e0),.pv (.int .u64 x.Rx.Set.e1),.pv (.int .u64 x.Rx.Set.e2),.pv (.int .u64 x.Rx.Set.e3),.pv (.int .i64 x.Rx.Lo),.pv (.int .i64 x.Rx.Hi),.sl (List.map ze x.Rx.Kids),.pv (.int .i64 x.Trail.Kind),.pv (.int .u64 x.Trail.Set.e0),.pv (.int .u64 x.Trail.Set.e1),.pv (.int .u64 x.Trail.Set.e2),.pv (.int .u64 x.Trail.Set.e3),.pv (.int .i64 x.Trail.Lo),.pv (.int .i64 x.Trail.Hi),.sl (List.map ze x.Trail.Kids),.pv (.bool x.Eof),.pv (.int .i64 x.Act),.pv (.int .i64 x.To)]
theorem zhL (x:zA):zat x=.agg [.sl (List.map zd x.Conds),.pv (.bool x.All),.pv (.bool x.Bol),.pv (.int .i64 x.Rx.Kind),.pv (.int .u64 x.Rx.Set.e0),.pv (.int .u64 x.Rx.Set.e1),.pv (.int .u64 x.Rx.Set.e2),.pv (.int .u64 x.Rx.Set.e3),.pv (.int .i64 x.Rx.Lo),.pv (.int .i64 x.Rx.Hi),.sl (List.map ze x.Rx.Kids),.pv (.int .i64 x.Trail.Kind),.pv (.int .u64 x.Trail.Set.e0),.pv (.int .u64 x.Trail.Set.e1),.pv (.int .u64 x.Trail.Set.e2),.pv (.int .u64 x.Trail.Set.e3),.pv (.int .i64 x.Trail.Lo),.pv (.int .i64 x.Trail.Hi),.sl (List.map ze x.Trail.Kids),.pv (.bool x.Eof),.pv (.int .i64 x.Act),.pv (.int .i64 x.To)]:=rfl
abbrev fv_api_Rule (x:zA):FV:=.agg [.sl (List.map zd x.Conds),.pv (.bool x.All),.pv (.bool x.Bol),.pv (.int .i64 x.Rx.Kind),.pv (.int .u64 x.Rx.Set.e0),.pv (.int .u64 x.Rx.Set.e1),.pv (.int .u64 x.Rx.Set.e2),.pv (.int .u64 x.Rx.Set.e3),.pv (.int .i64 x.Rx.Lo),.pv (.int .i64 x.Rx.Hi),.sl (List.map ze x.Rx.Kids),.pv (.int .i64 x.Trail.Kind),.pv (.int .u64 x.Trail.Set.e0),.pv (.int .u64 x.Trail.Set.e1),.pv (.int .u64 x.Trail.Set.e2),.pv (.int .u64 x.Trail.Set.e3),.pv (.int .i64 x.Trail.Lo),.pv (.int .i64 x.Trail.Hi),.sl (List.map ze x.Trail.Kids),.pv (.bool x.Eof),.pv (.int .i64 x.Act),.pv (.int .i64 x.To)]
abbrev za3 (x:zA):AV:=.agg [vL zd x.Conds,vB x.All,vB x.Bol,vI .i64 x.Rx.Kind,vI .u64 x.Rx.Set.e0,vI .u64 x.Rx.Set.e1,vI .u64 x.Rx.Set.e2,vI .u64 x.Rx.Set.e3,vI .i64 x.Rx.Lo,vI .i64 x.Rx.Hi,vL ze x.Rx.Kids,vI .i64 x.Trail.Kind,vI .u64 x.Trail.Set.e0,vI .u64 x.Trail.Set.e1,vI .u64 x.Trail.Set.e2,vI .u64 x.Trail.Set.e3,vI .i64 x.Trail.Lo,vI .i64 x.Trail.Hi,vL ze x.Trail.Kids,vB x.Eof,vI .i64 x.Act,vI .i64 x.To]
abbrev ao_api_Rule (x:zA):AV:=.agg [oL 3 zd x.Conds,vB x.All,vB x.Bol,vI .i64 x.Rx.Kind,vI .u64 x.Rx.Set.e0,vI .u64 x.Rx.Set.e1,vI .u64 x.Rx.Set.e2,vI .u64 x.Rx.Set.e3,vI .i64 x.Rx.Lo,vI .i64 x.Rx.Hi,oL 28 ze x.Rx.Kids,vI .i64 x.Trail.Kind,vI .u64 x.Trail.Set.e0,vI .u64 x.Trail.Set.e1,vI .u64 x.Trail.Set.e2,vI .u64 x.Trail.Set.e3,vI .i64 x.Trail.Lo,vI .i64 x.Trail.Hi,oL 28 ze x.Trail.Kids,vB x.Eof,vI .i64 x.Act,vI .i64 x.To]
def encs_api_Rule (l:(List zA)):FV:=.sl (List.map zat l)
structure zcE where
 Conds:(List zbV)
 Default:Bool
 Rules:(List zA)
 deriving Inhabited
def zgu (x:zcE):FV:=.agg [.sl (List.map zau x.Conds),.pv (.bool x.Default),.sl (List.map zat x.Rules)]
theorem zhK (x:zcE):zgu x=.agg [.sl (List.map zau x.Conds),.pv (.bool x.Default),.sl (List.map zat x.Rules)]:=rfl
abbrev fv_api_Spec (x:zcE):FV:=.agg [.sl (List.map zau x.Conds),.pv (.bool x.Default),.sl (List.map zat x.Rules)]
abbrev av_api_Spec (x:zcE):AV:=.agg [vL zau x.Conds,vB x.Default,vL zat x.Rules]
abbrev ao_api_Spec (x:zcE):AV:=.agg [oL 57 zau x.Conds,vB x.Default,oL 60 zat x.Rules]
def zgE (l:(List zb)):FV:=.sl (List.map zf l)
def encs__i64 (l:(List (List Int))):FV:=.sl (List.map zj l)
def encs_bool (l:(List Bool)):FV:=.sl (List.map zk l)
structure zcs where
 Sets:(List zb)
 Owner:(List Int)
 Follow:(List (List Int))
 Ends:(List Bool)
 Starts:(List (List Int))
 deriving Inhabited,DecidableEq
def zgv (x:zcs):FV:=.agg [.sl (List.map zf x.Sets),.sl (List.map zd x.Owner),.sl (List.map zj x.Follow),.sl (List.map zk x.Ends),.sl (List.map zj x.Starts)]
theorem zhN (x:zcs):zgv x=.agg [.sl (List.map zf x.Sets),.sl (List.map zd x.Owner),.sl (List.map zj x.Follow),.sl (List.map zk x.Ends),.sl (List.map zj x.Starts)]:=rfl
abbrev fv_api_Auto (x:zcs):FV:=.agg [.sl (List.map zf x.Sets),.sl (List.map zd x.Owner),.sl (List.map zj x.Follow),.sl (List.map zk x.Ends),.sl (List.map zj x.Starts)]
abbrev av_api_Auto (x:zcs):AV:=.agg [vL zf x.Sets,vL zd x.Owner,vL zj x.Follow,vL zk x.Ends,vL zj x.Starts]
abbrev ao_api_Auto (x:zcs):AV:=.agg [oL 25 zf x.Sets,oL 3 zd x.Owner,oL 40 zj x.Follow,oL 4 zk x.Ends,oL 40 zj x.Starts]
structure zl where
 L:(List Int)
 At:Int
 deriving Inhabited,DecidableEq
def zcv (x:zl):FV:=.agg [.sl (List.map zE x.L),.pv (.int .i64 x.At)]
theorem zc6 (x:zl):zcv x=.agg [.sl (List.map zE x.L),.pv (.int .i64 x.At)]:=rfl
abbrev zei (x:zl):FV:=.agg [.sl (List.map zE x.L),.pv (.int .i64 x.At)]
abbrev zp (x:zl):AV:=.agg [vL zE x.L,vI .i64 x.At]
abbrev zek (x:zl):AV:=.agg [oL 5 zE x.L,vI .i64 x.At]
structure zba where
 Auto:zcs
 deriving Inhabited,DecidableEq
def zdw (x:zba):FV:=.agg [.sl (List.map zf x.Auto.Sets),.sl (List.map zd x.Auto.Owner),.sl (List.map zj x.Auto.Follow),.sl (List.map zk x.Auto.Ends),.sl (List.map zj x.Auto.Starts)]
theorem zeL (x:zba):zdw x=.agg [.sl (List.map zf x.Auto.Sets),.sl (List.map zd x.Auto.Owner),.sl (List.map zj x.Auto.Follow),.sl (List.map zk x.Auto.Ends),.sl (List.map zj x.Auto.Starts)]:=rfl
abbrev zhB (x:zba):FV:=.agg [.sl (List.map zf x.Auto.Sets),.sl (List.map zd x.Auto.Owner),.sl (List.map zj x.Auto.Follow),.sl (List.map zk x.Auto.Ends),.sl (List.map zj x.Auto.Starts)]
abbrev zhW (x:zba):AV:=.agg [vL zf x.Auto.Sets,vL zd x.Auto.Owner,vL zj x.Auto.Follow,vL zk x.Auto.Ends,vL zj x.Auto.Starts]
abbrev zhY (x:zba):AV:=.agg [oL 25 zf x.Auto.Sets,oL 3 zd x.Auto.Owner,oL 40 zj x.Auto.Follow,oL 4 zk x.Auto.Ends,oL 40 zj x.Auto.Starts]
structure zc where
 Sets:(List zb)
 First:(List Int)
 Last:(List Int)
 Follow:(List (List Int))
 Null:Bool
 deriving Inhabited,DecidableEq
def zey (x:zc):FV:=.agg [.sl (List.map zf x.Sets),.sl (List.map zd x.First),.sl (List.map zd x.Last),.sl (List.map zj x.Follow),.pv (.bool x.Null)]
theorem zf2 (x:zc):zey x=.agg [.sl (List.map zf x.Sets),.sl (List.map zd x.First),.sl (List.map zd x.Last),.sl (List.map zj x.Follow),.pv (.bool x.Null)]:=rfl
abbrev fv_api_Places (x:zc):FV:=.agg [.sl (List.map zf x.Sets),.sl (List.map zd x.First),.sl (List.map zd x.Last),.sl (List.map zj x.Follow),.pv (.bool x.Null)]
abbrev zn (x:zc):AV:=.agg [vL zf x.Sets,vL zd x.First,vL zd x.Last,vL zj x.Follow,vB x.Null]
abbrev zbb (x:zc):AV:=.agg [oL 25 zf x.Sets,oL 3 zd x.First,oL 3 zd x.Last,oL 40 zj x.Follow,vB x.Null]
structure struct117 where
 deriving Inhabited,DecidableEq
def zfk (x:struct117):FV:=.agg []
theorem zgF (x:struct117):zfk x=.agg []:=rfl
abbrev fv_struct117 (x:struct117):FV:=.agg []
abbrev av_struct117 (x:struct117):AV:=.agg []
abbrev ao_struct117 (x:struct117):AV:=.agg []
structure zb4 where
 Conds:(List Int)
 All:Bool
 Bol:Bool
 Rx:za
 Trail:za
 Eof:Bool
 Act:Int
 To:Int
 deriving Inhabited
def zfl (x:zb4):FV:=.agg [.sl (List.map zd x.Conds),.pv (.bool x.All),.pv (.bool x.Bol),.pv (.int .i64 x.Rx.Kind),.pv (.int .u64 x.Rx.Set.e0),.pv (.int .u64 x.Rx.Set.e1),.pv (.int .u64 x.Rx.Set.e2),.pv (.int .u64 x.Rx.Set.e3),.pv (.int .i64 x.Rx.Lo),.pv (.int .i64 x.Rx.Hi),.sl (List.map ze x.Rx.Kids),.pv (.int .i64 x.Trail.Kind),.pv (.int .u64 x.Trail.Set.e0),.pv (.int .u64 x.Trail.Set.e1),.pv (.int .u64 x.Trail.Set.e2),.pv (.int .u64 x.Trail.Set.e3),.pv (.int .i64 x.Trail.Lo),.pv (.int .i64 x.Trail.Hi),.sl (List.map ze x.Trail.Kids),.pv (.bool x.Eof),.pv (.int .i64 x.Act),.pv (.int .i64 x.To)]
theorem zgG (x:zb4):zfl x=.agg [.sl (List.map zd x.Conds),.pv (.bool x.All),.pv (.bool x.Bol),.pv (.int .i64 x.Rx.Kind),.pv (.int .u64 x.Rx.Set.e0),.pv (.int .u64 x.Rx.Set.e1),.pv (.int .u64 x.Rx.Set.e2),.pv (.int .u64 x.Rx.Set.e3),.pv (.int .i64 x.Rx.Lo),.pv (.int .i64 x.Rx.Hi),.sl (List.map ze x.Rx.Kids),.pv (.int .i64 x.Trail.Kind),.pv (.int .u64 x.Trail.Set.e0),.pv (.int .u64 x.Trail.Set.e1),.pv (.int .u64 x.Trail.Set.e2),.pv (.int .u64 x.Trail.Set.e3),.pv (.int .i64 x.Trail.Lo),.pv (.int .i64 x.Trail.Hi),.sl (List.map ze x.Trail.Kids),.pv (.bool x.Eof),.pv (.int .i64 x.Act),.pv (.int .i64 x.To)]:=rfl
abbrev fv_spec_rule (x:zb4):FV:=.agg [.sl (List.map zd x.Conds),.pv (.bool x.All),.pv (.bool x.Bol),.pv (.int .i64 x.Rx.Kind),.pv (.int .u64 x.Rx.Set.e0),.pv (.int .u64 x.Rx.Set.e1),.pv (.int .u64 x.Rx.Set.e2),.pv (.int .u64 x.Rx.Set.e3),.pv (.int .i64 x.Rx.Lo),.pv (.int .i64 x.Rx.Hi),.sl (List.map ze x.Rx.Kids),.pv (.int .i64 x.Trail.Kind),.pv (.int .u64 x.Trail.Set.e0),.pv (.int .u64 x.Trail.Set.e1),.pv (.int .u64 x.Trail.Set.e2),.pv (.int .u64 x.Trail.Set.e3),.pv (.int .i64 x.Trail.Lo),.pv (.int .i64 x.Trail.Hi),.sl (List.map ze x.Trail.Kids),.pv (.bool x.Eof),.pv (.int .i64 x.Act),.pv (.int .i64 x.To)]
abbrev av_spec_rule (x:zb4):AV:=.agg [vL zd x.Conds,vB x.All,vB x.Bol,vI .i64 x.Rx.Kind,vI .u64 x.Rx.Set.e0,vI .u64 x.Rx.Set.e1,vI .u64 x.Rx.Set.e2,vI .u64 x.Rx.Set.e3,vI .i64 x.Rx.Lo,vI .i64 x.Rx.Hi,vL ze x.Rx.Kids,vI .i64 x.Trail.Kind,vI .u64 x.Trail.Set.e0,vI .u64 x.Trail.Set.e1,vI .u64 x.Trail.Set.e2,vI .u64 x.Trail.Set.e3,vI .i64 x.Trail.Lo,vI .i64 x.Trail.Hi,vL ze x.Trail.Kids,vB x.Eof,vI .i64 x.Act,vI .i64 x.To]
abbrev ao_spec_rule (x:zb4):AV:=.agg [oL 3 zd x.Conds,vB x.All,vB x.Bol,vI .i64 x.Rx.Kind,vI .u64 x.Rx.Set.e0,vI .u64 x.Rx.Set.e1,vI .u64 x.Rx.Set.e2,vI .u64 x.Rx.Set.e3,vI .i64 x.Rx.Lo,vI .i64 x.Rx.Hi,oL 28 ze x.Rx.Kids,vI .i64 x.Trail.Kind,vI .u64 x.Trail.Set.e0,vI .u64 x.Trail.Set.e1,vI .u64 x.Trail.Set.e2,vI .u64 x.Trail.Set.e3,vI .i64 x.Trail.Lo,vI .i64 x.Trail.Hi,oL 28 ze x.Trail.Kids,vB x.Eof,vI .i64 x.Act,vI .i64 x.To]
structure zh where
 Kind:Int
 Set:zb
 Lo:Int
 Hi:Int
 Kids:(List za)
 deriving Inhabited
def zex (x:zh):FV:=.agg [.pv (.int .i64 x.Kind),.pv (.int .u64 x.Set.e0),.pv (.int .u64 x.Set.e1),.pv (.int .u64 x.Set.e2),.pv (.int .u64 x.Set.e3),.pv (.int .i64 x.Lo),.pv (.int .i64 x.Hi),.sl (List.map ze x.Kids)]
theorem zf1 (x:zh):zex x=.agg [.pv (.int .i64 x.Kind),.pv (.int .u64 x.Set.e0),.pv (.int .u64 x.Set.e1),.pv (.int .u64 x.Set.e2),.pv (.int .u64 x.Set.e3),.pv (.int .i64 x.Lo),.pv (.int .i64 x.Hi),.sl (List.map ze x.Kids)]:=rfl
abbrev fv_rx_pattern (x:zh):FV:=.agg [.pv (.int .i64 x.Kind),.pv (.int .u64 x.Set.e0),.pv (.int .u64 x.Set.e1),.pv (.int .u64 x.Set.e2),.pv (.int .u64 x.Set.e3),.pv (.int .i64 x.Lo),.pv (.int .i64 x.Hi),.sl (List.map ze x.Kids)]
abbrev zC (x:zh):AV:=.agg [vI .i64 x.Kind,vI .u64 x.Set.e0,vI .u64 x.Set.e1,vI .u64 x.Set.e2,vI .u64 x.Set.e3,vI .i64 x.Lo,vI .i64 x.Hi,vL ze x.Kids]
abbrev ao_rx_pattern (x:zh):AV:=.agg [vI .i64 x.Kind,vI .u64 x.Set.e0,vI .u64 x.Set.e1,vI .u64 x.Set.e2,vI .u64 x.Set.e3,vI .i64 x.Lo,vI .i64 x.Hi,oL 28 ze x.Kids]
structure zH where
 e0:Int
 e1:Int
 deriving Inhabited,DecidableEq
def zw (x:zH):FV:=.agg [.pv (.int .i64 x.e0),.pv (.int .i64 x.e1)]
theorem zY (x:zH):zw x=.agg [.pv (.int .i64 x.e0),.pv (.int .i64 x.e1)]:=rfl
abbrev zay (x:zH):FV:=.agg [.pv (.int .i64 x.e0),.pv (.int .i64 x.e1)]
abbrev av_arr2_int (x:zH):AV:=.agg [vI .i64 x.e0,vI .i64 x.e1]
abbrev ao_arr2_int (x:zH):AV:=.agg [vI .i64 x.e0,vI .i64 x.e1]
def encs_arr2_int (l:(List zH)):FV:=.sl (List.map zw l)
structure zi where
 sets:(List zb)
 follow:(List (List Int))
 deriving Inhabited,DecidableEq
def zc5 (x:zi):FV:=.agg [.sl (List.map zf x.sets),.sl (List.map zj x.follow)]
theorem zej (x:zi):zc5 x=.agg [.sl (List.map zf x.sets),.sl (List.map zj x.follow)]:=rfl
abbrev zgC (x:zi):FV:=.agg [.sl (List.map zf x.sets),.sl (List.map zj x.follow)]
abbrev zgH (x:zi):AV:=.agg [vL zf x.sets,vL zj x.follow]
abbrev zr (x:zi):AV:=.agg [oL 25 zf x.sets,oL 40 zj x.follow]
structure zg where
 first:(List Int)
 last:(List Int)
 null:Bool
 deriving Inhabited,DecidableEq
def zu (x:zg):FV:=.agg [.sl (List.map zd x.first),.sl (List.map zd x.last),.pv (.bool x.null)]
theorem z7 (x:zg):zu x=.agg [.sl (List.map zd x.first),.sl (List.map zd x.last),.pv (.bool x.null)]:=rfl
abbrev za2 (x:zg):FV:=.agg [.sl (List.map zd x.first),.sl (List.map zd x.last),.pv (.bool x.null)]
abbrev zx (x:zg):AV:=.agg [vL zd x.first,vL zd x.last,vB x.null]
abbrev zib (x:zg):AV:=.agg [oL 3 zd x.first,oL 3 zd x.last,vB x.null]
def enc_u32 (n:Int):FV:=.pv (.int .u32 n)
def zgD (l:(List zg)):FV:=.sl (List.map zu l)
theorem strElems_ints (s:ByteArray):strElems s=List.map zE (strInts s):=strElems_of s _ fun _=>rfl
theorem enq:(∀ n:Int,zd n=.pv (.int .i64 n))∧
 (∀ n:Bool,zk n=.pv (.bool n))∧
 (∀ n:Int,zE n=.pv (.int .u8 n))∧
 (∀ x:zaa,zcb x=.agg [.pv (.int .i64 x.x),.pv (.int .i64 x.y),.pv (.bool x.signed),.pv (.int .u8 x.code)])∧
 (∀ x:zaa,zdy x=.agg [.pv (.int .i64 x.x),.pv (.int .i64 x.y),.pv (.bool x.signed),.pv (.int .u8 x.code)])∧
 (∀ x:zaa,zdz x=.agg [vI .i64 x.x,vI .i64 x.y,vB x.signed,vI .u8 x.code])∧
 (∀ x:zaa,zdA x=.agg [vI .i64 x.x,vI .i64 x.y,vB x.signed,vI .u8 x.code])∧
 (∀ n:ByteArray,enc_string n=.pv (.string n))∧
 (∀ n:Int,enc_u64 n=.pv (.int .u64 n))∧
 (∀ x:zQ,zbm x=.agg [.pv (.string x.msg),.pv (.int .u64 x.addr)])∧
 (∀ x:zQ,zcy x=.agg [.pv (.string x.msg),.pv (.int .u64 x.addr)])∧
 (∀ x:zQ,zcA x=.agg [vS x.msg,vI .u64 x.addr])∧
 (∀ x:zQ,zcB x=.agg [vS x.msg,vI .u64 x.addr])∧
 (∀ n:Int,enc_i32 n=.pv (.int .i32 n))∧
 (∀ l:(List Int),encs_u8 l=.sl (List.map zE l))∧
 (∀ x:zb,zf x=.agg [.pv (.int .u64 x.e0),.pv (.int .u64 x.e1),.pv (.int .u64 x.e2),.pv (.int .u64 x.e3)])∧
 (∀ x:zb,zcY x=.agg [.pv (.int .u64 x.e0),.pv (.int .u64 x.e1),.pv (.int .u64 x.e2),.pv (.int .u64 x.e3)])∧
 (∀ x:zb,zy x=.agg [vI .u64 x.e0,vI .u64 x.e1,vI .u64 x.e2,vI .u64 x.e3])∧
 (∀ x:zb,zic x=.agg [vI .u64 x.e0,vI .u64 x.e1,vI .u64 x.e2,vI .u64 x.e3])∧
 (∀ x:za,ze x=.agg [.pv (.int .i64 x.Kind),.pv (.int .u64 x.Set.e0),.pv (.int .u64 x.Set.e1),.pv (.int .u64 x.Set.e2),.pv (.int .u64 x.Set.e3),.pv (.int .i64 x.Lo),.pv (.int .i64 x.Hi),.sl (List.map ze x.Kids)])∧
 (∀ x:za,zD x=.agg [.pv (.int .i64 x.Kind),.pv (.int .u64 x.Set.e0),.pv (.int .u64 x.Set.e1),.pv (.int .u64 x.Set.e2),.pv (.int .u64 x.Set.e3),.pv (.int .i64 x.Lo),.pv (.int .i64 x.Hi),.sl (List.map ze x.Kids)])∧
 (∀ x:za,zm x=.agg [vI .i64 x.Kind,vI .u64 x.Set.e0,vI .u64 x.Set.e1,vI .u64 x.Set.e2,vI .u64 x.Set.e3,vI .i64 x.Lo,vI .i64 x.Hi,vL ze x.Kids])∧
 (∀ x:za,zS x=.agg [vI .i64 x.Kind,vI .u64 x.Set.e0,vI .u64 x.Set.e1,vI .u64 x.Set.e2,vI .u64 x.Set.e3,vI .i64 x.Lo,vI .i64 x.Hi,oL 28 ze x.Kids])∧
 (∀ l:(List za),encs_api_Rx l=.sl (List.map ze l))∧
 (∀ x:zbV,zau x=.agg [.pv (.string x.Name),.pv (.bool x.Exclusive)])∧
 (∀ x:zbV,fv_api_Cond x=.agg [.pv (.string x.Name),.pv (.bool x.Exclusive)])∧
 (∀ x:zbV,av_api_Cond x=.agg [vS x.Name,vB x.Exclusive])∧
 (∀ x:zbV,ao_api_Cond x=.agg [vS x.Name,vB x.Exclusive])∧
 (∀ l:(List zbV),encs_api_Cond l=.sl (List.map zau l))∧
 (∀ l:(List Int),zj l=.sl (List.map zd l))∧
 (∀ x:zA,zat x=.agg [.sl (List.map zd x.Conds),.pv (.bool x.All),.pv (.bool x.Bol),.pv (.int .i64 x.Rx.Kind),.pv (.int .u64 x.Rx.Set.e0),.pv (.int .u64 x.Rx.Set.e1),.pv (.int .u64 x.Rx.Set.e2),.pv (.int .u64 x.Rx.Set.e3),.pv (.int .i64 x.Rx.Lo),.pv (.int .i64 x.Rx.Hi),.sl (List.map ze x.Rx.Kids),.pv (.int .i64 x.Trail.Kind),.pv (.int .u64 x.Trail.Set.e0),.pv (.int .u64 x.Trail.Set.e1),.pv (.int .u64 x.Trail.Set.e2),.pv (.int .u64 x.Trail.Set.e3),.pv (.int .i64 x.Trail.Lo),.pv (.int .i64 x.Trail.Hi),.sl (List.map ze x.Trail.Kids),.pv (.bool x.Eof),.pv (.int .i64 x.Act),.pv (.int .i64 x.To)])∧
 (∀ x:zA,fv_api_Rule x=.agg [.sl (List.map zd x.Conds),.pv (.bool x.All),.pv (.bool x.Bol),.pv (.int .i64 x.Rx.Kind),.pv (.int .u64 x.Rx.Set.e0),.pv (.int .u64 x.Rx.Set.e1),.pv (.int .u64 x.Rx.Set.e2),.pv (.int .u64 x.Rx.Set.e3),.pv (.int .i64 x.Rx.Lo),.pv (.int .i64 x.Rx.Hi),.sl (List.map ze x.Rx.Kids),.pv (.int .i64 x.Trail.Kind),.pv (.int .u64 x.Trail.Set.e0),.pv (.int .u64 x.Trail.Set.e1),.pv (.int .u64 x.Trail.Set.e2),.pv (.int .u64 x.Trail.Set.e3),.pv (.int .i64 x.Trail.Lo),.pv (.int .i64 x.Trail.Hi),.sl (List.map ze x.Trail.Kids),.pv (.bool x.Eof),.pv (.int .i64 x.Act),.pv (.int .i64 x.To)])∧
 (∀ x:zA,za3 x=.agg [vL zd x.Conds,vB x.All,vB x.Bol,vI .i64 x.Rx.Kind,vI .u64 x.Rx.Set.e0,vI .u64 x.Rx.Set.e1,vI .u64 x.Rx.Set.e2,vI .u64 x.Rx.Set.e3,vI .i64 x.Rx.Lo,vI .i64 x.Rx.Hi,vL ze x.Rx.Kids,vI .i64 x.Trail.Kind,vI .u64 x.Trail.Set.e0,vI .u64 x.Trail.Set.e1,vI .u64 x.Trail.Set.e2,vI .u64 x.Trail.Set.e3,vI .i64 x.Trail.Lo,vI .i64 x.Trail.Hi,vL ze x.Trail.Kids,vB x.Eof,vI .i64 x.Act,vI .i64 x.To])∧
 (∀ x:zA,ao_api_Rule x=.agg [oL 3 zd x.Conds,vB x.All,vB x.Bol,vI .i64 x.Rx.Kind,vI .u64 x.Rx.Set.e0,vI .u64 x.Rx.Set.e1,vI .u64 x.Rx.Set.e2,vI .u64 x.Rx.Set.e3,vI .i64 x.Rx.Lo,vI .i64 x.Rx.Hi,oL 28 ze x.Rx.Kids,vI .i64 x.Trail.Kind,vI .u64 x.Trail.Set.e0,vI .u64 x.Trail.Set.e1,vI .u64 x.Trail.Set.e2,vI .u64 x.Trail.Set.e3,vI .i64 x.Trail.Lo,vI .i64 x.Trail.Hi,oL 28 ze x.Trail.Kids,vB x.Eof,vI .i64 x.Act,vI .i64 x.To])∧
 (∀ l:(List zA),encs_api_Rule l=.sl (List.map zat l))∧
 (∀ x:zcE,zgu x=.agg [.sl (List.map zau x.Conds),.pv (.bool x.Default),.sl (List.map zat x.Rules)])∧
 (∀ x:zcE,fv_api_Spec x=.agg [.sl (List.map zau x.Conds),.pv (.bool x.Default),.sl (List.map zat x.Rules)])∧
 (∀ x:zcE,av_api_Spec x=.agg [vL zau x.Conds,vB x.Default,vL zat x.Rules])∧
 (∀ x:zcE,ao_api_Spec x=.agg [oL 57 zau x.Conds,vB x.Default,oL 60 zat x.Rules])∧
 (∀ l:(List zb),zgE l=.sl (List.map zf l))∧
 (∀ l:(List (List Int)),encs__i64 l=.sl (List.map zj l))∧
 (∀ l:(List Bool),encs_bool l=.sl (List.map zk l))∧
 (∀ x:zcs,zgv x=.agg [.sl (List.map zf x.Sets),.sl (List.map zd x.Owner),.sl (List.map zj x.Follow),.sl (List.map zk x.Ends),.sl (List.map zj x.Starts)])∧
 (∀ x:zcs,fv_api_Auto x=.agg [.sl (List.map zf x.Sets),.sl (List.map zd x.Owner),.sl (List.map zj x.Follow),.sl (List.map zk x.Ends),.sl (List.map zj x.Starts)])∧
 (∀ x:zcs,av_api_Auto x=.agg [vL zf x.Sets,vL zd x.Owner,vL zj x.Follow,vL zk x.Ends,vL zj x.Starts])∧
 (∀ x:zcs,ao_api_Auto x=.agg [oL 25 zf x.Sets,oL 3 zd x.Owner,oL 40 zj x.Follow,oL 4 zk x.Ends,oL 40 zj x.Starts])∧
 (∀ x:zl,zcv x=.agg [.sl (List.map zE x.L),.pv (.int .i64 x.At)])∧
 (∀ x:zl,zei x=.agg [.sl (List.map zE x.L),.pv (.int .i64 x.At)])∧
 (∀ x:zl,zp x=.agg [vL zE x.L,vI .i64 x.At])∧
 (∀ x:zl,zek x=.agg [oL 5 zE x.L,vI .i64 x.At])∧
 (∀ x:zba,zdw x=.agg [.sl (List.map zf x.Auto.Sets),.sl (List.map zd x.Auto.Owner),.sl (List.map zj x.Auto.Follow),.sl (List.map zk x.Auto.Ends),.sl (List.map zj x.Auto.Starts)])∧
 (∀ x:zba,zhB x=.agg [.sl (List.map zf x.Auto.Sets),.sl (List.map zd x.Auto.Owner),.sl (List.map zj x.Auto.Follow),.sl (List.map zk x.Auto.Ends),.sl (List.map zj x.Auto.Starts)])∧
 (∀ x:zba,zhW x=.agg [vL zf x.Auto.Sets,vL zd x.Auto.Owner,vL zj x.Auto.Follow,vL zk x.Auto.Ends,vL zj x.Auto.Starts])∧
 (∀ x:zba,zhY x=.agg [oL 25 zf x.Auto.Sets,oL 3 zd x.Auto.Owner,oL 40 zj x.Auto.Follow,oL 4 zk x.Auto.Ends,oL 40 zj x.Auto.Starts])∧
 (∀ x:zc,zey x=.agg [.sl (List.map zf x.Sets),.sl (List.map zd x.First),.sl (List.map zd x.Last),.sl (List.map zj x.Follow),.pv (.bool x.Null)])∧
 (∀ x:zc,fv_api_Places x=.agg [.sl (List.map zf x.Sets),.sl (List.map zd x.First),.sl (List.map zd x.Last),.sl (List.map zj x.Follow),.pv (.bool x.Null)])∧
 (∀ x:zc,zn x=.agg [vL zf x.Sets,vL zd x.First,vL zd x.Last,vL zj x.Follow,vB x.Null])∧
 (∀ x:zc,zbb x=.agg [oL 25 zf x.Sets,oL 3 zd x.First,oL 3 zd x.Last,oL 40 zj x.Follow,vB x.Null])∧
 (∀ x:struct117,zfk x=.agg [])∧
 (∀ x:struct117,fv_struct117 x=.agg [])∧
 (∀ x:struct117,av_struct117 x=.agg [])∧
 (∀ x:struct117,ao_struct117 x=.agg [])∧
 (∀ x:zb4,zfl x=.agg [.sl (List.map zd x.Conds),.pv (.bool x.All),.pv (.bool x.Bol),.pv (.int .i64 x.Rx.Kind),.pv (.int .u64 x.Rx.Set.e0),.pv (.int .u64 x.Rx.Set.e1),.pv (.int .u64 x.Rx.Set.e2),.pv (.int .u64 x.Rx.Set.e3),.pv (.int .i64 x.Rx.Lo),.pv (.int .i64 x.Rx.Hi),.sl (List.map ze x.Rx.Kids),.pv (.int .i64 x.Trail.Kind),.pv (.int .u64 x.Trail.Set.e0),.pv (.int .u64 x.Trail.Set.e1),.pv (.int .u64 x.Trail.Set.e2),.pv (.int .u64 x.Trail.Set.e3),.pv (.int .i64 x.Trail.Lo),.pv (.int .i64 x.Trail.Hi),.sl (List.map ze x.Trail.Kids),.pv (.bool x.Eof),.pv (.int .i64 x.Act),.pv (.int .i64 x.To)])∧
 (∀ x:zb4,fv_spec_rule x=.agg [.sl (List.map zd x.Conds),.pv (.bool x.All),.pv (.bool x.Bol),.pv (.int .i64 x.Rx.Kind),.pv (.int .u64 x.Rx.Set.e0),.pv (.int .u64 x.Rx.Set.e1),.pv (.int .u64 x.Rx.Set.e2),.pv (.int .u64 x.Rx.Set.e3),.pv (.int .i64 x.Rx.Lo),.pv (.int .i64 x.Rx.Hi),.sl (List.map ze x.Rx.Kids),.pv (.int .i64 x.Trail.Kind),.pv (.int .u64 x.Trail.Set.e0),.pv (.int .u64 x.Trail.Set.e1),.pv (.int .u64 x.Trail.Set.e2),.pv (.int .u64 x.Trail.Set.e3),.pv (.int .i64 x.Trail.Lo),.pv (.int .i64 x.Trail.Hi),.sl (List.map ze x.Trail.Kids),.pv (.bool x.Eof),.pv (.int .i64 x.Act),.pv (.int .i64 x.To)])∧
 (∀ x:zb4,av_spec_rule x=.agg [vL zd x.Conds,vB x.All,vB x.Bol,vI .i64 x.Rx.Kind,vI .u64 x.Rx.Set.e0,vI .u64 x.Rx.Set.e1,vI .u64 x.Rx.Set.e2,vI .u64 x.Rx.Set.e3,vI .i64 x.Rx.Lo,vI .i64 x.Rx.Hi,vL ze x.Rx.Kids,vI .i64 x.Trail.Kind,vI .u64 x.Trail.Set.e0,vI .u64 x.Trail.Set.e1,vI .u64 x.Trail.Set.e2,vI .u64 x.Trail.Set.e3,vI .i64 x.Trail.Lo,vI .i64 x.Trail.Hi,vL ze x.Trail.Kids,vB x.Eof,vI .i64 x.Act,vI .i64 x.To])∧
 (∀ x:zb4,ao_spec_rule x=.agg [oL 3 zd x.Conds,vB x.All,vB x.Bol,vI .i64 x.Rx.Kind,vI .u64 x.Rx.Set.e0,vI .u64 x.Rx.Set.e1,vI .u64 x.Rx.Set.e2,vI .u64 x.Rx.Set.e3,vI .i64 x.Rx.Lo,vI .i64 x.Rx.Hi,oL 28 ze x.Rx.Kids,vI .i64 x.Trail.Kind,vI .u64 x.Trail.Set.e0,vI .u64 x.Trail.Set.e1,vI .u64 x.Trail.Set.e2,vI .u64 x.Trail.Set.e3,vI .i64 x.Trail.Lo,vI .i64 x.Trail.Hi,oL 28 ze x.Trail.Kids,vB x.Eof,vI .i64 x.Act,vI .i64 x.To])∧
 (∀ x:zh,zex x=.agg [.pv (.int .i64 x.Kind),.pv (.int .u64 x.Set.e0),.pv (.int .u64 x.Set.e1),.pv (.int .u64 x.Set.e2),.pv (.int .u64 x.Set.e3),.pv (.int .i64 x.Lo),.pv (.int .i64 x.Hi),.sl (List.map ze x.Kids)])∧
 (∀ x:zh,fv_rx_pattern x=.agg [.pv (.int .i64 x.Kind),.pv (.int .u64 x.Set.e0),.pv (.int .u64 x.Set.e1),.pv (.int .u64 x.Set.e2),.pv (.int .u64 x.Set.e3),.pv (.int .i64 x.Lo),.pv (.int .i64 x.Hi),.sl (List.map ze x.Kids)])∧
 (∀ x:zh,zC x=.agg [vI .i64 x.Kind,vI .u64 x.Set.e0,vI .u64 x.Set.e1,vI .u64 x.Set.e2,vI .u64 x.Set.e3,vI .i64 x.Lo,vI .i64 x.Hi,vL ze x.Kids])∧
 (∀ x:zh,ao_rx_pattern x=.agg [vI .i64 x.Kind,vI .u64 x.Set.e0,vI .u64 x.Set.e1,vI .u64 x.Set.e2,vI .u64 x.Set.e3,vI .i64 x.Lo,vI .i64 x.Hi,oL 28 ze x.Kids])∧
 (∀ x:zH,zw x=.agg [.pv (.int .i64 x.e0),.pv (.int .i64 x.e1)])∧
 (∀ x:zH,zay x=.agg [.pv (.int .i64 x.e0),.pv (.int .i64 x.e1)])∧
 (∀ x:zH,av_arr2_int x=.agg [vI .i64 x.e0,vI .i64 x.e1])∧
 (∀ x:zH,ao_arr2_int x=.agg [vI .i64 x.e0,vI .i64 x.e1])∧
 (∀ l:(List zH),encs_arr2_int l=.sl (List.map zw l))∧
 (∀ x:zi,zc5 x=.agg [.sl (List.map zf x.sets),.sl (List.map zj x.follow)])∧
 (∀ x:zi,zgC x=.agg [.sl (List.map zf x.sets),.sl (List.map zj x.follow)])∧
 (∀ x:zi,zgH x=.agg [vL zf x.sets,vL zj x.follow])∧
 (∀ x:zi,zr x=.agg [oL 25 zf x.sets,oL 40 zj x.follow])∧
 (∀ x:zg,zu x=.agg [.sl (List.map zd x.first),.sl (List.map zd x.last),.pv (.bool x.null)])∧
 (∀ x:zg,za2 x=.agg [.sl (List.map zd x.first),.sl (List.map zd x.last),.pv (.bool x.null)])∧
 (∀ x:zg,zx x=.agg [vL zd x.first,vL zd x.last,vB x.null])∧
 (∀ x:zg,zib x=.agg [oL 3 zd x.first,oL 3 zd x.last,vB x.null])∧
 (∀ n:Int,enc_u32 n=.pv (.int .u32 n))∧
 (∀ l:(List zg),zgD l=.sl (List.map zu l))∧
 (∀ s:ByteArray,strElems s=List.map zE (strInts s)):=
 ⟨fun _=>rfl,fun _=>rfl,fun _=>rfl,zcP,fun _=>rfl,fun _=>rfl,fun _=>rfl,fun _=>rfl,fun _=>rfl,zca,fun _=>rfl,fun _=>rfl,fun _=>rfl,fun _=>rfl,fun _=>rfl,zaS,fun _=>rfl,fun _=>rfl,fun _=>rfl,zt,fun _=>rfl,fun _=>rfl,fun _=>rfl,fun _=>rfl,zhM,fun _=>rfl,fun _=>rfl,fun _=>rfl,fun _=>rfl,fun _=>rfl,zhL,fun _=>rfl,fun _=>rfl,fun _=>rfl,fun _=>rfl,zhK,fun _=>rfl,fun _=>rfl,fun _=>rfl,fun _=>rfl,fun _=>rfl,fun _=>rfl,zhN,fun _=>rfl,fun _=>rfl,fun _=>rfl,zc6,fun _=>rfl,fun _=>rfl,fun _=>rfl,zeL,fun _=>rfl,fun _=>rfl,fun _=>rfl,zf2,fun _=>rfl,fun _=>rfl,fun _=>rfl,zgF,fun _=>rfl,fun _=>rfl,fun _=>rfl,zgG,fun _=>rfl,fun _=>rfl,fun _=>rfl,zf1,fun _=>rfl,fun _=>rfl,fun _=>rfl,zY,fun _=>rfl,fun _=>rfl,fun _=>rfl,fun _=>rfl,zej,fun _=>rfl,fun _=>rfl,fun _=>rfl,z7,fun _=>rfl,fun _=>rfl,fun _=>rfl,fun _=>rfl,fun _=>rfl,strElems_ints⟩
noncomputable def tyTab:List (Nat×TI):=[(1,⟨Tryz.t1.desc,1,8,Option.some (AV.f (FV.pv Value.nilFunc))⟩),
 (2,⟨Tryz.t2.desc,1,8,Option.some (AV.f (FV.pv (Value.int IntKind.i64 (0:Int))))⟩),
 (3,⟨Tryz.t3.desc,1,8,Option.some (AV.f (FV.pv (Value.int IntKind.i64 (0:Int))))⟩),
 (4,⟨Tryz.t4.desc,1,1,Option.some (AV.f (FV.pv (Value.bool Bool.false)))⟩),
 (5,⟨Tryz.t5.desc,1,1,Option.some (AV.f (FV.pv (Value.int IntKind.u8 (0:Int))))⟩),
 (7,⟨Tryz.t7.desc,4,24,Option.some (AV.agg [AV.f (FV.pv (Value.int IntKind.i64 (0:Int))),AV.f (FV.pv (Value.int IntKind.i64 (0:Int))),AV.f (FV.pv (Value.bool Bool.false)),AV.f (FV.pv (Value.int IntKind.u8 (0:Int)))])⟩),
 (9,⟨Tryz.t9.desc,1,16,Option.some (AV.f (FV.pv (Value.string { data:=#[] })))⟩),
 (12,⟨Tryz.t12.desc,1,8,Option.some (AV.f (FV.pv (Value.int IntKind.u64 (0:Int))))⟩),
 (13,⟨Tryz.t13.desc,2,24,Option.some (AV.agg [AV.f (FV.pv (Value.string { data:=#[] })),AV.f (FV.pv (Value.int IntKind.u64 (0:Int)))])⟩),
 (18,⟨Tryz.t18.desc,1,8,Option.some (AV.agg [AV.f (FV.pv (Value.pointer Option.none))])⟩),
 (21,⟨Tryz.t21.desc,1,4,Option.some (AV.f (FV.pv (Value.int IntKind.i32 (0:Int))))⟩),
 (22,⟨Tryz.t22.desc,1,24,Option.some (AV.own (5:Nat) [])⟩),
 (23,⟨Tryz.t23.desc,1,8,Option.some (AV.f (FV.pv (Value.int IntKind.u64 (0:Int))))⟩),
 (24,⟨Tryz.t24.desc,4,32,Option.some (AV.agg [AV.f (FV.pv (Value.int IntKind.u64 (0:Int))),AV.f (FV.pv (Value.int IntKind.u64 (0:Int))),AV.f (FV.pv (Value.int IntKind.u64 (0:Int))),AV.f (FV.pv (Value.int IntKind.u64 (0:Int)))])⟩),
 (25,⟨Tryz.t24.desc,4,32,Option.some (AV.agg [AV.f (FV.pv (Value.int IntKind.u64 (0:Int))),AV.f (FV.pv (Value.int IntKind.u64 (0:Int))),AV.f (FV.pv (Value.int IntKind.u64 (0:Int))),AV.f (FV.pv (Value.int IntKind.u64 (0:Int)))])⟩),
 (26,⟨Tryz.t26.desc,1,24,Option.some (AV.own (28:Nat) [])⟩),
 (27,⟨Tryz.t27.desc,8,80,Option.some (AV.agg [AV.f (FV.pv (Value.int IntKind.i64 (0:Int))),AV.f (FV.pv (Value.int IntKind.u64 (0:Int))),AV.f (FV.pv (Value.int IntKind.u64 (0:Int))),AV.f (FV.pv (Value.int IntKind.u64 (0:Int))),AV.f (FV.pv (Value.int IntKind.u64 (0:Int))),AV.f (FV.pv (Value.int IntKind.i64 (0:Int))),AV.f (FV.pv (Value.int IntKind.i64 (0:Int))),AV.own (28:Nat) []])⟩),
 (28,⟨Tryz.t27.desc,8,80,Option.some (AV.agg [AV.f (FV.pv (Value.int IntKind.i64 (0:Int))),AV.f (FV.pv (Value.int IntKind.u64 (0:Int))),AV.f (FV.pv (Value.int IntKind.u64 (0:Int))),AV.f (FV.pv (Value.int IntKind.u64 (0:Int))),AV.f (FV.pv (Value.int IntKind.u64 (0:Int))),AV.f (FV.pv (Value.int IntKind.i64 (0:Int))),AV.f (FV.pv (Value.int IntKind.i64 (0:Int))),AV.own (28:Nat) []])⟩),
 (29,⟨Tryz.t29.desc,1,8,Option.some (AV.f (FV.pv Value.nilFunc))⟩),
 (30,⟨Tryz.t30.desc,1,8,Option.some (AV.f (FV.pv Value.nilFunc))⟩),
 (31,⟨Tryz.t31.desc,1,8,Option.some (AV.f (FV.pv Value.nilFunc))⟩),
 (32,⟨Tryz.t32.desc,1,8,Option.some (AV.f (FV.pv Value.nilFunc))⟩),
 (33,⟨Tryz.t33.desc,1,8,Option.some (AV.f (FV.pv Value.nilFunc))⟩),
 (34,⟨Tryz.t34.desc,1,24,Option.some (AV.own (57:Nat) [])⟩),
 (35,⟨Tryz.t35.desc,1,24,Option.some (AV.own (60:Nat) [])⟩),
 (36,⟨Tryz.t36.desc,3,56,Option.some (AV.agg [AV.own (57:Nat) [],AV.f (FV.pv (Value.bool Bool.false)),AV.own (60:Nat) []])⟩),
 (37,⟨Tryz.t36.desc,3,56,Option.some (AV.agg [AV.own (57:Nat) [],AV.f (FV.pv (Value.bool Bool.false)),AV.own (60:Nat) []])⟩),
 (38,⟨Tryz.t38.desc,1,8,Option.some (AV.f (FV.pv Value.nilFunc))⟩),
 (39,⟨Tryz.t39.desc,1,24,Option.some (AV.own (25:Nat) [])⟩),
 (40,⟨Tryz.t40.desc,1,24,Option.some (AV.own (3:Nat) [])⟩),
 (41,⟨Tryz.t41.desc,1,24,Option.some (AV.own (40:Nat) [])⟩),
 (42,⟨Tryz.t42.desc,1,24,Option.some (AV.own (4:Nat) [])⟩),
 (43,⟨Tryz.t43.desc,5,120,Option.some (AV.agg [AV.own (25:Nat) [],AV.own (3:Nat) [],AV.own (40:Nat) [],AV.own (4:Nat) [],AV.own (40:Nat) []])⟩),
 (44,⟨Tryz.t43.desc,5,120,Option.some (AV.agg [AV.own (25:Nat) [],AV.own (3:Nat) [],AV.own (40:Nat) [],AV.own (4:Nat) [],AV.own (40:Nat) []])⟩),
 (45,⟨Tryz.t3.desc,1,8,Option.some (AV.f (FV.pv (Value.int IntKind.i64 (0:Int))))⟩),
 (47,⟨Tryz.t47.desc,1,8,Option.some (AV.f (FV.pv Value.nilFunc))⟩),
 (48,⟨Tryz.t48.desc,1,8,Option.some (AV.f (FV.pv Value.nilFunc))⟩),
 (49,⟨Tryz.t49.desc,1,8,Option.some (AV.f (FV.pv Value.nilFunc))⟩),
 (50,⟨Tryz.t50.desc,1,8,Option.some (AV.f (FV.pv Value.nilFunc))⟩),
 (51,⟨Tryz.t51.desc,1,8,Option.some (AV.f (FV.pv Value.nilFunc))⟩),
 (53,⟨Tryz.t53.desc,1,8,Option.some (AV.f (FV.pv Value.nilFunc))⟩),
 (54,⟨Tryz.t54.desc,1,8,Option.some (AV.f (FV.pv Value.nilFunc))⟩),
 (55,⟨Tryz.t55.desc,1,8,Option.some (AV.f (FV.pv Value.nilFunc))⟩),
 (56,⟨Tryz.t56.desc,2,24,Option.some (AV.agg [AV.f (FV.pv (Value.string { data:=#[] })),AV.f (FV.pv (Value.bool Bool.false))])⟩),
 (57,⟨Tryz.t56.desc,2,24,Option.some (AV.agg [AV.f (FV.pv (Value.string { data:=#[] })),AV.f (FV.pv (Value.bool Bool.false))])⟩),
 (58,⟨Tryz.t58.desc,1,8,Option.some (AV.f (FV.pv Value.nilFunc))⟩),
 (59,⟨Tryz.t59.desc,22,216,Option.some (AV.agg [AV.own (3:Nat) [],AV.f (FV.pv (Value.bool Bool.false)),AV.f (FV.pv (Value.bool Bool.false)),AV.f (FV.pv (Value.int IntKind.i64 (0:Int))),AV.f (FV.pv (Value.int IntKind.u64 (0:Int))),AV.f (FV.pv (Value.int IntKind.u64 (0:Int))),AV.f (FV.pv (Value.int IntKind.u64 (0:Int))),AV.f (FV.pv (Value.int IntKind.u64 (0:Int))),AV.f (FV.pv (Value.int IntKind.i64 (0:Int))),AV.f (FV.pv (Value.int IntKind.i64 (0:Int))),AV.own (28:Nat) [],AV.f (FV.pv (Value.int IntKind.i64 (0:Int))),AV.f (FV.pv (Value.int IntKind.u64 (0:Int))),AV.f (FV.pv (Value.int IntKind.u64 (0:Int))),AV.f (FV.pv (Value.int IntKind.u64 (0:Int))),AV.f (FV.pv (Value.int IntKind.u64 (0:Int))),AV.f (FV.pv (Value.int IntKind.i64 (0:Int))),AV.f (FV.pv (Value.int IntKind.i64 (0:Int))),AV.own (28:Nat) [],AV.f (FV.pv (Value.bool Bool.false)),AV.f (FV.pv (Value.int IntKind.i64 (0:Int))),AV.f (FV.pv (Value.int IntKind.i64 (0:Int)))])⟩),
 (60,⟨Tryz.t59.desc,22,216,Option.some (AV.agg [AV.own (3:Nat) [],AV.f (FV.pv (Value.bool Bool.false)),AV.f (FV.pv (Value.bool Bool.false)),AV.f (FV.pv (Value.int IntKind.i64 (0:Int))),AV.f (FV.pv (Value.int IntKind.u64 (0:Int))),AV.f (FV.pv (Value.int IntKind.u64 (0:Int))),AV.f (FV.pv (Value.int IntKind.u64 (0:Int))),AV.f (FV.pv (Value.int IntKind.u64 (0:Int))),AV.f (FV.pv (Value.int IntKind.i64 (0:Int))),AV.f (FV.pv (Value.int IntKind.i64 (0:Int))),AV.own (28:Nat) [],AV.f (FV.pv (Value.int IntKind.i64 (0:Int))),AV.f (FV.pv (Value.int IntKind.u64 (0:Int))),AV.f (FV.pv (Value.int IntKind.u64 (0:Int))),AV.f (FV.pv (Value.int IntKind.u64 (0:Int))),AV.f (FV.pv (Value.int IntKind.u64 (0:Int))),AV.f (FV.pv (Value.int IntKind.i64 (0:Int))),AV.f (FV.pv (Value.int IntKind.i64 (0:Int))),AV.own (28:Nat) [],AV.f (FV.pv (Value.bool Bool.false)),AV.f (FV.pv (Value.int IntKind.i64 (0:Int))),AV.f (FV.pv (Value.int IntKind.i64 (0:Int)))])⟩),
 (61,⟨Tryz.t61.desc,1,8,Option.some (AV.f (FV.pv Value.nilFunc))⟩),
 (62,⟨Tryz.t62.desc,1,8,Option.some (AV.f (FV.pv Value.nilFunc))⟩),
 (63,⟨Tryz.t63.desc,1,8,Option.some (AV.f (FV.pv Value.nilFunc))⟩),
 (64,⟨Tryz.t64.desc,1,8,Option.some (AV.f (FV.pv (Value.pointer Option.none)))⟩),
 (65,⟨Tryz.t65.desc,2,32,Option.some (AV.agg [AV.own (5:Nat) [],AV.f (FV.pv (Value.int IntKind.i64 (0:Int)))])⟩),
 (66,⟨Tryz.t65.desc,2,32,Option.some (AV.agg [AV.own (5:Nat) [],AV.f (FV.pv (Value.int IntKind.i64 (0:Int)))])⟩),
 (67,⟨Tryz.t67.desc,1,8,Option.some (AV.f (FV.pv Value.nilFunc))⟩),
 (69,⟨Tryz.t69.desc,1,8,Option.some (AV.f (FV.pv Value.nilFunc))⟩),
 (70,⟨Tryz.t70.desc,1,8,Option.some (AV.f (FV.pv Value.nilFunc))⟩),
 (71,⟨Tryz.t71.desc,1,8,Option.some (AV.f (FV.pv Value.nilFunc))⟩),
 (72,⟨Tryz.t72.desc,1,8,Option.some (AV.f (FV.pv Value.nilFunc))⟩),
 (73,⟨Tryz.t73.desc,1,8,Option.some (AV.f (FV.pv Value.nilFunc))⟩),
 (74,⟨Tryz.t74.desc,1,8,Option.some (AV.f (FV.pv Value.nilFunc))⟩),
 (75,⟨Tryz.t75.desc,1,8,Option.some (AV.f (FV.pv Value.nilFunc))⟩),
 (76,⟨Tryz.t76.desc,1,8,Option.some (AV.f (FV.pv Value.nilFunc))⟩),
 (77,⟨Tryz.t77.desc,1,8,Option.some (AV.f (FV.pv Value.nilFunc))⟩),
 (78,⟨Tryz.t78.desc,1,8,Option.some (AV.f (FV.pv (Value.pointer Option.none)))⟩),
 (79,⟨Tryz.t79.desc,5,120,Option.some (AV.agg [AV.own (25:Nat) [],AV.own (3:Nat) [],AV.own (40:Nat) [],AV.own (4:Nat) [],AV.own (40:Nat) []])⟩),
 (80,⟨Tryz.t79.desc,5,120,Option.some (AV.agg [AV.own (25:Nat) [],AV.own (3:Nat) [],AV.own (40:Nat) [],AV.own (4:Nat) [],AV.own (40:Nat) []])⟩),
 (81,⟨Tryz.t81.desc,1,8,Option.some (AV.f (FV.pv Value.nilFunc))⟩),
 (82,⟨Tryz.t82.desc,1,8,Option.some (AV.f (FV.pv Value.nilFunc))⟩),
 (83,⟨Tryz.t83.desc,1,8,Option.some (AV.f (FV.pv Value.nilFunc))⟩),
 (84,⟨Tryz.t84.desc,1,8,Option.some (AV.f (FV.pv (Value.pointer Option.none)))⟩),
 (85,⟨Tryz.t85.desc,1,8,Option.some (AV.f (FV.pv Value.nilFunc))⟩),
 (86,⟨Tryz.t86.desc,1,8,Option.some (AV.f (FV.pv Value.nilFunc))⟩),
 (87,⟨Tryz.t87.desc,5,104,Option.some (AV.agg [AV.own (25:Nat) [],AV.own (3:Nat) [],AV.own (3:Nat) [],AV.own (40:Nat) [],AV.f (FV.pv (Value.bool Bool.false))])⟩),
 (88,⟨Tryz.t87.desc,5,104,Option.some (AV.agg [AV.own (25:Nat) [],AV.own (3:Nat) [],AV.own (3:Nat) [],AV.own (40:Nat) [],AV.f (FV.pv (Value.bool Bool.false))])⟩),
 (89,⟨Tryz.t89.desc,1,8,Option.some (AV.f (FV.pv Value.nilFunc))⟩),
 (90,⟨Tryz.t90.desc,1,8,Option.some (AV.f (FV.pv Value.nilFunc))⟩),
 (91,⟨Tryz.t91.desc,1,8,Option.some (AV.f (FV.pv Value.nilFunc))⟩),
 (92,⟨Tryz.t92.desc,1,8,Option.some (AV.f (FV.pv Value.nilFunc))⟩),
 (93,⟨Tryz.t93.desc,1,8,Option.some (AV.f (FV.pv Value.nilFunc))⟩),
 (94,⟨Tryz.t94.desc,1,8,Option.some (AV.f (FV.pv Value.nilFunc))⟩),
 (95,⟨Tryz.t95.desc,1,8,Option.some (AV.f (FV.pv Value.nilFunc))⟩),
 (96,⟨Tryz.t95.desc,1,8,Option.some (AV.f (FV.pv Value.nilFunc))⟩),
 (97,⟨Tryz.t97.desc,1,8,Option.some (AV.f (FV.pv Value.nilFunc))⟩),
 (98,⟨Tryz.t98.desc,1,8,Option.some (AV.f (FV.pv Value.nilFunc))⟩),
 (100,⟨Tryz.t100.desc,1,8,Option.some (AV.f (FV.pv Value.nilFunc))⟩),
 (101,⟨Tryz.t101.desc,1,8,Option.some (AV.f (FV.pv Value.nilFunc))⟩),
 (102,⟨Tryz.t102.desc,1,8,Option.some (AV.f (FV.pv Value.nilFunc))⟩),
 (103,⟨Tryz.t103.desc,1,8,Option.some (AV.f (FV.pv Value.nilFunc))⟩),
 (104,⟨Tryz.t104.desc,1,8,Option.some (AV.f (FV.pv Value.nilFunc))⟩),
 (105,⟨Tryz.t105.desc,1,8,Option.some (AV.f (FV.pv Value.nilFunc))⟩),
 (106,⟨Tryz.t106.desc,1,8,Option.some (AV.f (FV.pv Value.nilFunc))⟩),
 (107,⟨Tryz.t107.desc,1,8,Option.some (AV.f (FV.pv Value.nilFunc))⟩),
 (108,⟨Tryz.t108.desc,1,8,Option.some (AV.f (FV.pv Value.nilFunc))⟩),
 (109,⟨Tryz.t109.desc,1,8,Option.some (AV.f (FV.pv Value.nilFunc))⟩),
 (110,⟨Tryz.t110.desc,1,8,Option.some (AV.f (FV.pv Value.nilFunc))⟩),
 (111,⟨Tryz.t111.desc,1,8,Option.some (AV.f (FV.pv Value.nilFunc))⟩),
 (112,⟨Tryz.t112.desc,1,8,Option.some (AV.f (FV.pv Value.nilFunc))⟩),
 (114,⟨Tryz.t114.desc,1,8,Option.some (AV.f (FV.pv Value.nilFunc))⟩),
 (116,⟨Tryz.t116.desc,1,8,Option.some (AV.f (FV.pv Value.nilFunc))⟩),
 (117,⟨Tryz.t117.desc,0,0,Option.some (AV.agg [])⟩),
 (118,⟨Tryz.t59.desc,22,216,Option.some (AV.agg [AV.own (3:Nat) [],AV.f (FV.pv (Value.bool Bool.false)),AV.f (FV.pv (Value.bool Bool.false)),AV.f (FV.pv (Value.int IntKind.i64 (0:Int))),AV.f (FV.pv (Value.int IntKind.u64 (0:Int))),AV.f (FV.pv (Value.int IntKind.u64 (0:Int))),AV.f (FV.pv (Value.int IntKind.u64 (0:Int))),AV.f (FV.pv (Value.int IntKind.u64 (0:Int))),AV.f (FV.pv (Value.int IntKind.i64 (0:Int))),AV.f (FV.pv (Value.int IntKind.i64 (0:Int))),AV.own (28:Nat) [],AV.f (FV.pv (Value.int IntKind.i64 (0:Int))),AV.f (FV.pv (Value.int IntKind.u64 (0:Int))),AV.f (FV.pv (Value.int IntKind.u64 (0:Int))),AV.f (FV.pv (Value.int IntKind.u64 (0:Int))),AV.f (FV.pv (Value.int IntKind.u64 (0:Int))),AV.f (FV.pv (Value.int IntKind.i64 (0:Int))),AV.f (FV.pv (Value.int IntKind.i64 (0:Int))),AV.own (28:Nat) [],AV.f (FV.pv (Value.bool Bool.false)),AV.f (FV.pv (Value.int IntKind.i64 (0:Int))),AV.f (FV.pv (Value.int IntKind.i64 (0:Int)))])⟩),
 (119,⟨Tryz.t119.desc,1,8,Option.some (AV.f (FV.pv Value.nilFunc))⟩),
 (120,⟨Tryz.t120.desc,1,8,Option.some (AV.f (FV.pv Value.nilFunc))⟩),
 (122,⟨Tryz.t122.desc,1,8,Option.some (AV.f (FV.pv Value.nilFunc))⟩),
 (123,⟨Tryz.t123.desc,1,8,Option.some (AV.f (FV.pv Value.nilFunc))⟩),
 (124,⟨Tryz.t124.desc,1,8,Option.some (AV.f (FV.pv Value.nilFunc))⟩),
 (125,⟨Tryz.t125.desc,1,8,Option.some (AV.f (FV.pv Value.nilFunc))⟩),
 (126,⟨Tryz.t126.desc,1,8,Option.some (AV.f (FV.pv Value.nilFunc))⟩),
 (127,⟨Tryz.t127.desc,1,8,Option.some (AV.f (FV.pv Value.nilFunc))⟩),
 (128,⟨Tryz.t128.desc,1,8,Option.some (AV.f (FV.pv Value.nilFunc))⟩),
 (129,⟨Tryz.t129.desc,1,8,Option.some (AV.f (FV.pv Value.nilFunc))⟩),
 (130,⟨Tryz.t130.desc,1,8,Option.some (AV.f (FV.pv Value.nilFunc))⟩),
 (131,⟨Tryz.t131.desc,1,8,Option.some (AV.f (FV.pv Value.nilFunc))⟩),
 (132,⟨Tryz.t132.desc,1,8,Option.some (AV.f (FV.pv Value.nilFunc))⟩),
 (133,⟨Tryz.t133.desc,1,8,Option.some (AV.f (FV.pv Value.nilFunc))⟩),
 (134,⟨Tryz.t27.desc,8,80,Option.some (AV.agg [AV.f (FV.pv (Value.int IntKind.i64 (0:Int))),AV.f (FV.pv (Value.int IntKind.u64 (0:Int))),AV.f (FV.pv (Value.int IntKind.u64 (0:Int))),AV.f (FV.pv (Value.int IntKind.u64 (0:Int))),AV.f (FV.pv (Value.int IntKind.u64 (0:Int))),AV.f (FV.pv (Value.int IntKind.i64 (0:Int))),AV.f (FV.pv (Value.int IntKind.i64 (0:Int))),AV.own (28:Nat) []])⟩),
 (135,⟨Tryz.t135.desc,1,8,Option.some (AV.f (FV.pv Value.nilFunc))⟩),
 (136,⟨Tryz.t136.desc,1,24,Option.some (AV.own (138:Nat) [])⟩),
 (137,⟨Tryz.t137.desc,1,8,Option.some (AV.f (FV.pv Value.nilFunc))⟩),
 (138,⟨Tryz.t138.desc,2,16,Option.some (AV.agg [AV.f (FV.pv (Value.int IntKind.i64 (0:Int))),AV.f (FV.pv (Value.int IntKind.i64 (0:Int)))])⟩),
 (139,⟨Tryz.t139.desc,1,8,Option.some (AV.f (FV.pv Value.nilFunc))⟩),
 (140,⟨Tryz.t139.desc,1,8,Option.some (AV.f (FV.pv Value.nilFunc))⟩),
 (141,⟨Tryz.t141.desc,1,8,Option.some (AV.f (FV.pv Value.nilFunc))⟩),
 (142,⟨Tryz.t142.desc,1,8,Option.some (AV.f (FV.pv Value.nilFunc))⟩),
 (143,⟨Tryz.t143.desc,1,8,Option.some (AV.f (FV.pv Value.nilFunc))⟩),
 (144,⟨Tryz.t144.desc,1,8,Option.some (AV.f (FV.pv Value.nilFunc))⟩),
 (145,⟨Tryz.t145.desc,1,8,Option.some (AV.f (FV.pv Value.nilFunc))⟩),
 (146,⟨Tryz.t146.desc,1,8,Option.some (AV.f (FV.pv Value.nilFunc))⟩),
 (147,⟨Tryz.t147.desc,1,8,Option.some (AV.f (FV.pv Value.nilFunc))⟩),
 (148,⟨Tryz.t148.desc,1,8,Option.some (AV.f (FV.pv Value.nilFunc))⟩),
 (149,⟨Tryz.t149.desc,1,8,Option.some (AV.f (FV.pv Value.nilFunc))⟩),
 (150,⟨Tryz.t150.desc,1,8,Option.some (AV.f (FV.pv Value.nilFunc))⟩),
 (151,⟨Tryz.t151.desc,1,8,Option.some (AV.f (FV.pv Value.nilFunc))⟩),
 (152,⟨Tryz.t151.desc,1,8,Option.some (AV.f (FV.pv Value.nilFunc))⟩),
 (153,⟨Tryz.t153.desc,1,8,Option.some (AV.f (FV.pv Value.nilFunc))⟩),
 (154,⟨Tryz.t154.desc,1,8,Option.some (AV.f (FV.pv (Value.pointer Option.none)))⟩),
 (155,⟨Tryz.t155.desc,2,48,Option.some (AV.agg [AV.own (25:Nat) [],AV.own (40:Nat) []])⟩),
 (156,⟨Tryz.t155.desc,2,48,Option.some (AV.agg [AV.own (25:Nat) [],AV.own (40:Nat) []])⟩),
 (157,⟨Tryz.t157.desc,3,56,Option.some (AV.agg [AV.own (3:Nat) [],AV.own (3:Nat) [],AV.f (FV.pv (Value.bool Bool.false))])⟩),
 (158,⟨Tryz.t157.desc,3,56,Option.some (AV.agg [AV.own (3:Nat) [],AV.own (3:Nat) [],AV.f (FV.pv (Value.bool Bool.false))])⟩),
 (159,⟨Tryz.t159.desc,1,8,Option.some (AV.f (FV.pv Value.nilFunc))⟩),
 (160,⟨Tryz.t160.desc,1,8,Option.some (AV.f (FV.pv Value.nilFunc))⟩),
 (161,⟨Tryz.t161.desc,1,8,Option.some (AV.f (FV.pv Value.nilFunc))⟩),
 (162,⟨Tryz.t162.desc,1,8,Option.some (AV.f (FV.pv Value.nilFunc))⟩),
 (163,⟨Tryz.t163.desc,1,8,Option.some (AV.f (FV.pv Value.nilFunc))⟩),
 (164,⟨Tryz.t164.desc,1,8,Option.some (AV.f (FV.pv Value.nilFunc))⟩),
 (165,⟨Tryz.t165.desc,1,8,Option.some (AV.f (FV.pv Value.nilFunc))⟩),
 (166,⟨Tryz.t166.desc,1,8,Option.some (AV.f (FV.pv Value.nilFunc))⟩),
 (167,⟨Tryz.t167.desc,1,8,Option.some (AV.f (FV.pv (Value.int IntKind.u64 (0:Int))))⟩),
 (168,⟨Tryz.t168.desc,1,8,Option.some (AV.f (FV.pv Value.nilFunc))⟩),
 (169,⟨Tryz.t169.desc,1,8,Option.some (AV.f (FV.pv Value.nilFunc))⟩),
 (170,⟨Tryz.t170.desc,1,8,Option.some (AV.f (FV.pv Value.nilFunc))⟩),
 (171,⟨Tryz.t171.desc,1,8,Option.some (AV.f (FV.pv Value.nilFunc))⟩),
 (172,⟨Tryz.t172.desc,1,8,Option.some (AV.f (FV.pv Value.nilFunc))⟩),
 (173,⟨Tryz.t173.desc,1,8,Option.some (AV.f (FV.pv Value.nilFunc))⟩),
 (174,⟨Tryz.t3.desc,1,8,Option.some (AV.f (FV.pv (Value.int IntKind.i64 (0:Int))))⟩),
 (176,⟨Tryz.t176.desc,1,8,Option.some (AV.f (FV.pv Value.nilFunc))⟩),
 (177,⟨Tryz.t177.desc,1,8,Option.some (AV.f (FV.pv Value.nilFunc))⟩),
 (178,⟨Tryz.t178.desc,1,8,Option.some (AV.f (FV.pv Value.nilFunc))⟩),
 (179,⟨Tryz.t179.desc,1,8,Option.some (AV.f (FV.pv Value.nilFunc))⟩),
 (181,⟨Tryz.t181.desc,1,8,Option.some (AV.f (FV.pv Value.nilFunc))⟩),
 (182,⟨Tryz.t182.desc,1,8,Option.some (AV.f (FV.pv Value.nilFunc))⟩),
 (183,⟨Tryz.t183.desc,1,4,Option.some (AV.f (FV.pv (Value.int IntKind.u32 (0:Int))))⟩),
 (184,⟨Tryz.t184.desc,1,8,Option.some (AV.f (FV.pv Value.nilFunc))⟩),
 (185,⟨Tryz.t185.desc,1,8,Option.some (AV.f (FV.pv Value.nilFunc))⟩),
 (186,⟨Tryz.t186.desc,1,24,Option.some (AV.own (158:Nat) [])⟩),
 (187,⟨Tryz.t187.desc,1,8,Option.some (AV.f (FV.pv Value.nilFunc))⟩),
 (188,⟨Tryz.t188.desc,1,8,Option.some (AV.f (FV.pv (Value.pointer Option.none)))⟩),
 (189,⟨Tryz.t189.desc,1,8,Option.some (AV.f (FV.pv Value.nilFunc))⟩),
 (190,⟨Tryz.t189.desc,1,8,Option.some (AV.f (FV.pv Value.nilFunc))⟩),
 (191,⟨Tryz.t191.desc,1,8,Option.some (AV.f (FV.pv Value.nilFunc))⟩),
 (192,⟨Tryz.t192.desc,1,8,Option.some (AV.f (FV.pv Value.nilFunc))⟩),
 (193,⟨Tryz.t23.desc,1,8,Option.some (AV.f (FV.pv (Value.int IntKind.u64 (0:Int))))⟩),
 (194,⟨Tryz.t194.desc,1,8,Option.some (AV.f (FV.pv Value.nilFunc))⟩),
 (195,⟨Tryz.t195.desc,1,8,Option.some (AV.f (FV.pv Value.nilFunc))⟩),
 (196,⟨Tryz.t196.desc,1,8,Option.some (AV.f (FV.pv Value.nilFunc))⟩),
 (197,⟨Tryz.t197.desc,1,8,Option.some (AV.f (FV.pv (Value.pointer Option.none)))⟩),
 (198,⟨Tryz.t198.desc,1,8,Option.some (AV.f (FV.pv Value.nilFunc))⟩),
 (199,⟨Tryz.t199.desc,1,8,Option.some (AV.f (FV.pv Value.nilFunc))⟩),
 (200,⟨Tryz.t200.desc,1,8,Option.some (AV.f (FV.pv (Value.pointer Option.none)))⟩),
 (201,⟨Tryz.t201.desc,1,8,Option.some (AV.f (FV.pv Value.nilFunc))⟩),
 (202,⟨Tryz.t202.desc,1,8,Option.some (AV.f (FV.pv Value.nilFunc))⟩),
 (203,⟨Tryz.t203.desc,4,40,Option.some (AV.agg [AV.f (FV.pv (Value.pointer Option.none)),AV.f (FV.pv (Value.pointer Option.none)),AV.f (FV.pv (Value.pointer Option.none)),AV.f (FV.pv (Value.string { data:=#[] }))])⟩),
 (205,⟨Tryz.t205.desc,0,0,Option.some (AV.agg [])⟩),
 (206,⟨Tryz.t206.desc,0,0,Option.some (AV.agg [])⟩),
 (208,⟨Tryz.t208.desc,1,8,Option.some (AV.f (FV.pv Value.nilFunc))⟩),
 (211,⟨Tryz.t211.desc,1,8,Option.some (AV.f (FV.pv Value.nilFunc))⟩),
 (212,⟨Tryz.t212.desc,1,8,Option.some (AV.f (FV.pv (Value.pointer Option.none)))⟩),
 (215,⟨Tryz.t215.desc,11,48,Option.some (AV.agg [AV.f (FV.pv (Value.int IntKind.u64 (0:Int))),AV.f (FV.pv (Value.int IntKind.u64 (0:Int))),AV.f (FV.pv (Value.int IntKind.u32 (0:Int))),AV.f (FV.pv (Value.int IntKind.u8 (0:Int))),AV.f (FV.pv (Value.int IntKind.u8 (0:Int))),AV.f (FV.pv (Value.int IntKind.u8 (0:Int))),AV.f (FV.pv (Value.int IntKind.u8 (0:Int))),AV.f (FV.pv Value.nilFunc),AV.f (FV.pv (Value.pointer Option.none)),AV.f (FV.pv (Value.int IntKind.i32 (0:Int))),AV.f (FV.pv (Value.int IntKind.i32 (0:Int)))])⟩)]
theorem tyTab_ok:TabOk Tryz.prog tyTab:=⟨zq Tryz.underlying1 Tryz.type1 (by kernel_rfl),
 ⟨zq Tryz.underlying2 Tryz.type2 (by kernel_rfl),
 ⟨zq Tryz.underlying3 Tryz.type3 (by kernel_rfl),
 ⟨zq Tryz.underlying4 Tryz.type4 (by kernel_rfl),
 ⟨zq Tryz.underlying5 Tryz.type5 (by kernel_rfl),
 ⟨zq Tryz.underlying7 Tryz.type7 (by kernel_rfl),
 ⟨zq Tryz.underlying9 Tryz.type9 (by kernel_rfl),
 ⟨zq Tryz.underlying12 Tryz.type12 (by kernel_rfl),
 ⟨zq Tryz.underlying13 Tryz.type13 (by kernel_rfl),
 ⟨zq Tryz.underlying18 Tryz.type18 (by kernel_rfl),
 ⟨zq Tryz.underlying21 Tryz.type21 (by kernel_rfl),
 ⟨zq Tryz.underlying22 Tryz.type22 (by kernel_rfl),
 ⟨zq Tryz.underlying23 Tryz.type23 (by kernel_rfl),
 ⟨zq Tryz.underlying24 Tryz.type24 (by kernel_rfl),
 ⟨zq Tryz.underlying25 Tryz.type25 (by kernel_rfl),
 ⟨zq Tryz.underlying26 Tryz.type26 (by kernel_rfl),
 ⟨zq Tryz.underlying27 Tryz.type27 (by kernel_rfl),
 ⟨zq Tryz.underlying28 Tryz.type28 (by kernel_rfl),
 ⟨zq Tryz.underlying29 Tryz.type29 (by kernel_rfl),
 ⟨zq Tryz.underlying30 Tryz.type30 (by kernel_rfl),
 ⟨zq Tryz.underlying31 Tryz.type31 (by kernel_rfl),
 ⟨zq Tryz.underlying32 Tryz.type32 (by kernel_rfl),
 ⟨zq Tryz.underlying33 Tryz.type33 (by kernel_rfl),
 ⟨zq Tryz.underlying34 Tryz.type34 (by kernel_rfl),
 ⟨zq Tryz.underlying35 Tryz.type35 (by kernel_rfl),
 ⟨zq Tryz.underlying36 Tryz.type36 (by kernel_rfl),
 ⟨zq Tryz.underlying37 Tryz.type37 (by kernel_rfl),
 ⟨zq Tryz.underlying38 Tryz.type38 (by kernel_rfl),
 ⟨zq Tryz.underlying39 Tryz.type39 (by kernel_rfl),
 ⟨zq Tryz.underlying40 Tryz.type40 (by kernel_rfl),
 ⟨zq Tryz.underlying41 Tryz.type41 (by kernel_rfl),
 ⟨zq Tryz.underlying42 Tryz.type42 (by kernel_rfl),
 ⟨zq Tryz.underlying43 Tryz.type43 (by kernel_rfl),
 ⟨zq Tryz.underlying44 Tryz.type44 (by kernel_rfl),
 ⟨zq Tryz.underlying45 Tryz.type45 (by kernel_rfl),
 ⟨zq Tryz.underlying47 Tryz.type47 (by kernel_rfl),
 ⟨zq Tryz.underlying48 Tryz.type48 (by kernel_rfl),
 ⟨zq Tryz.underlying49 Tryz.type49 (by kernel_rfl),
 ⟨zq Tryz.underlying50 Tryz.type50 (by kernel_rfl),
 ⟨zq Tryz.underlying51 Tryz.type51 (by kernel_rfl),
 ⟨zq Tryz.underlying53 Tryz.type53 (by kernel_rfl),
 ⟨zq Tryz.underlying54 Tryz.type54 (by kernel_rfl),
 ⟨zq Tryz.underlying55 Tryz.type55 (by kernel_rfl),
 ⟨zq Tryz.underlying56 Tryz.type56 (by kernel_rfl),
 ⟨zq Tryz.underlying57 Tryz.type57 (by kernel_rfl),
 ⟨zq Tryz.underlying58 Tryz.type58 (by kernel_rfl),
 ⟨zq Tryz.underlying59 Tryz.type59 (by kernel_rfl),
 ⟨zq Tryz.underlying60 Tryz.type60 (by kernel_rfl),
 ⟨zq Tryz.underlying61 Tryz.type61 (by kernel_rfl),
 ⟨zq Tryz.underlying62 Tryz.type62 (by kernel_rfl),
 ⟨zq Tryz.underlying63 Tryz.type63 (by kernel_rfl),
 ⟨zq Tryz.underlying64 Tryz.type64 (by kernel_rfl),
 ⟨zq Tryz.underlying65 Tryz.type65 (by kernel_rfl),
 ⟨zq Tryz.underlying66 Tryz.type66 (by kernel_rfl),
 ⟨zq Tryz.underlying67 Tryz.type67 (by kernel_rfl),
 ⟨zq Tryz.underlying69 Tryz.type69 (by kernel_rfl),
 ⟨zq Tryz.underlying70 Tryz.type70 (by kernel_rfl),
 ⟨zq Tryz.underlying71 Tryz.type71 (by kernel_rfl),
 ⟨zq Tryz.underlying72 Tryz.type72 (by kernel_rfl),
 ⟨zq Tryz.underlying73 Tryz.type73 (by kernel_rfl),
 ⟨zq Tryz.underlying74 Tryz.type74 (by kernel_rfl),
 ⟨zq Tryz.underlying75 Tryz.type75 (by kernel_rfl),
 ⟨zq Tryz.underlying76 Tryz.type76 (by kernel_rfl),
 ⟨zq Tryz.underlying77 Tryz.type77 (by kernel_rfl),
 ⟨zq Tryz.underlying78 Tryz.type78 (by kernel_rfl),
 ⟨zq Tryz.underlying79 Tryz.type79 (by kernel_rfl),
 ⟨zq Tryz.underlying80 Tryz.type80 (by kernel_rfl),
 ⟨zq Tryz.underlying81 Tryz.type81 (by kernel_rfl),
 ⟨zq Tryz.underlying82 Tryz.type82 (by kernel_rfl),
 ⟨zq Tryz.underlying83 Tryz.type83 (by kernel_rfl),
 ⟨zq Tryz.underlying84 Tryz.type84 (by kernel_rfl),
 ⟨zq Tryz.underlying85 Tryz.type85 (by kernel_rfl),
 ⟨zq Tryz.underlying86 Tryz.type86 (by kernel_rfl),
 ⟨zq Tryz.underlying87 Tryz.type87 (by kernel_rfl),
 ⟨zq Tryz.underlying88 Tryz.type88 (by kernel_rfl),
 ⟨zq Tryz.underlying89 Tryz.type89 (by kernel_rfl),
 ⟨zq Tryz.underlying90 Tryz.type90 (by kernel_rfl),
 ⟨zq Tryz.underlying91 Tryz.type91 (by kernel_rfl),
 ⟨zq Tryz.underlying92 Tryz.type92 (by kernel_rfl),
 ⟨zq Tryz.underlying93 Tryz.type93 (by kernel_rfl),
 ⟨zq Tryz.underlying94 Tryz.type94 (by kernel_rfl),
 ⟨zq Tryz.underlying95 Tryz.type95 (by kernel_rfl),
 ⟨zq Tryz.underlying96 Tryz.type96 (by kernel_rfl),
 ⟨zq Tryz.underlying97 Tryz.type97 (by kernel_rfl),
 ⟨zq Tryz.underlying98 Tryz.type98 (by kernel_rfl),
 ⟨zq Tryz.underlying100 Tryz.type100 (by kernel_rfl),
 ⟨zq Tryz.underlying101 Tryz.type101 (by kernel_rfl),
 ⟨zq Tryz.underlying102 Tryz.type102 (by kernel_rfl),
 ⟨zq Tryz.underlying103 Tryz.type103 (by kernel_rfl),
 ⟨zq Tryz.underlying104 Tryz.type104 (by kernel_rfl),
 ⟨zq Tryz.underlying105 Tryz.type105 (by kernel_rfl),
 ⟨zq Tryz.underlying106 Tryz.type106 (by kernel_rfl),
 ⟨zq Tryz.underlying107 Tryz.type107 (by kernel_rfl),
 ⟨zq Tryz.underlying108 Tryz.type108 (by kernel_rfl),
 ⟨zq Tryz.underlying109 Tryz.type109 (by kernel_rfl),
 ⟨zq Tryz.underlying110 Tryz.type110 (by kernel_rfl),
 ⟨zq Tryz.underlying111 Tryz.type111 (by kernel_rfl),
 ⟨zq Tryz.underlying112 Tryz.type112 (by kernel_rfl),
 ⟨zq Tryz.underlying114 Tryz.type114 (by kernel_rfl),
 ⟨zq Tryz.underlying116 Tryz.type116 (by kernel_rfl),
 ⟨zq Tryz.underlying117 Tryz.type117 (by kernel_rfl),
 ⟨zq Tryz.underlying118 Tryz.type118 (by kernel_rfl),
 ⟨zq Tryz.underlying119 Tryz.type119 (by kernel_rfl),
 ⟨zq Tryz.underlying120 Tryz.type120 (by kernel_rfl),
 ⟨zq Tryz.underlying122 Tryz.type122 (by kernel_rfl),
 ⟨zq Tryz.underlying123 Tryz.type123 (by kernel_rfl),
 ⟨zq Tryz.underlying124 Tryz.type124 (by kernel_rfl),
 ⟨zq Tryz.underlying125 Tryz.type125 (by kernel_rfl),
 ⟨zq Tryz.underlying126 Tryz.type126 (by kernel_rfl),
 ⟨zq Tryz.underlying127 Tryz.type127 (by kernel_rfl),
 ⟨zq Tryz.underlying128 Tryz.type128 (by kernel_rfl),
 ⟨zq Tryz.underlying129 Tryz.type129 (by kernel_rfl),
 ⟨zq Tryz.underlying130 Tryz.type130 (by kernel_rfl),
 ⟨zq Tryz.underlying131 Tryz.type131 (by kernel_rfl),
 ⟨zq Tryz.underlying132 Tryz.type132 (by kernel_rfl),
 ⟨zq Tryz.underlying133 Tryz.type133 (by kernel_rfl),
 ⟨zq Tryz.underlying134 Tryz.type134 (by kernel_rfl),
 ⟨zq Tryz.underlying135 Tryz.type135 (by kernel_rfl),
 ⟨zq Tryz.underlying136 Tryz.type136 (by kernel_rfl),
 ⟨zq Tryz.underlying137 Tryz.type137 (by kernel_rfl),
 ⟨zq Tryz.underlying138 Tryz.type138 (by kernel_rfl),
 ⟨zq Tryz.underlying139 Tryz.type139 (by kernel_rfl),
 ⟨zq Tryz.underlying140 Tryz.type140 (by kernel_rfl),
 ⟨zq Tryz.underlying141 Tryz.type141 (by kernel_rfl),
 ⟨zq Tryz.underlying142 Tryz.type142 (by kernel_rfl),
 ⟨zq Tryz.underlying143 Tryz.type143 (by kernel_rfl),
 ⟨zq Tryz.underlying144 Tryz.type144 (by kernel_rfl),
 ⟨zq Tryz.underlying145 Tryz.type145 (by kernel_rfl),
 ⟨zq Tryz.underlying146 Tryz.type146 (by kernel_rfl),
 ⟨zq Tryz.underlying147 Tryz.type147 (by kernel_rfl),
 ⟨zq Tryz.underlying148 Tryz.type148 (by kernel_rfl),
 ⟨zq Tryz.underlying149 Tryz.type149 (by kernel_rfl),
 ⟨zq Tryz.underlying150 Tryz.type150 (by kernel_rfl),
 ⟨zq Tryz.underlying151 Tryz.type151 (by kernel_rfl),
 ⟨zq Tryz.underlying152 Tryz.type152 (by kernel_rfl),
 ⟨zq Tryz.underlying153 Tryz.type153 (by kernel_rfl),
 ⟨zq Tryz.underlying154 Tryz.type154 (by kernel_rfl),
 ⟨zq Tryz.underlying155 Tryz.type155 (by kernel_rfl),
 ⟨zq Tryz.underlying156 Tryz.type156 (by kernel_rfl),
 ⟨zq Tryz.underlying157 Tryz.type157 (by kernel_rfl),
 ⟨zq Tryz.underlying158 Tryz.type158 (by kernel_rfl),
 ⟨zq Tryz.underlying159 Tryz.type159 (by kernel_rfl),
 ⟨zq Tryz.underlying160 Tryz.type160 (by kernel_rfl),
 ⟨zq Tryz.underlying161 Tryz.type161 (by kernel_rfl),
 ⟨zq Tryz.underlying162 Tryz.type162 (by kernel_rfl),
 ⟨zq Tryz.underlying163 Tryz.type163 (by kernel_rfl),
 ⟨zq Tryz.underlying164 Tryz.type164 (by kernel_rfl),
 ⟨zq Tryz.underlying165 Tryz.type165 (by kernel_rfl),
 ⟨zq Tryz.underlying166 Tryz.type166 (by kernel_rfl),
 ⟨zq Tryz.underlying167 Tryz.type167 (by kernel_rfl),
 ⟨zq Tryz.underlying168 Tryz.type168 (by kernel_rfl),
 ⟨zq Tryz.underlying169 Tryz.type169 (by kernel_rfl),
 ⟨zq Tryz.underlying170 Tryz.type170 (by kernel_rfl),
 ⟨zq Tryz.underlying171 Tryz.type171 (by kernel_rfl),
 ⟨zq Tryz.underlying172 Tryz.type172 (by kernel_rfl),
 ⟨zq Tryz.underlying173 Tryz.type173 (by kernel_rfl),
 ⟨zq Tryz.underlying174 Tryz.type174 (by kernel_rfl),
 ⟨zq Tryz.underlying176 Tryz.type176 (by kernel_rfl),
 ⟨zq Tryz.underlying177 Tryz.type177 (by kernel_rfl),
 ⟨zq Tryz.underlying178 Tryz.type178 (by kernel_rfl),
 ⟨zq Tryz.underlying179 Tryz.type179 (by kernel_rfl),
 ⟨zq Tryz.underlying181 Tryz.type181 (by kernel_rfl),
 ⟨zq Tryz.underlying182 Tryz.type182 (by kernel_rfl),
 ⟨zq Tryz.underlying183 Tryz.type183 (by kernel_rfl),
 ⟨zq Tryz.underlying184 Tryz.type184 (by kernel_rfl),
 ⟨zq Tryz.underlying185 Tryz.type185 (by kernel_rfl),
 ⟨zq Tryz.underlying186 Tryz.type186 (by kernel_rfl),
 ⟨zq Tryz.underlying187 Tryz.type187 (by kernel_rfl),
 ⟨zq Tryz.underlying188 Tryz.type188 (by kernel_rfl),
 ⟨zq Tryz.underlying189 Tryz.type189 (by kernel_rfl),
 ⟨zq Tryz.underlying190 Tryz.type190 (by kernel_rfl),
 ⟨zq Tryz.underlying191 Tryz.type191 (by kernel_rfl),
 ⟨zq Tryz.underlying192 Tryz.type192 (by kernel_rfl),
 ⟨zq Tryz.underlying193 Tryz.type193 (by kernel_rfl),
 ⟨zq Tryz.underlying194 Tryz.type194 (by kernel_rfl),
 ⟨zq Tryz.underlying195 Tryz.type195 (by kernel_rfl),
 ⟨zq Tryz.underlying196 Tryz.type196 (by kernel_rfl),
 ⟨zq Tryz.underlying197 Tryz.type197 (by kernel_rfl),
 ⟨zq Tryz.underlying198 Tryz.type198 (by kernel_rfl),
 ⟨zq Tryz.underlying199 Tryz.type199 (by kernel_rfl),
 ⟨zq Tryz.underlying200 Tryz.type200 (by kernel_rfl),
 ⟨zq Tryz.underlying201 Tryz.type201 (by kernel_rfl),
 ⟨zq Tryz.underlying202 Tryz.type202 (by kernel_rfl),
 ⟨zq Tryz.underlying203 Tryz.type203 (by kernel_rfl),
 ⟨zq Tryz.underlying205 Tryz.type205 (by kernel_rfl),
 ⟨zq Tryz.underlying206 Tryz.type206 (by kernel_rfl),
 ⟨zq Tryz.underlying208 Tryz.type208 (by kernel_rfl),
 ⟨zq Tryz.underlying211 Tryz.type211 (by kernel_rfl),
 ⟨zq Tryz.underlying212 Tryz.type212 (by kernel_rfl),
 ⟨zq Tryz.underlying215 Tryz.type215 (by kernel_rfl),
 trivial⟩⟩⟩⟩⟩⟩⟩⟩⟩⟩⟩⟩⟩⟩⟩⟩⟩⟩⟩⟩⟩⟩⟩⟩⟩⟩⟩⟩⟩⟩⟩⟩⟩⟩⟩⟩⟩⟩⟩⟩⟩⟩⟩⟩⟩⟩⟩⟩⟩⟩⟩⟩⟩⟩⟩⟩⟩⟩⟩⟩⟩⟩⟩⟩⟩⟩⟩⟩⟩⟩⟩⟩⟩⟩⟩⟩⟩⟩⟩⟩⟩⟩⟩⟩⟩⟩⟩⟩⟩⟩⟩⟩⟩⟩⟩⟩⟩⟩⟩⟩⟩⟩⟩⟩⟩⟩⟩⟩⟩⟩⟩⟩⟩⟩⟩⟩⟩⟩⟩⟩⟩⟩⟩⟩⟩⟩⟩⟩⟩⟩⟩⟩⟩⟩⟩⟩⟩⟩⟩⟩⟩⟩⟩⟩⟩⟩⟩⟩⟩⟩⟩⟩⟩⟩⟩⟩⟩⟩⟩⟩⟩⟩⟩⟩⟩⟩⟩⟩⟩⟩⟩⟩⟩⟩⟩⟩⟩⟩⟩⟩⟩⟩⟩⟩⟩⟩⟩⟩⟩⟩
abbrev bT:Ora:=.b true
abbrev bF:Ora:=.b false
theorem oT {l:List Prop} (h:AllP l):AllP ((true=true) :: l):=⟨rfl,h⟩
theorem oF {l:List Prop} (h:AllP l):AllP ((false=false) :: l):=⟨rfl,h⟩
section
variable {P : Program} {c : Cfg} {G G' : Sta} {K : Ex → Sta → Prop} {x : Code}
theorem sDE (hc:COk P c) (q:List Ora) (dr:List Nat) (ch ch':Sta) {obs:List Prop} (ho:AllP obs) (hk:Sem P c (sq2 x) (edt dr ch' G) K) (e':ch=ch':=by first | rfl | (simp only [nm,enq];done) | (simp only [n0];first | done | simp only [nm,enq])) (e:x=.seq (sq1 x) (sq2 x):=by kernel_rfl)
 (h:evReg P c (sq1 x) q [] (keysOf (edt dr ch G)) G=some (obs,edt dr ch G):=by kernel_rfl):Sem P c x G K:=by subst e';exact Sem.seqR hc e h ho hk
theorem rDE (hc:COk P c) (q:List Ora) (dr:List Nat) (ch ch':Sta) {obs:List Prop} (ho:AllP obs) (hk:K .normal (edt dr ch' G)) (e':ch=ch':=by first | rfl | (simp only [nm,enq];done) | (simp only [n0];first | done | simp only [nm,enq]))
 (h:evReg P c x q [] (keysOf (edt dr ch G)) G=some (obs,edt dr ch G):=by kernel_rfl):Sem P c x G K:=by subst e';exact Sem.region hc h ho hk
theorem endD {nt:Nat} {rs:List ResultVar} {n:Nat} (fz:List (Nat×Nat)) (r:AV) (l:List AV) {R:AV→List AV→Prop} (hR:R r l:=by first | exact ⟨rfl,rfl⟩ | (refine ⟨?_,?_⟩<;>(try simp only [nm,enq])<;>rfl) | (refine ⟨?_,?_⟩<;>simp only [nm,enq])) (h:evEnd P c rs n (Ev.frzs fz G)=some (r,l):=by kernel_rfl) :
 (∃ G',Wk P nt G G'∧endK (CallE P) c rs n R .ret G')∧(∃ G',Wk P nt G G'∧endK (CallE P) c rs n R .normal G'):=
 ⟨⟨_,Wk.frzs,(zc4 h hR).1⟩,⟨_,Wk.frzs,(zc4 h hR).2⟩⟩
end
end Go.Ev
namespace Go.Proofs
open Go.Shelf
def Tryz.lays189_ren:Go.Shelf.Ren:=⟨fun | 189=>116 | 125=>136 | 257=>135 | 128=>157 | 129=>158 | 294=>148 | 295=>149 | 296=>150 | 297=>151 | 298=>152 | 299=>153 | 216=>154 | 300=>155 | 301=>156 | 328=>163 | 329=>164 | 330=>165 | 331=>166 | 332=>167 | 215=>168 | 343=>170 | n=>n,fun | 28=>40 | 3=>3 | 46=>167 | 0=>0 | 51=>183 | 53=>23 | 4=>4 | 183=>175 | 182=>174 | 131=>180 | 5=>5 | 9=>9 | 218=>193 | 222=>197 | 228=>200 | 229=>52 | n=>n,fun | n=>n⟩
theorem Tryz.lays189:Go.Proofs.Lays.n189 Tryz.prog Tryz.lays189_ren:={
 mixed:=by kernel_rfl
 f125:=Tryz.func136.trans (congrArg some (by kernel_rfl))
 f128:=Tryz.func157.trans (congrArg some (by kernel_rfl))
 f129:=Tryz.func158.trans (congrArg some (by kernel_rfl))
 f189:=Tryz.func116.trans (congrArg some (by kernel_rfl))
 f215:=Tryz.func168.trans (congrArg some (by kernel_rfl))
 f216:=Tryz.func154.trans (congrArg some (by kernel_rfl))
 f257:=Tryz.func135.trans (congrArg some (by kernel_rfl))
 f294:=Tryz.func148.trans (congrArg some (by kernel_rfl))
 f295:=Tryz.func149.trans (congrArg some (by kernel_rfl))
 f296:=Tryz.func150.trans (congrArg some (by kernel_rfl))
 f297:=Tryz.func151.trans (congrArg some (by kernel_rfl))
 f298:=Tryz.func152.trans (congrArg some (by kernel_rfl))
 f299:=Tryz.func153.trans (congrArg some (by kernel_rfl))
 f300:=Tryz.func155.trans (congrArg some (by kernel_rfl))
 f301:=Tryz.func156.trans (congrArg some (by kernel_rfl))
 f328:=Tryz.func163.trans (congrArg some (by kernel_rfl))
 f329:=Tryz.func164.trans (congrArg some (by kernel_rfl))
 f330:=Tryz.func165.trans (congrArg some (by kernel_rfl))
 f331:=Tryz.func166.trans (congrArg some (by kernel_rfl))
 f332:=Tryz.func167.trans (congrArg some (by kernel_rfl))
 f343:=Tryz.func170.trans (congrArg some (by kernel_rfl))
 t0:=Tryz.underlying0
 a0:=Tryz.isAgg0
 z0:=Tryz.sizeOf0
 v0:=Tryz.zeroValue0
 t3:=Tryz.underlying3
 a3:=Tryz.isAgg3
 z3:=Tryz.sizeOf3
 v3:=Tryz.zeroValue3
 t4:=Tryz.underlying4
 a4:=Tryz.isAgg4
 z4:=Tryz.sizeOf4
 v4:=Tryz.zeroValue4
 t5:=Tryz.underlying5
 a5:=Tryz.isAgg5
 z5:=Tryz.sizeOf5
 v5:=Tryz.zeroValue5
 t9:=Tryz.underlying9
 a9:=Tryz.isAgg9
 z9:=Tryz.sizeOf9
 v9:=Tryz.zeroValue9
 t28:=Tryz.underlying40
 a28:=Tryz.isAgg40
 z28:=Tryz.sizeOf40
 v28:=Tryz.zeroValue40
 t46:=Tryz.underlying167
 a46:=Tryz.isAgg167
 z46:=Tryz.sizeOf167
 v46:=Tryz.zeroValue167
 t51:=Tryz.underlying183
 a51:=Tryz.isAgg183
 z51:=Tryz.sizeOf183
 v51:=Tryz.zeroValue183
 t53:=Tryz.underlying23
 a53:=Tryz.isAgg23
 z53:=Tryz.sizeOf23
 v53:=Tryz.zeroValue23
 t131:=Tryz.underlying180
 a131:=Tryz.isAgg180
 z131:=Tryz.sizeOf180
 v131:=Tryz.zeroValue180
 t182:=Tryz.underlying174
 a182:=Tryz.isAgg174
 z182:=Tryz.sizeOf174
 v182:=Tryz.zeroValue174
 t183:=Tryz.underlying175
 a183:=Tryz.isAgg175
 z183:=Tryz.sizeOf175
 v183:=Tryz.zeroValue175
 t218:=Tryz.underlying193
 a218:=Tryz.isAgg193
 z218:=Tryz.sizeOf193
 v218:=Tryz.zeroValue193
 t222:=Tryz.underlying197
 a222:=Tryz.isAgg197
 z222:=Tryz.sizeOf197
 v222:=Tryz.zeroValue197
 t228:=Tryz.underlying200
 a228:=Tryz.isAgg200
 z228:=Tryz.sizeOf200
 v228:=Tryz.zeroValue200
 t229:=Tryz.underlying52
 a229:=Tryz.isAgg52
 z229:=Tryz.sizeOf52
 v229:=Tryz.zeroValue52 }
open Go.Sort Go.RowKit in
theorem Tryz.slices_Sort_int (blk off cap:Nat) (zs:List Int) (w:World) (hH:Holds (Value.int .i64) w blk off zs.toArray) (hblk:blk < w.heap.size) (hsz:zs.length < 4611686018427387904) :
 Calls Tryz.prog 116 #[.slice (some ⟨blk,off,none⟩) zs.length cap] w fun e w'=>
  e=.returned (.tuple #[])∧∃ n os,w'=grow (putRow (Value.int .i64) (Sort.ahead w n) blk off (zs.mergeSort fun x y=>decide (x≤y)).toArray) os:=Any.slices_Sort_int Tryz.lays189 blk off cap zs w hH hblk hsz
def Tryz.laysNm220_ren:Go.Shelf.Ren:=⟨fun | 20=>117 | n=>n,fun | 22=>40 | 3=>3 | 4=>4 | 0=>0 | n=>n,fun | n=>n⟩
theorem Tryz.laysNm220:Go.Proofs.Lays2.n20 Tryz.prog Tryz.laysNm220_ren:={
 mixed:=by kernel_rfl
 f20:=Tryz.func117.trans (congrArg some (by kernel_rfl))
 t0:=Tryz.underlying0
 a0:=Tryz.isAgg0
 z0:=Tryz.sizeOf0
 v0:=Tryz.zeroValue0
 t3:=Tryz.underlying3
 a3:=Tryz.isAgg3
 z3:=Tryz.sizeOf3
 v3:=Tryz.zeroValue3
 t4:=Tryz.underlying4
 a4:=Tryz.isAgg4
 z4:=Tryz.sizeOf4
 v4:=Tryz.zeroValue4
 t22:=Tryz.underlying40
 a22:=Tryz.isAgg40
 z22:=Tryz.sizeOf40
 v22:=Tryz.zeroValue40
 i3:=by kernel_rfl }
open Go.RowKit Go.Lib Go.Sort in
theorem Tryz.slices_Compact_int (blk off cap:Nat) (zs:List Int) (w:World) (hH:Holds (Value.int .i64) w blk off zs.toArray) (hsz:zs.length≤9223372036854775807) (hcap:zs.length≤cap) :
 Calls Tryz.prog 117 #[.slice (some ⟨blk,off,none⟩) zs.length cap] w fun e w'=>e=.returned (.slice (some ⟨blk,off,none⟩) (Lib.compact zs).length cap)∧∃ q,w'=putRow (Value.int .i64) (Sort.ahead w q) blk off (Lib.compact zs++List.replicate (zs.length - (Lib.compact zs).length) 0).toArray:=Any.slices_Compact_int Tryz.laysNm220 blk off cap zs w hH hsz hcap
open Go.RowKit Go.Lib Go.Sort in
theorem Tryz.slices_Compact_int_empty (a:Option Addr) (cap:Nat) (w:World) :
 Calls Tryz.prog 117 #[.slice a 0 cap] w fun e w'=>e=.returned (.slice a 0 cap)∧w'=w:=Any.slices_Compact_int_empty Tryz.laysNm220 a cap w
open Go.RowKit Go.Sort in
theorem Tryz.slices_Sort_int_none (p:Option Addr) (cap:Nat) (w:World) :
 Calls Tryz.prog 116 #[.slice p 0 cap] w fun e w'=>e=.returned (.tuple #[])∧w'=w:=Any.slices_Sort_int_none Tryz.lays189 p cap w
end Go.Proofs
set_option linter.unusedVariables false
set_option linter.unusedSimpArgs false
namespace Go.Ev
open Go Go.RowKit Go.Sort
variable {P : Program}
def fvInts:List FV→Option (List Int)
 | []=>some []
 | .pv (.int .i64 n) :: r=>match fvInts r with
   | some l=>some (n :: l)
   | none=>none
 | _=>none
theorem zeJ:∀ {l:List FV} {zs:List Int},fvInts l=some zs→l=zs.map fun n=>.pv (.int .i64 n)
 | [],zs,h=>by simp only [fvInts,Option.some.injEq] at h;subst h;rfl
 | .pv (.int k n) :: r,zs,h=>by
   unfold fvInts at h
   split at h
   ·rename_i heq;cases heq
   ·rename_i heq
    cases heq
    split at h
    ·rename_i l hl
     simp only [Option.some.injEq] at h;subst h
     rw [zeJ hl];rfl
    ·cases h
   ·cases h
 | .pv (.bool _) :: r,zs,h | .pv (.float _ _) :: r,zs,h | .pv (.complex _ _ _) :: r,zs,h | .pv (.string _) :: r,zs,h | .pv (.pointer _) :: r,zs,h | .pv (.slice _ _ _) :: r,zs,h
 | .pv (.map _) :: r,zs,h | .pv (.chan _) :: r,zs,h | .pv (.func _ _ _) :: r,zs,h | .pv .nilFunc :: r,zs,h | .pv (.iface _ _) :: r,zs,h | .pv .nilIface :: r,zs,h
 | .pv (.agg _) :: r,zs,h | .pv (.tuple _) :: r,zs,h | .agg _ :: r,zs,h | .sl _ :: r,zs,h=>by simp [fvInts] at h
theorem zfZ (enc:Int→FV) (h:∀ n,enc n=.pv (.int .i64 n)):∀ zs:List Int,fvInts (zs.map enc)=some zs
 | []=>rfl
 | n :: r=>by simp only [List.map_cons,h n,fvInts,zfZ enc h r]
def sortInts (zs:List Int):List Int:=zs.mergeSort fun x y=>decide (x≤y)
def compactInts (zs:List Int):List Int:=Lib.compact zs
def sortF (l:List FV):Option (List FV):=match fvInts l with
 | some zs=>if zs.length < 2 ^ 40 then some ((sortInts zs).map fun n=>.pv (.int .i64 n)) else none
 | none=>none
def compactF (l:List FV):Option (List FV):=match fvInts l with
 | some zs=>if zs.length < 2 ^ 40 then some ((compactInts zs).map fun n=>.pv (.int .i64 n)) else none
 | none=>none
theorem sortF_map (enc:Int→FV) (h:∀ n,enc n=.pv (.int .i64 n)) (zs:List Int) (hl:zs.length < 2 ^ 40):sortF (zs.map enc)=some ((sortInts zs).map enc):=by
 have:enc=fun n=>.pv (.int .i64 n):=funext h
 unfold sortF
 rw [zfZ enc h]
 dsimp only
 rw [if_pos hl,this]
theorem zgy (enc:Int→FV) (h:∀ n,enc n=.pv (.int .i64 n)) (zs:List Int) (hl:zs.length < 2 ^ 40):compactF (zs.map enc)=some ((compactInts zs).map enc):=by
 have:enc=fun n=>.pv (.int .i64 n):=funext h
 unfold compactF
 rw [zfZ enc h]
 dsimp only
 rw [if_pos hl,this]
abbrev HasF (P:Program) (g:FuncId):Prop:=∃ fn,P.funcs[g]?=some fn∧(fn.name == "runtime.NumGoroutine")=false∧fn.body.isNone=false
theorem ownB_ints {own:Own} {w:World} {b o:Nat} {E:TypeId} {k n:Nat} {zs:List Int} (h:OwnB P own w b o E k (zs.map fun n=>.pv (.int .i64 n)) n) (hE:esz P E=1) :
 ∃ arr,w.heap[k]?=some (.cells arr E (0,0))∧n≤arr.size∧Holds (Value.int .i64) w k 0 zs.toArray∧k < w.heap.size:=by
 obtain ⟨_,arr,h2,h3,h4,h5⟩:=h
 rw [hE] at h3 h5
 have hk:k < w.heap.size:=(Array.getElem?_eq_some_iff.1 h2).1
 refine ⟨arr,h2,by omega,fun j hj=>?_,hk⟩
 have hj':j < zs.length:=by simpa using hj
 obtain ⟨v,e1,e2⟩:=h5 j (.pv (.int .i64 zs[j])) 0 (.pv (.int .i64 zs[j])) (by simp [hj']) rfl
 cases e2
 have he:zs.toArray[j]! = zs[j]:=by simp [hj']
 constructor
 ·simp only [World.cell?,h2,Nat.zero_add]
  rw [he];simpa using e1
 ·simp [World.frozen?,h2]
theorem zeu {enc:Int→Value} {w:World} {k off j:Nat} {d:Array Int} (h:j≠k):(putRow enc w k off d).heap[j]?=w.heap[j]?:=by
 simp only [putRow,mapBlock,Array.getElem?_modify]
 rw [if_neg (Ne.symm h)]
theorem zh8 {enc:Int→Value} {w:World} {k off:Nat} {d:Array Int} {arr:Array Value} {E:TypeId} {f:Nat×Nat} (h:w.heap[k]?=some (.cells arr E f)):(putRow enc w k off d).heap[k]?=some (.cells (putCells enc off d arr) E f):=by
 simp only [putRow,mapBlock,Array.getElem?_modify,if_true,h,Option.map_some]
 rfl
theorem ownB_put' {own:Own} {w w':World} {b o:Nat} {E:TypeId} {k n:Nat} {zs ys:List Int} (h:OwnB P own w b o E k (zs.map fun n=>.pv (.int .i64 n)) n) (hE:esz P E=1) {d:Array Int}
 (hw:w'.heap[k]?=(putRow (Value.int .i64) w k 0 d).heap[k]?) (hlen:ys.length≤d.size) (hd:∀ j,j < ys.length→d[j]! = ys[j]!) (hsz:d.size≤zs.length):OwnB P own w' b o E k (ys.map fun n=>.pv (.int .i64 n)) n:=by
 obtain ⟨h1,arr,h2,h3,h4,h5⟩:=h
 refine ⟨h1,putCells (Value.int .i64) 0 d arr,by rw [hw,zh8 h2],by simpa [putCells] using h3,?_,?_⟩
 ·intro x hx
  simp only [List.mem_map] at hx
  obtain ⟨y,_,rfl⟩:=hx
  rw [hE];rfl
 ·intro i x j y e1 e2
  simp only [List.getElem?_map,Option.map_eq_some_iff] at e1
  obtain ⟨z,e1,rfl⟩:=e1
  have hj:j=0:=by
   cases j with
   | zero=>rfl
   | succ j=>simp [FV.cells] at e2
  subst hj
  have hi:i < ys.length:=(List.getElem?_eq_some_iff.1 e1).1
  simp [FV.cells] at e2;subst e2
  have hE':=hE
  rw [hE]
  refine ⟨.int .i64 z,?_,RF.pv _ rfl⟩
  have hia:i < arr.size:=by
   have hiz:i < zs.length:=by omega
   obtain ⟨v,e3,_⟩:=h5 i (.pv (.int .i64 zs[i])) 0 (.pv (.int .i64 zs[i])) (by simp [hiz]) rfl
   rw [hE] at e3
   have:=(Array.getElem?_eq_some_iff.1 e3).1
   omega
  simp only [putCells,Array.getElem?_mapIdx,Nat.mul_one,Nat.add_zero,Array.getElem?_eq_getElem hia,Option.map_some,Nat.zero_le,true_and,Nat.zero_add,Nat.sub_zero]
  rw [if_pos (by omega),hd i hi]
  have:=(List.getElem?_eq_some_iff.1 e1).2
  simp [hi,this]
theorem ip_sort {g:FuncId} (hf:HasF P g) (hE:∀ own w b o E l u k n,OwnL P own w b o E l u→OwnB P own w b o E k l n→l≠[]→(∀ x∈l,x.size=1)→esz P E=1)
 (hs:∀ (blk off cap:Nat) (zs:List Int) (w:World),Holds (Value.int .i64) w blk off zs.toArray→blk < w.heap.size→zs.length < 4611686018427387904→
   Calls P g #[.slice (some ⟨blk,off,none⟩) zs.length cap] w fun e w'=>e=.returned (.tuple #[])∧∃ n os,w'=grow (putRow (Value.int .i64) (Sort.ahead w n) blk off (zs.mergeSort fun x y=>decide (x≤y)).toArray) os)
 (hn:∀ (p:Option Addr) (cap:Nat) (w:World),Calls P g #[.slice p 0 cap] w fun e w'=>e=.returned (.tuple #[])∧w'=w):IpOk P g sortF false:=by
 refine ⟨hf,fun own w b o E l l' u hl hlt hone hu=>?_⟩
 unfold sortF at hl
 split at hl
 ·rename_i zs hz
  split at hl
  ·rename_i hlen
   simp only [Option.some.injEq] at hl;subst hl
   have hlz:=zeJ hz
   subst hlz
   have hu0:=hu
   obtain ⟨a,c,rfl,hc,h3⟩:=hu
   by_cases hnil:zs=[]
   ·subst hnil
    refine (hn a c w).mono ?_
    rintro e w' ⟨rfl,rfl⟩
    refine ⟨_,rfl,Nat.le_refl _,fun _ _ _=>rfl,rfl,rfl,rfl,?_⟩
    rw [if_neg (by simp)]
    exact ⟨rfl,fun k n h=>by simpa [sortInts] using h⟩
   ·rcases h3 with ⟨_,h,_⟩ | ⟨k,rfl,hB⟩
    ·simp at h;exact absurd h hnil
    ·have hE1:esz P E=1:=hE _ _ _ _ _ _ _ _ _ hu0 hB (by simpa using hnil) (fun x hx=>by simp only [List.mem_map] at hx;obtain ⟨y,_,rfl⟩:=hx;rfl)
     obtain ⟨arr,q1,q2,q3,q4⟩:=ownB_ints hB hE1
     have hll:(zs.map fun n=>FV.pv (.int .i64 n)).length=zs.length:=by simp
     rw [hll] at hc ⊢
     refine (hs k 0 c zs w q3 q4 (by omega)).mono ?_
     rintro e w' ⟨rfl,m,os,rfl⟩
     have hheap:∀ j,j < w.heap.size→(grow (putRow (Value.int .i64) (Sort.ahead w m) k 0 (zs.mergeSort fun x y=>decide (x≤y)).toArray) os).heap[j]?=(putRow (Value.int .i64) w k 0 (zs.mergeSort fun x y=>decide (x≤y)).toArray).heap[j]?:=fun j hj=>by
      simp only [grow]
      rw [Array.getElem?_append_left (by simpa using hj)]
      rfl
     refine ⟨_,rfl,by simp [grow],fun j hj hne=>?_,rfl,rfl,rfl,?_⟩
     ·rw [hheap j hj,zeu]
      intro e;subst e;exact hne hB.1
     ·rw [if_neg (by simp)]
      refine ⟨rfl,fun k' n' hB'=>?_⟩
      have:k'=k:=hone _ _ _ hB'.1 hB.1
      subst this
      refine ownB_put' hB' hE1 (hheap k' q4) (by simp [sortInts]) (fun j hj=>by simp [sortInts]) (by simp)
  ·cases hl
 ·cases hl
theorem ip_compact {g:FuncId} (hf:HasF P g) (hE:∀ own w b o E l u k n,OwnL P own w b o E l u→OwnB P own w b o E k l n→l≠[]→(∀ x∈l,x.size=1)→esz P E=1)
 (hs:∀ (blk off cap:Nat) (zs:List Int) (w:World),Holds (Value.int .i64) w blk off zs.toArray→zs.length≤9223372036854775807→zs.length≤cap→
   Calls P g #[.slice (some ⟨blk,off,none⟩) zs.length cap] w fun e w'=>e=.returned (.slice (some ⟨blk,off,none⟩) (Lib.compact zs).length cap)∧∃ q,w'=putRow (Value.int .i64) (Sort.ahead w q) blk off (Lib.compact zs++List.replicate (zs.length - (Lib.compact zs).length) 0).toArray)
 (hn:∀ (a:Option Addr) (cap:Nat) (w:World),Calls P g #[.slice a 0 cap] w fun e w'=>e=.returned (.slice a 0 cap)∧w'=w)
 (hle:∀ zs,(Lib.compact zs:List Int).length≤zs.length):IpOk P g compactF true:=by
 refine ⟨hf,fun own w b o E l l' u hl hlt hone hu=>?_⟩
 unfold compactF at hl
 split at hl
 ·rename_i zs hz
  split at hl
  ·rename_i hlen
   simp only [Option.some.injEq] at hl;subst hl
   have hlz:=zeJ hz
   subst hlz
   have hu0:=hu
   obtain ⟨a,c,rfl,hc,h3⟩:=hu
   have hcl:=hle zs
   by_cases hnil:zs=[]
   ·subst hnil
    have hc0:Lib.compact ([]:List Int)=[]:=List.length_eq_zero_iff.1 (by simpa using hcl)
    refine (hn a c w).mono ?_
    rintro e w' ⟨rfl,rfl⟩
    refine ⟨_,rfl,Nat.le_refl _,fun _ _ _=>rfl,rfl,rfl,rfl,?_⟩
    rw [if_pos rfl]
    simp only [compactInts,hc0,List.map_nil]
    exact hu0
   ·rcases h3 with ⟨_,h,_⟩ | ⟨k,rfl,hB⟩
    ·simp at h;exact absurd h hnil
    ·have hE1:esz P E=1:=hE _ _ _ _ _ _ _ _ _ hu0 hB (by simpa using hnil) (fun x hx=>by simp only [List.mem_map] at hx;obtain ⟨y,_,rfl⟩:=hx;rfl)
     obtain ⟨arr,q1,q2,q3,q4⟩:=ownB_ints hB hE1
     have hll:(zs.map fun n=>FV.pv (.int .i64 n)).length=zs.length:=by simp
     rw [hll] at hc ⊢
     refine (hs k 0 c zs w q3 (by omega) hc).mono ?_
     rintro e w' ⟨rfl,m,rfl⟩
     refine ⟨_,rfl,by simp,fun j hj hne=>?_,rfl,rfl,rfl,?_⟩
     ·rw [zeu]
      ·rfl
      ·intro e;subst e;exact hne hB.1
     ·rw [if_pos rfl]
      refine ⟨_,c,by simp [compactInts],by simp [compactInts];omega,.inr ⟨k,rfl,?_⟩⟩
      refine ownB_put' hB hE1 rfl (by simp [compactInts]) (fun j hj=>?_) (by simp;omega)
      simp only [compactInts] at hj ⊢
      have hj2:j < (Lib.compact zs++List.replicate (zs.length - (Lib.compact zs).length) 0).length:=by simp;omega
      simp [hj,List.getElem?_append_left hj]
  ·cases hl
 ·cases hl
theorem gr_grow {g:FuncId} {E:TypeId} (hf:HasF P g) (hsz:esz P E=1) (hE0:∀ w n,0 < n→n≤2 ^ 40→Calls P g #[.slice none 0 0,.int .i64 (n:Nat)] w fun e w'=>∃ cap arr m,e=.returned (.slice (some ⟨w.heap.size,0,none⟩) 0 cap)∧w'=({ w with drawn:=m }:World).alloc (.cells arr E)∧cap≤arr.size)
 (h0:∀ w,Calls P g #[.slice none 0 0,.int .i64 0] w fun e w'=>e=.returned (.slice none 0 0)∧w'=w):GrOk P g E:=by
 refine ⟨hf,fun w n hn hn2=>?_⟩
 by_cases hz:n=0
 ·subst hz
  exact (h0 w).mono fun e w' h=>.inl h
 ·obtain ⟨m,rfl⟩:∃ m:Nat,n=m:=⟨n.toNat,by omega⟩
  refine (hE0 w m (by omega) (by omega)).mono ?_
  rintro e w' ⟨cap,arr,q,rfl,rfl,hc⟩
  exact .inr ⟨cap,arr,q,rfl,rfl,by rw [hsz];omega⟩
end Go.Ev
set_option linter.unusedSimpArgs false
set_option linter.unusedVariables false
namespace Go.Ev
open Go Go.Proofs
set_option maxRecDepth 8000
def growRen:Go.Shelf.Ren:=⟨fun | 4=>119 | n=>n,fun | 22=>40 | 25=>3 | n=>n,fun n=>n⟩
theorem growLays:Lays8.n4 Tryz.prog growRen:={
 mixed:=by kernel_rfl
 f4:=⟨Tryz.f119.name,by rfl,Tryz.func119.trans (congrArg some (by kernel_rfl))⟩
 t0:=Tryz.underlying0
 a0:=Tryz.isAgg0
 z0:=Tryz.sizeOf0
 v0:=Tryz.zeroValue0
 t3:=Tryz.underlying3
 a3:=Tryz.isAgg3
 z3:=Tryz.sizeOf3
 v3:=Tryz.zeroValue3
 t4:=Tryz.underlying4
 a4:=Tryz.isAgg4
 z4:=Tryz.sizeOf4
 v4:=Tryz.zeroValue4
 t9:=Tryz.underlying9
 a9:=Tryz.isAgg9
 z9:=Tryz.sizeOf9
 v9:=Tryz.zeroValue9
 t20:=Tryz.underlying20
 a20:=Tryz.isAgg20
 z20:=Tryz.sizeOf20
 v20:=Tryz.zeroValue20
 t22:=Tryz.underlying40
 a22:=Tryz.isAgg40
 z22:=Tryz.sizeOf40
 v22:=Tryz.zeroValue40 }
def ipTab (g:FuncId):Option ((List FV→Option (List FV))×Bool):=
 match Nat.beq g 116 with
 | true=>some (sortF,false)
 | false=>match Nat.beq g 117 with
   | true=>some (compactF,true)
   | false=>none
def grTab (g:FuncId):Option TypeId:=
 match Nat.beq g 119 with
 | true=>some 3
 | false=>none
theorem esz_one {own:Own} {w:World} {b o:Nat} {E:TypeId} {l:List FV} {u:Value} {k n:Nat} (h:OwnL Tryz.prog own w b o E l u) (h2:OwnB Tryz.prog own w b o E k l n) (hne:l≠[]) (hs:∀ x∈l,x.size=1):esz Tryz.prog E=1:=by
 obtain ⟨_,arr,_,_,h4,_⟩:=h2
 cases l with
 | nil=>exact absurd rfl hne
 | cons x r=>rw [← h4 x (List.mem_cons_self ..)];exact hs x (List.mem_cons_self ..)
theorem sort_ok:IpOk Tryz.prog 116 sortF false:=
 ip_sort ⟨_,Tryz.func116,by rfl,by rfl⟩ (fun _ _ _ _ _ _ _ _ _ h h2 h3 h4=>esz_one h h2 h3 h4) Tryz.slices_Sort_int Tryz.slices_Sort_int_none
theorem compact_ok:IpOk Tryz.prog 117 compactF true:=
 ip_compact ⟨_,Tryz.func117,by rfl,by rfl⟩ (fun _ _ _ _ _ _ _ _ _ h h2 h3 h4=>esz_one h h2 h3 h4) Tryz.slices_Compact_int Tryz.slices_Compact_int_empty Lib.compact_length_le
theorem grow_ok:GrOk Tryz.prog 119 3:=by
 refine gr_grow ⟨_,Tryz.func119,by rfl,by rfl⟩ (by kernel_rfl) (fun w n h0 h1=>?_) (fun w=>?_)
 ·refine (Any8.slices_Grow_grow growLays Tryz.t3 (.int .i64 0) Tryz.type3 (by kernel_rfl) (Nat.le_of_ble_eq_true rfl) none 0 0 n [] w (Nat.le_refl _) (by omega) ?_ (by omega) rfl (fun _=>rfl) (fun a h=>by cases h)).mono ?_
  ·have:Tryz.t3.bytes=8:=rfl
   rw [this];omega
  ·rintro e w' ⟨rfl,rfl⟩
   refine ⟨_,_,w.drawn+1,rfl,rfl,?_⟩
   have h1:(Value.int IntKind.i64 0).cells.size=1:=rfl
   simp [Builtin.zeroCells,h1]
   omega
 ·exact (Any8.slices_Grow_room growLays none 0 0 0 w (Nat.le_refl _) (by omega) (by omega) (by omega)).mono fun e w' h=>h
noncomputable def cf (mv:List Nat) (nt:Nat):Cfg:=mkCfgV tyTab ipTab grTab mv nt
theorem cfOk (mv:List Nat) (nt:Nat):COk Tryz.prog (cf mv nt):=by
 refine mkCfgV_ok tyTab_ok (by rfl) ⟨fun g f back h=>?_,fun g E h=>?_⟩
 ·change ipTab g=some (f,back) at h
  unfold ipTab at h
  split at h
  ·rename_i e
   simp only [Option.some.injEq,Prod.mk.injEq] at h
   obtain ⟨rfl,rfl⟩:=h
   rw [Nat.eq_of_beq_eq_true e];exact sort_ok
  ·split at h
   ·rename_i e
    simp only [Option.some.injEq,Prod.mk.injEq] at h
    obtain ⟨rfl,rfl⟩:=h
    rw [Nat.eq_of_beq_eq_true e];exact compact_ok
   ·cases h
 ·change grTab g=some E at h
  unfold grTab at h
  split at h
  ·rename_i e
   simp only [Option.some.injEq] at h;subst h
   rw [Nat.eq_of_beq_eq_true e];exact grow_ok
  ·cases h
end Go.Ev
set_option linter.unusedVariables false
set_option linter.unusedSimpArgs false
namespace Go.Ev
open Go Go.Proofs
set_option maxRecDepth 8000
noncomputable def cfr (mv:List Nat) (nt:Nat):Cfg:={ cf mv nt with rnd:=true }
theorem cfrOk (mv:List Nat) (nt:Nat):COk Tryz.prog (cfr mv nt):=⟨(cfOk mv nt).cfg,zfY (cfOk mv nt).ip rfl rfl,(cfOk mv nt).ro⟩
theorem back_ok_169:BackOk Tryz.prog 169 zu:=
 back_of (c:=cf [] 19) (cfOk [] 19) Tryz.func169 (by rfl) (by rfl) (by rfl) (by rfl) (agg:=true) (sz:=3) (fun x=>by simp [FV.fits,FV.size,FV.cells,FV.one,z7]) (fun x=>rfl) (fun h=>by cases h) (by rfl)
  (by rfl) (by rfl) (by rfl) (by rfl) (pre:=(opsOf (sq1 (sq1 (sq1 (sq2 (sq1 (sq1 (sq2 (bodyOf Tryz.f169))))))))).take 6) (by rfl) (by rfl) (by rfl) (by rfl)
  (fun yv xs=>⟨[],[(1,.f (.pv yv)),(4,.fp (.sl (xs.map (encX true 3))) 0),(10,vi (w64 (((xs.map (encX true 3)).length:Int) - 1))),(13,.f (.sl (xs.map (encX true 3)))),(16,vi (((xs.map (encX true 3)).length:Int))),(19,vi (w64 (((xs.map (encX true 3)).length:Int) - 1)))],by kernel_rfl,by rfl⟩)
  (fun yv xs i=>⟨[],[(1,.f (.pv yv)),(4,.fp (.sl (xs.map (encX true 3))) 0),(10,vi i),(22,vi i),(25,vB (decide (i≥0)))],by kernel_rfl,by rfl,by rfl⟩)
  (fun yv xs i=>⟨[],[(1,.f (.pv yv)),(4,.fp (.sl (xs.map (encX true 3))) 0),(10,vi (w64 (i - 1))),(28,vi i),(31,vi (w64 (i - 1)))],by kernel_rfl,by rfl⟩)
  (fun yv xs i x=>⟨[],[(1,.f (.pv yv)),(4,.fp (.sl (xs.map (encX true 3))) 0),(10,vi i),(34,.f (.pv yv)),(37,vi i),(40,.f (.sl (xs.map (encX true 3)))),(43,vi i),(46,.fp (encX true 3 x) 0),(49,asAV (encX true 3 x))],by kernel_rfl,by rfl,by rfl,by rfl,by rfl⟩) ⟨[],[(52,vB true),(55,vB false)],by kernel_rfl,by rfl⟩ (by simp)
theorem zeA (l:List zg):CallE Tryz.prog 161 [vL zu l] [] (.clo 169 [.fp (.sl (List.map zu l)) 0]) []:=by
 refine zef (x:=bodyOf Tryz.f161) (cfOk [] 4) Tryz.func161 (by rfl) (by rfl) (by rfl) (Nat.le_of_ble_eq_true rfl) (by rfl) (by rfl) (Nat.le_of_ble_eq_true rfl) ?_
 refine wkS [1] [(1,vL zu l)] (by kernel_rfl) ?_
 refine sR (cfOk [] 4) [] [4,5] [(4,.ptr 5 0),(5,vL zu l)] (obs:=[]) (by kernel_rfl) (by kernel_rfl) obN ?_
 refine sR (cfOk [] 4) [] [5,7] [(5,vL zu l),(7,.clo 169 [.ptr 5 0])] (obs:=[]) (by kernel_rfl) (by kernel_rfl) obN ?_
 refine Sem.ret' (by kernel_rfl) Wk.refl ?_
 refine ⟨_,Wk.fpz (b:=5) (x:=.sl (List.map zu l)) (by rfl) (by rfl) (by rfl),?_⟩
 exact (zc4 (x:=.clo 169 [.fp (.sl (List.map zu l)) 0]) (l:=[]) (by kernel_rfl) ⟨rfl,rfl⟩).1
def zaf (a0:List zg):Prop:=CallE Tryz.prog 161 [vL zu a0] [] (.clo 169 [.fp (.sl (List.map zu a0)) 0]) []
theorem back_ok_142:BackOk Tryz.prog 142 ze:=
 back_of (c:=cf [] 19) (cfOk [] 19) Tryz.func142 (by rfl) (by rfl) (by rfl) (by rfl) (agg:=true) (sz:=8) (fun x=>by simp [FV.fits,FV.size,FV.cells,FV.one,zt]) (fun x=>by rw [zt];rfl) (fun h=>by cases h) (by rfl)
  (by rfl) (by rfl) (by rfl) (by rfl) (pre:=(opsOf (sq1 (sq1 (sq1 (sq2 (sq1 (sq1 (sq2 (bodyOf Tryz.f142))))))))).take 6) (by rfl) (by rfl) (by rfl) (by rfl)
  (fun yv xs=>⟨[],[(1,.f (.pv yv)),(4,.fp (.sl (xs.map (encX true 8))) 0),(10,vi (w64 (((xs.map (encX true 8)).length:Int) - 1))),(13,.f (.sl (xs.map (encX true 8)))),(16,vi (((xs.map (encX true 8)).length:Int))),(19,vi (w64 (((xs.map (encX true 8)).length:Int) - 1)))],by kernel_rfl,by rfl⟩)
  (fun yv xs i=>⟨[],[(1,.f (.pv yv)),(4,.fp (.sl (xs.map (encX true 8))) 0),(10,vi i),(22,vi i),(25,vB (decide (i≥0)))],by kernel_rfl,by rfl,by rfl⟩)
  (fun yv xs i=>⟨[],[(1,.f (.pv yv)),(4,.fp (.sl (xs.map (encX true 8))) 0),(10,vi (w64 (i - 1))),(28,vi i),(31,vi (w64 (i - 1)))],by kernel_rfl,by rfl⟩)
  (fun yv xs i x=>⟨[],[(1,.f (.pv yv)),(4,.fp (.sl (xs.map (encX true 8))) 0),(10,vi i),(34,.f (.pv yv)),(37,vi i),(40,.f (.sl (xs.map (encX true 8)))),(43,vi i),(46,.fp (encX true 8 x) 0),(49,asAV (encX true 8 x))],by kernel_rfl,by rfl,by rfl,by rfl,by rfl⟩) ⟨[],[(52,vB true),(55,vB false)],by kernel_rfl,by rfl⟩ (by simp)
theorem backward_rx (l:List za):CallE Tryz.prog 125 [vL ze l] [] (.clo 142 [.fp (.sl (List.map ze l)) 0]) []:=by
 refine zef (x:=bodyOf Tryz.f125) (cfOk [] 4) Tryz.func125 (by rfl) (by rfl) (by rfl) (Nat.le_of_ble_eq_true rfl) (by rfl) (by rfl) (Nat.le_of_ble_eq_true rfl) ?_
 refine wkS [1] [(1,vL ze l)] (by kernel_rfl) ?_
 refine sR (cfOk [] 4) [] [4,5] [(4,.ptr 5 0),(5,vL ze l)] (obs:=[]) (by kernel_rfl) (by kernel_rfl) obN ?_
 refine sR (cfOk [] 4) [] [5,7] [(5,vL ze l),(7,.clo 142 [.ptr 5 0])] (obs:=[]) (by kernel_rfl) (by kernel_rfl) obN ?_
 refine Sem.ret' (by kernel_rfl) Wk.refl ?_
 refine ⟨_,Wk.fpz (b:=5) (x:=.sl (List.map ze l)) (by rfl) (by rfl) (by rfl),?_⟩
 exact (zc4 (x:=.clo 142 [.fp (.sl (List.map ze l)) 0]) (l:=[]) (by kernel_rfl) ⟨rfl,rfl⟩).1
def zcg (a0:List za):Prop:=CallE Tryz.prog 125 [vL ze a0] [] (.clo 142 [.fp (.sl (List.map ze a0)) 0]) []
theorem back_ok_129:BackOk Tryz.prog 129 zE:=
 back_of (c:=cf [] 19) (cfOk [] 19) Tryz.func129 (by rfl) (by rfl) (by rfl) (by rfl) (agg:=false) (sz:=1) (fun x=>by rfl) (fun x=>rfl) (fun _=>rfl) (by rfl)
  (by rfl) (by rfl) (by rfl) (by rfl) (pre:=(opsOf (sq1 (sq1 (sq1 (sq2 (sq1 (sq1 (sq2 (bodyOf Tryz.f129))))))))).take 6) (by rfl) (by rfl) (by rfl) (by rfl)
  (fun yv xs=>⟨[],[(1,.f (.pv yv)),(4,.fp (.sl (xs.map (encX false 1))) 0),(10,vi (w64 (((xs.map (encX false 1)).length:Int) - 1))),(13,.f (.sl (xs.map (encX false 1)))),(16,vi (((xs.map (encX false 1)).length:Int))),(19,vi (w64 (((xs.map (encX false 1)).length:Int) - 1)))],by kernel_rfl,by rfl⟩)
  (fun yv xs i=>⟨[],[(1,.f (.pv yv)),(4,.fp (.sl (xs.map (encX false 1))) 0),(10,vi i),(22,vi i),(25,vB (decide (i≥0)))],by kernel_rfl,by rfl,by rfl⟩)
  (fun yv xs i=>⟨[],[(1,.f (.pv yv)),(4,.fp (.sl (xs.map (encX false 1))) 0),(10,vi (w64 (i - 1))),(28,vi i),(31,vi (w64 (i - 1)))],by kernel_rfl,by rfl⟩)
  (fun yv xs i x=>⟨[],[(1,.f (.pv yv)),(4,.fp (.sl (xs.map (encX false 1))) 0),(10,vi i),(34,.f (.pv yv)),(37,vi i),(40,.f (.sl (xs.map (encX false 1)))),(43,vi i),(46,.fp (encX false 1 x) 0),(49,asAV (encX false 1 x))],by kernel_rfl,by rfl,by rfl,by rfl,by rfl⟩) ⟨[],[(52,vB true),(55,vB false)],by kernel_rfl,by rfl⟩ (by simp)
theorem backward_byte (l:List Int):CallE Tryz.prog 107 [vL zE l] [] (.clo 129 [.fp (.sl (List.map zE l)) 0]) []:=by
 refine zef (x:=bodyOf Tryz.f107) (cfOk [] 4) Tryz.func107 (by rfl) (by rfl) (by rfl) (Nat.le_of_ble_eq_true rfl) (by rfl) (by rfl) (Nat.le_of_ble_eq_true rfl) ?_
 refine wkS [1] [(1,vL zE l)] (by kernel_rfl) ?_
 refine sR (cfOk [] 4) [] [4,5] [(4,.ptr 5 0),(5,vL zE l)] (obs:=[]) (by kernel_rfl) (by kernel_rfl) obN ?_
 refine sR (cfOk [] 4) [] [5,7] [(5,vL zE l),(7,.clo 129 [.ptr 5 0])] (obs:=[]) (by kernel_rfl) (by kernel_rfl) obN ?_
 refine Sem.ret' (by kernel_rfl) Wk.refl ?_
 refine ⟨_,Wk.fpz (b:=5) (x:=.sl (List.map zE l)) (by rfl) (by rfl) (by rfl),?_⟩
 exact (zc4 (x:=.clo 129 [.fp (.sl (List.map zE l)) 0]) (l:=[]) (by kernel_rfl) ⟨rfl,rfl⟩).1
def zcF (a0:List Int):Prop:=CallE Tryz.prog 107 [vL zE a0] [] (.clo 129 [.fp (.sl (List.map zE a0)) 0]) []
end Go.Ev
set_option linter.unusedSimpArgs false
set_option linter.unusedVariables false
namespace Go.Ev
open Go Go.Proofs
set_option maxRecDepth 8000
def zd8 (a0:zb) (a1:Int) (r0:Bool):Prop:=CallE Tryz.prog 93 [zy a0,vi a1] [] (vB r0) []
def zP (a1:Int) (o0:zl) (r0:Int) (o0':zl):Prop:=CallE Tryz.prog 49 [.ptr 3 0,vi a1] [zp o0] (vi r0) [zp o0']
def zbl (a0:zb) (a1:Int) (r0:zb):Prop:=CallE Tryz.prog 95 [zy a0,vi a1] [] (zy r0) []
def zaX (a0:Int) (a1:Int) (r0:zb):Prop:=CallE Tryz.prog 59 [vi a0,vi a1] [] (zy r0) []
def zaw (a0:zb) (a1:Int) (r0:Bool):Prop:=CallE Tryz.prog 58 [zy a0,vi a1] [] (vB r0) []
def zbP (a0:zb) (r0:zb):Prop:=CallE Tryz.prog 97 [zy a0] [] (zy r0) []
def zaC (a0:Int) (r0:za):Prop:=CallE Tryz.prog 27 [vi a0] [] (zS r0) []
def zaU (o0:zl) (r0:za) (o0':zl):Prop:=CallE Tryz.prog 62 [.ptr 3 0] [zp o0] (zS r0) [zp o0']
def z6 (a0:Int) (a1:(List za)) (r0:za):Prop:=CallE Tryz.prog 63 [vi a0,vL ze a1] [] (zS r0) []
def zN (a1:Int) (o0:zl) (r0:za) (o0':zl):Prop:=CallE Tryz.prog 25 [.ptr 3 0,vi a1] [zp o0] (zS r0) [zp o0']
def zah (a0:za) (r0:Int):Prop:=CallE Tryz.prog 26 [zm a0] [] (vi r0) []
def zaV (a0:(List Int)) (r0:za):Prop:=CallE Tryz.prog 9 [vL zE a0] [] (zm r0) []
def zbC (a0:(List Int)) (r0:ByteArray):Prop:=CallE Tryz.prog 10 [vL zE a0] [] (vS r0) []
def zaT (a0:Int) (r0:za):Prop:=CallE Tryz.prog 28 [vi a0] [] (zS r0) []
def zbz (a0:zh) (r0:Bool):Prop:=CallE Tryz.prog 140 [zC a0] [] (vB r0) []
def zbX (a0:zh) (r0:Bool):Prop:=CallE Tryz.prog 123 [zC a0] [] (vB r0) []
def zbd (a0:za) (o0:zh) (o1:Int) (r0:Bool) (o0':zh) (o1':Int):Prop:=CallE Tryz.prog 122 [zm a0,.ptr 3 0,.ptr 6 0] [zC o0,vi o1] (vB r0) [zC o0',vi o1']
def zJ (a0:(List za)) (o0:zh) (o1:Int) (r0:Int) (o0':zh) (o1':Int):Prop:=CallE Tryz.prog 141 [vL ze a0,.clo 122 [.ptr 3 0,.ptr 6 0]] [zC o0,vi o1] (vi r0) [zC o0',vi o1']
def zF (a0:(List za)) (o0:zh) (o1:Int) (r0:Bool) (o0':zh) (o1':Int):Prop:=CallE Tryz.prog 124 [vL ze a0,.clo 122 [.ptr 3 0,.ptr 6 0]] [zC o0,vi o1] (vB r0) [zC o0',vi o1']
def zaz (a0:zh) (a1:Int) (r0:Bool):Prop:=CallE Tryz.prog 98 [zC a0,vi a1] [] (vB r0) []
def zdb (a0:za) (r0:Int):Prop:=CallE Tryz.prog 99 [zm a0] [] (vi r0) []
def zda (a0:za) (a1:Int) (r0:Int):Prop:=CallE Tryz.prog 100 [zm a0,vi a1] [] (vi r0) []
def zcq (a0:za) (r0:Bool):Prop:=CallE Tryz.prog 64 [zm a0] [] (vB r0) []
def zbc (a0:(List za)) (r0:(List za)):Prop:=CallE Tryz.prog 101 [vL ze a0] [] (vL ze r0) []
def zbk (a0:za) (r0:za):Prop:=CallE Tryz.prog 65 [zm a0] [] (zm r0) []
def zaQ (a0:za) (r0:za) (r1:Int):Prop:=CallE Tryz.prog 29 [zm a0] [] (.tup [zm r0,vi r1]) []
def zbH (a1:zb) (o0:zi) (r0:zg) (o0':zi):Prop:=CallE Tryz.prog 143 [.ptr 3 0,zy a1] [zr o0] (zx r0) [zr o0']
def zai (a0:(List (List Int))) (r0:(List Int)):Prop:=CallE Tryz.prog 94 [vL zj a0] [] (oL 3 zd r0) []
def zag (a0:(List Int)) (a1:(List Int)) (r0:(List Int)):Prop:=CallE Tryz.prog 82 [vL zd a0,vL zd a1] [] (vL zd r0) []
def zaY (a1:(List Int)) (a2:(List Int)) (o0:zi) (o0':zi):Prop:=CallE Tryz.prog 159 [.ptr 3 0,vL zd a1,vL zd a2] [zr o0] (.tup []) [zr o0']
def zaK (a1:zg) (a2:zg) (o0:zi) (r0:zg) (o0':zi):Prop:=CallE Tryz.prog 144 [.ptr 3 0,zx a1,zx a2] [zr o0] (zx r0) [zr o0']
def zaq (a1:za) (a2:Int) (o0:zi) (r0:(List zg)) (o0':zi):Prop:=CallE Tryz.prog 160 [.ptr 3 0,zm a1,vi a2] [zr o0] (oL 158 zu r0) [zr o0']
def zcG (a0:zg) (r0:zg):Prop:=CallE Tryz.prog 162 [zx a0] [] (zx r0) []
def zbq (a1:za) (o0:zi) (r0:zg) (o0':zi):Prop:=CallE Tryz.prog 145 [.ptr 3 0,zm a1] [zr o0] (zx r0) [zr o0']
def zak (a1:za) (o0:zi) (r0:zg) (o0':zi):Prop:=CallE Tryz.prog 126 [.ptr 3 0,zm a1] [zr o0] (zx r0) [zr o0']
def zeh (a0:za) (r0:zc) (r1:Int):Prop:=CallE Tryz.prog 102 [zm a0] [] (.tup [zn r0,vi r1]) []
def za1 (a0:(List Int)) (a1:Int) (r0:Int):Prop:=CallE Tryz.prog 127 [vL zd a0,vi a1] [] (vi r0) []
def zaG (a0:(List Int)) (a1:Int) (r0:Bool):Prop:=CallE Tryz.prog 104 [vL zd a0,vi a1] [] (vB r0) []
def zbW (a0:Int) (o0:zc) (o1:ByteArray) (o2:Int) (r0:Bool) (o0':zc) (o1':ByteArray) (o2':Int):Prop:=CallE Tryz.prog 103 [vi a0,.ptr 3 0,.ptr 6 0,.ptr 9 0] [zn o0,vS o1,vi o2] (vB r0) [zn o0',vS o1',vi o2']
def zcf (a0:za) (a1:ByteArray) (r0:(List Bool)):Prop:=CallE Tryz.prog 66 [zm a0,vS a1] [] (oL 4 zk r0) []
def zbM (a0:za) (a1:ByteArray) (r0:(List Bool)):Prop:=CallE Tryz.prog 30 [zm a0,vS a1] [] (oL 4 zk r0) []
def zbB (a0:zb) (r0:(List zH)):Prop:=CallE Tryz.prog 105 [zy a0] [] (oL 138 zw r0) []
def zb1 (a0:Int) (r0:Bool):Prop:=CallE Tryz.prog 128 [vi a0] [] (vB r0) []
def zaA (a0:Int) (r0:ByteArray):Prop:=CallE Tryz.prog 106 [vi a0] [] (vS r0) []
def zbu (a0:zb) (r0:ByteArray):Prop:=CallE Tryz.prog 67 [zy a0] [] (vS r0) []
def za8 (a0:za) (a1:Bool) (r0:ByteArray):Prop:=CallE Tryz.prog 68 [zm a0,vB a1] [] (vS r0) []
def zaE (a0:Int) (r0:ByteArray):Prop:=CallE Tryz.prog 69 [vi a0] [] (vS r0) []
def zZ (a0:za) (r0:ByteArray):Prop:=CallE Tryz.prog 31 [zm a0] [] (vS r0) []
def zK (a0:(List Bool)) (a1:(List Bool)) (r0:Bool):Prop:=CallE Tryz.prog 32 [vL zk a0,vL zk a1] [] (vB r0) []
def zbp (a0:(List Int)) (r0:(List Int)):Prop:=CallE Tryz.prog 70 [vL zE a0] [] (vL zE r0) []
def zas (a0:zA) (a1:ByteArray) (r0:Int):Prop:=CallE Tryz.prog 33 [za3 a0,vS a1] [] (vi r0) []
def zbv (r0:Bool):Prop:=CallE Tryz.prog 11 [] [] (vB r0) []
def zaM (a0:za) (a1:Int) (r0:Bool):Prop:=CallE Tryz.prog 108 [zm a0,vi a1] [] (vB r0) []
def zaO (a0:za) (a1:Int) (r0:Int):Prop:=CallE Tryz.prog 38 [zm a0,vi a1] [] (vi r0) []
def zaN (a0:za) (r0:Bool):Prop:=CallE Tryz.prog 71 [zm a0] [] (vB r0) []
def zaR (a0:za) (r0:za):Prop:=CallE Tryz.prog 72 [zm a0] [] (zm r0) []
def zbe (a0:za) (r0:za) (r1:Int):Prop:=CallE Tryz.prog 34 [zm a0] [] (.tup [zm r0,vi r1]) []
def zbg (a0:za) (a1:za) (r0:Bool):Prop:=CallE Tryz.prog 35 [zm a0,zm a1] [] (vB r0) []
def zaL (r0:zc):Prop:=CallE Tryz.prog 130 [] [] (zbb r0) []
def zal (a0:(List Int)) (a1:Int) (r0:(List Int)):Prop:=CallE Tryz.prog 147 [vL zd a0,vi a1] [] (oL 3 zd r0) []
def zao (a0:zc) (a1:zc) (r0:zc):Prop:=CallE Tryz.prog 146 [zn a0,zn a1] [] (.agg [vL zf (zc.Sets r0),oL 3 zd (zc.First r0),oL 3 zd (zc.Last r0),oL 40 zj (zc.Follow r0),vB (zc.Null r0)]) []
def zR (a0:(List Int)) (a1:(List Int)) (r0:(List Int)):Prop:=CallE Tryz.prog 47 [vL zd a0,vL zd a1] [] (vL zd r0) []
def zT (a0:zc) (a1:zc) (r0:zc):Prop:=CallE Tryz.prog 131 [zn a0,zn a1] [] (.agg [vL zf (zc.Sets r0),vL zd (zc.First r0),vL zd (zc.Last r0),oL 40 zj (zc.Follow r0),vB (zc.Null r0)]) []
def zbN (a0:zc) (a1:zc) (r0:zc):Prop:=CallE Tryz.prog 132 [zn a0,zn a1] [] (.agg [vL zf (zc.Sets r0),vL zd (zc.First r0),vL zd (zc.Last r0),oL 40 zj (zc.Follow r0),vB (zc.Null r0)]) []
def zbt (a0:zc) (r0:zc):Prop:=CallE Tryz.prog 133 [zn a0] [] (.agg [vL zf (zc.Sets r0),vL zd (zc.First r0),vL zd (zc.Last r0),oL 40 zj (zc.Follow r0),vB (zc.Null r0)]) []
def zab (a0:zc) (r0:zc):Prop:=CallE Tryz.prog 134 [zn a0] [] (zn r0) []
def zaF (a0:za) (r0:zc):Prop:=CallE Tryz.prog 109 [zm a0] [] (zn r0) []
def zbY (a0:za) (r0:zc) (r1:Int):Prop:=CallE Tryz.prog 73 [zm a0] [] (.tup [zn r0,vi r1]) []
def zbs (a0:za) (a1:ByteArray) (r0:(List Bool)):Prop:=CallE Tryz.prog 36 [zm a0,vS a1] [] (oL 4 zk r0) []
def zbO (a0:za) (a1:ByteArray) (r0:Bool):Prop:=CallE Tryz.prog 120 [zm a0,vS a1] [] (vB r0) []
def zaW (a0:(List Bool)) (a1:(List Bool)) (r0:(List Bool)):Prop:=CallE Tryz.prog 137 [vL zk a0,vL zk a1] [] (oL 4 zk r0) []
def zbj (a0:za) (r0:Bool):Prop:=CallE Tryz.prog 138 [zm a0] [] (vB r0) []
def zaD (a0:(List Bool)) (a1:(List Bool)) (r0:Bool):Prop:=CallE Tryz.prog 139 [vL zk a0,vL zk a1] [] (vB r0) []
def zU (a0:za) (a1:ByteArray) (a2:(List Bool)) (r0:(List Bool)):Prop:=CallE Tryz.prog 121 [zm a0,vS a1,vL zk a2] [] (vL zk r0) []
def zbf (a0:za) (a1:ByteArray) (a2:Int) (r0:(List Int)):Prop:=CallE Tryz.prog 96 [zm a0,vS a1,vi a2] [] (oL 3 zd r0) []
def zam (a0:za) (a1:ByteArray) (r0:Bool):Prop:=CallE Tryz.prog 110 [zm a0,vS a1] [] (vB r0) []
def zbA (a0:zA) (a1:ByteArray) (r0:Int):Prop:=CallE Tryz.prog 74 [za3 a0,vS a1] [] (vi r0) []
def zbr (a0:zA) (a1:ByteArray) (r0:Int):Prop:=CallE Tryz.prog 37 [za3 a0,vS a1] [] (vi r0) []
def zaB (a0:za) (a1:za) (a2:ByteArray) (r0:Bool):Prop:=CallE Tryz.prog 12 [zm a0,zm a1,vS a2] [] (vB r0) []
def zbw (a0:(List Int)) (a1:(List Int)) (a2:(List Int)) (r0:Bool):Prop:=CallE Tryz.prog 3 [vL zE a0,vL zE a1,vL zE a2] [] (vB r0) []
end Go.Ev
