import Derived.Test.YtcenhboabgcjcaaA01
import Derived.RangeFuncRecord
import Derived.Shelf.Sort.Plain
import Derived.Shelf.Slices.CompactI
import Derived.Shelf.Slices.In.SortNone
import Derived.OpenShut
import Derived.Below
import Derived.RangeFuncSeq
import Derived.KernelRfl
import Derived.Test.YtcenhboabgcjcaaProg
import Derived.Shelf.Small.Bits
import Derived.Shelf.Small.Wraps
import Derived.Shelf.Strconv.Itoa0
import Derived.Ground.Names2Prog
import Derived.Shelf.Slices.SearchI
import Derived.Shelf.Slices.Cells
import Derived.Shelf.Spec.SlicesGrow
import Derived.Lib.RowBridge
set_option linter.unusedVariables false
set_option linter.unusedSimpArgs false
namespace Go.Ev
open Go Go.RowKit
variable {P : Program}
structure CK (w w' : World) : Prop where
  size : w.heap.size ≤ w'.heap.size
  cells : ∀ (k : Nat) (arr : Array Value) (T : TypeId) (z : Nat × Nat), w.heap[k]? = some (Obj.cells arr T z) → w'.heap[k]? = some (Obj.cells arr T z)
theorem CK.refl (w : World) : CK w w := ⟨Nat.le_refl _, fun _ _ _ _ h => h⟩
theorem CK.trans {a b c : World} (h : CK a b) (k : CK b c) : CK a c := ⟨Nat.le_trans h.size k.size, fun i x T z e => k.cells i x T z (h.cells i x T z e)⟩
theorem CK.cell {w w' : World} (h : CK w w') {p : Addr} {v : Value} (e : w.cell? p = some v) : w'.cell? p = some v := by
  have hb : ∃ arr T z, w.heap[p.block]? = some (Obj.cells arr T z) := by
    unfold World.cell? at e
    split at e
    · rename_i hb; exact ⟨_, _, _, hb⟩
    · cases e
  obtain ⟨arr, T, z, hb⟩ := hb
  rw [World.cell?_of_block (w := w) (by rw [hb]; exact h.cells _ _ _ _ hb)]; exact e
section
variable {own : Own} {w w' : World} {G : Sta}
theorem RF.ck (h : CK w w') {x : FV} {v : Value} (r : RF own w x v) : RF own w' x v := by
  induction r with
  | pv v h => exact .pv v h
  | agg l arr hl _ ih => exact .agg l arr hl ih
  | sl l a n c ad sz hn' hc ha hsz hcell _ ih =>
    refine .sl l a n c ad sz hn' hc (fun hne => let ⟨h1, h2, h3, h4⟩ := ha hne; ⟨h1, h2, h3, Nat.lt_of_lt_of_le h4 h.size⟩) hsz ?_ ?_
    · intro i x j y e1 e2
      obtain ⟨v, e⟩ := hcell i x j y e1 e2
      exact ⟨v, h.cell e⟩
    · intro i x j y v e1 e2 e3
      obtain ⟨v', e⟩ := hcell i x j y e1 e2
      rw [h.cell e] at e3; cases e3
      exact ih i x j y v e1 e2 e
theorem RC.ck (h : CK w w') {v : AV} {u : Value} (r : RC own w v u) : RC own w' v u := by
  cases v with
  | f x => exact ⟨r.1, r.2.ck h⟩
  | fp x o =>
    obtain ⟨k, q, h1, h2, h3, h4⟩ := r
    exact ⟨k, q, h1, h2, Nat.lt_of_lt_of_le h3 h.size, fun j y hy => let ⟨z, e1, e2⟩ := h4 j y hy; ⟨z, h.cell e1, e2.ck h⟩⟩
  | _ => exact r
theorem OwnB.ck (h : CK w w') {b o : Nat} {E : TypeId} {k : Nat} {l : List FV} {c : Nat} (r : OwnB P own w b o E k l c) : OwnB P own w' b o E k l c := by
  obtain ⟨e1, arr, e2, e3, e4, e5⟩ := r
  exact ⟨e1, arr, h.cells _ _ _ _ e2, e3, e4, fun i x j y h1 h2 => let ⟨v, q1, q2⟩ := e5 i x j y h1 h2; ⟨v, q1, q2.ck h⟩⟩
theorem R0.ck (h : CK w w') {v : AV} {u : Value} (r : R0 P G own w v u) : R0 P G own w' v u := by
  cases v with
  | rf b o i n =>
    simp only [R0, SlV] at r ⊢
    cases hg : look G b (some o) with
    | none => trivial
    | some x =>
      rw [hg] at r
      cases x with
      | own E l =>
        obtain ⟨e1, a, c, e2, e3, e4⟩ := r
        exact ⟨e1, a, c, e2, e3, e4.imp id fun ⟨k, e5, e6⟩ => ⟨k, e5, e6.ck h⟩⟩
      | f x => cases x with
        | sl l => exact ⟨r.1, r.2.ck h⟩
        | _ => trivial
      | _ => trivial
  | ep b o i c =>
    simp only [R0, EpV] at r ⊢
    cases hg : look G b (some o) with
    | none => trivial
    | some x =>
      rw [hg] at r
      cases x with
      | own E l => obtain ⟨e1, k, c, e2, e3⟩ := r; exact ⟨e1, k, c, e2, e3.ck h⟩
      | f x => cases x with
        | sl l => obtain ⟨x, e1, e2⟩ := r; exact ⟨x, e1, RC.ck h e2⟩
        | _ => trivial
      | _ => trivial
  | clo g caps =>
    obtain ⟨arr, h1, h2, h3⟩ := r
    exact ⟨arr, h1, h2, fun j x y e1 e2 => RC.ck h (h3 j x y e1 e2)⟩
  | bad => trivial
  | f x => exact RC.ck (own := own) (u := u) (v := .f x) h r
  | ptr b o => exact RC.ck (own := own) (u := u) (v := .ptr b o) h r
  | fp x o => exact RC.ck (own := own) (u := u) (v := .fp x o) h r
  | own E l => exact RC.ck (own := own) (u := u) (v := .own E l) h r
  | agg l => exact RC.ck (own := own) (u := u) (v := .agg l) h r
  | tup l => exact RC.ck (own := own) (u := u) (v := .tup l) h r
theorem RO.ck (h : CK w w') {b o : Nat} {v : AV} {u : Value} (r : RO P G own w b o v u) : RO P G own w' b o v u := by
  cases v with
  | own E l =>
    obtain ⟨a, c, h1, h2, h3⟩ := r
    exact ⟨a, c, h1, h2, h3.imp id fun ⟨k, e1, e2⟩ => ⟨k, e1, e2.ck h⟩⟩
  | bad => trivial
  | f x => exact R0.ck (P := P) (G := G) (own := own) (u := u) (v := .f x) h r
  | ptr b o => exact R0.ck (P := P) (G := G) (own := own) (u := u) (v := .ptr b o) h r
  | fp x o => exact R0.ck (P := P) (G := G) (own := own) (u := u) (v := .fp x o) h r
  | rf b o i n => exact R0.ck (P := P) (G := G) (own := own) (u := u) (v := .rf b o i n) h r
  | ep b o i n => exact R0.ck (P := P) (G := G) (own := own) (u := u) (v := .ep b o i n) h r
  | clo g caps => exact R0.ck (P := P) (G := G) (own := own) (u := u) (v := .clo g caps) h r
  | agg l => exact R0.ck (P := P) (G := G) (own := own) (u := u) (v := .agg l) h r
  | tup l => exact R0.ck (P := P) (G := G) (own := own) (u := u) (v := .tup l) h r
theorem R1.ck (h : CK w w') {v : AV} {u : Value} (r : R1 P G own w v u) : R1 P G own w' v u := by
  cases v with
  | agg l =>
    obtain ⟨arr, h1, h2, h3⟩ := r
    exact ⟨arr, h1, h2, fun j x y e1 e2 => R0.ck h (h3 j x y e1 e2)⟩
  | bad => trivial
  | f x => exact R0.ck (P := P) (G := G) (own := own) (u := u) (v := .f x) h r
  | ptr b o => exact R0.ck (P := P) (G := G) (own := own) (u := u) (v := .ptr b o) h r
  | fp x o => exact R0.ck (P := P) (G := G) (own := own) (u := u) (v := .fp x o) h r
  | rf b o i n => exact R0.ck (P := P) (G := G) (own := own) (u := u) (v := .rf b o i n) h r
  | ep b o i n => exact R0.ck (P := P) (G := G) (own := own) (u := u) (v := .ep b o i n) h r
  | clo g caps => exact R0.ck (P := P) (G := G) (own := own) (u := u) (v := .clo g caps) h r
  | own E l => exact R0.ck (P := P) (G := G) (own := own) (u := u) (v := .own E l) h r
  | tup l => exact R0.ck (P := P) (G := G) (own := own) (u := u) (v := .tup l) h r
theorem RL.ck (h : CK w w') {b : Nat} {v : AV} {u : Value} (r : RL P G own w b v u) : RL P G own w' b v u := by
  cases v with
  | agg l =>
    obtain ⟨arr, h1, h2, h3⟩ := r
    exact ⟨arr, h1, h2, fun j x y e1 e2 => RO.ck h (h3 j x y e1 e2)⟩
  | tup l =>
    obtain ⟨arr, h1, h2, h3⟩ := r
    exact ⟨arr, h1, h2, fun j x y e1 e2 => R1.ck h (h3 j x y e1 e2)⟩
  | bad => trivial
  | f x => exact RO.ck (P := P) (G := G) (own := own) (b := b) (o := 0) (u := u) (v := .f x) h r
  | ptr b o => exact RO.ck (P := P) (G := G) (own := own) (b := b) (o := 0) (u := u) (v := .ptr b o) h r
  | fp x o => exact RO.ck (P := P) (G := G) (own := own) (b := b) (o := 0) (u := u) (v := .fp x o) h r
  | rf b o i n => exact RO.ck (P := P) (G := G) (own := own) (b := b) (o := 0) (u := u) (v := .rf b o i n) h r
  | ep b o i n => exact RO.ck (P := P) (G := G) (own := own) (b := b) (o := 0) (u := u) (v := .ep b o i n) h r
  | clo g caps => exact RO.ck (P := P) (G := G) (own := own) (b := b) (o := 0) (u := u) (v := .clo g caps) h r
  | own E l => exact RO.ck (P := P) (G := G) (own := own) (b := b) (o := 0) (u := u) (v := .own E l) h r
theorem RB.ck (h : CK w w') {b : Nat} {v : AV} {arr : Array Value} (r : RB P G own w b v arr) : RB P G own w' b v arr :=
  ⟨r.1, fun j x u e1 e2 => RO.ck h (r.2 j x u e1 e2)⟩
theorem St.ck {nt : Nat} {a : Act} (s : St P nt G own a w) (h : CK w w') : St P nt G own a w' :=
  ⟨s.size, fun t v e => let ⟨u, e1, e2⟩ := s.temps t v e; ⟨u, e1, RL.ck h e2⟩,
   fun b v hb e => let ⟨k, arr, T, e1, e2, e3⟩ := s.boxes b v hb e; ⟨k, arr, T, e1, h.cells _ _ _ _ e2, RB.ck h e3⟩,
   s.one, fun k o e => Nat.lt_of_lt_of_le (s.lt k o e) h.size⟩
end
def mark (D : Nat) : Deferred := { target := .collected D, args := #[] }
def Mks (w : World) (own' : Own) (w' : World) (a a' : Act) : Prop :=
  ∃ ds : List Nat, a'.defers = ds.map mark ++ a.defers ∧ ds.Nodup ∧ ∀ D ∈ ds, w.heap.size ≤ D ∧ own' D = none ∧ w'.heap[D]? = some (Obj.deferred (some []))
theorem Mks.same {w w' : World} {own' : Own} {a a' : Act} (h : a'.defers = a.defers) : Mks w own' w' a a' := ⟨[], by simpa using h, List.nodup_nil, fun D h => by simp at h⟩
theorem Mks.trans {own own1 own2 : Own} {w w1 w2 : World} {a a1 a2 : Act} (h : Mks w own1 w1 a a1) (t1 : Tr own w own1 w1) (t2 : Tr own1 w1 own2 w2) (k : Mks w1 own2 w2 a1 a2) : Mks w own2 w2 a a2 := by
  obtain ⟨d1, e1, n1, h1⟩ := h
  obtain ⟨d2, e2, n2, h2⟩ := k
  have lt1 : ∀ D ∈ d1, D < w1.heap.size := fun D hD => (Array.getElem?_eq_some_iff.1 (h1 D hD).2.2).1
  refine ⟨d2 ++ d1, by rw [e2, e1]; simp, List.nodup_append.2 ⟨n2, n1, fun x hx y hy e => ?_⟩, fun D hD => ?_⟩
  · have := lt1 y hy; have := (h2 x hx).1; omega
  · rcases List.mem_append.1 hD with hD | hD
    · obtain ⟨q1, q2, q3⟩ := h2 D hD
      exact ⟨Nat.le_trans t1.size q1, q2, q3⟩
    · obtain ⟨q1, q2, q3⟩ := h1 D hD
      obtain ⟨r1, r2⟩ := t2.keep D (lt1 D hD) q2
      exact ⟨q1, r1, by rw [r2]; exact q3⟩
theorem Mks.tr {own1 own2 : Own} {w w1 : World} {a a1 : Act} (h : Mks w own1 w1 a a1) (t : Tr own1 w1 own2 w1) : Mks w own2 w1 a a1 := by
  obtain ⟨d1, e1, n1, h1⟩ := h
  refine ⟨d1, e1, n1, fun D hD => ?_⟩
  obtain ⟨q1, q2, q3⟩ := h1 D hD
  exact ⟨q1, (t.keep D (Array.getElem?_eq_some_iff.1 q3).1 q2).1, q3⟩
theorem CK.put {w : World} {D : Nat} {o o' : Obj} (h : w.heap[D]? = some o) (hc : ∀ arr T z, o ≠ Obj.cells arr T z) : CK w (w.putObj D o') :=
  ⟨by simp [World.putObj], fun k arr T z e => by
    have : k ≠ D := by rintro rfl; rw [h] at e; cases e; exact hc _ _ _ rfl
    rw [World.putObj_heap_other this]; exact e⟩
theorem leaves_marks {F : Fence} {n : Nat} {fn : Func} {R : Ending → World → Prop} {tmps : Array Value} : ∀ (ds : List Nat) (w : World), ds.Nodup → (∀ D ∈ ds, w.heap[D]? = some (Obj.deferred (some []))) →
    (∀ w2, CK w w2 → w2.os = w.os → w2.tape = w.tape → w2.output = w.output → (∀ k, k ∉ ds → w2.heap[k]? = w.heap[k]?) → ∃ v, (results fn tmps).run P w2 = .ok v w2 ∧ R (.returned v) w2) →
    LeavesInM F n P fn tmps R (ds.map mark) .returning w
  | [], w, _, _, h => h w (CK.refl w) rfl rfl rfl (fun _ _ => rfl)
  | D :: ds, w, hn, hd, h => by
    obtain ⟨hn1, hn2⟩ := List.nodup_cons.1 hn
    have h0 := hd D (List.mem_cons_self ..)
    refine ⟨by simp, .inl ⟨D, _, rfl, run_takeDeferred h0, ?_⟩⟩
    have hck : CK w (w.putObj D (Obj.deferred none)) := CK.put h0 (fun _ _ _ e => by cases e)
    refine leaves_marks ds _ hn2 (fun E hE => ?_) (fun w2 k1 k2 k3 k4 k5 => h w2 (hck.trans k1) k2 k3 k4 fun k hk => ?_)
    · rw [World.putObj_heap_other (by rintro rfl; exact hn1 hE)]; exact hd E (List.mem_cons_of_mem _ hE)
    · rw [k5 k (fun hm => hk (List.mem_cons_of_mem _ hm)), World.putObj_heap_other (by rintro rfl; exact hk (List.mem_cons_self ..))]
end Go.Ev

set_option linter.unusedVariables false
set_option linter.unusedSimpArgs false
namespace Go.Ev
open Go Go.RowKit
variable {P : Program}
structure COk (P : Program) (c : Cfg) : Prop where
  cfg : CfgOk P c
  ip : IpsOk P c
  ro : P.follows .mixedOrders = true
def Wk (P : Program) (nt : Nat) (G G' : Sta) : Prop := ∀ own a w, St P nt G own a w → ∃ own', St P nt G' own' a w ∧ Tr own w own' w
theorem Wk.refl {nt : Nat} {G : Sta} : Wk P nt G G := fun own a w s => ⟨own, s, Tr.refl _ _⟩
theorem Wk.trans {nt : Nat} {G1 G2 G3 : Sta} (h : Wk P nt G1 G2) (k : Wk P nt G2 G3) : Wk P nt G1 G3 := by
  intro own a w s
  obtain ⟨o2, s2, t2⟩ := h own a w s
  obtain ⟨o3, s3, t3⟩ := k o2 a w s2
  exact ⟨o3, s3, t2.trans t3⟩
theorem Wk.drop {nt : Nat} {G : Sta} (d : Nat → Bool) : Wk P nt G (dropN d G) := fun own a w s => ⟨own, s.drop d, Tr.refl _ _⟩
theorem Wk.frz {nt : Nat} {G : Sta} (b o : Nat) : Wk P nt G ((Up.frz b o).app G) := fun own a w s => by
  have := s.frz b o
  exact ⟨_, this.1, this.2.tr⟩
def keepN (l : List Nat) (G : Sta) : Sta := dropN (fun b => !l.contains b) G
def frzs : List (Nat × Nat) → Sta → Sta
  | [], G => G
  | (b, o) :: r, G => frzs r ((Up.frz b o).app G)
def tidy (fz : List (Nat × Nat)) (keep : List Nat) (G : Sta) : Sta := keepN keep (frzs fz G)
theorem Wk.frzs {nt : Nat} : ∀ {fz : List (Nat × Nat)} {G : Sta}, Wk P nt G (frzs fz G)
  | [], G => Wk.refl
  | (b, o) :: r, G => (Wk.frz b o).trans Wk.frzs
theorem Wk.tidy {nt : Nat} {fz : List (Nat × Nat)} {keep : List Nat} {G : Sta} : Wk P nt G (tidy fz keep G) := Wk.frzs.trans (Wk.drop _)
theorem Wk.eq {nt : Nat} {fz : List (Nat × Nat)} {keep : List Nat} {G G' : Sta} (h : Ev.tidy fz keep G = G') : Wk P nt G G' := by rw [← h]; exact Wk.tidy
def WideC (P : Program) (c : Cfg) (F : Fence) : Prop := WideF P F ∧ (c.rnd = false → F.round = none)
def Sem (P : Program) (c : Cfg) (x : Code) (G : Sta) (K : Ex → Sta → Prop) : Prop :=
  ∀ (own : Own) (a : Act) (w : World) (F : Fence) (n : Nat) (Q : Exit → Act → World → Prop), WideC P c F → St P c.nt G own a w →
    (∀ e G' own' a' w', K e G' → St P c.nt G' own' a' w' → Tr own w own' w' → Mks w own' w' a a' → Q e.to a' w') → x.wpIn F n P Q a w
section
variable {c : Cfg} {G G' : Sta} {K K' : Ex → Sta → Prop} {x y z : Code}
theorem Sem.mono (h : Sem P c x G K) (hk : ∀ e G', K e G' → K' e G') : Sem P c x G K' := fun own a w F n Q hF s hQ =>
  h own a w F n Q hF s fun e G' own' a' w' k s' t' d' => hQ e G' own' a' w' (hk e G' k) s' t' d'
theorem Sem.weak (hw : Wk P c.nt G G') (h : Sem P c x G' K) : Sem P c x G K := fun own a w F n Q hF s hQ => by
  obtain ⟨own', s', t'⟩ := hw own a w s
  exact h own' a w F n Q hF s' fun e G2 own2 a2 w2 k s2 t2 d2 => hQ e G2 own2 a2 w2 k s2 (t'.trans t2) d2
theorem Sem.skip (hw : Wk P c.nt G G') (h : K .normal G') : Sem P c .skip G K := fun own a w F n Q hF s hQ => by
  obtain ⟨own', s', t'⟩ := hw own a w s
  exact wpIn_skip (hQ .normal G' own' a w h s' t' (.same rfl))
theorem Sem.exit {i : Nat} (hw : Wk P c.nt G G') (h : K (.exit i) G') : Sem P c (.exit i) G K := fun own a w F n Q hF s hQ => by
  obtain ⟨own', s', t'⟩ := hw own a w s
  exact wpIn_exit (hQ (.exit i) G' own' a w h s' t' (.same rfl))
theorem Sem.ret (hw : Wk P c.nt G G') (h : K .ret G') : Sem P c .ret G K := fun own a w F n Q hF s hQ => by
  obtain ⟨own', s', t'⟩ := hw own a w s
  exact wpIn_ret (hQ .ret G' own' a w h s' t' (.same rfl))
theorem Sem.seq (h : Sem P c x G (seqK K fun G' => Sem P c y G' K)) : Sem P c (.seq x y) G K := fun own a w F n Q hF s hQ => by
  refine wpIn_seq (h own a w F n _ hF s ?_)
  intro e G' own' a' w' hk s' t' d'
  cases e with
  | normal => exact hk own' a' w' F n Q hF s' fun e2 G2 own2 a2 w2 hk2 s2 t2 d2 => hQ e2 G2 own2 a2 w2 hk2 s2 (t'.trans t2) (d'.trans t' t2 d2)
  | exit id => exact hQ _ G' own' a' w' hk s' t' d'
  | ret => exact hQ _ G' own' a' w' hk s' t' d'
theorem Sem.cond {t : Nat} {b : Bool} (hg : get G (tb t) = some (.f (.pv (.bool b)))) (h1 : b = true → Sem P c y G K) (h2 : b = false → Sem P c z G K) : Sem P c (.cond (.tmp t) y z) G K := fun own a w F n Q hF s hQ => by
  refine wpIn_cond (rv_pv (P := P) (G := G) (own := own) (w := w) (s.temp hg)) ?_
  cases b with
  | true => exact h1 rfl own a w F n Q hF s hQ
  | false => exact h2 rfl own a w F n Q hF s hQ
theorem Sem.block {id : Nat} (h : Sem P c x G (blockK id K)) : Sem P c (.block id x) G K := fun own a w F n Q hF s hQ => by
  refine wpIn_block (h own a w F n _ hF s ?_)
  intro e G' own' a' w' hk s' t' d'
  cases e with
  | normal => exact hQ _ G' own' a' w' hk s' t' d'
  | ret => exact hQ _ G' own' a' w' hk s' t' d'
  | exit j =>
    simp only [blockK] at hk
    simp only [Ex.to, Exit.inBlock]
    split at hk
    · rename_i e; rw [if_pos e]; exact hQ .normal G' own' a' w' hk s' t' d'
    · rename_i e; rw [if_neg e]; exact hQ (.exit j) G' own' a' w' hk s' t' d'
theorem Sem.loop {σ : Type} (st : σ → Sta) (Inv : σ → Prop) (μ : σ → Nat) (s0 : σ) (h0 : Wk P c.nt G (st s0)) (hI : Inv s0)
    (step : ∀ s, Inv s → Sem P c x (st s) (seqK K fun G' => ∃ s', Wk P c.nt G' (st s') ∧ Inv s' ∧ μ s' < μ s)) : Sem P c (.loop x) G K := fun own a w F n Q hF s hQ => by
  have ex : ∀ a' w', (∃ m s own', m = μ s ∧ Inv s ∧ St P c.nt (st s) own' a' w' ∧ Tr own w own' w' ∧ Mks w own' w' a a') → ∃ m, (∃ s own', m = μ s ∧ Inv s ∧ St P c.nt (st s) own' a' w' ∧ Tr own w own' w' ∧ Mks w own' w' a a') ∧
      ∀ m', m' < m → ¬ ∃ s own', m' = μ s ∧ Inv s ∧ St P c.nt (st s) own' a' w' ∧ Tr own w own' w' ∧ Mks w own' w' a a' := by
    rintro a' w' ⟨m, hm⟩
    induction m using Nat.strongRecOn with
    | _ m ih =>
      by_cases hlt : ∃ m', m' < m ∧ ∃ s own', m' = μ s ∧ Inv s ∧ St P c.nt (st s) own' a' w' ∧ Tr own w own' w' ∧ Mks w own' w' a a'
      · obtain ⟨m', h1, h2⟩ := hlt; exact ih m' h1 h2
      · exact ⟨m, hm, fun m' h1 h2 => hlt ⟨m', h1, h2⟩⟩
  classical
  let J : Act → World → Prop := fun a' w' => ∃ m s own', m = μ s ∧ Inv s ∧ St P c.nt (st s) own' a' w' ∧ Tr own w own' w' ∧ Mks w own' w' a a'
  let ν : Act → World → Nat := fun a' w' => if h : J a' w' then (ex a' w' h).choose else 0
  obtain ⟨own0, st0, t0⟩ := h0 own a w s
  refine wpIn_loop J ν ⟨_, s0, own0, rfl, hI, st0, t0, .same rfl⟩ ?_
  intro a1 w1 hJ
  have hν : ν a1 w1 = (ex a1 w1 hJ).choose := by simp only [ν]; rw [dif_pos hJ]
  obtain ⟨⟨s1, own1, m1, i1, st1, t1, d1⟩, _⟩ := (ex a1 w1 hJ).choose_spec
  refine step s1 i1 own1 a1 w1 F n _ hF st1 ?_
  intro e G' own' a' w' hk s' t' d'
  cases e with
  | exit id => exact hQ _ G' own' a' w' hk s' (t1.trans t') (d1.trans t1 t' d')
  | ret => exact hQ _ G' own' a' w' hk s' (t1.trans t') (d1.trans t1 t' d')
  | normal =>
    obtain ⟨s2, hw, hi', hlt⟩ := hk
    obtain ⟨own2, st2, t2⟩ := hw own' a' w' s'
    have hJ' : J a' w' := ⟨_, s2, own2, rfl, hi', st2, (t1.trans t').trans t2, (d1.trans t1 t' d').tr t2⟩
    refine ⟨hJ', ?_⟩
    have hν' : ν a' w' = (ex a' w' hJ').choose := by simp only [ν]; rw [dif_pos hJ']
    rw [hν, hν', m1]
    refine Nat.lt_of_le_of_lt (Nat.le_of_not_lt fun hlt' => ?_) hlt
    exact (ex a' w' hJ').choose_spec.2 _ hlt' ⟨s2, own2, rfl, hi', st2, (t1.trans t').trans t2, (d1.trans t1 t' d').tr t2⟩
end
section
variable {c : Cfg} {ops : Array Oper}
theorem evOps_runs {draw : Bool} : ∀ (r : List Oper) {p : List Oper} {log log' : List Lg} {G G' : Sta} {q : List Ora} {obs : List Prop}, ops.toList = p ++ r → evOps (CallE P) c ops draw r p.length log G q = some (obs, log', G') → AllP obs →
    ∃ es, es.map (·.i) = List.range' p.length r.length ∧ Runs (CallE P) (stepRM c ops) es G G' ∧ (draw = true → log' = log ++ es.map Ent.lg)
  | [], p, log, log', G, G', q, obs, hp, h, ho => by
    unfold evOps at h
    split at h
    · simp only [Option.some.injEq, Prod.mk.injEq] at h; obtain ⟨rfl, rfl, rfl⟩ := h; exact ⟨[], rfl, rfl, fun _ => by simp⟩
    · cases h
  | o :: r, p, log, log', G, G', q, obs, hp, h, ho => by
    have hop : ops[p.length]? = some o := by
      rw [← Array.getElem?_toList, hp, List.getElem?_append_right (Nat.le_refl _)]; simp
    unfold evOps at h
    split at h
    · rename_i obs1 q' U T h1
      split at h
      · rename_i obs2 log2 G2 h2
        simp only [Option.some.injEq, Prod.mk.injEq] at h
        obtain ⟨rfl, rfl, rfl⟩ := h
        obtain ⟨ho1, ho2⟩ := allP_append ho
        have hl : (p ++ [o]).length = p.length + 1 := by simp
        rw [← hl] at h2
        obtain ⟨es, e1, e2, e3⟩ := evOps_runs r (p := p ++ [o]) (by rw [hp]; simp) h2 ho2
        refine ⟨⟨p.length, U, T⟩ :: es, by simp [e1, List.range'_succ], ⟨?_, e2⟩, fun hd => ?_⟩
        · rw [step_guard hop]
          exact le_guard _ _ _ _ (RM2.ev_wp _ h1 ho1 ⟨rfl, rfl⟩)
        · subst hd
          rw [e3 rfl]; simp [Ent.lg, Ent.reads]
      · cases h
    · cases h
def evReg (P : Program) (c : Cfg) (x : Code) (q : List Ora) (fz : List (Nat × Nat)) (keep : List Nat) (G : Sta) : Option (List Prop × Sta) :=
  match x with
  | .region _ ops draw => match evOps (CallE P) c ops draw ops.toList 0 [] G q with
    | some (obs, log, G') => match draw with
      | true => match topo ops && (ancOk ops (tabOf ops) && logOk (tabOf ops) log) with
        | true => some (obs, tidy fz keep G')
        | false => none
      | false => some (obs, tidy fz keep G')
    | none => none
  | _ => none
theorem Sem.region (hc : COk P c) {x : Code} {q : List Ora} {fz : List (Nat × Nat)} {keep : List Nat} {G G' : Sta} {obs : List Prop} {K : Ex → Sta → Prop} (h : evReg P c x q fz keep G = some (obs, G')) (ho : AllP obs) (hk : K .normal G') : Sem P c x G K := by
  intro own a w F n Q hF s hQ
  unfold evReg at h
  split at h
  · rename_i id ops draw
    split at h
    · rename_i obs' log G1 hev
      have hev' : obs' = obs ∧ tidy fz keep G1 = G' ∧ (draw = true → topo ops = true ∧ ancOk ops (tabOf ops) = true ∧ logOk (tabOf ops) log = true) := by
        cases draw with
        | true =>
          dsimp only at h
          split at h
          · rename_i hb
            simp only [Bool.and_eq_true] at hb
            simp only [Option.some.injEq, Prod.mk.injEq] at h
            exact ⟨h.1, h.2, fun _ => hb⟩
          · cases h
        | false =>
          simp only [Option.some.injEq, Prod.mk.injEq] at h
          exact ⟨h.1, h.2, fun h => by cases h⟩
      obtain ⟨rfl, rfl, hd⟩ := hev'
      obtain ⟨es, e1, e2, e3⟩ := evOps_runs (P := P) (p := []) _ rfl hev ho
      have e1 : es.map (·.i) = List.range ops.size := by rw [e1, List.range_eq_range']; simp
      have hlt : ∀ x ∈ es, x.i < ops.size := fun x hx => by
        have : x.i ∈ es.map (·.i) := List.mem_map.2 ⟨x, hx, rfl⟩
        rw [e1] at this; exact List.mem_range.1 this
      have fin : ∀ own' a' w', St P c.nt G1 own' a' w' → Tr own w own' w' → a'.defers = a.defers → Q .normal a' w' := by
        intro own' a' w' s' t' d'
        obtain ⟨own2, s2, t2⟩ := (Wk.tidy (P := P) (fz := fz) (keep := keep)) own' a' w' s'
        exact hQ .normal _ own2 a' w' hk s2 (t'.trans t2) (.same d')
      cases draw with
      | true =>
        obtain ⟨htopo, htab, hlog⟩ := hd rfl
        obtain ⟨s1, t1⟩ := s.drawn (w.drawn + 1)
        refine wpIn_region_any hc.ro ?_
        refine runs_any hc.cfg hc.ip (fun _ _ _ _ _ h => h) hF.1 htopo ops.size es (by have := congrArg List.length e1; simp at this; omega) (by simp) ?_ ?_ hlt (by rw [e1]; exact List.pairwise_lt_range) (entOkB_spec htopo htab hlt (by rw [e3 rfl, List.nil_append] at hlog; exact hlog)) s1 e2
          (fun own' a' w' s' t' d' => fin own' a' w' s' (t1.trans t') d')
        · intro i o ho hl
          have hi := (Array.getElem?_eq_some_iff.1 ho).1
          simp [Array.getD_eq_getD_getElem?, hi] at hl
        · intro i hi
          rw [e1]; simp [Array.getD_eq_getD_getElem?, hi]
      | false =>
        refine wpIn_region ?_
        rw [← e1]
        exact runs_text hc.cfg hc.ip (fun _ _ _ _ _ h => h) hF.1 es s e2 fin
    · cases h
  · cases h
end
def evOuts : Nat → Nat → Sta → Option (List AV)
  | 0, _, _ => some []
  | n + 1, i, G => match get G (ob i) with
    | some v => match evOuts n (i + 1) G with
      | some l => some (v :: l)
      | none => none
    | none => none
theorem evOuts_spec {G : Sta} : ∀ {n i : Nat} {l : List AV} {K : List AV → Prop}, evOuts n i G = some l → K l → outsOf n i G K
  | 0, i, l, K, h, hk => by simp only [evOuts, Option.some.injEq] at h; subst h; exact hk
  | n + 1, i, l, K, h, hk => by
    unfold evOuts at h
    split at h
    · rename_i v hv
      split at h
      · rename_i l' hl
        simp only [Option.some.injEq] at h; subst h
        exact ⟨v, hv, evOuts_spec hl hk⟩
      · cases h
    · cases h
def evEnd (P : Program) (c : Cfg) (rs : List ResultVar) (n : Nat) (G : Sta) : Option (AV × List AV) :=
  match (resRM c rs).ev (CallE P) G [] [] with
  | some ([], _, .set _ x :: W, _) => match evOuts n 0 (app W G) with
    | some l => some (x, l)
    | none => none
  | _ => none
theorem RM.ev_wq {CE : CEx} {G : Sta} : ∀ (m : RM) {T : List Acc} {q q' : List Ora} {obs : List Prop} {U : List Up} {T' : List Acc} {K : List Up → Prop},
    m.ev CE G T q = some (obs, q', U, T') → AllP obs → K U → m.wq CE G K
  | .ret U, T, q, q', obs, U', T', K, h, ho, hk => by simp only [RM.ev, Option.some.injEq, Prod.mk.injEq] at h; obtain ⟨rfl, rfl, rfl, rfl⟩ := h; exact hk
  | .fail, T, q, q', obs, U', T', K, h, ho, hk => by cases h
  | .ask b o k, T, q, q', obs, U', T', K, h, ho, hk => by
    simp only [RM.ev] at h
    split at h
    · rename_i v hv
      split at h
      · rename_i hok
        simp only [RM.wq, hv]; exact ⟨hok, RM.ev_wq _ h ho hk⟩
      · cases h
    · cases h
  | .peek b k, T, q, q', obs, U', T', K, h, ho, hk => by
    simp only [RM.ev] at h
    split at h
    · rename_i v hv; simp only [RM.wq, hv]; exact RM.ev_wq _ h ho hk
    · cases h
  | .call g args outs k, T, q, q', obs, U', T', K, h, ho, hk => by
    unfold RM.ev at h
    split at h
    · obtain ⟨o, h1, rfl⟩ := addOb_some h; exact ⟨_, _, ho.1, RM.ev_wq _ h1 ho.2 hk⟩
    · cases h
theorem evEnd_endK {c : Cfg} {rs : List ResultVar} {n : Nat} {G : Sta} {x : AV} {l : List AV} {R : AV → List AV → Prop} (h : evEnd P c rs n G = some (x, l)) (hR : R x l) : endK (CallE P) c rs n R .ret G ∧ endK (CallE P) c rs n R .normal G := by
  have key : (resRM c rs).wq (CallE P) G (endU n R G) := by
    unfold evEnd at h
    split at h
    · rename_i hev
      split at h
      · rename_i hl
        simp only [Option.some.injEq, Prod.mk.injEq] at h
        obtain ⟨rfl, rfl⟩ := h
        exact RM.ev_wq _ hev trivial (evOuts_spec hl hR)
      · cases h
    · cases h
  exact ⟨key, key⟩
theorem end_marks {c : Cfg} {fn : Func} {F : Fence} {n : Nat} {own : Own} {a a' : Act} {w w' : World} {G' : Sta} {own' : Own} {r : AV} {outs outs' : List AV} (hc : COk P c) (ha : a.defers = [])
    (s' : St P c.nt G' own' a' w') (t' : Tr own w own' w') (d' : Mks w own' w' a a') {m : Nat}
    (hk : (resRM c fn.results.toList).wp (CallE P) G' [] (fun U _ => endU m (fun r' o' => r' = r ∧ o' = outs') G' U)) :
    LeavesInM F n P fn a'.tmps (fun e w' => ∃ u own', e = .returned u ∧ Tr own w own' w' ∧ Outs P own' w' outs' ∧ RL P [] own' w' 0 r u) a'.defers .returning w' := by
  obtain ⟨ds, e1, n1, h1⟩ := d'
  rw [e1, ha, List.append_nil]
  refine leaves_marks ds w' n1 (fun D hD => (h1 D hD).2.2) ?_
  intro w2 ck k2 k3 k4 k5
  have t2 : Tr own w own' w2 := ⟨Nat.le_trans t'.size ck.size, fun k hk ho => by
      obtain ⟨q1, q2⟩ := t'.keep k hk ho
      exact ⟨q1, (k5 k fun hm => absurd (h1 k hm).1 (by omega)).trans q2⟩, k2.trans t'.os, k3.trans t'.tape, k4.trans t'.output, fun k o ho => by
      obtain ⟨q1, q2⟩ := t'.al k o ho
      exact ⟨q1, (k5 k fun hm => by have := (h1 k hm).2.1; rw [q1] at this; cases this).trans q2⟩, t'.bx⟩
  obtain ⟨u, q1, own2, r', o', ⟨rfl, rfl⟩, t3, ho2, hr⟩ := end_sound hc.cfg (s'.ck ck) hk
  exact ⟨u, q1, u, own2, rfl, t2.trans t3, ho2, hr⟩
end Go.Ev

set_option linter.unusedVariables false
set_option linter.unusedSimpArgs false
namespace Go.Ev
open Go Go.RowKit
variable {P : Program}
abbrev vI (k : IntKind) (n : Int) : AV := .f (.pv (.int k n))
abbrev vi (n : Int) : AV := .f (.pv (.int .i64 n))
abbrev vB (b : Bool) : AV := .f (.pv (.bool b))
abbrev vS (s : ByteArray) : AV := .f (.pv (.string s))
abbrev vL {α : Type} (enc : α → FV) (l : List α) : AV := .f (.sl (List.map enc l))
abbrev oL {α : Type} (E : TypeId) (enc : α → FV) (l : List α) : AV := .own E (List.map enc l)
abbrev fi (n : Int) : FV := .pv (.int .i64 n)
abbrev fB (b : Bool) : FV := .pv (.bool b)
abbrev fL {α : Type} (enc : α → FV) (l : List α) : FV := .sl (List.map enc l)
abbrev gd {α : Type} [Inhabited α] (l : List α) (i : Int) : α := List.getD l (Int.toNat i) default
abbrev w64 (n : Int) : Int := IntKind.wrap .i64 n
def sq1 : Code → Code
  | .seq a _ => a
  | .block _ a => a
  | .loop a => a
  | .cond _ a _ => a
  | .rangeFunc _ _ a _ => a
  | x => x
def sq2 : Code → Code
  | .seq _ b => b
  | .cond _ _ b => b
  | .rangeFunc _ _ _ b => b
  | x => x
def bodyOf (f : Func) : Code := match f.body with
  | some x => x
  | none => .skip
def tabTI : List (Nat × TI) → Nat → Option TI
  | [], _ => none
  | (a, i) :: r, t => match Nat.beq a t with
    | true => some i
    | false => tabTI r t
theorem tabTI_mem : ∀ {l : List (Nat × TI)} {t : Nat} {i : TI}, tabTI l t = some i → (t, i) ∈ l
  | [], t, i, h => by cases h
  | (a, j) :: r, t, i, h => by
    unfold tabTI at h
    split at h
    · rename_i e
      simp only [Option.some.injEq] at h; subst h
      rw [Nat.eq_of_beq_eq_true e]; exact List.mem_cons_self ..
    · exact List.mem_cons_of_mem _ (tabTI_mem h)
def TabOk (P : Program) : List (Nat × TI) → Prop
  | [] => True
  | (t, i) :: r => tiOf P t = some i ∧ TabOk P r
theorem tabOk_mem : ∀ {l : List (Nat × TI)}, TabOk P l → ∀ p ∈ l, tiOf P p.1 = some p.2
  | [], _, p, h => by cases h
  | (t, i) :: r, h, p, hp => by
    rcases List.mem_cons.1 hp with rfl | hp
    · exact h.1
    · exact tabOk_mem h.2 p hp
def mkCfgV (tab : List (Nat × TI)) (ip : FuncId → Option ((List FV → Option (List FV)) × Bool)) (gr : FuncId → Option TypeId) (mv : List Nat) (nt : Nat) : Cfg := { ti := tabTI tab, mv := fun t => mv.contains t, nt := nt, dead := fun _ => false, deadL := fun _ => false, ip := ip, gr := gr }
theorem ipsOk_same {c c' : Cfg} (h : IpsOk P c) (e : c'.ip = c.ip) (e2 : c'.gr = c.gr) : IpsOk P c' := ⟨fun g f back hg => h.1 g f back (by rw [← e]; exact hg), fun g E hg => h.2 g E (by rw [← e2]; exact hg)⟩
theorem mkCfgV_ok {tab : List (Nat × TI)} {mv : List Nat} {nt : Nat} {ip : FuncId → Option ((List FV → Option (List FV)) × Bool)} {gr : FuncId → Option TypeId} (ht : TabOk P tab) (hro : P.follows .mixedOrders = true) (hi : IpsOk P (mkCfgV tab ip gr [] 0)) : COk P (mkCfgV tab ip gr mv nt) :=
  ⟨fun t i h => tiOf_ok (tabOk_mem ht _ (tabTI_mem h)), ipsOk_same hi rfl rfl, hro⟩
section
variable {c : Cfg} {G G' : Sta} {K : Ex → Sta → Prop} {x : Code}
theorem Sem.seq' (e : x = .seq (sq1 x) (sq2 x)) (h : Sem P c (sq1 x) G (seqK K fun G' => Sem P c (sq2 x) G' K)) : Sem P c x G K := by
  rw [e]; exact Sem.seq h
theorem Sem.seqR (hc : COk P c) {q : List Ora} {fz : List (Nat × Nat)} {keep : List Nat} {G' : Sta} {obs : List Prop} (e : x = .seq (sq1 x) (sq2 x)) (h : evReg P c (sq1 x) q fz keep G = some (obs, G')) (ho : AllP obs) (hk : Sem P c (sq2 x) G' K) : Sem P c x G K := by
  rw [e]; exact Sem.seq (Sem.region hc h ho hk)
theorem Sem.cond' {t : Nat} {b : Bool} (e : x = .cond (.tmp t) (sq1 x) (sq2 x)) (hg : get G (tb t) = some (.f (.pv (.bool b)))) (h1 : b = true → Sem P c (sq1 x) G K) (h2 : b = false → Sem P c (sq2 x) G K) : Sem P c x G K := by
  rw [e]; exact Sem.cond hg h1 h2
theorem Sem.block' {id : Nat} (e : x = .block id (sq1 x)) (h : Sem P c (sq1 x) G (blockK id K)) : Sem P c x G K := by
  rw [e]; exact Sem.block h
theorem Sem.exit' {i : Nat} (e : x = .exit i) (hw : Wk P c.nt G G') (h : K (.exit i) G') : Sem P c x G K := by
  rw [e]; exact Sem.exit hw h
theorem Sem.ret' (e : x = .ret) (hw : Wk P c.nt G G') (h : K .ret G') : Sem P c x G K := by
  rw [e]; exact Sem.ret hw h
theorem Sem.skip' (e : x = .skip) (hw : Wk P c.nt G G') (h : K .normal G') : Sem P c x G K := by
  rw [e]; exact Sem.skip hw h
theorem Sem.loop' {σ : Type} (e : x = .loop (sq1 x)) (st : σ → Sta) (Inv : σ → Prop) (μ : σ → Nat) (s0 : σ) (h0 : Wk P c.nt G (st s0)) (hI : Inv s0)
    (step : ∀ s, Inv s → Sem P c (sq1 x) (st s) (seqK K fun G' => ∃ s', Wk P c.nt G' (st s') ∧ Inv s' ∧ μ s' < μ s)) : Sem P c x G K := by
  rw [e]; exact Sem.loop st Inv μ s0 h0 hI step
end
theorem getElem?_map_getD {α β : Type} [Inhabited α] (f : α → β) (l : List α) (i : Nat) (h : i < l.length) : (l.map f)[i]? = some (f (l.getD i default)) := by
  rw [List.getElem?_map, List.getElem?_eq_getElem h]; simp [List.getD, List.getElem?_eq_getElem h]
theorem idx_ok {α : Type} [Inhabited α] (f : α → FV) (l : List α) (i : Int) (y : FV) (hy : f (l.getD i.toNat default) = y) (h0 : 0 ≤ i) (h : i < l.length) : (l.map f)[i.toNat]? = some y := by
  rw [getElem?_map_getD f l i.toNat (by omega), hy]
theorem idx_ok' {α : Type} [Inhabited α] (f : α → FV) (l : List α) (i : Nat) (y : FV) (hy : f (l.getD i default) = y) (h : i < l.length) : (l.map f)[i]? = some y := by
  rw [getElem?_map_getD f l i h, hy]
section
variable {c : Cfg} {G G' : Sta} {K : Ex → Sta → Prop} {x : Code}
theorem Sem.seqJ {σ : Type} (J : σ → Prop) (st : σ → Sta) (e : x = .seq (sq1 x) (sq2 x)) (h2 : ∀ s, J s → Sem P c (sq2 x) (st s) K)
    (h1 : Sem P c (sq1 x) G (seqK K fun G' => ∃ s, Wk P c.nt G' (st s) ∧ J s)) : Sem P c x G K := by
  rw [e]
  refine Sem.seq (h1.mono fun e G' h => ?_)
  cases e with
  | normal =>
    obtain ⟨s, hw, hj⟩ := h
    exact Sem.weak hw (h2 s hj)
  | exit id => exact h
  | ret => exact h
end
section
variable {c : Cfg} {G : Sta} {K : Ex → Sta → Prop} {x : Code}
theorem Sem.cast {S S' : Sta} (e : S = S') (h : Sem P c x S K) : Sem P c x S' K := e ▸ h
theorem kcast {S S' : Sta} (e : S = S') (h : K .normal S) : K .normal S' := e ▸ h
end
theorem nrm : (∀ (α β : Type) (f : α → β) (l : List α), (List.map f l).length = l.length) ∧ (∀ (α : Type) (l m : List α), (l ++ m).length = l.length + m.length) ∧ (∀ (α : Type) (a : α) (l : List α), (a :: l).length = l.length + 1) ∧
    (∀ (α : Type), ([] : List α).length = 0) ∧ (∀ (α : Type) (l : List α) (i : Nat) (a : α), (l.set i a).length = l.length) ∧ (∀ (α : Type) (n : Nat) (a : α), (List.replicate n a).length = n) ∧
    (∀ (α : Type) (l : List α), l.drop 0 = l) ∧ (∀ (α : Type) (l : List α), l.take l.length = l) ∧ (∀ (α β : Type) (f : α → β), List.map f [] = []) ∧ (∀ (α β : Type) (f : α → β) (a : α) (l : List α), List.map f (a :: l) = f a :: List.map f l) ∧
    (∀ (α β : Type) (f : α → β) (l m : List α), List.map f (l ++ m) = List.map f l ++ List.map f m) ∧ (∀ (α β : Type) (f : α → β) (l : List α) (i : Nat) (a : α), List.map f (l.set i a) = (List.map f l).set i (f a)) ∧
    (∀ (α β : Type) (f : α → β) (l : List α) (i : Nat), List.map f (l.take i) = (List.map f l).take i) ∧ (∀ (α β : Type) (f : α → β) (l : List α) (i : Nat), List.map f (l.drop i) = (List.map f l).drop i) ∧
    (∀ (α β : Type) (f : α → β) (n : Nat) (a : α), List.map f (List.replicate n a) = List.replicate n (f a)) ∧ (∀ n : Nat, ((n : Int)).toNat = n) ∧ (∀ n : Nat, 0 + n = n) ∧ (∀ (α : Type) (n : Nat) (a : α) (l : List α), (a :: l).take (n + 1) = a :: l.take n) ∧
    (∀ (α : Type) (l : List α), l.take 0 = []) ∧ (∀ (α : Type) (n : Nat), ([] : List α).take n = []) ∧ (∀ n : Nat, n - 0 = n) ∧ (∀ (α : Type) (l : List α), l ++ [] = l) ∧ (∀ (α : Type) (l : List α), [] ++ l = l) ∧
    (∀ (α : Type) (E : TypeId) (enc : α → FV) (l : List α), oL E enc l = .own E (List.map enc l)) ∧ (∀ (α : Type) (enc : α → FV) (l : List α), vL enc l = .f (.sl (List.map enc l))) ∧ (∀ (α : Type) (enc : α → FV) (l : List α), fL enc l = .sl (List.map enc l)) ∧
    (∀ n, vi n = .f (.pv (.int .i64 n))) ∧ (∀ k n, vI k n = .f (.pv (.int k n))) ∧ (∀ b, vB b = .f (.pv (.bool b))) ∧ (∀ b, vS b = .f (.pv (.string b))) ∧ (∀ n, fi n = .pv (.int .i64 n)) ∧ (∀ b, fB b = .pv (.bool b)) ∧ ((0 : Int).toNat = 0) ∧ (∀ (α : Type) (l : List α), l.drop l.length = []) := by
  refine ⟨?_, ?_, ?_, ?_, ?_, ?_, ?_, ?_, ?_, ?_, ?_, ?_, ?_, ?_, ?_, ?_, ?_, ?_, ?_, ?_, ?_, ?_, ?_, ?_, ?_, ?_, ?_, ?_, ?_, ?_, ?_, ?_, ?_, ?_⟩ <;> intros <;> first | rfl | simp
def entryF : Nat → Nat → List AV → List AV → Sta
  | 0, _, _, _ => []
  | n + 1, i, x :: xs, v :: vs => (tb i, x) :: (ob i, v) :: entryF n (i + 1) xs vs
  | n + 1, i, x :: xs, [] => (tb i, x) :: entryF n (i + 1) xs []
  | n + 1, i, [], v :: vs => (ob i, v) :: entryF n (i + 1) [] vs
  | _ + 1, _, [], [] => []
theorem entryF_eq : ∀ (n i : Nat) (xs vs : List AV), xs.length + vs.length ≤ n → entryF n i xs vs = entry i xs vs
  | 0, i, [], [], h => by simp [entryF, entry]
  | 0, i, x :: xs, vs, h => by simp at h
  | 0, i, [], v :: vs, h => by simp at h
  | n + 1, i, x :: xs, v :: vs, h => by simp only [entryF, entry]; rw [entryF_eq n (i + 1) xs vs (by simp at h; omega)]
  | n + 1, i, x :: xs, [], h => by simp only [entryF, entry]; rw [entryF_eq n (i + 1) xs [] (by simp at h; simp; omega)]
  | n + 1, i, [], v :: vs, h => by simp only [entryF, entry]; rw [entryF_eq n (i + 1) [] vs (by simp at h; simp; omega)]
  | n + 1, i, [], [], h => by simp [entryF, entry]
theorem obN : AllP [] := trivial
theorem obC {p : Prop} {l : List Prop} (h : p) (k : AllP l) : AllP (p :: l) := ⟨h, k⟩
theorem callE_semW {c : Cfg} {fn : Func} {x : Code} {g : FuncId} {args outs outs' : List AV} {r : AV} (hc : COk P c) (hf : P.funcs[g]? = some fn)
    (hnm : (fn.name == "runtime.NumGoroutine") = false) (hb : fn.body = some x) (hnt : c.nt = fn.ntmps) (hlen : args.length ≤ fn.ntmps) (ha : args.all (shut1 false fun _ => true) = true) (ho : outs.all (shut1 true fun _ => true) = true)
    (hl2 : args.length + outs.length ≤ 64) (h : Sem P c x (entryF 64 0 args outs) fun e G => ∃ G', Wk P c.nt G G' ∧ endK (CallE P) c fn.results.toList outs.length (fun r' o' => r' = r ∧ o' = outs') e G') : CallE P g args outs r outs' := by
  refine ⟨⟨fn, hf, hnm, by rw [hb]; rfl⟩, fun own w vs hO hA => ?_⟩
  rw [← callsIn_wide (n := 0)]
  have s0 := st_entry (nt := c.nt) (by rw [hnt]; exact hlen) ha ho hO hA
  rw [entryF_eq _ _ _ _ hl2] at h
  refine callsIn_of_wp_marks hf hb trivial ?_
  rw [← hnt]
  refine h own _ w _ _ _ ⟨wideF, fun _ => rfl⟩ s0 ?_
  rintro e G0 own0 a' w' ⟨G', hw, hk⟩ s' t' d'
  obtain ⟨own', s', t2⟩ := hw own0 a' w' s'
  replace d' := d'.tr t2
  replace t' := t'.trans t2
  cases e with
  | normal => exact end_marks (outs := outs) hc rfl s' t' d' (RM.wq_wp _ [] hk)
  | ret => exact end_marks (outs := outs) hc rfl s' t' d' (RM.wq_wp _ [] hk)
  | exit id => exact hk.elim
def strInts (s : ByteArray) : List Int := s.toList.map fun b => (b.toNat : Int)
theorem strElems_of (s : ByteArray) (enc : Int → FV) (h : ∀ n, enc n = .pv (.int .u8 n)) : strElems s = List.map enc (strInts s) := by
  simp [strElems, strInts, h, Function.comp_def]
def byteAt (s : ByteArray) (i : Int) : UInt8 := (s[i.toNat]?).getD 0
theorem byte_ok (s : ByteArray) (i : Int) (h0 : 0 ≤ i) (h : i < s.size) : s[i.toNat]? = some (byteAt s i) := by
  have : i.toNat < s.size := by omega
  simp [byteAt, this]
section
variable {c : Cfg} {G G' : Sta} {K : Ex → Sta → Prop} {x : Code}
theorem sR (hc : COk P c) (q : List Ora) (keep : List Nat) (G' : Sta) {obs : List Prop} (e : x = .seq (sq1 x) (sq2 x)) (h : evReg P c (sq1 x) q [] keep G = some (obs, G')) (ho : AllP obs) (hk : Sem P c (sq2 x) G' K) : Sem P c x G K := Sem.seqR hc e h ho hk
theorem wkE {nt : Nat} (fz : List (Nat × Nat)) (keep : List Nat) (h : Ev.tidy fz keep G = G') : Wk P nt G G' := Wk.eq h
theorem wkS (keep : List Nat) (G' : Sta) (h : Ev.tidy [] keep G = G') (k : Sem P c x G' K) : Sem P c x G K := Sem.weak (Wk.eq h) k
end
end Go.Ev

set_option linter.unusedVariables false
set_option linter.unusedSimpArgs false
namespace Go.Ev
open Go Go.RowKit Go.Sort
variable {P : Program}
def fvInts : List FV → Option (List Int)
  | [] => some []
  | .pv (.int .i64 n) :: r => match fvInts r with
    | some l => some (n :: l)
    | none => none
  | _ => none
theorem fvInts_spec : ∀ {l : List FV} {zs : List Int}, fvInts l = some zs → l = zs.map fun n => .pv (.int .i64 n)
  | [], zs, h => by simp only [fvInts, Option.some.injEq] at h; subst h; rfl
  | .pv (.int k n) :: r, zs, h => by
    unfold fvInts at h
    split at h
    · rename_i heq; cases heq
    · rename_i heq
      cases heq
      split at h
      · rename_i l hl
        simp only [Option.some.injEq] at h; subst h
        rw [fvInts_spec hl]; rfl
      · cases h
    · cases h
  | .pv (.bool _) :: r, zs, h | .pv (.float _ _) :: r, zs, h | .pv (.complex _ _ _) :: r, zs, h | .pv (.string _) :: r, zs, h | .pv (.pointer _) :: r, zs, h | .pv (.slice _ _ _) :: r, zs, h
  | .pv (.map _) :: r, zs, h | .pv (.chan _) :: r, zs, h | .pv (.func _ _ _) :: r, zs, h | .pv .nilFunc :: r, zs, h | .pv (.iface _ _) :: r, zs, h | .pv .nilIface :: r, zs, h
  | .pv (.agg _) :: r, zs, h | .pv (.tuple _) :: r, zs, h | .agg _ :: r, zs, h | .sl _ :: r, zs, h => by simp [fvInts] at h
theorem fvInts_map (enc : Int → FV) (h : ∀ n, enc n = .pv (.int .i64 n)) : ∀ zs : List Int, fvInts (zs.map enc) = some zs
  | [] => rfl
  | n :: r => by simp only [List.map_cons, h n, fvInts, fvInts_map enc h r]
def sortInts (zs : List Int) : List Int := zs.mergeSort fun x y => decide (x ≤ y)
def compactInts (zs : List Int) : List Int := Lib.compact zs
def sortF (l : List FV) : Option (List FV) := match fvInts l with
  | some zs => if zs.length < 2 ^ 40 then some ((sortInts zs).map fun n => .pv (.int .i64 n)) else none
  | none => none
def compactF (l : List FV) : Option (List FV) := match fvInts l with
  | some zs => if zs.length < 2 ^ 40 then some ((compactInts zs).map fun n => .pv (.int .i64 n)) else none
  | none => none
theorem sortF_map (enc : Int → FV) (h : ∀ n, enc n = .pv (.int .i64 n)) (zs : List Int) (hl : zs.length < 2 ^ 40) : sortF (zs.map enc) = some ((sortInts zs).map enc) := by
  have : enc = fun n => .pv (.int .i64 n) := funext h
  unfold sortF
  rw [fvInts_map enc h]
  dsimp only
  rw [if_pos hl, this]
theorem compactF_map (enc : Int → FV) (h : ∀ n, enc n = .pv (.int .i64 n)) (zs : List Int) (hl : zs.length < 2 ^ 40) : compactF (zs.map enc) = some ((compactInts zs).map enc) := by
  have : enc = fun n => .pv (.int .i64 n) := funext h
  unfold compactF
  rw [fvInts_map enc h]
  dsimp only
  rw [if_pos hl, this]
abbrev HasF (P : Program) (g : FuncId) : Prop := ∃ fn, P.funcs[g]? = some fn ∧ (fn.name == "runtime.NumGoroutine") = false ∧ fn.body.isNone = false
theorem ownB_ints {own : Own} {w : World} {b o : Nat} {E : TypeId} {k n : Nat} {zs : List Int} (h : OwnB P own w b o E k (zs.map fun n => .pv (.int .i64 n)) n) (hE : esz P E = 1) :
    ∃ arr, w.heap[k]? = some (.cells arr E (0, 0)) ∧ n ≤ arr.size ∧ Holds (Value.int .i64) w k 0 zs.toArray ∧ k < w.heap.size := by
  obtain ⟨_, arr, h2, h3, h4, h5⟩ := h
  rw [hE] at h3 h5
  have hk : k < w.heap.size := (Array.getElem?_eq_some_iff.1 h2).1
  refine ⟨arr, h2, by omega, fun j hj => ?_, hk⟩
  have hj' : j < zs.length := by simpa using hj
  obtain ⟨v, e1, e2⟩ := h5 j (.pv (.int .i64 zs[j])) 0 (.pv (.int .i64 zs[j])) (by simp [hj']) rfl
  cases e2
  have he : zs.toArray[j]! = zs[j] := by simp [hj']
  constructor
  · simp only [World.cell?, h2, Nat.zero_add]
    rw [he]; simpa using e1
  · simp [World.frozen?, h2]
theorem heap_putRow_ne {enc : Int → Value} {w : World} {k off j : Nat} {d : Array Int} (h : j ≠ k) : (putRow enc w k off d).heap[j]? = w.heap[j]? := by
  simp only [putRow, mapBlock, Array.getElem?_modify]
  rw [if_neg (Ne.symm h)]
theorem heap_putRow_eq {enc : Int → Value} {w : World} {k off : Nat} {d : Array Int} {arr : Array Value} {E : TypeId} {f : Nat × Nat} (h : w.heap[k]? = some (.cells arr E f)) : (putRow enc w k off d).heap[k]? = some (.cells (putCells enc off d arr) E f) := by
  simp only [putRow, mapBlock, Array.getElem?_modify, if_true, h, Option.map_some]
  rfl
theorem ownB_put' {own : Own} {w w' : World} {b o : Nat} {E : TypeId} {k n : Nat} {zs ys : List Int} (h : OwnB P own w b o E k (zs.map fun n => .pv (.int .i64 n)) n) (hE : esz P E = 1) {d : Array Int}
    (hw : w'.heap[k]? = (putRow (Value.int .i64) w k 0 d).heap[k]?) (hlen : ys.length ≤ d.size) (hd : ∀ j, j < ys.length → d[j]! = ys[j]!) (hsz : d.size ≤ zs.length) : OwnB P own w' b o E k (ys.map fun n => .pv (.int .i64 n)) n := by
  obtain ⟨h1, arr, h2, h3, h4, h5⟩ := h
  refine ⟨h1, putCells (Value.int .i64) 0 d arr, by rw [hw, heap_putRow_eq h2], by simpa [putCells] using h3, ?_, ?_⟩
  · intro x hx
    simp only [List.mem_map] at hx
    obtain ⟨y, _, rfl⟩ := hx
    rw [hE]; rfl
  · intro i x j y e1 e2
    simp only [List.getElem?_map, Option.map_eq_some_iff] at e1
    obtain ⟨z, e1, rfl⟩ := e1
    have hj : j = 0 := by
      cases j with
      | zero => rfl
      | succ j => simp [FV.cells] at e2
    subst hj
    have hi : i < ys.length := (List.getElem?_eq_some_iff.1 e1).1
    simp [FV.cells] at e2; subst e2
    have hE' := hE
    rw [hE]
    refine ⟨.int .i64 z, ?_, RF.pv _ rfl⟩
    have hia : i < arr.size := by
      have hiz : i < zs.length := by omega
      obtain ⟨v, e3, _⟩ := h5 i (.pv (.int .i64 zs[i])) 0 (.pv (.int .i64 zs[i])) (by simp [hiz]) rfl
      rw [hE] at e3
      have := (Array.getElem?_eq_some_iff.1 e3).1
      omega
    simp only [putCells, Array.getElem?_mapIdx, Nat.mul_one, Nat.add_zero, Array.getElem?_eq_getElem hia, Option.map_some, Nat.zero_le, true_and, Nat.zero_add, Nat.sub_zero]
    rw [if_pos (by omega), hd i hi]
    have := (List.getElem?_eq_some_iff.1 e1).2
    simp [hi, this]
theorem ip_sort {g : FuncId} (hf : HasF P g) (hE : ∀ own w b o E l u k n, OwnL P own w b o E l u → OwnB P own w b o E k l n → l ≠ [] → (∀ x ∈ l, x.size = 1) → esz P E = 1)
    (hs : ∀ (blk off cap : Nat) (zs : List Int) (w : World), Holds (Value.int .i64) w blk off zs.toArray → blk < w.heap.size → zs.length < 4611686018427387904 →
      Calls P g #[.slice (some ⟨blk, off, none⟩) zs.length cap] w fun e w' => e = .returned (.tuple #[]) ∧ ∃ n os, w' = grow (putRow (Value.int .i64) (Sort.ahead w n) blk off (zs.mergeSort fun x y => decide (x ≤ y)).toArray) os)
    (hn : ∀ (p : Option Addr) (cap : Nat) (w : World), Calls P g #[.slice p 0 cap] w fun e w' => e = .returned (.tuple #[]) ∧ w' = w) : IpOk P g sortF false := by
  refine ⟨hf, fun own w b o E l l' u hl hlt hone hu => ?_⟩
  unfold sortF at hl
  split at hl
  · rename_i zs hz
    split at hl
    · rename_i hlen
      simp only [Option.some.injEq] at hl; subst hl
      have hlz := fvInts_spec hz
      subst hlz
      have hu0 := hu
      obtain ⟨a, c, rfl, hc, h3⟩ := hu
      by_cases hnil : zs = []
      · subst hnil
        refine (hn a c w).mono ?_
        rintro e w' ⟨rfl, rfl⟩
        refine ⟨_, rfl, Nat.le_refl _, fun _ _ _ => rfl, rfl, rfl, rfl, ?_⟩
        rw [if_neg (by simp)]
        exact ⟨rfl, fun k n h => by simpa [sortInts] using h⟩
      · rcases h3 with ⟨_, h, _⟩ | ⟨k, rfl, hB⟩
        · simp at h; exact absurd h hnil
        · have hE1 : esz P E = 1 := hE _ _ _ _ _ _ _ _ _ hu0 hB (by simpa using hnil) (fun x hx => by simp only [List.mem_map] at hx; obtain ⟨y, _, rfl⟩ := hx; rfl)
          obtain ⟨arr, q1, q2, q3, q4⟩ := ownB_ints hB hE1
          have hll : (zs.map fun n => FV.pv (.int .i64 n)).length = zs.length := by simp
          rw [hll] at hc ⊢
          refine (hs k 0 c zs w q3 q4 (by omega)).mono ?_
          rintro e w' ⟨rfl, m, os, rfl⟩
          have hheap : ∀ j, j < w.heap.size → (grow (putRow (Value.int .i64) (Sort.ahead w m) k 0 (zs.mergeSort fun x y => decide (x ≤ y)).toArray) os).heap[j]? = (putRow (Value.int .i64) w k 0 (zs.mergeSort fun x y => decide (x ≤ y)).toArray).heap[j]? := fun j hj => by
            simp only [grow]
            rw [Array.getElem?_append_left (by simpa using hj)]
            rfl
          refine ⟨_, rfl, by simp [grow], fun j hj hne => ?_, rfl, rfl, rfl, ?_⟩
          · rw [hheap j hj, heap_putRow_ne]
            intro e; subst e; exact hne hB.1
          · rw [if_neg (by simp)]
            refine ⟨rfl, fun k' n' hB' => ?_⟩
            have : k' = k := hone _ _ _ hB'.1 hB.1
            subst this
            refine ownB_put' hB' hE1 (hheap k' q4) (by simp [sortInts]) (fun j hj => by simp [sortInts]) (by simp)
    · cases hl
  · cases hl
theorem ip_compact {g : FuncId} (hf : HasF P g) (hE : ∀ own w b o E l u k n, OwnL P own w b o E l u → OwnB P own w b o E k l n → l ≠ [] → (∀ x ∈ l, x.size = 1) → esz P E = 1)
    (hs : ∀ (blk off cap : Nat) (zs : List Int) (w : World), Holds (Value.int .i64) w blk off zs.toArray → zs.length ≤ 9223372036854775807 → zs.length ≤ cap →
      Calls P g #[.slice (some ⟨blk, off, none⟩) zs.length cap] w fun e w' => e = .returned (.slice (some ⟨blk, off, none⟩) (Lib.compact zs).length cap) ∧ ∃ q, w' = putRow (Value.int .i64) (Sort.ahead w q) blk off (Lib.compact zs ++ List.replicate (zs.length - (Lib.compact zs).length) 0).toArray)
    (hn : ∀ (a : Option Addr) (cap : Nat) (w : World), Calls P g #[.slice a 0 cap] w fun e w' => e = .returned (.slice a 0 cap) ∧ w' = w)
    (hle : ∀ zs, (Lib.compact zs : List Int).length ≤ zs.length) : IpOk P g compactF true := by
  refine ⟨hf, fun own w b o E l l' u hl hlt hone hu => ?_⟩
  unfold compactF at hl
  split at hl
  · rename_i zs hz
    split at hl
    · rename_i hlen
      simp only [Option.some.injEq] at hl; subst hl
      have hlz := fvInts_spec hz
      subst hlz
      have hu0 := hu
      obtain ⟨a, c, rfl, hc, h3⟩ := hu
      have hcl := hle zs
      by_cases hnil : zs = []
      · subst hnil
        have hc0 : Lib.compact ([] : List Int) = [] := List.length_eq_zero_iff.1 (by simpa using hcl)
        refine (hn a c w).mono ?_
        rintro e w' ⟨rfl, rfl⟩
        refine ⟨_, rfl, Nat.le_refl _, fun _ _ _ => rfl, rfl, rfl, rfl, ?_⟩
        rw [if_pos rfl]
        simp only [compactInts, hc0, List.map_nil]
        exact hu0
      · rcases h3 with ⟨_, h, _⟩ | ⟨k, rfl, hB⟩
        · simp at h; exact absurd h hnil
        · have hE1 : esz P E = 1 := hE _ _ _ _ _ _ _ _ _ hu0 hB (by simpa using hnil) (fun x hx => by simp only [List.mem_map] at hx; obtain ⟨y, _, rfl⟩ := hx; rfl)
          obtain ⟨arr, q1, q2, q3, q4⟩ := ownB_ints hB hE1
          have hll : (zs.map fun n => FV.pv (.int .i64 n)).length = zs.length := by simp
          rw [hll] at hc ⊢
          refine (hs k 0 c zs w q3 (by omega) hc).mono ?_
          rintro e w' ⟨rfl, m, rfl⟩
          refine ⟨_, rfl, by simp, fun j hj hne => ?_, rfl, rfl, rfl, ?_⟩
          · rw [heap_putRow_ne]
            · rfl
            · intro e; subst e; exact hne hB.1
          · rw [if_pos rfl]
            refine ⟨_, c, by simp [compactInts], by simp [compactInts]; omega, .inr ⟨k, rfl, ?_⟩⟩
            refine ownB_put' hB hE1 rfl (by simp [compactInts]) (fun j hj => ?_) (by simp; omega)
            simp only [compactInts] at hj ⊢
            have hj2 : j < (Lib.compact zs ++ List.replicate (zs.length - (Lib.compact zs).length) 0).length := by simp; omega
            simp [hj, List.getElem?_append_left hj]
    · cases hl
  · cases hl
theorem gr_grow {g : FuncId} {E : TypeId} (hf : HasF P g) (hsz : esz P E = 1) (hE0 : ∀ w n, 0 < n → n ≤ 2 ^ 40 → Calls P g #[.slice none 0 0, .int .i64 (n : Nat)] w fun e w' => ∃ cap arr m, e = .returned (.slice (some ⟨w.heap.size, 0, none⟩) 0 cap) ∧ w' = ({ w with drawn := m } : World).alloc (.cells arr E) ∧ cap ≤ arr.size)
    (h0 : ∀ w, Calls P g #[.slice none 0 0, .int .i64 0] w fun e w' => e = .returned (.slice none 0 0) ∧ w' = w) : GrOk P g E := by
  refine ⟨hf, fun w n hn hn2 => ?_⟩
  by_cases hz : n = 0
  · subst hz
    exact (h0 w).mono fun e w' h => .inl h
  · obtain ⟨m, rfl⟩ : ∃ m : Nat, n = m := ⟨n.toNat, by omega⟩
    refine (hE0 w m (by omega) (by omega)).mono ?_
    rintro e w' ⟨cap, arr, q, rfl, rfl, hc⟩
    exact .inr ⟨cap, arr, q, rfl, rfl, by rw [hsz]; omega⟩
end Go.Ev

set_option linter.unusedVariables false
set_option linter.unusedSimpArgs false
namespace Go.Ev
open Go Go.RowKit
variable {P : Program}
def no : Own := fun _ => none
theorem cell_lt {w : World} {a : Addr} {v : Value} (h : w.cell? a = some v) : a.block < w.heap.size := by
  unfold World.cell? at h
  rcases Nat.lt_or_ge a.block w.heap.size with h1 | h1
  · exact h1
  · simp [Array.getElem?_eq_none h1] at h
theorem below_of_tr {own' : Own} {w w' : World} (h : Tr no w own' w') : Below w.heap.size w w' :=
  ⟨h.os, h.tape, h.output, h.size, fun k hk => (h.keep k hk rfl).2⟩
theorem outs_nil (w : World) : Outs P no w [] :=
  ⟨fun i v h => by simp at h, fun k k' o h => (nomatch h), fun k o h => (nomatch h)⟩
theorem law_walk {g : FuncId} {args : List AV} {b : Bool} {vs : Array Value} {w : World}
    (h : CallE P g args [] (vB b) []) (ha : Args P no w args vs) :
    Calls P g vs w fun e w' => e = .returned (.bool b) ∧ Below w.heap.size w w' := by
  refine (h.2 no w vs (outs_nil w) ha).mono fun e w' ⟨u, own', he, ht, _, hr⟩ => ?_
  refine ⟨?_, below_of_tr ht⟩
  have hr : RF own' w' (.pv (.bool b)) u := hr.2
  cases hr
  exact he
theorem r1_ints {w : World} {k : IntKind} {enc : Int → FV} (he : ∀ n, enc n = .pv (.int k n)) {a : Option Addr} {len cap : Nat} {zs : List Int}
    (h : (a = none ∧ len = 0 ∧ cap = 0 ∧ zs = []) ∨
      ∃ x, a = some x ∧ len ≤ cap ∧ cap ≤ maxLen ∧ zs.length = cap ∧ (∀ i, i < zs.length → w.cell? (x.add i) = some (.int k (zs.getD i 0))) ∧ ∀ n ∈ zs, (Lit.int k n).wf = true) :
    R1 P [] no w (vL enc (zs.take len)) (.slice a len cap) := by
  refine ⟨rfl, ?_⟩
  rcases h with ⟨rfl, rfl, rfl, rfl⟩ | ⟨x, rfl, hl, hm, hz, hcell, hwf⟩
  · exact RF.nil
  · rcases Nat.eq_zero_or_pos len with rfl | hp
    · exact RF.nil
    obtain ⟨b, off, rfl, hc⟩ := ints_at hcell (by omega)
    have e1 : ∀ (i : Nat) y, (List.map enc (zs.take len))[i]? = some y → i < zs.length ∧ y = .pv (.int k (zs.getD i 0)) := by
      intro i y h
      rw [List.getElem?_map, List.getElem?_take] at h
      split at h
      · rename_i hi
        have : i < zs.length := by omega
        rw [List.getElem?_eq_getElem this] at h
        simp only [Option.map_some, Option.some.injEq] at h
        exact ⟨this, by rw [← h, he]; simp [List.getD, this]⟩
      · simp at h
    have e2 : ∀ (i : Nat) y (j : Nat) u, (List.map enc (zs.take len))[i]? = some y → y.cells[j]? = some u → j = 0 ∧ u = .pv (.int k (zs.getD i 0)) ∧ i < zs.length := by
      intro i y j u hy hu
      obtain ⟨hi, rfl⟩ := e1 i y hy
      match j, hu with
      | 0, hu => exact ⟨rfl, by simpa [FV.cells] using hu.symm, hi⟩
      | j + 1, hu => simp [FV.cells] at hu
    refine RF.sl _ _ _ _ ⟨b, off, none⟩ 1 (by simp; omega) hl (fun _ => ⟨rfl, rfl, rfl, ?_⟩) ?_ ?_ ?_
    · exact cell_lt (hc 0 (by omega))
    · intro y hy
      obtain ⟨n, -, rfl⟩ := List.mem_map.1 hy
      rw [he]; rfl
    · intro i y j u hy hu
      obtain ⟨rfl, -, hi⟩ := e2 i y j u hy hu
      have h2 := hc i hi
      exact ⟨_, by simp only [Nat.mul_one, Nat.add_zero]; exact h2⟩
    · intro i y j u v hy hu hv
      obtain ⟨rfl, rfl, hi⟩ := e2 i y j u hy hu
      have h2 := hc i hi
      simp only [Nat.mul_one, Nat.add_zero] at hv
      rw [h2] at hv
      cases hv
      exact .pv _ rfl
theorem args_cons {w : World} {x : AV} {v : Value} {l : List AV} {vs : List Value} (h : R1 P [] no w x v) (k : Args P no w l vs.toArray) : Args P no w (x :: l) (v :: vs).toArray :=
  ⟨by simp [k.1], fun j y u hy hu => by
    match j, hy, hu with
    | 0, hy, hu => simp at hy hu; subst hy; subst hu; exact h
    | j + 1, hy, hu => exact k.2 j y u (by simpa using hy) (by simpa using hu)⟩
theorem args_nil {w : World} : Args P no w [] #[] := ⟨rfl, fun j y u hy hu => by simp at hy⟩
end Go.Ev

set_option linter.unusedVariables false
set_option linter.unusedSimpArgs false
namespace Go.Ev
open Go Go.RowKit
variable {P : Program}
theorem run_callF {g : FuncId} {fn : Func} (hf : P.funcs[g]? = some fn) (hname : (fn.name == "runtime.NumGoroutine") = false) (hb : fn.body.isNone = false) (args : Array Value) (w : World) :
    (callFunc g args).run P w = .ok (.enter g args) w := by
  simp only [beq_eq_false_iff_ne, ne_eq] at hname
  simp only [Option.isNone_eq_false_iff] at hb
  simp [callFunc, hf, hname, Option.isSome_iff_ne_none.1 hb]
theorem putObj_lt {w : World} {l : Nat} {o : Obj} : (w.putObj l o).heap.size = w.heap.size := by simp [World.putObj]
theorem Tr.norm {own own' : Own} {w w' : World} {l : Nat} {X : Obj} (t : Tr own w own' w') (hl : l < w.heap.size) (ho : own l = none) : Tr own (w.putObj l X) own' (w'.putObj l X) := by
  have hl' : l < w'.heap.size := Nat.lt_of_lt_of_le hl t.size
  refine ⟨by rw [putObj_lt, putObj_lt]; exact t.size, fun k hk hk0 => ?_, t.os, t.tape, t.output, fun k o hk => ?_, t.bx⟩
  · rw [putObj_lt] at hk
    obtain ⟨q1, q2⟩ := t.keep k hk hk0
    refine ⟨q1, ?_⟩
    by_cases e : k = l
    · subst e; rw [World.putObj_heap_same hl', World.putObj_heap_same hl]
    · rw [World.putObj_heap_other e, World.putObj_heap_other e]; exact q2
  · have e : k ≠ l := by rintro rfl; rw [ho] at hk; cases hk
    obtain ⟨q1, q2⟩ := t.al k o hk
    exact ⟨q1, by rw [World.putObj_heap_other e, World.putObj_heap_other e]; exact q2⟩
structure KU (U : Nat → Prop) (w w' : World) : Prop where
  size : w.heap.size ≤ w'.heap.size
  keep : ∀ k, U k → w'.heap[k]? = w.heap[k]?
  os : w'.os = w.os
  tape : w'.tape = w.tape
  output : w'.output = w.output
theorem KU.put {U : Nat → Prop} {w w' : World} (h : KU U w w') {l : Nat} (o : Obj) (hl : ∀ k, U k → k ≠ l) : KU U w (w'.putObj l o) :=
  ⟨by rw [putObj_lt]; exact h.size, fun k hk => (World.putObj_heap_other (hl k hk)).trans (h.keep k hk), h.os, h.tape, h.output⟩
structure Grow (w w' : World) : Prop where
  size : w.heap.size ≤ w'.heap.size
  keep : ∀ k, k < w.heap.size → w'.heap[k]? = w.heap[k]?
  os : w'.os = w.os
  tape : w'.tape = w.tape
  output : w'.output = w.output
theorem Grow.tr {w w' : World} (h : Grow w w') {own : Own} (hl : ∀ k o, own k = some o → k < w.heap.size) : Tr own w own w' :=
  ⟨h.size, fun k hk ho => ⟨ho, h.keep k hk⟩, h.os, h.tape, h.output, fun k o e => ⟨e, h.keep k (hl _ _ e)⟩, fun _ _ _ e => e⟩
theorem Grow.ku {w w' w0 : World} {U : Nat → Prop} (h : Grow w w') (k : KU U w0 w) (hu : ∀ k, U k → k < w0.heap.size) : KU U w0 w' :=
  ⟨Nat.le_trans k.size h.size, fun i hi => (h.keep i (Nat.lt_of_lt_of_le (hu i hi) k.size)).trans (k.keep i hi), h.os.trans k.os, h.tape.trans k.tape, h.output.trans k.output⟩
def Gives (P : Program) (g : FuncId) (lb : Array Value) (N : Nat) (ok : Nat → Array Value → Prop) (U : Nat → Prop) (w0 : World) : Prop :=
  (∃ fn, P.funcs[g]? = some fn ∧ (fn.name == "runtime.NumGoroutine") = false ∧ fn.body.isNone = false) ∧
  ∀ (F : Fence) (n l : Nat) (J : Nat → World → Prop) (W : World), WideF P F → F.round = none → KU U w0 W →
    (∀ i W1 W2, J i W1 → Grow W1 W2 → J i W2) → (∀ m i x W1, J i W1 → i < N → ok i x → KU U w0 W1 → YieldAt F m P l x W1 fun e W' => e = .returned (.bool true) ∧ J (i + 1) W' ∧ KU U w0 W') →
    J 0 W → CallsIn F n P g (#[.func (.yield l) #[] #[]] ++ lb) W fun e W' => (∃ v, e = .returned v) ∧ J N W'
def roundEnd (K : World → Prop) : Exit → Act → World → Prop
  | .normal, _, w => K w
  | _, _, _ => False
theorem range_wp {F : Fence} {n : Nat} {g : Operand} {ps : Array Tmp} {assign body : Code} {Q : Exit → Act → World → Prop} {a : Act} {w : World}
    (hF : WideF P F) (hro : F.round = none) {gf : FuncId} {lb : Array Value} (hg : a.eval g = .func (.func gf) #[] lb) {N : Nat} {ok : Nat → Array Value → Prop} {U : Nat → Prop} (hs : Gives P gf lb N ok U w)
    (hU : ∀ k, U k → k < w.heap.size) (hps : ∀ i x, ok i x → x.size = ps.size) (I : Loop → Nat → World → Prop) (hst : ∀ rec i W W', I rec i W → w.heap.size + 1 < W.heap.size → Grow W W' → I rec i W')
    (hround : ∀ (fn : FuncId) (rec : Loop) (i : Nat) (x : Array Value) (m : Nat) (W : World), rec.state = .ready → rec.pending = none → i < N → ok i x → I rec i W → W.heap[w.heap.size + 1]? = some (Obj.loop rec) → W.heap[w.heap.size]? = some (Obj.deferred (some [])) → KU U w W →
      assign.wpIn (F.inRound (w.heap.size + 1)) m P (Exit.then (fun a₁ w₁ => w₁.heap[w.heap.size + 1]? = some (Obj.loop rec) ∧ body.wpIn (F.inRound (w.heap.size + 1)) m P
          (roundEnd fun W3 => W3.heap[w.heap.size + 1]? = some (Obj.loop { rec with state := .busy }) ∧ W3.heap[w.heap.size]? = some (Obj.deferred (some [])) ∧ KU U w W3 ∧ I rec (i + 1) (W3.putObj (w.heap.size + 1) (Obj.loop rec))) a₁ (w₁.putObj (w.heap.size + 1) (Obj.loop { rec with state := .busy }))) (fun _ _ _ => False))
        { tmps := (ps.zip x).foldl (fun t (p, v) => t.setIfInBounds p v) a.tmps, defers := [] } W)
    (h0 : ∀ rec : Loop, I rec 0 ((w.alloc (Obj.deferred (some []))).alloc (Obj.loop rec)))
    (hdone : ∀ (rec : Loop) (W : World), I rec N W → W.heap[w.heap.size + 1]? = some (Obj.loop rec) → W.heap[w.heap.size]? = some (Obj.deferred (some [])) → Q .normal { a with defers := mark w.heap.size :: a.defers } (W.putObj (w.heap.size + 1) (Obj.loop { rec with state := .exhausted }))) :
    (Code.rangeFunc g ps assign body).wpIn F n P Q a w := by
  refine wpIn_rangeFunc ?_
  intro fn hfn
  rw [hro]
  obtain ⟨⟨gfn, f1, f2, f3⟩, hgive⟩ := hs
  have eg : ∀ args w, (callFunc gf args).run P w = .ok (.enter gf args) w := run_callF f1 f2 f3
  obtain ⟨rec, hrec⟩ : ∃ rec : Loop, rec = { state := .ready, pending := none, fn, tmps := a.tmps, params := ps, assign, body, defers := w.heap.size } := ⟨_, rfl⟩
  obtain ⟨W1, hW1⟩ : ∃ W1, (w.alloc (.deferred (some []))).alloc (.loop rec) = W1 := ⟨_, rfl⟩
  have hsz : w.heap.size + 2 = W1.heap.size := by rw [← hW1]; simp
  have hL1 : W1.heap[w.heap.size + 1]? = some (.loop rec) := by
    rw [← hW1]; have := World.alloc_heap_new (w.alloc (.deferred (some []))) (.loop rec); rwa [World.size_alloc] at this
  have hK1 : W1.heap[w.heap.size]? = some (.deferred (some [])) := by
    rw [← hW1]; exact (Below.heap_alloc _ _ _ (by simp)).trans (World.alloc_heap_new w _)
  have hold : ∀ k, k < w.heap.size → W1.heap[k]? = w.heap[k]? := fun k hk => by
    rw [← hW1]; exact (Below.heap_alloc _ _ _ (by simp; omega)).trans (Below.heap_alloc _ _ _ hk)
  refine ⟨w.heap.size + 1, [mark w.heap.size], W1, { target := .fn (.func gf) lb, args := #[.func (.yield (w.heap.size + 1)) #[] #[]] }, W1, gf,
    #[.func (.yield (w.heap.size + 1)) #[] #[]] ++ lb, W1, ?_, ?_, fun f' _ => hF.fn f', ?_, fun e => (by rw [hF.deep] at e; cases e), ?_⟩
  · rw [← hW1, hrec]; exact run_enterLoop_outer _ _ _ _ _
  · simp only [resolve, hg]
    simp [go_sem]
  · simp [invoke, go_sem, eg]
  · refine (hgive F (n - 1) (w.heap.size + 1) (fun i W => I rec i W ∧ W.heap[w.heap.size + 1]? = some (.loop rec) ∧ W.heap[w.heap.size]? = some (.deferred (some []))) W1 hF hro ⟨by omega, fun k hk => hold k (hU k hk), by rw [← hW1]; rfl, by rw [← hW1]; rfl, by rw [← hW1]; rfl⟩ (fun i Wa Wb ⟨q1, q2, q3⟩ hg => ?_) ?_ ⟨by rw [← hW1]; exact h0 rec, hL1, hK1⟩).mono ?_
    · have hlt : w.heap.size + 1 < Wa.heap.size := (Array.getElem?_eq_some_iff.1 q2).1
      exact ⟨hst rec i Wa Wb q1 hlt hg, (hg.keep _ hlt).trans q2, (hg.keep _ (by omega)).trans q3⟩
    · rintro m i x W ⟨hi, hl, hk⟩ hn hx hu
      have hlt : w.heap.size + 1 < W.heap.size := (Array.getElem?_eq_some_iff.1 hl).1
      have hy := run_yield (P := P) (args := x) hl (by rw [hrec]; exact hps i x hx)
      rw [hrec] at hy
      refine ⟨fn, _, assign, body, hy, roundIn_of_wpIn (hF.fn _) (wpIn_mono (hround fn rec i x m W (by rw [hrec]) (by rw [hrec]) hn hx hi hl hk hu) ?_)⟩
      rintro e a1 W2 hp
      cases e with
      | normal =>
        obtain ⟨hl2, hb⟩ := hp
        refine ⟨_, run_beginRound hl2 (by rw [hrec]), wpIn_mono hb ?_⟩
        rintro e a3 W3 hp3
        cases e with
        | normal =>
          obtain ⟨q1, q2, q3, q4⟩ := hp3
          refine ⟨_, _, run_endRound (P := P) none q1, rfl, ⟨?_, ?_, ?_⟩, ?_⟩
          · rw [hrec] at q4 ⊢; exact q4
          · rw [hrec]; exact World.putObj_heap_same (Array.getElem?_eq_some_iff.1 q1).1
          · exact (World.putObj_heap_other (by omega)).trans q2
          · exact q3.put _ fun k hk => by have := hU k hk; omega
        | _ => exact hp3.elim
      | _ => exact hp.elim
    · rintro e W2 ⟨⟨v, rfl⟩, hi, hl, hk⟩
      refine ⟨none, _, ?_, hdone rec W2 hi hl hk⟩
      have := run_endLoop (P := P) hl (by rw [hrec]; simp)
      rw [hrec] at this ⊢; exact this
end Go.Ev

set_option linter.unusedVariables false
set_option linter.unusedSimpArgs false
namespace Go.Ev
open Go Go.RowKit
variable {P : Program}
section
variable {c : Cfg} {ops : Array Oper}
theorem evOps_pre {draw : Bool} : ∀ (r : List Oper) {p rest : List Oper} {log log' : List Lg} {G G' : Sta} {q : List Ora} {obs : List Prop}, ops.toList = p ++ (r ++ rest) → evOps (CallE P) c ops draw r p.length log G q = some (obs, log', G') → AllP obs →
    ∃ es, es.map (·.i) = List.range' p.length r.length ∧ Runs (CallE P) (stepRM c ops) es G G' ∧ (draw = true → log' = log ++ es.map Ent.lg)
  | [], p, rest, log, log', G, G', q, obs, hp, h, ho => by
    unfold evOps at h
    split at h
    · simp only [Option.some.injEq, Prod.mk.injEq] at h; obtain ⟨rfl, rfl, rfl⟩ := h; exact ⟨[], rfl, rfl, fun _ => by simp⟩
    · cases h
  | o :: r, p, rest, log, log', G, G', q, obs, hp, h, ho => by
    have hop : ops[p.length]? = some o := by
      rw [← Array.getElem?_toList, hp, List.getElem?_append_right (Nat.le_refl _)]; simp
    unfold evOps at h
    split at h
    · rename_i obs1 q' U T h1
      split at h
      · rename_i obs2 log2 G2 h2
        simp only [Option.some.injEq, Prod.mk.injEq] at h
        obtain ⟨rfl, rfl, rfl⟩ := h
        obtain ⟨ho1, ho2⟩ := allP_append ho
        have hl : (p ++ [o]).length = p.length + 1 := by simp
        rw [← hl] at h2
        obtain ⟨es, e1, e2, e3⟩ := evOps_pre r (p := p ++ [o]) (rest := rest) (by rw [hp]; simp) h2 ho2
        refine ⟨⟨p.length, U, T⟩ :: es, by simp [e1, List.range'_succ], ⟨?_, e2⟩, fun hd => ?_⟩
        · rw [step_guard hop]
          exact le_guard _ _ _ _ (RM2.ev_wp _ h1 ho1 ⟨rfl, rfl⟩)
        · subst hd
          rw [e3 rfl]; simp [Ent.lg, Ent.reads]
      · cases h
    · cases h
end
section
variable {CE : CEx} {c : Cfg} {F : Fence} {n : Nat} {Q : Exit → Act → World → Prop} {ops : Array Oper}
theorem runs_pre (hc : CfgOk P c) (hip : IpsOk P c) (hCE : ∀ g args outs r outs', CE g args outs r outs' → CallE P g args outs r outs') (hF : WideF P F) (rest : List Nat) : ∀ (es : List Ent) {G G' : Sta} {own : Own} {a : Act} {w : World},
    St P c.nt G own a w → Runs CE (stepRM c ops) es G G' → (∀ own' a' w', St P c.nt G' own' a' w' → Tr own w own' w' → a'.defers = a.defers → wpOpsIn F n P ops Q rest a' w') → wpOpsIn F n P ops Q (es.map (·.i) ++ rest) a w
  | [], G, G', own, a, w, s, h, hq => by
    have : G = G' := h
    subst this
    exact hq own a w s (Tr.refl _ _) rfl
  | y :: es, G, G', own, a, w, s, h, hq => by
    rw [List.map_cons, List.cons_append, wpOpsIn_cons]
    refine step_ent hc hip hCE hF s h.1 fun own' a' w' s' t' d' => ?_
    exact runs_pre hc hip hCE hF rest es s' h.2 fun own2 a2 w2 s2 t2 d2 => hq own2 a2 w2 s2 (t'.trans t2) (d2.trans d')
theorem wpOps_pre (hc : COk P c) (hF : WideF P F) {pre rest : List Oper} (hp : ops.toList = pre ++ rest) {q : List Ora} {G G' : Sta} {obs : List Prop} {log : List Lg} {own : Own} {a : Act} {w : World}
    (h : evOps (CallE P) c ops false pre 0 [] G q = some (obs, log, G')) (ho : AllP obs) (s : St P c.nt G own a w)
    (hq : ∀ own' a' w', St P c.nt G' own' a' w' → Tr own w own' w' → a'.defers = a.defers → wpOpsIn F n P ops Q (List.range' pre.length rest.length) a' w') : wpOpsIn F n P ops Q (List.range ops.size) a w := by
  obtain ⟨es, e1, e2, _⟩ := evOps_pre (P := P) (p := []) (rest := rest) pre (by simpa using hp) h ho
  have e1 : es.map (·.i) = List.range' 0 pre.length := by simpa using e1
  have hsz : ops.size = pre.length + rest.length := by rw [← Array.length_toList, hp, List.length_append]
  have : List.range ops.size = es.map (·.i) ++ List.range' pre.length rest.length := by
    rw [e1, hsz, List.range_eq_range', ← List.range'_append_1]; simp
  rw [this]
  exact runs_pre hc.cfg hc.ip (fun _ _ _ _ _ h => h) hF _ es s e2 hq
end
end Go.Ev

set_option linter.unusedVariables false
set_option linter.unusedSimpArgs false
namespace Go.Ev
open Go Go.RowKit
variable {P : Program}
theorem KU.tr {own : Own} {w w' : World} (h : KU (fun k => k < w.heap.size ∧ (own k = none ∨ ∃ o, own k = some (.al o))) w w') (hl : ∀ k o, own k = some o → k < w.heap.size) : Tr own w own w' :=
  ⟨h.size, fun k hk h0 => ⟨h0, h.keep k ⟨hk, .inl h0⟩⟩, h.os, h.tape, h.output, fun k o e => ⟨e, h.keep k ⟨hl _ _ e, .inr ⟨o, e⟩⟩⟩, fun _ _ _ e => e⟩
theorem Tr.ku {own own' : Own} {w w' : World} (t : Tr own w own' w') : KU (fun k => k < w.heap.size ∧ (own k = none ∨ ∃ o, own k = some (.al o))) w w' :=
  ⟨t.size, fun k hk => by
    obtain ⟨h1, h2 | ⟨o, h2⟩⟩ := hk
    · exact (t.keep k h1 h2).2
    · exact (t.al k o h2).2, t.os, t.tape, t.output⟩
end Go.Ev

set_option linter.unusedVariables false
set_option linter.unusedSimpArgs false
namespace Go.Ev
open Go Go.RowKit
variable {P : Program}
theorem look_sub {G1 G2 : Sta} (h : ∀ b v, get G2 b = some v → get G1 b = some v) {b : Nat} {o : Option Nat} {v : AV} (e : look G2 b o = some v) : look G1 b o = some v := by
  cases o with
  | none => exact h b v e
  | some o =>
    simp only [look] at e ⊢
    cases hg : get G2 b with
    | none => rw [hg] at e; cases e
    | some x => rw [hg] at e; rw [h b x hg]; exact e
theorem r0_sub {G1 G2 : Sta} (h : ∀ b v, get G2 b = some v → get G1 b = some v) {own : Own} {w : World} {v : AV} {u : Value} (r : R0 P G1 own w v u) : R0 P G2 own w v u := by
  cases v with
  | rf b o i n =>
    simp only [R0, SlV] at r ⊢
    cases hg : look G2 b (some o) with
    | none => trivial
    | some x => rw [look_sub h hg] at r; exact r
  | ep b o i n =>
    simp only [R0, EpV] at r ⊢
    cases hg : look G2 b (some o) with
    | none => trivial
    | some x => rw [look_sub h hg] at r; exact r
  | _ => exact r
theorem ro_sub {G1 G2 : Sta} (h : ∀ b v, get G2 b = some v → get G1 b = some v) {own : Own} {w : World} {b o : Nat} {v : AV} {u : Value} (r : RO P G1 own w b o v u) : RO P G2 own w b o v u := by
  cases v with
  | own E l => exact r
  | _ =>
    all_goals
      rw [ro_r0 (by simp)] at r ⊢
      exact r0_sub h r
theorem r1_sub {G1 G2 : Sta} (h : ∀ b v, get G2 b = some v → get G1 b = some v) {own : Own} {w : World} {v : AV} {u : Value} (r : R1 P G1 own w v u) : R1 P G2 own w v u := by
  cases v with
  | agg l => obtain ⟨arr, h1, h2, h3⟩ := r; exact ⟨arr, h1, h2, fun j x v e1 e2 => r0_sub h (h3 j x v e1 e2)⟩
  | bad => exact r0_sub (P := P) (own := own) (w := w) (u := u) (v := .bad) h r
  | f x => exact r0_sub (P := P) (own := own) (w := w) (u := u) (v := .f x) h r
  | ptr b o => exact r0_sub (P := P) (own := own) (w := w) (u := u) (v := .ptr b o) h r
  | fp x o => exact r0_sub (P := P) (own := own) (w := w) (u := u) (v := .fp x o) h r
  | ep a b c d => exact r0_sub (P := P) (own := own) (w := w) (u := u) (v := .ep a b c d) h r
  | rf a b c d => exact r0_sub (P := P) (own := own) (w := w) (u := u) (v := .rf a b c d) h r
  | own E l => exact r0_sub (P := P) (own := own) (w := w) (u := u) (v := .own E l) h r
  | clo g l => exact r0_sub (P := P) (own := own) (w := w) (u := u) (v := .clo g l) h r
  | tup l => exact r0_sub (P := P) (own := own) (w := w) (u := u) (v := .tup l) h r
theorem rl_sub {G1 G2 : Sta} (h : ∀ b v, get G2 b = some v → get G1 b = some v) {own : Own} {w : World} {b : Nat} {v : AV} {u : Value} (r : RL P G1 own w b v u) : RL P G2 own w b v u := by
  cases v with
  | agg l => obtain ⟨arr, h1, h2, h3⟩ := r; exact ⟨arr, h1, h2, fun j x v e1 e2 => ro_sub h (h3 j x v e1 e2)⟩
  | tup l => obtain ⟨arr, h1, h2, h3⟩ := r; exact ⟨arr, h1, h2, fun j x v e1 e2 => r1_sub h (h3 j x v e1 e2)⟩
  | bad => exact ro_sub (P := P) (own := own) (w := w) (b := b) (u := u) (v := .bad) (o := 0) h r
  | f x => exact ro_sub (P := P) (own := own) (w := w) (b := b) (u := u) (v := .f x) (o := 0) h r
  | ptr b o => exact ro_sub (P := P) (own := own) (w := w) (b := b) (u := u) (v := .ptr b o) (o := 0) h r
  | fp x o => exact ro_sub (P := P) (own := own) (w := w) (b := b) (u := u) (v := .fp x o) (o := 0) h r
  | ep a b c d => exact ro_sub (P := P) (own := own) (w := w) (b := b) (u := u) (v := .ep a b c d) (o := 0) h r
  | rf a b c d => exact ro_sub (P := P) (own := own) (w := w) (b := b) (u := u) (v := .rf a b c d) (o := 0) h r
  | own E l => exact ro_sub (P := P) (own := own) (w := w) (b := b) (u := u) (v := .own E l) (o := 0) h r
  | clo g l => exact ro_sub (P := P) (own := own) (w := w) (b := b) (u := u) (v := .clo g l) (o := 0) h r
theorem St.sub {nt : Nat} {G1 G2 : Sta} {own : Own} {a : Act} {w : World} (h : ∀ b v, get G2 b = some v → get G1 b = some v) (s : St P nt G1 own a w) : St P nt G2 own a w :=
  ⟨s.size, fun t v e => let ⟨u, e1, e2⟩ := s.temps t v (h _ _ e); ⟨u, e1, rl_sub h e2⟩,
   fun b v hb e => let ⟨k, arr, T, e1, e2, e3⟩ := s.boxes b v hb (h _ _ e); ⟨k, arr, T, e1, e2, e3.1, fun j x u q1 q2 => ro_sub h (e3.2 j x u q1 q2)⟩,
   s.one, s.lt⟩
def SubP (G1 : Sta) : Sta → Prop
  | [] => True
  | (b, v) :: r => get G1 b = some v ∧ SubP G1 r
theorem SubP.get {G1 : Sta} : ∀ {G2 : Sta}, SubP G1 G2 → ∀ b v, get G2 b = some v → get G1 b = some v
  | [], _, b, v, h => by cases h
  | (c, x) :: r, hs, b, v, h => by
    unfold Ev.get at h
    split at h
    · rename_i e; cases h; rw [e]; exact hs.1
    · exact SubP.get hs.2 b v h
theorem Wk.sub {nt : Nat} {G1 G2 : Sta} (h : SubP G1 G2) : Wk P nt G1 G2 := fun own a w s => ⟨own, s.sub h.get, Tr.refl _ _⟩
def zs : List Nat → List AV → Sta
  | b :: bs, v :: vs => (b, v) :: zs bs vs
  | _, _ => []
def zo : Nat → List AV → Sta
  | _, [] => []
  | i, v :: vs => (ob i, v) :: zo (i + 1) vs
theorem get_app {b : Nat} : ∀ {G1 G2 : Sta}, get (G1 ++ G2) b = (get G1 b).or (get G2 b)
  | [], G2 => by simp [get]
  | (c, x) :: r, G2 => by
    simp only [List.cons_append, get]
    split
    · rfl
    · exact get_app
theorem get_zs {b : Nat} {v : AV} : ∀ {bs : List Nat} {vs : List AV}, get (zs bs vs) b = some v → ∃ i : Nat, bs[i]? = some b ∧ vs[i]? = some v
  | [], _, h => by simp [zs, get] at h
  | _ :: _, [], h => by simp [zs, get] at h
  | c :: bs, x :: vs, h => by
    simp only [zs, get] at h
    split at h
    · rename_i e; cases h; exact ⟨0, by simp [e], rfl⟩
    · obtain ⟨i, h1, h2⟩ := get_zs h; exact ⟨i + 1, by simpa using h1, by simpa using h2⟩
theorem get_zs_of {b : Nat} {v : AV} : ∀ {bs : List Nat} {vs : List AV} {i : Nat}, bs.Nodup → bs[i]? = some b → vs[i]? = some v → get (zs bs vs) b = some v
  | [], _, i, _, h, _ => by simp at h
  | _ :: _, [], i, _, _, h => by simp at h
  | c :: bs, x :: vs, 0, hn, h1, h2 => by simp at h1 h2; subst h1 h2; simp [zs, get]
  | c :: bs, x :: vs, i + 1, hn, h1, h2 => by
    simp only [List.getElem?_cons_succ] at h1 h2
    rw [List.nodup_cons] at hn
    have : b ≠ c := by rintro rfl; exact hn.1 (List.mem_of_getElem? h1)
    simp only [zs, get, if_neg this]; exact get_zs_of hn.2 h1 h2
theorem get_zo {b : Nat} {v : AV} : ∀ {vs : List AV} {i : Nat}, get (zo i vs) b = some v → ∃ j, b = ob (i + j) ∧ vs[j]? = some v
  | [], i, h => by simp [zo, get] at h
  | x :: vs, i, h => by
    simp only [zo, get] at h
    split at h
    · rename_i e; cases h; exact ⟨0, by simp [e], rfl⟩
    · obtain ⟨j, h1, h2⟩ := get_zo h; exact ⟨j + 1, by rw [h1]; congr 1; omega, by simpa using h2⟩
theorem get_all {p : Nat × AV → Bool} {b : Nat} {v : AV} : ∀ {G : Sta}, G.all p = true → get G b = some v → p (b, v) = true
  | [], _, h => by cases h
  | (c, x) :: r, ha, h => by
    simp only [List.all_cons, Bool.and_eq_true] at ha
    unfold get at h
    split at h
    · rename_i e; cases h; rw [e]; exact ha.1
    · exact get_all ha.2 h
theorem get_renG {f : Nat → Nat} {b : Nat} : ∀ {G : Sta}, get (G.map fun p => (p.1, ren1 f p.2)) b = (get G b).map (ren1 f)
  | [] => rfl
  | (c, x) :: r => by
    simp only [List.map_cons, get]
    split
    · rfl
    · exact get_renG
def gtOk (bs : List Nat) (gt : Sta) : Bool := gt.all fun p => p.1 % 3 == 1 && shut1 false bs.contains p.2
def csOk (bs : List Nat) (cs : List AV) : Bool := cs.length == bs.length && cs.all (shut1 true bs.contains)
def bsOk (bs : List Nat) : Bool := bs.all (fun b => b % 3 != 1)
def rst (gt : Sta) (bs : List Nat) (cs : List AV) (p0 p1 : Tmp) (i : Int) (y : FV) : Sta :=
  (tb p0, .f (.pv (.int .i64 i))) :: (tb p1, asAV y) :: ((gt.map fun p => (p.1, ren1 (toOut bs) p.2)) ++ zo 0 (cs.map (ren1 (toOut bs))))
theorem shut1_shut2 {p : Nat → Bool} {v : AV} (h : shut1 false p v = true) : shut2 p v = true ∧ ren2 = ren2 := by
  refine ⟨?_, rfl⟩
  have h0 : ∀ v, shut0 false p v = true → shut0 true p v = true := by intro v hv; cases v <;> first | exact hv | rfl
  cases v with
  | agg l => exact List.all_eq_true.2 fun x hx => h0 x (List.all_eq_true.1 h x hx)
  | tup l => simp [shut1, shut0, capIn] at h
  | _ => simp only [shut1] at h; simp only [shut2, shut1]; exact h0 _ h
theorem shut1_notup {o : Bool} {p : Nat → Bool} {v : AV} (h : shut1 o p v = true) : ∀ l, v ≠ .tup l := by rintro l rfl; simp [shut1, shut0, capIn] at h
theorem shut_rl {p : Nat → Bool} {G G' : Sta} {own own' : Own} {w : World} {f : Nat → Nat} {b b' : Nat} {v : AV} {u : Value} (hs : shut1 false p v = true) (hn : ∀ k, own k = none → own' k = none) (hb : ∀ k b, p b = true → own k = some (.box b) → own' k = some (.box (f b)))
    (h : RL P G own w b v u) : RL P G' own' w b' (ren1 f v) u := by
  have h2 := (shut1_shut2 hs).1
  have hnt := shut1_notup hs
  have h0 : ∀ (j : Nat) v u, shut0 false p v = true → RO P G own w b j v u → RO P G' own' w b' j (ren0 f v) u := by
    intro j v u hv h
    have hne : ∀ E l, v ≠ .own E l := by rintro E l rfl; simp [shut0] at hv
    rw [ro_r0 hne] at h
    have := ren_r0 (P := P) (G := G) (G' := G') (own' := own') hn hb h hv
    rw [ro_r0]; exact this
    intro E l e; cases v <;> simp [ren0] at e; exact hne _ _ rfl
  cases v with
  | agg l =>
    obtain ⟨arr, e1, e2, e3⟩ := h
    refine ⟨arr, e1, by simpa using e2, fun j x y q1 q2 => ?_⟩
    rw [List.getElem?_map] at q1
    cases hj : l[j]? with
    | none => rw [hj] at q1; cases q1
    | some z => rw [hj] at q1; cases q1; exact h0 j z y (List.all_eq_true.1 hs z (List.mem_of_getElem? hj)) (e3 j z y hj q2)
  | tup l => exact absurd rfl (hnt l)
  | bad => exact h0 0 .bad u hs h
  | f x => exact h0 0 (.f x) u hs h
  | ptr b o => exact h0 0 (.ptr b o) u hs h
  | fp x o => exact h0 0 (.fp x o) u hs h
  | clo g l => exact h0 0 (.clo g l) u hs h
  | _ => simp [shut1, shut0, capIn] at hs
theorem asAV_rl {G : Sta} {own : Own} {w : World} {b : Nat} {y : FV} {u : Value} {sz : Nat} (hy : y.fits sz = true) (h : RF own w y u) : RL P G own w b (asAV y) u := by
  cases h with
  | pv => rename_i h; exact ⟨rfl, .pv _ h⟩
  | agg l arr hl hh =>
    refine ⟨arr, rfl, by simpa using hl, fun j x v e1 e2 => ?_⟩
    rw [List.getElem?_map] at e1
    cases hj : l[j]? with
    | none => rw [hj] at e1; cases e1
    | some z =>
      rw [hj] at e1; cases e1
      simp only [FV.fits, FV.cells, Bool.and_eq_true, List.all_eq_true] at hy
      exact ⟨hy.2 z (List.mem_of_getElem? hj), hh j z v hj e2⟩
  | sl l a n c ad sz hn hc ha hsz hcell hv => exact ⟨rfl, .sl l a n c ad sz hn hc ha hsz hcell hv⟩
def okBack (own : Own) (w : World) (l : List FV) (i : Nat) (x : Array Value) : Prop :=
  ∃ y u, l[l.length - 1 - i]? = some y ∧ x = #[.int .i64 ((l.length : Int) - 1 - i), u] ∧ RF own w y u
def BackOk (P : Program) (gf : FuncId) {α : Type} (enc : α → FV) : Prop :=
  ∀ (xs : List α) (own : Own) (w : World) (lb : Value), (xs.length : Int) ≤ 9223372036854775807 → RC own w (.fp (.sl (xs.map enc)) 0) lb → (∀ k k' o, own k = some o → own k' = some o → k = k') → (∀ k o, own k = some o → k < w.heap.size) →
    Gives P gf #[lb] xs.length (okBack own w (xs.map enc)) (fun k => k < w.heap.size ∧ (own k = none ∨ ∃ o, own k = some (.al o))) w
theorem wideF_round {F : Fence} (h : WideF P F) (l : Nat) : WideF P (F.inRound l) := ⟨h.fn, h.deep, fun m g vs w R k => h.calls m g vs w R k⟩
theorem Tr.put {own own' : Own} {w w' : World} (h : Tr own w own' w') {l : Nat} (hl : w.heap.size ≤ l) (o : Obj) (hlt : ∀ k o, own k = some o → k < w.heap.size) : Tr own w own' (w'.putObj l o) :=
  ⟨by rw [putObj_lt]; exact h.size, fun k hk hn => ⟨(h.keep k hk hn).1, (World.putObj_heap_other (by omega)).trans (h.keep k hk hn).2⟩, h.os, h.tape, h.output,
   fun k o e => ⟨(h.al k o e).1, (World.putObj_heap_other (by have := hlt _ _ e; omega)).trans (h.al k o e).2⟩, h.bx⟩
theorem putObj_self {w : World} {l : Nat} {o : Obj} (h : w.heap[l]? = some o) : w.putObj l o = w := by
  unfold World.putObj
  have : w.heap.setIfInBounds l o = w.heap := by
    apply Array.ext_getElem?
    intro i
    rw [Array.getElem?_setIfInBounds]
    split
    · rename_i e; subst e; rw [h]; simp [(Array.getElem?_eq_some_iff.1 h).1]
    · rfl
  rw [this]
theorem putObj_putObj {w : World} {l : Nat} {o o' : Obj} : (w.putObj l o).putObj l o' = w.putObj l o' := by
  unfold World.putObj
  have : (w.heap.setIfInBounds l o).setIfInBounds l o' = w.heap.setIfInBounds l o' := by
    apply Array.ext_getElem?
    intro i
    simp only [Array.getElem?_setIfInBounds, Array.size_setIfInBounds]
    split <;> rfl
  simp only [this]
end Go.Ev

set_option linter.unusedVariables false
set_option linter.unusedSimpArgs false
namespace Go.Ev
open Go Go.RowKit
variable {P : Program}
section
variable {c : Cfg} {G : Sta} {own own' : Own} {a : Act} {w w' : World}
theorem gt_get {bs : List Nat} {gt : Sta} (h : gtOk bs gt = true) {b : Nat} {v : AV} (e : get gt b = some v) : b % 3 = 1 ∧ shut1 false bs.contains v = true := by
  have := get_all h e
  simpa using this
theorem rk_get {bs : List Nat} {gt : Sta} {cs : List AV} (h1 : gtOk bs gt = true) (h3 : bsOk bs = true) {b : Nat} {v : AV} (e : get (gt ++ zs bs cs) b = some v) :
    (b % 3 = 1 ∧ shut1 false bs.contains v = true ∧ get gt b = some v) ∨ (b % 3 ≠ 1 ∧ ∃ i : Nat, bs[i]? = some b ∧ cs[i]? = some v) := by
  rw [get_app] at e
  cases hg : get gt b with
  | some x => rw [hg] at e; simp at e; subst e; exact .inl ⟨(gt_get h1 hg).1, (gt_get h1 hg).2, rfl⟩
  | none =>
    rw [hg] at e; simp at e
    obtain ⟨i, q1, q2⟩ := get_zs e
    have := List.all_eq_true.1 h3 b (List.mem_of_getElem? q1)
    exact .inr ⟨by simpa using this, i, q1, q2⟩
theorem round_st {nt : Nat} {gt : Sta} {bs : List Nat} {cs : List AV} (h1 : gtOk bs gt = true) (h2 : csOk bs cs = true) (h3 : bsOk bs = true) (hn : bs.Nodup) (s : St P nt (gt ++ zs bs cs) own a w) {p0 p1 : Tmp} (hp0 : p0 < nt) (hp1 : p1 < nt) (hp : p0 ≠ p1)
    {i : Int} {y : FV} {u : Value} {sz : Nat} (hy : y.fits sz = true) (hu : RF own w y u) :
    St P nt (rst gt bs cs p0 p1 i y) (ownC bs own) { tmps := ((#[p0, p1] : Array Tmp).zip #[.int .i64 i, u]).foldl (fun t (p, v) => t.setIfInBounds p v) a.tmps, defers := [] } w := by
  have htm : ((#[p0, p1] : Array Tmp).zip (#[.int .i64 i, u] : Array Value)).foldl (fun t (x : Tmp × Value) => t.setIfInBounds x.1 x.2) a.tmps = (a.tmps.setIfInBounds p0 (.int .i64 i)).setIfInBounds p1 u := by
    simp [List.zip_toArray]
  have hnn : ∀ k, own k = none → ownC bs own k = none := fun k hk => by simp [ownC, hk]
  have hbx : ∀ k b, bs.contains b = true → own k = some (.box b) → ownC bs own k = some (.box (toOut bs b)) := fun k b hb hk => by
    simp only [ownC, hk, Option.map_some, toOwn]; rw [if_pos hb]
  simp only [csOk, Bool.and_eq_true, beq_iff_eq] at h2
  have htr : ∀ x u, RF own w x u → RF (ownC bs own) w x u := fun x u h => h.mono0 hnn
  refine ⟨by rw [htm]; simp [s.size], fun t v e => ?_, fun b v hb e => ?_, fun k k' x e e' => ?_, fun k x e => ?_⟩
  · rw [htm]
    simp only [rst, get] at e
    split at e
    · rename_i ht; cases e
      have := tb_inj ht; subst this
      refine ⟨.int .i64 i, by rw [Array.getElem?_setIfInBounds_ne (fun e => hp e.symm), Array.getElem?_setIfInBounds_self_of_lt (by rw [s.size]; exact hp0)], ⟨rfl, .pv _ rfl⟩⟩
    · rename_i hne0
      split at e
      · rename_i ht; cases e
        have := tb_inj ht; subst this
        refine ⟨u, by rw [Array.getElem?_setIfInBounds_self_of_lt (by simp [s.size]; exact hp1)], asAV_rl hy (htr _ _ hu)⟩
      · rename_i hne1
        rw [get_app, get_renG] at e
        cases hg : get gt (tb t) with
        | none =>
          rw [hg] at e; simp at e
          obtain ⟨j, q1, q2⟩ := get_zo e
          exfalso; simp only [tb, ob] at q1; omega
        | some x =>
          rw [hg] at e; simp at e; subst e
          obtain ⟨u', q1, q2⟩ := s.temps t x (by rw [get_app, hg]; rfl)
          refine ⟨u', ?_, shut_rl (gt_get h1 hg).2 hnn hbx q2⟩
          rw [Array.getElem?_setIfInBounds_ne (by rintro rfl; exact hne1 rfl), Array.getElem?_setIfInBounds_ne (by rintro rfl; exact hne0 rfl)]; exact q1
  · simp only [rst, get] at e
    split at e
    · rename_i ht; subst ht; simp [tb] at hb
    · split at e
      · rename_i ht; subst ht; simp [tb] at hb
      · rw [get_app, get_renG] at e
        cases hg : get gt b with
        | some x => exact absurd (gt_get h1 hg).1 hb
        | none =>
          rw [hg] at e; simp at e
          obtain ⟨j, q1, q2⟩ := get_zo e
          rw [Nat.zero_add] at q1
          rw [List.getElem?_map] at q2
          cases hj : cs[j]? with
          | none => rw [hj] at q2; cases q2
          | some y' =>
            rw [hj] at q2; cases q2
            have hlt : j < bs.length := by have := (List.getElem?_eq_some_iff.1 hj).1; omega
            obtain ⟨b0, hb0⟩ : ∃ b0, bs[j]? = some b0 := ⟨bs[j], by simp⟩
            have hmem := List.mem_of_getElem? hb0
            have hb03 : b0 % 3 ≠ 1 := by have := List.all_eq_true.1 h3 b0 hmem; simpa using this
            have hgg : get (gt ++ zs bs cs) b0 = some y' := by
              rw [get_app]
              cases hq : get gt b0 with
              | some z => exact absurd (gt_get h1 hq).1 hb03
              | none => simp; exact get_zs_of hn hb0 hj
            obtain ⟨k, arr, TT, e1, e2, e3⟩ := s.boxes b0 y' hb03 hgg
            have hto := toOut_get hn hb0
            subst q1
            refine ⟨k, arr, TT, by rw [← hto]; exact hbx k b0 (by simpa using hmem) e1, e2, ?_⟩
            refine ren_rb hnn hbx ?_ e3 (List.all_eq_true.1 h2.2 y' (List.mem_of_getElem? hj))
            intro k j hk
            simp only [ownC, hk, Option.map_some, toOwn]
            rw [if_pos (by simpa using hmem), hto]
  · simp only [ownC] at e e'
    cases q : own k with
    | none => rw [q] at e; cases e
    | some y =>
      cases q' : own k' with
      | none => rw [q'] at e'; cases e'
      | some y' =>
        rw [q] at e; rw [q'] at e'
        simp only [Option.map_some, Option.some.injEq] at e e'
        have := toOwn_inj hn e e'
        subst this
        exact s.one k k' y q q'
  · simp only [ownC] at e
    cases q : own k with
    | none => rw [q] at e; cases e
    | some y => exact s.lt k y q
theorem round_back {gt : Sta} {bs : List Nat} {cs cs' : List AV} (h1 : gtOk bs gt = true) (h2 : csOk bs cs = true) (h2' : csOk bs cs' = true) (h3 : bsOk bs = true) (hn : bs.Nodup) (hlen : sameLens cs cs' = true) (s : St P c.nt (gt ++ zs bs cs) own a w)
    {G3 : Sta} {a3 : Act} (s3 : St P c.nt G3 own' a3 w') (hG : evOuts bs.length 0 G3 = some (cs'.map (ren1 (toOut bs)))) (tr : Tr (ownC bs own) w own' w') :
    ∃ own2, St P c.nt (gt ++ zs bs cs') own2 a w' ∧ Tr own w own2 w' := by
  have h2a := h2; have h2b := h2'
  simp only [csOk, Bool.and_eq_true, beq_iff_eq] at h2a h2b
  have hshut : ∀ v, v ∈ cs' → shut1 true bs.contains v = true := fun v hv => List.all_eq_true.1 h2b.2 v hv
  have hin : ∀ b, bs.contains b = true → ∃ i : Nat, bs[i]? = some b := fun b hb => List.mem_iff_getElem?.1 (by simpa using hb)
  have hr0 : ∀ o v, shut0 o bs.contains v = true → shut0 o (isOut bs.length) (ren0 (toOut bs) v) = true ∧ ren0 (back bs) (ren0 (toOut bs) v) = v := by
    intro o v hv
    have hc : ∀ v, capIn bs.contains v = true → capIn (isOut bs.length) (renC (toOut bs) v) = true ∧ renC (back bs) (renC (toOut bs) v) = v := by
      intro v hv
      cases v with
      | ptr b off =>
        obtain ⟨i, hi⟩ := hin b hv
        have hto := toOut_get hn hi
        refine ⟨?_, ?_⟩
        · show isOut bs.length (toOut bs b) = true
          rw [hto]; exact isOut_ob (List.getElem?_eq_some_iff.1 hi).1
        · simp only [renC]; rw [hto, back_ob hi]
      | _ => exact ⟨hv, rfl⟩
    cases v with
    | clo g caps =>
      simp only [shut0, List.all_eq_true] at hv ⊢
      refine ⟨?_, ?_⟩
      · simp only [ren0, shut0, List.all_map, List.all_eq_true]
        exact fun x hx => (hc x (hv x hx)).1
      · simp only [ren0, List.map_map, AV.clo.injEq, true_and]
        conv => rhs; rw [← List.map_id caps]
        exact List.map_congr_left fun x hx => (hc x (hv x hx)).2
    | own E l => exact ⟨hv, rfl⟩
    | ptr b off => exact hc (.ptr b off) hv
    | _ => exact ⟨hv, rfl⟩
  have hr1 : ∀ o v, shut1 o bs.contains v = true → shut1 o (isOut bs.length) (ren1 (toOut bs) v) = true ∧ ren1 (back bs) (ren1 (toOut bs) v) = v := by
    intro o v hv
    rcases shut1_forms (f := toOut bs) hv with ⟨l, rfl, hl⟩ | ⟨q1, q2, q3, q4⟩
    · refine ⟨?_, ?_⟩
      · simp only [ren1, shut1, List.all_map, List.all_eq_true]
        exact fun x hx => (hr0 o x (List.all_eq_true.1 hl x hx)).1
      · simp only [ren1, List.map_map, AV.agg.injEq]
        conv => rhs; rw [← List.map_id l]
        exact List.map_congr_left fun x hx => (hr0 o x (List.all_eq_true.1 hl x hx)).2
    · have key := hr0 o v q1
      rw [q3]
      have hne : ∀ l, ren0 (toOut bs) v ≠ .agg l := fun l e => by rw [e] at q4; simp [AV.isLeaf] at q4
      generalize hx : ren0 (toOut bs) v = x at key hne
      cases x with
      | agg l => exact absurd rfl (hne l)
      | _ => exact key
  obtain ⟨outs, houts⟩ : ∃ outs, outs = cs'.map (ren1 (toOut bs)) := ⟨_, rfl⟩
  have ho : Outs P own' w' outs := by
    have hsp := evOuts_spec (K := fun l => l = outs) hG houts.symm
    obtain ⟨l, rfl, hl⟩ := outsOf_spec hsp
    refine ⟨fun i v hv => ?_, s3.one, s3.lt⟩
    obtain ⟨k, arr, TT, e1, e2, e3⟩ := s3.boxes (ob i) v (by simp only [ob]; omega) (by have := hl i v hv; rwa [Nat.zero_add] at this)
    have hv' : ∃ z, z ∈ cs' ∧ v = ren1 (toOut bs) z := by
      rw [houts, List.getElem?_map] at hv
      cases hz : cs'[i]? with
      | none => rw [hz] at hv; cases hv
      | some z => rw [hz] at hv; cases hv; exact ⟨z, List.mem_of_getElem? hz, rfl⟩
    obtain ⟨z, hz, rfl⟩ := hv'
    have hs := (hr1 true z (hshut z hz)).1
    refine ⟨k, arr, TT, e1, e2, ?_⟩
    have := ren_rb (P := P) (G' := []) (own' := own') (f := fun b => b) (p := isOut bs.length) (fun k h => h) (fun k b _ h => h) (b := ob i) (b' := ob i) (fun k j h => h) e3 hs
    have hid : ren1 (fun b => b) (ren1 (toOut bs) z) = ren1 (toOut bs) z := by
      generalize ren1 (toOut bs) z = v
      have h0 : ∀ v, ren0 (fun b => b) v = v := by
        intro v
        cases v with
        | clo g caps =>
          simp only [ren0, AV.clo.injEq, true_and]
          conv => rhs; rw [← List.map_id caps]
          exact List.map_congr_left fun x _ => by cases x <;> rfl
        | _ => rfl
      cases v with
      | agg l =>
        simp only [ren1, AV.agg.injEq]
        conv => rhs; rw [← List.map_id l]
        exact List.map_congr_left fun x _ => h0 x
      | _ => simp only [ren1]; exact h0 _
    rw [hid] at this; exact this
  have g1 : outs.length = bs.length := by rw [houts, List.length_map]; exact h2b.1
  have g3 : outs.all (shut1 true (isOut bs.length)) = true := by
    rw [houts, List.all_map, List.all_eq_true]
    exact fun x hx => (hr1 true x (hshut x hx)).1
  have h3' : ∀ b ∈ bs, b % 3 ≠ 1 := fun b hb => by have := List.all_eq_true.1 h3 b hb; simpa using this
  have hcs : ∀ (i : Nat) b v, bs[i]? = some b → cs[i]? = some v → get (gt ++ zs bs cs) b = some v := by
    intro i b v hb hv
    rw [get_app]
    cases hq : get gt b with
    | some z => exact absurd (gt_get h1 hq).1 (h3' b (List.mem_of_getElem? hb))
    | none => simp; exact get_zs_of hn hb hv
  have hlm : ∀ v : AV, (ren1 (toOut bs) v).leaves.length = v.leaves.length → True := fun _ _ => trivial
  have g2 : sameLens cs outs = true := by
    rw [houts]
    have hx : ∀ (cs cs' : List AV), sameLens cs cs' = true → (∀ v ∈ cs', shut1 true bs.contains v = true) → sameLens cs (cs'.map (ren1 (toOut bs))) = true := by
      intro cs
      induction cs with
      | nil => intro cs' _ _; cases cs' <;> rfl
      | cons x cs ih =>
        intro cs' h hs
        cases cs' with
        | nil => simp [sameLens] at h
        | cons y cs' =>
          simp only [sameLens, List.map_cons, Bool.and_eq_true, beq_iff_eq] at h ⊢
          refine ⟨?_, ih cs' h.2 fun v hv => hs v (List.mem_cons_of_mem _ hv)⟩
          rw [(ren1_leaves (f := toOut bs) (hs y (List.mem_cons_self ..))).1, List.length_map]; exact h.1
    exact hx cs cs' hlen hshut
  obtain ⟨s4, t4⟩ := call_back (c := c) (d := none) (r := .tup []) (u := .tuple #[]) s h2a.1.symm hcs h3' hn rfl g1 g2 g3 rfl tr ho ⟨#[], rfl, rfl, fun j x v h => by simp at h⟩
  refine ⟨_, ⟨s4.size, fun t v e => ?_, fun b v hb e => ?_, s4.one, s4.lt⟩, t4⟩
  · rcases rk_get h1 h3 e with ⟨q1, q2, q3⟩ | ⟨q1, _⟩
    · have hS : outS bs none (tb t) = false := by
        have : tb t ∉ bs := fun hb => h3' _ hb (by simp [tb])
        simp [outS, dIs, this]
      have hg := get_out (r := ren2 (back bs) (.tup [])) (G := gt ++ zs bs cs) (back bs) g1.symm hS
      have hg2 : get (gt ++ zs bs cs) (tb t) = some v := by rw [get_app, q3]; rfl
      rw [hg2, Option.map_some] at hg
      have hk : AV.map2 (killS (outS bs none)) v = v := by
        have h0 : ∀ o v, shut0 o bs.contains v = true → killS (outS bs none) v = v := by
          intro o v hv; cases v <;> first | rfl | simp [shut0, capIn] at hv
        rcases shut1_forms (f := toOut bs) q2 with ⟨l, rfl, hl⟩ | ⟨z1, z2, _, _⟩
        · simp only [AV.map2, AV.agg.injEq]
          conv => rhs; rw [← List.map_id l]
          exact List.map_congr_left fun x hx => h0 false x (List.all_eq_true.1 hl x hx)
        · rw [map2_leaf (isLeaf_forms z2).1 (isLeaf_forms z2).2]; exact h0 false v z1
      rw [hk] at hg
      obtain ⟨u, e1, e2⟩ := s4.temps t v hg
      refine ⟨u, e1, ?_⟩
      have := shut_rl (P := P) (G' := gt ++ zs bs cs') (own' := ownR bs none own own') (f := fun b => b) (b' := tb t) q2 (fun k h => h) (fun k b _ h => h) e2
      have hid : ren1 (fun b => b) v = v := by
        have h0 : ∀ v, ren0 (fun b => b) v = v := by
          intro v
          cases v with
          | clo g caps =>
            simp only [ren0, AV.clo.injEq, true_and]
            conv => rhs; rw [← List.map_id caps]
            exact List.map_congr_left fun x _ => by cases x <;> rfl
          | _ => rfl
        cases v with
        | agg l =>
          simp only [ren1, AV.agg.injEq]
          conv => rhs; rw [← List.map_id l]
          exact List.map_congr_left fun x _ => h0 x
        | _ => simp only [ren1]; exact h0 _
      rwa [hid] at this
    · exact absurd (show tb t % 3 = 1 by simp only [tb]; omega) q1
  · rcases rk_get h1 h3 e with ⟨q1, _⟩ | ⟨q1, i, q2, q3⟩
    · exact absurd q1 hb
    · have hv : outs[i]? = some (ren1 (toOut bs) v) := by rw [houts, List.getElem?_map, q3]; rfl
      obtain ⟨x, hx⟩ : ∃ x, cs[i]? = some x := by
        have : i < cs.length := by have := (List.getElem?_eq_some_iff.1 q2).1; omega
        exact ⟨cs[i], by simp⟩
      have hlen' : (ren1 (back bs) (ren1 (toOut bs) v)).leaves.length = x.leaves.length := by
        rw [(hr1 true v (hshut v (List.mem_of_getElem? q3))).2]; exact sameLens_get hlen i x v hx q3
      have hg := get_out_box (d := none) (r := ren2 (back bs) (.tup [])) (G := gt ++ zs bs cs) (back bs) g1.symm hn q2 hv hb (fun v hv S => shut_kill (List.all_eq_true.1 g3 v hv) S) ⟨x, hcs i b x q2 hx, hlen'⟩
      rw [(hr1 true v (hshut v (List.mem_of_getElem? q3))).2] at hg
      obtain ⟨k, arr, TT, e1, e2, e3⟩ := s4.boxes b v hb hg
      refine ⟨k, arr, TT, e1, e2, ?_⟩
      have := ren_rb (P := P) (G' := gt ++ zs bs cs') (own' := ownR bs none own own') (f := fun b => b) (p := bs.contains) (fun k h => h) (fun k b _ h => h) (b := b) (b' := b) (fun k j h => h) e3 (hshut v (List.mem_of_getElem? q3))
      have hid : ren1 (fun b => b) v = v := by
        have h0 : ∀ v, ren0 (fun b => b) v = v := by
          intro v
          cases v with
          | clo g caps =>
            simp only [ren0, AV.clo.injEq, true_and]
            conv => rhs; rw [← List.map_id caps]
            exact List.map_congr_left fun x _ => by cases x <;> rfl
          | _ => rfl
        cases v with
        | agg l =>
          simp only [ren1, AV.agg.injEq]
          conv => rhs; rw [← List.map_id l]
          exact List.map_congr_left fun x _ => h0 x
        | _ => simp only [ren1]; exact h0 _
      rwa [hid] at this
end
end Go.Ev

set_option linter.unusedVariables false
set_option linter.unusedSimpArgs false
namespace Go.Ev
open Go Go.RowKit
variable {P : Program}
section
variable {c : Cfg} {G : Sta} {K : Ex → Sta → Prop} {x : Code}
def rndK (P : Program) (c : Cfg) (bs : List Nat) (J : List AV → Prop) : Ex → Sta → Prop
  | .normal, G => ∃ G' cs', Wk P c.nt G G' ∧ evOuts bs.length 0 G' = some (cs'.map (ren1 (toOut bs))) ∧ J cs'
  | _, _ => False
theorem Sem.range {σ : Type} (hr : c.rnd = false) {tg p0 p1 : Tmp} (e : x = .rangeFunc (.tmp tg) #[p0, p1] (sq1 x) (sq2 x))
    {gf : FuncId} {α : Type} {enc : α → FV} {xs : List α} {sz : Nat} (hg : get G (tb tg) = some (.clo gf [.fp (.sl (xs.map enc)) 0])) (hb : BackOk P gf enc) {ey : α → FV} (he : ∀ x, enc x = ey x) (hl : ∀ x, (enc x).fits sz = true) (hll : (xs.length : Int) ≤ 9223372036854775807)
    (gt : Sta) (bs : List Nat) (cs : σ → List AV) (Inv : Nat → σ → Prop) (s0 : σ) (hw : Wk P c.nt G (gt ++ zs bs (cs s0))) (hi : Inv 0 s0)
    (k1 : gtOk bs gt = true) (k2 : ∀ s, csOk bs (cs s) = true) (k3 : bsOk bs = true) (k4 : bs.Nodup) (k5 : ∀ s s', sameLens (cs s) (cs s') = true) (k6 : p0 < c.nt) (k7 : p1 < c.nt) (k8 : p0 ≠ p1)
    (round : ∀ i s y, i < xs.length → xs[xs.length - 1 - i]? = some y → Inv i s → Sem P { c with rnd := true } (sq1 x) (rst gt bs (cs s) p0 p1 ((xs.length : Int) - 1 - i) (ey y))
      fun e G' => e = .normal ∧ Sem P { c with rnd := true } (sq2 x) G' (rndK P c bs fun l => ∃ s', l = cs s' ∧ Inv (i + 1) s'))
    (done : ∀ s, Inv xs.length s → ∃ G', Wk P c.nt (gt ++ zs bs (cs s)) G' ∧ K .normal G') : Sem P c x G K := by
  rw [e]
  intro own a w F n Q hF s hQ
  obtain ⟨hF, hro⟩ := hF
  have hro := hro hr
  obtain ⟨u, hu, hru⟩ := s.temps tg _ hg
  obtain ⟨arr, ha1, ha2, ha3⟩ : ∃ arr, u = .func (.func gf) #[] arr ∧ ([AV.fp (.sl (xs.map enc)) 0] : List AV).length = arr.size ∧ ∀ (j : Nat) x v, [AV.fp (.sl (xs.map enc)) 0][j]? = some x → arr[j]? = some v → RC own w x v := hru
  obtain ⟨lb, rfl⟩ : ∃ lb, arr = #[lb] := by
    match arr, ha2 with
    | ⟨[lb]⟩, _ => exact ⟨lb, rfl⟩
  have hlb : RC own w (.fp (.sl (xs.map enc)) 0) lb := ha3 0 _ lb rfl rfl
  have hgive := hb xs own w lb hll hlb s.one s.lt
  have hev : a.eval (.tmp tg) = .func (.func gf) #[] #[lb] := by
    show a.tmps.getD tg _ = _
    rw [Array.getD_eq_getD_getElem?, hu, ← ha1]; rfl
  obtain ⟨own0, s00, t00⟩ := hw own a w s
  refine range_wp (P := P) hF hro hev hgive (fun k hk => hk.1) (fun i y hy => by obtain ⟨_, _, _, rfl, _⟩ := hy; rfl)
    (fun rec i W => ∃ st own', Inv i st ∧ St P c.nt (gt ++ zs bs (cs st)) own' a W ∧ Tr own w own' W ∧ own' w.heap.size = none ∧ own' (w.heap.size + 1) = none ∧ w.heap.size + 1 < W.heap.size) ?_ ?_ ?_ ?_
  · rintro rec i W W' ⟨st, own', hinv, s1, t1, o1, o2, hsz⟩ _ hg
    refine ⟨st, own', hinv, s1.ck ⟨hg.size, fun k arr T z hk => (hg.keep k (Array.getElem?_eq_some_iff.1 hk).1).trans hk⟩, t1.trans (hg.tr s1.lt), o1, o2, Nat.lt_of_lt_of_le hsz hg.size⟩
  · rintro fn rec i xx m W hrdy hpd hlt ⟨y', v, hy, hxx, hrf⟩ ⟨st, own', hinv, s1, t1, o1, o2, hsz⟩ hL hD hku
    rw [List.length_map] at hy hxx
    subst hxx
    obtain ⟨y, hy1, rfl⟩ : ∃ y, xs[xs.length - 1 - i]? = some y ∧ enc y = y' := by
      rw [List.getElem?_map] at hy
      cases hq : xs[xs.length - 1 - i]? with
      | none => rw [hq] at hy; cases hy
      | some z => rw [hq] at hy; cases hy; exact ⟨z, rfl, rfl⟩
    have s2 := round_st k1 (k2 st) k3 k4 s1 k6 k7 k8 (i := (xs.length : Int) - 1 - i) (hl y) (hrf.mono t1)
    have hnn : ∀ k, own' k = none → ownC bs own' k = none := fun k hk => by simp [ownC, hk]
    have hrnd := round i st y hlt hy1 hinv
    rw [← he y] at hrnd
    refine hrnd _ _ W (F.inRound (w.heap.size + 1)) m _ ⟨wideF_round hF _, fun h => (by cases h)⟩ s2 ?_
    rintro e2 G2 own2 a2 w2 ⟨rfl, hsem⟩ s3 t3 _
    have hL2 : w2.heap[w.heap.size + 1]? = some (Obj.loop rec) := (t3.keep _ hsz (hnn _ o2)).2.trans hL
    refine ⟨hL2, ?_⟩
    have hck : CK w2 (w2.putObj (w.heap.size + 1) (Obj.loop { rec with state := .busy })) := CK.put hL2 (fun _ _ _ e => by cases e)
    refine hsem own2 a2 _ (F.inRound (w.heap.size + 1)) m _ ⟨wideF_round hF _, fun h => (by cases h)⟩ (s3.ck hck) ?_
    intro e3 G3 own3 a3 w3 hk s4 t4 _
    cases e3 with
    | exit id => exact hk.elim
    | ret => exact hk.elim
    | normal =>
      obtain ⟨G4, cs', hwk, hout, st', rfl, hinv'⟩ := hk
      obtain ⟨own4, s5, t5⟩ := hwk own3 a3 w3 s4
      have hsz2 : w.heap.size + 1 < w2.heap.size := Nat.lt_of_lt_of_le hsz t3.size
      have o2' : own2 (w.heap.size + 1) = none := (t3.keep _ hsz (hnn _ o2)).1
      have o1' : own2 w.heap.size = none := (t3.keep _ (by omega) (hnn _ o1)).1
      have t45 : Tr own2 (w2.putObj (w.heap.size + 1) (Obj.loop { rec with state := .busy })) own4 w3 := t4.trans t5
      have hL3 : w3.heap[w.heap.size + 1]? = some (Obj.loop { rec with state := .busy }) :=
        (t45.keep _ (by rw [putObj_lt]; exact hsz2) o2').2.trans (World.putObj_heap_same hsz2)
      have hD2 : w2.heap[w.heap.size]? = some (Obj.deferred (some [])) := (t3.keep _ (by omega) (hnn _ o1)).2.trans hD
      have hD3 : w3.heap[w.heap.size]? = some (Obj.deferred (some [])) :=
        (t45.keep _ (by rw [putObj_lt]; omega) o1').2.trans ((World.putObj_heap_other (by omega)).trans hD2)
      have t6 := t45.norm (X := Obj.loop rec) (l := w.heap.size + 1) (by rw [putObj_lt]; exact hsz2) o2'
      rw [putObj_putObj, putObj_self hL2] at t6
      have t7 : Tr (ownC bs own') W own4 (w3.putObj (w.heap.size + 1) (Obj.loop rec)) := t3.trans t6
      have hck3 : CK w3 (w3.putObj (w.heap.size + 1) (Obj.loop rec)) := CK.put hL3 (fun _ _ _ e => by cases e)
      obtain ⟨own5, s6, t8⟩ := round_back k1 (k2 st) (k2 st') k3 k4 (k5 st st') s1 (s5.ck hck3) hout t7
      have t9 : Tr own w own5 (w3.putObj (w.heap.size + 1) (Obj.loop rec)) := t1.trans t8
      refine ⟨hL3, hD3, ?_, ⟨st', own5, hinv', s6, t9, (t8.keep _ (by omega) o1).1, (t8.keep _ hsz o2).1, Nat.lt_of_lt_of_le hsz t8.size⟩⟩
      have hku2 := t9.ku
      have h3e : w3 = (w3.putObj (w.heap.size + 1) (Obj.loop rec)).putObj (w.heap.size + 1) (Obj.loop { rec with state := .busy }) := by
        rw [putObj_putObj, putObj_self hL3]
      rw [h3e]
      exact hku2.put _ fun k hk => by have := hk.1; omega
  · intro rec
    have hsz : ((w.alloc (Obj.deferred (some []))).alloc (Obj.loop rec)).heap.size = w.heap.size + 2 := by simp
    have hold : ∀ k, k < w.heap.size → ((w.alloc (Obj.deferred (some []))).alloc (Obj.loop rec)).heap[k]? = w.heap[k]? := fun k hk =>
      (Below.heap_alloc _ _ _ (by simp; omega)).trans (Below.heap_alloc _ _ _ hk)
    have hlt0 := s00.lt
    have tt : Tr own0 w own0 ((w.alloc (Obj.deferred (some []))).alloc (Obj.loop rec)) :=
      ⟨by rw [hsz]; omega, fun k hk h => ⟨h, hold k hk⟩, rfl, rfl, rfl, fun k o h => ⟨h, hold k (hlt0 _ _ h)⟩, fun _ _ _ h => h⟩
    refine ⟨s0, own0, hi, ?_, t00.trans tt, ?_, ?_, by rw [hsz]; omega⟩
    · refine s00.ck ⟨by rw [hsz]; omega, fun k arr T z hk => ?_⟩
      rw [hold k (Array.getElem?_eq_some_iff.1 hk).1]; exact hk
    · cases h : own0 w.heap.size with
      | none => rfl
      | some o => have := hlt0 _ _ h; omega
    · cases h : own0 (w.heap.size + 1) with
      | none => rfl
      | some o => have := hlt0 _ _ h; omega
  · rintro rec W ⟨st, own', hinv, s1, t1, o1, o2, hsz⟩ hL hD
    have hck : CK W (W.putObj (w.heap.size + 1) (Obj.loop { rec with state := .exhausted })) := CK.put hL (fun _ _ _ e => by cases e)
    have s2' := s1.ck hck
    obtain ⟨G', hwk, hkk⟩ := done st hinv
    obtain ⟨own'', s2, t2⟩ := hwk own' a _ s2'
    refine hQ .normal _ own'' { a with defers := mark w.heap.size :: a.defers } _ hkk ⟨s2.size, s2.temps, s2.boxes, s2.one, s2.lt⟩ ((t1.put (by omega) _ s.lt).trans t2) ?_
    refine ⟨[w.heap.size], rfl, by simp, fun D hD' => ?_⟩
    simp only [List.mem_singleton] at hD'
    subst hD'
    exact ⟨Nat.le_refl _, (t2.keep _ (by rw [putObj_lt]; omega) o1).1, (World.putObj_heap_other (by omega)).trans hD⟩
end
end Go.Ev

set_option linter.unusedVariables false
set_option linter.unusedSimpArgs false
namespace Go.Ev
open Go Go.RowKit
variable {P : Program}
def opsOf (x : Code) : List Oper := match x with
  | .region _ ops _ => ops.toList
  | _ => []
section
variable {F : Fence} {n : Nat} {a : Act} {w : World} {next next' : Act → World → Prop} {Q Q' : Exit → Act → World → Prop} {o : Oper}
theorem put_ne {a : Act} {t : Tmp} {d : Option Tmp} {v : Value} (h : d ≠ some t) : (a.put d v).tmps[t]? = a.tmps[t]? := by
  cases d with
  | none => rfl
  | some s => rw [put_tmps, Array.getElem?_setIfInBounds_ne (by rintro rfl; exact h rfl)]
theorem uponIn_keep {t : Tmp} (ht : o.dst ≠ some t) (hn : ∀ a' w', next' a' w' → a'.tmps[t]? = a.tmps[t]? → next a' w') (hq : ∀ e a w, e ≠ .normal → Q' e a w → Q e a w) {r : Result Next} (h : o.uponIn F n P a next' Q' r) : o.uponIn F n P a next Q r := by
  have hlets : LetsOut Q' → LetsOut Q := fun ⟨a, w, h⟩ => ⟨a, w, hq _ _ _ (by simp) h⟩
  unfold Oper.uponIn at h ⊢
  split at h
  · exact hn _ _ h (put_ne ht)
  · exact hn _ _ h (put_ne ht)
  · exact hn _ _ h (put_ne (a := { a with defers := _ :: a.defers }) ht)
  · refine ⟨h.1, h.2.mono ?_⟩
    intro e w' h'
    cases e with
    | returned v => exact hn _ _ h' (put_ne ht)
    | panicked c => exact hq _ _ _ (by simp) h'
    | outgrown => exact hlets h'
  · refine ⟨h.1, h.2.mono ?_⟩
    intro e w' h'
    exact hn _ _ h' (put_ne ht)
  · refine ⟨h.1, h.2.mono ?_⟩
    intro e w' h'
    cases e with
    | returned v => exact hn _ _ h' (put_ne ht)
    | panicked c => exact hq _ _ _ (by simp) h'
    | outgrown => exact hlets h'
  · exact hq _ _ _ (by simp) h
  · exact h.elim
theorem wpOps_keep {ops : Array Oper} {t : Tmp} : ∀ (l : List Nat) {a : Act} {w : World}, (∀ i ∈ l, ∀ o, ops[i]? = some o → o.dst ≠ some t) →
    wpOpsIn F n P ops (fun e a' w' => (e = .normal → a'.tmps[t]? = a.tmps[t]?) → Q e a' w') l a w → wpOpsIn F n P ops Q l a w
  | [], a, w, _, h => h fun _ => rfl
  | i :: r, a, w, hl, h => by
    have hr := fun j hj => hl j (List.mem_cons_of_mem _ hj)
    unfold wpOpsIn at h ⊢
    split
    · rename_i ho; rw [ho] at h; exact wpOps_keep r hr h
    · rename_i o ho
      rw [ho] at h
      dsimp only at h ⊢
      have hd := hl i (List.mem_cons_self ..) o ho
      have key : ∀ a' w', wpOpsIn F n P ops (fun e a' w' => (e = .normal → a'.tmps[t]? = a.tmps[t]?) → Q e a' w') r a' w' → a'.tmps[t]? = a.tmps[t]? → wpOpsIn F n P ops Q r a' w' := by
        intro a' w' h2 e
        rw [← e] at h2
        exact wpOps_keep r hr h2
      split at h
      · rename_i hw
        rw [if_pos hw]
        exact ⟨h.1, uponIn_keep hd key (fun e a w hne hq => hq fun e' => absurd e' hne) h.2⟩
      · rename_i hw
        rw [if_neg hw]
        exact ⟨h.1, key _ _ h.2 (put_ne hd)⟩
end
section
variable {c : Cfg} {F : Fence} {n : Nat} {Q : Exit → Act → World → Prop} {ops : Array Oper}
theorem regX (hc : COk P c) (hF : WideF P F) {id : Nat} {q : List Ora} {G G' : Sta} {obs : List Prop} {log : List Lg} {own : Own} {a : Act} {w : World} (h : evOps (CallE P) c ops false ops.toList 0 [] G q = some (obs, log, G')) (ho : AllP obs)
    (hd : ops.toList.all (fun o => o.dst != some 0 && o.dst != some 1) = true) (s : St P c.nt G own a w)
    (hq : ∀ own' a' w', St P c.nt G' own' a' w' → Tr own w own' w' → a'.defers = a.defers → a'.tmps[0]? = a.tmps[0]? → a'.tmps[1]? = a.tmps[1]? → Q .normal a' w') : (Code.region id ops false).wpIn F n P Q a w := by
  have hdd : ∀ (i : Nat) o, ops[i]? = some o → o.dst ≠ some 0 ∧ o.dst ≠ some 1 := fun i o h => by
    have := List.all_eq_true.1 hd o (by rw [← Array.getElem?_toList] at h; exact List.mem_of_getElem? h)
    simpa using this
  refine wpIn_region (wpOps_keep (t := 0) _ (fun i _ o h => (hdd i o h).1) (wpOps_keep (t := 1) _ (fun i _ o h => (hdd i o h).2) ?_))
  refine wpOps_pre hc hF (pre := ops.toList) (rest := []) (by simp) h ho s ?_
  intro own' a' w' s' t' d' h1 h0
  exact hq own' a' w' s' t' d' (h0 rfl) (h1 rfl)
theorem fp_no {own : Own} {w : World} {x : FV} {o : Nat} {u : Value} (h : RC own w (.fp x o) u) : RC no w (.fp x o) u := by
  obtain ⟨k, q, h1, h2, h3, h4⟩ := h
  exact ⟨k, q, h1, rfl, h3, fun j y e => let ⟨v, e1, e2⟩ := h4 j y e; ⟨v, e1, e2.mono0 fun _ _ => rfl⟩⟩
theorem tr_no {own' : Own} {w w' : World} (t : Tr no w own' w') : Grow w w' := ⟨t.size, fun k hk => (t.keep k hk rfl).2, t.os, t.tape, t.output⟩
theorem run_callY {a : Act} {w : World} {o : Oper} {t : Tmp} {args : Array Operand} {ats : Array TypeId} {l : Nat} (ho : o.op = .call { callee := .value (.tmp t), args, argTypes := ats })
    (hv : a.eval (.tmp t) = .func (.yield l) #[] #[]) : (execOp a.eval o).run P w = (Instr.yield l (args.map a.eval)).run P w := by
  simp only [execOp, ho, resolve, hv, Deferred.ofValue, Sem.run_bind, Sem.run_pure, Result.andThen_ok, invoke, Array.empty_append, Array.append_empty]
theorem rc_pv {own : Own} {w : World} {v u : Value} (h : RC own w (.f (.pv v)) u) : u = v := by
  obtain ⟨_, h⟩ := h
  cases h; rfl
theorem temp_pv {G : Sta} {own : Own} {a : Act} {w : World} {t : Tmp} {v : Value} (s : St P c.nt G own a w) (h : get G (tb t) = some (.f (.pv v))) : a.tmps[t]? = some v := by
  obtain ⟨u, h1, h2⟩ := s.temps t _ h
  rw [h1, rc_pv (show RC own w (.f (.pv v)) u from h2)]
theorem getD_of {l : Array Value} {t : Nat} {v d : Value} (h : l[t]? = some v) : l.getD t d = v := by
  rw [Array.getD_eq_getD_getElem?, h]; rfl
def encX (agg : Bool) (sz : Nat) (f : Nat → Value) : FV :=
  match agg with
  | true => .agg ((List.range sz).map fun j => .pv (f j))
  | false => .pv (f 0)
def isAggF : FV → Bool
  | .agg _ => true
  | _ => false
theorem rf_one {own : Own} {w : World} {y : FV} {v : Value} (h : RF own w y v) (hy : y.one = true) : v.oneCell' = true := by
  cases h with
  | pv => assumption
  | agg => simp [FV.one] at hy
  | sl => rfl
theorem exact_list {own : Own} {w : World} {α : Type} {enc : α → FV} {xs : List α} {s : Value} {sz : Nat} {agg : Bool} (hfit : ∀ x, (enc x).fits sz = true) (hagg : ∀ x, isAggF (enc x) = agg) (hsz : agg = false → sz = 1) (h : RF own w (.sl (xs.map enc)) s) :
    ∃ fs : List (Nat → Value), fs.length = xs.length ∧ RF own w (.sl (fs.map (encX agg sz))) s ∧
      ∀ (i : Nat) x f, xs[i]? = some x → fs[i]? = some f → ∀ u own' w' b, RL P [] own' w' b (asAV (encX agg sz f)) u → RF own w (enc x) u := by
  cases h with
  | sl _ a n c ad sz' hn hc ha hsz' hcell hv =>
  have hcells : ∀ (x : α), (enc x).cells.length = sz ∧ ∀ y ∈ (enc x).cells, y.one = true := fun x => by
    have := hfit x
    simp only [FV.fits, FV.size, Bool.and_eq_true, beq_iff_eq, List.all_eq_true] at this
    exact this
  let f : Nat → Nat → Value := fun i j => ((w.cell? ⟨ad.block, ad.off + (i * sz' + j), none⟩).getD undef)
  have hfc : ∀ (i : Nat) x (j : Nat) y, xs[i]? = some x → (enc x).cells[j]? = some y → w.cell? ⟨ad.block, ad.off + (i * sz' + j), none⟩ = some (f i j) ∧ RF own w y (f i j) := by
    intro i x j y hx hy
    have hxe : (xs.map enc)[i]? = some (enc x) := by rw [List.getElem?_map, hx]; rfl
    obtain ⟨v, e1⟩ := hcell i (enc x) j y hxe hy
    have : f i j = v := by simp only [f, e1]; rfl
    rw [this]
    exact ⟨e1, hv i (enc x) j y v hxe hy e1⟩
  have hxl : (encX agg sz fun _ => undef).cells.length = sz := by
    cases agg with
    | true => simp [encX, FV.cells]
    | false => simp [encX, FV.cells, hsz rfl]
  have hxc : ∀ (g : Nat → Value) (j : Nat) y, (encX agg sz g).cells[j]? = some y → j < sz ∧ y = .pv (g j) := by
    intro g j y h
    cases agg with
    | true =>
      simp only [encX, FV.cells, List.getElem?_map] at h
      by_cases hj : j < sz
      · rw [List.getElem?_range hj] at h; simp at h; exact ⟨hj, h.symm⟩
      · rw [List.getElem?_eq_none (by simpa using hj)] at h; simp at h
    | false =>
      simp only [encX, FV.cells] at h
      cases j with
      | zero => simp at h; exact ⟨by rw [hsz rfl]; omega, h.symm⟩
      | succ j => simp at h
  have hsize : ∀ g, (encX agg sz g).size = sz := fun g => by
    cases agg with
    | true => simp [encX, FV.size, FV.cells]
    | false => simp [encX, FV.size, FV.cells, hsz rfl]
  have hget : ∀ (i : Nat), ((List.range xs.length).map f)[i]? = if i < xs.length then some (f i) else none := fun i => by
    rw [List.getElem?_map]
    split
    · rename_i h; rw [List.getElem?_range h]; rfl
    · rename_i h; rw [List.getElem?_eq_none (by simpa using h)]; rfl
  refine ⟨(List.range xs.length).map f, by simp, ?_, ?_⟩
  · have hne : ((List.range xs.length).map f).map (encX agg sz) ≠ [] → xs.map enc ≠ [] := by
      intro h e
      have : xs = [] := by simpa using e
      subst this; simp at h
    have hcell' : ∀ (i : Nat) x (j : Nat) y, (((List.range xs.length).map f).map (encX agg sz))[i]? = some x → x.cells[j]? = some y → w.cell? ⟨ad.block, ad.off + (i * sz' + j), none⟩ = some (f i j) ∧ y = .pv (f i j) ∧ (f i j).oneCell' = true := by
      intro i x j y hx hy
      rw [List.getElem?_map, hget] at hx
      split at hx
      · rename_i hi
        simp only [Option.map_some, Option.some.injEq] at hx
        subst hx
        obtain ⟨hj, rfl⟩ := hxc _ _ _ hy
        obtain ⟨x0, hx0⟩ : ∃ x0, xs[i]? = some x0 := ⟨xs[i], by simp⟩
        obtain ⟨y0, hy0⟩ : ∃ y0, (enc x0).cells[j]? = some y0 := ⟨(enc x0).cells[j]'(by rw [(hcells x0).1]; exact hj), by simp⟩
        obtain ⟨q1, q2⟩ := hfc i x0 j y0 hx0 hy0
        exact ⟨q1, rfl, rf_one q2 ((hcells x0).2 y0 (List.mem_of_getElem? hy0))⟩
      · simp at hx
    have hsz2 : xs ≠ [] → sz' = sz := by
      intro hne
      cases xs with
      | nil => exact absurd rfl hne
      | cons x r => rw [← hsz' (enc x) (by simp)]; exact (hcells x).1
    refine .sl _ a n c ad sz' (by simpa using hn) hc (fun h => ha (hne h)) ?_ (fun i x j y hx hy => ⟨_, (hcell' i x j y hx hy).1⟩) ?_
    · intro x hx
      obtain ⟨g, _, rfl⟩ := List.mem_map.1 hx
      rw [hsize, hsz2]
      rintro rfl; simp at hx
    · intro i x j y v hx hy hw
      obtain ⟨q1, rfl, q3⟩ := hcell' i x j y hx hy
      rw [q1] at hw; cases hw
      exact .pv _ q3
  · intro i x g hx hg u own' w' b hr
    rw [hget] at hg
    have hi : i < xs.length := (List.getElem?_eq_some_iff.1 hx).1
    rw [if_pos hi] at hg; cases hg
    have hlen := (hcells x).1
    have hl := hagg x
    cases agg with
    | true =>
      cases hx' : enc x with
      | agg l =>
        obtain ⟨arr, rfl, e2, e3⟩ := hr
        rw [hx'] at hlen
        simp only [FV.cells] at hlen
        refine .agg l arr (by rw [← e2]; simp [hlen]) fun j y v e4 e5 => ?_
        have hj : j < sz := by rw [← hlen]; exact (List.getElem?_eq_some_iff.1 e4).1
        have e6 := e3 j (.f (.pv (f i j))) v (by simp [hj]) e5
        rw [rc_pv (show RC own' w' (.f (.pv (f i j))) v from e6)]
        exact (hfc i x j y hx (by rw [hx']; exact e4)).2
      | _ => rw [hx'] at hl; cases hl
    | false =>
      have hu : u = f i 0 := rc_pv (show RC own' w' (.f (.pv (f i 0))) u from hr)
      rw [hu]
      cases hx' : enc x with
      | agg l => rw [hx'] at hl; cases hl
      | pv v => exact (hfc i x 0 _ hx (by rw [hx']; rfl)).2
      | sl l => exact (hfc i x 0 _ hx (by rw [hx']; rfl)).2
def nu3 (a : Act) : Nat := match a.tmps[3]? with
  | some (Value.int _ v) => (v + 1).toNat
  | _ => 0
theorem back_of (hc : COk P c) {gf : FuncId} {fn : Func} (hf : P.funcs[gf]? = some fn) (hnm : (fn.name == "runtime.NumGoroutine") = false) (hnt : c.nt = fn.ntmps) (hnt2 : fn.ntmps = 19) (hres : fn.results = #[])
    {oA oB o3 oD : Array Oper} {iA iB i3 iD : Nat} {α : Type} {enc : α → FV} {agg : Bool} {sz : Nat} (hfit : ∀ x, (enc x).fits sz = true) (hagg : ∀ x, isAggF (enc x) = agg) (hsz : agg = false → sz = 1)
    (hb : fn.body = some (.seq (.region iA oA false) (.block 0 (.loop (.seq (.seq (.region iB oB false) (.cond (.tmp 8) .skip (.exit 0))) (.seq (.block 1 (.seq (.region i3 o3 false) (.cond (.tmp 18) .ret .skip))) (.region iD oD false)))))))
    (dA : oA.toList.all (fun o => o.dst != some 0 && o.dst != some 1) = true) (dB : oB.toList.all (fun o => o.dst != some 0 && o.dst != some 1) = true) (d3 : o3.toList.all (fun o => o.dst != some 0 && o.dst != some 1) = true) (dD : oD.toList.all (fun o => o.dst != some 0 && o.dst != some 1) = true)
    {pre : List Oper} {oc on : Oper} {ats : Array TypeId} (h3 : o3.toList = pre ++ [oc, on]) (hoc : oc.op = .call { callee := .value (.tmp 11), args := #[.tmp 12, .tmp 16], argTypes := ats }) (hocd : oc.dst = some 17) (hocg : oc.guard = none)
    (kA : ∀ (yv : Value) (xs : List (Nat → Value)), ∃ log G', evOps (CallE P) c oA false oA.toList 0 [] [(1, .f (.pv yv)), (4, .fp (.sl (xs.map (encX agg sz))) 0)] [] = some ([], log, G') ∧ get G' 10 = some (.f (.pv (.int .i64 (IntKind.wrap .i64 (((xs.map (encX agg sz)).length : Int) - 1))))))
    (kB : ∀ (yv : Value) (xs : List (Nat → Value)) (i : Int), ∃ log G', evOps (CallE P) c oB false oB.toList 0 [] [(1, .f (.pv yv)), (4, .fp (.sl (xs.map (encX agg sz))) 0), (10, .f (.pv (.int .i64 i)))] [] = some ([], log, G') ∧ get G' 10 = some (.f (.pv (.int .i64 i))) ∧ get G' 25 = some (.f (.pv (.bool (decide (i ≥ 0))))))
    (kD : ∀ (yv : Value) (xs : List (Nat → Value)) (i : Int), ∃ log G', evOps (CallE P) c oD false oD.toList 0 [] [(1, .f (.pv yv)), (4, .fp (.sl (xs.map (encX agg sz))) 0), (10, .f (.pv (.int .i64 i)))] [] = some ([], log, G') ∧ get G' 10 = some (.f (.pv (.int .i64 (IntKind.wrap .i64 (i - 1))))))
    (k3 : ∀ (yv : Value) (xs : List (Nat → Value)) (i : Int) (x : Nat → Value), ∃ log G', evOps (CallE P) c o3 false pre 0 [] [(1, .f (.pv yv)), (4, .fp (.sl (xs.map (encX agg sz))) 0), (10, .f (.pv (.int .i64 i)))] [.e (encX agg sz x)] = some ([0 ≤ i, (xs.map (encX agg sz))[i.toNat]? = some (encX agg sz x)], log, G') ∧
      get G' 10 = some (.f (.pv (.int .i64 i))) ∧ get G' 34 = some (.f (.pv yv)) ∧ get G' 37 = some (.f (.pv (.int .i64 i))) ∧ get G' 49 = some (asAV (encX agg sz x)))
    (kN : ∃ log G', evOps (CallE P) c o3 false [on] (pre.length + 1) [] [(52, .f (.pv (.bool true)))] [] = some ([], log, G') ∧ get G' 55 = some (.f (.pv (.bool false))))
    (hond : on.dst ≠ some 3) : BackOk P gf enc := by
  intro xs own w0 lb hll hlb hone hlt0
  refine ⟨⟨fn, hf, hnm, by rw [hb]; rfl⟩, ?_⟩
  intro F n lp J W hF hro hku hst hyield hJ
  have hn19 : c.nt = 19 := hnt.trans hnt2
  obtain ⟨fs, hfl, hfb, hfx⟩ : ∃ fs : List (Nat → Value), fs.length = xs.length ∧ RC own w0 (.fp (.sl (fs.map (encX agg sz))) 0) lb ∧
      ∀ (i : Nat) x f, xs[i]? = some x → fs[i]? = some f → ∀ u own' w' b, RL P [] own' w' b (asAV (encX agg sz f)) u → RF own w0 (enc x) u := by
    obtain ⟨k, o, q1, q2, q3, q4⟩ := hlb
    obtain ⟨s, e1, e2⟩ := q4 0 _ rfl
    obtain ⟨fs, h1, h2, h3⟩ := exact_list (P := P) hfit hagg hsz e2
    refine ⟨fs, h1, ⟨k, o, q1, q2, q3, fun j y hy => ?_⟩, h3⟩
    cases j with
    | zero => cases hy; exact ⟨s, e1, h2⟩
    | succ j => simp [FV.cells] at hy
  obtain ⟨yv, hyv⟩ : ∃ yv, yv = Value.func (.yield lp) #[] #[] := ⟨_, rfl⟩
  rw [← hyv]
  have hU : ∀ k, (k < w0.heap.size ∧ (own k = none ∨ ∃ o, own k = some (.al o))) → k < w0.heap.size := fun k h => h.1
  have hyc : yv.oneCell' = true := by rw [hyv]; rfl
  have base : ∀ (a : Act) (w : World) (i : Int), a.tmps.size = 19 → a.tmps[0]? = some yv → a.tmps[1]? = some lb → a.tmps[3]? = some (.int .i64 i) → KU (fun k => k < w0.heap.size ∧ (own k = none ∨ ∃ o, own k = some (.al o))) w0 w →
      St P c.nt [(1, .f (.pv yv)), (4, .fp (.sl (fs.map (encX agg sz))) 0), (10, .f (.pv (.int .i64 i)))] no a w := by
    intro a w i hs h0 h1 h2 hk
    refine ⟨hs.trans hn19.symm, fun t v e => ?_, fun b v hb e => ?_, fun k k' o h => (nomatch h), fun k o h => (nomatch h)⟩
    · simp only [get] at e
      split at e
      · rename_i ht; cases e
        have : t = 0 := by simp only [tb] at ht; omega
        subst this; exact ⟨yv, h0, ⟨rfl, .pv _ hyc⟩⟩
      · split at e
        · rename_i ht; cases e
          have : t = 1 := by simp only [tb] at ht; omega
          subst this; exact ⟨lb, h1, fp_no (RC.fp_mono (hk.tr hlt0) hfb)⟩
        · split at e
          · rename_i ht; cases e
            have : t = 3 := by simp only [tb] at ht; omega
            subst this; exact ⟨_, h2, ⟨rfl, .pv _ rfl⟩⟩
          · cases e
    · simp only [get] at e
      split at e
      · rename_i ht; omega
      · split at e
        · rename_i ht; omega
        · split at e
          · rename_i ht; omega
          · cases e
  refine callsIn_of_wp_marks hf hb (hF.fn _) ?_ hro
  have hpost : ∀ (a : Act) (w : World), a.defers = [] → J xs.length w → LeavesInM F n P fn a.tmps (fun e W' => (∃ v, e = .returned v) ∧ J xs.length W') a.defers .returning w := by
    intro a w hd hJ
    rw [hd]
    exact ⟨.tuple #[], by simp [results, hres, go_sem], ⟨_, rfl⟩, hJ⟩
  have s0 : St P c.nt [(1, .f (.pv yv)), (4, .fp (.sl (fs.map (encX agg sz))) 0)] no { tmps := (#[yv] ++ #[lb]) ++ Array.replicate (fn.ntmps - (#[yv] ++ #[lb]).size) undef, defers := [] } W := by
    refine ⟨by simp [hn19, hnt2], fun t v e => ?_, fun b v hb e => ?_, fun k k' o h => (nomatch h), fun k o h => (nomatch h)⟩
    · simp only [get] at e
      split at e
      · rename_i ht; cases e
        have : t = 0 := by simp only [tb] at ht; omega
        subst this; exact ⟨yv, (Array.getElem?_append_left (by simp)).trans rfl, ⟨rfl, .pv _ hyc⟩⟩
      · split at e
        · rename_i ht; cases e
          have : t = 1 := by simp only [tb] at ht; omega
          subst this; exact ⟨lb, (Array.getElem?_append_left (by simp)).trans rfl, fp_no (RC.fp_mono (hku.tr hlt0) hfb)⟩
        · cases e
    · simp only [get] at e
      split at e
      · rename_i ht; omega
      · split at e
        · rename_i ht; omega
        · cases e
  refine wpIn_seq ?_
  obtain ⟨logA, GA, eA, gA⟩ := kA yv fs
  refine regX hc hF eA trivial dA s0 ?_
  intro ownA aA wA sA tA dfA q0 q1
  have q0 : aA.tmps[0]? = some yv := by rw [q0]; exact (Array.getElem?_append_left (by simp)).trans rfl
  have q1 : aA.tmps[1]? = some lb := by rw [q1]; exact (Array.getElem?_append_left (by simp)).trans rfl
  have q3 := temp_pv (t := 3) sA gA
  have hlen : (fs.map (encX agg sz)).length = xs.length := by rw [List.length_map, hfl]
  rw [hlen, wrap64 (by omega) (by omega)] at q3
  show (Code.block 0 _).wpIn _ _ _ _ _ _
  refine wpIn_block ?_
  let U : Nat → Prop := fun k => k < w0.heap.size ∧ (own k = none ∨ ∃ o, own k = some (.al o))
  let Inv : Act → World → Prop := fun a w => ∃ i : Nat, i ≤ xs.length ∧ J i w ∧ KU U w0 w ∧ a.tmps.size = 19 ∧ a.tmps[0]? = some yv ∧ a.tmps[1]? = some lb ∧ a.tmps[3]? = some (.int .i64 ((xs.length : Int) - 1 - i)) ∧ a.defers = []
  refine wpIn_loop Inv (fun a _ => nu3 a) ⟨0, Nat.zero_le _, hst _ _ _ hJ (tr_no tA), (tr_no tA).ku hku hU, by rw [sA.size, hn19], q0, q1, by rw [q3]; simp, dfA⟩ ?_
  rintro a1 w1 ⟨i, hi, hJ1, hk1, z1, z2, z3, z4, z5⟩
  have hν1 : nu3 a1 = xs.length - i := by
    unfold nu3; rw [z4]; dsimp only; omega
  refine wpIn_seq (wpIn_seq ?_)
  obtain ⟨logB, GB, eB, gB, gB2⟩ := kB yv fs ((xs.length : Int) - 1 - i)
  refine regX hc hF eB trivial dB (base a1 w1 _ z1 z2 z3 z4 hk1) ?_
  intro ownB aB wB sB tB dfB p0 p1
  have p3 := temp_pv (t := 3) sB gB
  have p8 := temp_pv (t := 8) sB gB2
  have hJB := hst _ _ _ hJ1 (tr_no tB)
  have hkB := (tr_no tB).ku hk1 hU
  have zB : aB.tmps.size = 19 := by rw [sB.size, hn19]
  refine wpIn_cond (show aB.eval (.tmp 8) = .bool (decide ((xs.length : Int) - 1 - i ≥ 0)) from getD_of p8) ?_
  rcases Nat.lt_or_ge i xs.length with hlt | hlt'
  case' inr =>
    have hge : decide ((xs.length : Int) - 1 - i ≥ 0) = false := by simp; omega
    rw [hge]
    refine wpIn_exit ?_
    have hie : i = xs.length := by omega
    subst hie
    exact hpost aB wB (dfB.trans z5) hJB
  have hge : decide ((xs.length : Int) - 1 - i ≥ 0) = true := by simp; omega
  rw [hge]
  refine wpIn_skip ?_
  show (Code.seq _ _).wpIn _ _ _ _ _ _
  refine wpIn_seq (wpIn_block (wpIn_seq ?_))
  obtain ⟨x, hx⟩ : ∃ x, xs[xs.length - 1 - i]? = some x := ⟨xs[xs.length - 1 - i]'(by omega), by simp⟩
  obtain ⟨f, hf'⟩ : ∃ f, fs[xs.length - 1 - i]? = some f := ⟨fs[xs.length - 1 - i]'(by omega), by simp⟩
  obtain ⟨log3, G3, e3, g3, g34, g37, g49⟩ := k3 yv fs ((xs.length : Int) - 1 - i) f
  have hidx : ((xs.length : Int) - 1 - i).toNat = xs.length - 1 - i := by omega
  have hget : (fs.map (encX agg sz))[((xs.length : Int) - 1 - i).toNat]? = some (encX agg sz f) := by rw [hidx, List.getElem?_map, hf']; rfl
  have hdd : ∀ (i : Nat) o, o3[i]? = some o → o.dst ≠ some 0 ∧ o.dst ≠ some 1 := fun i o h => by
    have := List.all_eq_true.1 d3 o (by rw [← Array.getElem?_toList] at h; exact List.mem_of_getElem? h)
    simpa using this
  refine wpIn_region (wpOps_keep (t := 0) _ (fun i _ o h => (hdd i o h).1) (wpOps_keep (t := 1) _ (fun i _ o h => (hdd i o h).2) ?_))
  refine wpOps_pre hc hF (pre := pre) (rest := [oc, on]) h3 e3 ⟨by omega, hget, trivial⟩ (base aB wB _ zB (p0.trans z2) (p1.trans z3) p3 hkB) ?_
  intro own3 a3 w3 s3 t3 df3
  have r3 := temp_pv (t := 3) s3 g3
  have r11 := temp_pv (t := 11) s3 g34
  have r12 := temp_pv (t := 12) s3 g37
  obtain ⟨u16, r16, hr16⟩ := s3.temps 16 _ g49
  have hJ3 := hst _ _ _ hJB (tr_no t3)
  have hk3 := (tr_no t3).ku hkB hU
  show wpOpsIn F n P o3 _ (pre.length :: (pre.length + 1) :: []) a3 w3
  have hocI : o3[pre.length]? = some oc := by
    rw [← Array.getElem?_toList, h3, List.getElem?_append_right (Nat.le_refl _)]; simp
  unfold wpOpsIn
  rw [hocI]
  dsimp only
  rw [if_pos (by simp [Region.wanted, hocg])]
  have hv11 : a3.eval (.tmp 11) = .func (.yield lp) #[] #[] := by rw [← hyv]; show a3.tmps.getD 11 _ = _; exact getD_of r11
  refine wpIn_of hF.fn (by simp [hoc]) ?_
  have hargs : (#[Operand.tmp 12, Operand.tmp 16] : Array Operand).map a3.eval = #[.int .i64 ((xs.length : Int) - 1 - i), u16] := by
    have e1 : a3.eval (.tmp 12) = .int .i64 ((xs.length : Int) - 1 - i) := by show a3.tmps.getD 12 _ = _; exact getD_of r12
    have e2 : a3.eval (.tmp 16) = u16 := by show a3.tmps.getD 16 _ = _; exact getD_of r16
    simp [e1, e2]
  rw [run_callY hoc hv11, hargs]
  have hok : okBack own w0 (xs.map enc) i #[.int .i64 ((xs.length : Int) - 1 - i), u16] :=
    ⟨enc x, u16, by rw [List.length_map, List.getElem?_map, hx]; rfl, by rw [List.length_map], hfx _ x f hx hf' u16 own3 w3 (tb 16) (rl_sub (fun b v e => by simp [get] at e) hr16)⟩
  obtain ⟨fn', tmps', as', bd', hrun, hround⟩ := hyield (n - 1) i _ w3 hJ3 hlt hok hk3
  rw [hrun, Oper.uponIn_round]
  refine ⟨fun e => (by rw [hF.deep] at e; cases e), hround.mono ?_⟩
  rintro e w4 ⟨rfl, hJ4, hk4⟩
  dsimp only
  rw [hocd]
  have s4 : St P c.nt [(52, .f (.pv (.bool true)))] no (a3.put (some 17) (.bool true)) w4 := by
    have s00 : St P c.nt [] no a3 w4 := ⟨s3.size, fun t v e => (by cases e), fun b v hb e => (by cases e), fun k k' o h => (nomatch h), fun k o h => (nomatch h)⟩
    exact s00.set_pure (t := 17) (by omega) ⟨rfl, .pv _ rfl⟩
  obtain ⟨logN, GN, eN, gN⟩ := kN
  have honI : o3[pre.length + 1]? = some on := by
    rw [← Array.getElem?_toList, h3, List.getElem?_append_right (by omega)]; simp
  refine wpOps_keep (t := 3) _ (fun i hi o h => ?_) ?_
  · simp only [List.mem_singleton] at hi
    subst hi
    rw [honI] at h; cases h
    exact hond
  obtain ⟨es, x1, x2, _⟩ := evOps_pre (P := P) (c := c) (obs := []) [on] (p := pre ++ [oc]) (rest := []) (by rw [h3]; simp) (by rw [List.length_append]; exact eN) trivial
  have hes : [pre.length + 1] = es.map (·.i) ++ [] := by rw [x1, List.length_append]; rfl
  rw [hes]
  refine runs_pre hc.cfg hc.ip (fun _ _ _ _ _ h => h) hF _ es s4 x2 ?_
  intro own5 a5 w5 s5 t5 df5 c3 c1 c0
  have y0 : a5.tmps[0]? = some yv := (c0 rfl).trans (p0.trans z2)
  have y1 : a5.tmps[1]? = some lb := (c1 rfl).trans (p1.trans z3)
  have y3 : a5.tmps[3]? = some (.int .i64 ((xs.length : Int) - 1 - i)) := (c3 rfl).trans ((put_ne (by simp)).trans r3)
  have yd : a5.defers = [] := df5.trans (df3.trans (dfB.trans z5))
  have hJ5 := hst _ _ _ hJ4 (tr_no t5)
  have hk5 := (tr_no t5).ku hk4 hU
  refine wpIn_cond (show a5.eval (.tmp 18) = .bool false from getD_of (temp_pv (t := 18) s5 gN)) ?_
  refine wpIn_skip ?_
  obtain ⟨logD, GD, eD, gD⟩ := kD yv fs ((xs.length : Int) - 1 - i)
  refine regX hc hF eD trivial dD (base a5 w5 _ (by rw [s5.size, hn19]) y0 y1 y3 hk5) ?_
  intro own6 a6 w6 s6 t6 df6 v0 v1
  have v3 := temp_pv (t := 3) s6 gD
  rw [wrap64 (by omega) (by omega)] at v3
  have v3' : a6.tmps[3]? = some (.int .i64 ((xs.length : Int) - 1 - ((i + 1 : Nat) : Int))) := by rw [v3]; congr 2; omega
  refine ⟨⟨i + 1, hlt, hst _ _ _ hJ5 (tr_no t6), (tr_no t6).ku hk5 hU, by rw [s6.size, hn19], v0.trans y0, v1.trans y1, v3', df6.trans yd⟩, ?_⟩
  rw [hν1]
  unfold nu3; rw [v3']; dsimp only; omega
end
end Go.Ev

set_option linter.unusedVariables false
set_option linter.unusedSimpArgs false
namespace Go.Ev
open Go Go.RowKit
variable {P : Program}
def fpzC (b : Nat) (x : FV) : AV → AV
  | .ptr c o => if c = b then .fp x o else .ptr c o
  | v => v
def fpz0 (b : Nat) (x : FV) : AV → AV
  | .ptr c o => if c = b then .fp x o else .ptr c o
  | .clo g caps => .clo g (caps.map (fpzC b x))
  | .rf _ _ _ _ => .bad
  | .ep _ _ _ _ => .bad
  | v => v
def fpz1 (b : Nat) (x : FV) : AV → AV
  | .agg l => .agg (l.map (fpz0 b x))
  | v => fpz0 b x v
def fpz2 (b : Nat) (x : FV) : AV → AV
  | .tup l => .tup (l.map (fpz1 b x))
  | .agg l => .agg (l.map (fpz0 b x))
  | v => fpz0 b x v
def ownX (own : Own) (b : Nat) : Own := fun k => if own k = some (.box b) then none else own k
def fpzS (b : Nat) (x : FV) : Sta → Sta
  | [] => []
  | (c, v) :: r => if c = b then fpzS b x r else (c, fpz2 b x v) :: fpzS b x r
theorem get_fpzS {b c : Nat} {x : FV} : ∀ {G : Sta}, get (fpzS b x G) c = if c = b then none else (get G c).map (fpz2 b x)
  | [] => by simp [fpzS, get]
  | (d, v) :: r => by
    have ih := get_fpzS (b := b) (c := c) (x := x) (G := r)
    simp only [fpzS]
    by_cases hd : d = b
    · rw [if_pos hd, ih]
      by_cases hc : c = b
      · rw [if_pos hc, if_pos hc]
      · rw [if_neg hc, if_neg hc]; simp only [get]; rw [if_neg (fun e => hc (e.trans hd))]
    · rw [if_neg hd]
      simp only [get]
      by_cases hc : c = d
      · subst hc; simp [hd]
      · rw [if_neg hc, ih, if_neg hc]
def toFV : AV → Option FV
  | .agg l => (fLeaves l).map .agg
  | .f x => if x.one = true then some x else none
  | _ => none
theorem fLeaves_spec : ∀ {l : List AV} {m : List FV}, fLeaves l = some m → l = m.map .f ∧ ∀ y ∈ m, y.one = true
  | [], m, h => by simp [fLeaves] at h; subst h; exact ⟨rfl, fun y h => by simp at h⟩
  | v :: r, m, h => by
    unfold fLeaves at h
    split at h
    · rename_i x l h1 h2
      simp only [Option.some.injEq] at h; subst h
      obtain ⟨e1, e2⟩ := fLeaves_spec h2
      have : v = .f x ∧ x.one = true := by
        unfold AV.leafF at h1
        split at h1
        · split at h1
          · rename_i hx; cases h1; exact ⟨rfl, hx⟩
          · cases h1
        · cases h1
      refine ⟨by rw [this.1, e1]; rfl, fun y hy => ?_⟩
      rcases List.mem_cons.1 hy with rfl | hy
      · exact this.2
      · exact e2 y hy
    · cases h
theorem toFV_leaves {v : AV} {x : FV} (h : toFV v = some x) : v.leaves = x.cells.map .f := by
  unfold toFV at h
  split at h
  · rename_i l
    simp only [Option.map_eq_some_iff] at h
    obtain ⟨m, h1, rfl⟩ := h
    exact (fLeaves_spec h1).1
  · rename_i y
    split at h
    · rename_i hy; cases h
      cases x with
      | agg l => simp [FV.one] at hy
      | _ => rfl
    · cases h
  · cases h
section
variable {nt b : Nat} {x : FV} {G : Sta} {own : Own} {a : Act} {w : World}
theorem Wk.fpz {v : AV} (hb : b % 3 = 2) (hg : get G b = some v) (hx : toFV v = some x) : Wk P nt G (fpzS b x G) := by
  intro own a w s
  obtain ⟨k0, arr, T, e1, e2, e3⟩ := s.boxes b v (by omega) hg
  have hn : ∀ k, own k = none → ownX own b k = none := fun k h => by simp [ownX, h]
  have hk0 : ownX own b k0 = none := by simp [ownX, e1]
  have hklt : k0 < w.heap.size := s.lt _ _ e1
  have hbb : ∀ {k c}, c ≠ b → own k = some (.box c) → ownX own b k = some (.box c) := fun {k c} hc h => by
    simp only [ownX]; rw [if_neg (by rw [h]; simp [hc])]; exact h
  have hss : ∀ {k c o}, own k = some (.sl c o) → ownX own b k = some (.sl c o) := fun {k c o} h => by
    simp only [ownX]; rw [if_neg (by rw [h]; simp)]; exact h
  have hlv := toFV_leaves hx
  have hfp : ∀ o u, RC own w (.ptr b o) u → RC (ownX own b) w (.fp x o) u := by
    rintro o u ⟨k, h1, rfl⟩
    have : k = k0 := s.one _ _ _ h1 e1
    subst this
    refine ⟨k, 0, by simp, hk0, hklt, fun j y hy => ?_⟩
    have hl : v.leaves[j]? = some (.f y) := by rw [hlv, List.getElem?_map, hy]; rfl
    have hj : j < arr.size := by rw [← e3.1]; exact (List.getElem?_eq_some_iff.1 hl).1
    have hr := e3.2 j (.f y) arr[j] hl (by simp [hj])
    refine ⟨arr[j], ?_, (show RC own w (.f y) arr[j] from hr).2.mono0 hn⟩
    simp [World.cell?, e2, hj]
  have hC : ∀ v u, RC own w v u → RC (ownX own b) w (fpzC b x v) u := by
    intro v u h
    cases v with
    | ptr c o =>
      simp only [fpzC]
      split
      · rename_i e; subst e; exact hfp o u h
      · rename_i e; obtain ⟨k, h1, h2⟩ := h; exact ⟨k, hbb e h1, h2⟩
    | f y => exact ⟨h.1, h.2.mono0 hn⟩
    | fp y o => obtain ⟨k, q, h1, h2, h3, h4⟩ := h; exact ⟨k, q, h1, hn _ h2, h3, fun j z hz => let ⟨t, q1, q2⟩ := h4 j z hz; ⟨t, q1, q2.mono0 hn⟩⟩
    | bad => trivial
    | _ => exact h.elim
  have h0 : ∀ {v u}, R0 P G own w v u → R0 P (fpzS b x G) (ownX own b) w (fpz0 b x v) u := by
    intro v u h
    cases v with
    | clo g caps =>
      obtain ⟨ar, h1, h2, h3⟩ := h
      refine ⟨ar, h1, by simpa using h2, fun j y z q1 q2 => ?_⟩
      rw [List.getElem?_map] at q1
      cases hj : caps[j]? with
      | none => rw [hj] at q1; cases q1
      | some t => rw [hj] at q1; cases q1; exact hC _ _ (h3 j t z hj q2)
    | rf c o i n => trivial
    | ep c o i n => trivial
    | ptr c o =>
      have := hC (.ptr c o) u h
      simp only [fpz0, fpzC] at this ⊢
      split
      · rename_i e; rw [if_pos e] at this; exact this
      · rename_i e; rw [if_neg e] at this; exact this
    | f y => exact hC (.f y) u h
    | fp y o => exact hC (.fp y o) u h
    | bad => trivial
    | _ => exact h.elim
  have hO : ∀ {c j v u}, c ≠ b → RO P G own w c j v u → RO P (fpzS b x G) (ownX own b) w c j (fpz0 b x v) u := by
    intro c j v u hc h
    cases v with
    | own E l =>
      obtain ⟨ad, cp, h1, h2, h3⟩ := h
      refine ⟨ad, cp, h1, h2, h3.imp id ?_⟩
      rintro ⟨k, q1, q2, arr', q3, q4, q5, q6⟩
      exact ⟨k, q1, hss q2, arr', q3, q4, q5, fun i y j z z1 z2 => let ⟨t, t1, t2⟩ := q6 i y j z z1 z2; ⟨t, t1, t2.mono0 hn⟩⟩
    | _ =>
      all_goals
        rw [ro_r0 (by simp)] at h
        have h' := h0 h
        rw [ro_r0]; exact h'
        intro E l e; simp only [fpz0] at e; first | (split at e <;> cases e) | cases e
  have h1 : ∀ {v u}, R1 P G own w v u → R1 P (fpzS b x G) (ownX own b) w (fpz1 b x v) u := by
    intro v u h
    have key : ∀ v, (∀ l, v ≠ .agg l) → R1 P G own w v u → R1 P (fpzS b x G) (ownX own b) w (fpz0 b x v) u := by
      intro v hv h
      rw [r1_r0 hv] at h
      have h' := h0 h
      rw [r1_r0]; exact h'
      intro l e
      cases v <;> simp only [fpz0] at e <;> first | exact hv _ rfl | (split at e <;> cases e) | cases e
    cases v with
    | agg l =>
      obtain ⟨ar, z1, z2, z3⟩ := h
      refine ⟨ar, z1, by simpa using z2, fun j y z q1 q2 => ?_⟩
      rw [List.getElem?_map] at q1
      cases hj : l[j]? with
      | none => rw [hj] at q1; cases q1
      | some t => rw [hj] at q1; cases q1; exact h0 (z3 j t z hj q2)
    | _ => exact key _ (by simp) h
  have hL : ∀ {c v u}, c ≠ b → RL P G own w c v u → RL P (fpzS b x G) (ownX own b) w c (fpz2 b x v) u := by
    intro c v u hc h
    cases v with
    | agg l =>
      obtain ⟨ar, z1, z2, z3⟩ := h
      refine ⟨ar, z1, by simpa using z2, fun j y z q1 q2 => ?_⟩
      rw [List.getElem?_map] at q1
      cases hj : l[j]? with
      | none => rw [hj] at q1; cases q1
      | some t => rw [hj] at q1; cases q1; exact hO hc (z3 j t z hj q2)
    | tup l =>
      obtain ⟨ar, z1, z2, z3⟩ := h
      refine ⟨ar, z1, by simpa using z2, fun j y z q1 q2 => ?_⟩
      rw [List.getElem?_map] at q1
      cases hj : l[j]? with
      | none => rw [hj] at q1; cases q1
      | some t => rw [hj] at q1; cases q1; exact h1 (z3 j t z hj q2)
    | bad => exact hO (j := 0) (u := u) (v := .bad) hc h
    | ptr d o =>
      have := hO (j := 0) (u := u) (v := .ptr d o) hc h
      simp only [fpz0, fpz2] at this ⊢
      split
      · rename_i e; rw [if_pos e] at this; exact this
      · rename_i e; rw [if_neg e] at this; exact this
    | f y => exact hO (j := 0) (u := u) (v := .f y) hc h
    | fp y o => exact hO (j := 0) (u := u) (v := .fp y o) hc h
    | ep q1 q2 q3 q4 => exact hO (j := 0) (u := u) (v := .ep q1 q2 q3 q4) hc h
    | rf q1 q2 q3 q4 => exact hO (j := 0) (u := u) (v := .rf q1 q2 q3 q4) hc h
    | own E l => exact hO (j := 0) (u := u) (v := .own E l) hc h
    | clo g caps => exact hO (j := 0) (u := u) (v := .clo g caps) hc h
  have hleaves : ∀ v : AV, (fpz2 b x v).leaves.length = v.leaves.length ∧ (∀ (j : Nat) y, (fpz2 b x v).leaves[j]? = some y → (∃ z, v.leaves[j]? = some z ∧ y = fpz0 b x z) ∨ ∃ l, v = .tup l) := by
    intro v
    have key : ∀ v, fpz2 b x v = fpz0 b x v → (∀ l, v ≠ .agg l) → (fpz2 b x v).leaves.length = v.leaves.length ∧ (∀ (j : Nat) y, (fpz2 b x v).leaves[j]? = some y → (∃ z, v.leaves[j]? = some z ∧ y = fpz0 b x z) ∨ ∃ l, v = .tup l) := by
      intro v e hv
      have l1 : v.leaves = [v] := by cases v <;> first | rfl | exact absurd rfl (hv _)
      have l2 : (fpz0 b x v).leaves = [fpz0 b x v] := by
        cases v <;> simp only [fpz0] <;> first | rfl | exact absurd rfl (hv _) | (split <;> rfl)
      rw [e, l1, l2]
      refine ⟨rfl, fun j y h => .inl ?_⟩
      cases j with
      | zero => simp at h; exact ⟨v, rfl, h.symm⟩
      | succ j => simp at h
    cases v with
    | agg l =>
      refine ⟨by simp [fpz2, AV.leaves], fun j y h => .inl ?_⟩
      simp only [fpz2, AV.leaves, List.getElem?_map] at h ⊢
      cases hj : l[j]? with
      | none => rw [hj] at h; cases h
      | some z => rw [hj] at h; cases h; exact ⟨z, rfl, rfl⟩
    | tup l => exact ⟨rfl, fun j y h => .inr ⟨l, rfl⟩⟩
    | _ => exact key _ rfl (by simp)
  refine ⟨ownX own b, ⟨s.size, fun t v' e => ?_, fun c v' hc e => ?_, fun k k' o q1 q2 => ?_, fun k o q => ?_⟩, ⟨Nat.le_refl _, fun k hk h => ⟨hn k h, rfl⟩, rfl, rfl, rfl, fun k o h => ⟨?_, rfl⟩, fun k c hc h => ?_⟩⟩
  · rw [get_fpzS] at e
    split at e
    · cases e
    · rename_i hne
      cases hq : get G (tb t) with
      | none => rw [hq] at e; cases e
      | some z => rw [hq] at e; cases e; obtain ⟨u, u1, u2⟩ := s.temps t z hq; exact ⟨u, u1, hL hne u2⟩
  · rw [get_fpzS] at e
    split at e
    · cases e
    · rename_i hne
      cases hq : get G c with
      | none => rw [hq] at e; cases e
      | some z =>
        rw [hq] at e; cases e
        obtain ⟨k, ar, TT, z1, z2, z3⟩ := s.boxes c z hc hq
        obtain ⟨l1, l2⟩ := hleaves z
        refine ⟨k, ar, TT, hbb hne z1, z2, by rw [l1]; exact z3.1, fun j y u q1 q2 => ?_⟩
        rcases l2 j y q1 with ⟨y', q3, rfl⟩ | ⟨l, rfl⟩
        · exact hO hne (z3.2 j y' u q3 q2)
        · exfalso
          have hj : j = 0 := by
            have := (List.getElem?_eq_some_iff.1 q1).1
            simp [fpz2, AV.leaves] at this; exact this
          subst hj
          exact z3.2 0 (.tup l) u rfl q2
  · have g : ∀ {k o}, ownX own b k = some o → own k = some o := fun {k o} h => by simp only [ownX] at h; split at h; cases h; exact h
    exact s.one _ _ _ (g q1) (g q2)
  · have g : ∀ {k o}, ownX own b k = some o → own k = some o := fun {k o} h => by simp only [ownX] at h; split at h; cases h; exact h
    exact s.lt _ _ (g q)
  · simp only [ownX]; rw [if_neg (by rw [h]; simp)]; exact h
  · simp only [ownX]; rw [if_neg (by rw [h]; simp; omega)]; exact h
end
end Go.Ev

set_option linter.unusedVariables false
set_option linter.unusedSimpArgs false
namespace Go.Ev
open Go Go.RowKit
variable {P : Program}
def pickS : List Nat → Sta → Sta
  | [], _ => []
  | b :: r, G => match get G b with
    | some v => (b, v) :: pickS r G
    | none => pickS r G
theorem get_pickS {b : Nat} {v : AV} {G : Sta} : ∀ {l : List Nat}, get (pickS l G) b = some v → get G b = some v
  | [], h => by cases h
  | c :: r, h => by
    unfold pickS at h
    split at h
    · rename_i x hx
      simp only [get] at h
      split at h
      · rename_i e; cases h; rw [e]; exact hx
      · exact get_pickS h
    · exact get_pickS h
theorem Wk.pick {nt : Nat} {G G' : Sta} (l : List Nat) (h : pickS l G = G') : Wk P nt G G' := by
  subst h
  exact fun own a w s => ⟨own, s.sub (fun b v e => get_pickS e), Tr.refl _ _⟩
theorem rndE {c : Cfg} {bs : List Nat} {J : List AV → Prop} {G G' : Sta} {cs' : List AV} (hw : Wk P c.nt G G') (h1 : evOuts bs.length 0 G' = some (cs'.map (ren1 (toOut bs)))) (h2 : J cs') :
    rndK P c bs J .normal G := ⟨G', cs', hw, h1, h2⟩
end Go.Ev

set_option linter.unusedVariables false
set_option linter.unusedSimpArgs false
namespace Go.Ev
open Go Go.RowKit
variable {P : Program}
def insS (b : Nat) (v : AV) : Sta → Sta
  | [] => [(b, v)]
  | (a, x) :: m => match Nat.blt b a with
    | true => (b, v) :: (a, x) :: m
    | false => match Nat.beq b a with
      | true => (b, v) :: m
      | false => (a, x) :: insS b v m
def inss : Sta → Sta → Sta
  | [], G => G
  | (b, v) :: r, G => inss r (insS b v G)
def edt (dr : List Nat) (ch : Sta) (G : Sta) : Sta := inss ch (dropN (fun b => dr.contains b) G)
def keysOf : Sta → List Nat
  | [] => []
  | (b, _) :: r => b :: keysOf r
section
variable {c : Cfg} {G G' : Sta} {K : Ex → Sta → Prop} {x : Code}
theorem sD (hc : COk P c) (q : List Ora) (dr : List Nat) (ch : Sta) {obs : List Prop} (ho : AllP obs) (hk : Sem P c (sq2 x) (edt dr ch G) K) (e : x = .seq (sq1 x) (sq2 x) := by kernel_rfl)
    (h : evReg P c (sq1 x) q [] (keysOf (edt dr ch G)) G = some (obs, edt dr ch G) := by kernel_rfl) : Sem P c x G K := Sem.seqR hc e h ho hk
theorem rD (hc : COk P c) (q : List Ora) (dr : List Nat) (ch : Sta) {obs : List Prop} (ho : AllP obs) (hk : K .normal (edt dr ch G))
    (h : evReg P c x q [] (keysOf (edt dr ch G)) G = some (obs, edt dr ch G) := by kernel_rfl) : Sem P c x G K := Sem.region hc h ho hk
theorem wkD (dr : List Nat) (k : Sem P c x (edt dr [] G) K) : Sem P c x G K := Sem.weak (Wk.drop _) k
theorem cD {t : Nat} {b : Bool} (h1 : b = true → Sem P c (sq1 x) G K) (h2 : b = false → Sem P c (sq2 x) G K) (e : x = .cond (.tmp t) (sq1 x) (sq2 x) := by kernel_rfl) (hg : get G (tb t) = some (.f (.pv (.bool b))) := by kernel_rfl) : Sem P c x G K := Sem.cond' e hg h1 h2
theorem qD (h : Sem P c (sq1 x) G (seqK K fun G' => Sem P c (sq2 x) G' K)) (e : x = .seq (sq1 x) (sq2 x) := by kernel_rfl) : Sem P c x G K := Sem.seq' e h
theorem xD {i : Nat} (h : K (.exit i) G) (e : x = .exit i := by kernel_rfl) : Sem P c x G K := Sem.exit' e Wk.refl h
theorem tD (h : K .ret G) (e : x = .ret := by kernel_rfl) : Sem P c x G K := Sem.ret' e Wk.refl h
theorem bD {id : Nat} (h : Sem P c (sq1 x) G (blockK id K)) (e : x = .block id (sq1 x) := by kernel_rfl) : Sem P c x G K := Sem.block' e h
theorem jD {nt : Nat} {σ : Type} {J : σ → Prop} {st : σ → Sta} (s : σ) (fz : List (Nat × Nat)) (h : J s) (hw : Ev.tidy fz (keysOf (st s)) G = st s := by kernel_rfl) : ∃ s, Wk P nt G (st s) ∧ J s := ⟨s, Wk.eq hw, h⟩
theorem lD {nt : Nat} {σ : Type} {Inv : σ → Prop} {st : σ → Sta} {μ : σ → Nat} {s0 : σ} (s : σ) (fz : List (Nat × Nat)) (h : Inv s ∧ μ s < μ s0) (hw : Ev.tidy fz (keysOf (st s)) G = st s := by kernel_rfl) : ∃ s', Wk P nt G (st s') ∧ Inv s' ∧ μ s' < μ s0 := ⟨s, Wk.eq hw, h⟩
theorem loD {σ : Type} (st : σ → Sta) (Inv : σ → Prop) (μ : σ → Nat) (s0 : σ) (fz : List (Nat × Nat)) (hI : Inv s0)
    (step : ∀ s, Inv s → Sem P c (sq1 x) (st s) (seqK K fun G' => ∃ s', Wk P c.nt G' (st s') ∧ Inv s' ∧ μ s' < μ s)) (e : x = .loop (sq1 x) := by kernel_rfl) (h0 : Ev.tidy fz (keysOf (st s0)) G = st s0 := by kernel_rfl) : Sem P c x G K := Sem.loop' e st Inv μ s0 (Wk.eq h0) hI step
theorem sjD {σ : Type} (J : σ → Prop) (st : σ → Sta) (h2 : ∀ s, J s → Sem P c (sq2 x) (st s) K)
    (h1 : Sem P c (sq1 x) G (seqK K fun G' => ∃ s, Wk P c.nt G' (st s) ∧ J s)) (e : x = .seq (sq1 x) (sq2 x) := by kernel_rfl) : Sem P c x G K := Sem.seqJ J st e h2 h1
end
theorem fD {c : Cfg} {fn : Func} {x : Code} {g : FuncId} {args outs outs' : List AV} {r : AV} (hc : COk P c) (hf : P.funcs[g]? = some fn)
    (h : Sem P c x (entryF 64 0 args outs) fun e G => ∃ G', Wk P c.nt G G' ∧ endK (CallE P) c fn.results.toList outs.length (fun r' o' => r' = r ∧ o' = outs') e G')
    (hnm : (fn.name == "runtime.NumGoroutine") = false := by rfl) (hb : fn.body = some x := by rfl) (hnt : c.nt = fn.ntmps := by rfl) (hlen : args.length ≤ fn.ntmps := by exact Nat.le_of_ble_eq_true rfl) (ha : args.all (shut1 false fun _ => true) = true := by rfl) (ho : outs.all (shut1 true fun _ => true) = true := by rfl)
    (hl2 : args.length + outs.length ≤ 64 := by exact Nat.le_of_ble_eq_true rfl) : CallE P g args outs r outs' := callE_semW hc hf hnm hb hnt hlen ha ho hl2 h
theorem gtt {b : Bool} (h : b = true) : (b == true) = true := by rw [h]; rfl
theorem gtf {b : Bool} (h : b = false) : (b == true) = false := by rw [h]; rfl
theorem gft {b : Bool} (h : b = false) : (b == false) = true := by rw [h]; rfl
theorem gff {b : Bool} (h : b = true) : (b == false) = false := by rw [h]; rfl
theorem sM {c : Cfg} {G : Sta} {K : Ex → Sta → Prop} {x : Code} (dr : List Nat) (ch : Sta) (h : Sem P c (sq2 x) (edt dr ch G) K) (k : Sem P c (sq2 x) (edt dr ch G) K → Sem P c x G K) : Sem P c x G K := k h
theorem rM {c : Cfg} {G : Sta} {K : Ex → Sta → Prop} {x : Code} (dr : List Nat) (ch : Sta) (h : K .normal (edt dr ch G)) (k : K .normal (edt dr ch G) → Sem P c x G K) : Sem P c x G K := k h
theorem n0 : (∀ (α : Type) (l : List α), l.drop 0 = l) ∧ (∀ (α : Type) (l : List α), l.take l.length = l) := ⟨fun _ _ => rfl, fun _ _ => List.take_length⟩
theorem nm : ((∀ (α β : Type) (f : α → β) (l : List α), (List.map f l).length = l.length) ∧ (∀ (α : Type) (l m : List α), (l ++ m).length = l.length + m.length) ∧ (∀ (α : Type) (a : α) (l : List α), (a :: l).length = l.length + 1) ∧
    (∀ (α : Type), ([] : List α).length = 0) ∧ (∀ (α : Type) (l : List α) (i : Nat) (a : α), (l.set i a).length = l.length) ∧ (∀ (α : Type) (n : Nat) (a : α), (List.replicate n a).length = n) ∧
    (∀ (α : Type) (l : List α), l.drop 0 = l) ∧ (∀ (α : Type) (l : List α), l.take l.length = l) ∧ (∀ (α β : Type) (f : α → β), List.map f [] = []) ∧ (∀ (α β : Type) (f : α → β) (a : α) (l : List α), List.map f (a :: l) = f a :: List.map f l) ∧
    (∀ (α β : Type) (f : α → β) (l m : List α), List.map f (l ++ m) = List.map f l ++ List.map f m) ∧ (∀ (α β : Type) (f : α → β) (l : List α) (i : Nat) (a : α), List.map f (l.set i a) = (List.map f l).set i (f a)) ∧
    (∀ (α β : Type) (f : α → β) (l : List α) (i : Nat), List.map f (l.take i) = (List.map f l).take i) ∧ (∀ (α β : Type) (f : α → β) (l : List α) (i : Nat), List.map f (l.drop i) = (List.map f l).drop i) ∧
    (∀ (α β : Type) (f : α → β) (n : Nat) (a : α), List.map f (List.replicate n a) = List.replicate n (f a)) ∧ (∀ n : Nat, ((n : Int)).toNat = n) ∧ (∀ n : Nat, 0 + n = n) ∧ (∀ (α : Type) (n : Nat) (a : α) (l : List α), (a :: l).take (n + 1) = a :: l.take n) ∧
    (∀ (α : Type) (l : List α), l.take 0 = []) ∧ (∀ (α : Type) (n : Nat), ([] : List α).take n = []) ∧ (∀ n : Nat, n - 0 = n) ∧ (∀ (α : Type) (l : List α), l ++ [] = l) ∧ (∀ (α : Type) (l : List α), [] ++ l = l) ∧
    (∀ (α : Type) (E : TypeId) (enc : α → FV) (l : List α), oL E enc l = .own E (List.map enc l)) ∧ (∀ (α : Type) (enc : α → FV) (l : List α), vL enc l = .f (.sl (List.map enc l))) ∧ (∀ (α : Type) (enc : α → FV) (l : List α), fL enc l = .sl (List.map enc l)) ∧
    (∀ n, vi n = .f (.pv (.int .i64 n))) ∧ (∀ k n, vI k n = .f (.pv (.int k n))) ∧ (∀ b, vB b = .f (.pv (.bool b))) ∧ (∀ b, vS b = .f (.pv (.string b))) ∧ (∀ n, fi n = .pv (.int .i64 n)) ∧ (∀ b, fB b = .pv (.bool b)) ∧ ((0 : Int).toNat = 0) ∧ (∀ (α : Type) (l : List α), l.drop l.length = [])) ∧
    (∀ (α : Type) (a b : α), (if True then a else b) = a) ∧ (∀ (α : Type) (a : α), (a = a) = True) ∧ (∀ p : Prop, (True ∧ p) = p) ∧ (∀ p : Prop, (p ∧ True) = p) ∧ (∀ n : Nat, (n ≤ n) = True) ∧ (∀ n : Nat, (0 ≤ n) = True) ∧ (∀ (α β : Type) (f : α → β) (l : List α), (List.map f l).take l.length = List.map f l) :=
  ⟨nrm, fun _ _ _ => if_pos trivial, fun _ _ => by simp, fun _ => by simp, fun _ => by simp, fun _ => by simp, fun _ => by simp, fun _ _ _ _ => by rw [← List.map_take, List.take_length]⟩
end Go.Ev

set_option linter.unusedSimpArgs false
set_option linter.unusedVariables false
namespace Go.Ev
open Go Go.Proofs
set_option maxRecDepth 8000
def enc_i64 (n : Int) : FV := .pv (.int .i64 n)
theorem fits_i64 (l : List Int) : (List.map enc_i64 l).all (FV.fits 1) = true := by simp [FV.fits, FV.size, FV.cells, FV.one, enc_i64]
def enc_bool (b : Bool) : FV := .pv (.bool b)
theorem fits_bool (l : List Bool) : (List.map enc_bool l).all (FV.fits 1) = true := by simp [FV.fits, FV.size, FV.cells, FV.one, enc_bool]
def enc_u8 (n : Int) : FV := .pv (.int .u8 n)
theorem fits_u8 (l : List Int) : (List.map enc_u8 l).all (FV.fits 1) = true := by simp [FV.fits, FV.size, FV.cells, FV.one, enc_u8]
structure runtime_boundsError where
  x : Int
  y : Int
  signed : Bool
  code : Int
  deriving Inhabited, DecidableEq
def enc_runtime_boundsError (x : runtime_boundsError) : FV := .agg [.pv (.int .i64 x.x), .pv (.int .i64 x.y), .pv (.bool x.signed), .pv (.int .u8 x.code)]
theorem enc_runtime_boundsError_eq (x : runtime_boundsError) : enc_runtime_boundsError x = .agg [.pv (.int .i64 x.x), .pv (.int .i64 x.y), .pv (.bool x.signed), .pv (.int .u8 x.code)] := rfl
abbrev fv_runtime_boundsError (x : runtime_boundsError) : FV := .agg [.pv (.int .i64 x.x), .pv (.int .i64 x.y), .pv (.bool x.signed), .pv (.int .u8 x.code)]
abbrev av_runtime_boundsError (x : runtime_boundsError) : AV := .agg [vI .i64 x.x, vI .i64 x.y, vB x.signed, vI .u8 x.code]
abbrev ao_runtime_boundsError (x : runtime_boundsError) : AV := .agg [vI .i64 x.x, vI .i64 x.y, vB x.signed, vI .u8 x.code]
def enc_string (s : ByteArray) : FV := .pv (.string s)
def enc_u64 (n : Int) : FV := .pv (.int .u64 n)
theorem fits_u64 (l : List Int) : (List.map enc_u64 l).all (FV.fits 1) = true := by simp [FV.fits, FV.size, FV.cells, FV.one, enc_u64]
structure runtime_errorAddressString where
  msg : ByteArray
  addr : Int
  deriving Inhabited, DecidableEq
def enc_runtime_errorAddressString (x : runtime_errorAddressString) : FV := .agg [.pv (.string x.msg), .pv (.int .u64 x.addr)]
theorem enc_runtime_errorAddressString_eq (x : runtime_errorAddressString) : enc_runtime_errorAddressString x = .agg [.pv (.string x.msg), .pv (.int .u64 x.addr)] := rfl
abbrev fv_runtime_errorAddressString (x : runtime_errorAddressString) : FV := .agg [.pv (.string x.msg), .pv (.int .u64 x.addr)]
abbrev av_runtime_errorAddressString (x : runtime_errorAddressString) : AV := .agg [vS x.msg, vI .u64 x.addr]
abbrev ao_runtime_errorAddressString (x : runtime_errorAddressString) : AV := .agg [vS x.msg, vI .u64 x.addr]
def enc_i32 (n : Int) : FV := .pv (.int .i32 n)
structure arr4_uint64 where
  e0 : Int
  e1 : Int
  e2 : Int
  e3 : Int
  deriving Inhabited, DecidableEq
def enc_arr4_uint64 (x : arr4_uint64) : FV := .agg [.pv (.int .u64 x.e0), .pv (.int .u64 x.e1), .pv (.int .u64 x.e2), .pv (.int .u64 x.e3)]
theorem enc_arr4_uint64_eq (x : arr4_uint64) : enc_arr4_uint64 x = .agg [.pv (.int .u64 x.e0), .pv (.int .u64 x.e1), .pv (.int .u64 x.e2), .pv (.int .u64 x.e3)] := rfl
abbrev fv_arr4_uint64 (x : arr4_uint64) : FV := .agg [.pv (.int .u64 x.e0), .pv (.int .u64 x.e1), .pv (.int .u64 x.e2), .pv (.int .u64 x.e3)]
abbrev av_arr4_uint64 (x : arr4_uint64) : AV := .agg [vI .u64 x.e0, vI .u64 x.e1, vI .u64 x.e2, vI .u64 x.e3]
abbrev ao_arr4_uint64 (x : arr4_uint64) : AV := .agg [vI .u64 x.e0, vI .u64 x.e1, vI .u64 x.e2, vI .u64 x.e3]
structure api_Rx where
  Kind : Int
  Set : arr4_uint64
  Lo : Int
  Hi : Int
  Kids : (List api_Rx)
  deriving Inhabited
def enc_api_Rx : api_Rx → FV
  | ⟨a_Kind, a_Set, a_Lo, a_Hi, a_Kids⟩ => .agg [.pv (.int .i64 a_Kind), .pv (.int .u64 a_Set.e0), .pv (.int .u64 a_Set.e1), .pv (.int .u64 a_Set.e2), .pv (.int .u64 a_Set.e3), .pv (.int .i64 a_Lo), .pv (.int .i64 a_Hi), .sl (List.map enc_api_Rx a_Kids)]
theorem enc_api_Rx_eq (x : api_Rx) : enc_api_Rx x = .agg [.pv (.int .i64 x.Kind), .pv (.int .u64 x.Set.e0), .pv (.int .u64 x.Set.e1), .pv (.int .u64 x.Set.e2), .pv (.int .u64 x.Set.e3), .pv (.int .i64 x.Lo), .pv (.int .i64 x.Hi), .sl (List.map enc_api_Rx x.Kids)] := by cases x; rw [enc_api_Rx]
theorem fits_api_Rx (l : List api_Rx) : (List.map enc_api_Rx l).all (FV.fits 8) = true := by simp [FV.fits, FV.size, FV.cells, FV.one, enc_api_Rx_eq]
abbrev fv_api_Rx (x : api_Rx) : FV := .agg [.pv (.int .i64 x.Kind), .pv (.int .u64 x.Set.e0), .pv (.int .u64 x.Set.e1), .pv (.int .u64 x.Set.e2), .pv (.int .u64 x.Set.e3), .pv (.int .i64 x.Lo), .pv (.int .i64 x.Hi), .sl (List.map enc_api_Rx x.Kids)]
abbrev av_api_Rx (x : api_Rx) : AV := .agg [vI .i64 x.Kind, vI .u64 x.Set.e0, vI .u64 x.Set.e1, vI .u64 x.Set.e2, vI .u64 x.Set.e3, vI .i64 x.Lo, vI .i64 x.Hi, vL enc_api_Rx x.Kids]
abbrev ao_api_Rx (x : api_Rx) : AV := .agg [vI .i64 x.Kind, vI .u64 x.Set.e0, vI .u64 x.Set.e1, vI .u64 x.Set.e2, vI .u64 x.Set.e3, vI .i64 x.Lo, vI .i64 x.Hi, oL 27 enc_api_Rx x.Kids]
def encs_api_Rx (l : (List api_Rx)) : FV := .sl (List.map enc_api_Rx l)
def encs_u8 (l : (List Int)) : FV := .sl (List.map enc_u8 l)
def encs_arr4_uint64 (l : (List arr4_uint64)) : FV := .sl (List.map enc_arr4_uint64 l)
def encs_i64 (l : (List Int)) : FV := .sl (List.map enc_i64 l)
def encs__i64 (l : (List (List Int))) : FV := .sl (List.map encs_i64 l)
structure api_Places where
  Sets : (List arr4_uint64)
  First : (List Int)
  Last : (List Int)
  Follow : (List (List Int))
  Null : Bool
  deriving Inhabited, DecidableEq
def enc_api_Places (x : api_Places) : FV := .agg [.sl (List.map enc_arr4_uint64 x.Sets), .sl (List.map enc_i64 x.First), .sl (List.map enc_i64 x.Last), .sl (List.map encs_i64 x.Follow), .pv (.bool x.Null)]
theorem enc_api_Places_eq (x : api_Places) : enc_api_Places x = .agg [.sl (List.map enc_arr4_uint64 x.Sets), .sl (List.map enc_i64 x.First), .sl (List.map enc_i64 x.Last), .sl (List.map encs_i64 x.Follow), .pv (.bool x.Null)] := rfl
abbrev fv_api_Places (x : api_Places) : FV := .agg [.sl (List.map enc_arr4_uint64 x.Sets), .sl (List.map enc_i64 x.First), .sl (List.map enc_i64 x.Last), .sl (List.map encs_i64 x.Follow), .pv (.bool x.Null)]
abbrev av_api_Places (x : api_Places) : AV := .agg [vL enc_arr4_uint64 x.Sets, vL enc_i64 x.First, vL enc_i64 x.Last, vL encs_i64 x.Follow, vB x.Null]
abbrev ao_api_Places (x : api_Places) : AV := .agg [oL 24 enc_arr4_uint64 x.Sets, oL 3 enc_i64 x.First, oL 3 enc_i64 x.Last, oL 37 encs_i64 x.Follow, vB x.Null]
structure hecklelaw03_Maker where
  L : (List Int)
  At : Int
  deriving Inhabited, DecidableEq
def enc_hecklelaw03_Maker (x : hecklelaw03_Maker) : FV := .agg [.sl (List.map enc_u8 x.L), .pv (.int .i64 x.At)]
theorem enc_hecklelaw03_Maker_eq (x : hecklelaw03_Maker) : enc_hecklelaw03_Maker x = .agg [.sl (List.map enc_u8 x.L), .pv (.int .i64 x.At)] := rfl
abbrev fv_hecklelaw03_Maker (x : hecklelaw03_Maker) : FV := .agg [.sl (List.map enc_u8 x.L), .pv (.int .i64 x.At)]
abbrev av_hecklelaw03_Maker (x : hecklelaw03_Maker) : AV := .agg [vL enc_u8 x.L, vI .i64 x.At]
abbrev ao_hecklelaw03_Maker (x : hecklelaw03_Maker) : AV := .agg [oL 5 enc_u8 x.L, vI .i64 x.At]
structure place_builder where
  sets : (List arr4_uint64)
  follow : (List (List Int))
  deriving Inhabited, DecidableEq
def enc_place_builder (x : place_builder) : FV := .agg [.sl (List.map enc_arr4_uint64 x.sets), .sl (List.map encs_i64 x.follow)]
theorem enc_place_builder_eq (x : place_builder) : enc_place_builder x = .agg [.sl (List.map enc_arr4_uint64 x.sets), .sl (List.map encs_i64 x.follow)] := rfl
abbrev fv_place_builder (x : place_builder) : FV := .agg [.sl (List.map enc_arr4_uint64 x.sets), .sl (List.map encs_i64 x.follow)]
abbrev av_place_builder (x : place_builder) : AV := .agg [vL enc_arr4_uint64 x.sets, vL encs_i64 x.follow]
abbrev ao_place_builder (x : place_builder) : AV := .agg [oL 24 enc_arr4_uint64 x.sets, oL 37 encs_i64 x.follow]
structure place_piece where
  first : (List Int)
  last : (List Int)
  null : Bool
  deriving Inhabited, DecidableEq
def enc_place_piece (x : place_piece) : FV := .agg [.sl (List.map enc_i64 x.first), .sl (List.map enc_i64 x.last), .pv (.bool x.null)]
theorem enc_place_piece_eq (x : place_piece) : enc_place_piece x = .agg [.sl (List.map enc_i64 x.first), .sl (List.map enc_i64 x.last), .pv (.bool x.null)] := rfl
abbrev fv_place_piece (x : place_piece) : FV := .agg [.sl (List.map enc_i64 x.first), .sl (List.map enc_i64 x.last), .pv (.bool x.null)]
abbrev av_place_piece (x : place_piece) : AV := .agg [vL enc_i64 x.first, vL enc_i64 x.last, vB x.null]
abbrev ao_place_piece (x : place_piece) : AV := .agg [oL 3 enc_i64 x.first, oL 3 enc_i64 x.last, vB x.null]
structure rx_pattern where
  Kind : Int
  Set : arr4_uint64
  Lo : Int
  Hi : Int
  Kids : (List api_Rx)
  deriving Inhabited
def enc_rx_pattern (x : rx_pattern) : FV := .agg [.pv (.int .i64 x.Kind), .pv (.int .u64 x.Set.e0), .pv (.int .u64 x.Set.e1), .pv (.int .u64 x.Set.e2), .pv (.int .u64 x.Set.e3), .pv (.int .i64 x.Lo), .pv (.int .i64 x.Hi), .sl (List.map enc_api_Rx x.Kids)]
theorem enc_rx_pattern_eq (x : rx_pattern) : enc_rx_pattern x = .agg [.pv (.int .i64 x.Kind), .pv (.int .u64 x.Set.e0), .pv (.int .u64 x.Set.e1), .pv (.int .u64 x.Set.e2), .pv (.int .u64 x.Set.e3), .pv (.int .i64 x.Lo), .pv (.int .i64 x.Hi), .sl (List.map enc_api_Rx x.Kids)] := rfl
abbrev fv_rx_pattern (x : rx_pattern) : FV := .agg [.pv (.int .i64 x.Kind), .pv (.int .u64 x.Set.e0), .pv (.int .u64 x.Set.e1), .pv (.int .u64 x.Set.e2), .pv (.int .u64 x.Set.e3), .pv (.int .i64 x.Lo), .pv (.int .i64 x.Hi), .sl (List.map enc_api_Rx x.Kids)]
abbrev av_rx_pattern (x : rx_pattern) : AV := .agg [vI .i64 x.Kind, vI .u64 x.Set.e0, vI .u64 x.Set.e1, vI .u64 x.Set.e2, vI .u64 x.Set.e3, vI .i64 x.Lo, vI .i64 x.Hi, vL enc_api_Rx x.Kids]
abbrev ao_rx_pattern (x : rx_pattern) : AV := .agg [vI .i64 x.Kind, vI .u64 x.Set.e0, vI .u64 x.Set.e1, vI .u64 x.Set.e2, vI .u64 x.Set.e3, vI .i64 x.Lo, vI .i64 x.Hi, oL 27 enc_api_Rx x.Kids]
def encs_bool (l : (List Bool)) : FV := .sl (List.map enc_bool l)
def encs_place_piece (l : (List place_piece)) : FV := .sl (List.map enc_place_piece l)
def enc_u32 (n : Int) : FV := .pv (.int .u32 n)
theorem strElems_ints (s : ByteArray) : strElems s = List.map enc_u8 (strInts s) := strElems_of s _ fun _ => rfl
theorem enq : (∀ n : Int, enc_i64 n = .pv (.int .i64 n)) ∧
  (∀ n : Bool, enc_bool n = .pv (.bool n)) ∧
  (∀ n : Int, enc_u8 n = .pv (.int .u8 n)) ∧
  (∀ x : runtime_boundsError, enc_runtime_boundsError x = .agg [.pv (.int .i64 x.x), .pv (.int .i64 x.y), .pv (.bool x.signed), .pv (.int .u8 x.code)]) ∧
  (∀ x : runtime_boundsError, fv_runtime_boundsError x = .agg [.pv (.int .i64 x.x), .pv (.int .i64 x.y), .pv (.bool x.signed), .pv (.int .u8 x.code)]) ∧
  (∀ x : runtime_boundsError, av_runtime_boundsError x = .agg [vI .i64 x.x, vI .i64 x.y, vB x.signed, vI .u8 x.code]) ∧
  (∀ x : runtime_boundsError, ao_runtime_boundsError x = .agg [vI .i64 x.x, vI .i64 x.y, vB x.signed, vI .u8 x.code]) ∧
  (∀ n : ByteArray, enc_string n = .pv (.string n)) ∧
  (∀ n : Int, enc_u64 n = .pv (.int .u64 n)) ∧
  (∀ x : runtime_errorAddressString, enc_runtime_errorAddressString x = .agg [.pv (.string x.msg), .pv (.int .u64 x.addr)]) ∧
  (∀ x : runtime_errorAddressString, fv_runtime_errorAddressString x = .agg [.pv (.string x.msg), .pv (.int .u64 x.addr)]) ∧
  (∀ x : runtime_errorAddressString, av_runtime_errorAddressString x = .agg [vS x.msg, vI .u64 x.addr]) ∧
  (∀ x : runtime_errorAddressString, ao_runtime_errorAddressString x = .agg [vS x.msg, vI .u64 x.addr]) ∧
  (∀ n : Int, enc_i32 n = .pv (.int .i32 n)) ∧
  (∀ x : arr4_uint64, enc_arr4_uint64 x = .agg [.pv (.int .u64 x.e0), .pv (.int .u64 x.e1), .pv (.int .u64 x.e2), .pv (.int .u64 x.e3)]) ∧
  (∀ x : arr4_uint64, fv_arr4_uint64 x = .agg [.pv (.int .u64 x.e0), .pv (.int .u64 x.e1), .pv (.int .u64 x.e2), .pv (.int .u64 x.e3)]) ∧
  (∀ x : arr4_uint64, av_arr4_uint64 x = .agg [vI .u64 x.e0, vI .u64 x.e1, vI .u64 x.e2, vI .u64 x.e3]) ∧
  (∀ x : arr4_uint64, ao_arr4_uint64 x = .agg [vI .u64 x.e0, vI .u64 x.e1, vI .u64 x.e2, vI .u64 x.e3]) ∧
  (∀ x : api_Rx, enc_api_Rx x = .agg [.pv (.int .i64 x.Kind), .pv (.int .u64 x.Set.e0), .pv (.int .u64 x.Set.e1), .pv (.int .u64 x.Set.e2), .pv (.int .u64 x.Set.e3), .pv (.int .i64 x.Lo), .pv (.int .i64 x.Hi), .sl (List.map enc_api_Rx x.Kids)]) ∧
  (∀ x : api_Rx, fv_api_Rx x = .agg [.pv (.int .i64 x.Kind), .pv (.int .u64 x.Set.e0), .pv (.int .u64 x.Set.e1), .pv (.int .u64 x.Set.e2), .pv (.int .u64 x.Set.e3), .pv (.int .i64 x.Lo), .pv (.int .i64 x.Hi), .sl (List.map enc_api_Rx x.Kids)]) ∧
  (∀ x : api_Rx, av_api_Rx x = .agg [vI .i64 x.Kind, vI .u64 x.Set.e0, vI .u64 x.Set.e1, vI .u64 x.Set.e2, vI .u64 x.Set.e3, vI .i64 x.Lo, vI .i64 x.Hi, vL enc_api_Rx x.Kids]) ∧
  (∀ x : api_Rx, ao_api_Rx x = .agg [vI .i64 x.Kind, vI .u64 x.Set.e0, vI .u64 x.Set.e1, vI .u64 x.Set.e2, vI .u64 x.Set.e3, vI .i64 x.Lo, vI .i64 x.Hi, oL 27 enc_api_Rx x.Kids]) ∧
  (∀ l : (List api_Rx), encs_api_Rx l = .sl (List.map enc_api_Rx l)) ∧
  (∀ l : (List Int), encs_u8 l = .sl (List.map enc_u8 l)) ∧
  (∀ l : (List arr4_uint64), encs_arr4_uint64 l = .sl (List.map enc_arr4_uint64 l)) ∧
  (∀ l : (List Int), encs_i64 l = .sl (List.map enc_i64 l)) ∧
  (∀ l : (List (List Int)), encs__i64 l = .sl (List.map encs_i64 l)) ∧
  (∀ x : api_Places, enc_api_Places x = .agg [.sl (List.map enc_arr4_uint64 x.Sets), .sl (List.map enc_i64 x.First), .sl (List.map enc_i64 x.Last), .sl (List.map encs_i64 x.Follow), .pv (.bool x.Null)]) ∧
  (∀ x : api_Places, fv_api_Places x = .agg [.sl (List.map enc_arr4_uint64 x.Sets), .sl (List.map enc_i64 x.First), .sl (List.map enc_i64 x.Last), .sl (List.map encs_i64 x.Follow), .pv (.bool x.Null)]) ∧
  (∀ x : api_Places, av_api_Places x = .agg [vL enc_arr4_uint64 x.Sets, vL enc_i64 x.First, vL enc_i64 x.Last, vL encs_i64 x.Follow, vB x.Null]) ∧
  (∀ x : api_Places, ao_api_Places x = .agg [oL 24 enc_arr4_uint64 x.Sets, oL 3 enc_i64 x.First, oL 3 enc_i64 x.Last, oL 37 encs_i64 x.Follow, vB x.Null]) ∧
  (∀ x : hecklelaw03_Maker, enc_hecklelaw03_Maker x = .agg [.sl (List.map enc_u8 x.L), .pv (.int .i64 x.At)]) ∧
  (∀ x : hecklelaw03_Maker, fv_hecklelaw03_Maker x = .agg [.sl (List.map enc_u8 x.L), .pv (.int .i64 x.At)]) ∧
  (∀ x : hecklelaw03_Maker, av_hecklelaw03_Maker x = .agg [vL enc_u8 x.L, vI .i64 x.At]) ∧
  (∀ x : hecklelaw03_Maker, ao_hecklelaw03_Maker x = .agg [oL 5 enc_u8 x.L, vI .i64 x.At]) ∧
  (∀ x : place_builder, enc_place_builder x = .agg [.sl (List.map enc_arr4_uint64 x.sets), .sl (List.map encs_i64 x.follow)]) ∧
  (∀ x : place_builder, fv_place_builder x = .agg [.sl (List.map enc_arr4_uint64 x.sets), .sl (List.map encs_i64 x.follow)]) ∧
  (∀ x : place_builder, av_place_builder x = .agg [vL enc_arr4_uint64 x.sets, vL encs_i64 x.follow]) ∧
  (∀ x : place_builder, ao_place_builder x = .agg [oL 24 enc_arr4_uint64 x.sets, oL 37 encs_i64 x.follow]) ∧
  (∀ x : place_piece, enc_place_piece x = .agg [.sl (List.map enc_i64 x.first), .sl (List.map enc_i64 x.last), .pv (.bool x.null)]) ∧
  (∀ x : place_piece, fv_place_piece x = .agg [.sl (List.map enc_i64 x.first), .sl (List.map enc_i64 x.last), .pv (.bool x.null)]) ∧
  (∀ x : place_piece, av_place_piece x = .agg [vL enc_i64 x.first, vL enc_i64 x.last, vB x.null]) ∧
  (∀ x : place_piece, ao_place_piece x = .agg [oL 3 enc_i64 x.first, oL 3 enc_i64 x.last, vB x.null]) ∧
  (∀ x : rx_pattern, enc_rx_pattern x = .agg [.pv (.int .i64 x.Kind), .pv (.int .u64 x.Set.e0), .pv (.int .u64 x.Set.e1), .pv (.int .u64 x.Set.e2), .pv (.int .u64 x.Set.e3), .pv (.int .i64 x.Lo), .pv (.int .i64 x.Hi), .sl (List.map enc_api_Rx x.Kids)]) ∧
  (∀ x : rx_pattern, fv_rx_pattern x = .agg [.pv (.int .i64 x.Kind), .pv (.int .u64 x.Set.e0), .pv (.int .u64 x.Set.e1), .pv (.int .u64 x.Set.e2), .pv (.int .u64 x.Set.e3), .pv (.int .i64 x.Lo), .pv (.int .i64 x.Hi), .sl (List.map enc_api_Rx x.Kids)]) ∧
  (∀ x : rx_pattern, av_rx_pattern x = .agg [vI .i64 x.Kind, vI .u64 x.Set.e0, vI .u64 x.Set.e1, vI .u64 x.Set.e2, vI .u64 x.Set.e3, vI .i64 x.Lo, vI .i64 x.Hi, vL enc_api_Rx x.Kids]) ∧
  (∀ x : rx_pattern, ao_rx_pattern x = .agg [vI .i64 x.Kind, vI .u64 x.Set.e0, vI .u64 x.Set.e1, vI .u64 x.Set.e2, vI .u64 x.Set.e3, vI .i64 x.Lo, vI .i64 x.Hi, oL 27 enc_api_Rx x.Kids]) ∧
  (∀ l : (List Bool), encs_bool l = .sl (List.map enc_bool l)) ∧
  (∀ l : (List place_piece), encs_place_piece l = .sl (List.map enc_place_piece l)) ∧
  (∀ n : Int, enc_u32 n = .pv (.int .u32 n)) ∧
  (∀ s : ByteArray, strElems s = List.map enc_u8 (strInts s)) :=
  ⟨fun _ => rfl, fun _ => rfl, fun _ => rfl, enc_runtime_boundsError_eq, fun _ => rfl, fun _ => rfl, fun _ => rfl, fun _ => rfl, fun _ => rfl, enc_runtime_errorAddressString_eq, fun _ => rfl, fun _ => rfl, fun _ => rfl, fun _ => rfl, enc_arr4_uint64_eq, fun _ => rfl, fun _ => rfl, fun _ => rfl, enc_api_Rx_eq, fun _ => rfl, fun _ => rfl, fun _ => rfl, fun _ => rfl, fun _ => rfl, fun _ => rfl, fun _ => rfl, fun _ => rfl, enc_api_Places_eq, fun _ => rfl, fun _ => rfl, fun _ => rfl, enc_hecklelaw03_Maker_eq, fun _ => rfl, fun _ => rfl, fun _ => rfl, enc_place_builder_eq, fun _ => rfl, fun _ => rfl, fun _ => rfl, enc_place_piece_eq, fun _ => rfl, fun _ => rfl, fun _ => rfl, enc_rx_pattern_eq, fun _ => rfl, fun _ => rfl, fun _ => rfl, fun _ => rfl, fun _ => rfl, fun _ => rfl, strElems_ints⟩
noncomputable def tyTab : List (Nat × TI) := [(1, ⟨Try.t1.desc, 1, 8, Option.some (AV.f (FV.pv Value.nilFunc))⟩),
  (2, ⟨Try.t2.desc, 1, 8, Option.some (AV.f (FV.pv (Value.int IntKind.i64 (0 : Int))))⟩),
  (3, ⟨Try.t3.desc, 1, 8, Option.some (AV.f (FV.pv (Value.int IntKind.i64 (0 : Int))))⟩),
  (4, ⟨Try.t4.desc, 1, 1, Option.some (AV.f (FV.pv (Value.bool Bool.false)))⟩),
  (5, ⟨Try.t5.desc, 1, 1, Option.some (AV.f (FV.pv (Value.int IntKind.u8 (0 : Int))))⟩),
  (7, ⟨Try.t7.desc, 4, 24, Option.some (AV.agg [AV.f (FV.pv (Value.int IntKind.i64 (0 : Int))), AV.f (FV.pv (Value.int IntKind.i64 (0 : Int))), AV.f (FV.pv (Value.bool Bool.false)), AV.f (FV.pv (Value.int IntKind.u8 (0 : Int)))])⟩),
  (9, ⟨Try.t9.desc, 1, 16, Option.some (AV.f (FV.pv (Value.string { data := #[] })))⟩),
  (12, ⟨Try.t12.desc, 1, 8, Option.some (AV.f (FV.pv (Value.int IntKind.u64 (0 : Int))))⟩),
  (13, ⟨Try.t13.desc, 2, 24, Option.some (AV.agg [AV.f (FV.pv (Value.string { data := #[] })), AV.f (FV.pv (Value.int IntKind.u64 (0 : Int)))])⟩),
  (18, ⟨Try.t18.desc, 1, 8, Option.some (AV.agg [AV.f (FV.pv (Value.pointer Option.none))])⟩),
  (21, ⟨Try.t21.desc, 1, 4, Option.some (AV.f (FV.pv (Value.int IntKind.i32 (0 : Int))))⟩),
  (22, ⟨Try.t22.desc, 1, 8, Option.some (AV.f (FV.pv (Value.int IntKind.u64 (0 : Int))))⟩),
  (23, ⟨Try.t23.desc, 4, 32, Option.some (AV.agg [AV.f (FV.pv (Value.int IntKind.u64 (0 : Int))), AV.f (FV.pv (Value.int IntKind.u64 (0 : Int))), AV.f (FV.pv (Value.int IntKind.u64 (0 : Int))), AV.f (FV.pv (Value.int IntKind.u64 (0 : Int)))])⟩),
  (24, ⟨Try.t23.desc, 4, 32, Option.some (AV.agg [AV.f (FV.pv (Value.int IntKind.u64 (0 : Int))), AV.f (FV.pv (Value.int IntKind.u64 (0 : Int))), AV.f (FV.pv (Value.int IntKind.u64 (0 : Int))), AV.f (FV.pv (Value.int IntKind.u64 (0 : Int)))])⟩),
  (25, ⟨Try.t25.desc, 1, 24, Option.some (AV.own (27 : Nat) [])⟩),
  (26, ⟨Try.t26.desc, 8, 80, Option.some (AV.agg [AV.f (FV.pv (Value.int IntKind.i64 (0 : Int))), AV.f (FV.pv (Value.int IntKind.u64 (0 : Int))), AV.f (FV.pv (Value.int IntKind.u64 (0 : Int))), AV.f (FV.pv (Value.int IntKind.u64 (0 : Int))), AV.f (FV.pv (Value.int IntKind.u64 (0 : Int))), AV.f (FV.pv (Value.int IntKind.i64 (0 : Int))), AV.f (FV.pv (Value.int IntKind.i64 (0 : Int))), AV.own (27 : Nat) []])⟩),
  (27, ⟨Try.t26.desc, 8, 80, Option.some (AV.agg [AV.f (FV.pv (Value.int IntKind.i64 (0 : Int))), AV.f (FV.pv (Value.int IntKind.u64 (0 : Int))), AV.f (FV.pv (Value.int IntKind.u64 (0 : Int))), AV.f (FV.pv (Value.int IntKind.u64 (0 : Int))), AV.f (FV.pv (Value.int IntKind.u64 (0 : Int))), AV.f (FV.pv (Value.int IntKind.i64 (0 : Int))), AV.f (FV.pv (Value.int IntKind.i64 (0 : Int))), AV.own (27 : Nat) []])⟩),
  (28, ⟨Try.t28.desc, 1, 8, Option.some (AV.f (FV.pv Value.nilFunc))⟩),
  (29, ⟨Try.t29.desc, 1, 8, Option.some (AV.f (FV.pv Value.nilFunc))⟩),
  (30, ⟨Try.t30.desc, 1, 8, Option.some (AV.f (FV.pv Value.nilFunc))⟩),
  (31, ⟨Try.t31.desc, 1, 24, Option.some (AV.own (5 : Nat) [])⟩),
  (32, ⟨Try.t32.desc, 1, 8, Option.some (AV.f (FV.pv Value.nilFunc))⟩),
  (33, ⟨Try.t33.desc, 1, 8, Option.some (AV.f (FV.pv Value.nilFunc))⟩),
  (34, ⟨Try.t34.desc, 1, 8, Option.some (AV.f (FV.pv Value.nilFunc))⟩),
  (35, ⟨Try.t35.desc, 1, 8, Option.some (AV.f (FV.pv Value.nilFunc))⟩),
  (36, ⟨Try.t36.desc, 1, 24, Option.some (AV.own (24 : Nat) [])⟩),
  (37, ⟨Try.t37.desc, 1, 24, Option.some (AV.own (3 : Nat) [])⟩),
  (38, ⟨Try.t38.desc, 1, 24, Option.some (AV.own (37 : Nat) [])⟩),
  (39, ⟨Try.t39.desc, 5, 104, Option.some (AV.agg [AV.own (24 : Nat) [], AV.own (3 : Nat) [], AV.own (3 : Nat) [], AV.own (37 : Nat) [], AV.f (FV.pv (Value.bool Bool.false))])⟩),
  (40, ⟨Try.t39.desc, 5, 104, Option.some (AV.agg [AV.own (24 : Nat) [], AV.own (3 : Nat) [], AV.own (3 : Nat) [], AV.own (37 : Nat) [], AV.f (FV.pv (Value.bool Bool.false))])⟩),
  (41, ⟨Try.t3.desc, 1, 8, Option.some (AV.f (FV.pv (Value.int IntKind.i64 (0 : Int))))⟩),
  (43, ⟨Try.t43.desc, 1, 8, Option.some (AV.f (FV.pv Value.nilFunc))⟩),
  (44, ⟨Try.t44.desc, 1, 8, Option.some (AV.f (FV.pv Value.nilFunc))⟩),
  (45, ⟨Try.t45.desc, 1, 8, Option.some (AV.f (FV.pv Value.nilFunc))⟩),
  (46, ⟨Try.t46.desc, 1, 8, Option.some (AV.f (FV.pv Value.nilFunc))⟩),
  (47, ⟨Try.t47.desc, 1, 8, Option.some (AV.f (FV.pv Value.nilFunc))⟩),
  (48, ⟨Try.t48.desc, 1, 8, Option.some (AV.f (FV.pv Value.nilFunc))⟩),
  (49, ⟨Try.t49.desc, 1, 8, Option.some (AV.f (FV.pv Value.nilFunc))⟩),
  (50, ⟨Try.t50.desc, 1, 8, Option.some (AV.f (FV.pv Value.nilFunc))⟩),
  (51, ⟨Try.t51.desc, 1, 8, Option.some (AV.f (FV.pv Value.nilFunc))⟩),
  (52, ⟨Try.t52.desc, 1, 8, Option.some (AV.f (FV.pv (Value.pointer Option.none)))⟩),
  (53, ⟨Try.t53.desc, 2, 32, Option.some (AV.agg [AV.own (5 : Nat) [], AV.f (FV.pv (Value.int IntKind.i64 (0 : Int)))])⟩),
  (54, ⟨Try.t53.desc, 2, 32, Option.some (AV.agg [AV.own (5 : Nat) [], AV.f (FV.pv (Value.int IntKind.i64 (0 : Int)))])⟩),
  (55, ⟨Try.t55.desc, 1, 8, Option.some (AV.f (FV.pv (Value.pointer Option.none)))⟩),
  (56, ⟨Try.t56.desc, 2, 48, Option.some (AV.agg [AV.own (24 : Nat) [], AV.own (37 : Nat) []])⟩),
  (57, ⟨Try.t56.desc, 2, 48, Option.some (AV.agg [AV.own (24 : Nat) [], AV.own (37 : Nat) []])⟩),
  (58, ⟨Try.t58.desc, 3, 56, Option.some (AV.agg [AV.own (3 : Nat) [], AV.own (3 : Nat) [], AV.f (FV.pv (Value.bool Bool.false))])⟩),
  (59, ⟨Try.t58.desc, 3, 56, Option.some (AV.agg [AV.own (3 : Nat) [], AV.own (3 : Nat) [], AV.f (FV.pv (Value.bool Bool.false))])⟩),
  (60, ⟨Try.t60.desc, 1, 8, Option.some (AV.f (FV.pv Value.nilFunc))⟩),
  (61, ⟨Try.t61.desc, 1, 8, Option.some (AV.f (FV.pv Value.nilFunc))⟩),
  (62, ⟨Try.t62.desc, 1, 8, Option.some (AV.f (FV.pv Value.nilFunc))⟩),
  (63, ⟨Try.t63.desc, 1, 8, Option.some (AV.f (FV.pv Value.nilFunc))⟩),
  (64, ⟨Try.t64.desc, 1, 8, Option.some (AV.f (FV.pv Value.nilFunc))⟩),
  (65, ⟨Try.t65.desc, 1, 8, Option.some (AV.f (FV.pv Value.nilFunc))⟩),
  (66, ⟨Try.t66.desc, 1, 8, Option.some (AV.f (FV.pv Value.nilFunc))⟩),
  (67, ⟨Try.t26.desc, 8, 80, Option.some (AV.agg [AV.f (FV.pv (Value.int IntKind.i64 (0 : Int))), AV.f (FV.pv (Value.int IntKind.u64 (0 : Int))), AV.f (FV.pv (Value.int IntKind.u64 (0 : Int))), AV.f (FV.pv (Value.int IntKind.u64 (0 : Int))), AV.f (FV.pv (Value.int IntKind.u64 (0 : Int))), AV.f (FV.pv (Value.int IntKind.i64 (0 : Int))), AV.f (FV.pv (Value.int IntKind.i64 (0 : Int))), AV.own (27 : Nat) []])⟩),
  (68, ⟨Try.t68.desc, 1, 8, Option.some (AV.f (FV.pv Value.nilFunc))⟩),
  (69, ⟨Try.t69.desc, 1, 8, Option.some (AV.f (FV.pv Value.nilFunc))⟩),
  (70, ⟨Try.t70.desc, 1, 8, Option.some (AV.f (FV.pv Value.nilFunc))⟩),
  (71, ⟨Try.t71.desc, 1, 24, Option.some (AV.own (4 : Nat) [])⟩),
  (72, ⟨Try.t72.desc, 1, 8, Option.some (AV.f (FV.pv Value.nilFunc))⟩),
  (73, ⟨Try.t73.desc, 1, 8, Option.some (AV.f (FV.pv Value.nilFunc))⟩),
  (74, ⟨Try.t74.desc, 1, 8, Option.some (AV.f (FV.pv Value.nilFunc))⟩),
  (75, ⟨Try.t75.desc, 1, 8, Option.some (AV.f (FV.pv Value.nilFunc))⟩),
  (76, ⟨Try.t76.desc, 1, 8, Option.some (AV.f (FV.pv Value.nilFunc))⟩),
  (77, ⟨Try.t77.desc, 1, 8, Option.some (AV.f (FV.pv Value.nilFunc))⟩),
  (78, ⟨Try.t78.desc, 1, 8, Option.some (AV.f (FV.pv Value.nilFunc))⟩),
  (79, ⟨Try.t79.desc, 1, 8, Option.some (AV.f (FV.pv Value.nilFunc))⟩),
  (80, ⟨Try.t80.desc, 1, 8, Option.some (AV.f (FV.pv Value.nilFunc))⟩),
  (81, ⟨Try.t81.desc, 1, 8, Option.some (AV.f (FV.pv Value.nilFunc))⟩),
  (82, ⟨Try.t82.desc, 1, 8, Option.some (AV.f (FV.pv Value.nilFunc))⟩),
  (83, ⟨Try.t83.desc, 1, 8, Option.some (AV.f (FV.pv Value.nilFunc))⟩),
  (84, ⟨Try.t84.desc, 1, 24, Option.some (AV.own (59 : Nat) [])⟩),
  (85, ⟨Try.t85.desc, 1, 8, Option.some (AV.f (FV.pv Value.nilFunc))⟩),
  (86, ⟨Try.t86.desc, 1, 8, Option.some (AV.f (FV.pv (Value.pointer Option.none)))⟩),
  (87, ⟨Try.t87.desc, 1, 8, Option.some (AV.f (FV.pv Value.nilFunc))⟩),
  (88, ⟨Try.t87.desc, 1, 8, Option.some (AV.f (FV.pv Value.nilFunc))⟩),
  (89, ⟨Try.t89.desc, 1, 8, Option.some (AV.f (FV.pv Value.nilFunc))⟩),
  (90, ⟨Try.t90.desc, 1, 8, Option.some (AV.f (FV.pv Value.nilFunc))⟩),
  (91, ⟨Try.t91.desc, 1, 8, Option.some (AV.f (FV.pv Value.nilFunc))⟩),
  (92, ⟨Try.t92.desc, 1, 8, Option.some (AV.f (FV.pv Value.nilFunc))⟩),
  (93, ⟨Try.t93.desc, 1, 8, Option.some (AV.f (FV.pv Value.nilFunc))⟩),
  (94, ⟨Try.t94.desc, 1, 8, Option.some (AV.f (FV.pv Value.nilFunc))⟩),
  (95, ⟨Try.t95.desc, 1, 8, Option.some (AV.f (FV.pv Value.nilFunc))⟩),
  (96, ⟨Try.t96.desc, 1, 8, Option.some (AV.f (FV.pv Value.nilFunc))⟩),
  (97, ⟨Try.t97.desc, 1, 8, Option.some (AV.f (FV.pv (Value.int IntKind.u64 (0 : Int))))⟩),
  (98, ⟨Try.t98.desc, 1, 8, Option.some (AV.f (FV.pv Value.nilFunc))⟩),
  (99, ⟨Try.t99.desc, 1, 8, Option.some (AV.f (FV.pv Value.nilFunc))⟩),
  (100, ⟨Try.t3.desc, 1, 8, Option.some (AV.f (FV.pv (Value.int IntKind.i64 (0 : Int))))⟩),
  (102, ⟨Try.t102.desc, 1, 8, Option.some (AV.f (FV.pv Value.nilFunc))⟩),
  (103, ⟨Try.t103.desc, 1, 8, Option.some (AV.f (FV.pv Value.nilFunc))⟩),
  (104, ⟨Try.t104.desc, 1, 8, Option.some (AV.f (FV.pv Value.nilFunc))⟩),
  (105, ⟨Try.t105.desc, 1, 8, Option.some (AV.f (FV.pv Value.nilFunc))⟩),
  (107, ⟨Try.t107.desc, 1, 8, Option.some (AV.f (FV.pv Value.nilFunc))⟩),
  (108, ⟨Try.t108.desc, 1, 8, Option.some (AV.f (FV.pv Value.nilFunc))⟩),
  (109, ⟨Try.t109.desc, 1, 4, Option.some (AV.f (FV.pv (Value.int IntKind.u32 (0 : Int))))⟩),
  (110, ⟨Try.t110.desc, 1, 8, Option.some (AV.f (FV.pv Value.nilFunc))⟩),
  (111, ⟨Try.t22.desc, 1, 8, Option.some (AV.f (FV.pv (Value.int IntKind.u64 (0 : Int))))⟩),
  (112, ⟨Try.t112.desc, 1, 8, Option.some (AV.f (FV.pv Value.nilFunc))⟩),
  (113, ⟨Try.t113.desc, 1, 8, Option.some (AV.f (FV.pv Value.nilFunc))⟩),
  (114, ⟨Try.t114.desc, 1, 8, Option.some (AV.f (FV.pv Value.nilFunc))⟩),
  (115, ⟨Try.t115.desc, 1, 8, Option.some (AV.f (FV.pv (Value.pointer Option.none)))⟩),
  (116, ⟨Try.t116.desc, 1, 8, Option.some (AV.f (FV.pv Value.nilFunc))⟩),
  (117, ⟨Try.t117.desc, 1, 8, Option.some (AV.f (FV.pv (Value.pointer Option.none)))⟩),
  (119, ⟨Try.t119.desc, 1, 8, Option.some (AV.f (FV.pv Value.nilFunc))⟩),
  (120, ⟨Try.t120.desc, 1, 8, Option.some (AV.f (FV.pv Value.nilFunc))⟩),
  (121, ⟨Try.t121.desc, 4, 40, Option.some (AV.agg [AV.f (FV.pv (Value.pointer Option.none)), AV.f (FV.pv (Value.pointer Option.none)), AV.f (FV.pv (Value.pointer Option.none)), AV.f (FV.pv (Value.string { data := #[] }))])⟩),
  (123, ⟨Try.t123.desc, 0, 0, Option.some (AV.agg [])⟩),
  (124, ⟨Try.t124.desc, 0, 0, Option.some (AV.agg [])⟩),
  (126, ⟨Try.t126.desc, 1, 8, Option.some (AV.f (FV.pv Value.nilFunc))⟩),
  (129, ⟨Try.t129.desc, 1, 8, Option.some (AV.f (FV.pv Value.nilFunc))⟩),
  (130, ⟨Try.t130.desc, 1, 8, Option.some (AV.f (FV.pv (Value.pointer Option.none)))⟩),
  (133, ⟨Try.t133.desc, 11, 48, Option.some (AV.agg [AV.f (FV.pv (Value.int IntKind.u64 (0 : Int))), AV.f (FV.pv (Value.int IntKind.u64 (0 : Int))), AV.f (FV.pv (Value.int IntKind.u32 (0 : Int))), AV.f (FV.pv (Value.int IntKind.u8 (0 : Int))), AV.f (FV.pv (Value.int IntKind.u8 (0 : Int))), AV.f (FV.pv (Value.int IntKind.u8 (0 : Int))), AV.f (FV.pv (Value.int IntKind.u8 (0 : Int))), AV.f (FV.pv Value.nilFunc), AV.f (FV.pv (Value.pointer Option.none)), AV.f (FV.pv (Value.int IntKind.i32 (0 : Int))), AV.f (FV.pv (Value.int IntKind.i32 (0 : Int)))])⟩)]
theorem tyTab_ok : TabOk Try.prog tyTab := ⟨tiOf_eq Try.underlying1 Try.type1 (by kernel_rfl),
  ⟨tiOf_eq Try.underlying2 Try.type2 (by kernel_rfl),
  ⟨tiOf_eq Try.underlying3 Try.type3 (by kernel_rfl),
  ⟨tiOf_eq Try.underlying4 Try.type4 (by kernel_rfl),
  ⟨tiOf_eq Try.underlying5 Try.type5 (by kernel_rfl),
  ⟨tiOf_eq Try.underlying7 Try.type7 (by kernel_rfl),
  ⟨tiOf_eq Try.underlying9 Try.type9 (by kernel_rfl),
  ⟨tiOf_eq Try.underlying12 Try.type12 (by kernel_rfl),
  ⟨tiOf_eq Try.underlying13 Try.type13 (by kernel_rfl),
  ⟨tiOf_eq Try.underlying18 Try.type18 (by kernel_rfl),
  ⟨tiOf_eq Try.underlying21 Try.type21 (by kernel_rfl),
  ⟨tiOf_eq Try.underlying22 Try.type22 (by kernel_rfl),
  ⟨tiOf_eq Try.underlying23 Try.type23 (by kernel_rfl),
  ⟨tiOf_eq Try.underlying24 Try.type24 (by kernel_rfl),
  ⟨tiOf_eq Try.underlying25 Try.type25 (by kernel_rfl),
  ⟨tiOf_eq Try.underlying26 Try.type26 (by kernel_rfl),
  ⟨tiOf_eq Try.underlying27 Try.type27 (by kernel_rfl),
  ⟨tiOf_eq Try.underlying28 Try.type28 (by kernel_rfl),
  ⟨tiOf_eq Try.underlying29 Try.type29 (by kernel_rfl),
  ⟨tiOf_eq Try.underlying30 Try.type30 (by kernel_rfl),
  ⟨tiOf_eq Try.underlying31 Try.type31 (by kernel_rfl),
  ⟨tiOf_eq Try.underlying32 Try.type32 (by kernel_rfl),
  ⟨tiOf_eq Try.underlying33 Try.type33 (by kernel_rfl),
  ⟨tiOf_eq Try.underlying34 Try.type34 (by kernel_rfl),
  ⟨tiOf_eq Try.underlying35 Try.type35 (by kernel_rfl),
  ⟨tiOf_eq Try.underlying36 Try.type36 (by kernel_rfl),
  ⟨tiOf_eq Try.underlying37 Try.type37 (by kernel_rfl),
  ⟨tiOf_eq Try.underlying38 Try.type38 (by kernel_rfl),
  ⟨tiOf_eq Try.underlying39 Try.type39 (by kernel_rfl),
  ⟨tiOf_eq Try.underlying40 Try.type40 (by kernel_rfl),
  ⟨tiOf_eq Try.underlying41 Try.type41 (by kernel_rfl),
  ⟨tiOf_eq Try.underlying43 Try.type43 (by kernel_rfl),
  ⟨tiOf_eq Try.underlying44 Try.type44 (by kernel_rfl),
  ⟨tiOf_eq Try.underlying45 Try.type45 (by kernel_rfl),
  ⟨tiOf_eq Try.underlying46 Try.type46 (by kernel_rfl),
  ⟨tiOf_eq Try.underlying47 Try.type47 (by kernel_rfl),
  ⟨tiOf_eq Try.underlying48 Try.type48 (by kernel_rfl),
  ⟨tiOf_eq Try.underlying49 Try.type49 (by kernel_rfl),
  ⟨tiOf_eq Try.underlying50 Try.type50 (by kernel_rfl),
  ⟨tiOf_eq Try.underlying51 Try.type51 (by kernel_rfl),
  ⟨tiOf_eq Try.underlying52 Try.type52 (by kernel_rfl),
  ⟨tiOf_eq Try.underlying53 Try.type53 (by kernel_rfl),
  ⟨tiOf_eq Try.underlying54 Try.type54 (by kernel_rfl),
  ⟨tiOf_eq Try.underlying55 Try.type55 (by kernel_rfl),
  ⟨tiOf_eq Try.underlying56 Try.type56 (by kernel_rfl),
  ⟨tiOf_eq Try.underlying57 Try.type57 (by kernel_rfl),
  ⟨tiOf_eq Try.underlying58 Try.type58 (by kernel_rfl),
  ⟨tiOf_eq Try.underlying59 Try.type59 (by kernel_rfl),
  ⟨tiOf_eq Try.underlying60 Try.type60 (by kernel_rfl),
  ⟨tiOf_eq Try.underlying61 Try.type61 (by kernel_rfl),
  ⟨tiOf_eq Try.underlying62 Try.type62 (by kernel_rfl),
  ⟨tiOf_eq Try.underlying63 Try.type63 (by kernel_rfl),
  ⟨tiOf_eq Try.underlying64 Try.type64 (by kernel_rfl),
  ⟨tiOf_eq Try.underlying65 Try.type65 (by kernel_rfl),
  ⟨tiOf_eq Try.underlying66 Try.type66 (by kernel_rfl),
  ⟨tiOf_eq Try.underlying67 Try.type67 (by kernel_rfl),
  ⟨tiOf_eq Try.underlying68 Try.type68 (by kernel_rfl),
  ⟨tiOf_eq Try.underlying69 Try.type69 (by kernel_rfl),
  ⟨tiOf_eq Try.underlying70 Try.type70 (by kernel_rfl),
  ⟨tiOf_eq Try.underlying71 Try.type71 (by kernel_rfl),
  ⟨tiOf_eq Try.underlying72 Try.type72 (by kernel_rfl),
  ⟨tiOf_eq Try.underlying73 Try.type73 (by kernel_rfl),
  ⟨tiOf_eq Try.underlying74 Try.type74 (by kernel_rfl),
  ⟨tiOf_eq Try.underlying75 Try.type75 (by kernel_rfl),
  ⟨tiOf_eq Try.underlying76 Try.type76 (by kernel_rfl),
  ⟨tiOf_eq Try.underlying77 Try.type77 (by kernel_rfl),
  ⟨tiOf_eq Try.underlying78 Try.type78 (by kernel_rfl),
  ⟨tiOf_eq Try.underlying79 Try.type79 (by kernel_rfl),
  ⟨tiOf_eq Try.underlying80 Try.type80 (by kernel_rfl),
  ⟨tiOf_eq Try.underlying81 Try.type81 (by kernel_rfl),
  ⟨tiOf_eq Try.underlying82 Try.type82 (by kernel_rfl),
  ⟨tiOf_eq Try.underlying83 Try.type83 (by kernel_rfl),
  ⟨tiOf_eq Try.underlying84 Try.type84 (by kernel_rfl),
  ⟨tiOf_eq Try.underlying85 Try.type85 (by kernel_rfl),
  ⟨tiOf_eq Try.underlying86 Try.type86 (by kernel_rfl),
  ⟨tiOf_eq Try.underlying87 Try.type87 (by kernel_rfl),
  ⟨tiOf_eq Try.underlying88 Try.type88 (by kernel_rfl),
  ⟨tiOf_eq Try.underlying89 Try.type89 (by kernel_rfl),
  ⟨tiOf_eq Try.underlying90 Try.type90 (by kernel_rfl),
  ⟨tiOf_eq Try.underlying91 Try.type91 (by kernel_rfl),
  ⟨tiOf_eq Try.underlying92 Try.type92 (by kernel_rfl),
  ⟨tiOf_eq Try.underlying93 Try.type93 (by kernel_rfl),
  ⟨tiOf_eq Try.underlying94 Try.type94 (by kernel_rfl),
  ⟨tiOf_eq Try.underlying95 Try.type95 (by kernel_rfl),
  ⟨tiOf_eq Try.underlying96 Try.type96 (by kernel_rfl),
  ⟨tiOf_eq Try.underlying97 Try.type97 (by kernel_rfl),
  ⟨tiOf_eq Try.underlying98 Try.type98 (by kernel_rfl),
  ⟨tiOf_eq Try.underlying99 Try.type99 (by kernel_rfl),
  ⟨tiOf_eq Try.underlying100 Try.type100 (by kernel_rfl),
  ⟨tiOf_eq Try.underlying102 Try.type102 (by kernel_rfl),
  ⟨tiOf_eq Try.underlying103 Try.type103 (by kernel_rfl),
  ⟨tiOf_eq Try.underlying104 Try.type104 (by kernel_rfl),
  ⟨tiOf_eq Try.underlying105 Try.type105 (by kernel_rfl),
  ⟨tiOf_eq Try.underlying107 Try.type107 (by kernel_rfl),
  ⟨tiOf_eq Try.underlying108 Try.type108 (by kernel_rfl),
  ⟨tiOf_eq Try.underlying109 Try.type109 (by kernel_rfl),
  ⟨tiOf_eq Try.underlying110 Try.type110 (by kernel_rfl),
  ⟨tiOf_eq Try.underlying111 Try.type111 (by kernel_rfl),
  ⟨tiOf_eq Try.underlying112 Try.type112 (by kernel_rfl),
  ⟨tiOf_eq Try.underlying113 Try.type113 (by kernel_rfl),
  ⟨tiOf_eq Try.underlying114 Try.type114 (by kernel_rfl),
  ⟨tiOf_eq Try.underlying115 Try.type115 (by kernel_rfl),
  ⟨tiOf_eq Try.underlying116 Try.type116 (by kernel_rfl),
  ⟨tiOf_eq Try.underlying117 Try.type117 (by kernel_rfl),
  ⟨tiOf_eq Try.underlying119 Try.type119 (by kernel_rfl),
  ⟨tiOf_eq Try.underlying120 Try.type120 (by kernel_rfl),
  ⟨tiOf_eq Try.underlying121 Try.type121 (by kernel_rfl),
  ⟨tiOf_eq Try.underlying123 Try.type123 (by kernel_rfl),
  ⟨tiOf_eq Try.underlying124 Try.type124 (by kernel_rfl),
  ⟨tiOf_eq Try.underlying126 Try.type126 (by kernel_rfl),
  ⟨tiOf_eq Try.underlying129 Try.type129 (by kernel_rfl),
  ⟨tiOf_eq Try.underlying130 Try.type130 (by kernel_rfl),
  ⟨tiOf_eq Try.underlying133 Try.type133 (by kernel_rfl),
  trivial⟩⟩⟩⟩⟩⟩⟩⟩⟩⟩⟩⟩⟩⟩⟩⟩⟩⟩⟩⟩⟩⟩⟩⟩⟩⟩⟩⟩⟩⟩⟩⟩⟩⟩⟩⟩⟩⟩⟩⟩⟩⟩⟩⟩⟩⟩⟩⟩⟩⟩⟩⟩⟩⟩⟩⟩⟩⟩⟩⟩⟩⟩⟩⟩⟩⟩⟩⟩⟩⟩⟩⟩⟩⟩⟩⟩⟩⟩⟩⟩⟩⟩⟩⟩⟩⟩⟩⟩⟩⟩⟩⟩⟩⟩⟩⟩⟩⟩⟩⟩⟩⟩⟩⟩⟩⟩⟩⟩⟩⟩⟩⟩⟩
section
variable {P : Program} {c : Cfg} {G G' : Sta} {K : Ex → Sta → Prop} {x : Code}
theorem sDE (hc : COk P c) (q : List Ora) (dr : List Nat) (ch ch' : Sta) {obs : List Prop} (ho : AllP obs) (hk : Sem P c (sq2 x) (edt dr ch' G) K) (e' : ch = ch' := by first | rfl | (simp only [nm, enq]; done) | (simp only [n0]; first | done | simp only [nm, enq])) (e : x = .seq (sq1 x) (sq2 x) := by kernel_rfl)
    (h : evReg P c (sq1 x) q [] (keysOf (edt dr ch G)) G = some (obs, edt dr ch G) := by kernel_rfl) : Sem P c x G K := by subst e'; exact Sem.seqR hc e h ho hk
theorem rDE (hc : COk P c) (q : List Ora) (dr : List Nat) (ch ch' : Sta) {obs : List Prop} (ho : AllP obs) (hk : K .normal (edt dr ch' G)) (e' : ch = ch' := by first | rfl | (simp only [nm, enq]; done) | (simp only [n0]; first | done | simp only [nm, enq]))
    (h : evReg P c x q [] (keysOf (edt dr ch G)) G = some (obs, edt dr ch G) := by kernel_rfl) : Sem P c x G K := by subst e'; exact Sem.region hc h ho hk
theorem endD {nt : Nat} {rs : List ResultVar} {n : Nat} (fz : List (Nat × Nat)) (r : AV) (l : List AV) {R : AV → List AV → Prop} (hR : R r l := by first | exact ⟨rfl, rfl⟩ | (refine ⟨?_, ?_⟩ <;> (try simp only [nm, enq]) <;> rfl) | (refine ⟨?_, ?_⟩ <;> simp only [nm, enq])) (h : evEnd P c rs n (Ev.frzs fz G) = some (r, l) := by kernel_rfl) :
    (∃ G', Wk P nt G G' ∧ endK (CallE P) c rs n R .ret G') ∧ (∃ G', Wk P nt G G' ∧ endK (CallE P) c rs n R .normal G') :=
  ⟨⟨_, Wk.frzs, (evEnd_endK h hR).1⟩, ⟨_, Wk.frzs, (evEnd_endK h hR).2⟩⟩
end
end Go.Ev

namespace Go.Proofs
open Go.Shelf
def Try.lays189_ren : Go.Shelf.Ren := ⟨fun | 189 => 57 | 125 => 71 | 257 => 70 | 128 => 82 | 129 => 83 | 294 => 73 | 295 => 74 | 296 => 75 | 297 => 76 | 298 => 77 | 299 => 78 | 216 => 79 | 300 => 80 | 301 => 81 | 328 => 84 | 329 => 85 | 330 => 86 | 331 => 87 | 332 => 88 | 215 => 89 | 343 => 90 | n => n, fun | 28 => 37 | 3 => 3 | 46 => 97 | 0 => 0 | 51 => 109 | 53 => 22 | 4 => 4 | 183 => 101 | 182 => 100 | 131 => 106 | 5 => 5 | 9 => 9 | 218 => 111 | 222 => 115 | 228 => 117 | 229 => 118 | n => n, fun | n => n⟩
theorem Try.lays189 : Go.Proofs.Lays.n189 Try.prog Try.lays189_ren := {
  mixed := by kernel_rfl
  f125 := Try.func71.trans (congrArg some (by kernel_rfl))
  f128 := Try.func82.trans (congrArg some (by kernel_rfl))
  f129 := Try.func83.trans (congrArg some (by kernel_rfl))
  f189 := Try.func57.trans (congrArg some (by kernel_rfl))
  f215 := Try.func89.trans (congrArg some (by kernel_rfl))
  f216 := Try.func79.trans (congrArg some (by kernel_rfl))
  f257 := Try.func70.trans (congrArg some (by kernel_rfl))
  f294 := Try.func73.trans (congrArg some (by kernel_rfl))
  f295 := Try.func74.trans (congrArg some (by kernel_rfl))
  f296 := Try.func75.trans (congrArg some (by kernel_rfl))
  f297 := Try.func76.trans (congrArg some (by kernel_rfl))
  f298 := Try.func77.trans (congrArg some (by kernel_rfl))
  f299 := Try.func78.trans (congrArg some (by kernel_rfl))
  f300 := Try.func80.trans (congrArg some (by kernel_rfl))
  f301 := Try.func81.trans (congrArg some (by kernel_rfl))
  f328 := Try.func84.trans (congrArg some (by kernel_rfl))
  f329 := Try.func85.trans (congrArg some (by kernel_rfl))
  f330 := Try.func86.trans (congrArg some (by kernel_rfl))
  f331 := Try.func87.trans (congrArg some (by kernel_rfl))
  f332 := Try.func88.trans (congrArg some (by kernel_rfl))
  f343 := Try.func90.trans (congrArg some (by kernel_rfl))
  t0 := Try.underlying0
  a0 := Try.isAgg0
  z0 := Try.sizeOf0
  v0 := Try.zeroValue0
  t3 := Try.underlying3
  a3 := Try.isAgg3
  z3 := Try.sizeOf3
  v3 := Try.zeroValue3
  t4 := Try.underlying4
  a4 := Try.isAgg4
  z4 := Try.sizeOf4
  v4 := Try.zeroValue4
  t5 := Try.underlying5
  a5 := Try.isAgg5
  z5 := Try.sizeOf5
  v5 := Try.zeroValue5
  t9 := Try.underlying9
  a9 := Try.isAgg9
  z9 := Try.sizeOf9
  v9 := Try.zeroValue9
  t28 := Try.underlying37
  a28 := Try.isAgg37
  z28 := Try.sizeOf37
  v28 := Try.zeroValue37
  t46 := Try.underlying97
  a46 := Try.isAgg97
  z46 := Try.sizeOf97
  v46 := Try.zeroValue97
  t51 := Try.underlying109
  a51 := Try.isAgg109
  z51 := Try.sizeOf109
  v51 := Try.zeroValue109
  t53 := Try.underlying22
  a53 := Try.isAgg22
  z53 := Try.sizeOf22
  v53 := Try.zeroValue22
  t131 := Try.underlying106
  a131 := Try.isAgg106
  z131 := Try.sizeOf106
  v131 := Try.zeroValue106
  t182 := Try.underlying100
  a182 := Try.isAgg100
  z182 := Try.sizeOf100
  v182 := Try.zeroValue100
  t183 := Try.underlying101
  a183 := Try.isAgg101
  z183 := Try.sizeOf101
  v183 := Try.zeroValue101
  t218 := Try.underlying111
  a218 := Try.isAgg111
  z218 := Try.sizeOf111
  v218 := Try.zeroValue111
  t222 := Try.underlying115
  a222 := Try.isAgg115
  z222 := Try.sizeOf115
  v222 := Try.zeroValue115
  t228 := Try.underlying117
  a228 := Try.isAgg117
  z228 := Try.sizeOf117
  v228 := Try.zeroValue117
  t229 := Try.underlying118
  a229 := Try.isAgg118
  z229 := Try.sizeOf118
  v229 := Try.zeroValue118 }
open Go.Sort Go.RowKit in
theorem Try.slices_Sort_int (blk off cap : Nat) (zs : List Int) (w : World) (hH : Holds (Value.int .i64) w blk off zs.toArray) (hblk : blk < w.heap.size) (hsz : zs.length < 4611686018427387904) :
    Calls Try.prog 57 #[.slice (some ⟨blk, off, none⟩) zs.length cap] w fun e w' =>
      e = .returned (.tuple #[]) ∧ ∃ n os, w' = grow (putRow (Value.int .i64) (Sort.ahead w n) blk off (zs.mergeSort fun x y => decide (x ≤ y)).toArray) os := Any.slices_Sort_int Try.lays189 blk off cap zs w hH hblk hsz
def Try.laysNm220_ren : Go.Shelf.Ren := ⟨fun | 20 => 58 | n => n, fun | 22 => 37 | 3 => 3 | 4 => 4 | 0 => 0 | n => n, fun | n => n⟩
theorem Try.laysNm220 : Go.Proofs.Lays2.n20 Try.prog Try.laysNm220_ren := {
  mixed := by kernel_rfl
  f20 := Try.func58.trans (congrArg some (by kernel_rfl))
  t0 := Try.underlying0
  a0 := Try.isAgg0
  z0 := Try.sizeOf0
  v0 := Try.zeroValue0
  t3 := Try.underlying3
  a3 := Try.isAgg3
  z3 := Try.sizeOf3
  v3 := Try.zeroValue3
  t4 := Try.underlying4
  a4 := Try.isAgg4
  z4 := Try.sizeOf4
  v4 := Try.zeroValue4
  t22 := Try.underlying37
  a22 := Try.isAgg37
  z22 := Try.sizeOf37
  v22 := Try.zeroValue37
  i3 := by kernel_rfl }
open Go.RowKit Go.Lib Go.Sort in
theorem Try.slices_Compact_int (blk off cap : Nat) (zs : List Int) (w : World) (hH : Holds (Value.int .i64) w blk off zs.toArray) (hsz : zs.length ≤ 9223372036854775807) (hcap : zs.length ≤ cap) :
    Calls Try.prog 58 #[.slice (some ⟨blk, off, none⟩) zs.length cap] w fun e w' => e = .returned (.slice (some ⟨blk, off, none⟩) (Lib.compact zs).length cap) ∧ ∃ q, w' = putRow (Value.int .i64) (Sort.ahead w q) blk off (Lib.compact zs ++ List.replicate (zs.length - (Lib.compact zs).length) 0).toArray := Any.slices_Compact_int Try.laysNm220 blk off cap zs w hH hsz hcap
open Go.RowKit Go.Lib Go.Sort in
theorem Try.slices_Compact_int_empty (a : Option Addr) (cap : Nat) (w : World) :
    Calls Try.prog 58 #[.slice a 0 cap] w fun e w' => e = .returned (.slice a 0 cap) ∧ w' = w := Any.slices_Compact_int_empty Try.laysNm220 a cap w
open Go.RowKit Go.Sort in
theorem Try.slices_Sort_int_none (p : Option Addr) (cap : Nat) (w : World) :
    Calls Try.prog 57 #[.slice p 0 cap] w fun e w' => e = .returned (.tuple #[]) ∧ w' = w := Any.slices_Sort_int_none Try.lays189 p cap w
end Go.Proofs

set_option linter.unusedSimpArgs false
set_option linter.unusedVariables false
namespace Go.Ev
open Go Go.Proofs
set_option maxRecDepth 8000
def growRen : Go.Shelf.Ren := ⟨fun | 4 => 69 | n => n, fun | 22 => 37 | 25 => 3 | n => n, fun n => n⟩
theorem growLays : Lays8.n4 Try.prog growRen := {
  mixed := by kernel_rfl
  f4 := ⟨Try.f69.name, by rfl, Try.func69.trans (congrArg some (by kernel_rfl))⟩
  t0 := Try.underlying0
  a0 := Try.isAgg0
  z0 := Try.sizeOf0
  v0 := Try.zeroValue0
  t3 := Try.underlying3
  a3 := Try.isAgg3
  z3 := Try.sizeOf3
  v3 := Try.zeroValue3
  t4 := Try.underlying4
  a4 := Try.isAgg4
  z4 := Try.sizeOf4
  v4 := Try.zeroValue4
  t9 := Try.underlying9
  a9 := Try.isAgg9
  z9 := Try.sizeOf9
  v9 := Try.zeroValue9
  t20 := Try.underlying20
  a20 := Try.isAgg20
  z20 := Try.sizeOf20
  v20 := Try.zeroValue20
  t22 := Try.underlying37
  a22 := Try.isAgg37
  z22 := Try.sizeOf37
  v22 := Try.zeroValue37 }
def ipTab (g : FuncId) : Option ((List FV → Option (List FV)) × Bool) :=
  match Nat.beq g 57 with
  | true => some (sortF, false)
  | false => match Nat.beq g 58 with
    | true => some (compactF, true)
    | false => none
def grTab (g : FuncId) : Option TypeId :=
  match Nat.beq g 69 with
  | true => some 3
  | false => none
theorem esz_one {own : Own} {w : World} {b o : Nat} {E : TypeId} {l : List FV} {u : Value} {k n : Nat} (h : OwnL Try.prog own w b o E l u) (h2 : OwnB Try.prog own w b o E k l n) (hne : l ≠ []) (hs : ∀ x ∈ l, x.size = 1) : esz Try.prog E = 1 := by
  obtain ⟨_, arr, _, _, h4, _⟩ := h2
  cases l with
  | nil => exact absurd rfl hne
  | cons x r => rw [← h4 x (List.mem_cons_self ..)]; exact hs x (List.mem_cons_self ..)
theorem sort_ok : IpOk Try.prog 57 sortF false :=
  ip_sort ⟨_, Try.func57, by rfl, by rfl⟩ (fun _ _ _ _ _ _ _ _ _ h h2 h3 h4 => esz_one h h2 h3 h4) Try.slices_Sort_int Try.slices_Sort_int_none
theorem compact_ok : IpOk Try.prog 58 compactF true :=
  ip_compact ⟨_, Try.func58, by rfl, by rfl⟩ (fun _ _ _ _ _ _ _ _ _ h h2 h3 h4 => esz_one h h2 h3 h4) Try.slices_Compact_int Try.slices_Compact_int_empty Lib.compact_length_le
theorem grow_ok : GrOk Try.prog 69 3 := by
  refine gr_grow ⟨_, Try.func69, by rfl, by rfl⟩ (by kernel_rfl) (fun w n h0 h1 => ?_) (fun w => ?_)
  · refine (Any8.slices_Grow_grow growLays Try.t3 (.int .i64 0) Try.type3 (by kernel_rfl) (Nat.le_of_ble_eq_true rfl) none 0 0 n [] w (Nat.le_refl _) (by omega) ?_ (by omega) rfl (fun _ => rfl) (fun a h => by cases h)).mono ?_
    · have : Try.t3.bytes = 8 := rfl
      rw [this]; omega
    · rintro e w' ⟨rfl, rfl⟩
      refine ⟨_, _, w.drawn + 1, rfl, rfl, ?_⟩
      have h1 : (Value.int IntKind.i64 0).cells.size = 1 := rfl
      simp [Builtin.zeroCells, h1]
      omega
  · exact (Any8.slices_Grow_room growLays none 0 0 0 w (Nat.le_refl _) (by omega) (by omega) (by omega)).mono fun e w' h => h
noncomputable def cf (mv : List Nat) (nt : Nat) : Cfg := mkCfgV tyTab ipTab grTab mv nt
theorem cfOk (mv : List Nat) (nt : Nat) : COk Try.prog (cf mv nt) := by
  refine mkCfgV_ok tyTab_ok (by rfl) ⟨fun g f back h => ?_, fun g E h => ?_⟩
  · change ipTab g = some (f, back) at h
    unfold ipTab at h
    split at h
    · rename_i e
      simp only [Option.some.injEq, Prod.mk.injEq] at h
      obtain ⟨rfl, rfl⟩ := h
      rw [Nat.eq_of_beq_eq_true e]; exact sort_ok
    · split at h
      · rename_i e
        simp only [Option.some.injEq, Prod.mk.injEq] at h
        obtain ⟨rfl, rfl⟩ := h
        rw [Nat.eq_of_beq_eq_true e]; exact compact_ok
      · cases h
  · change grTab g = some E at h
    unfold grTab at h
    split at h
    · rename_i e
      simp only [Option.some.injEq] at h; subst h
      rw [Nat.eq_of_beq_eq_true e]; exact grow_ok
    · cases h
end Go.Ev

set_option linter.unusedVariables false
set_option linter.unusedSimpArgs false
namespace Go.Ev
open Go Go.Proofs
set_option maxRecDepth 8000
noncomputable def cfr (mv : List Nat) (nt : Nat) : Cfg := { cf mv nt with rnd := true }
theorem cfrOk (mv : List Nat) (nt : Nat) : COk Try.prog (cfr mv nt) := ⟨(cfOk mv nt).cfg, ipsOk_same (cfOk mv nt).ip rfl rfl, (cfOk mv nt).ro⟩
theorem back_ok_72 : BackOk Try.prog 72 enc_place_piece :=
  back_of (c := cf [] 19) (cfOk [] 19) Try.func72 (by rfl) (by rfl) (by rfl) (by rfl) (agg := true) (sz := 3) (fun x => by simp [FV.fits, FV.size, FV.cells, FV.one, enc_place_piece_eq]) (fun x => rfl) (fun h => by cases h) (by rfl)
    (by rfl) (by rfl) (by rfl) (by rfl) (pre := (opsOf (sq1 (sq1 (sq1 (sq2 (sq1 (sq1 (sq2 (bodyOf Try.f72))))))))).take 6) (by rfl) (by rfl) (by rfl) (by rfl)
    (fun yv xs => ⟨[], [(1, .f (.pv yv)), (4, .fp (.sl (xs.map (encX true 3))) 0), (10, vi (w64 (((xs.map (encX true 3)).length : Int) - 1))), (13, .f (.sl (xs.map (encX true 3)))), (16, vi (((xs.map (encX true 3)).length : Int))), (19, vi (w64 (((xs.map (encX true 3)).length : Int) - 1)))], by kernel_rfl, by rfl⟩)
    (fun yv xs i => ⟨[], [(1, .f (.pv yv)), (4, .fp (.sl (xs.map (encX true 3))) 0), (10, vi i), (22, vi i), (25, vB (decide (i ≥ 0)))], by kernel_rfl, by rfl, by rfl⟩)
    (fun yv xs i => ⟨[], [(1, .f (.pv yv)), (4, .fp (.sl (xs.map (encX true 3))) 0), (10, vi (w64 (i - 1))), (28, vi i), (31, vi (w64 (i - 1)))], by kernel_rfl, by rfl⟩)
    (fun yv xs i x => ⟨[], [(1, .f (.pv yv)), (4, .fp (.sl (xs.map (encX true 3))) 0), (10, vi i), (34, .f (.pv yv)), (37, vi i), (40, .f (.sl (xs.map (encX true 3)))), (43, vi i), (46, .fp (encX true 3 x) 0), (49, asAV (encX true 3 x))], by kernel_rfl, by rfl, by rfl, by rfl, by rfl⟩) ⟨[], [(52, vB true), (55, vB false)], by kernel_rfl, by rfl⟩ (by simp)
theorem backward_60 (l : List place_piece) : CallE Try.prog 60 [vL enc_place_piece l] [] (.clo 72 [.fp (.sl (List.map enc_place_piece l)) 0]) [] := by
  refine callE_semW (x := bodyOf Try.f60) (cfOk [] 4) Try.func60 (by rfl) (by rfl) (by rfl) (Nat.le_of_ble_eq_true rfl) (by rfl) (by rfl) (Nat.le_of_ble_eq_true rfl) ?_
  refine wkS [1] [(1, vL enc_place_piece l)] (by kernel_rfl) ?_
  refine sR (cfOk [] 4) [] [4, 5] [(4, .ptr 5 0), (5, vL enc_place_piece l)] (obs := []) (by kernel_rfl) (by kernel_rfl) obN ?_
  refine sR (cfOk [] 4) [] [5, 7] [(5, vL enc_place_piece l), (7, .clo 72 [.ptr 5 0])] (obs := []) (by kernel_rfl) (by kernel_rfl) obN ?_
  refine Sem.ret' (by kernel_rfl) Wk.refl ?_
  refine ⟨_, Wk.fpz (b := 5) (x := .sl (List.map enc_place_piece l)) (by rfl) (by rfl) (by rfl), ?_⟩
  exact (evEnd_endK (x := .clo 72 [.fp (.sl (List.map enc_place_piece l)) 0]) (l := []) (by kernel_rfl) ⟨rfl, rfl⟩).1
def C_slices_Backward__place_piece_place_piece (a0 : List place_piece) : Prop := CallE Try.prog 60 [vL enc_place_piece a0] [] (.clo 72 [.fp (.sl (List.map enc_place_piece a0)) 0]) []
end Go.Ev

set_option linter.unusedSimpArgs false
set_option linter.unusedVariables false
namespace Go.Ev
open Go Go.Proofs
set_option maxRecDepth 8000
def C_heckleref01_add (a0 : arr4_uint64) (a1 : Int) (r0 : arr4_uint64) : Prop := CallE Try.prog 44 [av_arr4_uint64 a0, vi a1] [] (av_arr4_uint64 r0) []
def C_heckleref01_Has (a0 : arr4_uint64) (a1 : Int) (r0 : Bool) : Prop := CallE Try.prog 16 [av_arr4_uint64 a0, vi a1] [] (vB r0) []
def C_heckleref01_Of (a0 : Int) (a1 : Int) (r0 : arr4_uint64) : Prop := CallE Try.prog 28 [vi a0, vi a1] [] (av_arr4_uint64 r0) []
def C_hecklelaw09_char (a0 : Int) (r0 : api_Rx) : Prop := CallE Try.prog 19 [vi a0] [] (ao_api_Rx r0) []
def C_rx_pattern_times (a0 : rx_pattern) (r0 : Bool) : Prop := CallE Try.prog 67 [av_rx_pattern a0] [] (vB r0) []
def C_rx_pattern_own (a0 : rx_pattern) (r0 : Bool) : Prop := CallE Try.prog 53 [av_rx_pattern a0] [] (vB r0) []
def C_rx_pattern_right_L1 (a0 : api_Rx) (o0 : rx_pattern) (o1 : Int) (r0 : Bool) (o0' : rx_pattern) (o1' : Int) : Prop := CallE Try.prog 52 [av_api_Rx a0, .ptr 3 0, .ptr 6 0] [av_rx_pattern o0, vi o1] (vB r0) [av_rx_pattern o0', vi o1']
def C_slices_IndexFunc__api_Rx_api_Rx_at_rx_pattern_right_L1 (a0 : (List api_Rx)) (o0 : rx_pattern) (o1 : Int) (r0 : Int) (o0' : rx_pattern) (o1' : Int) : Prop := CallE Try.prog 68 [vL enc_api_Rx a0, .clo 52 [.ptr 3 0, .ptr 6 0]] [av_rx_pattern o0, vi o1] (vi r0) [av_rx_pattern o0', vi o1']
def C_slices_ContainsFunc__api_Rx_api_Rx_at_rx_pattern_right_L1 (a0 : (List api_Rx)) (o0 : rx_pattern) (o1 : Int) (r0 : Bool) (o0' : rx_pattern) (o1' : Int) : Prop := CallE Try.prog 54 [vL enc_api_Rx a0, .clo 52 [.ptr 3 0, .ptr 6 0]] [av_rx_pattern o0, vi o1] (vB r0) [av_rx_pattern o0', vi o1']
def C_rx_pattern_right (a0 : rx_pattern) (a1 : Int) (r0 : Bool) : Prop := CallE Try.prog 35 [av_rx_pattern a0, vi a1] [] (vB r0) []
def C_rx_Size (a0 : api_Rx) (r0 : Int) : Prop := CallE Try.prog 36 [av_api_Rx a0] [] (vi r0) []
def C_rx_nodes (a0 : api_Rx) (a1 : Int) (r0 : Int) : Prop := CallE Try.prog 37 [av_api_Rx a0, vi a1] [] (vi r0) []
def C_rx_Right (a0 : api_Rx) (r0 : Bool) : Prop := CallE Try.prog 25 [av_api_Rx a0] [] (vB r0) []
def C_place_builder_place (a1 : arr4_uint64) (o0 : place_builder) (r0 : place_piece) (o0' : place_builder) : Prop := CallE Try.prog 38 [.ptr 3 0, av_arr4_uint64 a1] [ao_place_builder o0] (av_place_piece r0) [ao_place_builder o0']
def C_slices_Concat__int_int (a0 : (List (List Int))) (r0 : (List Int)) : Prop := CallE Try.prog 56 [vL encs_i64 a0] [] (oL 3 enc_i64 r0) []
def C_place_Join_int (a0 : (List Int)) (a1 : (List Int)) (r0 : (List Int)) : Prop := CallE Try.prog 40 [vL enc_i64 a0, vL enc_i64 a1] [] (vL enc_i64 r0) []
def C_place_builder_lead (a1 : (List Int)) (a2 : (List Int)) (o0 : place_builder) (o0' : place_builder) : Prop := CallE Try.prog 55 [.ptr 3 0, vL enc_i64 a1, vL enc_i64 a2] [ao_place_builder o0] (.tup []) [ao_place_builder o0']
def C_place_builder_cat (a1 : place_piece) (a2 : place_piece) (o0 : place_builder) (r0 : place_piece) (o0' : place_builder) : Prop := CallE Try.prog 39 [.ptr 3 0, av_place_piece a1, av_place_piece a2] [ao_place_builder o0] (av_place_piece r0) [ao_place_builder o0']
def C_place_builder_copies (a1 : api_Rx) (a2 : Int) (o0 : place_builder) (r0 : (List place_piece)) (o0' : place_builder) : Prop := CallE Try.prog 59 [.ptr 3 0, av_api_Rx a1, vi a2] [ao_place_builder o0] (oL 59 enc_place_piece r0) [ao_place_builder o0']
def C_place_maybe (a0 : place_piece) (r0 : place_piece) : Prop := CallE Try.prog 61 [av_place_piece a0] [] (av_place_piece r0) []
def C_place_builder_rep (a1 : api_Rx) (o0 : place_builder) (r0 : place_piece) (o0' : place_builder) : Prop := CallE Try.prog 41 [.ptr 3 0, av_api_Rx a1] [ao_place_builder o0] (av_place_piece r0) [ao_place_builder o0']
def C_place_builder_piece (a1 : api_Rx) (o0 : place_builder) (r0 : place_piece) (o0' : place_builder) : Prop := CallE Try.prog 26 [.ptr 3 0, av_api_Rx a1] [ao_place_builder o0] (av_place_piece r0) [ao_place_builder o0']
def C_place_Of (a0 : api_Rx) (r0 : api_Places) (r1 : Int) : Prop := CallE Try.prog 13 [av_api_Rx a0] [] (.tup [av_api_Places r0, vi r1]) []
def C_hecklelaw01_Ints (a0 : (List Int)) (a1 : (List Int)) (r0 : Bool) : Prop := CallE Try.prog 20 [vL enc_i64 a0, vL enc_i64 a1] [] (vB r0) []
def C_hecklelaw09_awake (r0 : Bool) : Prop := CallE Try.prog 8 [] [] (vB r0) []
def C_heckleref03_Nodes (a0 : api_Rx) (a1 : Int) (r0 : Int) : Prop := CallE Try.prog 9 [av_api_Rx a0, vi a1] [] (vi r0) []
def C_heckleref03_right (a0 : api_Rx) (a1 : Int) (r0 : Bool) : Prop := CallE Try.prog 45 [av_api_Rx a0, vi a1] [] (vB r0) []
def C_heckleref03_Size (a0 : api_Rx) (r0 : Int) : Prop := CallE Try.prog 12 [av_api_Rx a0] [] (vi r0) []
def C_heckleref03_Right (a0 : api_Rx) (r0 : Bool) : Prop := CallE Try.prog 29 [av_api_Rx a0] [] (vB r0) []
def C_heckleref09_Add (a0 : (List Int)) (a1 : (List Int)) (r0 : (List Int)) : Prop := CallE Try.prog 17 [vL enc_i64 a0, vL enc_i64 a1] [] (vL enc_i64 r0) []
def C_hecklelaw03_Maker_Pick (a1 : Int) (o0 : hecklelaw03_Maker) (r0 : Int) (o0' : hecklelaw03_Maker) : Prop := CallE Try.prog 32 [.ptr 3 0, vi a1] [av_hecklelaw03_Maker o0] (vi r0) [av_hecklelaw03_Maker o0']
def C_heckleref01_Not (a0 : arr4_uint64) (r0 : arr4_uint64) : Prop := CallE Try.prog 51 [av_arr4_uint64 a0] [] (av_arr4_uint64 r0) []
def C_hecklelaw03_char (a0 : Int) (r0 : api_Rx) : Prop := CallE Try.prog 24 [vi a0] [] (ao_api_Rx r0) []
def C_hecklelaw03_Maker_leaf (o0 : hecklelaw03_Maker) (r0 : api_Rx) (o0' : hecklelaw03_Maker) : Prop := CallE Try.prog 33 [.ptr 3 0] [av_hecklelaw03_Maker o0] (ao_api_Rx r0) [av_hecklelaw03_Maker o0']
def C_hecklelaw03_joined (a0 : Int) (a1 : (List api_Rx)) (r0 : api_Rx) : Prop := CallE Try.prog 34 [vi a0, vL enc_api_Rx a1] [] (ao_api_Rx r0) []
def C_hecklelaw03_Maker_Rx (a1 : Int) (o0 : hecklelaw03_Maker) (r0 : api_Rx) (o0' : hecklelaw03_Maker) : Prop := CallE Try.prog 23 [.ptr 3 0, vi a1] [av_hecklelaw03_Maker o0] (ao_api_Rx r0) [av_hecklelaw03_Maker o0']
def C_hecklelaw03_Made (a0 : (List Int)) (r0 : api_Rx) : Prop := CallE Try.prog 11 [vL enc_u8 a0] [] (av_api_Rx r0) []
def C_hecklelaw05_Text (a0 : (List Int)) (r0 : ByteArray) : Prop := CallE Try.prog 15 [vL enc_u8 a0] [] (vS r0) []
def C_heckleref05_May (a0 : api_Rx) (a1 : ByteArray) (r0 : Bool) : Prop := CallE Try.prog 42 [av_api_Rx a0, vS a1] [] (vB r0) []
def C_heckleref05_or (a0 : (List Bool)) (a1 : (List Bool)) (r0 : (List Bool)) : Prop := CallE Try.prog 62 [vL enc_bool a0, vL enc_bool a1] [] (oL 4 enc_bool r0) []
def C_heckleref05_closed (a0 : api_Rx) (r0 : Bool) : Prop := CallE Try.prog 63 [av_api_Rx a0] [] (vB r0) []
def C_heckleref05_within (a0 : (List Bool)) (a1 : (List Bool)) (r0 : Bool) : Prop := CallE Try.prog 64 [vL enc_bool a0, vL enc_bool a1] [] (vB r0) []
def C_heckleref05_step (a0 : api_Rx) (a1 : ByteArray) (a2 : (List Bool)) (r0 : (List Bool)) : Prop := CallE Try.prog 43 [av_api_Rx a0, vS a1, vL enc_bool a2] [] (vL enc_bool r0) []
def C_heckleref05_Ends (a0 : api_Rx) (a1 : ByteArray) (a2 : Int) (r0 : (List Int)) : Prop := CallE Try.prog 27 [av_api_Rx a0, vS a1, vi a2] [] (oL 3 enc_i64 r0) []
def C_heckleref05_Match (a0 : api_Rx) (a1 : ByteArray) (r0 : Bool) : Prop := CallE Try.prog 18 [av_api_Rx a0, vS a1] [] (vB r0) []
def C_hecklelaw09_PlaceMatch (a0 : (List Int)) (a1 : (List Int)) (r0 : Bool) : Prop := CallE Try.prog 7 [vL enc_u8 a0, vL enc_u8 a1] [] (vB r0) []
end Go.Ev
