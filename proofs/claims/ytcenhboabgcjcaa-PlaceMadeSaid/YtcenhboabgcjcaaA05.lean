import Derived.Test.YtcenhboabgcjcaaA04
set_option linter.unusedSimpArgs false
set_option linter.unusedVariables false
namespace Go.Ev.Pl
open Go Go.Ev
theorem w64_id {x : Int} (h0 : -9223372036854775808 ≤ x) (h1 : x ≤ 9223372036854775807) : w64 x = x := wrap64 h0 (by omega)
theorem rx_sizeOf {x y : api_Rx} (h : y ∈ x.Kids) : SizeOf.sizeOf y < SizeOf.sizeOf x := by
  cases x with
  | mk k s lo hi kids =>
    have := List.sizeOf_lt_of_mem h
    simp only [api_Rx.mk.sizeOf_spec]
    simp at this
    omega
theorem rxInd {P : api_Rx → Prop} (h : ∀ x, (∀ y ∈ x.Kids, P y) → P x) (x : api_Rx) : P x :=
  h x fun y hy => rxInd h y
  termination_by SizeOf.sizeOf x
  decreasing_by exact rx_sizeOf hy
mutual
def cata {α : Type} (f : api_Rx → List α → α) : api_Rx → α
  | ⟨k, s, lo, hi, kids⟩ => f ⟨k, s, lo, hi, kids⟩ (cataL f kids)
def cataL {α : Type} (f : api_Rx → List α → α) : List api_Rx → List α
  | [] => []
  | x :: r => cata f x :: cataL f r
end
theorem cataL_map {α : Type} (f : api_Rx → List α → α) : ∀ l, cataL f l = l.map (cata f)
  | [] => rfl
  | x :: r => by rw [cataL, cataL_map f r]; rfl
theorem cata_eq {α : Type} (f : api_Rx → List α → α) (x : api_Rx) : cata f x = f x (x.Kids.map (cata f)) := by
  cases x; rw [cata, cataL_map]
def Wf (x : api_Rx) : Prop := cata (α := Prop) (fun x l => x.Kids.length < 1099511627776 ∧ ∀ p ∈ l, p) x
theorem wf_eq (x : api_Rx) : Wf x ↔ x.Kids.length < 1099511627776 ∧ ∀ y ∈ x.Kids, Wf y := by
  show cata (α := Prop) _ x ↔ _
  rw [cata_eq]
  constructor
  · rintro ⟨h1, h2⟩; exact ⟨h1, fun y hy => h2 _ (List.mem_map.2 ⟨y, hy, rfl⟩)⟩
  · rintro ⟨h1, h2⟩
    refine ⟨h1, fun p hp => ?_⟩
    obtain ⟨y, hy, rfl⟩ := List.mem_map.1 hp
    exact h2 y hy
theorem gd_nat {α : Type} [Inhabited α] {l : List α} {i : Nat} (h : i < l.length) : gd l (i : Int) = l[i] := by
  simp [gd, List.getD, h]
def timesN (x : api_Rx) : Nat := (max 1 (min 1000 (max x.Lo x.Hi))).toNat
def sizeN : api_Rx → Nat := cata fun x l => if x.Kind = 2 then 1 else if 3 ≤ x.Kind ∧ x.Kind ≤ 5 then l.sum * (if x.Kind = 5 then timesN x else 1) else 0
theorem sizeN_eq (x : api_Rx) : sizeN x = if x.Kind = 2 then 1 else if 3 ≤ x.Kind ∧ x.Kind ≤ 5 then (x.Kids.map sizeN).sum * (if x.Kind = 5 then timesN x else 1) else 0 := cata_eq _ x
def sizeZ (x : api_Rx) : Int := min (sizeN x : Int) (1000000 : Int)
theorem sum_take_succ {l : List Nat} {i : Nat} (h : i < l.length) : (l.take (i + 1)).sum = (l.take i).sum + l[i] := by
  rw [List.take_succ_eq_append_getElem h, List.sum_append]; simp
theorem rxSize_ok : ∀ x, Wf x → C_rx_Size x (sizeZ x) := by
  refine rxInd fun x ih hw => ?_
  obtain ⟨hl, hk⟩ := (wf_eq x).1 hw
  refine W_rx_Size x _ ⟨fun h => ?_, fun h => ⟨fun h2 => ?_, fun h2 => ?_⟩⟩
  · have h : x.Kind = 2 := by simpa using h
    simp [sizeZ, sizeN_eq, h]; omega
  · have : x.Kind < 3 ∨ x.Kind > 5 := by simpa using h2
    have h : x.Kind ≠ 2 := by simpa using h
    rw [sizeZ, sizeN_eq, if_neg h, if_neg (by omega)]; omega
  · have h : x.Kind ≠ 2 := by simpa using h
    have h2 : 3 ≤ x.Kind ∧ x.Kind ≤ 5 := by simp at h2; omega
    have hT : (timesN x : Int) = max 1 (min 1000 (max x.Lo x.Hi)) := by simp only [timesN]; omega
    refine ⟨fun n t => ∃ i : Nat, t = i ∧ i ≤ x.Kids.length ∧ n = min (((x.Kids.map sizeN).take i).sum : Int) 1000000, fun n t => (x.Kids.length - t).toNat, ⟨0, rfl, by omega, by simp; omega⟩, ?_⟩
    rintro n t ⟨i, rfl, hi, hn⟩
    refine ⟨fun ht => ?_, fun ht => ?_⟩
    · have ht : i < x.Kids.length := by simpa using ht
      refine ⟨by omega, by omega, sizeZ x.Kids[i], by rw [gd_nat ht]; exact ih _ (List.getElem_mem ht) (hk _ (List.getElem_mem ht)), ?_⟩
      have hs := sum_take_succ (l := x.Kids.map sizeN) (i := i) (by simpa using ht)
      rw [List.getElem_map] at hs
      have hz : sizeZ x.Kids[i] = min (sizeN x.Kids[i] : Int) (1000000 : Int) := rfl
      have hw1 : w64 (n + sizeZ x.Kids[i]) = n + sizeZ x.Kids[i] := w64_id (by omega) (by omega)
      have hw2 : w64 ((i : Int) + 1) = ((i + 1 : Nat) : Int) := w64_id (by omega) (by omega)
      rw [hw1, hw2]
      refine ⟨⟨i + 1, rfl, by omega, ?_⟩, by dsimp only; omega⟩
      rw [hs]; simp; omega
    · have ht : i = x.Kids.length := by have : ¬ i < x.Kids.length := by simpa using ht
                                        omega
      subst ht
      rw [List.take_of_length_le (by simp)] at hn
      refine ⟨fun m => m = n * (if x.Kind = 5 then (timesN x : Int) else 1), fun m hm => ?_, fun h5 => ?_, fun h5 => ?_⟩
      · subst hm
        rw [sizeZ, sizeN_eq, if_neg h, if_pos h2]
        by_cases h5 : x.Kind = 5
        · simp only [if_pos h5]
          have hp : (1 : Int) ≤ timesN x := by omega
          have hp2 : (timesN x : Int) ≤ 1000 := by omega
          generalize (x.Kids.map sizeN).sum = S at hn ⊢
          subst hn
          rw [Int.natCast_mul]
          generalize (timesN x : Int) = T at hp hp2 ⊢
          simp
          rcases Int.le_total (S : Int) 1000000 with hS | hS
          · rw [Int.min_eq_left hS]; omega
          · rw [Int.min_eq_right hS]
            have h1 : (1000000 : Int) * 1 ≤ 1000000 * T := Int.mul_le_mul_of_nonneg_left hp (by omega)
            have h2 : (1000000 : Int) * T ≤ S * T := Int.mul_le_mul_of_nonneg_right hS (by omega)
            omega
        · simp only [if_neg h5]; simp; omega
      · have h5 : x.Kind = 5 := by simpa using h5
        rw [if_pos h5, hT]
        have : ∀ a : Int, 0 ≤ a → a ≤ 1000000 → w64 (a * max 1 (min 1000 (max x.Lo x.Hi))) = a * max 1 (min 1000 (max x.Lo x.Hi)) := fun a h1 h2 => by
          have e1 : 0 ≤ a * max 1 (min 1000 (max x.Lo x.Hi)) := Int.mul_nonneg h1 (by omega)
          have e2 : a * max 1 (min 1000 (max x.Lo x.Hi)) ≤ 1000000 * 1000 := Int.mul_le_mul h2 (by omega) (by omega) (by omega)
          exact w64_id (by omega) (by omega)
        rw [← this n (by omega) (by omega)]
        congr 1; congr 1
        simp; omega
      · have h5 : x.Kind ≠ 5 := by simpa using h5
        rw [if_neg h5]; omega
theorem refSize_ok : ∀ x, Wf x → C_heckleref03_Size x (sizeZ x) := by
  refine rxInd fun x ih hw => ?_
  obtain ⟨hl, hk⟩ := (wf_eq x).1 hw
  refine W_heckleref03_Size x _ ⟨fun h => ?_, fun h => ?_⟩
  · have h : x.Kind = 2 := by simpa using h
    simp [sizeZ, sizeN_eq, h]; omega
  have h : x.Kind ≠ 2 := by simpa using h
  refine ⟨fun b => b = decide (3 ≤ x.Kind ∧ x.Kind ≤ 5), fun b hb => ⟨fun hbt => ?_, fun hbf => ?_⟩, fun h3 => ?_, fun h3 => ⟨fun h4 => ?_, fun h4 => ?_⟩⟩
  · have h2 : 3 ≤ x.Kind ∧ x.Kind ≤ 5 := by rw [hbt] at hb; simpa using hb.symm
    have hT : (timesN x : Int) = max 1 (min 1000 (max x.Lo x.Hi)) := by simp only [timesN]; omega
    have hp : (1 : Int) ≤ timesN x := by omega
    have hp2 : (timesN x : Int) ≤ 1000 := by omega
    refine ⟨fun n t => ∃ i : Nat, t = i ∧ i ≤ x.Kids.length ∧ n = min (((x.Kids.map sizeN).take i).sum : Int) 1000000, fun n t => (x.Kids.length - t).toNat, ⟨0, rfl, by omega, by simp; omega⟩, ?_⟩
    rintro n t ⟨i, rfl, hi, hn⟩
    refine ⟨fun ht => ?_, fun ht => ?_⟩
    · have ht : i < x.Kids.length := by simpa using ht
      refine ⟨by omega, by omega, sizeZ x.Kids[i], by rw [gd_nat ht]; exact ih _ (List.getElem_mem ht) (hk _ (List.getElem_mem ht)), ?_⟩
      have hs := sum_take_succ (l := x.Kids.map sizeN) (i := i) (by simpa using ht)
      rw [List.getElem_map] at hs
      have hz : sizeZ x.Kids[i] = min (sizeN x.Kids[i] : Int) (1000000 : Int) := rfl
      have hw1 : w64 (n + sizeZ x.Kids[i]) = n + sizeZ x.Kids[i] := w64_id (by omega) (by omega)
      have hw2 : w64 ((i : Int) + 1) = ((i + 1 : Nat) : Int) := w64_id (by omega) (by omega)
      rw [hw1, hw2]
      refine ⟨fun hg => ?_, fun hg => ?_⟩
      · have hg : n + sizeZ x.Kids[i] > 1000000 := by simpa using hg
        have hsum : (x.Kids.map sizeN).sum ≥ ((x.Kids.map sizeN).take (i + 1)).sum := by
          conv => lhs; rw [← List.take_append_drop (i + 1) (x.Kids.map sizeN), List.sum_append]
          omega
        rw [sizeZ, sizeN_eq, if_neg h, if_pos h2]
        have : (1000001 : Int) ≤ (((x.Kids.map sizeN).sum * (if x.Kind = 5 then timesN x else 1) : Nat) : Int) := by
          split
          · have h3 : (x.Kids.map sizeN).sum * 1 ≤ (x.Kids.map sizeN).sum * timesN x := Nat.mul_le_mul_left _ (by omega)
            omega
          · omega
        omega
      · have hg : ¬ n + sizeZ x.Kids[i] > 1000000 := by simpa using hg
        exact ⟨⟨i + 1, rfl, by omega, by rw [hs]; simp; omega⟩, by dsimp only; omega⟩
    · have ht : i = x.Kids.length := by have : ¬ i < x.Kids.length := by simpa using ht
                                        omega
      subst ht
      rw [List.take_of_length_le (by simp)] at hn
      refine ⟨fun m => m = n * (if x.Kind = 5 then (timesN x : Int) else 1), fun m hm => ?_, fun h5 => ?_, fun h5 => ?_⟩
      · subst hm
        rw [sizeZ, sizeN_eq, if_neg h, if_pos h2]
        by_cases h5 : x.Kind = 5
        · simp only [if_pos h5]
          generalize (x.Kids.map sizeN).sum = S at hn ⊢
          subst hn
          rw [Int.natCast_mul]
          generalize (timesN x : Int) = T at hp hp2 ⊢
          simp
          rcases Int.le_total (S : Int) 1000000 with hS | hS
          · rw [Int.min_eq_left hS]; omega
          · rw [Int.min_eq_right hS]
            have h1 : (1000000 : Int) * 1 ≤ 1000000 * T := Int.mul_le_mul_of_nonneg_left hp (by omega)
            have h2 : (1000000 : Int) * T ≤ S * T := Int.mul_le_mul_of_nonneg_right hS (by omega)
            omega
        · simp only [if_neg h5]; simp; omega
      · have h5 : x.Kind = 5 := by simpa using h5
        rw [if_pos h5, hT]
        have : ∀ a : Int, 0 ≤ a → a ≤ 1000000 → w64 (a * max 1 (min 1000 (max x.Lo x.Hi))) = a * max 1 (min 1000 (max x.Lo x.Hi)) := fun a h1 h2 => by
          have e1 : 0 ≤ a * max 1 (min 1000 (max x.Lo x.Hi)) := Int.mul_nonneg h1 (by omega)
          have e2 : a * max 1 (min 1000 (max x.Lo x.Hi)) ≤ 1000000 * 1000 := Int.mul_le_mul h2 (by omega) (by omega) (by omega)
          exact w64_id (by omega) (by omega)
        rw [← this n (by omega) (by omega)]
        congr 1; congr 1
        simp; omega
      · have h5 : x.Kind ≠ 5 := by simpa using h5
        rw [if_neg h5]; omega
  · have h2 : ¬ (3 ≤ x.Kind ∧ x.Kind ≤ 5) := by rw [hbf] at hb; simpa using hb.symm
    rw [sizeZ, sizeN_eq, if_neg h, if_neg h2]; omega
  · have h3' : x.Kind = 3 := by simpa using h3
    simp [h3']
  · have h4' : x.Kind = 4 := by simpa using h4
    simp [h4']
  · have h3' : x.Kind ≠ 3 := by simpa using h3
    have h4' : x.Kind ≠ 4 := by simpa using h4
    show decide (x.Kind = 5) = decide (3 ≤ x.Kind ∧ x.Kind ≤ 5)
    rw [decide_eq_decide]; omega
def nodesZ : api_Rx → Int → Int := cata fun x l most => l.foldl (fun m g => if m ≥ 0 then g m else m) (most - 1)
theorem nodesZ_eq (x : api_Rx) (most : Int) : nodesZ x most = x.Kids.foldl (fun m y => if m ≥ 0 then nodesZ y m else m) (most - 1) := by
  unfold nodesZ
  rw [cata_eq, List.foldl_map]
theorem nodesZ_le : ∀ x most, 0 ≤ most → nodesZ x most ≤ most - 1 ∧ -1 ≤ nodesZ x most := by
  refine rxInd fun x ih most hm => ?_
  rw [nodesZ_eq]
  have key : ∀ (l : List api_Rx) (m : Int), (∀ y ∈ l, y ∈ x.Kids) → -1 ≤ m → (l.foldl (fun m y => if m ≥ 0 then nodesZ y m else m) m) ≤ m ∧ -1 ≤ l.foldl (fun m y => if m ≥ 0 then nodesZ y m else m) m := by
    intro l
    induction l with
    | nil => intro m _ h; exact ⟨Int.le_refl _, h⟩
    | cons y r ih2 =>
      intro m hl h
      simp only [List.foldl_cons]
      split
      · rename_i h0
        obtain ⟨h1, h2⟩ := ih y (hl y (List.mem_cons_self ..)) m h0
        obtain ⟨h3, h4⟩ := ih2 _ (fun z hz => hl z (List.mem_cons_of_mem _ hz)) h2
        exact ⟨by omega, h4⟩
      · exact ih2 m (fun z hz => hl z (List.mem_cons_of_mem _ hz)) h
  exact key x.Kids (most - 1) (fun _ h => h) (by omega)
theorem foldl_take_succ {α β : Type} {f : β → α → β} {b : β} {l : List α} {i : Nat} (h : i < l.length) : (l.take (i + 1)).foldl f b = f ((l.take i).foldl f b) l[i] := by
  rw [List.take_succ_eq_append_getElem h, List.foldl_append]; rfl
theorem nodes_pre {x : api_Rx} {most : Int} (hm : 0 ≤ most) (i : Nat) : -1 ≤ (x.Kids.take i).foldl (fun m y => if m ≥ 0 then nodesZ y m else m) (most - 1) ∧ (x.Kids.take i).foldl (fun m y => if m ≥ 0 then nodesZ y m else m) (most - 1) < most := by
  induction i with
  | zero => simp; omega
  | succ i ih =>
    by_cases h : i < x.Kids.length
    · rw [foldl_take_succ h]
      split
      · rename_i h0
        have := nodesZ_le x.Kids[i] _ h0
        omega
      · exact ih
    · rw [List.take_of_length_le (by omega)] at ih ⊢; exact ih
theorem rxNodes_ok : ∀ x, Wf x → ∀ most, 0 ≤ most → most ≤ 1000000 → C_rx_nodes x most (nodesZ x most) := by
  refine rxInd fun x ih hw most hm0 hm1 => ?_
  obtain ⟨hl, hk⟩ := (wf_eq x).1 hw
  rw [nodesZ_eq]
  have hw0 : w64 (most - 1) = most - 1 := w64_id (by omega) (by omega)
  refine W_rx_nodes x most _ ⟨fun m t => ∃ i : Nat, t = i ∧ i ≤ x.Kids.length ∧ m = (x.Kids.take i).foldl (fun m y => if m ≥ 0 then nodesZ y m else m) (most - 1), fun m t => (x.Kids.length - t).toNat, ⟨0, rfl, by omega, by rw [hw0]; rfl⟩, ?_⟩
  rintro m t ⟨i, rfl, hi, hm⟩
  have hb := nodes_pre (x := x) hm0 i
  rw [← hm] at hb
  refine ⟨fun ht => ?_, fun ht => ?_⟩
  · have ht : i < x.Kids.length := by simpa using ht
    have hw2 : w64 ((i : Int) + 1) = ((i + 1 : Nat) : Int) := w64_id (by omega) (by omega)
    have hs := foldl_take_succ (f := fun m y => if m ≥ 0 then nodesZ y m else m) (b := most - 1) ht
    rw [← hm] at hs
    refine ⟨fun m' => m' = if m ≥ 0 then nodesZ x.Kids[i] m else m, fun m' hm' => ?_, by omega, by omega, fun hg => ?_, fun hg => ?_⟩
    · rw [hw2]
      exact ⟨⟨i + 1, rfl, by omega, by rw [hs, hm']⟩, by dsimp only; omega⟩
    · have hg : m ≥ 0 := by simpa using hg
      refine ⟨nodesZ x.Kids[i] m, ?_, by rw [if_pos hg]⟩
      rw [gd_nat ht]
      exact ih _ (List.getElem_mem ht) (hk _ (List.getElem_mem ht)) _ hg (by omega)
    · have hg : ¬ m ≥ 0 := by simpa using hg
      rw [if_neg hg]
  · have ht : i = x.Kids.length := by have : ¬ i < x.Kids.length := by simpa using ht
                                      omega
    subst ht
    rw [hm, List.take_of_length_le (Nat.le_refl _)]
theorem refNodes_ok : ∀ x, Wf x → ∀ most, 0 ≤ most → most ≤ 1000000 → C_heckleref03_Nodes x most (nodesZ x most) := by
  refine rxInd fun x ih hw most hm0 hm1 => ?_
  obtain ⟨hl, hk⟩ := (wf_eq x).1 hw
  rw [nodesZ_eq]
  have hw0 : w64 (most - 1) = most - 1 := w64_id (by omega) (by omega)
  refine W_heckleref03_Nodes x most _ ⟨fun m t => ∃ i : Nat, t = i ∧ i ≤ x.Kids.length ∧ m = (x.Kids.take i).foldl (fun m y => if m ≥ 0 then nodesZ y m else m) (most - 1), fun m t => (x.Kids.length - t).toNat, ⟨0, rfl, by omega, by rw [hw0]; rfl⟩, ?_⟩
  rintro m t ⟨i, rfl, hi, hm⟩
  have hb := nodes_pre (x := x) hm0 i
  rw [← hm] at hb
  have hstay : ∀ (l : List api_Rx) (m : Int), m < 0 → l.foldl (fun m y => if m ≥ 0 then nodesZ y m else m) m = m := by
    intro l
    induction l with
    | nil => intro m _; rfl
    | cons y r ih2 => intro m h; rw [List.foldl_cons, if_neg (by omega)]; exact ih2 m h
  refine ⟨fun ht => ?_, fun ht => ?_⟩
  · simp only [List.length_map, Bool.and_eq_true, decide_eq_true_eq] at ht
    obtain ⟨ht, hg⟩ := ht
    have ht : i < x.Kids.length := by omega
    have hw2 : w64 ((i : Int) + 1) = ((i + 1 : Nat) : Int) := w64_id (by omega) (by omega)
    have hs := foldl_take_succ (f := fun m y => if m ≥ 0 then nodesZ y m else m) (b := most - 1) ht
    rw [← hm, if_pos hg] at hs
    refine ⟨by omega, by omega, nodesZ x.Kids[i] m, ?_, ?_⟩
    · rw [gd_nat ht]
      exact ih _ (List.getElem_mem ht) (hk _ (List.getElem_mem ht)) _ hg (by omega)
    · rw [hw2]
      exact ⟨⟨i + 1, rfl, by omega, hs.symm⟩, by dsimp only; omega⟩
  · simp only [List.length_map, Bool.and_eq_false_iff, decide_eq_false_iff_not] at ht
    rcases Nat.lt_or_ge i x.Kids.length with hlt | hge
    · have hneg : m < 0 := by omega
      have e := List.foldl_append (f := fun m y => if m ≥ 0 then nodesZ y m else m) (b := most - 1) (l := x.Kids.take i) (l' := x.Kids.drop i)
      rw [List.take_append_drop, ← hm, hstay _ _ hneg] at e
      exact e
    · rw [hm, List.take_of_length_le hge]
def noSet (s : arr4_uint64) : Bool := s.e0 == 0 && (s.e1 == 0 && (s.e2 == 0 && (s.e3 == 0 && true)))
def timesB (lo hi : Int) : Bool := decide (0 ≤ lo) && (decide (lo ≤ 20) && (hi == -1 || decide (hi ≥ max 1 lo) && decide (hi ≤ 20)))
def ownB (x : api_Rx) : Bool :=
  if x.Kind = 5 then noSet x.Set && (decide (x.Kids.length = 1) && timesB x.Lo x.Hi)
  else if x.Kind = 1 then noSet x.Set && (x.Lo == 0 && x.Hi == 0 && decide (x.Kids.length = 0))
  else if x.Kind = 2 then !noSet x.Set && (x.Lo == 0 && x.Hi == 0 && decide (x.Kids.length = 0))
  else if x.Kind = 3 ∨ x.Kind = 4 then noSet x.Set && (x.Lo == 0 && x.Hi == 0 && decide (x.Kids.length ≥ 2))
  else false
def oddK (x k : api_Rx) : Bool := k.Kind == x.Kind && x.Kind != 5
def rgt : api_Rx → Int → Bool := cata fun x l deep => decide (deep > 0) && ownB x && (x.Kids.zip l).all fun (k, g) => !oddK x k && g (deep - 1)
theorem rgt_eq (x : api_Rx) (deep : Int) : rgt x deep = (decide (deep > 0) && ownB x && x.Kids.all fun k => !oddK x k && rgt k (deep - 1)) := by
  unfold rgt
  rw [cata_eq]
  congr 1
  rw [List.zip_map_right, List.all_map]
  generalize x.Kids = l
  induction l with
  | nil => rfl
  | cons y r ih => simp only [List.zip_cons_cons, List.all_cons, Function.comp] at ih ⊢; rw [ih]; rfl
def pat (x : api_Rx) : rx_pattern := { Kind := x.Kind, Set := x.Set, Lo := x.Lo, Hi := x.Hi, Kids := x.Kids }
theorem times_ok (x : rx_pattern) : C_rx_pattern_times x (timesB x.Lo x.Hi) := by
  refine W_rx_pattern_times x _ ⟨fun h => ?_, fun h => ?_⟩
  · simp only [Bool.or_eq_true, decide_eq_true_eq] at h
    simp only [timesB, Bool.and_eq_false_iff, decide_eq_false_iff_not]; omega
  · simp only [Bool.or_eq_false_iff, decide_eq_false_iff_not] at h
    have h1 : decide (0 ≤ x.Lo) = true := by simp; omega
    have h2 : decide (x.Lo ≤ 20) = true := by simp; omega
    simp only [timesB, h1, h2, Bool.true_and]
    congr 2
    have : (if x.Lo > 1 then x.Lo else 1) = max 1 x.Lo := by omega
    rw [this]
theorem len0 (l : List api_Rx) : decide (l = []) = (decide ((2 : Int) ≤ (l.length : Int) + 2) && (l.length : Int) + 2 == 2) := by
  cases l with
  | nil => rfl
  | cons a r =>
    have : ((((a :: r).length : Nat) : Int) + 2 == 2) = false := by
      show decide _ = false
      simp only [decide_eq_false_iff_not, List.length_cons]; omega
    rw [this]; simp
theorem own_ok (x : api_Rx) (hl : x.Kids.length < 1099511627776) : C_rx_pattern_own (pat x) (ownB x) := by
  refine W_rx_pattern_own (pat x) _ ⟨fun many => many = (if x.Kind = 1 ∨ x.Kind = 2 then (x.Kids.length : Int) + 2 else x.Kids.length) ∧ (x.Kind = 1 ∨ x.Kind = 2 ∨ x.Kind = 3 ∨ x.Kind = 4), ?_, fun h5 => ?_, fun h5 => ?_⟩
  · rintro many ⟨rfl, hk⟩
    show ownB x = ((!noSet x.Set) == (x.Kind == 2) && (x.Lo == 0 && (x.Hi == 0 && (decide (_ ≥ 2) && (!decide (x.Kind < 3) || _ == 2)))))
    rcases hk with h | h | h | h
    all_goals simp only [ownB, h]
    · cases noSet x.Set <;> cases hlo : (x.Lo == 0) <;> cases hhi : (x.Hi == 0) <;> simp [len0]
    · cases noSet x.Set <;> cases hlo : (x.Lo == 0) <;> cases hhi : (x.Hi == 0) <;> simp [len0]
    · cases noSet x.Set <;> cases hlo : (x.Lo == 0) <;> cases hhi : (x.Hi == 0) <;> simp <;> omega
    · cases noSet x.Set <;> cases hlo : (x.Lo == 0) <;> cases hhi : (x.Hi == 0) <;> simp <;> omega
  · have h5 : x.Kind = 5 := by simpa [pat] using h5
    refine ⟨fun hs => ⟨fun h1 => ⟨_, times_ok (pat x), ?_⟩, fun h1 => ?_⟩, fun hs => ?_⟩
    · have h1 : x.Kids.length = 1 := by simp [pat] at h1; omega
      have hs : noSet x.Set = true := by rw [Bool.not_not] at hs; exact hs
      simp only [ownB, if_pos h5, hs, h1]; rfl
    · have h1 : x.Kids.length ≠ 1 := by simp [pat] at h1; omega
      simp [ownB, if_pos h5, h1]
    · have hs : noSet x.Set = false := by rw [Bool.not_not] at hs; exact hs
      simp [ownB, if_pos h5, hs]
  · have h5 : x.Kind ≠ 5 := by simpa [pat] using h5
    refine ⟨fun b => b = decide (x.Kind = 1 ∨ x.Kind = 2), fun b hb => ⟨fun h => ?_, fun h => ?_⟩, fun h => ?_, fun h => ?_⟩
    · have h12 : x.Kind = 1 ∨ x.Kind = 2 := by rw [h] at hb; simpa using hb.symm
      refine ⟨?_, by omega⟩
      rw [if_pos h12]; exact w64_id (by show _ ≤ (x.Kids.length : Int) + 2; omega) (by show (x.Kids.length : Int) + 2 ≤ _; omega)
    · have h12 : ¬ (x.Kind = 1 ∨ x.Kind = 2) := by rw [h] at hb; simpa using hb.symm
      refine ⟨fun b => b = decide (x.Kind = 3 ∨ x.Kind = 4), fun b' hb' => ⟨fun h' => ?_, fun h' => ?_⟩, fun h' => ?_, fun h' => ?_⟩
      · have h34 : x.Kind = 3 ∨ x.Kind = 4 := by rw [h'] at hb'; simpa using hb'.symm
        exact ⟨by rw [if_neg h12]; rfl, by omega⟩
      · have h34 : ¬ (x.Kind = 3 ∨ x.Kind = 4) := by rw [h'] at hb'; simpa using hb'.symm
        simp only [ownB]; rw [if_neg h5, if_neg (by omega), if_neg (by omega), if_neg h34]
      · have : x.Kind = 3 := by simpa [pat] using h'
        simp [pat, this]
      · have : x.Kind ≠ 3 := by simpa [pat] using h'
        simp [pat, this]; rfl
    · have : x.Kind = 1 := by simpa [pat] using h
      simp [pat, this]
    · have : x.Kind ≠ 1 := by simpa [pat] using h
      simp [pat, this]; rfl
theorem rxRight_ok : ∀ x, Wf x → ∀ deep, -1000 ≤ deep → deep ≤ 1000 → C_rx_pattern_right (pat x) deep (rgt x deep) := by
  refine rxInd fun x ih hw deep hd0 hd1 => ?_
  obtain ⟨hl, hk⟩ := (wf_eq x).1 hw
  have hodd : ∀ k ∈ x.Kids, 0 < deep → C_rx_pattern_right_L1 k (pat x) deep (oddK x k || !rgt k (deep - 1)) (pat x) deep := by
    intro k hkm hpos
    have hw1 : w64 (deep - 1) = deep - 1 := w64_id (by omega) (by omega)
    have hrec : C_rx_pattern_right ({ Kind := api_Rx.Kind k, Set := api_Rx.Set k, Lo := api_Rx.Lo k, Hi := api_Rx.Hi k, Kids := api_Rx.Kids k }) (w64 (deep - 1)) (rgt k (deep - 1)) := by
      rw [hw1]; exact ih k hkm (hk k hkm) _ (by omega) (by omega)
    refine W_rx_pattern_right_L1 k (pat x) deep _ _ _ ⟨fun h1 => ⟨fun h2 => ?_, fun h2 => ⟨_, hrec, ?_, rfl, rfl⟩⟩, fun h1 => ⟨_, hrec, ?_, rfl, rfl⟩⟩
    · have h1 : (k.Kind == x.Kind) = true := h1
      have h2 : (x.Kind != 5) = true := h2
      simp [oddK, h1, h2]
    · have h2 : (x.Kind != 5) = false := h2
      simp [oddK, h2]
    · have h1 : (k.Kind == x.Kind) = false := h1
      simp [oddK, h1]
  have hall : ∀ l : List api_Rx, l.length < 1099511627776 → (∀ k ∈ l, k ∈ x.Kids) → 0 < deep → C_slices_ContainsFunc__api_Rx_api_Rx_at_rx_pattern_right_L1 l (pat x) deep (l.any fun k => oddK x k || !rgt k (deep - 1)) (pat x) deep := by
    intro l hll hlm hpos
    obtain ⟨z, hz, hz2⟩ : ∃ z : Int, (decide (z ≥ 0) = l.any fun k => oddK x k || !rgt k (deep - 1)) ∧ C_slices_IndexFunc__api_Rx_api_Rx_at_rx_pattern_right_L1 l (pat x) deep z (pat x) deep := by
      have hfind : ∀ i : Nat, (∀ (j : Nat) (hj : j < l.length), j < i → (oddK x l[j] || !rgt l[j] (deep - 1)) = false) → (i = l.length → (l.any fun k => oddK x k || !rgt k (deep - 1)) = false) := by
        intro i h e
        subst e
        rw [List.any_eq_false]
        intro k hkm
        obtain ⟨j, hj, rfl⟩ := List.mem_iff_getElem.1 hkm
        rw [h j hj hj]; simp
      cases hany : l.any fun k => oddK x k || !rgt k (deep - 1) with
      | false =>
        refine ⟨-1, by simp, ?_⟩
        refine W_slices_IndexFunc__api_Rx_api_Rx_at_rx_pattern_right_L1 l (pat x) deep _ _ _ ⟨fun a b c d e f g h o t => (⟨a, ⟨b, c, d, e⟩, f, g, h⟩ : rx_pattern) = pat x ∧ o = deep ∧ ∃ i : Nat, t = i ∧ i ≤ l.length, fun _ _ _ _ _ _ _ _ _ t => (l.length - t).toNat, ⟨rfl, rfl, 0, rfl, by omega⟩, ?_⟩
        rintro a b c d e f g h o t ⟨hp, rfl, i, rfl, hi⟩
        refine ⟨fun ht => ?_, fun ht => ⟨rfl, hp.symm, rfl⟩⟩
        have ht : i < l.length := by simpa using ht
        have hw2 : w64 ((i : Int) + 1) = ((i + 1 : Nat) : Int) := w64_id (by omega) (by omega)
        refine ⟨by omega, by omega, _, pat x, o, by rw [gd_nat ht, hp]; exact hodd l[i] (hlm _ (List.getElem_mem ht)) hpos, fun hb => ?_, fun hb => ?_⟩
        · rw [List.any_eq_false] at hany
          exact absurd hb (hany _ (List.getElem_mem ht))
        · rw [hw2]
          exact ⟨⟨rfl, rfl, i + 1, rfl, by omega⟩, by dsimp only; omega⟩
      | true =>
        obtain ⟨k0, hk0, hk1⟩ := List.any_eq_true.1 hany
        have hex : ∃ i : Nat, ∃ hi : i < l.length, (oddK x l[i] || !rgt l[i] (deep - 1)) = true ∧ ∀ (j : Nat) (hj : j < i), (oddK x (l[j]'(by omega)) || !rgt (l[j]'(by omega)) (deep - 1)) = false := by
          obtain ⟨j0, hj0, rfl⟩ := List.mem_iff_getElem.1 hk0
          induction j0 using Nat.strongRecOn with
          | _ j0 ihj =>
            by_cases hex : ∃ j : Nat, ∃ hj : j < j0, (oddK x (l[j]'(by omega)) || !rgt (l[j]'(by omega)) (deep - 1)) = true
            · obtain ⟨j, hj, hj1⟩ := hex
              exact ihj j hj (by omega) (List.getElem_mem _) hj1
            · refine ⟨j0, hj0, hk1, fun j hj => ?_⟩
              cases hb : (oddK x (l[j]'(by omega)) || !rgt (l[j]'(by omega)) (deep - 1)) with
              | false => rfl
              | true => exact absurd ⟨j, hj, hb⟩ hex
        obtain ⟨n, hn, hn1, hn2⟩ := hex
        refine ⟨n, by simp, ?_⟩
        refine W_slices_IndexFunc__api_Rx_api_Rx_at_rx_pattern_right_L1 l (pat x) deep _ _ _ ⟨fun a b c d e f g h o t => (⟨a, ⟨b, c, d, e⟩, f, g, h⟩ : rx_pattern) = pat x ∧ o = deep ∧ ∃ i : Nat, t = i ∧ i ≤ n, fun _ _ _ _ _ _ _ _ _ t => (l.length - t).toNat, ⟨rfl, rfl, 0, rfl, by omega⟩, ?_⟩
        rintro a b c d e f g h o t ⟨hp, rfl, i, rfl, hi⟩
        refine ⟨fun ht => ?_, fun ht => ?_⟩
        · have ht : i < l.length := by simpa using ht
          have hw2 : w64 ((i : Int) + 1) = ((i + 1 : Nat) : Int) := w64_id (by omega) (by omega)
          refine ⟨by omega, by omega, _, pat x, o, by rw [gd_nat ht, hp]; exact hodd l[i] (hlm _ (List.getElem_mem ht)) hpos, fun hb => ⟨?_, rfl, rfl⟩, fun hb => ?_⟩
          · rcases Nat.lt_or_ge i n with hlt | hge
            · rw [hn2 i hlt] at hb; cases hb
            · have : i = n := by omega
              rw [this]
          · rcases Nat.lt_or_ge i n with hlt | hge
            · rw [hw2]
              exact ⟨⟨rfl, rfl, i + 1, rfl, by omega⟩, by dsimp only; omega⟩
            · have : i = n := by omega
              subst this
              rw [hn1] at hb; cases hb
        · have : ¬ i < l.length := by simpa using ht
          omega
    refine W_slices_ContainsFunc__api_Rx_api_Rx_at_rx_pattern_right_L1 l (pat x) deep _ _ _ ⟨z, _, _, hz2, hz.symm, rfl, rfl⟩
  rw [rgt_eq]
  refine W_rx_pattern_right (pat x) deep _ ⟨fun hd => ⟨_, own_ok x hl, fun ho => ⟨_, _, _, hall x.Kids hl (fun _ h => h) (by simpa using hd), ?_⟩, fun ho => ?_⟩, fun hd => ?_⟩
  · rw [hd, ho]
    simp only [Bool.true_and]
    rw [List.any_eq_not_all_not, Bool.not_not]
    congr 1
    funext k
    cases oddK x k <;> cases rgt k (deep - 1) <;> rfl
  · rw [ho]; simp
  · rw [hd]; simp
def rightB (x : api_Rx) : Bool := rgt x 20 && (decide (sizeZ x ≤ 200) && decide (nodesZ x 1000 ≥ 0))
theorem rxRightAll_ok (x : api_Rx) (hw : Wf x) : C_rx_Right x (rightB x) := by
  refine W_rx_Right x _ ⟨_, rxRight_ok x hw 20 (by omega) (by omega), fun h => ⟨_, rxSize_ok x hw, fun h2 => ⟨_, rxNodes_ok x hw 1000 (by omega) (by omega), ?_⟩, fun h2 => ?_⟩, fun h => ?_⟩
  · rw [rightB, h, h2]; rfl
  · rw [rightB, h2]; simp
  · rw [rightB, h]; simp
end Go.Ev.Pl

set_option linter.unusedSimpArgs false
set_option linter.unusedVariables false
namespace Go.Ev.Pl
open Go Go.Ev
theorem noSet_eq (s : arr4_uint64) : (s.e0 == 0 && (s.e1 == 0 && (s.e2 == 0 && (s.e3 == 0 && true)))) = noSet s := rfl
theorem len_zero (l : List api_Rx) : ((l.length : Int) == 0) = decide (l.length = 0) := by
  show decide _ = decide _
  simp only [decide_eq_decide]; omega
theorem refRight_ok : ∀ x, Wf x → ∀ deep, -1000 ≤ deep → deep ≤ 1000 → C_heckleref03_right x deep (rgt x deep) := by
  refine rxInd fun x ih hw deep hd0 hd1 => ?_
  obtain ⟨hl, hk⟩ := (wf_eq x).1 hw
  have hw1 : w64 (deep - 1) = deep - 1 := w64_id (by omega) (by omega)
  rw [rgt_eq]
  refine W_heckleref03_right x deep _ ⟨fun h => ?_, fun h => ?_⟩
  · have : ¬ deep > 0 := by have : deep < 1 := by simpa using h
                            omega
    simp [this]
  have hd : decide (deep > 0) = true := by have : ¬ deep < 1 := by simpa using h
                                           simp; omega
  have hpos : 0 < deep := by simpa using hd
  rw [hd, Bool.true_and]
  simp only [noSet_eq, Bool.not_not]
  refine ⟨fun h1 => ?_, fun h1 => ⟨fun h2 => ?_, fun h2 => ⟨fun h5 => ?_, fun h5 => ?_⟩⟩⟩
  · have h1 : x.Kind = 1 := by simpa using h1
    have : x.Kids.all (fun k => !oddK x k && rgt k (deep - 1)) = true ∨ ¬ x.Kids.length = 0 := by
      cases x.Kids with
      | nil => exact .inl rfl
      | cons a r => right; simp
    simp only [ownB, h1]
    rcases this with h | h
    · rw [h, len_zero]; simp
    · rw [len_zero]; simp [h]
  · have h2 : x.Kind = 2 := by simpa using h2
    have : x.Kids.all (fun k => !oddK x k && rgt k (deep - 1)) = true ∨ ¬ x.Kids.length = 0 := by
      cases x.Kids with
      | nil => exact .inl rfl
      | cons a r => right; simp
    simp only [ownB, h2]
    rcases this with h | h
    · rw [h, len_zero]; simp
    · rw [len_zero]; simp [h]
  · have h5 : x.Kind = 5 := by simpa using h5
    have hmax : (if true = true then if x.Lo > 1 then x.Lo else 1 else if x.Lo < 1 then x.Lo else 1) = max 1 x.Lo := by simp; omega
    have hmax2 : (if x.Lo > 1 then x.Lo else 1) = max 1 x.Lo := by omega
    simp only [eq_self, if_true, hmax2]
    have hown : ownB x = (noSet x.Set && (decide (x.Kids.length = 1) && timesB x.Lo x.Hi)) := by simp only [ownB, if_pos h5]
    refine ⟨fun hs => ⟨fun hlo => ⟨fun hlo2 => ⟨fun hhi => ⟨fun h1 => ⟨fun _ _ _ _ _ => ?_, _, ih _ ?_ (hk _ ?_) _ (by omega) (by omega), ?_⟩, fun h1 => ?_⟩, fun hhi => ?_⟩, fun hlo2 => ?_⟩, fun hlo => ?_⟩, fun hs => ?_⟩
    · have h1' : x.Kids.length = 1 := by (rw [List.length_map] at h1; have : (x.Kids.length : Int) = 1 := by simpa using h1); omega
      omega
    · have h1' : x.Kids.length = 1 := by (rw [List.length_map] at h1; have : (x.Kids.length : Int) = 1 := by simpa using h1); omega
      match hq : x.Kids, h1' with
      | [a], _ => simp
    · have h1' : x.Kids.length = 1 := by (rw [List.length_map] at h1; have : (x.Kids.length : Int) = 1 := by simpa using h1); omega
      match hq : x.Kids, h1' with
      | [a], _ => simp
    · -- the kid's word
      have h1' : x.Kids.length = 1 := by (rw [List.length_map] at h1; have : (x.Kids.length : Int) = 1 := by simpa using h1); omega
      match hq : x.Kids, h1' with
      | [a], _ =>
        have ht : timesB x.Lo x.Hi = true := by
          have a1 : decide (0 ≤ x.Lo) = true := by have : x.Lo ≥ 0 := by simpa using hlo
                                                   simp; omega
          simp only [timesB, a1, hlo2, hhi, Bool.true_and]
        rw [hown, hs, hq, ht, hw1]
        have ho : oddK x a = false := by simp [oddK, h5]
        simp [ho]
    · have h1' : x.Kids.length ≠ 1 := by intro e; rw [List.length_map, e] at h1; simp at h1
      rw [hown]; simp [h1']
    · rw [hown]; simp only [timesB]; rw [hhi]; simp
    · rw [hown]; simp only [timesB]; rw [hlo2]; simp
    · have : decide (0 ≤ x.Lo) = false := by have : ¬ x.Lo ≥ 0 := by simpa using hlo
                                             simp; omega
      rw [hown]; simp only [timesB]; rw [this]; simp
    · rw [hown, hs]; simp
  · have h1 : x.Kind ≠ 1 := by simpa using h1
    have h2 : x.Kind ≠ 2 := by simpa using h2
    have h5 : x.Kind ≠ 5 := by simpa using h5
    have hodd : ∀ k, oddK x k = (k.Kind == x.Kind) := fun k => by simp [oddK, h5]
    refine ⟨fun b => b = decide (x.Kind = 3 ∨ x.Kind = 4), fun b hb => ⟨fun hbt => ⟨fun hg => ?_, fun hg => ?_⟩, fun hbf => ?_⟩, fun h3 => ?_, fun h3 => ?_⟩
    · have h34 : x.Kind = 3 ∨ x.Kind = 4 := by rw [hbt] at hb; simpa using hb.symm
      have : ownB x = false := by
        simp only [ownB, if_neg h5, if_neg h1, if_neg h2, if_pos h34]
        simp only [Bool.or_eq_true, decide_eq_true_eq, Bool.not_eq_true', Bool.and_eq_false_iff] at hg ⊢
        rcases hg with hg | hg | hg
        · exact .inl hg
        · exact .inr (.inl (hg.imp id id))
        · right; right; simp; omega
      rw [this]; simp
    · have h34 : x.Kind = 3 ∨ x.Kind = 4 := by rw [hbt] at hb; simpa using hb.symm
      have hown : ownB x = true := by
        simp only [ownB, if_neg h5, if_neg h1, if_neg h2, if_pos h34]
        simp only [Bool.or_eq_false_iff, decide_eq_false_iff_not, Bool.not_eq_false', Bool.and_eq_true, decide_eq_true_eq] at hg ⊢
        obtain ⟨g1, g2, g3⟩ := hg
        exact ⟨g1, g2, by omega⟩
      rw [hown, Bool.true_and]
      refine ⟨fun t => ∃ i : Nat, t = i ∧ i ≤ x.Kids.length ∧ (x.Kids.take i).all (fun k => !oddK x k && rgt k (deep - 1)) = true, fun t => (x.Kids.length - t).toNat, ⟨0, rfl, by omega, rfl⟩, ?_⟩
      rintro t ⟨i, rfl, hi, hall⟩
      refine ⟨fun ht => ?_, fun ht => ?_⟩
      · have ht : i < x.Kids.length := by simpa using ht
        have hw2 : w64 ((i : Int) + 1) = ((i + 1 : Nat) : Int) := w64_id (by omega) (by omega)
        have hm := List.getElem_mem ht
        have hfail : ∀ {b : Bool}, (!oddK x x.Kids[i] && rgt x.Kids[i] (deep - 1)) = false → (x.Kids.all fun k => !oddK x k && rgt k (deep - 1)) = false := fun h => by
          rw [List.all_eq_false]; exact ⟨_, hm, by rw [h]; simp⟩
        refine ⟨by omega, by omega, fun ho => ?_, fun ho => ⟨fun _ => by omega, fun _ => by omega, _, by rw [gd_nat ht, hw1]; exact ih _ hm (hk _ hm) _ (by omega) (by omega), fun hr => ?_, fun hr => ?_⟩⟩
        · rw [gd_nat ht] at ho
          exact (hfail (b := true) (by rw [hodd, ho]; rfl)).symm ▸ rfl
        · have hr : rgt x.Kids[i] (deep - 1) = false := by simpa using hr
          exact hfail (b := true) (by rw [hr]; simp)
        · have hr : rgt x.Kids[i] (deep - 1) = true := by simpa using hr
          rw [gd_nat ht] at ho
          rw [hw2]
          refine ⟨⟨i + 1, rfl, by omega, ?_⟩, by dsimp only; omega⟩
          rw [List.take_succ_eq_append_getElem ht, List.all_append, hall]
          simp [hodd, ho, hr]
      · have ht : i = x.Kids.length := by have : ¬ i < x.Kids.length := by simpa using ht
                                          omega
        subst ht
        rw [List.take_of_length_le (Nat.le_refl _)] at hall
        exact hall
    · have h34 : ¬ (x.Kind = 3 ∨ x.Kind = 4) := by rw [hbf] at hb; simpa using hb.symm
      have : ownB x = false := by simp only [ownB, if_neg h5, if_neg h1, if_neg h2, if_neg h34]
      rw [this]; simp
    · have : x.Kind = 3 := by simpa using h3
      simp [this]
    · have : x.Kind ≠ 3 := by simpa using h3
      simp [this]; rfl
theorem refRightAll_ok (x : api_Rx) (hw : Wf x) : C_heckleref03_Right x (rightB x) := by
  refine W_heckleref03_Right x _ ⟨_, refRight_ok x hw 20 (by omega) (by omega), fun h => ⟨_, refSize_ok x hw, fun h2 => ⟨_, refNodes_ok x hw 1000 (by omega) (by omega), ?_⟩, fun h2 => ?_⟩, fun h => ?_⟩
  · rw [rightB, h, h2]; rfl
  · rw [rightB, h2]; simp
  · rw [rightB, h]; simp
def nullB : api_Rx → Bool := cata fun x l => if x.Kind = 1 then true else if x.Kind = 3 then l.all id else if x.Kind = 4 then l.any id else if x.Kind = 5 then decide (x.Lo ≤ 0) || l.all id else false
theorem nullB_eq (x : api_Rx) : nullB x = if x.Kind = 1 then true else if x.Kind = 3 then x.Kids.all nullB else if x.Kind = 4 then x.Kids.any nullB else if x.Kind = 5 then decide (x.Lo ≤ 0) || x.Kids.all nullB else false := by
  unfold nullB; rw [cata_eq]; simp only [List.all_map, List.any_map]; rfl
end Go.Ev.Pl

set_option linter.unusedSimpArgs false
set_option linter.unusedVariables false
namespace Go.Ev.Pl
open Go Go.Ev
structure GA where
  n : Nat
  sets : List arr4_uint64
  null : Bool
  first : Nat → Bool
  last : Nat → Bool
  follow : Nat → Nat → Bool
def gEmpty : GA := ⟨0, [], true, fun _ => false, fun _ => false, fun _ _ => false⟩
def gNone : GA := ⟨0, [], false, fun _ => false, fun _ => false, fun _ _ => false⟩
def gByte (s : arr4_uint64) : GA := ⟨1, [s], false, fun i => i == 0, fun i => i == 0, fun _ _ => false⟩
def blk (n : Nat) (p q : Nat → Nat → Bool) (r : Nat → Nat → Bool) (i j : Nat) : Bool :=
  if i < n then (if j < n then p i j else r i (j - n)) else (if j < n then false else q (i - n) (j - n))
def gCat (a b : GA) : GA :=
  ⟨a.n + b.n, a.sets ++ b.sets, a.null && b.null, fun i => if i < a.n then a.first i else a.null && b.first (i - a.n),
    fun i => if i < a.n then b.null && a.last i else b.last (i - a.n), blk a.n a.follow b.follow fun i j => a.last i && b.first j⟩
def gAlt (a b : GA) : GA :=
  ⟨a.n + b.n, a.sets ++ b.sets, a.null || b.null, fun i => if i < a.n then a.first i else b.first (i - a.n),
    fun i => if i < a.n then a.last i else b.last (i - a.n), blk a.n a.follow b.follow fun _ _ => false⟩
def gAgain (a : GA) : GA := { a with follow := fun i j => a.follow i j || a.last i && a.first j }
def gMaybe (a : GA) : GA := { a with null := true }
theorem cat_empty_l (a : GA) : gCat gEmpty a = a := by
  cases a; simp [gCat, gEmpty]; funext i j; simp [blk]
theorem alt_none_l (a : GA) : gAlt gNone a = a := by
  cases a; simp [gAlt, gNone]; funext i j; simp [blk]
theorem cat_assoc (a b c : GA) : gCat (gCat a b) c = gCat a (gCat b c) := by
  obtain ⟨an, asx, au, af, al, ao⟩ := a
  obtain ⟨bn, bs, bu, bf, bl, bo⟩ := b
  obtain ⟨cn, cs, cu, cf, cl, co⟩ := c
  simp only [gCat, GA.mk.injEq, List.append_assoc, Nat.add_assoc, true_and, Bool.and_assoc]
  refine ⟨?_, ?_, ?_⟩
  · funext i
    have e : i - (an + bn) = i - an - bn := by omega
    rw [e]
    by_cases h1 : i < an
    · simp [h1, show i < an + bn by omega]
    · by_cases h2 : i < an + bn
      · simp [h1, h2, show i - an < bn by omega]
      · simp [h1, h2, show ¬ i - an < bn by omega]
  · funext i
    have e : i - (an + bn) = i - an - bn := by omega
    rw [e]
    by_cases h1 : i < an
    · simp only [h1, show i < an + bn by omega, if_true]
      cases bu <;> cases cu <;> simp
    · by_cases h2 : i < an + bn
      · simp [h1, h2, show i - an < bn by omega]
      · simp [h1, h2, show ¬ i - an < bn by omega]
  · funext i j
    simp only [blk]
    have e : i - (an + bn) = i - an - bn := by omega
    have e' : j - (an + bn) = j - an - bn := by omega
    rw [e, e']
    by_cases h1 : i < an <;> by_cases h2 : i < an + bn <;> by_cases h3 : j < an <;> by_cases h4 : j < an + bn
    all_goals first | omega | skip
    · simp [h1, h2, h3, h4]
    · simp [h1, h2, h3, h4, show j - an < bn by omega]
    · simp [h1, h2, h3, h4, show ¬ j - an < bn by omega]
      cases bu <;> simp
    · simp [h1, h2, h3, h4, show i - an < bn by omega]
    · simp [h1, h2, h3, h4, show i - an < bn by omega, show j - an < bn by omega]
    · simp [h1, h2, h3, h4, show i - an < bn by omega, show ¬ j - an < bn by omega]
    · simp [h1, h2, h3, h4, show ¬ i - an < bn by omega]
    · simp [h1, h2, h3, h4, show ¬ i - an < bn by omega, show j - an < bn by omega]
    · simp [h1, h2, h3, h4, show ¬ i - an < bn by omega, show ¬ j - an < bn by omega]
structure Canon (a : GA) : Prop where
  sets : a.sets.length = a.n
  first : ∀ i, a.n ≤ i → a.first i = false
  last : ∀ i, a.n ≤ i → a.last i = false
  follow : ∀ i j, a.n ≤ i ∨ a.n ≤ j → a.follow i j = false
theorem cat_empty_r {a : GA} (h : Canon a) : gCat a gEmpty = a := by
  obtain ⟨n, sets, null, f, l, fo⟩ := a
  simp only [gCat, gEmpty, GA.mk.injEq, Nat.add_zero, List.append_nil, Bool.and_true, Bool.and_false, true_and]
  refine ⟨?_, ?_, ?_⟩
  · funext i; split
    · rfl
    · rename_i hi; exact (h.first i (by show n ≤ i; omega)).symm
  · funext i; split
    · rfl
    · rename_i hi; exact (h.last i (by show n ≤ i; omega)).symm
  · funext i j
    simp only [blk]
    split <;> split
    · rfl
    · rename_i h1 h2; exact (h.follow i j (by show n ≤ i ∨ n ≤ j; omega)).symm
    · rename_i h1 h2; exact (h.follow i j (by show n ≤ i ∨ n ≤ j; omega)).symm
    · rename_i h1 h2; exact (h.follow i j (by show n ≤ i ∨ n ≤ j; omega)).symm
theorem canon_zero {a : GA} (h : Canon a) (hn : a.n = 0) (hnull : a.null = true) : a = gEmpty := by
  obtain ⟨n, sets, null, f, l, fo⟩ := a
  simp only at hn hnull; subst hn hnull
  have hs : sets = [] := List.length_eq_zero_iff.1 h.sets
  subst hs
  simp only [gEmpty, GA.mk.injEq, true_and]
  exact ⟨funext fun i => h.first i (Nat.zero_le _), funext fun i => h.last i (Nat.zero_le _), funext fun i => funext fun j => h.follow i j (.inl (Nat.zero_le _))⟩
theorem canon_empty : Canon gEmpty := ⟨rfl, fun _ _ => rfl, fun _ _ => rfl, fun _ _ _ => rfl⟩
theorem canon_none : Canon gNone := ⟨rfl, fun _ _ => rfl, fun _ _ => rfl, fun _ _ _ => rfl⟩
theorem canon_byte (s : arr4_uint64) : Canon (gByte s) := ⟨rfl, fun i h => by simp [gByte] at h ⊢; omega, fun i h => by simp [gByte] at h ⊢; omega, fun _ _ _ => rfl⟩
theorem canon_cat {a b : GA} (ha : Canon a) (hb : Canon b) : Canon (gCat a b) := by
  refine ⟨by simp [gCat, ha.sets, hb.sets], fun i h => ?_, fun i h => ?_, fun i j h => ?_⟩
  · simp only [gCat] at h ⊢; rw [if_neg (by omega), hb.first _ (by omega)]; simp
  · simp only [gCat] at h ⊢; rw [if_neg (by omega), hb.last _ (by omega)]
  · simp only [gCat, blk] at h ⊢
    split <;> split
    · omega
    · rw [hb.first _ (by omega)]; simp
    · rfl
    · exact hb.follow _ _ (by omega)
theorem canon_alt {a b : GA} (ha : Canon a) (hb : Canon b) : Canon (gAlt a b) := by
  refine ⟨by simp [gAlt, ha.sets, hb.sets], fun i h => ?_, fun i h => ?_, fun i j h => ?_⟩
  · simp only [gAlt] at h ⊢; rw [if_neg (by omega), hb.first _ (by omega)]
  · simp only [gAlt] at h ⊢; rw [if_neg (by omega), hb.last _ (by omega)]
  · simp only [gAlt, blk] at h ⊢
    split <;> split
    · omega
    · rfl
    · rfl
    · exact hb.follow _ _ (by omega)
theorem canon_again {a : GA} (h : Canon a) : Canon (gAgain a) :=
  ⟨h.sets, h.first, h.last, fun i j hij => by
    simp only [gAgain] at hij ⊢
    rw [h.follow i j hij]
    rcases hij with hi | hj
    · rw [h.last i hi]; rfl
    · rw [h.first j hj]; simp⟩
theorem canon_maybe {a : GA} (h : Canon a) : Canon (gMaybe a) := ⟨h.sets, h.first, h.last, h.follow⟩
def iter (f : GA → GA) : Nat → GA → GA
  | 0, z => z
  | k + 1, z => f (iter f k z)
theorem iter_in (f : GA → GA) : ∀ k z, iter f (k + 1) z = iter f k (f z)
  | 0, _ => rfl
  | k + 1, z => by rw [iter, iter_in f k]; rfl
def leftp (a : GA) (k : Nat) : GA := iter (fun o => gCat o a) k gEmpty
theorem leftp_cat (a : GA) : ∀ k z, gCat (leftp a k) z = iter (gCat a) k z
  | 0, z => cat_empty_l z
  | k + 1, z => by
    show gCat (gCat (leftp a k) a) z = _
    rw [cat_assoc, leftp_cat a k, ← iter_in]
theorem canon_iter {f : GA → GA} (hf : ∀ a, Canon a → Canon (f a)) : ∀ k {z}, Canon z → Canon (iter f k z)
  | 0, _, h => h
  | k + 1, _, h => hf _ (canon_iter hf k h)
def gRep (a : GA) (lo hi : Int) : GA :=
  if hi < 0 then iter (gCat a) (max lo 1 - 1).toNat (if lo = 0 then gMaybe (gAgain a) else gAgain a)
  else iter (gCat a) lo.toNat (iter (fun o => gMaybe (gCat a o)) (hi - lo).toNat gEmpty)
theorem canon_rep {a : GA} (h : Canon a) (lo hi : Int) : Canon (gRep a lo hi) := by
  unfold gRep
  split
  · refine canon_iter (fun b hb => canon_cat h hb) _ ?_
    split
    · exact canon_maybe (canon_again h)
    · exact canon_again h
  · exact canon_iter (fun b hb => canon_cat h hb) _ (canon_iter (fun b hb => canon_maybe (canon_cat h hb)) _ canon_empty)
def gof : api_Rx → GA := cata fun x l =>
  if x.Kind = 2 then gByte x.Set else if x.Kind = 3 then l.foldl gCat gEmpty else if x.Kind = 4 then l.foldl gAlt gNone
  else if x.Kind = 5 then gRep (l.headD gEmpty) x.Lo x.Hi else gEmpty
theorem gof_eq (x : api_Rx) : gof x = if x.Kind = 2 then gByte x.Set else if x.Kind = 3 then x.Kids.foldl (fun o y => gCat o (gof y)) gEmpty else if x.Kind = 4 then x.Kids.foldl (fun o y => gAlt o (gof y)) gNone
    else if x.Kind = 5 then gRep ((x.Kids.map gof).headD gEmpty) x.Lo x.Hi else gEmpty := by
  unfold gof; rw [cata_eq]; simp only [List.foldl_map]
theorem canon_gof : ∀ x, Canon (gof x) := by
  refine rxInd fun x ih => ?_
  have key : ∀ (f : GA → GA → GA), (∀ a b, Canon a → Canon b → Canon (f a b)) → ∀ (l : List api_Rx) (z : GA), (∀ y ∈ l, y ∈ x.Kids) → Canon z → Canon (l.foldl (fun o y => f o (gof y)) z) := by
    intro f hf l
    induction l with
    | nil => intro z _ h; exact h
    | cons y r ih2 => intro z hl h; exact ih2 _ (fun a ha => hl a (List.mem_cons_of_mem _ ha)) (hf _ _ h (ih y (hl y (List.mem_cons_self ..))))
  rw [gof_eq]
  split
  · exact canon_byte _
  · split
    · exact key gCat (fun a b => canon_cat) _ _ (fun _ h => h) canon_empty
    · split
      · exact key gAlt (fun a b => canon_alt) _ _ (fun _ h => h) canon_none
      · split
        · refine canon_rep ?_ _ _
          cases hq : x.Kids with
          | nil => exact canon_empty
          | cons y r => exact ih y (by rw [hq]; exact List.mem_cons_self ..)
        · exact canon_empty
end Go.Ev.Pl

set_option linter.unusedSimpArgs false
set_option linter.unusedVariables false
namespace Go.Ev.Pl
open Go Go.Ev
def lst (n : Nat) (p : Nat → Bool) (off : Nat) : List Int := ((List.range n).filter p).map fun i => ((i + off : Nat) : Int)
theorem lst_mem {n : Nat} {p : Nat → Bool} {off : Nat} {x : Int} : x ∈ lst n p off ↔ ∃ i, i < n ∧ p i = true ∧ x = ((i + off : Nat) : Int) := by
  simp only [lst, List.mem_map, List.mem_filter, List.mem_range]
  constructor
  · rintro ⟨i, ⟨h1, h2⟩, rfl⟩; exact ⟨i, h1, h2, rfl⟩
  · rintro ⟨i, h1, h2, rfl⟩; exact ⟨i, ⟨h1, h2⟩, rfl⟩
theorem lst_ss (n : Nat) (p : Nat → Bool) (off : Nat) : SS (lst n p off) := by
  unfold lst SS
  rw [List.pairwise_map]
  refine List.Pairwise.filter _ ?_
  exact List.pairwise_lt_range.imp fun h => by omega
theorem lst_len (n : Nat) (p : Nat → Bool) (off : Nat) : (lst n p off).length ≤ n := by
  unfold lst
  rw [List.length_map]
  exact Nat.le_trans (List.length_filter_le _ _) (by simp)
theorem lst_congr {n : Nat} {p q : Nat → Bool} {off : Nat} (h : ∀ i, i < n → p i = q i) : lst n p off = lst n q off := by
  unfold lst
  rw [List.filter_congr fun i hi => h i (List.mem_range.1 hi)]
theorem lst_left {n m : Nat} {p : Nat → Bool} {off : Nat} {q : Nat → Bool} (h1 : ∀ i, i < n → q i = p i) (h2 : ∀ i, n ≤ i → i < n + m → q i = false) : lst n p off = lst (n + m) q off := by
  refine ss_ext (lst_ss _ _ _) (lst_ss _ _ _) fun x => ?_
  rw [lst_mem, lst_mem]
  constructor
  · rintro ⟨i, hi, hp, rfl⟩; exact ⟨i, by omega, by rw [h1 i hi]; exact hp, rfl⟩
  · rintro ⟨i, hi, hp, rfl⟩
    rcases Nat.lt_or_ge i n with h | h
    · exact ⟨i, h, by rw [← h1 i h]; exact hp, rfl⟩
    · rw [h2 i h hi] at hp; cases hp
theorem lst_right {n m : Nat} {p : Nat → Bool} {off : Nat} {q : Nat → Bool} (h1 : ∀ i, i < n → q i = false) (h2 : ∀ i, i < m → q (n + i) = p i) : lst m p (off + n) = lst (n + m) q off := by
  refine ss_ext (lst_ss _ _ _) (lst_ss _ _ _) fun x => ?_
  rw [lst_mem, lst_mem]
  constructor
  · rintro ⟨i, hi, hp, rfl⟩; exact ⟨n + i, by omega, by rw [h2 i hi]; exact hp, by omega⟩
  · rintro ⟨i, hi, hp, rfl⟩
    rcases Nat.lt_or_ge i n with h | h
    · rw [h1 i h] at hp; cases hp
    · exact ⟨i - n, by omega, by rw [← h2 _ (by omega), show n + (i - n) = i by omega]; exact hp, by omega⟩
theorem lst_both {n m : Nat} {p p' : Nat → Bool} {off : Nat} {q : Nat → Bool} {l : List Int} (hs : SS l) (hm : ∀ x, x ∈ l ↔ x ∈ lst n p off ∨ x ∈ lst m p' (off + n)) (h1 : ∀ i, i < n → q i = p i) (h2 : ∀ i, i < m → q (n + i) = p' i) : l = lst (n + m) q off := by
  refine ss_ext hs (lst_ss _ _ _) fun x => ?_
  rw [hm, lst_mem, lst_mem, lst_mem]
  constructor
  · rintro (⟨i, hi, hp, rfl⟩ | ⟨i, hi, hp, rfl⟩)
    · exact ⟨i, by omega, by rw [h1 i hi]; exact hp, rfl⟩
    · exact ⟨n + i, by omega, by rw [h2 i hi]; exact hp, by omega⟩
  · rintro ⟨i, hi, hp, rfl⟩
    rcases Nat.lt_or_ge i n with h | h
    · exact .inl ⟨i, h, by rw [← h1 i h]; exact hp, rfl⟩
    · exact .inr ⟨i - n, by omega, by rw [← h2 _ (by omega), show n + (i - n) = i by omega]; exact hp, by omega⟩
def flw (g : GA) (off : Nat) : List (List Int) := (List.range g.n).map fun i => lst g.n (g.follow i) off
theorem flw_len (g : GA) (off : Nat) : (flw g off).length = g.n := by simp [flw]
theorem flw_get (g : GA) (off : Nat) {i : Nat} (h : i < g.n) : (flw g off)[i]'(by rw [flw_len]; exact h) = lst g.n (g.follow i) off := by simp [flw]
theorem flw_ext {g : GA} {off : Nat} {l : List (List Int)} (hl : l.length = g.n) (h : ∀ (i : Nat) (hi : i < l.length), l[i] = lst g.n (g.follow i) off) : l = flw g off := by
  apply List.ext_getElem
  · rw [hl, flw_len]
  · intro i h1 h2
    rw [h i h1, flw_get g off (by rw [hl] at h1; exact h1)]
def leadF (F : List (List Int)) (fr to : List Int) : List (List Int) := F.mapIdx fun i f => if (i : Int) ∈ fr then join f to else f
theorem leadF_len (F : List (List Int)) (fr to : List Int) : (leadF F fr to).length = F.length := by simp [leadF]
theorem leadF_get (F : List (List Int)) (fr to : List Int) {i : Nat} (h : i < F.length) : (leadF F fr to)[i]'(by rw [leadF_len]; exact h) = if (i : Int) ∈ fr then join F[i] to else F[i] := by simp [leadF]
theorem lead_cat (F0 : List (List Int)) (a b : GA) : leadF (F0 ++ flw a F0.length ++ flw b (F0.length + a.n)) (lst a.n a.last F0.length) (lst b.n b.first (F0.length + a.n)) = F0 ++ flw (gCat a b) F0.length := by
  apply List.ext_getElem
  · rw [leadF_len]; simp only [List.length_append, flw_len]; simp only [gCat]; omega
  · intro i h1 h2
    rw [leadF_len] at h1
    rw [leadF_get _ _ _ h1]
    simp only [List.length_append, flw_len] at h1
    have hin : (i : Int) ∈ lst a.n a.last F0.length ↔ F0.length ≤ i ∧ i < F0.length + a.n ∧ a.last (i - F0.length) = true := by
      rw [lst_mem]
      constructor
      · rintro ⟨j, hj, hp, e⟩
        have : i = j + F0.length := by omega
        subst this
        exact ⟨by omega, by omega, by rw [Nat.add_sub_cancel]; exact hp⟩
      · rintro ⟨q1, q2, q3⟩
        exact ⟨i - F0.length, by omega, q3, by omega⟩
    rcases Nat.lt_or_ge i F0.length with hi | hi
    · rw [if_neg (by rw [hin]; omega), List.getElem_append_left (by simp only [List.length_append, flw_len]; omega), List.getElem_append_left hi, List.getElem_append_left hi]
    · have hr : (F0 ++ flw (gCat a b) F0.length)[i]'h2 = lst (a.n + b.n) ((gCat a b).follow (i - F0.length)) F0.length := by
        rw [List.getElem_append_right hi, flw_get _ _ (by show _ < a.n + b.n; omega)]; rfl
      rw [hr]
      rcases Nat.lt_or_ge i (F0.length + a.n) with hi2 | hi2
      · have hl : (F0 ++ flw a F0.length ++ flw b (F0.length + a.n))[i]'(by simp only [List.length_append, flw_len]; omega) = lst a.n (a.follow (i - F0.length)) F0.length := by
          rw [List.getElem_append_left (by simp only [List.length_append, flw_len]; omega), List.getElem_append_right hi, flw_get _ _ (by omega)]
        rw [hl]
        by_cases hla : a.last (i - F0.length) = true
        · rw [if_pos (hin.2 ⟨hi, hi2, hla⟩)]
          obtain ⟨j1, j2⟩ := join_spec (lst a.n (a.follow (i - F0.length)) F0.length) (lst b.n b.first (F0.length + a.n))
          refine lst_both j1 j2 (fun j hj => ?_) (fun j hj => ?_)
          · simp only [gCat, blk]; rw [if_pos (by omega), if_pos hj]
          · simp only [gCat, blk]; rw [if_pos (by omega), if_neg (by omega), hla, Nat.add_sub_cancel_left]; rfl
        · rw [if_neg (fun h => hla (hin.1 h).2.2)]
          have hla : a.last (i - F0.length) = false := by simpa using hla
          refine lst_left (fun j hj => ?_) (fun j h1 h2 => ?_)
          · simp only [gCat, blk]; rw [if_pos (by omega), if_pos hj]
          · simp only [gCat, blk]; rw [if_pos (by omega), if_neg (by omega), hla]; rfl
      · rw [if_neg (by rw [hin]; omega)]
        have hl : (F0 ++ flw a F0.length ++ flw b (F0.length + a.n))[i]'(by simp only [List.length_append, flw_len]; omega) = lst b.n (b.follow (i - (F0.length + a.n))) (F0.length + a.n) := by
          rw [List.getElem_append_right (by simp only [List.length_append, flw_len]; omega)]
          simp only [List.length_append, flw_len]
          rw [flw_get _ _ (by omega)]
        rw [hl]
        refine lst_right (fun j hj => ?_) (fun j hj => ?_)
        · simp only [gCat, blk]; rw [if_neg (by omega), if_pos hj]
        · simp only [gCat, blk]; rw [if_neg (by omega), if_neg (by omega), show i - F0.length - a.n = i - (F0.length + a.n) by omega, Nat.add_sub_cancel_left]
theorem lead_again (F0 : List (List Int)) (a : GA) : leadF (F0 ++ flw a F0.length) (lst a.n a.last F0.length) (lst a.n a.first F0.length) = F0 ++ flw (gAgain a) F0.length := by
  apply List.ext_getElem
  · rw [leadF_len]; simp only [List.length_append, flw_len]; rfl
  · intro i h1 h2
    rw [leadF_len] at h1
    rw [leadF_get _ _ _ h1]
    simp only [List.length_append, flw_len] at h1
    have hin : (i : Int) ∈ lst a.n a.last F0.length ↔ F0.length ≤ i ∧ i < F0.length + a.n ∧ a.last (i - F0.length) = true := by
      rw [lst_mem]
      constructor
      · rintro ⟨j, hj, hp, e⟩
        have : i = j + F0.length := by omega
        subst this
        exact ⟨by omega, by omega, by rw [Nat.add_sub_cancel]; exact hp⟩
      · rintro ⟨q1, q2, q3⟩
        exact ⟨i - F0.length, by omega, q3, by omega⟩
    rcases Nat.lt_or_ge i F0.length with hi | hi
    · rw [if_neg (by rw [hin]; omega), List.getElem_append_left hi, List.getElem_append_left hi]
    · have hr : (F0 ++ flw (gAgain a) F0.length)[i]'h2 = lst a.n ((gAgain a).follow (i - F0.length)) F0.length := by
        rw [List.getElem_append_right hi, flw_get _ _ (by show _ < a.n; omega)]; rfl
      have hl : (F0 ++ flw a F0.length)[i]'(by simp only [List.length_append, flw_len]; omega) = lst a.n (a.follow (i - F0.length)) F0.length := by
        rw [List.getElem_append_right hi, flw_get _ _ (by omega)]
      rw [hr, hl]
      by_cases hla : a.last (i - F0.length) = true
      · rw [if_pos (hin.2 ⟨hi, by omega, hla⟩)]
        obtain ⟨j1, j2⟩ := join_spec (lst a.n (a.follow (i - F0.length)) F0.length) (lst a.n a.first F0.length)
        refine ss_ext j1 (lst_ss _ _ _) fun x => ?_
        rw [j2, lst_mem, lst_mem, lst_mem]
        simp only [gAgain, hla, Bool.true_and, Bool.or_eq_true]
        constructor
        · rintro (⟨j, q1, q2, rfl⟩ | ⟨j, q1, q2, rfl⟩)
          · exact ⟨j, q1, .inl q2, rfl⟩
          · exact ⟨j, q1, .inr q2, rfl⟩
        · rintro ⟨j, q1, q2 | q2, rfl⟩
          · exact .inl ⟨j, q1, q2, rfl⟩
          · exact .inr ⟨j, q1, q2, rfl⟩
      · rw [if_neg (fun h => hla (hin.1 h).2.2)]
        have hla : a.last (i - F0.length) = false := by simpa using hla
        exact lst_congr fun j hj => by simp [gAgain, hla]
theorem flw_alt (a b : GA) (off : Nat) : flw a off ++ flw b (off + a.n) = flw (gAlt a b) off := by
  refine flw_ext (by simp [flw_len, gAlt]) fun i hi => ?_
  simp only [List.length_append, flw_len] at hi
  show _ = lst (a.n + b.n) _ off
  rcases Nat.lt_or_ge i a.n with h | h
  · rw [List.getElem_append_left (by rw [flw_len]; exact h), flw_get _ _ h]
    refine lst_left (fun j hj => ?_) (fun j h1 h2 => ?_)
    · simp only [gAlt, blk]; rw [if_pos h, if_pos hj]
    · simp only [gAlt, blk]; rw [if_pos h, if_neg (by omega)]
  · rw [List.getElem_append_right (by rw [flw_len]; exact h)]
    simp only [flw_len]
    rw [flw_get _ _ (by omega)]
    refine lst_right (fun j hj => ?_) (fun j hj => ?_)
    · simp only [gAlt, blk]; rw [if_neg (by omega), if_pos hj]
    · simp only [gAlt, blk]; rw [if_neg (by omega), if_neg (by omega), Nat.add_sub_cancel_left]
def pc (g : GA) (off : Nat) : place_piece := ⟨lst g.n g.first off, lst g.n g.last off, g.null⟩
theorem cat_first (a b : GA) (off : Nat) : (if a.null = true then join (lst a.n a.first off) (lst b.n b.first (off + a.n)) else lst a.n a.first off) = lst (a.n + b.n) (gCat a b).first off := by
  split
  · rename_i h
    obtain ⟨j1, j2⟩ := join_spec (lst a.n a.first off) (lst b.n b.first (off + a.n))
    exact lst_both j1 j2 (fun j hj => by simp only [gCat]; rw [if_pos hj]) (fun j hj => by simp only [gCat]; rw [if_neg (by omega), h, Nat.add_sub_cancel_left]; rfl)
  · rename_i h
    have h : a.null = false := by simpa using h
    exact lst_left (fun j hj => by simp only [gCat]; rw [if_pos hj]) (fun j h1 h2 => by simp only [gCat]; rw [if_neg (by omega), h]; rfl)
theorem cat_last (a b : GA) (off : Nat) : (if b.null = true then join (lst a.n a.last off) (lst b.n b.last (off + a.n)) else lst b.n b.last (off + a.n)) = lst (a.n + b.n) (gCat a b).last off := by
  split
  · rename_i h
    obtain ⟨j1, j2⟩ := join_spec (lst a.n a.last off) (lst b.n b.last (off + a.n))
    exact lst_both j1 j2 (fun j hj => by simp only [gCat]; rw [if_pos hj, h]; rfl) (fun j hj => by simp only [gCat]; rw [if_neg (by omega), Nat.add_sub_cancel_left])
  · rename_i h
    have h : b.null = false := by simpa using h
    exact lst_right (fun j hj => by simp only [gCat]; rw [if_pos hj, h]; rfl) (fun j hj => by simp only [gCat]; rw [if_neg (by omega), Nat.add_sub_cancel_left])
theorem alt_first (a b : GA) (off : Nat) : join (lst a.n a.first off) (lst b.n b.first (off + a.n)) = lst (a.n + b.n) (gAlt a b).first off := by
  obtain ⟨j1, j2⟩ := join_spec (lst a.n a.first off) (lst b.n b.first (off + a.n))
  exact lst_both j1 j2 (fun j hj => by simp only [gAlt]; rw [if_pos hj]) (fun j hj => by simp only [gAlt]; rw [if_neg (by omega), Nat.add_sub_cancel_left])
theorem alt_last (a b : GA) (off : Nat) : join (lst a.n a.last off) (lst b.n b.last (off + a.n)) = lst (a.n + b.n) (gAlt a b).last off := by
  obtain ⟨j1, j2⟩ := join_spec (lst a.n a.last off) (lst b.n b.last (off + a.n))
  exact lst_both j1 j2 (fun j hj => by simp only [gAlt]; rw [if_pos hj]) (fun j hj => by simp only [gAlt]; rw [if_neg (by omega), Nat.add_sub_cancel_left])
end Go.Ev.Pl

set_option linter.unusedSimpArgs false
set_option linter.unusedVariables false
namespace Go.Ev.Pl
open Go Go.Ev
theorem set_eq {α : Type} {l : List α} {i : Nat} {x : α} {m : List α} (hl : m.length = l.length) (h1 : ∀ (j : Nat) (h : j < l.length), j ≠ i → m[j]'(by omega) = l[j]) (h2 : ∀ h : i < l.length, m[i]'(by omega) = x) : l.set i x = m := by
  apply List.ext_getElem
  · simp [hl]
  · intro j a b
    rw [List.getElem_set]
    split
    · rename_i e; subst e; exact (h2 (by simpa using a)).symm
    · rename_i e; exact (h1 j (by simpa using a) (fun h => e h.symm)).symm
theorem flatten_take_succ {α : Type} {L : List (List α)} {i : Nat} (h : i < L.length) : (L.take (i + 1)).flatten = (L.take i).flatten ++ L[i] := by
  rw [List.take_succ_eq_append_getElem h, List.flatten_append]; simp
theorem flatten_take_le {α : Type} (L : List (List α)) (i : Nat) : (L.take i).flatten.length ≤ L.flatten.length := by
  conv => rhs; rw [← List.take_append_drop i L]
  rw [List.flatten_append, List.length_append]; omega
theorem concat_ok (L : List (List Int)) (hL : L.length < 1099511627776) (hT : L.flatten.length < 1000000000) : C_slices_Concat__int_int L L.flatten := by
  refine W_slices_Concat__int_int L _ ⟨fun s t => ∃ i : Nat, t = i ∧ i ≤ L.length ∧ s = (L.take i).flatten.length, fun s t => (L.length - t).toNat, ⟨0, rfl, by omega, by simp⟩, ?_⟩
  rintro s t ⟨i, rfl, hi, rfl⟩
  have hb := flatten_take_le L i
  refine ⟨fun ht => ?_, fun ht => ?_⟩
  · have ht : i < L.length := by simpa using ht
    have hs := congrArg List.length (flatten_take_succ ht)
    rw [List.length_append] at hs
    have hb2 := flatten_take_le L (i + 1)
    have hg : gd L (i : Int) = L[i] := gd_nat ht
    have hw1 : w64 (((L.take i).flatten.length : Int) + (gd L (i : Int)).length) = ((L.take (i + 1)).flatten.length : Int) := by
      rw [hg, hs]; exact (w64_id (by omega) (by omega)).trans (by omega)
    have hw2 : w64 ((i : Int) + 1) = ((i + 1 : Nat) : Int) := w64_id (by omega) (by omega)
    rw [hw1, hw2]
    exact ⟨True, fun _ => ⟨⟨i + 1, rfl, by omega, rfl⟩, by dsimp only; omega⟩, by omega, by omega, fun h => absurd (of_decide_eq_true h) (by omega), fun _ => trivial⟩
  · refine ⟨⟨by omega, by omega⟩, fun l t => ∃ i : Nat, t = i ∧ i ≤ L.length ∧ l = (L.take i).flatten, fun l t => (L.length - t).toNat, ⟨0, rfl, by omega, rfl⟩, ?_⟩
    rintro l t ⟨j, rfl, hj, rfl⟩
    have hb3 := flatten_take_le L j
    refine ⟨fun ht => ?_, fun ht => ?_⟩
    · have ht : j < L.length := by simpa using ht
      have hg : gd L (j : Int) = L[j] := gd_nat ht
      have hs := flatten_take_succ ht
      have hs2 := congrArg List.length hs
      rw [List.length_append] at hs2
      have hb2 := flatten_take_le L (j + 1)
      have hw2 : w64 ((j : Int) + 1) = ((j + 1 : Nat) : Int) := w64_id (by omega) (by omega)
      rw [hw2, hg]
      exact ⟨by omega, by omega, by omega, ⟨j + 1, rfl, by omega, hs.symm⟩, by dsimp only; omega⟩
    · have : j = L.length := by have : ¬ j < L.length := by simpa using ht
                                omega
      subst this
      rw [List.take_of_length_le (Nat.le_refl _)]
theorem join_ok (a b : List Int) (ha : a.length < 100000000) (hb : b.length < 100000000) : C_place_Join_int a b (join a b) := by
  have h := concat_ok [a, b] (by simp) (by simp; omega)
  have e : [a, b].flatten = a ++ b := by simp
  rw [e] at h
  exact W_place_Join_int a b _ ⟨_, h, by simp; omega, sort_len _, by rw [sort_len]; simp; omega, rfl⟩
theorem lead_ok (fr to : List Int) (b : place_builder) (hfr : SS fr) (hin : ∀ x ∈ fr, 0 ≤ x ∧ x < b.follow.length) (hto : to.length < 10000000) (hF : ∀ f ∈ b.follow, f.length < 10000000) (hlen : fr.length < 10000000) : C_place_builder_lead fr to b { sets := b.sets, follow := leadF b.follow fr to } := by
  refine W_place_builder_lead fr to b _ ⟨fun F t => ∃ i : Nat, t = i ∧ i ≤ fr.length ∧ F = leadF b.follow (fr.take i) to, fun F t => (fr.length - t).toNat, ⟨0, rfl, by omega, by simp [leadF]; exact (List.ext_getElem (by simp) (fun j h1 h2 => by simp))⟩, ?_⟩
  rintro F t ⟨i, rfl, hi, rfl⟩
  refine ⟨fun ht => ?_, fun ht => ?_⟩
  · have ht : i < fr.length := by simpa using ht
    have hg : gd fr (i : Int) = fr[i] := gd_nat ht
    rw [hg]
    obtain ⟨q0, q1⟩ := hin _ (List.getElem_mem ht)
    obtain ⟨e, he⟩ : ∃ e : Nat, fr[i] = e := ⟨fr[i].toNat, by omega⟩
    rw [he] at q1 ⊢
    have he2 : e < b.follow.length := by omega
    have hl : (leadF b.follow (fr.take i) to).length = b.follow.length := leadF_len _ _ _
    have hnot : ∀ j : Nat, (hj : j < b.follow.length) → j = e → ¬ ((j : Int) ∈ fr.take i) := by
      rintro j hj rfl hm
      obtain ⟨k, hk, hk2⟩ := List.mem_iff_getElem.1 hm
      simp only [List.length_take] at hk
      rw [List.getElem_take] at hk2
      have := List.pairwise_iff_getElem.1 hfr k i (by omega) ht (by omega)
      omega
    have hge : gd (leadF b.follow (fr.take i) to) (e : Int) = b.follow[e] := by
      rw [gd_nat (by rw [hl]; exact he2), leadF_get _ _ _ he2, if_neg (hnot e he2 rfl)]
    have hw2 : w64 ((i : Int) + 1) = ((i + 1 : Nat) : Int) := w64_id (by omega) (by omega)
    refine ⟨by omega, by omega, by omega, by rw [hl]; omega, by rw [hl]; omega, join b.follow[e] to, ?_, by omega, by rw [hl]; omega, by rw [hl]; omega, ?_⟩
    · rw [hge]; exact join_ok _ _ (by have := hF _ (List.getElem_mem he2); omega) (by omega)
    · rw [hw2]
      refine ⟨⟨i + 1, rfl, by omega, ?_⟩, by dsimp only; omega⟩
      show List.set _ e _ = _
      refine set_eq (by rw [leadF_len, leadF_len]) (fun j hj hne => ?_) (fun hj => ?_)
      · rw [hl] at hj
        rw [leadF_get _ _ _ hj, leadF_get _ _ _ hj, List.take_succ_eq_append_getElem ht, he]
        have : ((j : Int) ∈ fr.take i ++ [(e : Int)]) ↔ (j : Int) ∈ fr.take i := by
          rw [List.mem_append, List.mem_singleton]
          constructor
          · rintro (h | h)
            · exact h
            · exact absurd (by omega) hne
          · exact .inl
        simp only [this]
      · rw [leadF_get _ _ _ he2, List.take_succ_eq_append_getElem ht, he, if_pos (by simp)]
  · have : i = fr.length := by have : ¬ i < fr.length := by simpa using ht
                               omega
    subst this
    rw [List.take_of_length_le (Nat.le_refl _)]
theorem flw_small (g : GA) (off : Nat) (h : g.n < 10000000) : ∀ f ∈ flw g off, f.length < 10000000 := by
  intro f hf
  simp only [flw, List.mem_map, List.mem_range] at hf
  obtain ⟨i, _, rfl⟩ := hf
  have := lst_len g.n (g.follow i) off
  omega
theorem cat_ok (F0 : List (List Int)) (S : List arr4_uint64) (a b : GA) (hF : ∀ f ∈ F0, f.length < 10000000) (hab : a.n + b.n < 1000000) (hF2 : F0.length < 1000000) :
    C_place_builder_cat (pc a F0.length) (pc b (F0.length + a.n)) { sets := S, follow := F0 ++ flw a F0.length ++ flw b (F0.length + a.n) } (pc (gCat a b) F0.length) { sets := S, follow := F0 ++ flw (gCat a b) F0.length } := by
  have hla := lst_len a.n a.last F0.length
  have hlb := lst_len b.n b.first (F0.length + a.n)
  have hlb2 := lst_len b.n b.last (F0.length + a.n)
  have hla2 := lst_len a.n a.first F0.length
  have hlead := lead_ok (lst a.n a.last F0.length) (lst b.n b.first (F0.length + a.n)) { sets := S, follow := F0 ++ flw a F0.length ++ flw b (F0.length + a.n) } (lst_ss _ _ _) (fun x hx => by
    obtain ⟨i, hi, _, rfl⟩ := lst_mem.1 hx
    simp only [List.length_append, flw_len]; omega) (by omega) (fun f hf => by
    rcases List.mem_append.1 hf with hf | hf
    · rcases List.mem_append.1 hf with hf | hf
      · exact hF f hf
      · exact flw_small a _ (by omega) f hf
    · exact flw_small b _ (by omega) f hf) (by omega)
  simp only [lead_cat] at hlead
  refine W_place_builder_cat _ _ _ _ _ ⟨_, hlead, fun l => l = lst (a.n + b.n) (gCat a b).first F0.length, ?_, fun hn => ⟨_, join_ok _ _ (by show (lst _ _ _).length < _; omega) (by show (lst _ _ _).length < _; omega), ?_⟩, fun hn => ?_⟩
  · rintro l rfl
    refine ⟨fun l => l = lst (a.n + b.n) (gCat a b).last F0.length, ?_, fun hn => ⟨_, join_ok _ _ (by show (lst _ _ _).length < _; omega) (by show (lst _ _ _).length < _; omega), ?_⟩, fun hn => ?_⟩
    · rintro l rfl; exact ⟨rfl, rfl⟩
    · have := cat_last a b F0.length
      rw [if_pos (show b.null = true from hn)] at this; exact this
    · have := cat_last a b F0.length
      rw [if_neg (by show ¬ (b.null = true); have : b.null = false := hn; simp [this])] at this; exact this
  · have := cat_first a b F0.length
    rw [if_pos (show a.null = true from hn)] at this; exact this
  · have := cat_first a b F0.length
    rw [if_neg (by show ¬ (a.null = true); have : a.null = false := hn; simp [this])] at this; exact this
end Go.Ev.Pl

set_option linter.unusedSimpArgs false
set_option linter.unusedVariables false
namespace Go.Ev.Pl
open Go Go.Ev
def Rgt (x : api_Rx) : Prop := ∃ d, rgt x d = true
theorem rgt_own {x : api_Rx} (h : Rgt x) : ownB x = true ∧ ∀ k ∈ x.Kids, Rgt k := by
  obtain ⟨d, h⟩ := h
  rw [rgt_eq] at h
  simp only [Bool.and_eq_true, List.all_eq_true] at h
  exact ⟨h.1.2, fun k hk => ⟨d - 1, (h.2 k hk).2⟩⟩
theorem own_rep {x : api_Rx} (h : ownB x = true) (h5 : x.Kind = 5) : (∃ k, x.Kids = [k]) ∧ 0 ≤ x.Lo ∧ x.Lo ≤ 20 ∧ (x.Hi = -1 ∨ 1 ≤ x.Hi ∧ x.Lo ≤ x.Hi ∧ x.Hi ≤ 20) := by
  simp only [ownB, if_pos h5, timesB, Bool.and_eq_true, decide_eq_true_eq, Bool.or_eq_true, beq_iff_eq] at h
  obtain ⟨_, h1, h2, h3, h4⟩ := h
  refine ⟨?_, h2, h3, ?_⟩
  · match hq : x.Kids, h1 with
    | [k], _ => exact ⟨k, rfl⟩
  · rcases h4 with h4 | ⟨h4, h5⟩
    · exact .inl h4
    · exact .inr (by omega)
theorem own_kids {x : api_Rx} (h : ownB x = true) (h34 : x.Kind = 3 ∨ x.Kind = 4) : 2 ≤ x.Kids.length := by
  simp only [ownB] at h
  rw [if_neg (by omega), if_neg (by omega), if_neg (by omega), if_pos h34] at h
  simp only [Bool.and_eq_true, decide_eq_true_eq] at h
  exact h.2.2
theorem own_kind {x : api_Rx} (h : ownB x = true) : x.Kind = 1 ∨ x.Kind = 2 ∨ x.Kind = 3 ∨ x.Kind = 4 ∨ x.Kind = 5 := by
  simp only [ownB] at h
  split at h
  · omega
  · split at h
    · omega
    · split at h
      · omega
      · split at h
        · omega
        · cases h
theorem iter_n {f : GA → GA} {a : GA} (hf : ∀ o, (f o).n = a.n + o.n) : ∀ k z, (iter f k z).n = k * a.n + z.n
  | 0, z => by simp [iter]
  | k + 1, z => by rw [iter, hf, iter_n hf k, Nat.succ_mul]; omega
def cpS (a : GA) (k : Nat) : List arr4_uint64 := (List.replicate k a.sets).flatten
theorem iter_sets {f : GA → GA} {a : GA} (hf : ∀ o, (f o).sets = a.sets ++ o.sets) : ∀ k z, (iter f k z).sets = cpS a k ++ z.sets
  | 0, z => by simp [iter, cpS]
  | k + 1, z => by rw [iter, hf, iter_sets hf k]; simp [cpS, List.replicate_succ]
theorem iter_null (a : GA) : ∀ k z, (iter (gCat a) k z).null = (z.null && (decide (k = 0) || a.null))
  | 0, z => by simp [iter]
  | k + 1, z => by
    rw [iter]
    show (a.null && (iter (gCat a) k z).null) = _
    rw [iter_null a k z]
    cases a.null <;> cases z.null <;> simp
theorem rep_n (a : GA) {lo hi : Int} (h1 : 0 ≤ lo) (h2 : hi = -1 ∨ 1 ≤ hi ∧ lo ≤ hi) : (gRep a lo hi).n = (max 1 (max lo hi)).toNat * a.n := by
  unfold gRep
  split
  · rw [iter_n (f := gCat a) (a := a) (fun _ => rfl)]
    have : (if lo = 0 then gMaybe (gAgain a) else gAgain a).n = a.n := by split <;> rfl
    rw [this, ← Nat.succ_mul]
    congr 1
    omega
  · rw [iter_n (f := gCat a) (a := a) (fun _ => rfl), iter_n (f := fun o => gMaybe (gCat a o)) (a := a) (fun _ => rfl)]
    show _ + (_ + 0) = _
    rw [Nat.add_zero, ← Nat.add_mul]
    congr 1
    omega
theorem rep_sets (a : GA) {lo hi : Int} (h1 : 0 ≤ lo) (h2 : hi = -1 ∨ 1 ≤ hi ∧ lo ≤ hi) : (gRep a lo hi).sets = cpS a (max 1 (max lo hi)).toNat := by
  have key : ∀ j k, cpS a j ++ cpS a k = cpS a (j + k) := fun j k => by
    simp only [cpS]; rw [← List.flatten_append, List.replicate_append_replicate]
  unfold gRep
  split
  · rw [iter_sets (f := gCat a) (a := a) (fun _ => rfl)]
    have : (if lo = 0 then gMaybe (gAgain a) else gAgain a).sets = cpS a 1 := by split <;> simp [cpS, gMaybe, gAgain]
    rw [this, key]
    congr 1
    omega
  · rw [iter_sets (f := gCat a) (a := a) (fun _ => rfl), iter_sets (f := fun o => gMaybe (gCat a o)) (a := a) (fun _ => rfl)]
    show _ ++ (_ ++ []) = _
    rw [List.append_nil, key]
    congr 1
    omega
theorem rep_null (a : GA) {lo hi : Int} (h1 : 0 ≤ lo) (h2 : hi = -1 ∨ 1 ≤ hi ∧ lo ≤ hi) : (gRep a lo hi).null = (decide (lo ≤ 0) || a.null) := by
  unfold gRep
  split
  · rw [iter_null]
    by_cases h : lo = 0
    · subst h; simp [gMaybe, gAgain]; left; rfl
    · have : ¬ lo ≤ 0 := by omega
      simp only [if_neg h, gAgain, this, decide_false, Bool.false_or]
      cases a.null <;> simp
  · rw [iter_null]
    have hin : ∀ k, (iter (fun o => gMaybe (gCat a o)) k gEmpty).null = true := by
      intro k; cases k <;> rfl
    rw [hin, Bool.true_and]
    congr 1
    simp only [decide_eq_decide]; omega
theorem foldl_n {f : GA → GA → GA} (hf : ∀ a b, (f a b).n = a.n + b.n) : ∀ (l : List api_Rx) (z : GA), (l.foldl (fun o y => f o (gof y)) z).n = z.n + (l.map fun y => (gof y).n).sum
  | [], z => by simp
  | y :: r, z => by rw [List.foldl_cons, foldl_n hf r, hf]; simp; omega
theorem gof_n : ∀ x, Rgt x → (gof x).n = sizeN x := by
  refine rxInd fun x ih hr => ?_
  obtain ⟨ho, hk⟩ := rgt_own hr
  have hkn : (x.Kids.map fun y => (gof y).n) = x.Kids.map sizeN := List.map_congr_left fun y hy => ih y hy (hk y hy)
  rw [gof_eq, sizeN_eq]
  rcases own_kind ho with h | h | h | h | h
  · simp [h, gEmpty]
  · simp [h, gByte]
  · simp only [h]
    simp only [show ¬ ((3 : Int) = 2) by omega, if_false, if_true, show (3 : Int) ≤ 3 ∧ (3 : Int) ≤ 5 from ⟨by omega, by omega⟩, show ¬ ((3 : Int) = 5) by omega]
    rw [foldl_n (f := gCat) (fun _ _ => rfl), hkn]
    show 0 + _ = _; simp
  · simp only [h]
    simp only [show ¬ ((4 : Int) = 2) by omega, show ¬ ((4 : Int) = 3) by omega, if_false, if_true, show (3 : Int) ≤ 4 ∧ (4 : Int) ≤ 5 from ⟨by omega, by omega⟩, show ¬ ((4 : Int) = 5) by omega]
    rw [foldl_n (f := gAlt) (fun _ _ => rfl), hkn]
    show 0 + _ = _; simp
  · obtain ⟨⟨k, hq⟩, h1, h2, h3⟩ := own_rep ho h
    simp only [h]
    simp only [show ¬ ((5 : Int) = 2) by omega, show ¬ ((5 : Int) = 3) by omega, show ¬ ((5 : Int) = 4) by omega, if_false, if_true, show (3 : Int) ≤ 5 ∧ (5 : Int) ≤ 5 from ⟨by omega, by omega⟩]
    rw [hq]
    simp only [List.map_cons, List.map_nil, List.headD_cons, List.sum_cons, List.sum_nil, Nat.add_zero]
    rw [rep_n _ h1 (by omega), ih k (by rw [hq]; simp) (hk k (by rw [hq]; simp)), Nat.mul_comm]
    congr 1
    simp only [timesN]; omega
theorem foldl_null_cat : ∀ (l : List api_Rx) (z : GA), (l.foldl (fun o y => gCat o (gof y)) z).null = (z.null && l.all fun y => (gof y).null)
  | [], z => by simp
  | y :: r, z => by rw [List.foldl_cons, foldl_null_cat r]; simp [gCat, Bool.and_assoc]
theorem foldl_null_alt : ∀ (l : List api_Rx) (z : GA), (l.foldl (fun o y => gAlt o (gof y)) z).null = (z.null || l.any fun y => (gof y).null)
  | [], z => by simp
  | y :: r, z => by rw [List.foldl_cons, foldl_null_alt r]; simp [gAlt, Bool.or_assoc]
theorem all_congr' {l : List api_Rx} {p q : api_Rx → Bool} (h : ∀ y ∈ l, p y = q y) : l.all p = l.all q := by
  induction l with
  | nil => rfl
  | cons y r ih => simp only [List.all_cons]; rw [h y (List.mem_cons_self ..), ih fun z hz => h z (List.mem_cons_of_mem _ hz)]
theorem any_congr' {l : List api_Rx} {p q : api_Rx → Bool} (h : ∀ y ∈ l, p y = q y) : l.any p = l.any q := by
  induction l with
  | nil => rfl
  | cons y r ih => simp only [List.any_cons]; rw [h y (List.mem_cons_self ..), ih fun z hz => h z (List.mem_cons_of_mem _ hz)]
theorem gof_null : ∀ x, Rgt x → (gof x).null = nullB x := by
  refine rxInd fun x ih hr => ?_
  obtain ⟨ho, hk⟩ := rgt_own hr
  rw [gof_eq, nullB_eq]
  rcases own_kind ho with h | h | h | h | h
  · simp [h, gEmpty]
  · simp [h, gByte]
  · simp only [h]
    simp only [show ¬ ((3 : Int) = 2) by omega, show ¬ ((3 : Int) = 1) by omega, if_false, if_true]
    rw [foldl_null_cat, all_congr' fun y hy => ih y hy (hk y hy)]; rfl
  · simp only [h]
    simp only [show ¬ ((4 : Int) = 2) by omega, show ¬ ((4 : Int) = 3) by omega, show ¬ ((4 : Int) = 1) by omega, if_false, if_true]
    rw [foldl_null_alt, any_congr' fun y hy => ih y hy (hk y hy)]; rfl
  · obtain ⟨⟨k, hq⟩, h1, h2, h3⟩ := own_rep ho h
    simp only [h]
    simp only [show ¬ ((5 : Int) = 2) by omega, show ¬ ((5 : Int) = 3) by omega, show ¬ ((5 : Int) = 4) by omega, show ¬ ((5 : Int) = 1) by omega, if_false, if_true]
    rw [hq]
    simp only [List.map_cons, List.map_nil, List.headD_cons, List.all_cons, List.all_nil, Bool.and_true]
    rw [rep_null _ h1 (by omega), ih k (by rw [hq]; simp) (hk k (by rw [hq]; simp))]
theorem zero_null : ∀ x, Rgt x → sizeN x = 0 → nullB x = true := by
  refine rxInd fun x ih hr h0 => ?_
  obtain ⟨ho, hk⟩ := rgt_own hr
  rw [sizeN_eq] at h0
  rw [nullB_eq]
  have hsum : (x.Kids.map sizeN).sum = 0 → ∀ y ∈ x.Kids, nullB y = true := fun h y hy => ih y hy (hk y hy) (by
    have := List.sum_eq_zero_iff_forall_eq_nat.1 h (sizeN y) (List.mem_map.2 ⟨y, hy, rfl⟩); exact this)
  rcases own_kind ho with h | h | h | h | h
  · simp [h]
  · simp [h] at h0
  · simp only [h] at h0 ⊢
    simp at h0
    simp only [show ¬ ((3 : Int) = 1) by omega, if_false, if_true, List.all_eq_true]
    exact hsum h0
  · simp only [h] at h0 ⊢
    simp at h0
    have h2 := own_kids ho (.inr h)
    simp only [show ¬ ((4 : Int) = 1) by omega, show ¬ ((4 : Int) = 3) by omega, if_false, if_true]
    have hm : x.Kids[0]'(by omega) ∈ x.Kids := List.getElem_mem _
    exact List.any_eq_true.2 ⟨_, hm, hsum h0 _ hm⟩
  · obtain ⟨⟨k, hq⟩, h1, h2, h3⟩ := own_rep ho h
    simp only [h] at h0 ⊢
    simp only [show ¬ ((5 : Int) = 2) by omega, if_false, if_true, show (3 : Int) ≤ 5 ∧ (5 : Int) ≤ 5 from ⟨by omega, by omega⟩] at h0
    have ht : 1 ≤ timesN x := by simp only [timesN]; omega
    have hs : (x.Kids.map sizeN).sum = 0 := by
      rcases Nat.mul_eq_zero.1 h0 with h | h
      · exact h
      · omega
    simp only [show ¬ ((5 : Int) = 3) by omega, show ¬ ((5 : Int) = 4) by omega, show ¬ ((5 : Int) = 1) by omega, if_false, if_true]
    have : x.Kids.all nullB = true := List.all_eq_true.2 (hsum hs)
    rw [this]; simp
theorem gof_zero {x : api_Rx} (hr : Rgt x) (h0 : sizeN x = 0) : gof x = gEmpty :=
  canon_zero (canon_gof x) ((gof_n x hr).trans h0) ((gof_null x hr).trans (zero_null x hr h0))
end Go.Ev.Pl

set_option linter.unusedSimpArgs false
set_option linter.unusedVariables false
namespace Go.Ev.Pl
open Go Go.Ev
def hF (h : Nat → GA) (m n : Nat) : Nat → List (List Int)
  | 0 => []
  | N + 1 => hF h m n N ++ flw (h N) (m + N * n)
theorem hF_len {h : Nat → GA} {m n : Nat} (hn : ∀ j, (h j).n = n) : ∀ N, (hF h m n N).length = N * n
  | 0 => by simp [hF]
  | N + 1 => by rw [hF, List.length_append, hF_len hn N, flw_len, hn, Nat.succ_mul]
theorem hF_congr {h h' : Nat → GA} {m n : Nat} : ∀ N, (∀ j, j < N → h j = h' j) → hF h m n N = hF h' m n N
  | 0, _ => rfl
  | N + 1, e => by rw [hF, hF, hF_congr N (fun j hj => e j (by omega)), e N (by omega)]
theorem hF_small {h : Nat → GA} {m n : Nat} (hs : ∀ j, (h j).n < 10000000) : ∀ N, ∀ f ∈ hF h m n N, f.length < 10000000
  | 0, f, hf => by simp [hF] at hf
  | N + 1, f, hf => by
    rw [hF, List.mem_append] at hf
    rcases hf with hf | hf
    · exact hF_small hs N f hf
    · exact flw_small _ _ (hs N) f hf
theorem cpS_succ (a : GA) (k : Nat) : cpS a (k + 1) = cpS a k ++ a.sets := by
  simp only [cpS, List.replicate_succ', List.flatten_append]; simp
structure Room (F0 : List (List Int)) (S : List arr4_uint64) (n : Nat) : Prop where
  same : S.length = F0.length
  small : ∀ f ∈ F0, f.length < 10000000
  room : F0.length + n < 1000000
def PieceOk (x : api_Rx) : Prop := ∀ F0 S, Room F0 S (gof x).n → C_place_builder_piece x { sets := S, follow := F0 } (pc (gof x) F0.length) { sets := S ++ (gof x).sets, follow := F0 ++ flw (gof x) F0.length }
theorem copies_ok {k : api_Rx} (hp : PieceOk k) (N : Nat) (hN : N ≤ 1000) (F0 : List (List Int)) (S : List arr4_uint64) (hr : Room F0 S (N * (gof k).n)) :
    C_place_builder_copies k N { sets := S, follow := F0 } ((List.range N).map fun i => pc (gof k) (F0.length + i * (gof k).n)) { sets := S ++ cpS (gof k) N, follow := F0 ++ hF (fun _ => gof k) F0.length (gof k).n N } := by
  have hc := canon_gof k
  refine W_place_builder_copies k N _ _ _ ⟨fun s f o t => ∃ i : Nat, t = i ∧ i ≤ N ∧ s = S ++ cpS (gof k) i ∧ f = F0 ++ hF (fun _ => gof k) F0.length (gof k).n i ∧ o = (List.range i).map fun i => pc (gof k) (F0.length + i * (gof k).n),
    fun _ _ _ t => (N - t).toNat, ⟨0, rfl, by omega, by simp [cpS], by simp [hF], rfl⟩, ?_⟩
  rintro s f o t ⟨i, rfl, hi, rfl, rfl, rfl⟩
  refine ⟨fun ht => ?_, fun ht => ?_⟩
  · have ht : i < N := by simpa using ht
    have hle : (i + 1) * (gof k).n ≤ N * (gof k).n := Nat.mul_le_mul_right _ ht
    rw [Nat.add_mul, Nat.one_mul] at hle
    have hlen : (F0 ++ hF (fun _ => gof k) F0.length (gof k).n i).length = F0.length + i * (gof k).n := by rw [List.length_append, hF_len fun _ => rfl]
    have hroom := hr.room
    have hsl : ∀ j, (cpS (gof k) j).length = j * (gof k).n := fun j => by simp [cpS, hc.sets]
    have := hp (F0 ++ hF (fun _ => gof k) F0.length (gof k).n i) (S ++ cpS (gof k) i) ⟨by rw [hlen, List.length_append, hr.same, hsl], fun f hf => by
      rcases List.mem_append.1 hf with hf | hf
      · exact hr.small f hf
      · exact hF_small (fun _ => by omega) i f hf, by rw [hlen]; omega⟩
    rw [hlen, List.append_assoc, List.append_assoc, ← cpS_succ] at this
    have hw2 : w64 ((i : Int) + 1) = ((i + 1 : Nat) : Int) := w64_id (by omega) (by omega)
    refine ⟨_, _, this, by simp; omega, ?_⟩
    rw [hw2]
    exact ⟨⟨i + 1, rfl, by omega, rfl, rfl, by rw [List.range_succ, List.map_append]; rfl⟩, by dsimp only; omega⟩
  · have : i = N := by have : ¬ i < N := by simpa using ht
                       omega
    subst this
    exact ⟨rfl, rfl⟩
def fromEnd (h : Nat → GA) (mb : Nat → Bool) (N : Nat) : Nat → GA
  | 0 => gEmpty
  | i + 1 => let o := gCat (h (N - 1 - i)) (fromEnd h mb N i); if mb (N - 1 - i) = true then gMaybe o else o
theorem fromEnd_n {h : Nat → GA} {mb : Nat → Bool} {N n : Nat} (hn : ∀ j, (h j).n = n) : ∀ i, (fromEnd h mb N i).n = i * n
  | 0 => by simp [fromEnd, gEmpty]
  | i + 1 => by
    simp only [fromEnd]
    have : (gCat (h (N - 1 - i)) (fromEnd h mb N i)).n = (i + 1) * n := by
      show (h (N - 1 - i)).n + (fromEnd h mb N i).n = _
      rw [hn, fromEnd_n hn i, Nat.succ_mul]; omega
    split
    · exact this
    · exact this
theorem rep_loop {x : api_Rx} {h : Nat → GA} {N n : Nat} {F0 : List (List Int)} {S S' : List arr4_uint64} (hn : ∀ j, (h j).n = n) (hr : Room F0 S (N * n)) (hN : N ≤ 1000) {l : List place_piece} (hl : l = (List.range N).map fun j => pc (h j) (F0.length + j * n))
    {res : place_piece} {fin : place_builder} (hres : res = pc (fromEnd h (fun j => decide (x.Hi ≥ 0) && decide ((j : Int) ≥ x.Lo)) N N) F0.length)
    (hfin : fin = { sets := S', follow := F0 ++ flw (fromEnd h (fun j => decide (x.Hi ≥ 0) && decide ((j : Int) ≥ x.Lo)) N N) F0.length }) :
    (List.length l < 1099511627776 ∧ ∃ (Inv24 : Nat → List arr4_uint64 → List (List Int) → List Int → List Int → Bool → Prop), Inv24 0 S' (F0 ++ hF h F0.length n N) [] [] Bool.true ∧
      (∀ (i : Nat) (y : place_piece), i < List.length l → l[List.length l - 1 - i]? = some y → ∀ (s : List arr4_uint64) (f : List (List Int)) (o1 o2 : List Int) (o3 : Bool), Inv24 i s f o1 o2 o3 →
        (∃ r0_6 : place_piece, ∃ o_4 : place_builder, C_place_builder_cat y { first := o1, last := o2, null := o3 } { sets := s, follow := f } r0_6 o_4 ∧
          (((decide (x.Hi ≥ 0) && decide ((List.length l : Int) - 1 - i ≥ x.Lo)) = true → (∃ r0_7 : place_piece, C_place_maybe r0_6 r0_7 ∧ Inv24 (i + 1) o_4.sets o_4.follow r0_7.first r0_7.last r0_7.null)) ∧
            ((decide (x.Hi ≥ 0) && decide ((List.length l : Int) - 1 - i ≥ x.Lo)) = false → Inv24 (i + 1) o_4.sets o_4.follow r0_6.first r0_6.last r0_6.null)))) ∧
      (∀ (s : List arr4_uint64) (f : List (List Int)) (o1 o2 : List Int) (o3 : Bool), Inv24 (List.length l) s f o1 o2 o3 → (res = { first := o1, last := o2, null := o3 } ∧ fin = { sets := s, follow := f }))) := by
  have hll : l.length = N := by rw [hl]; simp
  obtain ⟨mb, hmb⟩ : ∃ mb : Nat → Bool, mb = fun j : Nat => decide (x.Hi ≥ 0) && decide ((j : Int) ≥ x.Lo) := ⟨_, rfl⟩
  rw [← hmb] at hres hfin
  have hroom := hr.room
  rw [hll]
  refine ⟨by omega, fun i s f o1 o2 o3 => i ≤ N ∧ s = S' ∧ f = F0 ++ hF h F0.length n (N - i) ++ flw (fromEnd h mb N i) (F0.length + (N - i) * n) ∧ (⟨o1, o2, o3⟩ : place_piece) = pc (fromEnd h mb N i) (F0.length + (N - i) * n), ⟨by omega, rfl, by simp [fromEnd, flw, gEmpty], rfl⟩, ?_, ?_⟩
  · rintro i y hi hy s f o1 o2 o3 ⟨_, rfl, rfl, hp⟩
    have hy : y = pc (h (N - 1 - i)) (F0.length + (N - 1 - i) * n) := by
      rw [hl, List.getElem?_map, List.getElem?_range (by omega)] at hy
      simpa using hy.symm
    have e1 : N - i = (N - 1 - i) + 1 := by omega
    have hlen : (F0 ++ hF h F0.length n (N - 1 - i)).length = F0.length + (N - 1 - i) * n := by rw [List.length_append, hF_len hn]
    have hmul : (N - 1 - i) * n + (n + i * n) = N * n := by
      have : N = (N - 1 - i) + (1 + i) := by omega
      conv => rhs; rw [this, Nat.add_mul, Nat.add_mul, Nat.one_mul]
    have hcat := cat_ok (F0 ++ hF h F0.length n (N - 1 - i)) s (h (N - 1 - i)) (fromEnd h mb N i) (fun f hf => by
      rcases List.mem_append.1 hf with hf | hf
      · exact hr.small f hf
      · exact hF_small (fun j => by have := hn j; omega) _ f hf) (by rw [hn, fromEnd_n hn]; omega) (by rw [hlen]; omega)
    rw [hlen, hn] at hcat
    have hpos : F0.length + (N - 1 - i) * n + n = F0.length + (N - i) * n := by rw [e1, Nat.succ_mul]; omega
    rw [hpos] at hcat
    have hfl : F0 ++ hF h F0.length n (N - i) = F0 ++ hF h F0.length n (N - 1 - i) ++ flw (h (N - 1 - i)) (F0.length + (N - 1 - i) * n) := by
      rw [e1, hF, List.append_assoc]
    rw [hfl, hp, hy]
    refine ⟨_, _, hcat, fun hm => ⟨_, W_place_maybe _ _ rfl, ?_⟩, fun hm => ?_⟩
    all_goals have hidx : ((N : Int) - 1 - i) = ((N - 1 - i : Nat) : Int) := by omega
    all_goals rw [hidx] at hm
    all_goals have e2 : N - (i + 1) = N - 1 - i := by omega
    · have hf : fromEnd h mb N (i + 1) = gMaybe (gCat (h (N - 1 - i)) (fromEnd h mb N i)) := by
        simp only [fromEnd]; rw [if_pos]; rw [hmb]; exact hm
      dsimp only; rw [hf, e2]
      exact ⟨by omega, rfl, rfl, rfl⟩
    · have hf : fromEnd h mb N (i + 1) = gCat (h (N - 1 - i)) (fromEnd h mb N i) := by
        simp only [fromEnd]; rw [if_neg]; rw [hmb]; simpa using hm
      dsimp only; rw [hf, e2]
      exact ⟨by omega, rfl, rfl, rfl⟩
  · rintro s f o1 o2 o3 ⟨_, rfl, rfl, hp⟩
    rw [Nat.sub_self, Nat.zero_mul, Nat.add_zero] at hp
    refine ⟨by rw [hres, hp], ?_⟩
    rw [hfin]
    simp [hF]
end Go.Ev.Pl

set_option linter.unusedSimpArgs false
set_option linter.unusedVariables false
namespace Go.Ev.Pl
open Go Go.Ev
theorem fromEnd_neg {g z : GA} {h : Nat → GA} {mb : Nat → Bool} {N : Nat} (hz : Canon z) (hN : 1 ≤ N) (hh : ∀ j, j < N - 1 → h j = g) (hl : h (N - 1) = z) (hm : ∀ j, mb j = false) : ∀ i, i < N → fromEnd h mb N (i + 1) = iter (gCat g) i z
  | 0, hi => by
    simp only [fromEnd, hm]
    rw [if_neg (by simp), Nat.sub_zero, hl, cat_empty_r hz]; rfl
  | i + 1, hi => by
    have ih := fromEnd_neg hz hN hh hl hm i (by omega)
    rw [fromEnd]
    simp only [hm]
    rw [if_neg (by simp), ih, hh _ (by omega)]; rfl
theorem fromEnd_pos {g : GA} {h : Nat → GA} {mb : Nat → Bool} {N L : Nat} (hL : L ≤ N) (hh : ∀ j, h j = g) (hm : ∀ j, j < N → mb j = decide (L ≤ j)) : ∀ i, i ≤ N →
    fromEnd h mb N i = iter (gCat g) (i - (N - L)) (iter (fun o => gMaybe (gCat g o)) (min i (N - L)) gEmpty)
  | 0, _ => by simp [fromEnd, iter]
  | i + 1, hi => by
    have ih := fromEnd_pos hL hh hm i (by omega)
    rw [fromEnd]
    simp only [hh, ih]
    rw [hm _ (by omega)]
    by_cases hc : L ≤ N - 1 - i
    · rw [if_pos (by simpa using hc), show i - (N - L) = 0 by omega, show i + 1 - (N - L) = 0 by omega, show min i (N - L) = i by omega, show min (i + 1) (N - L) = i + 1 by omega]; rfl
    · rw [if_neg (by simpa using hc), show i + 1 - (N - L) = (i - (N - L)) + 1 by omega, show min i (N - L) = N - L by omega, show min (i + 1) (N - L) = N - L by omega]; rfl
theorem flw_again (g : GA) (b : Prop) [Decidable b] (off : Nat) : flw (if b then gMaybe (gAgain g) else gAgain g) off = flw (gAgain g) off := by split <;> rfl
theorem map_range_set {α : Type} {f : Nat → α} {N i : Nat} {v : α} (h : i < N) : ((List.range N).map f).set i v = (List.range N).map fun j => if j = i then v else f j := by
  refine set_eq (by simp) (fun j hj hne => ?_) (fun hj => ?_)
  · simp only [List.getElem_map, List.getElem_range]; rw [if_neg hne]
  · simp only [List.getElem_map, List.getElem_range, if_true]
theorem rep_ok {x : api_Rx} (hr : Rgt x) (h5 : x.Kind = 5) (hw : Wf x) (hp : ∀ k ∈ x.Kids, PieceOk k) (F0 : List (List Int)) (S : List arr4_uint64) (hroom : Room F0 S (gof x).n) :
    C_place_builder_rep x { sets := S, follow := F0 } (pc (gof x) F0.length) { sets := S ++ (gof x).sets, follow := F0 ++ flw (gof x) F0.length } := by
  obtain ⟨ho, hk⟩ := rgt_own hr
  obtain ⟨⟨k, hq⟩, h1, h2, h3⟩ := own_rep ho h5
  have hkm : k ∈ x.Kids := by rw [hq]; simp
  have hgn := gof_n x hr
  have hgof : gof x = gRep (gof k) x.Lo x.Hi := by
    rw [gof_eq, h5, hq]; simp
  refine W_place_builder_rep x _ _ _ ⟨_, rxSize_ok x hw, fun h0 => ?_, fun h0 => ?_⟩
  · have h0 : sizeN x = 0 := by
      have : sizeZ x = 0 := by simpa using h0
      simp only [sizeZ] at this; omega
    rw [gof_zero hr h0]
    exact ⟨rfl, by simp [gEmpty, flw]⟩
  obtain ⟨N, hN⟩ : ∃ N : Nat, N = (max 1 (max x.Lo x.Hi)).toNat := ⟨_, rfl⟩
  have hN1 : 1 ≤ N := by omega
  have hN2 : N ≤ 20 := by omega
  have hNi : (N : Int) = max 1 (max x.Lo x.Hi) := by omega
  have hn : (gof x).n = N * (gof k).n := by rw [hgof, rep_n _ h1 (by omega), hN]
  have hs : (gof x).sets = cpS (gof k) N := by rw [hgof, rep_sets _ h1 (by omega), hN]
  have hroom2 : Room F0 S (N * (gof k).n) := by rw [← hn]; exact hroom
  have hcp := copies_ok (hp k hkm) N (by omega) F0 S hroom2
  have hlen2 : F0.length + N * (gof k).n < 1000000 := hroom2.room
  have hcnt : (if (1 : Int) > if x.Hi > x.Lo then x.Hi else x.Lo then (1 : Int) else if x.Hi > x.Lo then x.Hi else x.Lo) = (N : Int) := by rw [hNi]; split <;> omega
  rw [hcnt, hq]
  simp only [List.length_cons, List.length_nil, List.getD_cons_zero]
  refine ⟨by omega, _, _, hcp, ?_⟩
  rw [← hs]
  by_cases hneg : x.Hi < 0
  · -- from some times on
    obtain ⟨z, hz⟩ : ∃ z : GA, z = if x.Lo = 0 then gMaybe (gAgain (gof k)) else gAgain (gof k) := ⟨_, rfl⟩
    have hzc : Canon z := by rw [hz]; split; exact canon_maybe (canon_again (canon_gof k)); exact canon_again (canon_gof k)
    have hzn : z.n = (gof k).n := by rw [hz]; split <;> rfl
    obtain ⟨h, hh⟩ : ∃ h : Nat → GA, h = fun j => if j = N - 1 then z else gof k := ⟨_, rfl⟩
    have hhn : ∀ j, (h j).n = (gof k).n := fun j => by rw [hh]; dsimp only; split; exact hzn; rfl
    have hfe : fromEnd h (fun j : Nat => decide (x.Hi ≥ 0) && decide ((j : Int) ≥ x.Lo)) N N = gof x := by
      have := fromEnd_neg (mb := fun j : Nat => decide (x.Hi ≥ 0) && decide ((j : Int) ≥ x.Lo)) hzc hN1 (h := h) (g := gof k) (fun j hj => by rw [hh]; dsimp only; rw [if_neg (by omega)]) (by rw [hh]; simp) (fun j => by simp; omega) (N - 1) (by omega)
      rw [show N - 1 + 1 = N by omega] at this
      rw [this, hgof]
      unfold gRep
      rw [if_pos hneg, ← hz]
      congr 1; omega
    obtain ⟨N1, rfl⟩ : ∃ N1, N = N1 + 1 := ⟨N - 1, by omega⟩
    have hF1 : hF h F0.length (gof k).n (N1 + 1) = hF (fun _ => gof k) F0.length (gof k).n N1 ++ flw (gAgain (gof k)) (F0.length + N1 * (gof k).n) := by
      rw [hF, hF_congr N1 (h' := fun _ => gof k) (fun j hj => by rw [hh]; dsimp only; rw [if_neg (by omega)])]
      congr 1
      rw [hh]; dsimp only; rw [if_pos (by omega), hz, flw_again]
    refine ⟨fun s f l => s = S ++ (gof x).sets ∧ f = F0 ++ hF h F0.length (gof k).n (N1 + 1) ∧ l = (List.range (N1 + 1)).map fun j => pc (h j) (F0.length + j * (gof k).n), ?_, fun _ => ?_, fun hc => absurd (of_decide_eq_false hc) (by omega)⟩
    · rintro s f l ⟨rfl, rfl, hl⟩
      exact ⟨backward_60 l, rep_loop (x := x) (h := h) (N := N1 + 1) (S := S) hhn hroom2 (by omega) hl (by rw [hfe]) (by rw [hfe])⟩
    · have hwl : w64 ((((List.range (N1 + 1)).map fun i => pc (gof k) (F0.length + i * (gof k).n)).length : Int) - 1) = (N1 : Int) := by
        rw [List.length_map, List.length_range]; exact (w64_id (by omega) (by omega)).trans (by omega)
      have hgl : gd ((List.range (N1 + 1)).map fun i => pc (gof k) (F0.length + i * (gof k).n)) (N1 : Int) = pc (gof k) (F0.length + N1 * (gof k).n) := by
        rw [gd_nat (by simp)]; simp
      rw [hwl, hgl]
      have hlen : (F0 ++ hF (fun _ => gof k) F0.length (gof k).n N1).length = F0.length + N1 * (gof k).n := by rw [List.length_append, hF_len fun _ => rfl]
      have hmul : (N1 + 1) * (gof k).n = N1 * (gof k).n + (gof k).n := Nat.succ_mul _ _
      have hla := lst_len (gof k).n (gof k).last (F0.length + N1 * (gof k).n)
      have hlf := lst_len (gof k).n (gof k).first (F0.length + N1 * (gof k).n)
      have hlead := lead_ok (lst (gof k).n (gof k).last (F0.length + N1 * (gof k).n)) (lst (gof k).n (gof k).first (F0.length + N1 * (gof k).n)) { sets := S ++ (gof x).sets, follow := F0 ++ hF (fun _ => gof k) F0.length (gof k).n (N1 + 1) } (lst_ss _ _ _) (fun y hy => by
        obtain ⟨i, hi, _, rfl⟩ := lst_mem.1 hy
        simp only [List.length_append, hF_len fun _ => rfl]; omega) (by omega) (fun f hf => by
        rcases List.mem_append.1 hf with hf | hf
        · exact hroom.small f hf
        · exact hF_small (fun _ => by omega) _ f hf) (by omega)
      have hag := lead_again (F0 ++ hF (fun _ => gof k) F0.length (gof k).n N1) (gof k)
      rw [hlen, List.append_assoc, List.append_assoc] at hag
      have hag2 : leadF (F0 ++ hF (fun _ => gof k) F0.length (gof k).n (N1 + 1)) (lst (gof k).n (gof k).last (F0.length + N1 * (gof k).n)) (lst (gof k).n (gof k).first (F0.length + N1 * (gof k).n)) = F0 ++ hF h F0.length (gof k).n (N1 + 1) := by
        rw [hF1]; exact hag
      simp only [hag2] at hlead
      have hset : ∀ b : Bool, b = z.null → List.set ((List.range (N1 + 1)).map fun i => pc (gof k) (F0.length + i * (gof k).n)) (Int.toNat (N1 : Int)) { first := (pc (gof k) (F0.length + N1 * (gof k).n)).first, last := (pc (gof k) (F0.length + N1 * (gof k).n)).last, null := b } = (List.range (N1 + 1)).map fun j => pc (h j) (F0.length + j * (gof k).n) := by
        intro b hb
        rw [Int.toNat_natCast, map_range_set (by omega)]
        refine List.map_congr_left fun j hj => ?_
        rw [hh]; dsimp only
        by_cases e : j = N1
        · subst e
          rw [if_pos rfl, if_pos (by omega)]
          have e1 : z.first = (gof k).first := by rw [hz]; split <;> rfl
          have e2 : z.last = (gof k).last := by rw [hz]; split <;> rfl
          rw [hb]
          simp only [pc, hzn, e1, e2]
        · rw [if_neg e, if_neg (by omega)]
      have hll : ((List.range (N1 + 1)).map fun i => pc (gof k) (F0.length + i * (gof k).n)).length = N1 + 1 := by simp
      rw [hll]
      refine ⟨by omega, by omega, by omega, by omega, _, hlead, by omega, fun hn => ⟨fun _ => by omega, rfl, rfl, hset _ ?_⟩, fun hn => ⟨fun _ => by omega, rfl, rfl, hset _ ?_⟩⟩
      · have hn : (gof k).null = true := hn
        rw [hz]; split <;> simp [gMaybe, gAgain, hn]
      · have hn : (gof k).null = false := hn
        rw [hz]
        by_cases e : x.Lo = 0
        · rw [if_pos e, e]; rfl
        · rw [if_neg e]
          show (x.Lo == 0) = (gof k).null
          rw [hn]; simpa using e
  · -- from some times to others
    have hhi : 1 ≤ x.Hi ∧ x.Lo ≤ x.Hi := by omega
    have hfe : fromEnd (fun _ => gof k) (fun j : Nat => decide (x.Hi ≥ 0) && decide ((j : Int) ≥ x.Lo)) N N = gof x := by
      have := fromEnd_pos (h := fun _ => gof k) (g := gof k) (mb := fun j : Nat => decide (x.Hi ≥ 0) && decide ((j : Int) ≥ x.Lo)) (N := N) (L := x.Lo.toNat) (by omega) (fun _ => rfl) (fun j hj => by
        have : decide (x.Hi ≥ 0) = true := by simp; omega
        simp only [this, Bool.true_and, decide_eq_decide]; omega) N (Nat.le_refl _)
      rw [this, hgof]
      unfold gRep
      rw [if_neg hneg]
      congr 1
      · omega
      · congr 1; omega
    refine ⟨fun s f l => s = S ++ (gof x).sets ∧ f = F0 ++ hF (fun _ => gof k) F0.length (gof k).n N ∧ l = (List.range N).map fun j => pc (gof k) (F0.length + j * (gof k).n), ?_, fun hc => absurd (of_decide_eq_true hc) hneg, fun _ => ⟨rfl, rfl, rfl⟩⟩
    rintro s f l ⟨rfl, rfl, hl⟩
    exact ⟨backward_60 l, rep_loop (x := x) (h := fun _ => gof k) (N := N) (S := S) (fun _ => rfl) hroom2 (by omega) hl (by rw [hfe]) (by rw [hfe])⟩
end Go.Ev.Pl

set_option linter.unusedSimpArgs false
set_option linter.unusedVariables false
namespace Go.Ev.Pl
open Go Go.Ev
theorem pc_first (g : GA) (off : Nat) : (pc g off).first = lst g.n g.first off := rfl
theorem pc_last (g : GA) (off : Nat) : (pc g off).last = lst g.n g.last off := rfl
theorem pc_null (g : GA) (off : Nat) : (pc g off).null = g.null := rfl
theorem pre_n {f : GA → GA → GA} (hf : ∀ a b, (f a b).n = a.n + b.n) {z : GA} (hz : z.n = 0) {l : List api_Rx} {i : Nat} (h : i < l.length) :
    ((l.take i).foldl (fun o y => f o (gof y)) z).n + (gof l[i]).n ≤ (l.foldl (fun o y => f o (gof y)) z).n := by
  have e := foldl_n hf (l.take (i + 1)) z
  rw [foldl_take_succ h, hf] at e
  rw [e, foldl_n hf]
  have : (l.map fun y => (gof y).n).sum = ((l.take (i + 1)).map fun y => (gof y).n).sum + ((l.drop (i + 1)).map fun y => (gof y).n).sum := by
    rw [← List.sum_append, ← List.map_append, List.take_append_drop]
  omega
theorem piece_ok : ∀ x, Wf x → Rgt x → PieceOk x := by
  refine rxInd fun x ih hw hr => ?_
  obtain ⟨hl, hkw⟩ := (wf_eq x).1 hw
  obtain ⟨ho, hk⟩ := rgt_own hr
  intro F0 S hroom
  have hrm := hroom.room
  refine W_place_builder_piece x _ _ _ ⟨fun h => ?_, fun h2 => ⟨fun h => ?_, fun h3 => ⟨fun h => ?_, fun h4 => ⟨fun h => ?_, fun h5 => ?_⟩⟩⟩⟩
  · have h : x.Kind = 2 := by simpa using h
    have hg : gof x = gByte x.Set := by rw [gof_eq, if_pos h]
    rw [hg] at hrm ⊢
    have hrm : F0.length + 1 < 1000000 := hrm
    refine ⟨_, _, W_place_builder_place _ _ _ _ ⟨?_, ?_, rfl, rfl⟩, ?_, ?_⟩
    · have := hroom.same; simp only; omega
    · simp only; omega
    · have : lst 1 (fun i => i == 0) F0.length = [(S.length : Int)] := by
        rw [hroom.same]; simp [lst, List.range_succ]
      simp only [pc, gByte, this]
    · rfl
  · have h : x.Kind = 3 := by simpa using h
    have hg : gof x = x.Kids.foldl (fun o y => gCat o (gof y)) gEmpty := by rw [gof_eq]; simp [h]
    refine ⟨fun s f a b c t => ∃ i : Nat, t = i ∧ i ≤ x.Kids.length ∧ s = S ++ ((x.Kids.take i).foldl (fun o y => gCat o (gof y)) gEmpty).sets ∧ f = F0 ++ flw ((x.Kids.take i).foldl (fun o y => gCat o (gof y)) gEmpty) F0.length ∧ (⟨a, b, c⟩ : place_piece) = pc ((x.Kids.take i).foldl (fun o y => gCat o (gof y)) gEmpty) F0.length,
      fun _ _ _ _ _ t => (x.Kids.length - t).toNat, ⟨0, rfl, by omega, by simp [gEmpty], by simp [gEmpty, flw], rfl⟩, ?_⟩
    rintro s f a b c t ⟨i, rfl, hi, rfl, rfl, hp⟩
    refine ⟨fun ht => ?_, fun ht => ?_⟩
    · have ht : i < x.Kids.length := by simpa using ht
      have hm := List.getElem_mem ht
      obtain ⟨o, ho'⟩ : ∃ o, o = (x.Kids.take i).foldl (fun o y => gCat o (gof y)) gEmpty := ⟨_, rfl⟩
      have hn := pre_n (f := gCat) (fun _ _ => rfl) (z := gEmpty) rfl ht
      rw [← hg, ← ho'] at hn
      have hsucc := foldl_take_succ (f := fun o y => gCat o (gof y)) (b := gEmpty) ht
      rw [← ho'] at hsucc hp ⊢
      have hoc : Canon o := by
        rw [ho']
        have : ∀ (l : List api_Rx) (z : GA), Canon z → Canon (l.foldl (fun o y => gCat o (gof y)) z) := by
          intro l
          induction l with
          | nil => intro z h; exact h
          | cons y r ih2 => intro z h; exact ih2 _ (canon_cat h (canon_gof y))
        exact this _ _ canon_empty
      have hlen : (F0 ++ flw o F0.length).length = F0.length + o.n := by rw [List.length_append, flw_len]
      have hpk := ih _ hm (hkw _ hm) (hk _ hm) (F0 ++ flw o F0.length) (S ++ o.sets) ⟨by rw [hlen, List.length_append, hroom.same, hoc.sets], fun f hf => by
        rcases List.mem_append.1 hf with hf | hf
        · exact hroom.small f hf
        · exact flw_small _ _ (by omega) f hf, by rw [hlen]; omega⟩
      rw [hlen] at hpk
      have hcat := cat_ok F0 ((S ++ o.sets) ++ (gof x.Kids[i]).sets) o (gof x.Kids[i]) hroom.small (by omega) (by omega)
      have hw2 : w64 ((i : Int) + 1) = ((i + 1 : Nat) : Int) := w64_id (by omega) (by omega)
      rw [gd_nat ht, hp]
      refine ⟨by omega, by omega, _, _, hpk, _, _, hcat, ?_⟩
      rw [hw2]
      exact ⟨⟨i + 1, rfl, by omega, by rw [hsucc]; simp [gCat], by rw [hsucc], by rw [hsucc]⟩, by dsimp only; omega⟩
    · have : i = x.Kids.length := by have : ¬ i < x.Kids.length := by simpa using ht
                                     omega
      subst this
      rw [List.take_of_length_le (Nat.le_refl _), ← hg] at hp ⊢
      exact ⟨hp.symm, rfl⟩
  · have h : x.Kind = 4 := by simpa using h
    have hg : gof x = x.Kids.foldl (fun o y => gAlt o (gof y)) gNone := by rw [gof_eq]; simp [h]
    refine ⟨fun s f a b c t => ∃ i : Nat, t = i ∧ i ≤ x.Kids.length ∧ s = S ++ ((x.Kids.take i).foldl (fun o y => gAlt o (gof y)) gNone).sets ∧ f = F0 ++ flw ((x.Kids.take i).foldl (fun o y => gAlt o (gof y)) gNone) F0.length ∧ (⟨a, b, c⟩ : place_piece) = pc ((x.Kids.take i).foldl (fun o y => gAlt o (gof y)) gNone) F0.length,
      fun _ _ _ _ _ t => (x.Kids.length - t).toNat, ⟨0, rfl, by omega, by simp [gNone], by simp [gNone, flw], rfl⟩, ?_⟩
    rintro s f a b c t ⟨i, rfl, hi, rfl, rfl, hp⟩
    refine ⟨fun ht => ?_, fun ht => ?_⟩
    · have ht : i < x.Kids.length := by simpa using ht
      have hm := List.getElem_mem ht
      obtain ⟨o, ho'⟩ : ∃ o, o = (x.Kids.take i).foldl (fun o y => gAlt o (gof y)) gNone := ⟨_, rfl⟩
      have hn := pre_n (f := gAlt) (fun _ _ => rfl) (z := gNone) rfl ht
      rw [← hg, ← ho'] at hn
      have hsucc := foldl_take_succ (f := fun o y => gAlt o (gof y)) (b := gNone) ht
      rw [← ho'] at hsucc hp ⊢
      have hoc : Canon o := by
        rw [ho']
        have : ∀ (l : List api_Rx) (z : GA), Canon z → Canon (l.foldl (fun o y => gAlt o (gof y)) z) := by
          intro l
          induction l with
          | nil => intro z h; exact h
          | cons y r ih2 => intro z h; exact ih2 _ (canon_alt h (canon_gof y))
        exact this _ _ canon_none
      have hlen : (F0 ++ flw o F0.length).length = F0.length + o.n := by rw [List.length_append, flw_len]
      have hpk := ih _ hm (hkw _ hm) (hk _ hm) (F0 ++ flw o F0.length) (S ++ o.sets) ⟨by rw [hlen, List.length_append, hroom.same, hoc.sets], fun f hf => by
        rcases List.mem_append.1 hf with hf | hf
        · exact hroom.small f hf
        · exact flw_small _ _ (by omega) f hf, by rw [hlen]; omega⟩
      rw [hlen] at hpk
      have hw2 : w64 ((i : Int) + 1) = ((i + 1 : Nat) : Int) := w64_id (by omega) (by omega)
      rw [gd_nat ht]
      have hpa : a = lst o.n o.first F0.length := congrArg place_piece.first hp
      have hpb : b = lst o.n o.last F0.length := congrArg place_piece.last hp
      have hpc : c = o.null := congrArg place_piece.null hp
      have l1 := lst_len o.n o.first F0.length
      have l2 := lst_len o.n o.last F0.length
      have l3 := lst_len (gof x.Kids[i]).n (gof x.Kids[i]).first (F0.length + o.n)
      have l4 := lst_len (gof x.Kids[i]).n (gof x.Kids[i]).last (F0.length + o.n)
      refine ⟨by omega, by omega, _, _, hpk, _, join_ok _ _ (by rw [hpa]; omega) (by rw [pc_first]; omega), _, join_ok _ _ (by rw [hpb]; omega) (by rw [pc_last]; omega), ?_⟩
      rw [hw2]
      refine ⟨⟨i + 1, rfl, by omega, by rw [hsucc]; simp [gAlt], ?_, ?_⟩, by dsimp only; omega⟩
      · rw [hsucc, ← flw_alt, ← List.append_assoc]
      · rw [hsucc, hpa, hpb, hpc, pc_first, pc_last, pc_null, alt_first, alt_last]; rfl
    · have : i = x.Kids.length := by have : ¬ i < x.Kids.length := by simpa using ht
                                     omega
      subst this
      rw [List.take_of_length_le (Nat.le_refl _), ← hg] at hp ⊢
      exact ⟨hp.symm, rfl⟩
  · have h : x.Kind = 5 := by simpa using h
    exact ⟨_, _, rep_ok hr h hw (fun k hkm => ih k hkm (hkw k hkm) (hk k hkm)) F0 S hroom, rfl, rfl⟩
  · have h1 : x.Kind = 1 := by
      simp only [beq_eq_false_iff_ne, ne_eq] at h2 h3 h4 h5
      have := own_kind ho; omega
    have hg : gof x = gEmpty := by rw [gof_eq]; simp [h1]
    rw [hg]
    exact ⟨rfl, by simp [gEmpty, flw]⟩
def plc (g : GA) : api_Places := ⟨g.sets, lst g.n g.first 0, lst g.n g.last 0, flw g 0, g.null⟩
def noPl : api_Places := ⟨[], [], [], [], false⟩
theorem size_of_right {x : api_Rx} (h : rightB x = true) : Rgt x ∧ sizeN x ≤ 200 := by
  simp only [rightB, Bool.and_eq_true, decide_eq_true_eq] at h
  refine ⟨⟨20, h.1⟩, ?_⟩
  have := h.2.1
  simp only [sizeZ] at this; omega
theorem placeOf_ok (x : api_Rx) (hw : Wf x) : C_place_Of x (if rightB x = true then plc (gof x) else noPl) (if rightB x = true then 0 else 1) := by
  refine W_place_Of x _ _ ⟨_, rxRightAll_ok x hw, fun h => ?_, fun h => ?_⟩
  · have h : rightB x = false := by simpa using h
    rw [h]; exact ⟨rfl, rfl⟩
  · have h : rightB x = true := by simpa using h
    obtain ⟨hr, hs⟩ := size_of_right h
    have hn := gof_n x hr
    have := piece_ok x hw hr [] [] ⟨rfl, fun f hf => by simp at hf, by simp; omega⟩
    refine ⟨_, _, this, ?_, ?_⟩
    · rw [if_pos h]; simp [plc, pc]
    · rw [if_pos h]
end Go.Ev.Pl

set_option linter.unusedSimpArgs false
set_option linter.unusedVariables false
namespace Go.Ev.Pl
open Go Go.Ev
theorem moved_ok (n : Nat) (p : Nat → Bool) (off d : Nat) (h : n + off + d < 1000000) : C_heckleref09_moved (lst n p off) d (lst n p (off + d)) := by
  have hl := lst_len n p off
  have he : lst n p (off + d) = (lst n p off).map (· + (d : Int)) := by
    simp only [lst, List.map_map]
    refine List.map_congr_left fun i _ => ?_
    simp only [Function.comp]; omega
  rw [he]
  refine W_heckleref09_moved _ _ _ ⟨fun o t => ∃ i : Nat, t = i ∧ i ≤ (lst n p off).length ∧ o = ((lst n p off).take i).map (· + (d : Int)), fun o t => ((lst n p off).length - t).toNat, ⟨0, rfl, by omega, rfl⟩, ?_⟩
  rintro o t ⟨i, rfl, hi, rfl⟩
  refine ⟨fun ht => ?_, fun ht => ?_⟩
  · have ht : i < (lst n p off).length := by simpa using ht
    have hm := lst_mem.1 (List.getElem_mem ht)
    obtain ⟨j, hj, _, hv⟩ := hm
    have hw : w64 (gd (lst n p off) (i : Int) + d) = (lst n p off)[i] + d := by rw [gd_nat ht]; exact w64_id (by omega) (by omega)
    have hw2 : w64 ((i : Int) + 1) = ((i + 1 : Nat) : Int) := w64_id (by omega) (by omega)
    rw [hw, hw2]
    refine ⟨by omega, by omega, by simp; omega, ⟨i + 1, rfl, by omega, ?_⟩, by first | omega | (dsimp only; omega)⟩
    rw [List.take_succ_eq_append_getElem ht, List.map_append]; rfl
  · have : i = (lst n p off).length := by have : ¬ i < (lst n p off).length := by simpa using ht
                                          omega
    subst this
    rw [List.take_of_length_le (Nat.le_refl _)]
theorem addL_nil_r : ∀ a, addL a [] = a
  | [] => by rw [addL]
  | x :: a => by rw [addL]; simp
theorem addL_drop_r {a b : List Int} {i k : Nat} (hk : k = b.length) (hi : i < a.length) : addL (a.drop i) (b.drop k) = a[i] :: addL (a.drop (i + 1)) (b.drop k) := by
  subst hk
  rw [List.drop_length, addL_nil_r, addL_nil_r, List.drop_eq_getElem_cons hi]
theorem addL_drop_l {a b : List Int} {i k : Nat} (hi : i = a.length) (hk : k < b.length) : addL (a.drop i) (b.drop k) = b[k] :: addL (a.drop i) (b.drop (k + 1)) := by
  subst hi
  rw [List.drop_length, addL, addL, List.drop_eq_getElem_cons hk]
theorem addL_drop {a b : List Int} {i k : Nat} (hi : i < a.length) (hk : k < b.length) : addL (a.drop i) (b.drop k) = if a[i] < b[k] then a[i] :: addL (a.drop (i + 1)) (b.drop k) else if b[k] < a[i] then b[k] :: addL (a.drop i) (b.drop (k + 1)) else a[i] :: addL (a.drop (i + 1)) (b.drop (k + 1)) := by
  conv => lhs; rw [List.drop_eq_getElem_cons hi, List.drop_eq_getElem_cons hk, addL]
  rw [← List.drop_eq_getElem_cons hi, ← List.drop_eq_getElem_cons hk]
theorem add_ok (a b : List Int) (ha : a.length < 10000000) (hb : b.length < 10000000) : C_heckleref09_Add a b (addL a b) := by
  refine W_heckleref09_Add a b _ ⟨fun o s t => ∃ i k : Nat, s = i ∧ t = k ∧ i ≤ a.length ∧ k ≤ b.length ∧ o.length ≤ i + k ∧ o ++ addL (a.drop i) (b.drop k) = addL a b, fun o s t => (a.length - s).toNat + (b.length - t).toNat, ⟨0, 0, rfl, rfl, by omega, by omega, by simp, rfl⟩, ?_⟩
  rintro o s t ⟨i, k, rfl, rfl, hi, hk, hol, ho⟩
  have hwi : w64 ((i : Int) + 1) = ((i + 1 : Nat) : Int) := w64_id (by omega) (by omega)
  have hwk : w64 ((k : Int) + 1) = ((k + 1 : Nat) : Int) := w64_id (by omega) (by omega)
  simp only [List.length_map]
  refine ⟨fun ht => ?_, fun ht => ?_⟩
  · simp only [Bool.or_eq_true, decide_eq_true_eq] at ht
    have hkb : ((k : Int) == (b.length : Int)) = decide (k = b.length) := by show decide _ = decide _; simp only [decide_eq_decide]; omega
    have hib : ((i : Int) == (a.length : Int)) = decide (i = a.length) := by show decide _ = decide _; simp only [decide_eq_decide]; omega
    have hia : decide ((i : Int) < (a.length : Int)) = decide (i < a.length) := by simp only [decide_eq_decide]; omega
    rw [hkb, hib, hia]
    refine ⟨fun h1 h2 => by omega, fun h1 h2 => by have := of_decide_eq_true h2; omega, fun h1 h2 => by omega, fun h1 h2 => by have := of_decide_eq_false h1; omega, fun h => ?_, fun h => ⟨fun h1 => by omega, fun h1 => ?_, fun h1 => by omega, fun h1 => ?_, fun h2 => ?_, fun h2 => ?_⟩⟩
    · simp only [Bool.or_eq_true, Bool.and_eq_true, decide_eq_true_eq] at h
      have hil : i < a.length := by omega
      rw [gd_nat hil, hwi]
      refine ⟨by omega, by omega, by omega, ⟨i + 1, k, rfl, rfl, by omega, hk, by simp; omega, ?_⟩, by first | omega | (dsimp only; omega)⟩
      rw [← ho, List.append_assoc]
      congr 1
      rcases h with h | ⟨_, h⟩
      · rw [addL_drop_r h hil]; rfl
      · by_cases hkl : k < b.length
        · rw [gd_nat hil, gd_nat hkl] at h
          rw [addL_drop hil hkl, if_pos h]; rfl
        · rw [addL_drop_r (by omega) hil]; rfl
    · simp only [Bool.or_eq_false_iff, decide_eq_false_iff_not] at h; omega
    · have := of_decide_eq_false h1; omega
    · simp only [Bool.or_eq_false_iff, decide_eq_false_iff_not] at h
      have hkl : k < b.length := by omega
      rw [gd_nat hkl, hwk]
      refine ⟨by omega, by omega, by omega, ⟨i, k + 1, rfl, rfl, hi, by omega, by simp; omega, ?_⟩, by first | omega | (dsimp only; omega)⟩
      rw [← ho, List.append_assoc]
      congr 1
      simp only [Bool.or_eq_true, decide_eq_true_eq] at h2
      by_cases hia2 : i = a.length
      · rw [addL_drop_l hia2 hkl]; rfl
      · have hil : i < a.length := by omega
        have h2 : b[k] < a[i] := by
          rcases h2 with h2 | h2
          · exact absurd h2 hia2
          · rw [gd_nat hkl, gd_nat hil] at h2; exact h2
        rw [addL_drop hil hkl, if_neg (by omega), if_pos h2]; rfl
    · simp only [Bool.or_eq_false_iff, decide_eq_false_iff_not, Bool.and_eq_false_iff] at h h2
      have hkl : k < b.length := by omega
      have hil : i < a.length := by omega
      rw [gd_nat hkl, gd_nat hil] at h h2
      rw [gd_nat hil, hwi, hwk]
      refine ⟨by omega, by omega, by omega, ⟨i + 1, k + 1, rfl, rfl, by omega, by omega, by simp; omega, ?_⟩, by first | omega | (dsimp only; omega)⟩
      rw [← ho, List.append_assoc]
      congr 1
      rw [addL_drop hil hkl, if_neg (by rcases h.2 with h | h <;> omega), if_neg h2.2]; rfl
  · simp only [Bool.or_eq_false_iff, decide_eq_false_iff_not] at ht
    have e1 : i = a.length := by omega
    have e2 : k = b.length := by omega
    rw [← ho, e1, e2, List.drop_length, List.drop_length, addL, List.append_nil]
theorem flw_mem {g : GA} {off i : Nat} (h : i < g.n) : gd (flw g off) (i : Int) = lst g.n (g.follow i) off := by rw [gd_nat (by rw [flw_len]; exact h), flw_get _ _ h]
theorem both_ok (a b : GA) (ha : Canon a) (hb : Canon b) (hn : a.n + b.n < 1000) (nb : Bool) (f l : List Int) : C_heckleref09_both (plc a) { Sets := b.sets, First := f, Last := l, Follow := flw b 0, Null := nb } ⟨a.sets ++ b.sets, [], [], flw a 0 ++ flw b a.n, false⟩ := by
  have has := ha.sets
  have hbs := hb.sets
  refine W_heckleref09_both _ _ _ ⟨by show a.sets.length * 32 ≤ _; omega, by show (a.sets.length + b.sets.length) * 32 ≤ _; omega, fun o t => ∃ i : Nat, t = i ∧ i ≤ a.n ∧ o = (flw a 0).take i, fun o t => (a.n - t).toNat, ⟨0, rfl, by omega, rfl⟩, ?_⟩
  rintro o t ⟨i, rfl, hi, rfl⟩
  have hfa : (plc a).Follow = flw a 0 := rfl
  simp only [hfa]
  refine ⟨fun ht => ?_, fun ht => ?_⟩
  · have ht : i < a.n := by rw [flw_len] at ht; simpa using ht
    have hw2 : w64 ((i : Int) + 1) = ((i + 1 : Nat) : Int) := w64_id (by omega) (by omega)
    have hfl := flw_len a 0
    rw [hw2, gd_nat (by rw [flw_len]; exact ht)]
    refine ⟨by omega, by omega, by simp [flw_len]; omega, ⟨i + 1, rfl, by omega, ?_⟩, by first | omega | (dsimp only; omega)⟩
    rw [List.take_succ_eq_append_getElem (by rw [flw_len]; exact ht)]
  · have : i = a.n := by rw [flw_len] at ht; have : ¬ i < a.n := by simpa using ht
                         omega
    subst this
    rw [List.take_of_length_le (by rw [flw_len]; exact Nat.le_refl _)]
    refine ⟨fun o t => ∃ i : Nat, t = i ∧ i ≤ b.n ∧ o = flw a 0 ++ (flw b a.n).take i, fun o t => (b.n - t).toNat, ⟨0, rfl, by omega, by simp⟩, ?_⟩
    rintro o t ⟨i, rfl, hi, rfl⟩
    simp only [flw_len]
    refine ⟨fun ht => ?_, fun ht => ?_⟩
    · have ht : i < b.n := by simpa using ht
      have hw2 : w64 ((i : Int) + 1) = ((i + 1 : Nat) : Int) := w64_id (by omega) (by omega)
      have hmv := moved_ok b.n (b.follow i) 0 a.n (by omega)
      rw [Nat.zero_add] at hmv
      rw [flw_mem ht, hw2]
      have : ((plc a).Sets.length : Int) = a.n := by show (a.sets.length : Int) = _; rw [has]
      rw [this]
      refine ⟨by omega, by omega, _, hmv, by simp [flw_len]; omega, ⟨i + 1, rfl, by omega, ?_⟩, by first | omega | (dsimp only; omega)⟩
      rw [List.take_succ_eq_append_getElem (by rw [flw_len]; exact ht), flw_get _ _ ht, List.append_assoc]
    · have : i = b.n := by have : ¬ i < b.n := by simpa using ht
                           omega
      subst this
      rw [List.take_of_length_le (by rw [flw_len]; exact Nat.le_refl _)]; rfl
theorem leadA_ok {fr to : List Int} {F : List (List Int)} (hfr : SS fr) (hto : SS to) (hF : ∀ f ∈ F, SS f) (hin : ∀ x ∈ fr, 0 ≤ x ∧ x < F.length) (hsm : ∀ f ∈ F, f.length < 1000000) (hts : to.length < 1000000) (hfs : fr.length < 1000000)
    {Q : List (List Int) → Prop} (hQ : Q (leadF F fr to)) :
    ∃ (Inv : List (List Int) → Int → Prop) (mu : List (List Int) → Int → Nat), Inv F 0 ∧ ∀ (o : List (List Int)) (i : Int), Inv o i →
      (decide (i < (fr.length : Int)) = true → 0 ≤ i ∧ i < (fr.length : Int) ∧ 0 ≤ i ∧ i < (fr.length : Int) ∧ 0 ≤ gd fr i ∧ (Int.toNat (gd fr i) < o.length) ∧ gd fr i < (o.length : Int) ∧
        (∃ r, C_heckleref09_Add (gd o (gd fr i)) to r ∧ 0 ≤ gd fr i ∧ (Int.toNat (gd fr i) < o.length) ∧ gd fr i < (o.length : Int) ∧ (Inv (List.set o (Int.toNat (gd fr i)) r) (w64 (i + 1)) ∧ mu (List.set o (Int.toNat (gd fr i)) r) (w64 (i + 1)) < mu o i))) ∧
      (decide (i < (fr.length : Int)) = false → Q o) := by
  refine ⟨fun o t => ∃ i : Nat, t = i ∧ i ≤ fr.length ∧ o = leadF F (fr.take i) to, fun o t => (fr.length - t).toNat, ⟨0, rfl, by omega, by simp [leadF]; exact (List.ext_getElem (by simp) (fun j h1 h2 => by simp))⟩, ?_⟩
  rintro o t ⟨i, rfl, hi, rfl⟩
  refine ⟨fun ht => ?_, fun ht => ?_⟩
  · have ht : i < fr.length := by simpa using ht
    have hg : gd fr (i : Int) = fr[i] := gd_nat ht
    rw [hg]
    obtain ⟨q0, q1⟩ := hin _ (List.getElem_mem ht)
    obtain ⟨e, he⟩ : ∃ e : Nat, fr[i] = e := ⟨fr[i].toNat, by omega⟩
    rw [he] at q1 ⊢
    have he2 : e < F.length := by omega
    have hl : (leadF F (fr.take i) to).length = F.length := leadF_len _ _ _
    have hnot : ¬ ((e : Int) ∈ fr.take i) := by
      intro hm
      obtain ⟨k, hk, hk2⟩ := List.mem_iff_getElem.1 hm
      simp only [List.length_take] at hk
      rw [List.getElem_take] at hk2
      have := List.pairwise_iff_getElem.1 hfr k i (by omega) ht (by omega)
      omega
    have hge : gd (leadF F (fr.take i) to) (e : Int) = F[e] := by
      rw [gd_nat (by rw [hl]; exact he2), leadF_get _ _ _ he2, if_neg hnot]
    have hw2 : w64 ((i : Int) + 1) = ((i + 1 : Nat) : Int) := w64_id (by omega) (by omega)
    have hFe := hF _ (List.getElem_mem he2)
    refine ⟨by omega, by omega, by omega, by omega, by omega, by rw [hl]; omega, by rw [hl]; omega, addL F[e] to, ?_, by omega, by rw [hl]; omega, by rw [hl]; omega, ?_⟩
    · rw [hge]; exact add_ok _ _ (by have := hsm _ (List.getElem_mem he2); omega) (by omega)
    · rw [hw2, ← join_eq hFe hto]
      refine ⟨⟨i + 1, rfl, by omega, ?_⟩, by first | omega | (dsimp only; omega)⟩
      show List.set _ e _ = _
      refine set_eq (by rw [leadF_len, leadF_len]) (fun j hj hne => ?_) (fun hj => ?_)
      · rw [hl] at hj
        rw [leadF_get _ _ _ hj, leadF_get _ _ _ hj, List.take_succ_eq_append_getElem ht, he]
        have : ((j : Int) ∈ fr.take i ++ [(e : Int)]) ↔ (j : Int) ∈ fr.take i := by
          rw [List.mem_append, List.mem_singleton]
          constructor
          · rintro (h | h)
            · exact h
            · exact absurd (by omega) hne
          · exact .inl
        simp only [this]
      · rw [leadF_get _ _ _ he2, List.take_succ_eq_append_getElem ht, he, if_pos (by simp)]
  · have : i = fr.length := by have : ¬ i < fr.length := by simpa using ht
                               omega
    subst this
    rw [List.take_of_length_le (Nat.le_refl _)]; exact hQ
theorem flw_ss (g : GA) (off : Nat) : ∀ f ∈ flw g off, SS f := by
  intro f hf
  simp only [flw, List.mem_map] at hf
  obtain ⟨i, _, rfl⟩ := hf
  exact lst_ss _ _ _
theorem refCat_ok (a b : GA) (ha : Canon a) (hb : Canon b) (hn : a.n + b.n < 1000) : C_heckleref09_cat (plc a) (plc b) (plc (gCat a b)) := by
  have has := ha.sets
  have l1 := lst_len a.n a.first 0
  have l2 := lst_len a.n a.last 0
  have l3 := lst_len b.n b.first a.n
  have l4 := lst_len b.n b.last a.n
  have m1 := moved_ok b.n b.first 0 a.n (by omega)
  have m2 := moved_ok b.n b.last 0 a.n (by omega)
  rw [Nat.zero_add] at m1 m2
  have hsz : ((plc a).Sets.length : Int) = a.n := by show (a.sets.length : Int) = _; rw [has]
  refine W_heckleref09_cat _ _ _ ⟨_, both_ok a b ha hb hn b.null _ _, _, by rw [hsz]; exact m1, _, by rw [hsz]; exact m2, ?_⟩
  have hlead := lead_cat [] a b
  simp only [List.nil_append, List.length_nil, Nat.zero_add] at hlead
  refine leadA_ok (fr := lst a.n a.last 0) (to := lst b.n b.first a.n) (F := flw a 0 ++ flw b a.n) (lst_ss _ _ _) (lst_ss _ _ _) (fun f hf => ?_) (fun x hx => ?_) (fun f hf => ?_) (by omega) (by omega) ?_
  · rcases List.mem_append.1 hf with hf | hf
    · exact flw_ss _ _ f hf
    · exact flw_ss _ _ f hf
  · obtain ⟨i, hi, _, rfl⟩ := lst_mem.1 hx
    simp only [List.length_append, flw_len]; omega
  · rcases List.mem_append.1 hf with hf | hf
    · simp only [flw, List.mem_map] at hf
      obtain ⟨i, _, rfl⟩ := hf
      have := lst_len a.n (a.follow i) 0; omega
    · simp only [flw, List.mem_map] at hf
      obtain ⟨i, _, rfl⟩ := hf
      have := lst_len b.n (b.follow i) a.n; omega
  · rw [hlead]
    have c1 := cat_first a b 0
    have c2 := cat_last a b 0
    rw [Nat.zero_add] at c1 c2
    refine ⟨fun l => l = lst (a.n + b.n) (gCat a b).first 0, ?_, fun hnn => ⟨_, add_ok _ _ (by show (lst _ _ _).length < _; omega) (by omega), ?_⟩, fun hnn => ?_⟩
    · rintro l rfl
      refine ⟨fun l => l = lst (a.n + b.n) (gCat a b).last 0, ?_, fun hnn => ⟨_, add_ok _ _ (by show (lst _ _ _).length < _; omega) (by omega), ?_⟩, fun hnn => ?_⟩
      · rintro l rfl; rfl
      · rw [if_pos (show b.null = true from hnn), join_eq (lst_ss _ _ _) (lst_ss _ _ _)] at c2; exact c2
      · rw [if_neg (by show ¬ (b.null = true); have : b.null = false := hnn; simp [this])] at c2; exact c2
    · rw [if_pos (show a.null = true from hnn), join_eq (lst_ss _ _ _) (lst_ss _ _ _)] at c1; exact c1
    · rw [if_neg (by show ¬ (a.null = true); have : a.null = false := hnn; simp [this])] at c1; exact c1
theorem refAlt_ok (a b : GA) (ha : Canon a) (hb : Canon b) (hn : a.n + b.n < 1000) : C_heckleref09_alt (plc a) (plc b) (plc (gAlt a b)) := by
  have has := ha.sets
  have l1 := lst_len a.n a.first 0
  have l2 := lst_len a.n a.last 0
  have l3 := lst_len b.n b.first a.n
  have l4 := lst_len b.n b.last a.n
  have m1 := moved_ok b.n b.first 0 a.n (by omega)
  have m2 := moved_ok b.n b.last 0 a.n (by omega)
  rw [Nat.zero_add] at m1 m2
  have hsz : ((plc a).Sets.length : Int) = a.n := by show (a.sets.length : Int) = _; rw [has]
  have c1 := alt_first a b 0
  have c2 := alt_last a b 0
  have c3 := flw_alt a b 0
  rw [Nat.zero_add] at c1 c2 c3
  rw [join_eq (lst_ss _ _ _) (lst_ss _ _ _)] at c1 c2
  refine W_heckleref09_alt _ _ _ ⟨_, both_ok a b ha hb hn b.null _ _, _, by rw [hsz]; exact m1, _, add_ok _ _ (by show (lst _ _ _).length < _; omega) (by omega), _, by rw [hsz]; exact m2, _, add_ok _ _ (by show (lst _ _ _).length < _; omega) (by omega), ?_⟩
  show plc (gAlt a b) = ⟨_, addL (lst a.n a.first 0) (lst b.n b.first a.n), addL (lst a.n a.last 0) (lst b.n b.last a.n), _, _⟩
  rw [c1, c2]
  show _ = (⟨a.sets ++ b.sets, _, _, flw a 0 ++ flw b a.n, a.null || b.null⟩ : api_Places)
  rw [c3]; rfl
theorem refAgain_ok (a : GA) (ha : Canon a) (hn : a.n < 1000) : C_heckleref09_again (plc a) (plc (gAgain a)) := by
  have l1 := lst_len a.n a.first 0
  have l2 := lst_len a.n a.last 0
  have hb := both_ok a gNone ha canon_none (by show a.n + 0 < 1000; omega) false [] []
  have e1 : a.sets ++ gNone.sets = a.sets := List.append_nil _
  have e2 : flw a 0 ++ flw gNone a.n = flw a 0 := List.append_nil _
  rw [e1, e2] at hb
  have hlead := lead_again [] a
  simp only [List.nil_append, List.length_nil] at hlead
  refine W_heckleref09_again _ _ ⟨_, hb, ?_⟩
  refine leadA_ok (fr := lst a.n a.last 0) (to := lst a.n a.first 0) (F := flw a 0) (lst_ss _ _ _) (lst_ss _ _ _) (flw_ss _ _) (fun x hx => ?_) (fun f hf => ?_) (by omega) (by omega) ?_
  · obtain ⟨i, hi, _, rfl⟩ := lst_mem.1 hx
    simp only [flw_len]; omega
  · simp only [flw, List.mem_map] at hf
    obtain ⟨i, _, rfl⟩ := hf
    have := lst_len a.n (a.follow i) 0; omega
  · rw [hlead]; rfl
theorem refMaybe_ok (a : GA) : C_heckleref09_maybe (plc a) (plc (gMaybe a)) := W_heckleref09_maybe _ _ rfl
end Go.Ev.Pl

set_option linter.unusedSimpArgs false
set_option linter.unusedVariables false
namespace Go.Ev.Pl
open Go Go.Ev
theorem eta_pl (p : api_Places) : (⟨p.Sets, p.First, p.Last, p.Follow, p.Null⟩ : api_Places) = p := rfl
theorem empty_ok : C_heckleref09_empty (plc gEmpty) := W_heckleref09_empty _ rfl
theorem iter_canon_cat {a : GA} (h : Canon a) (k : Nat) {z : GA} (hz : Canon z) : Canon (iter (gCat a) k z) := canon_iter (fun b hb => canon_cat h hb) k hz
theorem refOf_ok : ∀ x, Wf x → Rgt x → sizeN x ≤ 200 → C_heckleref09_of x (plc (gof x)) := by
  refine rxInd fun x ih hw hr hs => ?_
  obtain ⟨hl, hkw⟩ := (wf_eq x).1 hw
  obtain ⟨ho, hk⟩ := rgt_own hr
  have hgn := gof_n x hr
  refine W_heckleref09_of x _ ⟨fun h => ?_, fun h2 => ⟨fun h => ?_, fun h3 => ⟨fun h => ?_, fun h4 => ⟨fun h => ?_, fun h5 => ?_⟩⟩⟩⟩
  · have h : x.Kind = 2 := by simpa using h
    have hg : gof x = gByte x.Set := by rw [gof_eq, if_pos h]
    rw [hg]; rfl
  · have h : x.Kind = 3 := by simpa using h
    have hg : gof x = x.Kids.foldl (fun o y => gCat o (gof y)) gEmpty := by rw [gof_eq]; simp [h]
    refine ⟨_, empty_ok, fun s f a b c t => ∃ i : Nat, t = i ∧ i ≤ x.Kids.length ∧ (⟨s, f, a, b, c⟩ : api_Places) = plc ((x.Kids.take i).foldl (fun o y => gCat o (gof y)) gEmpty),
      fun _ _ _ _ _ t => (x.Kids.length - t).toNat, ⟨0, rfl, by omega, rfl⟩, ?_⟩
    rintro s f a b c t ⟨i, rfl, hi, hp⟩
    refine ⟨fun ht => ?_, fun ht => ?_⟩
    · have ht : i < x.Kids.length := by simpa using ht
      have hm := List.getElem_mem ht
      obtain ⟨o, ho'⟩ : ∃ o, o = (x.Kids.take i).foldl (fun o y => gCat o (gof y)) gEmpty := ⟨_, rfl⟩
      have hn := pre_n (f := gCat) (fun _ _ => rfl) (z := gEmpty) rfl ht
      rw [← hg, ← ho'] at hn
      have hsucc := foldl_take_succ (f := fun o y => gCat o (gof y)) (b := gEmpty) ht
      rw [← ho'] at hsucc hp
      have hoc : Canon o := by
        rw [ho']
        have : ∀ (l : List api_Rx) (z : GA), Canon z → Canon (l.foldl (fun o y => gCat o (gof y)) z) := by
          intro l
          induction l with
          | nil => intro z h; exact h
          | cons y r ih2 => intro z h; exact ih2 _ (canon_cat h (canon_gof y))
        exact this _ _ canon_empty
      have hkn := gof_n _ (hk _ hm)
      have hw2 : w64 ((i : Int) + 1) = ((i + 1 : Nat) : Int) := w64_id (by omega) (by omega)
      rw [gd_nat ht, hp]
      refine ⟨by omega, by omega, _, ih _ hm (hkw _ hm) (hk _ hm) (by omega), _, refCat_ok o (gof x.Kids[i]) hoc (canon_gof _) (by omega), ?_⟩
      rw [hw2]
      exact ⟨⟨i + 1, rfl, by omega, by rw [hsucc]⟩, by first | omega | (dsimp only; omega)⟩
    · have : i = x.Kids.length := by have : ¬ i < x.Kids.length := by simpa using ht
                                     omega
      subst this
      rw [List.take_of_length_le (Nat.le_refl _), ← hg] at hp
      exact hp.symm
  · have h : x.Kind = 4 := by simpa using h
    have hg : gof x = x.Kids.foldl (fun o y => gAlt o (gof y)) gNone := by rw [gof_eq]; simp [h]
    have h2k := own_kids ho (.inr h)
    have hm0 : x.Kids[0]'(by omega) ∈ x.Kids := List.getElem_mem _
    have hg0 : List.getD x.Kids 0 default = x.Kids[0]'(by omega) := by simp [List.getD, show 0 < x.Kids.length by omega]
    have hn0 := pre_n (f := gAlt) (fun _ _ => rfl) (z := gNone) rfl (l := x.Kids) (i := 0) (by omega)
    rw [← hg] at hn0
    have hkn0 := gof_n _ (hk _ hm0)
    refine ⟨by omega, _, by rw [hg0]; exact ih _ hm0 (hkw _ hm0) (hk _ hm0) (by omega), fun s f a b c t => ∃ i : Nat, t = i ∧ 1 ≤ i ∧ i ≤ x.Kids.length ∧ (⟨s, f, a, b, c⟩ : api_Places) = plc ((x.Kids.take i).foldl (fun o y => gAlt o (gof y)) gNone),
      fun _ _ _ _ _ t => (x.Kids.length - t).toNat, ⟨1, rfl, by omega, by omega, ?_⟩, ?_⟩
    · rw [eta_pl, foldl_take_succ (by omega)]
      show _ = plc (gAlt gNone _)
      rw [alt_none_l]
    rintro s f a b c t ⟨i, rfl, hi1, hi, hp⟩
    refine ⟨fun ht => ?_, fun ht => ?_⟩
    · have ht : i < x.Kids.length := by simpa using ht
      have hm := List.getElem_mem ht
      obtain ⟨o, ho'⟩ : ∃ o, o = (x.Kids.take i).foldl (fun o y => gAlt o (gof y)) gNone := ⟨_, rfl⟩
      have hn := pre_n (f := gAlt) (fun _ _ => rfl) (z := gNone) rfl ht
      rw [← hg, ← ho'] at hn
      have hsucc := foldl_take_succ (f := fun o y => gAlt o (gof y)) (b := gNone) ht
      rw [← ho'] at hsucc hp
      have hoc : Canon o := by
        rw [ho']
        have : ∀ (l : List api_Rx) (z : GA), Canon z → Canon (l.foldl (fun o y => gAlt o (gof y)) z) := by
          intro l
          induction l with
          | nil => intro z h; exact h
          | cons y r ih2 => intro z h; exact ih2 _ (canon_alt h (canon_gof y))
        exact this _ _ canon_none
      have hkn := gof_n _ (hk _ hm)
      have hw2 : w64 ((i : Int) + 1) = ((i + 1 : Nat) : Int) := w64_id (by omega) (by omega)
      rw [gd_nat ht, hp]
      refine ⟨by omega, by omega, _, ih _ hm (hkw _ hm) (hk _ hm) (by omega), _, refAlt_ok o (gof x.Kids[i]) hoc (canon_gof _) (by omega), ?_⟩
      rw [hw2]
      exact ⟨⟨i + 1, rfl, by omega, by omega, by rw [hsucc]⟩, by first | omega | (dsimp only; omega)⟩
    · have : i = x.Kids.length := by have : ¬ i < x.Kids.length := by simpa using ht
                                     omega
      subst this
      rw [List.take_of_length_le (Nat.le_refl _), ← hg] at hp
      exact hp.symm
  · have h : x.Kind = 5 := by simpa using h
    obtain ⟨⟨k, hq⟩, h1, h2', h3'⟩ := own_rep ho h
    have hkm : k ∈ x.Kids := by rw [hq]; simp
    have hgof : gof x = gRep (gof k) x.Lo x.Hi := by rw [gof_eq, h, hq]; simp
    have hn : (gof x).n = (max 1 (max x.Lo x.Hi)).toNat * (gof k).n := by rw [hgof, rep_n _ h1 (by omega)]
    have hkn := gof_n k (hk k hkm)
    have hkle : (gof k).n ≤ (gof x).n := by
      rw [hn]; exact Nat.le_mul_of_pos_left _ (by omega)
    have hkc := canon_gof k
    have hkd : List.getD x.Kids 0 default = k := by rw [hq]; rfl
    rw [hkd]
    have hbound : ∀ j : Nat, j ≤ (max 1 (max x.Lo x.Hi)).toNat → j * (gof k).n ≤ 200 := fun j hj => by
      have := Nat.mul_le_mul_right (gof k).n hj
      omega
    refine ⟨by rw [hq]; simp, _, ih k hkm (hkw k hkm) (hk k hkm) (by omega), _, empty_ok, fun hneg => ?_, fun hpos => ?_⟩
    · have hneg : x.Hi < 0 := of_decide_eq_true hneg
      have hmx : max 1 (max x.Lo x.Hi) = max x.Lo 1 := by omega
      refine ⟨fun s f a b c t => ∃ i : Nat, t = i + 1 ∧ (i : Int) ≤ max x.Lo 1 - 1 ∧ (⟨s, f, a, b, c⟩ : api_Places) = plc (leftp (gof k) i), fun _ _ _ _ _ t => (x.Lo - t).toNat, ⟨0, rfl, by omega, rfl⟩, ?_⟩
      rintro s f a b c t ⟨i, rfl, hi, hp⟩
      have hln : (leftp (gof k) i).n = i * (gof k).n := by
        have := iter_n (f := fun o => gCat o (gof k)) (a := gof k) (fun o => by show o.n + (gof k).n = _; omega) i gEmpty
        rw [show leftp (gof k) i = iter (fun o => gCat o (gof k)) i gEmpty from rfl, this]; rfl
      have hlc : Canon (leftp (gof k) i) := canon_iter (fun b hb => canon_cat hb hkc) i canon_empty
      have hb1 := hbound (i + 1) (by omega)
      rw [Nat.succ_mul] at hb1
      refine ⟨fun ht => ?_, fun ht => ?_⟩
      · have ht : (i : Int) + 1 < x.Lo := of_decide_eq_true ht
        have hw2 : w64 ((i : Int) + 1 + 1) = ((i + 1 : Nat) : Int) + 1 := (w64_id (by omega) (by omega)).trans (by omega)
        rw [hp]
        refine ⟨_, refCat_ok _ _ hlc hkc (by omega), ?_⟩
        rw [hw2]
        exact ⟨⟨i + 1, rfl, by omega, rfl⟩, by first | omega | (dsimp only; omega)⟩
      · have ht : ¬ (i : Int) + 1 < x.Lo := of_decide_eq_false ht
        have hii : i = (max x.Lo 1 - 1).toNat := by omega
        have hfin : ∀ z : GA, z = (if x.Lo = 0 then gMaybe (gAgain (gof k)) else gAgain (gof k)) → gCat (leftp (gof k) i) z = gof x := by
          rintro z rfl
          rw [leftp_cat, hgof]
          unfold gRep
          rw [if_pos hneg, hii]
        refine ⟨_, refAgain_ok (gof k) hkc (by omega), fun s f a b c => ∃ z : GA, Canon z ∧ z.n = (gof k).n ∧ z = (if x.Lo = 0 then gMaybe (gAgain (gof k)) else gAgain (gof k)) ∧ (⟨s, f, a, b, c⟩ : api_Places) = plc z, ?_, fun h0 => ?_, fun h0 => ?_⟩
        · rintro s f a b c ⟨z, hzc, hzn, hz, hpz⟩
          rw [hp, hpz]
          exact ⟨_, refCat_ok _ _ hlc hzc (by omega), by rw [hfin z hz]⟩
        · have h0 : x.Lo = 0 := by simpa using h0
          exact ⟨_, refMaybe_ok _, gMaybe (gAgain (gof k)), canon_maybe (canon_again hkc), rfl, by rw [if_pos h0], rfl⟩
        · have h0 : x.Lo ≠ 0 := by simpa using h0
          exact ⟨gAgain (gof k), canon_again hkc, rfl, by rw [if_neg h0], rfl⟩
    · have hpos : ¬ x.Hi < 0 := of_decide_eq_false hpos
      have hmx : max 1 (max x.Lo x.Hi) = x.Hi := by omega
      refine ⟨fun s f a b c t => ∃ i : Nat, t = x.Lo + i ∧ x.Lo + i ≤ x.Hi ∧ (⟨s, f, a, b, c⟩ : api_Places) = plc (iter (fun o => gMaybe (gCat (gof k) o)) i gEmpty), fun _ _ _ _ _ t => (x.Hi - t).toNat, ⟨0, by simp, by omega, rfl⟩, ?_⟩
      rintro s f a b c t ⟨i, rfl, hi, hp⟩
      have hin := iter_n (f := fun o => gMaybe (gCat (gof k) o)) (a := gof k) (fun _ => rfl) i gEmpty
      have hin : (iter (fun o => gMaybe (gCat (gof k) o)) i gEmpty).n = i * (gof k).n := hin
      have hic : Canon (iter (fun o => gMaybe (gCat (gof k) o)) i gEmpty) := canon_iter (fun b hb => canon_maybe (canon_cat hkc hb)) i canon_empty
      refine ⟨fun ht => ?_, fun ht => ?_⟩
      · have ht : x.Lo + i < x.Hi := of_decide_eq_true ht
        have hb1 := hbound (i + 1) (by omega)
        rw [Nat.succ_mul] at hb1
        have hw2 : w64 (x.Lo + (i : Int) + 1) = x.Lo + ((i + 1 : Nat) : Int) := (w64_id (by omega) (by omega)).trans (by omega)
        rw [hp]
        refine ⟨_, refCat_ok _ _ hkc hic (by omega), _, refMaybe_ok _, ?_⟩
        rw [hw2]
        exact ⟨⟨i + 1, rfl, by omega, rfl⟩, by first | omega | (dsimp only; omega)⟩
      · have ht : ¬ x.Lo + i < x.Hi := of_decide_eq_false ht
        have hii : i = (x.Hi - x.Lo).toNat := by omega
        refine ⟨fun s f a b c t => ∃ j : Nat, t = j ∧ (j : Int) ≤ x.Lo ∧ (⟨s, f, a, b, c⟩ : api_Places) = plc (iter (gCat (gof k)) j (iter (fun o => gMaybe (gCat (gof k) o)) i gEmpty)), fun _ _ _ _ _ t => (x.Lo - t).toNat, ⟨0, rfl, by omega, hp⟩, ?_⟩
        rintro s f a b c t ⟨j, rfl, hj, hp⟩
        have hjn := iter_n (f := gCat (gof k)) (a := gof k) (fun _ => rfl) j (iter (fun o => gMaybe (gCat (gof k) o)) i gEmpty)
        rw [hin, ← Nat.add_mul] at hjn
        have hjc := iter_canon_cat hkc j hic
        refine ⟨fun ht => ?_, fun ht => ?_⟩
        · have ht : (j : Int) < x.Lo := of_decide_eq_true ht
          have hb1 := hbound (j + i + 1) (by omega)
          rw [Nat.succ_mul] at hb1
          have hw2 : w64 ((j : Int) + 1) = ((j + 1 : Nat) : Int) := w64_id (by omega) (by omega)
          rw [hp]
          refine ⟨_, refCat_ok _ _ hkc hjc (by omega), ?_⟩
          rw [hw2]
          exact ⟨⟨j + 1, rfl, by omega, rfl⟩, by first | omega | (dsimp only; omega)⟩
        · have ht : ¬ (j : Int) < x.Lo := of_decide_eq_false ht
          rw [hp, hgof]
          unfold gRep
          rw [if_neg hpos, ← hii, show j = x.Lo.toNat by omega]
  · have h1 : x.Kind = 1 := by
      simp only [beq_eq_false_iff_ne, ne_eq] at h2 h3 h4 h5
      have := own_kind ho; omega
    have hg : gof x = gEmpty := by rw [gof_eq]; simp [h1]
    rw [hg]
    exact ⟨_, empty_ok, rfl⟩
theorem refOfAll_ok (x : api_Rx) (hw : Wf x) : C_heckleref09_Of x (if rightB x = true then plc (gof x) else noPl) (if rightB x = true then 0 else 1) := by
  refine W_heckleref09_Of x _ _ ⟨_, refRightAll_ok x hw, fun h => ?_, fun h => ?_⟩
  · have h : rightB x = false := by simpa using h
    rw [h]; exact ⟨rfl, rfl⟩
  · have h : rightB x = true := by simpa using h
    obtain ⟨hr, hs⟩ := size_of_right h
    exact ⟨_, refOf_ok x hw hr hs, by rw [if_pos h], by rw [if_pos h]⟩
theorem intsRefl_ok (a : List Int) (h : a.length < 1000000) : C_heckleref09_ints a a true := by
  refine W_heckleref09_ints a a _ ⟨fun h => by simp at h, fun _ => ⟨fun t => ∃ i : Nat, t = i ∧ i ≤ a.length, fun t => (a.length - t).toNat, ⟨0, rfl, by omega⟩, ?_⟩⟩
  rintro t ⟨i, rfl, hi⟩
  refine ⟨fun ht => ?_, fun _ => rfl⟩
  have ht : i < a.length := by simpa using ht
  have hw2 : w64 ((i : Int) + 1) = ((i + 1 : Nat) : Int) := w64_id (by omega) (by omega)
  rw [hw2]
  exact ⟨by omega, by omega, by omega, by omega, fun h => by simp at h, fun _ => ⟨⟨i + 1, rfl, by omega⟩, by first | omega | (dsimp only; omega)⟩⟩
theorem sameRefl_ok (p : api_Places) (h1 : p.Sets.length < 1000000) (h2 : p.First.length < 1000000) (h3 : p.Last.length < 1000000) (h4 : p.Follow.length < 1000000) (h5 : ∀ f ∈ p.Follow, f.length < 1000000) : C_heckleref09_Same p p true := by
  refine W_heckleref09_Same p p _ ?_
  refine ⟨fun h => by simp at h, fun _ => ?_⟩
  refine ⟨fun h => by simp at h, fun _ => ?_⟩
  refine ⟨fun h => by simp at h, fun _ => ⟨true, intsRefl_ok _ h2, ?_⟩⟩
  refine ⟨fun h => (by cases h), fun _ => ⟨true, intsRefl_ok _ h3, ?_⟩⟩
  refine ⟨fun h => (by cases h), fun _ => ?_⟩
  refine ⟨fun t => ∃ i : Nat, t = i ∧ i ≤ p.Sets.length, fun t => (p.Sets.length - t).toNat, ⟨0, rfl, by omega⟩, ?_⟩
  rintro t ⟨i, rfl, hi⟩
  refine ⟨fun ht => ?_, fun ht => ?_⟩
  · have ht : i < p.Sets.length := by simpa using ht
    have hw2 : w64 ((i : Int) + 1) = ((i + 1 : Nat) : Int) := w64_id (by omega) (by omega)
    rw [hw2]
    exact ⟨by omega, by omega, by omega, by omega, fun h => by simp at h, fun _ => ⟨⟨i + 1, rfl, by omega⟩, by first | omega | (dsimp only; omega)⟩⟩
  · refine ⟨fun t => ∃ i : Nat, t = i ∧ i ≤ p.Follow.length, fun t => (p.Follow.length - t).toNat, ⟨0, rfl, by omega⟩, ?_⟩
    rintro t ⟨j, rfl, hj⟩
    refine ⟨fun ht => ?_, fun _ => rfl⟩
    have ht : j < p.Follow.length := by simpa using ht
    have hw2 : w64 ((j : Int) + 1) = ((j + 1 : Nat) : Int) := w64_id (by omega) (by omega)
    rw [hw2, gd_nat ht]
    exact ⟨by omega, by omega, by omega, by omega, _, intsRefl_ok _ (h5 _ (List.getElem_mem ht)), fun h => (by cases h), fun _ => ⟨⟨j + 1, rfl, by omega⟩, by first | omega | (dsimp only; omega)⟩⟩
theorem same_ok (x : api_Rx) (hw : Wf x) : C_hecklelaw09_same x true := by
  have hs : C_heckleref09_Same (if rightB x = true then plc (gof x) else noPl) (if rightB x = true then plc (gof x) else noPl) true := by
    cases h : rightB x with
    | false => exact sameRefl_ok _ (by simp [noPl]) (by simp [noPl]) (by simp [noPl]) (by simp [noPl]) (fun f hf => by simp [noPl] at hf)
    | true =>
      obtain ⟨hr, hs⟩ := size_of_right h
      have hn := gof_n x hr
      have hc := (canon_gof x).sets
      refine sameRefl_ok _ ?_ ?_ ?_ ?_ ?_
      · show (gof x).sets.length < _; omega
      · have := lst_len (gof x).n (gof x).first 0; show (lst _ _ _).length < _; omega
      · have := lst_len (gof x).n (gof x).last 0; show (lst _ _ _).length < _; omega
      · show (flw _ _).length < _; rw [flw_len]; omega
      · intro f hf
        have hf : f ∈ flw (gof x) 0 := hf
        simp only [flw, List.mem_map] at hf
        obtain ⟨i, _, rfl⟩ := hf
        have := lst_len (gof x).n ((gof x).follow i) 0; omega
  exact W_hecklelaw09_same x _ ⟨_, _, placeOf_ok x hw, _, _, refOfAll_ok x hw, _, hs, by simp⟩
end Go.Ev.Pl

set_option linter.unusedSimpArgs false
set_option linter.unusedVariables false
namespace Go.Ev.Pl
open Go Go.Ev
def setOf (lo hi : Int) : arr4_uint64 := mkSet fun i => decide (i ≥ lo) && decide (i ≤ hi)
theorem noset_97 : noSet (setOf 97 97) = false := by kernel_rfl
theorem noset_98 : noSet (setOf 98 98) = false := by kernel_rfl
theorem noset_99 : noSet (setOf 99 99) = false := by kernel_rfl
theorem noset_10 : noSet (setOf 10 10) = false := by kernel_rfl
theorem noset_45 : noSet (setOf 45 45) = false := by kernel_rfl
theorem noset_90 : noSet (setOf 90 90) = false := by kernel_rfl
theorem noset_0 : noSet (setOf 0 0) = false := by kernel_rfl
theorem noset_255 : noSet (setOf 255 255) = false := by kernel_rfl
theorem noset_48 : noSet (setOf 48 48) = false := by kernel_rfl
theorem noset_ac : noSet (setOf 97 99) = false := by kernel_rfl
theorem noset_not : noSet (mkSet fun i => !setHas (setOf 97 97) i) = false := by kernel_rfl
theorem ints1Refl_ok (a : List Int) (h : a.length < 1000000) : C_hecklelaw01_Ints a a true := by
  refine W_hecklelaw01_Ints a a _ ⟨fun h => by simp at h, fun _ => ⟨fun t => ∃ i : Nat, t = i ∧ i ≤ a.length, fun t => (a.length - t).toNat, ⟨0, rfl, by omega⟩, ?_⟩⟩
  rintro t ⟨i, rfl, hi⟩
  refine ⟨fun ht => ?_, fun _ => rfl⟩
  have ht : i < a.length := by simpa using ht
  have hw2 : w64 ((i : Int) + 1) = ((i + 1 : Nat) : Int) := w64_id (by omega) (by omega)
  rw [hw2]
  exact ⟨by omega, by omega, by omega, by omega, fun h => by simp at h, fun _ => ⟨⟨i + 1, rfl, by omega⟩, by first | omega | (dsimp only; omega)⟩⟩
def zset : arr4_uint64 := ⟨0, 0, 0, 0⟩
def chr (b : Int) : api_Rx := ⟨2, setOf b b, 0, 0, []⟩
def awX : api_Rx := ⟨3, zset, 0, 0, [chr 97, ⟨5, zset, 0, -1, [⟨4, zset, 0, 0, [chr 98, chr 99]⟩]⟩]⟩
def awE : api_Rx := ⟨0, zset, 0, 0, []⟩
theorem wf_leaf (k : Int) (s : arr4_uint64) (lo hi : Int) : Wf ⟨k, s, lo, hi, []⟩ := (wf_eq _).2 ⟨by simp, fun y hy => by simp at hy⟩
theorem wf_X : Wf awX := by
  refine (wf_eq _).2 ⟨by simp [awX], fun y hy => ?_⟩
  simp only [awX, List.mem_cons, List.not_mem_nil, or_false] at hy
  rcases hy with rfl | rfl
  · exact wf_leaf _ _ _ _
  · refine (wf_eq _).2 ⟨by simp, fun y hy => ?_⟩
    simp only [List.mem_cons, List.not_mem_nil, or_false] at hy
    subst hy
    refine (wf_eq _).2 ⟨by simp, fun y hy => ?_⟩
    simp only [List.mem_cons, List.not_mem_nil, or_false] at hy
    rcases hy with rfl | rfl <;> exact wf_leaf _ _ _ _
theorem right_X : rightB awX = true := by kernel_rfl
theorem right_E : rightB awE = false := by kernel_rfl
theorem plc_X : plc (gof awX) = ⟨[setOf 97 97, setOf 98 98, setOf 99 99], [0], [0, 1, 2], [[1, 2], [1, 2], [1, 2]], false⟩ := by kernel_rfl
theorem awake_ok : C_hecklelaw09_awake true := by
  have hX := placeOf_ok awX wf_X
  have hE := placeOf_ok awE (wf_leaf _ _ _ _)
  rw [if_pos right_X, if_pos right_X, plc_X] at hX
  rw [if_neg (by rw [right_E]; simp), if_neg (by rw [right_E]; simp)] at hE
  refine W_hecklelaw09_awake _ ⟨chr 97, char9_ok 97, chr 98, char9_ok 98, chr 99, char9_ok 99, _, _, hX, _, _, hE, ?_⟩
  refine ⟨fun _ => ?_, fun h => by simp at h⟩
  refine ⟨fun _ => ?_, fun h => by simp at h⟩
  refine ⟨fun _ => ⟨true, ints1Refl_ok _ (by simp), ?_⟩, fun h => by simp at h⟩
  refine ⟨fun _ => ⟨true, ints1Refl_ok _ (by simp), ?_⟩, fun h => (by cases h)⟩
  refine ⟨fun _ => ⟨fun _ _ _ _ _ => by simp, true, ints1Refl_ok _ (by simp), ?_⟩, fun h => (by cases h)⟩
  refine ⟨fun _ => ?_, fun h => (by cases h)⟩
  exact ⟨fun _ => by simp, fun h => (by simp at h)⟩
end Go.Ev.Pl

set_option linter.unusedSimpArgs false
set_option linter.unusedVariables false
namespace Go.Ev.Pl
open Go Go.Ev
def cnt : api_Rx → Nat := cata fun _ l => 1 + l.sum
theorem cnt_eq (x : api_Rx) : cnt x = 1 + (x.Kids.map cnt).sum := cata_eq _ x
theorem len_le_cnt : ∀ l : List api_Rx, l.length ≤ (l.map cnt).sum
  | [] => Nat.le_refl _
  | x :: r => by have := len_le_cnt r; have := cnt_eq x; simp; omega
theorem sum_mem_le {l : List api_Rx} {y : api_Rx} (h : y ∈ l) : cnt y ≤ (l.map cnt).sum := by
  induction l with
  | nil => simp at h
  | cons x r ih =>
    rcases List.mem_cons.1 h with rfl | h
    · simp
    · have := ih h; simp; omega
theorem wf_of_cnt : ∀ x, cnt x < 1000000 → Wf x := by
  refine rxInd fun x ih h => ?_
  rw [cnt_eq] at h
  have := len_le_cnt x.Kids
  exact (wf_eq x).2 ⟨by omega, fun y hy => ih y hy (by have := sum_mem_le hy; omega)⟩
theorem nodesZ_cnt : ∀ x (most : Int), (cnt x : Int) ≤ most → nodesZ x most = most - cnt x := by
  refine rxInd fun x ih most hm => ?_
  rw [nodesZ_eq]
  rw [cnt_eq] at hm ⊢
  have key : ∀ (l : List api_Rx) (m : Int), (∀ y ∈ l, y ∈ x.Kids) → (((l.map cnt).sum : Nat) : Int) ≤ m → l.foldl (fun m y => if m ≥ 0 then nodesZ y m else m) m = m - (((l.map cnt).sum : Nat) : Int) := by
    intro l
    induction l with
    | nil => intro m _ _; simp
    | cons y r ih2 =>
      intro m hl h
      simp only [List.map_cons, List.sum_cons] at h ⊢
      rw [List.foldl_cons, if_pos (by omega), ih y (hl y (List.mem_cons_self ..)) m (by omega), ih2 _ (fun z hz => hl z (List.mem_cons_of_mem _ hz)) (by omega)]
      omega
  rw [key x.Kids (most - 1) (fun _ h => h) (by omega)]
  omega
theorem rgt_mono : ∀ x (d : Int), rgt x d = true → ∀ d', d ≤ d' → rgt x d' = true := by
  refine rxInd fun x ih d h d' hd => ?_
  rw [rgt_eq] at h ⊢
  simp only [Bool.and_eq_true, decide_eq_true_eq, List.all_eq_true, Bool.not_eq_true'] at h ⊢
  exact ⟨⟨by omega, h.1.2⟩, fun k hk => ⟨(h.2 k hk).1, ih k hk _ (h.2 k hk).2 _ (by omega)⟩⟩
theorem rgt_leaf {s : arr4_uint64} (h : noSet s = false) : rgt ⟨2, s, 0, 0, []⟩ 1 = true := by
  rw [rgt_eq]; simp [ownB, h]
theorem rgt_empty : rgt ⟨1, zset, 0, 0, []⟩ 1 = true := by kernel_rfl
def Bytes (l : List Int) : Prop := ∀ b ∈ l, 0 ≤ b ∧ b ≤ 255
structure MOk (m : hecklelaw03_Maker) : Prop where
  bytes : Bytes m.L
  len : m.L.length ≤ 1000
  at0 : 0 ≤ m.At
theorem pick_ok (n : Int) (m : hecklelaw03_Maker) (hn : 1 ≤ n) (hm : MOk m) (ha : m.At < 1000000) : ∃ r, 0 ≤ r ∧ r < n ∧ C_hecklelaw03_Maker_Pick n m r { L := m.L, At := m.At + 1 } := by
  have h0 := hm.at0
  have hl := hm.len
  have hw1 : w64 (m.At + 1) = m.At + 1 := w64_id (by omega) (by omega)
  have hw2 : w64 (m.At + 1 - 1) = m.At := (w64_id (by omega) (by omega)).trans (by omega)
  by_cases hg : m.At + 1 > m.L.length
  · refine ⟨0, by omega, by omega, W_hecklelaw03_Maker_Pick n m _ _ ?_⟩
    rw [hw1]
    exact ⟨fun _ => ⟨rfl, rfl⟩, fun h => absurd hg (by simpa using h)⟩
  · have hi : m.At.toNat < m.L.length := by omega
    have he : gd m.L m.At = m.L[m.At.toNat] := by simp [gd, List.getD, hi]
    obtain ⟨b0, b1⟩ := hm.bytes _ (List.getElem_mem hi)
    have hw3 : w64 (gd m.L m.At) = gd m.L m.At := by rw [he]; exact w64_id (by omega) (by omega)
    refine ⟨Int.tmod (gd m.L m.At) n, ?_, ?_, W_hecklelaw03_Maker_Pick n m _ _ ?_⟩
    · rw [he, Int.tmod_eq_emod_of_nonneg b0]; exact Int.emod_nonneg _ (by omega)
    · rw [he, Int.tmod_eq_emod_of_nonneg b0]; exact Int.emod_lt_of_pos _ (by omega)
    · rw [hw1, hw2, hw3]
      exact ⟨fun h => absurd (by simpa using h) hg, fun _ => ⟨by omega, by omega, by omega, rfl, rfl⟩⟩
theorem chr_ok (b : Int) : C_hecklelaw03_char b (chr b) := char3_ok b
theorem rgt_chr {b : Int} (h : noSet (setOf b b) = false) : rgt (chr b) 1 = true := rgt_leaf h
structure Good (d : Nat) (r : api_Rx) : Prop where
  right : rgt r ((d : Int) + 1) = true
  small : cnt r ≤ 2 ^ (d + 1) - 1
theorem cnt_leaf (k : Int) (s : arr4_uint64) (lo hi : Int) : cnt ⟨k, s, lo, hi, []⟩ = 1 := by rw [cnt_eq]; rfl
theorem leaf_ok (m : hecklelaw03_Maker) (hm : MOk m) (ha : m.At < 900000) : ∃ r o, C_hecklelaw03_Maker_leaf m r o ∧ Good 0 r ∧ o.L = m.L ∧ m.At ≤ o.At ∧ o.At ≤ m.At + 2 := by
  obtain ⟨r0, p0, p1, hp⟩ := pick_ok 8 m (by omega) hm (by omega)
  have hm1 : MOk { L := m.L, At := m.At + 1 } := ⟨hm.bytes, hm.len, by have := hm.at0; simp only; omega⟩
  have good : ∀ {r : api_Rx}, rgt r 1 = true → cnt r = 1 → Good 0 r := fun h1 h2 => ⟨by simpa using h1, by omega⟩
  by_cases h0 : r0 = 0
  · subst h0
    exact ⟨_, _, W_hecklelaw03_Maker_leaf m _ _ ⟨_, _, hp, fun _ => ⟨rfl, rfl⟩, fun h => by simp at h⟩, good rgt_empty (cnt_leaf _ _ _ _), rfl, by simp only; omega, by simp only; omega⟩
  by_cases h1 : r0 = 1
  · subst h1
    exact ⟨_, _, W_hecklelaw03_Maker_leaf m _ _ ⟨_, _, hp, fun h => by simp at h, fun _ => ⟨fun _ => ⟨_, setOf_ok 97 99, rfl, rfl⟩, fun h => by simp at h⟩⟩, good (rgt_leaf noset_ac) (cnt_leaf _ _ _ _), rfl, by simp only; omega, by simp only; omega⟩
  by_cases h2 : r0 = 2
  · subst h2
    exact ⟨_, _, W_hecklelaw03_Maker_leaf m _ _ ⟨_, _, hp, fun h => by simp at h, fun _ => ⟨fun h => by simp at h, fun _ => ⟨fun _ => ⟨_, setOf_ok 97 97, _, setNot_ok _, rfl, rfl⟩, fun h => by simp at h⟩⟩⟩, good (rgt_leaf noset_not) (cnt_leaf _ _ _ _), rfl, by simp only; omega, by simp only; omega⟩
  by_cases h3 : r0 = 3
  · subst h3
    obtain ⟨r1, q0, q1, hq⟩ := pick_ok 6 _ (by omega) hm1 (by simp only; omega)
    have hr : r1 = 0 ∨ r1 = 1 ∨ r1 = 2 ∨ r1 = 3 ∨ r1 = 4 ∨ r1 = 5 := by omega
    have hs : noSet (setOf (gd [10, 45, 90, 0, 255, 48] r1) (gd [10, 45, 90, 0, 255, 48] r1)) = false := by
      rcases hr with rfl | rfl | rfl | rfl | rfl | rfl
      · exact noset_10
      · exact noset_45
      · exact noset_90
      · exact noset_0
      · exact noset_255
      · exact noset_48
    exact ⟨_, _, W_hecklelaw03_Maker_leaf m _ _ ⟨_, _, hp, fun h => by simp at h, fun _ => ⟨fun h => by simp at h, fun _ => ⟨fun h => by simp at h, fun _ => ⟨fun _ => ⟨_, _, hq, q0, by omega, by simp; omega, _, chr_ok _, rfl, rfl⟩, fun h => by simp at h⟩⟩⟩⟩, good (rgt_chr hs) (cnt_leaf _ _ _ _), rfl, by simp only; omega, by simp only; omega⟩
  obtain ⟨r1, q0, q1, hq⟩ := pick_ok 3 _ (by omega) hm1 (by simp only; omega)
  have hr : r1 = 0 ∨ r1 = 1 ∨ r1 = 2 := by omega
  have hs : noSet (setOf (w64 (97 + r1)) (w64 (97 + r1))) = false := by
    rcases hr with rfl | rfl | rfl
    · exact noset_97
    · exact noset_98
    · exact noset_99
  exact ⟨_, _, W_hecklelaw03_Maker_leaf m _ _ ⟨_, _, hp, fun h => absurd (by simpa using h) h0, fun _ => ⟨fun h => absurd (by simpa using h) h1, fun _ => ⟨fun h => absurd (by simpa using h) h2, fun _ => ⟨fun h => absurd (by simpa using h) h3, fun _ => ⟨_, _, hq, _, chr_ok _, rfl, rfl⟩⟩⟩⟩⟩, good (rgt_chr hs) (cnt_leaf _ _ _ _), rfl, by simp only; omega, by simp only; omega⟩
def jk (kind : Int) (r : api_Rx) : List api_Rx := if r.Kind = kind then r.Kids else [r]
theorem joined_ok (kind : Int) (r1 r2 : api_Rx) (h1 : r1.Kids.length < 1000000) (h2 : r2.Kids.length < 1000000) : C_hecklelaw03_joined kind [r1, r2] ⟨kind, zset, 0, 0, jk kind r1 ++ jk kind r2⟩ := by
  have hjl : ∀ r : api_Rx, r.Kids.length < 1000000 → (jk kind r).length < 1000000 := fun r h => by unfold jk; split; exact h; simp
  have hj1 := hjl r1 h1
  have hj2 := hjl r2 h2
  refine W_hecklelaw03_joined kind _ _ ⟨fun k t => (t = 0 ∧ k = []) ∨ (t = 1 ∧ k = jk kind r1) ∨ (t = 2 ∧ k = jk kind r1 ++ jk kind r2), fun _ t => (2 - t).toNat, .inl ⟨rfl, rfl⟩, ?_⟩
  rintro k t (⟨rfl, rfl⟩ | ⟨rfl, rfl⟩ | ⟨rfl, rfl⟩)
  · refine ⟨fun _ => ⟨fun k' => k' = jk kind r1, ?_, by omega, by simp, fun h => ⟨by omega, by simp, ?_, ?_⟩, fun h => ⟨by omega, by simp, by simp, ?_⟩⟩, fun h => by simp at h⟩
    · rintro k' rfl; exact ⟨.inr (.inl ⟨rfl, rfl⟩), by show Int.toNat (2 - 1) < Int.toNat (2 - 0); decide⟩
    · have : gd [r1, r2] 0 = r1 := rfl
      rw [this]; simp; omega
    · have : gd [r1, r2] 0 = r1 := rfl
      rw [this] at h ⊢
      have h : r1.Kind = kind := by simpa using h
      simp [jk, h]
    · have : gd [r1, r2] 0 = r1 := rfl
      rw [this] at h ⊢
      have h : r1.Kind ≠ kind := by simpa using h
      simp [jk, h]
  · refine ⟨fun _ => ⟨fun k' => k' = jk kind r1 ++ jk kind r2, ?_, by omega, by simp, fun h => ⟨by omega, by simp, ?_, ?_⟩, fun h => ⟨by omega, by simp, ?_, ?_⟩⟩, fun h => by simp at h⟩
    · rintro k' rfl; exact ⟨.inr (.inr ⟨rfl, rfl⟩), by show Int.toNat (2 - 2) < Int.toNat (2 - 1); decide⟩
    · have : gd [r1, r2] 1 = r2 := rfl
      rw [this]; omega
    · have : gd [r1, r2] 1 = r2 := rfl
      rw [this] at h ⊢
      have h : r2.Kind = kind := by simpa using h
      simp [jk, h]
    · omega
    · have : gd [r1, r2] 1 = r2 := rfl
      rw [this] at h ⊢
      have h : r2.Kind ≠ kind := by simpa using h
      simp [jk, h]
  · exact ⟨fun h => by simp at h, fun _ => rfl⟩
theorem joined_good {kind : Int} (hk : kind = 3 ∨ kind = 4) {d : Nat} {r1 r2 : api_Rx} (h1 : Good d r1) (h2 : Good d r2) : Good (d + 1) ⟨kind, zset, 0, 0, jk kind r1 ++ jk kind r2⟩ := by
  have key : ∀ r, Good d r → 1 ≤ (jk kind r).length ∧ ((jk kind r).map cnt).sum ≤ cnt r ∧ ∀ k ∈ jk kind r, k.Kind ≠ kind ∧ rgt k ((d : Int) + 1) = true := by
    intro r h
    have hr := h.right
    by_cases e : r.Kind = kind
    · rw [rgt_eq] at hr
      simp only [Bool.and_eq_true, decide_eq_true_eq, List.all_eq_true, Bool.not_eq_true'] at hr
      have := own_kids hr.1.2 (by omega)
      simp only [jk, if_pos e]
      refine ⟨by omega, by rw [cnt_eq]; omega, fun k hkm => ?_⟩
      obtain ⟨q1, q2⟩ := hr.2 k hkm
      refine ⟨fun e2 => ?_, rgt_mono _ _ q2 _ (by omega)⟩
      simp only [oddK, e2, e] at q1
      rcases hk with rfl | rfl <;> simp at q1
    · simp only [jk, if_neg e]
      exact ⟨by simp, by simp, fun k hkm => by simp at hkm; subst hkm; exact ⟨e, hr⟩⟩
  obtain ⟨a1, a2, a3⟩ := key r1 h1
  obtain ⟨b1, b2, b3⟩ := key r2 h2
  constructor
  · rw [rgt_eq]
    simp only [Bool.and_eq_true, decide_eq_true_eq, List.all_eq_true, Bool.not_eq_true']
    refine ⟨⟨by omega, ?_⟩, fun k hkm => ?_⟩
    · have hz : noSet zset = true := rfl
      simp only [ownB]
      rw [if_neg (by omega), if_neg (by omega), if_neg (by omega), if_pos hk, hz]
      simp; omega
    · have : k.Kind ≠ kind ∧ rgt k ((d : Int) + 1) = true := by
        rcases List.mem_append.1 hkm with h | h
        · exact a3 k h
        · exact b3 k h
      refine ⟨by simp [oddK, this.1], ?_⟩
      have e : (((d + 1 : Nat) : Int) + 1 - 1) = (d : Int) + 1 := by omega
      rw [e]; exact this.2
  · rw [cnt_eq]
    simp only [List.map_append, List.sum_append]
    have := h1.small
    have := h2.small
    have e : 2 ^ (d + 1 + 1) = 2 ^ (d + 1) + 2 ^ (d + 1) := by rw [Nat.pow_succ]; omega
    have : 1 ≤ 2 ^ (d + 1) := Nat.one_le_two_pow
    omega
theorem good_mono {d d' : Nat} {r : api_Rx} (h : Good d r) (hd : d ≤ d') : Good d' r := by
  refine ⟨rgt_mono _ _ h.right _ (by omega), ?_⟩
  have := h.small
  have : 2 ^ (d + 1) ≤ 2 ^ (d' + 1) := Nat.pow_le_pow_right (by omega) (by omega)
  omega
theorem good_len {d : Nat} {r : api_Rx} (h : Good d r) (hd : d ≤ 10) : r.Kids.length < 1000000 ∧ Wf r := by
  have hs := h.small
  have : 2 ^ (d + 1) ≤ 2 ^ 11 := Nat.pow_le_pow_right (by omega) (by omega)
  have e := cnt_eq r
  have := len_le_cnt r.Kids
  exact ⟨by omega, wf_of_cnt r (by omega)⟩
theorem mk_ok : ∀ (d : Nat), d ≤ 5 → ∀ (deep : Int), deep ≤ d → -10 ≤ deep → ∀ m, MOk m → m.At + 10 * 3 ^ d < 100000 → ∃ r o, C_hecklelaw03_Maker_Rx deep m r o ∧ Good d r ∧ o.L = m.L ∧ m.At ≤ o.At ∧ o.At ≤ m.At + 10 * 3 ^ d := by
  intro d
  induction d using Nat.strongRecOn with
  | _ d ih =>
  intro hd5 deep hdd hd0 m hm hat
  have h30 : (1 : Int) ≤ 3 ^ d := by exact_mod_cast Nat.one_le_pow d 3 (by omega)
  have hm0 := hm.at0
  obtain ⟨k, p0, p1, hp⟩ := pick_ok 8 m (by omega) hm (by omega)
  have hm1 : MOk { L := m.L, At := m.At + 1 } := ⟨hm.bytes, hm.len, by simp only; omega⟩
  by_cases hleaf : (decide (deep < 1) || (decide (k < 2) || decide (m.At + 1 ≥ (m.L.length : Int)))) = true
  · obtain ⟨r, o, c1, c2, c3, c4, c5⟩ := leaf_ok _ hm1 (by simp only; omega)
    exact ⟨r, o, W_hecklelaw03_Maker_Rx deep m _ _ ⟨_, _, hp, fun _ => ⟨_, _, c1, rfl, rfl⟩, fun h => (by rw [hleaf] at h; cases h)⟩, good_mono c2 (by omega), c3, by simp only at c4; omega, by simp only at c5; omega⟩
  have hleaf : (decide (deep < 1) || (decide (k < 2) || decide (m.At + 1 ≥ (m.L.length : Int)))) = false := by simpa using hleaf
  have hdp : 1 ≤ deep := by simp only [Bool.or_eq_false_iff, decide_eq_false_iff_not] at hleaf; omega
  obtain ⟨e, rfl⟩ : ∃ e, d = e + 1 := ⟨d - 1, by omega⟩
  have h3 : (3 : Int) ^ (e + 1) = 3 * 3 ^ e := by rw [Int.pow_succ]; omega
  have h3e : (1 : Int) ≤ 3 ^ e := by exact_mod_cast Nat.one_le_pow e 3 (by omega)
  have hw1 : w64 (deep - 1) = deep - 1 := w64_id (by omega) (by omega)
  have hw2 : w64 (deep - 2) = deep - 2 := w64_id (by omega) (by omega)
  by_cases hk5 : k < 5
  · obtain ⟨r1, o1, c1, g1, l1, u1, v1⟩ := ih e (by omega) (by omega) (deep - 1) (by omega) (by omega) _ hm1 (by simp only; omega)
    simp only at l1 u1 v1
    obtain ⟨r2, o2, c2, g2, l2, u2, v2⟩ := ih e (by omega) (by omega) (deep - 1) (by omega) (by omega) o1 ⟨by rw [l1]; exact hm.bytes, by rw [l1]; exact hm.len, by omega⟩ (by omega)
    refine ⟨_, o2, W_hecklelaw03_Maker_Rx deep m _ _ ⟨_, _, hp, fun h => (by rw [hleaf] at h; cases h), fun _ => ⟨fun _ => ⟨_, _, by rw [hw1]; exact c1, _, _, by rw [hw1]; exact c2, _, joined_ok 3 r1 r2 (good_len g1 (by omega)).1 (good_len g2 (by omega)).1, rfl, rfl⟩, fun h => absurd hk5 (by simpa using h)⟩⟩, joined_good (.inl rfl) g1 g2, by rw [l2, l1], by omega, by omega⟩
  by_cases hk5' : k = 5
  · obtain ⟨r1, o1, c1, g1, l1, u1, v1⟩ := ih e (by omega) (by omega) (deep - 1) (by omega) (by omega) _ hm1 (by simp only; omega)
    simp only at l1 u1 v1
    obtain ⟨r2, o2, c2, g2, l2, u2, v2⟩ := ih e (by omega) (by omega) (deep - 1) (by omega) (by omega) o1 ⟨by rw [l1]; exact hm.bytes, by rw [l1]; exact hm.len, by omega⟩ (by omega)
    refine ⟨_, o2, W_hecklelaw03_Maker_Rx deep m _ _ ⟨_, _, hp, fun h => (by rw [hleaf] at h; cases h), fun _ => ⟨fun h => absurd (by simpa using h) hk5, fun _ => ⟨fun _ => ⟨_, _, by rw [hw1]; exact c1, _, _, by rw [hw1]; exact c2, _, joined_ok 4 r1 r2 (good_len g1 (by omega)).1 (good_len g2 (by omega)).1, rfl, rfl⟩, fun h => absurd hk5' (by simpa using h)⟩⟩⟩, joined_good (.inr rfl) g1 g2, by rw [l2, l1], by omega, by omega⟩
  obtain ⟨lo, q0, q1, hq⟩ := pick_ok 3 _ (by omega) hm1 (by simp only; omega)
  simp only at hq
  have hm2 : MOk { L := m.L, At := m.At + 1 + 1 } := ⟨hm.bytes, hm.len, by simp only; omega⟩
  obtain ⟨st, s0, s1, hs⟩ := pick_ok 2 _ (by omega) hm2 (by simp only; omega)
  simp only at hs
  have hm3 : MOk { L := m.L, At := m.At + 1 + 1 + 1 } := ⟨hm.bytes, hm.len, by simp only; omega⟩
  obtain ⟨more, t0, t1, ht⟩ := pick_ok 2 _ (by omega) hm3 (by simp only; omega)
  simp only at ht
  have kid : ∀ a : Int, m.At + 1 ≤ a → a ≤ m.At + 4 → ∃ r o, C_hecklelaw03_Maker_Rx (deep - 2) { L := m.L, At := a } r o ∧ Good e r ∧ o.L = m.L ∧ m.At ≤ o.At ∧ o.At ≤ m.At + 10 * 3 ^ (e + 1) := by
    intro a ha1 ha2
    obtain ⟨r, o, c, g, l, u, v⟩ := ih e (by omega) (by omega) (deep - 2) (by omega) (by omega) { L := m.L, At := a } ⟨hm.bytes, hm.len, by simp only; omega⟩ (by simp only; omega)
    simp only at l u v
    exact ⟨r, o, c, g, l, by omega, by omega⟩
  have good : ∀ {r : api_Rx} {hi : Int}, Good e r → timesB lo hi = true → Good (e + 1) ⟨5, zset, lo, hi, [r]⟩ := by
    intro r hi g htm
    constructor
    · rw [rgt_eq]
      have hz : noSet zset = true := rfl
      have e1 : (((e + 1 : Nat) : Int) + 1 - 1) = (e : Int) + 1 := by omega
      have e2 : decide ((((e + 1 : Nat) : Int) + 1) > 0) = true := by simp; omega
      rw [e1, e2]
      simp [ownB, hz, htm, oddK, g.right]
    · rw [cnt_eq]
      have := g.small
      have epow : 2 ^ (e + 1 + 1) = 2 ^ (e + 1) + 2 ^ (e + 1) := by rw [Nat.pow_succ]; omega
      have : 1 ≤ 2 ^ (e + 1) := Nat.one_le_two_pow
      simp; omega
  have hwhi : w64 ((if lo > 1 then lo else 1) + more) = (if lo > 1 then lo else 1) + more := by
    split <;> exact w64_id (by omega) (by omega)
  have fin : ∀ (a hi : Int), m.At + 1 ≤ a → a ≤ m.At + 4 → timesB lo hi = true → ((st = 1 ∧ a = m.At + 4 ∧ hi = (if lo > 1 then lo else 1) + more) ∨ (st ≠ 1 ∧ a = m.At + 3 ∧ hi = -1)) →
      ∃ r o, C_hecklelaw03_Maker_Rx deep m r o ∧ Good (e + 1) r ∧ o.L = m.L ∧ m.At ≤ o.At ∧ o.At ≤ m.At + 10 * 3 ^ (e + 1) := by
    intro a hi ha1 ha2 htm hcase
    obtain ⟨r, o, c, g, l, u, v⟩ := kid a ha1 ha2
    refine ⟨_, o, W_hecklelaw03_Maker_Rx deep m _ _ ⟨_, _, hp, fun h => (by rw [hleaf] at h; cases h), fun _ => ⟨fun h => absurd (by simpa using h) hk5, fun _ => ⟨fun h => absurd (by simpa using h) hk5', fun _ => ⟨_, _, hq, fun L A H => L = m.L ∧ A = a ∧ H = hi, ?_, _, _, hs, fun h1 => ?_, fun h1 => ?_⟩⟩⟩⟩, good g htm, l, u, v⟩
    · rintro L A H ⟨rfl, rfl, rfl⟩
      exact ⟨_, _, by rw [hw2]; exact c, rfl, rfl⟩
    · have h1 : st = 1 := by simpa using h1
      rcases hcase with ⟨_, rfl, rfl⟩ | ⟨h2, _⟩
      · exact ⟨_, _, ht, rfl, by simp only; omega, hwhi⟩
      · exact absurd h1 h2
    · have h1 : st ≠ 1 := by simpa using h1
      rcases hcase with ⟨h2, _⟩ | ⟨_, rfl, rfl⟩
      · exact absurd h2 h1
      · exact ⟨rfl, by simp only; omega, rfl⟩
  by_cases h1 : st = 1
  · refine fin (m.At + 4) ((if lo > 1 then lo else 1) + more) (by omega) (by omega) ?_ (.inl ⟨h1, rfl, rfl⟩)
    simp only [timesB, Bool.and_eq_true, decide_eq_true_eq, Bool.or_eq_true]
    refine ⟨by omega, by omega, .inr ⟨?_, ?_⟩⟩ <;> split <;> omega
  · refine fin (m.At + 3) (-1) (by omega) (by omega) ?_ (.inr ⟨h1, rfl, rfl⟩)
    simp only [timesB, Bool.and_eq_true, decide_eq_true_eq, Bool.or_eq_true]
    exact ⟨by omega, by omega, .inl (by simp)⟩
structure Fit (x : api_Rx) : Prop where
  wf : Wf x
  right : rightB x = true
  size : sizeN x ≤ 40
theorem fit_chr : Fit (chr 97) := ⟨wf_leaf _ _ _ _, by kernel_rfl, by show sizeN (chr 97) ≤ 40; rw [show sizeN (chr 97) = 1 from by kernel_rfl]; omega⟩
theorem made_ok (l : List Int) (hb : Bytes l) : ∃ x, C_hecklelaw03_Made l x ∧ Fit x := by
  have main : ∀ l1 : List Int, Bytes l1 → l1.length ≤ 30 → ∃ r o, C_hecklelaw03_Maker_Rx 4 { L := l1, At := 0 } r o ∧ Good 4 r := by
    intro l1 h1 h2
    obtain ⟨r, o, c, g, _⟩ := mk_ok 4 (by omega) 4 (by omega) (by omega) { L := l1, At := 0 } ⟨h1, by simp only; omega, by simp⟩ (by simp)
    exact ⟨r, o, c, g⟩
  obtain ⟨l1, hl1⟩ : ∃ l1, l1 = if l.length > 30 then l.take 30 else l := ⟨_, rfl⟩
  have hb1 : Bytes l1 := by
    rw [hl1]; split
    · exact fun b hb' => hb b (List.mem_of_mem_take hb')
    · exact hb
  have hle : l1.length ≤ 30 := by
    rw [hl1]; split
    · simp; omega
    · omega
  obtain ⟨r, o, c, g⟩ := main l1 hb1 hle
  have hw := (good_len g (by omega)).2
  have made : ∀ x, (sizeZ r > 40 → x = chr 97) → (¬ sizeZ r > 40 → x = r) → C_hecklelaw03_Made l x := by
    intro x h1 h2
    refine W_hecklelaw03_Made l x ⟨fun l2 => l2 = l1, ?_, fun h => ⟨⟨by omega, ?_, ?_⟩, ?_⟩, fun h => ?_⟩
    · rintro l2 rfl
      refine ⟨r, o, c, _, refSize_ok r hw, fun h => ⟨_, chr_ok 97, h1 (by simpa using h)⟩, fun h => h2 (by simpa using h)⟩
    · have : l.length > 30 := by have : (l.length : Int) > 30 := by simpa using h
                                 omega
      show 30 ≤ _; omega
    · exact fits_u8 l
    · have : l.length > 30 := by have : (l.length : Int) > 30 := by simpa using h
                                 omega
      rw [hl1, if_pos this]; rfl
    · have : ¬ l.length > 30 := by have : ¬ (l.length : Int) > 30 := by simpa using h
                                   omega
      rw [hl1, if_neg this]
  by_cases hs : sizeZ r > 40
  · exact ⟨chr 97, made _ (fun _ => rfl) (fun h => absurd hs h), fit_chr⟩
  · refine ⟨r, made _ (fun h => absurd h hs) (fun _ => rfl), hw, ?_, ?_⟩
    · have h1 := rgt_mono r _ g.right 20 (by omega)
      have h2 : sizeZ r ≤ 200 := by omega
      have hsm := g.small
      have h3 := nodesZ_cnt r 1000 (by have : cnt r ≤ 31 := hsm; omega)
      have h4 : nodesZ r 1000 ≥ 0 := by have : cnt r ≤ 31 := hsm; omega
      simp [rightB, h1, h2, h4]
    · simp only [sizeZ] at hs; omega
end Go.Ev.Pl

set_option linter.unusedSimpArgs false
set_option linter.unusedVariables false
namespace Go.Ev.Pl
open Go Go.Ev
theorem placeMade_ok (l : List Int) (hb : Bytes l) : C_hecklelaw09_PlaceMade l true := by
  obtain ⟨x, hx, hf⟩ := made_ok l hb
  exact W_hecklelaw09_PlaceMade l _ ⟨true, awake_ok, fun _ => ⟨x, hx, true, same_ok x hf.wf, rfl⟩, fun h => by cases h⟩
theorem bytes_of {w : World} {a : Option Addr} {len cap : Nat} {zs : List Int}
    (h : (a = none ∧ len = 0 ∧ cap = 0 ∧ zs = []) ∨ ∃ x, a = some x ∧ len ≤ cap ∧ cap ≤ maxLen ∧ zs.length = cap ∧ (∀ i, i < zs.length → w.cell? (x.add i) = some (.int .u8 (zs.getD i 0))) ∧ ∀ n ∈ zs, (Lit.int .u8 n).wf = true) : Bytes (zs.take len) := by
  intro b hb
  have hb := List.mem_of_mem_take hb
  rcases h with ⟨_, _, _, rfl⟩ | ⟨_, _, _, _, _, _, h⟩
  · simp at hb
  · have := h b hb
    simp only [Lit.wf, Bool.and_eq_true, decide_eq_true_eq] at this
    have e1 : IntKind.u8.min = 0 := by decide
    have e2 : IntKind.u8.max = 255 := by decide
    rw [e1, e2] at this
    exact this
end Go.Ev.Pl
