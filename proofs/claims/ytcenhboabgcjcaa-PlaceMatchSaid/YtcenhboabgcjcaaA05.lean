import Derived.Test.YtcenhboabgcjcaaA04
import Derived.ChangeArms
import Derived.Deep.Slices
set_option linter.unusedSimpArgs false
set_option linter.unusedVariables false
namespace Go.Ev.Pl
open Go Go.Ev
def setOf (lo hi : Int) : arr4_uint64 := mkSet fun i => decide (i ≥ lo) && decide (i ≤ hi)
theorem noset_97 : noSet (setOf 97 97) = false := by kernel_rfl
theorem noset_98 : noSet (setOf 98 98) = false := by kernel_rfl
theorem noset_99 : noSet (setOf 99 99) = false := by kernel_rfl
theorem noset_10 : noSet (setOf 10 10) = false := by kernel_rfl
theorem noset_45 : noSet (setOf 45 45) = false := by kernel_rfl
theorem noset_90 : noSet (setOf 90 90) = false := by kernel_rfl
theorem noset_0 : noSet (setOf 0 0) = false := by kernel_rfl
theorem noset_255 : noSet (setOf 255 255) = false := by kernel_rfl
theorem noset_48 : noSet (setOf 48 48) = false := by kernel_rfl
theorem noset_ac : noSet (setOf 97 99) = false := by kernel_rfl
theorem noset_not : noSet (mkSet fun i => !setHas (setOf 97 97) i) = false := by kernel_rfl
theorem ints1Refl_ok (a : List Int) (h : a.length < 1000000) : C_hecklelaw01_Ints a a true := by
  refine W_hecklelaw01_Ints a a _ ⟨fun h => by simp at h, fun _ => ⟨fun t => ∃ i : Nat, t = i ∧ i ≤ a.length, fun t => (a.length - t).toNat, ⟨0, rfl, by omega⟩, ?_⟩⟩
  rintro t ⟨i, rfl, hi⟩
  refine ⟨fun ht => ?_, fun _ => rfl⟩
  have ht : i < a.length := by simpa using ht
  have hw2 : w64 ((i : Int) + 1) = ((i + 1 : Nat) : Int) := w64_id (by omega) (by omega)
  rw [hw2]
  exact ⟨by omega, by omega, by omega, by omega, fun h => by simp at h, fun _ => ⟨⟨i + 1, rfl, by omega⟩, by first | omega | (dsimp only; omega)⟩⟩
def zset : arr4_uint64 := ⟨0, 0, 0, 0⟩
def chr (b : Int) : api_Rx := ⟨2, setOf b b, 0, 0, []⟩
def awX : api_Rx := ⟨3, zset, 0, 0, [chr 97, ⟨5, zset, 0, -1, [⟨4, zset, 0, 0, [chr 98, chr 99]⟩]⟩]⟩
def awE : api_Rx := ⟨0, zset, 0, 0, []⟩
theorem wf_leaf (k : Int) (s : arr4_uint64) (lo hi : Int) : Wf ⟨k, s, lo, hi, []⟩ := (wf_eq _).2 ⟨by simp, fun y hy => by simp at hy⟩
theorem wf_X : Wf awX := by
  refine (wf_eq _).2 ⟨by simp [awX], fun y hy => ?_⟩
  simp only [awX, List.mem_cons, List.not_mem_nil, or_false] at hy
  rcases hy with rfl | rfl
  · exact wf_leaf _ _ _ _
  · refine (wf_eq _).2 ⟨by simp, fun y hy => ?_⟩
    simp only [List.mem_cons, List.not_mem_nil, or_false] at hy
    subst hy
    refine (wf_eq _).2 ⟨by simp, fun y hy => ?_⟩
    simp only [List.mem_cons, List.not_mem_nil, or_false] at hy
    rcases hy with rfl | rfl <;> exact wf_leaf _ _ _ _
theorem right_X : rightB awX = true := by kernel_rfl
theorem right_E : rightB awE = false := by kernel_rfl
theorem plc_X : plc (gof awX) = ⟨[setOf 97 97, setOf 98 98, setOf 99 99], [0], [0, 1, 2], [[1, 2], [1, 2], [1, 2]], false⟩ := by kernel_rfl
theorem awake_ok : C_hecklelaw09_awake true := by
  have hX := placeOf_ok awX wf_X
  have hE := placeOf_ok awE (wf_leaf _ _ _ _)
  rw [if_pos right_X, if_pos right_X, plc_X] at hX
  rw [if_neg (by rw [right_E]; simp), if_neg (by rw [right_E]; simp)] at hE
  refine W_hecklelaw09_awake _ ⟨chr 97, char9_ok 97, chr 98, char9_ok 98, chr 99, char9_ok 99, _, _, hX, _, _, hE, ?_⟩
  refine ⟨fun _ => ?_, fun h => by simp at h⟩
  refine ⟨fun _ => ?_, fun h => by simp at h⟩
  refine ⟨fun _ => ⟨true, ints1Refl_ok _ (by simp), ?_⟩, fun h => by simp at h⟩
  refine ⟨fun _ => ⟨true, ints1Refl_ok _ (by simp), ?_⟩, fun h => (by cases h)⟩
  refine ⟨fun _ => ⟨fun _ _ _ _ _ => by simp, true, ints1Refl_ok _ (by simp), ?_⟩, fun h => (by cases h)⟩
  refine ⟨fun _ => ?_, fun h => (by cases h)⟩
  exact ⟨fun _ => by simp, fun h => (by simp at h)⟩
end Go.Ev.Pl

set_option linter.unusedSimpArgs false
set_option linter.unusedVariables false
namespace Go.Ev.Pl
open Go Go.Ev
def cnt : api_Rx → Nat := cata fun _ l => 1 + l.sum
theorem cnt_eq (x : api_Rx) : cnt x = 1 + (x.Kids.map cnt).sum := cata_eq _ x
theorem len_le_cnt : ∀ l : List api_Rx, l.length ≤ (l.map cnt).sum
  | [] => Nat.le_refl _
  | x :: r => by have := len_le_cnt r; have := cnt_eq x; simp; omega
theorem sum_mem_le {l : List api_Rx} {y : api_Rx} (h : y ∈ l) : cnt y ≤ (l.map cnt).sum := by
  induction l with
  | nil => simp at h
  | cons x r ih =>
    rcases List.mem_cons.1 h with rfl | h
    · simp
    · have := ih h; simp; omega
theorem wf_of_cnt : ∀ x, cnt x < 1000000 → Wf x := by
  refine rxInd fun x ih h => ?_
  rw [cnt_eq] at h
  have := len_le_cnt x.Kids
  exact (wf_eq x).2 ⟨by omega, fun y hy => ih y hy (by have := sum_mem_le hy; omega)⟩
theorem nodesZ_cnt : ∀ x (most : Int), (cnt x : Int) ≤ most → nodesZ x most = most - cnt x := by
  refine rxInd fun x ih most hm => ?_
  rw [nodesZ_eq]
  rw [cnt_eq] at hm ⊢
  have key : ∀ (l : List api_Rx) (m : Int), (∀ y ∈ l, y ∈ x.Kids) → (((l.map cnt).sum : Nat) : Int) ≤ m → l.foldl (fun m y => if m ≥ 0 then nodesZ y m else m) m = m - (((l.map cnt).sum : Nat) : Int) := by
    intro l
    induction l with
    | nil => intro m _ _; simp
    | cons y r ih2 =>
      intro m hl h
      simp only [List.map_cons, List.sum_cons] at h ⊢
      rw [List.foldl_cons, if_pos (by omega), ih y (hl y (List.mem_cons_self ..)) m (by omega), ih2 _ (fun z hz => hl z (List.mem_cons_of_mem _ hz)) (by omega)]
      omega
  rw [key x.Kids (most - 1) (fun _ h => h) (by omega)]
  omega
theorem rgt_mono : ∀ x (d : Int), rgt x d = true → ∀ d', d ≤ d' → rgt x d' = true := by
  refine rxInd fun x ih d h d' hd => ?_
  rw [rgt_eq] at h ⊢
  simp only [Bool.and_eq_true, decide_eq_true_eq, List.all_eq_true, Bool.not_eq_true'] at h ⊢
  exact ⟨⟨by omega, h.1.2⟩, fun k hk => ⟨(h.2 k hk).1, ih k hk _ (h.2 k hk).2 _ (by omega)⟩⟩
theorem rgt_leaf {s : arr4_uint64} (h : noSet s = false) : rgt ⟨2, s, 0, 0, []⟩ 1 = true := by
  rw [rgt_eq]; simp [ownB, h]
theorem rgt_empty : rgt ⟨1, zset, 0, 0, []⟩ 1 = true := by kernel_rfl
def Bytes (l : List Int) : Prop := ∀ b ∈ l, 0 ≤ b ∧ b ≤ 255
structure MOk (m : hecklelaw03_Maker) : Prop where
  bytes : Bytes m.L
  len : m.L.length ≤ 1000
  at0 : 0 ≤ m.At
theorem pick_ok (n : Int) (m : hecklelaw03_Maker) (hn : 1 ≤ n) (hm : MOk m) (ha : m.At < 1000000) : ∃ r, 0 ≤ r ∧ r < n ∧ C_hecklelaw03_Maker_Pick n m r { L := m.L, At := m.At + 1 } := by
  have h0 := hm.at0
  have hl := hm.len
  have hw1 : w64 (m.At + 1) = m.At + 1 := w64_id (by omega) (by omega)
  have hw2 : w64 (m.At + 1 - 1) = m.At := (w64_id (by omega) (by omega)).trans (by omega)
  by_cases hg : m.At + 1 > m.L.length
  · refine ⟨0, by omega, by omega, W_hecklelaw03_Maker_Pick n m _ _ ?_⟩
    rw [hw1]
    exact ⟨fun _ => ⟨rfl, rfl⟩, fun h => absurd hg (by simpa using h)⟩
  · have hi : m.At.toNat < m.L.length := by omega
    have he : gd m.L m.At = m.L[m.At.toNat] := by simp [gd, List.getD, hi]
    obtain ⟨b0, b1⟩ := hm.bytes _ (List.getElem_mem hi)
    have hw3 : w64 (gd m.L m.At) = gd m.L m.At := by rw [he]; exact w64_id (by omega) (by omega)
    refine ⟨Int.tmod (gd m.L m.At) n, ?_, ?_, W_hecklelaw03_Maker_Pick n m _ _ ?_⟩
    · rw [he, Int.tmod_eq_emod_of_nonneg b0]; exact Int.emod_nonneg _ (by omega)
    · rw [he, Int.tmod_eq_emod_of_nonneg b0]; exact Int.emod_lt_of_pos _ (by omega)
    · rw [hw1, hw2, hw3]
      exact ⟨fun h => absurd (by simpa using h) hg, fun _ => ⟨by omega, by omega, by omega, rfl, rfl⟩⟩
theorem chr_ok (b : Int) : C_hecklelaw03_char b (chr b) := char3_ok b
theorem rgt_chr {b : Int} (h : noSet (setOf b b) = false) : rgt (chr b) 1 = true := rgt_leaf h
structure Good (d : Nat) (r : api_Rx) : Prop where
  right : rgt r ((d : Int) + 1) = true
  small : cnt r ≤ 2 ^ (d + 1) - 1
theorem cnt_leaf (k : Int) (s : arr4_uint64) (lo hi : Int) : cnt ⟨k, s, lo, hi, []⟩ = 1 := by rw [cnt_eq]; rfl
theorem leaf_ok (m : hecklelaw03_Maker) (hm : MOk m) (ha : m.At < 900000) : ∃ r o, C_hecklelaw03_Maker_leaf m r o ∧ Good 0 r ∧ o.L = m.L ∧ m.At ≤ o.At ∧ o.At ≤ m.At + 2 := by
  obtain ⟨r0, p0, p1, hp⟩ := pick_ok 8 m (by omega) hm (by omega)
  have hm1 : MOk { L := m.L, At := m.At + 1 } := ⟨hm.bytes, hm.len, by have := hm.at0; simp only; omega⟩
  have good : ∀ {r : api_Rx}, rgt r 1 = true → cnt r = 1 → Good 0 r := fun h1 h2 => ⟨by simpa using h1, by omega⟩
  by_cases h0 : r0 = 0
  · subst h0
    exact ⟨_, _, W_hecklelaw03_Maker_leaf m _ _ ⟨_, _, hp, fun _ => ⟨rfl, rfl⟩, fun h => by simp at h⟩, good rgt_empty (cnt_leaf _ _ _ _), rfl, by simp only; omega, by simp only; omega⟩
  by_cases h1 : r0 = 1
  · subst h1
    exact ⟨_, _, W_hecklelaw03_Maker_leaf m _ _ ⟨_, _, hp, fun h => by simp at h, fun _ => ⟨fun _ => ⟨_, setOf_ok 97 99, rfl, rfl⟩, fun h => by simp at h⟩⟩, good (rgt_leaf noset_ac) (cnt_leaf _ _ _ _), rfl, by simp only; omega, by simp only; omega⟩
  by_cases h2 : r0 = 2
  · subst h2
    exact ⟨_, _, W_hecklelaw03_Maker_leaf m _ _ ⟨_, _, hp, fun h => by simp at h, fun _ => ⟨fun h => by simp at h, fun _ => ⟨fun _ => ⟨_, setOf_ok 97 97, _, setNot_ok _, rfl, rfl⟩, fun h => by simp at h⟩⟩⟩, good (rgt_leaf noset_not) (cnt_leaf _ _ _ _), rfl, by simp only; omega, by simp only; omega⟩
  by_cases h3 : r0 = 3
  · subst h3
    obtain ⟨r1, q0, q1, hq⟩ := pick_ok 6 _ (by omega) hm1 (by simp only; omega)
    have hr : r1 = 0 ∨ r1 = 1 ∨ r1 = 2 ∨ r1 = 3 ∨ r1 = 4 ∨ r1 = 5 := by omega
    have hs : noSet (setOf (gd [10, 45, 90, 0, 255, 48] r1) (gd [10, 45, 90, 0, 255, 48] r1)) = false := by
      rcases hr with rfl | rfl | rfl | rfl | rfl | rfl
      · exact noset_10
      · exact noset_45
      · exact noset_90
      · exact noset_0
      · exact noset_255
      · exact noset_48
    exact ⟨_, _, W_hecklelaw03_Maker_leaf m _ _ ⟨_, _, hp, fun h => by simp at h, fun _ => ⟨fun h => by simp at h, fun _ => ⟨fun h => by simp at h, fun _ => ⟨fun _ => ⟨_, _, hq, q0, by omega, by simp; omega, _, chr_ok _, rfl, rfl⟩, fun h => by simp at h⟩⟩⟩⟩, good (rgt_chr hs) (cnt_leaf _ _ _ _), rfl, by simp only; omega, by simp only; omega⟩
  obtain ⟨r1, q0, q1, hq⟩ := pick_ok 3 _ (by omega) hm1 (by simp only; omega)
  have hr : r1 = 0 ∨ r1 = 1 ∨ r1 = 2 := by omega
  have hs : noSet (setOf (w64 (97 + r1)) (w64 (97 + r1))) = false := by
    rcases hr with rfl | rfl | rfl
    · exact noset_97
    · exact noset_98
    · exact noset_99
  exact ⟨_, _, W_hecklelaw03_Maker_leaf m _ _ ⟨_, _, hp, fun h => absurd (by simpa using h) h0, fun _ => ⟨fun h => absurd (by simpa using h) h1, fun _ => ⟨fun h => absurd (by simpa using h) h2, fun _ => ⟨fun h => absurd (by simpa using h) h3, fun _ => ⟨_, _, hq, _, chr_ok _, rfl, rfl⟩⟩⟩⟩⟩, good (rgt_chr hs) (cnt_leaf _ _ _ _), rfl, by simp only; omega, by simp only; omega⟩
def jk (kind : Int) (r : api_Rx) : List api_Rx := if r.Kind = kind then r.Kids else [r]
theorem joined_ok (kind : Int) (r1 r2 : api_Rx) (h1 : r1.Kids.length < 1000000) (h2 : r2.Kids.length < 1000000) : C_hecklelaw03_joined kind [r1, r2] ⟨kind, zset, 0, 0, jk kind r1 ++ jk kind r2⟩ := by
  have hjl : ∀ r : api_Rx, r.Kids.length < 1000000 → (jk kind r).length < 1000000 := fun r h => by unfold jk; split; exact h; simp
  have hj1 := hjl r1 h1
  have hj2 := hjl r2 h2
  refine W_hecklelaw03_joined kind _ _ ⟨fun k t => (t = 0 ∧ k = []) ∨ (t = 1 ∧ k = jk kind r1) ∨ (t = 2 ∧ k = jk kind r1 ++ jk kind r2), fun _ t => (2 - t).toNat, .inl ⟨rfl, rfl⟩, ?_⟩
  rintro k t (⟨rfl, rfl⟩ | ⟨rfl, rfl⟩ | ⟨rfl, rfl⟩)
  · refine ⟨fun _ => ⟨fun k' => k' = jk kind r1, ?_, by omega, by simp, fun h => ⟨by omega, by simp, ?_, ?_⟩, fun h => ⟨by omega, by simp, by simp, ?_⟩⟩, fun h => by simp at h⟩
    · rintro k' rfl; exact ⟨.inr (.inl ⟨rfl, rfl⟩), by show Int.toNat (2 - 1) < Int.toNat (2 - 0); decide⟩
    · have : gd [r1, r2] 0 = r1 := rfl
      rw [this]; simp; omega
    · have : gd [r1, r2] 0 = r1 := rfl
      rw [this] at h ⊢
      have h : r1.Kind = kind := by simpa using h
      simp [jk, h]
    · have : gd [r1, r2] 0 = r1 := rfl
      rw [this] at h ⊢
      have h : r1.Kind ≠ kind := by simpa using h
      simp [jk, h]
  · refine ⟨fun _ => ⟨fun k' => k' = jk kind r1 ++ jk kind r2, ?_, by omega, by simp, fun h => ⟨by omega, by simp, ?_, ?_⟩, fun h => ⟨by omega, by simp, ?_, ?_⟩⟩, fun h => by simp at h⟩
    · rintro k' rfl; exact ⟨.inr (.inr ⟨rfl, rfl⟩), by show Int.toNat (2 - 2) < Int.toNat (2 - 1); decide⟩
    · have : gd [r1, r2] 1 = r2 := rfl
      rw [this]; omega
    · have : gd [r1, r2] 1 = r2 := rfl
      rw [this] at h ⊢
      have h : r2.Kind = kind := by simpa using h
      simp [jk, h]
    · omega
    · have : gd [r1, r2] 1 = r2 := rfl
      rw [this] at h ⊢
      have h : r2.Kind ≠ kind := by simpa using h
      simp [jk, h]
  · exact ⟨fun h => by simp at h, fun _ => rfl⟩
theorem joined_good {kind : Int} (hk : kind = 3 ∨ kind = 4) {d : Nat} {r1 r2 : api_Rx} (h1 : Good d r1) (h2 : Good d r2) : Good (d + 1) ⟨kind, zset, 0, 0, jk kind r1 ++ jk kind r2⟩ := by
  have key : ∀ r, Good d r → 1 ≤ (jk kind r).length ∧ ((jk kind r).map cnt).sum ≤ cnt r ∧ ∀ k ∈ jk kind r, k.Kind ≠ kind ∧ rgt k ((d : Int) + 1) = true := by
    intro r h
    have hr := h.right
    by_cases e : r.Kind = kind
    · rw [rgt_eq] at hr
      simp only [Bool.and_eq_true, decide_eq_true_eq, List.all_eq_true, Bool.not_eq_true'] at hr
      have := own_kids hr.1.2 (by omega)
      simp only [jk, if_pos e]
      refine ⟨by omega, by rw [cnt_eq]; omega, fun k hkm => ?_⟩
      obtain ⟨q1, q2⟩ := hr.2 k hkm
      refine ⟨fun e2 => ?_, rgt_mono _ _ q2 _ (by omega)⟩
      simp only [oddK, e2, e] at q1
      rcases hk with rfl | rfl <;> simp at q1
    · simp only [jk, if_neg e]
      exact ⟨by simp, by simp, fun k hkm => by simp at hkm; subst hkm; exact ⟨e, hr⟩⟩
  obtain ⟨a1, a2, a3⟩ := key r1 h1
  obtain ⟨b1, b2, b3⟩ := key r2 h2
  constructor
  · rw [rgt_eq]
    simp only [Bool.and_eq_true, decide_eq_true_eq, List.all_eq_true, Bool.not_eq_true']
    refine ⟨⟨by omega, ?_⟩, fun k hkm => ?_⟩
    · have hz : noSet zset = true := rfl
      simp only [ownB]
      rw [if_neg (by omega), if_neg (by omega), if_neg (by omega), if_pos hk, hz]
      simp; omega
    · have : k.Kind ≠ kind ∧ rgt k ((d : Int) + 1) = true := by
        rcases List.mem_append.1 hkm with h | h
        · exact a3 k h
        · exact b3 k h
      refine ⟨by simp [oddK, this.1], ?_⟩
      have e : (((d + 1 : Nat) : Int) + 1 - 1) = (d : Int) + 1 := by omega
      rw [e]; exact this.2
  · rw [cnt_eq]
    simp only [List.map_append, List.sum_append]
    have := h1.small
    have := h2.small
    have e : 2 ^ (d + 1 + 1) = 2 ^ (d + 1) + 2 ^ (d + 1) := by rw [Nat.pow_succ]; omega
    have : 1 ≤ 2 ^ (d + 1) := Nat.one_le_two_pow
    omega
theorem good_mono {d d' : Nat} {r : api_Rx} (h : Good d r) (hd : d ≤ d') : Good d' r := by
  refine ⟨rgt_mono _ _ h.right _ (by omega), ?_⟩
  have := h.small
  have : 2 ^ (d + 1) ≤ 2 ^ (d' + 1) := Nat.pow_le_pow_right (by omega) (by omega)
  omega
theorem good_len {d : Nat} {r : api_Rx} (h : Good d r) (hd : d ≤ 10) : r.Kids.length < 1000000 ∧ Wf r := by
  have hs := h.small
  have : 2 ^ (d + 1) ≤ 2 ^ 11 := Nat.pow_le_pow_right (by omega) (by omega)
  have e := cnt_eq r
  have := len_le_cnt r.Kids
  exact ⟨by omega, wf_of_cnt r (by omega)⟩
theorem mk_ok : ∀ (d : Nat), d ≤ 5 → ∀ (deep : Int), deep ≤ d → -10 ≤ deep → ∀ m, MOk m → m.At + 10 * 3 ^ d < 100000 → ∃ r o, C_hecklelaw03_Maker_Rx deep m r o ∧ Good d r ∧ o.L = m.L ∧ m.At ≤ o.At ∧ o.At ≤ m.At + 10 * 3 ^ d := by
  intro d
  induction d using Nat.strongRecOn with
  | _ d ih =>
  intro hd5 deep hdd hd0 m hm hat
  have h30 : (1 : Int) ≤ 3 ^ d := by exact_mod_cast Nat.one_le_pow d 3 (by omega)
  have hm0 := hm.at0
  obtain ⟨k, p0, p1, hp⟩ := pick_ok 8 m (by omega) hm (by omega)
  have hm1 : MOk { L := m.L, At := m.At + 1 } := ⟨hm.bytes, hm.len, by simp only; omega⟩
  by_cases hleaf : (decide (deep < 1) || (decide (k < 2) || decide (m.At + 1 ≥ (m.L.length : Int)))) = true
  · obtain ⟨r, o, c1, c2, c3, c4, c5⟩ := leaf_ok _ hm1 (by simp only; omega)
    exact ⟨r, o, W_hecklelaw03_Maker_Rx deep m _ _ ⟨_, _, hp, fun _ => ⟨_, _, c1, rfl, rfl⟩, fun h => (by rw [hleaf] at h; cases h)⟩, good_mono c2 (by omega), c3, by simp only at c4; omega, by simp only at c5; omega⟩
  have hleaf : (decide (deep < 1) || (decide (k < 2) || decide (m.At + 1 ≥ (m.L.length : Int)))) = false := by simpa using hleaf
  have hdp : 1 ≤ deep := by simp only [Bool.or_eq_false_iff, decide_eq_false_iff_not] at hleaf; omega
  obtain ⟨e, rfl⟩ : ∃ e, d = e + 1 := ⟨d - 1, by omega⟩
  have h3 : (3 : Int) ^ (e + 1) = 3 * 3 ^ e := by rw [Int.pow_succ]; omega
  have h3e : (1 : Int) ≤ 3 ^ e := by exact_mod_cast Nat.one_le_pow e 3 (by omega)
  have hw1 : w64 (deep - 1) = deep - 1 := w64_id (by omega) (by omega)
  have hw2 : w64 (deep - 2) = deep - 2 := w64_id (by omega) (by omega)
  by_cases hk5 : k < 5
  · obtain ⟨r1, o1, c1, g1, l1, u1, v1⟩ := ih e (by omega) (by omega) (deep - 1) (by omega) (by omega) _ hm1 (by simp only; omega)
    simp only at l1 u1 v1
    obtain ⟨r2, o2, c2, g2, l2, u2, v2⟩ := ih e (by omega) (by omega) (deep - 1) (by omega) (by omega) o1 ⟨by rw [l1]; exact hm.bytes, by rw [l1]; exact hm.len, by omega⟩ (by omega)
    refine ⟨_, o2, W_hecklelaw03_Maker_Rx deep m _ _ ⟨_, _, hp, fun h => (by rw [hleaf] at h; cases h), fun _ => ⟨fun _ => ⟨_, _, by rw [hw1]; exact c1, _, _, by rw [hw1]; exact c2, _, joined_ok 3 r1 r2 (good_len g1 (by omega)).1 (good_len g2 (by omega)).1, rfl, rfl⟩, fun h => absurd hk5 (by simpa using h)⟩⟩, joined_good (.inl rfl) g1 g2, by rw [l2, l1], by omega, by omega⟩
  by_cases hk5' : k = 5
  · obtain ⟨r1, o1, c1, g1, l1, u1, v1⟩ := ih e (by omega) (by omega) (deep - 1) (by omega) (by omega) _ hm1 (by simp only; omega)
    simp only at l1 u1 v1
    obtain ⟨r2, o2, c2, g2, l2, u2, v2⟩ := ih e (by omega) (by omega) (deep - 1) (by omega) (by omega) o1 ⟨by rw [l1]; exact hm.bytes, by rw [l1]; exact hm.len, by omega⟩ (by omega)
    refine ⟨_, o2, W_hecklelaw03_Maker_Rx deep m _ _ ⟨_, _, hp, fun h => (by rw [hleaf] at h; cases h), fun _ => ⟨fun h => absurd (by simpa using h) hk5, fun _ => ⟨fun _ => ⟨_, _, by rw [hw1]; exact c1, _, _, by rw [hw1]; exact c2, _, joined_ok 4 r1 r2 (good_len g1 (by omega)).1 (good_len g2 (by omega)).1, rfl, rfl⟩, fun h => absurd hk5' (by simpa using h)⟩⟩⟩, joined_good (.inr rfl) g1 g2, by rw [l2, l1], by omega, by omega⟩
  obtain ⟨lo, q0, q1, hq⟩ := pick_ok 3 _ (by omega) hm1 (by simp only; omega)
  simp only at hq
  have hm2 : MOk { L := m.L, At := m.At + 1 + 1 } := ⟨hm.bytes, hm.len, by simp only; omega⟩
  obtain ⟨st, s0, s1, hs⟩ := pick_ok 2 _ (by omega) hm2 (by simp only; omega)
  simp only at hs
  have hm3 : MOk { L := m.L, At := m.At + 1 + 1 + 1 } := ⟨hm.bytes, hm.len, by simp only; omega⟩
  obtain ⟨more, t0, t1, ht⟩ := pick_ok 2 _ (by omega) hm3 (by simp only; omega)
  simp only at ht
  have kid : ∀ a : Int, m.At + 1 ≤ a → a ≤ m.At + 4 → ∃ r o, C_hecklelaw03_Maker_Rx (deep - 2) { L := m.L, At := a } r o ∧ Good e r ∧ o.L = m.L ∧ m.At ≤ o.At ∧ o.At ≤ m.At + 10 * 3 ^ (e + 1) := by
    intro a ha1 ha2
    obtain ⟨r, o, c, g, l, u, v⟩ := ih e (by omega) (by omega) (deep - 2) (by omega) (by omega) { L := m.L, At := a } ⟨hm.bytes, hm.len, by simp only; omega⟩ (by simp only; omega)
    simp only at l u v
    exact ⟨r, o, c, g, l, by omega, by omega⟩
  have good : ∀ {r : api_Rx} {hi : Int}, Good e r → timesB lo hi = true → Good (e + 1) ⟨5, zset, lo, hi, [r]⟩ := by
    intro r hi g htm
    constructor
    · rw [rgt_eq]
      have hz : noSet zset = true := rfl
      have e1 : (((e + 1 : Nat) : Int) + 1 - 1) = (e : Int) + 1 := by omega
      have e2 : decide ((((e + 1 : Nat) : Int) + 1) > 0) = true := by simp; omega
      rw [e1, e2]
      simp [ownB, hz, htm, oddK, g.right]
    · rw [cnt_eq]
      have := g.small
      have epow : 2 ^ (e + 1 + 1) = 2 ^ (e + 1) + 2 ^ (e + 1) := by rw [Nat.pow_succ]; omega
      have : 1 ≤ 2 ^ (e + 1) := Nat.one_le_two_pow
      simp; omega
  have hwhi : w64 ((if lo > 1 then lo else 1) + more) = (if lo > 1 then lo else 1) + more := by
    split <;> exact w64_id (by omega) (by omega)
  have fin : ∀ (a hi : Int), m.At + 1 ≤ a → a ≤ m.At + 4 → timesB lo hi = true → ((st = 1 ∧ a = m.At + 4 ∧ hi = (if lo > 1 then lo else 1) + more) ∨ (st ≠ 1 ∧ a = m.At + 3 ∧ hi = -1)) →
      ∃ r o, C_hecklelaw03_Maker_Rx deep m r o ∧ Good (e + 1) r ∧ o.L = m.L ∧ m.At ≤ o.At ∧ o.At ≤ m.At + 10 * 3 ^ (e + 1) := by
    intro a hi ha1 ha2 htm hcase
    obtain ⟨r, o, c, g, l, u, v⟩ := kid a ha1 ha2
    refine ⟨_, o, W_hecklelaw03_Maker_Rx deep m _ _ ⟨_, _, hp, fun h => (by rw [hleaf] at h; cases h), fun _ => ⟨fun h => absurd (by simpa using h) hk5, fun _ => ⟨fun h => absurd (by simpa using h) hk5', fun _ => ⟨_, _, hq, fun L A H => L = m.L ∧ A = a ∧ H = hi, ?_, _, _, hs, fun h1 => ?_, fun h1 => ?_⟩⟩⟩⟩, good g htm, l, u, v⟩
    · rintro L A H ⟨rfl, rfl, rfl⟩
      exact ⟨_, _, by rw [hw2]; exact c, rfl, rfl⟩
    · have h1 : st = 1 := by simpa using h1
      rcases hcase with ⟨_, rfl, rfl⟩ | ⟨h2, _⟩
      · exact ⟨_, _, ht, rfl, by simp only; omega, hwhi⟩
      · exact absurd h1 h2
    · have h1 : st ≠ 1 := by simpa using h1
      rcases hcase with ⟨h2, _⟩ | ⟨_, rfl, rfl⟩
      · exact absurd h2 h1
      · exact ⟨rfl, by simp only; omega, rfl⟩
  by_cases h1 : st = 1
  · refine fin (m.At + 4) ((if lo > 1 then lo else 1) + more) (by omega) (by omega) ?_ (.inl ⟨h1, rfl, rfl⟩)
    simp only [timesB, Bool.and_eq_true, decide_eq_true_eq, Bool.or_eq_true]
    refine ⟨by omega, by omega, .inr ⟨?_, ?_⟩⟩ <;> split <;> omega
  · refine fin (m.At + 3) (-1) (by omega) (by omega) ?_ (.inr ⟨h1, rfl, rfl⟩)
    simp only [timesB, Bool.and_eq_true, decide_eq_true_eq, Bool.or_eq_true]
    exact ⟨by omega, by omega, .inl (by simp)⟩
structure Fit (x : api_Rx) : Prop where
  wf : Wf x
  right : rightB x = true
  size : sizeN x ≤ 40
theorem fit_chr : Fit (chr 97) := ⟨wf_leaf _ _ _ _, by kernel_rfl, by show sizeN (chr 97) ≤ 40; rw [show sizeN (chr 97) = 1 from by kernel_rfl]; omega⟩
theorem made_ok (l : List Int) (hb : Bytes l) : ∃ x, C_hecklelaw03_Made l x ∧ Fit x := by
  have main : ∀ l1 : List Int, Bytes l1 → l1.length ≤ 30 → ∃ r o, C_hecklelaw03_Maker_Rx 4 { L := l1, At := 0 } r o ∧ Good 4 r := by
    intro l1 h1 h2
    obtain ⟨r, o, c, g, _⟩ := mk_ok 4 (by omega) 4 (by omega) (by omega) { L := l1, At := 0 } ⟨h1, by simp only; omega, by simp⟩ (by simp)
    exact ⟨r, o, c, g⟩
  obtain ⟨l1, hl1⟩ : ∃ l1, l1 = if l.length > 30 then l.take 30 else l := ⟨_, rfl⟩
  have hb1 : Bytes l1 := by
    rw [hl1]; split
    · exact fun b hb' => hb b (List.mem_of_mem_take hb')
    · exact hb
  have hle : l1.length ≤ 30 := by
    rw [hl1]; split
    · simp; omega
    · omega
  obtain ⟨r, o, c, g⟩ := main l1 hb1 hle
  have hw := (good_len g (by omega)).2
  have made : ∀ x, (sizeZ r > 40 → x = chr 97) → (¬ sizeZ r > 40 → x = r) → C_hecklelaw03_Made l x := by
    intro x h1 h2
    refine W_hecklelaw03_Made l x ⟨fun l2 => l2 = l1, ?_, fun h => ⟨⟨by omega, ?_, ?_⟩, ?_⟩, fun h => ?_⟩
    · rintro l2 rfl
      refine ⟨r, o, c, _, refSize_ok r hw, fun h => ⟨_, chr_ok 97, h1 (by simpa using h)⟩, fun h => h2 (by simpa using h)⟩
    · have : l.length > 30 := by have : (l.length : Int) > 30 := by simpa using h
                                 omega
      show 30 ≤ _; omega
    · exact fits_u8 l
    · have : l.length > 30 := by have : (l.length : Int) > 30 := by simpa using h
                                 omega
      rw [hl1, if_pos this]; rfl
    · have : ¬ l.length > 30 := by have : ¬ (l.length : Int) > 30 := by simpa using h
                                   omega
      rw [hl1, if_neg this]
  by_cases hs : sizeZ r > 40
  · exact ⟨chr 97, made _ (fun _ => rfl) (fun h => absurd hs h), fit_chr⟩
  · refine ⟨r, made _ (fun h => absurd h hs) (fun _ => rfl), hw, ?_, ?_⟩
    · have h1 := rgt_mono r _ g.right 20 (by omega)
      have h2 : sizeZ r ≤ 200 := by omega
      have hsm := g.small
      have h3 := nodesZ_cnt r 1000 (by have : cnt r ≤ 31 := hsm; omega)
      have h4 : nodesZ r 1000 ≥ 0 := by have : cnt r ≤ 31 := hsm; omega
      simp [rightB, h1, h2, h4]
    · simp only [sizeZ] at hs; omega
end Go.Ev.Pl

set_option linter.unusedSimpArgs false
set_option linter.unusedVariables false
namespace Go.Ev.Pl
open Go Go.Ev
theorem bytes_of {w : World} {a : Option Addr} {len cap : Nat} {zs : List Int}
    (h : (a = none ∧ len = 0 ∧ cap = 0 ∧ zs = []) ∨ ∃ x, a = some x ∧ len ≤ cap ∧ cap ≤ maxLen ∧ zs.length = cap ∧ (∀ i, i < zs.length → w.cell? (x.add i) = some (.int .u8 (zs.getD i 0))) ∧ ∀ n ∈ zs, (Lit.int .u8 n).wf = true) : Bytes (zs.take len) := by
  intro b hb
  have hb := List.mem_of_mem_take hb
  rcases h with ⟨_, _, _, rfl⟩ | ⟨_, _, _, _, _, _, h⟩
  · simp at hb
  · have := h b hb
    simp only [Lit.wf, Bool.and_eq_true, decide_eq_true_eq] at this
    have e1 : IntKind.u8.min = 0 := by decide
    have e2 : IntKind.u8.max = 255 := by decide
    rw [e1, e2] at this
    exact this
end Go.Ev.Pl

set_option linter.unusedSimpArgs false
set_option linter.unusedVariables false
namespace Go.Ev.Pl
open Go Go.Ev Go.Proofs
section
variable {H : Type} {enc : TypeId × Value → H} {P : Program} {w : World} {base : Nat} {spare : Nat → Bool} {held : Bool}
end
end Go.Ev.Pl

set_option linter.unusedSimpArgs false
set_option linter.unusedVariables false
namespace Go.Ev.Pl
open Go Go.Ev
section
variable (N : Nat) (B : Nat → Int)
def hdS (sets : List arr4_uint64) (p i : Nat) : Prop := i < N ∧ ∃ s, sets[p]? = some s ∧ setHas s (B i) = true
inductive Pth (sets : List arr4_uint64) (last : Nat → Bool) (fo : Nat → Nat → Bool) : Nat → Nat → Nat → Prop where
  | last {p i : Nat} (h : hdS N B sets p i) (hl : last p = true) : Pth sets last fo p i (i + 1)
  | step {p q i j : Nat} (h : hdS N B sets p i) (hf : fo p q = true) (hp : Pth sets last fo q (i + 1) j) : Pth sets last fo p i j
def one (g : GA) (i j : Nat) : Prop := ∃ p, g.first p = true ∧ Pth N B g.sets g.last g.follow p i j
def acc (g : GA) (i j : Nat) : Prop := (g.null = true ∧ i = j) ∨ one N B g i j
variable {N B}
theorem pth_lt {sets : List arr4_uint64} {last : Nat → Bool} {fo : Nat → Nat → Bool} {p i j : Nat} (h : Pth N B sets last fo p i j) : i < j ∧ j ≤ N := by
  induction h with
  | last h _ => exact ⟨by omega, h.1⟩
  | step h _ _ ih => omega
theorem acc_le {g : GA} {i j : Nat} (h : acc N B g i j) (hi : i ≤ N) : i ≤ j ∧ j ≤ N := by
  rcases h with ⟨_, rfl⟩ | ⟨p, _, h⟩
  · exact ⟨Nat.le_refl _, hi⟩
  · have := pth_lt h; omega
theorem pth_map {sets sets' : List arr4_uint64} {last last' : Nat → Bool} {fo fo' : Nat → Nat → Bool} (I : Nat → Prop) (f : Nat → Nat) (hI : ∀ p q i, I p → hdS N B sets p i → fo p q = true → I q)
    (h1 : ∀ p i, I p → hdS N B sets p i → hdS N B sets' (f p) i) (h2 : ∀ p i, I p → hdS N B sets p i → last p = true → last' (f p) = true)
    (h3 : ∀ p q i, I p → hdS N B sets p i → fo p q = true → fo' (f p) (f q) = true) {p i j : Nat} (h : Pth N B sets last fo p i j) : I p → Pth N B sets' last' fo' (f p) i j := by
  induction h with
  | last h hl => exact fun hp => .last (h1 _ _ hp h) (h2 _ _ hp h hl)
  | step h hf _ ih => exact fun hp => .step (h1 _ _ hp h) (h3 _ _ _ hp h hf) (ih (hI _ _ _ hp h hf))
theorem hd_lt {sets : List arr4_uint64} {p i : Nat} (h : hdS N B sets p i) : p < sets.length := by
  obtain ⟨_, s, hs, _⟩ := h; exact (List.getElem?_eq_some_iff.1 hs).1
theorem hd_left {s t : List arr4_uint64} {p i : Nat} (hp : p < s.length) : hdS N B (s ++ t) p i ↔ hdS N B s p i := by
  unfold hdS; rw [List.getElem?_append_left hp]
theorem hd_right {s t : List arr4_uint64} {p i : Nat} : hdS N B (s ++ t) (s.length + p) i ↔ hdS N B t p i := by
  unfold hdS; rw [List.getElem?_append_right (by omega), show s.length + p - s.length = p by omega]
variable {a b : GA}
theorem cat_right (ha : Canon a) {p i j : Nat} : Pth N B (gCat a b).sets (gCat a b).last (gCat a b).follow (a.n + p) i j ↔ Pth N B b.sets b.last b.follow p i j := by
  constructor
  · intro h
    have := pth_map (sets' := b.sets) (last' := b.last) (fo' := b.follow) (fun q => a.n ≤ q) (fun q => q - a.n) ?_ ?_ ?_ ?_ h (by omega)
    · rwa [show a.n + p - a.n = p by omega] at this
    · intro p q i hp _ hf
      simp only [gCat, blk] at hf
      rw [if_neg (by omega)] at hf
      by_cases hq : q < a.n
      · rw [if_pos hq] at hf; cases hf
      · omega
    · intro p i hp hd
      have hd : hdS N B (a.sets ++ b.sets) p i := hd
      rw [show p = a.sets.length + (p - a.n) by rw [ha.sets]; omega] at hd
      exact hd_right.1 hd
    · intro p i hp _ hl
      simp only [gCat] at hl
      rwa [if_neg (by omega)] at hl
    · intro p q i hp _ hf
      simp only [gCat, blk] at hf
      rw [if_neg (by omega)] at hf
      by_cases hq : q < a.n
      · rw [if_pos hq] at hf; cases hf
      · rwa [if_neg hq] at hf
  · intro h
    refine pth_map (fun _ => True) (fun q => a.n + q) (fun _ _ _ _ _ _ => trivial) ?_ ?_ ?_ h trivial
    · intro p i _ hd
      show hdS N B (a.sets ++ b.sets) (a.n + p) i
      rw [← ha.sets]; exact hd_right.2 hd
    · intro p i _ _ hl
      simp only [gCat]; rwa [if_neg (by omega), show a.n + p - a.n = p by omega]
    · intro p q i _ _ hf
      simp only [gCat, blk]; rwa [if_neg (by omega), if_neg (by omega), show a.n + p - a.n = p by omega, show a.n + q - a.n = q by omega]
theorem cat_left (ha : Canon a) {p i j : Nat} (hp : p < a.n) : Pth N B (gCat a b).sets (gCat a b).last (gCat a b).follow p i j ↔
    (b.null = true ∧ Pth N B a.sets a.last a.follow p i j) ∨ ∃ k, Pth N B a.sets a.last a.follow p i k ∧ one N B b k j := by
  constructor
  · intro h
    generalize hs : (gCat a b).sets = sets at h
    generalize hl : (gCat a b).last = last at h
    generalize hf : (gCat a b).follow = fo at h
    induction h with
    | last h hl' =>
      subst hs hl
      have hd := (hd_left (t := b.sets) (by rw [ha.sets]; exact hp)).1 h
      simp only [gCat, if_pos hp, Bool.and_eq_true] at hl'
      exact .inl ⟨hl'.1, .last hd hl'.2⟩
    | @step p q i j h hf' hq ih =>
      have hd := (hd_left (t := b.sets) (by rw [ha.sets]; exact hp)).1 (by rw [← hs] at h; exact h)
      have hf2 := hf'
      rw [← hf] at hf2
      simp only [gCat, blk, if_pos hp] at hf2
      by_cases hqn : q < a.n
      · rw [if_pos hqn] at hf2
        rcases ih hqn with ⟨h1, h2⟩ | ⟨k, h1, h2⟩
        · exact .inl ⟨h1, .step hd hf2 h2⟩
        · exact .inr ⟨k, .step hd hf2 h1, h2⟩
      · rw [if_neg hqn, Bool.and_eq_true] at hf2
        rw [← hs, ← hl, ← hf, show q = a.n + (q - a.n) by omega, cat_right ha] at hq
        exact .inr ⟨i + 1, .last hd hf2.1, q - a.n, hf2.2, hq⟩
  · rintro (⟨hn, h⟩ | ⟨k, h, q, hq, h2⟩)
    · refine pth_map (fun q => True) (fun q => q) (fun _ _ _ _ _ _ => trivial) ?_ ?_ ?_ h trivial
      · exact fun p i _ hd => (hd_left (hd_lt hd)).2 hd
      · intro p i _ hd hl
        have := hd_lt hd
        rw [ha.sets] at this
        simp only [gCat, if_pos this, hn, hl]; rfl
      · intro p q i _ hd hf
        have := hd_lt hd
        rw [ha.sets] at this
        have hqn : q < a.n := by
          rcases Nat.lt_or_ge q a.n with h | h
          · exact h
          · rw [ha.follow p q (.inr h)] at hf; cases hf
        simp only [gCat, blk, if_pos this, if_pos hqn, hf]
    · induction h with
      | last h hl =>
        have hd := (hd_left (t := b.sets) (hd_lt h)).2 h
        refine .step (q := a.n + q) hd ?_ ((cat_right ha).2 h2)
        simp only [gCat, blk, if_pos hp]
        rw [if_neg (by omega), show a.n + q - a.n = q by omega, hl, hq]; rfl
      | @step p q' i j h hf hp' ih =>
        have hd := (hd_left (t := b.sets) (hd_lt h)).2 h
        have hqn : q' < a.n := by
          rcases Nat.lt_or_ge q' a.n with h | h
          · exact h
          · rw [ha.follow p q' (.inr h)] at hf; cases hf
        refine .step (q := q') hd ?_ (ih hqn h2)
        simp only [gCat, blk, if_pos hp, if_pos hqn, hf]
theorem first_lt (ha : Canon a) {p : Nat} (h : a.first p = true) : p < a.n := by
  rcases Nat.lt_or_ge p a.n with h1 | h1
  · exact h1
  · rw [ha.first p h1] at h; cases h
theorem acc_cat (ha : Canon a) {i j : Nat} : acc N B (gCat a b) i j ↔ ∃ k, acc N B a i k ∧ acc N B b k j := by
  constructor
  · rintro (⟨hn, rfl⟩ | ⟨p, hf, h⟩)
    · simp only [gCat, Bool.and_eq_true] at hn
      exact ⟨i, .inl ⟨hn.1, rfl⟩, .inl ⟨hn.2, rfl⟩⟩
    · by_cases hp : p < a.n
      · simp only [gCat, if_pos hp] at hf
        rcases (cat_left ha hp).1 h with ⟨h1, h2⟩ | ⟨k, h1, h2⟩
        · exact ⟨j, .inr ⟨p, hf, h2⟩, .inl ⟨h1, rfl⟩⟩
        · exact ⟨k, .inr ⟨p, hf, h1⟩, .inr h2⟩
      · simp only [gCat, if_neg hp, Bool.and_eq_true] at hf
        rw [show p = a.n + (p - a.n) by omega, cat_right ha] at h
        exact ⟨i, .inl ⟨hf.1, rfl⟩, .inr ⟨_, hf.2, h⟩⟩
  · rintro ⟨k, (⟨h1, rfl⟩ | ⟨p, h1, h2⟩), (⟨h3, rfl⟩ | ⟨q, h3, h4⟩)⟩
    · exact .inl ⟨by simp only [gCat, h1, h3]; rfl, rfl⟩
    · refine .inr ⟨a.n + q, ?_, (cat_right ha).2 h4⟩
      simp only [gCat]; rw [if_neg (by omega), show a.n + q - a.n = q by omega, h1, h3]; rfl
    · have hp := first_lt ha h1
      exact .inr ⟨p, by simp only [gCat, if_pos hp, h1], (cat_left ha hp).2 (.inl ⟨h3, h2⟩)⟩
    · have hp := first_lt ha h1
      exact .inr ⟨p, by simp only [gCat, if_pos hp, h1], (cat_left ha hp).2 (.inr ⟨k, h2, q, h3, h4⟩)⟩
theorem alt_left (ha : Canon a) {p i j : Nat} (hp : p < a.n) : Pth N B (gAlt a b).sets (gAlt a b).last (gAlt a b).follow p i j ↔ Pth N B a.sets a.last a.follow p i j := by
  constructor
  · intro h
    refine pth_map (fun q => q < a.n) (fun q => q) ?_ ?_ ?_ ?_ h hp
    · intro p q i hp _ hf
      simp only [gAlt, blk, if_pos hp] at hf
      by_cases hq : q < a.n
      · exact hq
      · rw [if_neg hq] at hf; cases hf
    · exact fun p i hp hd => (hd_left (t := b.sets) (by rw [ha.sets]; exact hp)).1 hd
    · intro p i hp _ hl; simpa only [gAlt, if_pos hp] using hl
    · intro p q i hp _ hf
      simp only [gAlt, blk, if_pos hp] at hf
      by_cases hq : q < a.n
      · rwa [if_pos hq] at hf
      · rw [if_neg hq] at hf; cases hf
  · intro h
    refine pth_map (fun q => True) (fun q => q) (fun _ _ _ _ _ _ => trivial) ?_ ?_ ?_ h trivial
    · exact fun p i _ hd => (hd_left (hd_lt hd)).2 hd
    · intro p i _ hd hl
      have := hd_lt hd
      rw [ha.sets] at this
      simp only [gAlt, if_pos this, hl]
    · intro p q i _ hd hf
      have := hd_lt hd
      rw [ha.sets] at this
      have hqn : q < a.n := by
        rcases Nat.lt_or_ge q a.n with h | h
        · exact h
        · rw [ha.follow p q (.inr h)] at hf; cases hf
      simp only [gAlt, blk, if_pos this, if_pos hqn, hf]
theorem alt_right (ha : Canon a) {p i j : Nat} : Pth N B (gAlt a b).sets (gAlt a b).last (gAlt a b).follow (a.n + p) i j ↔ Pth N B b.sets b.last b.follow p i j := by
  constructor
  · intro h
    have := pth_map (sets' := b.sets) (last' := b.last) (fo' := b.follow) (fun q => a.n ≤ q) (fun q => q - a.n) ?_ ?_ ?_ ?_ h (by omega)
    · rwa [show a.n + p - a.n = p by omega] at this
    · intro p q i hp _ hf
      simp only [gAlt, blk] at hf
      rw [if_neg (by omega)] at hf
      by_cases hq : q < a.n
      · rw [if_pos hq] at hf; cases hf
      · omega
    · intro p i hp hd
      have hd : hdS N B (a.sets ++ b.sets) p i := hd
      rw [show p = a.sets.length + (p - a.n) by rw [ha.sets]; omega] at hd
      exact hd_right.1 hd
    · intro p i hp _ hl
      simp only [gAlt] at hl
      rwa [if_neg (by omega)] at hl
    · intro p q i hp _ hf
      simp only [gAlt, blk] at hf
      rw [if_neg (by omega)] at hf
      by_cases hq : q < a.n
      · rw [if_pos hq] at hf; cases hf
      · rwa [if_neg hq] at hf
  · intro h
    refine pth_map (fun _ => True) (fun q => a.n + q) (fun _ _ _ _ _ _ => trivial) ?_ ?_ ?_ h trivial
    · intro p i _ hd
      show hdS N B (a.sets ++ b.sets) (a.n + p) i
      rw [← ha.sets]; exact hd_right.2 hd
    · intro p i _ _ hl
      simp only [gAlt]; rwa [if_neg (by omega), show a.n + p - a.n = p by omega]
    · intro p q i _ _ hf
      simp only [gAlt, blk]; rwa [if_neg (by omega), if_neg (by omega), show a.n + p - a.n = p by omega, show a.n + q - a.n = q by omega]
theorem acc_alt (ha : Canon a) {i j : Nat} : acc N B (gAlt a b) i j ↔ acc N B a i j ∨ acc N B b i j := by
  constructor
  · rintro (⟨hn, rfl⟩ | ⟨p, hf, h⟩)
    · simp only [gAlt, Bool.or_eq_true] at hn
      exact hn.imp (fun h => .inl ⟨h, rfl⟩) fun h => .inl ⟨h, rfl⟩
    · by_cases hp : p < a.n
      · simp only [gAlt, if_pos hp] at hf
        exact .inl (.inr ⟨p, hf, (alt_left ha hp).1 h⟩)
      · simp only [gAlt, if_neg hp] at hf
        rw [show p = a.n + (p - a.n) by omega, alt_right ha] at h
        exact .inr (.inr ⟨_, hf, h⟩)
  · rintro ((⟨h1, rfl⟩ | ⟨p, h1, h2⟩) | (⟨h1, rfl⟩ | ⟨q, h3, h4⟩))
    · exact .inl ⟨by simp only [gAlt, h1]; rfl, rfl⟩
    · have hp := first_lt ha h1
      exact .inr ⟨p, by simp only [gAlt, if_pos hp, h1], (alt_left ha hp).2 h2⟩
    · exact .inl ⟨by simp only [gAlt, h1]; simp, rfl⟩
    · refine .inr ⟨a.n + q, ?_, (alt_right ha).2 h4⟩
      simp only [gAlt]; rw [if_neg (by omega), show a.n + q - a.n = q by omega, h3]
def pow (R : Nat → Nat → Prop) : Nat → Nat → Nat → Prop
  | 0, i, j => i = j
  | m + 1, i, j => ∃ k, pow R m i k ∧ R k j
theorem pow_add {R : Nat → Nat → Prop} {m : Nat} : ∀ {q i j : Nat}, pow R (m + q) i j ↔ ∃ k, pow R m i k ∧ pow R q k j
  | 0, i, j => ⟨fun h => ⟨j, h, rfl⟩, fun ⟨k, h, e⟩ => by cases e; exact h⟩
  | q + 1, i, j => by
    show (∃ k, pow R (m + q) i k ∧ R k j) ↔ _
    constructor
    · rintro ⟨k, h1, h2⟩
      obtain ⟨l, h3, h4⟩ := pow_add.1 h1
      exact ⟨l, h3, k, h4, h2⟩
    · rintro ⟨l, h3, k, h4, h2⟩
      exact ⟨k, pow_add.2 ⟨l, h3, h4⟩, h2⟩
theorem pow_one {R : Nat → Nat → Prop} {i j : Nat} : pow R 1 i j ↔ R i j := ⟨fun ⟨k, e, h⟩ => by cases e; exact h, fun h => ⟨i, rfl, h⟩⟩
theorem pow_front {R : Nat → Nat → Prop} {m i j : Nat} : pow R (m + 1) i j ↔ ∃ k, R i k ∧ pow R m k j := by
  rw [Nat.add_comm, pow_add]
  exact ⟨fun ⟨k, h1, h2⟩ => ⟨k, pow_one.1 h1, h2⟩, fun ⟨k, h1, h2⟩ => ⟨k, pow_one.2 h1, h2⟩⟩
theorem acc_empty {i j : Nat} : acc N B gEmpty i j ↔ i = j := by
  constructor
  · rintro (⟨_, h⟩ | ⟨p, h, _⟩)
    · exact h
    · cases h
  · exact fun h => .inl ⟨rfl, h⟩
theorem acc_none {i j : Nat} : ¬ acc N B gNone i j := fun h => by
  rcases h with ⟨h, _⟩ | ⟨p, h, _⟩ <;> cases h
theorem acc_byte {s : arr4_uint64} {i j : Nat} : acc N B (gByte s) i j ↔ i < N ∧ setHas s (B i) = true ∧ j = i + 1 := by
  constructor
  · rintro (⟨h, _⟩ | ⟨p, h, h2⟩)
    · cases h
    · simp only [gByte, beq_iff_eq] at h
      subst h
      cases h2 with
      | last h hl =>
        obtain ⟨h1, s', h2, h3⟩ := h
        simp only [gByte, List.getElem?_cons_zero, Option.some.injEq] at h2
        subst h2
        exact ⟨h1, h3, rfl⟩
      | step h hf _ => cases hf
  · rintro ⟨h1, h2, rfl⟩
    exact .inr ⟨0, rfl, .last ⟨h1, s, rfl, h2⟩ rfl⟩
theorem acc_maybe {i j : Nat} : acc N B (gMaybe a) i j ↔ i = j ∨ acc N B a i j := by
  constructor
  · rintro (⟨_, h⟩ | h)
    · exact .inl h
    · exact .inr (.inr h)
  · rintro (h | ⟨_, h⟩ | h)
    · exact .inl ⟨rfl, h⟩
    · exact .inl ⟨rfl, h⟩
    · exact .inr h
theorem acc_again {i j : Nat} : acc N B (gAgain a) i j ↔ ∃ m, pow (acc N B a) (m + 1) i j := by
  constructor
  · rintro (⟨hn, rfl⟩ | ⟨p, hp, h⟩)
    · exact ⟨0, pow_one.2 (.inl ⟨hn, rfl⟩)⟩
    · have key : ∀ {p i j : Nat}, Pth N B a.sets a.last (gAgain a).follow p i j → ∃ k m, Pth N B a.sets a.last a.follow p i k ∧ pow (acc N B a) m k j := by
        intro p i j h
        induction h with
        | last h hl => exact ⟨_, 0, .last h hl, rfl⟩
        | @step p q i j h hf hq ih =>
          obtain ⟨k, m, h1, h2⟩ := ih
          simp only [gAgain, Bool.or_eq_true, Bool.and_eq_true] at hf
          rcases hf with hf | ⟨hl, hq⟩
          · exact ⟨k, m, .step h hf h1, h2⟩
          · exact ⟨i + 1, m + 1, .last h hl, pow_front.2 ⟨k, .inr ⟨q, hq, h1⟩, h2⟩⟩
      obtain ⟨k, m, h1, h2⟩ := key h
      exact ⟨m, pow_front.2 ⟨k, .inr ⟨p, hp, h1⟩, h2⟩⟩
  · rintro ⟨m, h⟩
    have mono : ∀ {p i j : Nat}, Pth N B a.sets a.last a.follow p i j → Pth N B a.sets a.last (gAgain a).follow p i j := by
      intro p i j h
      exact pth_map (fun _ => True) (fun q => q) (fun _ _ _ _ _ _ => trivial) (fun _ _ _ h => h) (fun _ _ _ _ h => h) (fun p q i _ _ hf => by simp only [gAgain, hf]; rfl) h trivial
    have glue : ∀ {p i k q j : Nat}, Pth N B a.sets a.last a.follow p i k → a.first q = true → Pth N B a.sets a.last (gAgain a).follow q k j → Pth N B a.sets a.last (gAgain a).follow p i j := by
      intro p i k q j h hq h2
      induction h with
      | last h hl => exact .step h (by simp only [gAgain, hl, hq]; simp) h2
      | step h hf _ ih => exact .step h (by simp only [gAgain, hf]; rfl) (ih h2)
    induction m generalizing i with
    | zero =>
      rcases pow_one.1 h with ⟨hn, rfl⟩ | ⟨p, hp, h⟩
      · exact .inl ⟨hn, rfl⟩
      · exact .inr ⟨p, hp, mono h⟩
    | succ m ih =>
      obtain ⟨k, h1, h2⟩ := pow_front.1 h
      have h2 := ih h2
      rcases h1 with ⟨hn, rfl⟩ | ⟨p, hp, h1⟩
      · exact h2
      · rcases h2 with ⟨hn, rfl⟩ | ⟨q, hq, h2⟩
        · exact .inr ⟨p, hp, mono h1⟩
        · exact .inr ⟨p, hp, glue h1 hq h2⟩
theorem acc_iter (ha : Canon a) {z : GA} : ∀ {k i j : Nat}, acc N B (iter (gCat a) k z) i j ↔ ∃ l, pow (acc N B a) k i l ∧ acc N B z l j
  | 0, i, j => ⟨fun h => ⟨i, rfl, h⟩, fun ⟨l, e, h⟩ => by cases e; exact h⟩
  | k + 1, i, j => by
    rw [iter, acc_cat ha]
    constructor
    · rintro ⟨m, h1, h2⟩
      obtain ⟨l, h3, h4⟩ := (acc_iter ha).1 h2
      exact ⟨l, pow_front.2 ⟨m, h1, h3⟩, h4⟩
    · rintro ⟨l, h1, h2⟩
      obtain ⟨m, h3, h4⟩ := pow_front.1 h1
      exact ⟨m, h3, (acc_iter ha).2 ⟨l, h4, h2⟩⟩
theorem acc_upto (ha : Canon a) : ∀ {k i j : Nat}, acc N B (iter (fun o => gMaybe (gCat a o)) k gEmpty) i j ↔ ∃ m, m ≤ k ∧ pow (acc N B a) m i j
  | 0, i, j => by
    rw [iter, acc_empty]
    constructor
    · exact fun h => ⟨0, Nat.le_refl _, h⟩
    · rintro ⟨m, h, e⟩
      have hm : m = 0 := by omega
      subst hm
      exact e
  | k + 1, i, j => by
    rw [iter, acc_maybe, acc_cat ha]
    constructor
    · rintro (h | ⟨l, h1, h2⟩)
      · exact ⟨0, by omega, h⟩
      · obtain ⟨m, h3, h4⟩ := (acc_upto ha).1 h2
        exact ⟨m + 1, by omega, pow_front.2 ⟨l, h1, h4⟩⟩
    · rintro ⟨m, h1, h2⟩
      cases m with
      | zero => exact .inl h2
      | succ m =>
        obtain ⟨l, h3, h4⟩ := pow_front.1 h2
        exact .inr ⟨l, h3, (acc_upto ha).2 ⟨m, by omega, h4⟩⟩
theorem acc_rep (ha : Canon a) {lo hi : Int} (h0 : 0 ≤ lo) (h1 : hi = -1 ∨ 1 ≤ hi ∧ lo ≤ hi) {i j : Nat} : acc N B (gRep a lo hi) i j ↔ ∃ q, (hi < 0 ∨ lo + (q : Nat) ≤ hi) ∧ pow (acc N B a) (lo.toNat + q) i j := by
  unfold gRep
  split
  · rename_i hh
    rw [acc_iter ha]
    by_cases hl : lo = 0
    · subst hl
      rw [show (max (0 : Int) 1 - 1).toNat = 0 from rfl]
      simp only [if_true]
      constructor
      · rintro ⟨l, e, h⟩
        cases e
        rcases acc_maybe.1 h with e | h
        · exact ⟨0, .inl hh, e⟩
        · obtain ⟨m, h⟩ := acc_again.1 h
          refine ⟨m + 1, .inl hh, ?_⟩
          rw [show (0 : Int).toNat = 0 from rfl, Nat.zero_add]; exact h
      · rintro ⟨q, _, h⟩
        rw [show (0 : Int).toNat = 0 from rfl, Nat.zero_add] at h
        refine ⟨i, rfl, acc_maybe.2 ?_⟩
        cases q with
        | zero => exact .inl h
        | succ q => exact .inr (acc_again.2 ⟨q, h⟩)
    · rw [if_neg hl]
      obtain ⟨n, hn⟩ : ∃ n : Nat, lo = ((n + 1 : Nat) : Int) := ⟨(lo - 1).toNat, by omega⟩
      subst hn
      rw [show (max (((n + 1 : Nat) : Int)) 1 - 1).toNat = n by omega]
      have e2 : ((n + 1 : Nat) : Int).toNat = n + 1 := by omega
      rw [e2]
      constructor
      · rintro ⟨l, h2, h3⟩
        obtain ⟨m, h4⟩ := acc_again.1 h3
        refine ⟨m, .inl hh, ?_⟩
        rw [show n + 1 + m = n + (m + 1) by omega]
        exact pow_add.2 ⟨l, h2, h4⟩
      · rintro ⟨q, _, h⟩
        rw [show n + 1 + q = n + (q + 1) by omega] at h
        obtain ⟨l, h2, h3⟩ := pow_add.1 h
        exact ⟨l, h2, acc_again.2 ⟨q, h3⟩⟩
  · rename_i hh
    rw [acc_iter ha]
    constructor
    · rintro ⟨l, h2, h3⟩
      obtain ⟨m, h4, h5⟩ := (acc_upto ha).1 h3
      exact ⟨m, .inr (by omega), pow_add.2 ⟨l, h2, h5⟩⟩
    · rintro ⟨q, h2, h3⟩
      obtain ⟨l, h4, h5⟩ := pow_add.1 h3
      exact ⟨l, h4, (acc_upto ha).2 ⟨q, by omega, h5⟩⟩
end
end Go.Ev.Pl

set_option linter.unusedSimpArgs false
set_option linter.unusedVariables false
namespace Go.Ev.Pl
open Go Go.Ev
noncomputable def bl (N : Nat) (P : Nat → Prop) : List Bool := (List.range (N + 1)).map fun j => @decide (P j) (Classical.propDecidable _)
theorem bl_len (N : Nat) (P : Nat → Prop) : (bl N P).length = N + 1 := by simp [bl]
theorem bl_get {N : Nat} {P : Nat → Prop} {j : Nat} (h : j < (bl N P).length) : (bl N P)[j] = @decide (P j) (Classical.propDecidable _) := by simp [bl]
theorem bl_gd {N : Nat} {P : Nat → Prop} {j : Nat} (h : j ≤ N) : gd (bl N P) (j : Int) = true ↔ P j := by
  rw [gd_nat (by rw [bl_len]; omega), bl_get]; simp
theorem bl_gdf {N : Nat} {P : Nat → Prop} {j : Nat} (h : j ≤ N) : gd (bl N P) (j : Int) = false ↔ ¬ P j := by
  rw [gd_nat (by rw [bl_len]; omega), bl_get]; simp
theorem bl_congr {N : Nat} {P Q : Nat → Prop} (h : ∀ j, j ≤ N → (P j ↔ Q j)) : bl N P = bl N Q := by
  unfold bl
  refine List.map_congr_left fun j hj => ?_
  have := h j (by have := List.mem_range.1 hj; omega)
  by_cases hp : P j
  · simp [hp, this.1 hp]
  · have hq : ¬ Q j := fun hq => hp (this.2 hq)
    simp [hp, hq]
theorem bl_ext {N : Nat} {P : Nat → Prop} {l : List Bool} (hl : l.length = N + 1) (h : ∀ (j : Nat) (hj : j < l.length), l[j] = true ↔ P j) : l = bl N P := by
  refine List.ext_getElem (by rw [hl, bl_len]) fun j h1 h2 => ?_
  rw [bl_get]
  by_cases hp : P j
  · simp [hp, (h j h1).2 hp]
  · have : l[j] ≠ true := fun e => hp ((h j h1).1 e)
    simp [hp, this]
theorem bl_none (N : Nat) : List.replicate (N + 1) false = bl N fun _ => False :=
  bl_ext (by simp) fun j hj => by simp
theorem bl_copy (N : Nat) (P Q : Nat → Prop) : List.take (bl N P).length (bl N Q) ++ List.drop (bl N Q).length (List.replicate (bl N P).length false) = bl N Q := by
  rw [bl_len, bl_len, List.take_of_length_le (by rw [bl_len]; exact Nat.le_refl _), List.drop_of_length_le (by simp), List.append_nil]
theorem bl_copy1 (N : Nat) (P : Nat → Prop) : bl N P ++ List.drop (bl N P).length (List.replicate (bl N P).length false) = bl N P := by
  rw [List.drop_of_length_le (by simp), List.append_nil]
theorem bl_set {N : Nat} {P : Nat → Prop} {i : Nat} (b : Bool) (h : i ≤ N) : (bl N P).set i b = bl N fun j => if j = i then b = true else P j :=
  bl_ext (by rw [List.length_set, bl_len]) fun j hj => by
    rw [List.getElem_set]
    by_cases hij : i = j
    · subst hij; simp
    · rw [if_neg hij, if_neg (fun e => hij e.symm), bl_get]; simp
theorem or_ok {N : Nat} (hN : N < 100000) (P Q : Nat → Prop) : C_heckleref05_or (bl N P) (bl N Q) (bl N fun j => P j ∨ Q j) := by
  have hl := bl_len N P
  refine W_heckleref05_or _ _ _ ⟨fun out t => ∃ i : Nat, t = i ∧ i ≤ N + 1 ∧ out = (bl N fun j => P j ∨ Q j).take i, fun _ t => (N + 1 - t).toNat, ⟨0, rfl, by omega, by simp⟩, ?_⟩
  rintro out t ⟨i, rfl, hi, rfl⟩
  rw [hl]
  refine ⟨fun ht => ?_, fun ht => ?_⟩
  · have ht : i < N + 1 := by have := of_decide_eq_true ht; omega
    have hw2 : w64 ((i : Int) + 1) = ((i + 1 : Nat) : Int) := w64_id (by omega) (by omega)
    have hlt : ((bl N fun j => P j ∨ Q j).take i).length = i := by rw [List.length_take, bl_len]; omega
    have htk : (bl N fun j => P j ∨ Q j).take (i + 1) = (bl N fun j => P j ∨ Q j).take i ++ [@decide (P i ∨ Q i) (Classical.propDecidable _)] := by
      rw [List.take_succ_eq_append_getElem (by rw [bl_len]; omega), bl_get]
    rw [hw2, hlt]
    refine ⟨by omega, by omega, fun hg => ⟨fun _ => by omega, ⟨i + 1, rfl, by omega, ?_⟩, by first | omega | (dsimp only; omega)⟩, fun hg => ⟨fun _ => by omega, fun _ => by rw [bl_len]; omega, fun _ => by omega, ⟨i + 1, rfl, by omega, ?_⟩, by first | omega | (dsimp only; omega)⟩⟩
    · rw [htk]
      have := (bl_gd (by omega)).1 hg
      simp [this]
    · rw [htk]
      have hp := (bl_gdf (by omega)).1 hg
      congr 2
      by_cases hq : Q i
      · rw [(bl_gd (by omega)).2 hq]; simp [hq]
      · rw [(bl_gdf (by omega)).2 hq]; simp [hp, hq]
  · have ht : i = N + 1 := by have := of_decide_eq_false ht; omega
    subst ht
    rw [List.take_of_length_le (by rw [bl_len]; exact Nat.le_refl _)]
theorem within_ok {N : Nat} (hN : N < 100000) (P Q : Nat → Prop) (b : Bool) (hb : b = true ↔ ∀ j, j ≤ N → P j → Q j) : C_heckleref05_within (bl N P) (bl N Q) b := by
  have hl := bl_len N P
  have hl2 := bl_len N Q
  refine W_heckleref05_within _ _ _ ⟨fun t => ∃ i : Nat, t = i ∧ i ≤ N + 1 ∧ ∀ j, j < i → P j → Q j, fun t => (N + 1 - t).toNat, ⟨0, rfl, by omega, by omega⟩, ?_⟩
  rintro t ⟨i, rfl, hi, hall⟩
  rw [hl, hl2]
  refine ⟨fun ht => ?_, fun ht => ?_⟩
  · have ht : i < N + 1 := by have := of_decide_eq_true ht; omega
    have hw2 : w64 ((i : Int) + 1) = ((i + 1 : Nat) : Int) := w64_id (by omega) (by omega)
    rw [hw2]
    refine ⟨by omega, by omega, fun _ => by omega, fun _ => by omega, fun hg => ?_, fun hg => ⟨⟨i + 1, rfl, by omega, ?_⟩, by first | omega | (dsimp only; omega)⟩⟩
    · simp only [Bool.and_eq_true, Bool.not_eq_true'] at hg
      have h1 := (bl_gd (by omega)).1 hg.1
      have h2 := (bl_gdf (by omega)).1 hg.2
      cases b with
      | false => rfl
      | true => exact absurd (hb.1 rfl i (by omega) h1) h2
    · intro j hj hp
      by_cases hji : j = i
      · subst hji
        rw [(bl_gd (by omega)).2 hp, Bool.true_and, Bool.not_eq_false'] at hg
        exact (bl_gd (by omega)).1 hg
      · exact hall j (by omega) hp
  · have ht : i = N + 1 := by have := of_decide_eq_false ht; omega
    subst ht
    exact (hb.2 fun j hj hp => hall j (by omega) hp)
theorem closed_ok (x : api_Rx) : C_heckleref05_closed x (x.Kind == 5 && (decide (x.Hi < 0) && decide (x.Lo ≤ 1))) := W_heckleref05_closed _ _ rfl
open Classical in
noncomputable def cntB (P : Nat → Prop) : Nat → Nat
  | 0 => 0
  | n + 1 => cntB P n + if P n then 1 else 0
theorem cntB_le (P : Nat → Prop) : ∀ n, cntB P n ≤ n
  | 0 => Nat.le_refl _
  | n + 1 => by have := cntB_le P n; unfold cntB; split <;> omega
theorem cntB_mono {P Q : Nat → Prop} : ∀ n, (∀ j, j < n → P j → Q j) → cntB P n ≤ cntB Q n
  | 0, _ => Nat.le_refl _
  | n + 1, h => by
    have := cntB_mono n fun j hj => h j (by omega)
    unfold cntB
    by_cases hp : P n
    · rw [if_pos hp, if_pos (h n (by omega) hp)]; omega
    · rw [if_neg hp]; split <;> omega
theorem cntB_lt {P Q : Nat → Prop} : ∀ n, (∀ j, j < n → P j → Q j) → (∃ j, j < n ∧ ¬ P j ∧ Q j) → cntB P n + 1 ≤ cntB Q n
  | 0, _, ⟨j, hj, _⟩ => by omega
  | n + 1, h, ⟨j, hj, h1, h2⟩ => by
    unfold cntB
    by_cases hjn : j = n
    · subst hjn
      have := cntB_mono j fun k hk => h k (by omega)
      rw [if_neg h1, if_pos h2]; omega
    · have := cntB_lt n (fun k hk => h k (by omega)) ⟨j, by omega, h1, h2⟩
      by_cases hp : P n
      · rw [if_pos hp, if_pos (h n (by omega) hp)]; omega
      · rw [if_neg hp]; split <;> omega
theorem cntB_full {P : Nat → Prop} : ∀ n, n ≤ cntB P n → ∀ j, j < n → P j
  | 0, _, j, hj => by omega
  | n + 1, h, j, hj => by
    unfold cntB at h
    have := cntB_le P n
    by_cases hp : P n
    · rw [if_pos hp] at h
      by_cases hjn : j = n
      · subst hjn; exact hp
      · exact cntB_full n (by omega) j (by omega)
    · rw [if_neg hp] at h; omega
end Go.Ev.Pl

set_option linter.unusedSimpArgs false
set_option linter.unusedVariables false
namespace Go.Ev.Pl
open Go Go.Ev
def bt (s : ByteArray) (i : Nat) : Int := w64 (((byteAt s (i : Int)).toNat : Nat) : Int)
abbrev Tx (s : ByteArray) (g : GA) (F : Nat → Prop) (j : Nat) : Prop := ∃ i, i ≤ s.size ∧ F i ∧ acc s.size (bt s) g i j
theorem canon_catF : ∀ (l : List api_Rx) (z : GA), Canon z → Canon (l.foldl (fun o y => gCat o (gof y)) z)
  | [], _, h => h
  | y :: r, _, h => canon_catF r _ (canon_cat h (canon_gof y))
theorem canon_altF : ∀ (l : List api_Rx) (z : GA), Canon z → Canon (l.foldl (fun o y => gAlt o (gof y)) z)
  | [], _, h => h
  | y :: r, _, h => canon_altF r _ (canon_alt h (canon_gof y))
theorem gof_k1 {x : api_Rx} (h : x.Kind = 1) : gof x = gEmpty := by
  rw [gof_eq, if_neg (by omega), if_neg (by omega), if_neg (by omega), if_neg (by omega)]
theorem gof_k2 {x : api_Rx} (h : x.Kind = 2) : gof x = gByte x.Set := by rw [gof_eq, if_pos h]
theorem gof_k3 {x : api_Rx} (h : x.Kind = 3) : gof x = x.Kids.foldl (fun o y => gCat o (gof y)) gEmpty := by rw [gof_eq, if_neg (by omega), if_pos h]
theorem gof_k4 {x : api_Rx} (h : x.Kind = 4) : gof x = x.Kids.foldl (fun o y => gAlt o (gof y)) gNone := by rw [gof_eq, if_neg (by omega), if_neg (by omega), if_pos h]
theorem gof_k5 {x k : api_Rx} (h : x.Kind = 5) (hk : x.Kids = [k]) : gof x = gRep (gof k) x.Lo x.Hi := by
  rw [gof_eq, if_neg (by omega), if_neg (by omega), if_neg (by omega), if_pos h, hk]; rfl
theorem pow_le {N : Nat} {B : Nat → Int} {g : GA} : ∀ {m i j : Nat}, pow (acc N B g) m i j → i ≤ N → j ≤ N
  | 0, i, j, h, hi => by cases h; exact hi
  | m + 1, i, j, ⟨k, h1, h2⟩, hi => (acc_le h2 (pow_le h1 hi)).2
def clo (k : api_Rx) : Bool := k.Kind == 5 && (decide (k.Hi < 0) && decide (k.Lo ≤ 1))
theorem clo_trans {N : Nat} {B : Nat → Int} {k : api_Rx} (hr : Rgt k) (hc : clo k = true) {i l j : Nat} (h1 : acc N B (gof k) i l) (h2 : acc N B (gof k) l j) : acc N B (gof k) i j := by
  simp only [clo, Bool.and_eq_true, beq_iff_eq, decide_eq_true_eq] at hc
  obtain ⟨h5, hh, hl⟩ := hc
  obtain ⟨⟨k2, hk2⟩, h0, _, hhi⟩ := own_rep (rgt_own hr).1 h5
  rw [gof_k5 h5 hk2] at h1 h2 ⊢
  have hhi : k.Hi = -1 ∨ 1 ≤ k.Hi ∧ k.Lo ≤ k.Hi := hhi.imp id fun h => ⟨h.1, h.2.1⟩
  obtain ⟨q1, _, p1⟩ := (acc_rep (canon_gof k2) h0 hhi).1 h1
  obtain ⟨q2, _, p2⟩ := (acc_rep (canon_gof k2) h0 hhi).1 h2
  refine (acc_rep (canon_gof k2) h0 hhi).2 ⟨q1 + (k.Lo.toNat + q2), .inl hh, ?_⟩
  rw [← Nat.add_assoc]
  exact pow_add.2 ⟨l, p1, p2⟩
theorem pow_trans {R : Nat → Nat → Prop} (hR : ∀ i l j, R i l → R l j → R i j) : ∀ {m i j : Nat}, pow R (m + 1) i j → R i j
  | 0, i, j, h => pow_one.1 h
  | m + 1, i, j, ⟨k, h1, h2⟩ => hR _ _ _ (pow_trans hR h1) h2
theorem st_congr {x : api_Rx} {s : ByteArray} {l : List Bool} {N : Nat} {P Q : Nat → Prop} (h : C_heckleref05_step x s l (bl N P)) (e : ∀ j, j ≤ N → (P j ↔ Q j)) : C_heckleref05_step x s l (bl N Q) := by rw [← bl_congr e]; exact h
theorem step_ok (s : ByteArray) (hs : s.size < 99999) : ∀ x, Wf x → Rgt x → ∀ F, C_heckleref05_step x s (bl s.size F) (bl s.size (Tx s (gof x) F)) := by
  refine rxInd fun x ih hw hr F => ?_
  obtain ⟨hl, hk⟩ := (wf_eq x).1 hw
  obtain ⟨ho, hrk⟩ := rgt_own hr
  have hlen := bl_len s.size F
  have hkind := own_kind ho
  refine W_heckleref05_step x s _ _ ⟨⟨by omega, by omega, by rw [hlen]; omega, by rw [hlen]; omega⟩, fun out => bl s.size (Tx s (gof x) F) = out, fun out h => h, fun h1 => ?_, fun h1 => ⟨fun h2 => ?_, fun h2 => ⟨fun h3 => ?_, fun h3 => ⟨fun h4 => ?_, fun h4 => ⟨fun h5 => ?_, fun h5 => ?_⟩⟩⟩⟩⟩
  · have h1 : x.Kind = 1 := by simpa using h1
    rw [bl_copy1, gof_k1 h1]
    refine bl_congr fun j hj => ⟨?_, fun h => ⟨j, hj, h, acc_empty.2 rfl⟩⟩
    rintro ⟨i, _, hf, ha⟩
    cases acc_empty.1 ha; exact hf
  · have h2 : x.Kind = 2 := by simpa using h2
    refine ⟨fun out t => ∃ i : Nat, t = i ∧ i ≤ s.size ∧ out = bl s.size fun j => 1 ≤ j ∧ j ≤ i ∧ F (j - 1) ∧ setHas x.Set (bt s (j - 1)) = true, fun _ t => (s.size - t).toNat, ⟨0, rfl, by omega, ?_⟩, ?_⟩
    · rw [hlen, bl_none]
      exact bl_congr fun j hj => ⟨fun h => h.elim, fun h => by omega⟩
    rintro out t ⟨i, rfl, hi, rfl⟩
    have hset : ∀ b : Bool, i < s.size → (b = true ↔ F i ∧ setHas x.Set (bt s i) = true) → List.set (bl s.size fun j => 1 ≤ j ∧ j ≤ i ∧ F (j - 1) ∧ setHas x.Set (bt s (j - 1)) = true) (i + 1) b = bl s.size fun j => 1 ≤ j ∧ j ≤ i + 1 ∧ F (j - 1) ∧ setHas x.Set (bt s (j - 1)) = true := by
      intro b hi hb
      rw [bl_set b (by omega)]
      refine bl_congr fun j hj => ?_
      by_cases hji : j = i + 1
      · subst hji
        rw [if_pos rfl, hb, Nat.add_sub_cancel]
        exact ⟨fun h => ⟨by omega, by omega, h⟩, fun h => h.2.2⟩
      · rw [if_neg hji]
        exact ⟨fun h => ⟨h.1, by omega, h.2.2⟩, fun h => ⟨h.1, by omega, h.2.2⟩⟩
    refine ⟨fun ht => ?_, fun ht => ?_⟩
    · have ht : i < s.size := by have := of_decide_eq_true ht; omega
      have hw2 : w64 ((i : Int) + 1) = ((i + 1 : Nat) : Int) := w64_id (by omega) (by omega)
      simp only [hw2, Int.toNat_natCast, hlen, bl_len]
      refine ⟨by omega, by omega, fun hg => ⟨fun _ => by omega, fun _ => by omega, _, has_ok _ _, fun _ => by omega, fun _ => by omega, fun _ => by omega, ⟨i + 1, rfl, by omega, hset _ ht ?_⟩, by omega⟩, fun hg => ⟨fun _ => by omega, fun _ => by omega, fun _ => by omega, ⟨i + 1, rfl, by omega, hset _ ht ?_⟩, by omega⟩⟩
      · exact ⟨fun h => ⟨(bl_gd (by omega)).1 hg, h⟩, fun h => h.2⟩
      · exact ⟨fun h => (by cases h), fun h => absurd h.1 ((bl_gdf (by omega)).1 hg)⟩
    · have ht : i = s.size := by have := of_decide_eq_false ht; omega
      subst ht
      rw [gof_k2 h2]
      refine bl_congr fun j hj => ⟨?_, ?_⟩
      · rintro ⟨i, _, hf, ha⟩
        obtain ⟨e1, e2, rfl⟩ := acc_byte.1 ha
        exact ⟨by omega, by omega, hf, e2⟩
      · rintro ⟨e1, e2, hf, e3⟩
        exact ⟨j - 1, by omega, hf, acc_byte.2 ⟨by omega, e3, by omega⟩⟩
  · have h3 : x.Kind = 3 := by simpa using h3
    refine ⟨fun now t => ∃ i : Nat, t = i ∧ i ≤ x.Kids.length ∧ now = bl s.size (Tx s ((x.Kids.take i).foldl (fun o y => gCat o (gof y)) gEmpty) F), fun _ t => (x.Kids.length - t).toNat, ⟨0, rfl, by omega, ?_⟩, ?_⟩
    · refine bl_congr fun j hj => ⟨fun h => ⟨j, hj, h, acc_empty.2 rfl⟩, ?_⟩
      rintro ⟨i, _, hf, ha⟩
      cases acc_empty.1 ha; exact hf
    rintro now t ⟨i, rfl, hi, rfl⟩
    refine ⟨fun ht => ?_, fun ht => ?_⟩
    · have ht : i < x.Kids.length := by have := of_decide_eq_true ht; omega
      have hw2 : w64 ((i : Int) + 1) = ((i + 1 : Nat) : Int) := w64_id (by omega) (by omega)
      rw [hw2]
      refine ⟨by omega, by omega, _, ?_, ⟨i + 1, rfl, by omega, rfl⟩, by dsimp only; omega⟩
      rw [gd_nat ht]
      have := ih _ (List.getElem_mem ht) (hk _ (List.getElem_mem ht)) (hrk _ (List.getElem_mem ht)) (Tx s ((x.Kids.take i).foldl (fun o y => gCat o (gof y)) gEmpty) F)
      refine st_congr this fun j hj => ?_
      rw [foldl_take_succ ht]
      constructor
      · rintro ⟨l, hl, ⟨i0, h0, hf, h1⟩, h2⟩
        exact ⟨i0, h0, hf, (acc_cat (canon_catF _ _ canon_empty)).2 ⟨l, h1, h2⟩⟩
      · rintro ⟨i0, h0, hf, ha⟩
        obtain ⟨l, h1, h2⟩ := (acc_cat (canon_catF _ _ canon_empty)).1 ha
        exact ⟨l, (acc_le h1 h0).2, ⟨i0, h0, hf, h1⟩, h2⟩
    · have ht : i = x.Kids.length := by have := of_decide_eq_false ht; omega
      subst ht
      rw [bl_copy, List.take_of_length_le (Nat.le_refl _), gof_k3 h3]
  · have h4 : x.Kind = 4 := by simpa using h4
    refine ⟨fun now t => ∃ i : Nat, t = i ∧ i ≤ x.Kids.length ∧ now = bl s.size (Tx s ((x.Kids.take i).foldl (fun o y => gAlt o (gof y)) gNone) F), fun _ t => (x.Kids.length - t).toNat, ⟨0, rfl, by omega, ?_⟩, ?_⟩
    · rw [hlen, bl_none]
      exact bl_congr fun j hj => ⟨fun h => h.elim, fun ⟨_, _, _, ha⟩ => acc_none ha⟩
    rintro now t ⟨i, rfl, hi, rfl⟩
    refine ⟨fun ht => ?_, fun ht => ?_⟩
    · have ht : i < x.Kids.length := by have := of_decide_eq_true ht; omega
      have hw2 : w64 ((i : Int) + 1) = ((i + 1 : Nat) : Int) := w64_id (by omega) (by omega)
      rw [hw2]
      refine ⟨by omega, by omega, bl s.size (Tx s (gof x.Kids[i]) F), ?_, _, or_ok (by omega) _ _, ⟨i + 1, rfl, by omega, ?_⟩, by dsimp only; omega⟩
      · rw [gd_nat ht]
        exact ih _ (List.getElem_mem ht) (hk _ (List.getElem_mem ht)) (hrk _ (List.getElem_mem ht)) F
      · refine bl_congr fun j hj => ?_
        rw [foldl_take_succ ht]
        constructor
        · rintro (⟨i0, h0, hf, ha⟩ | ⟨i0, h0, hf, ha⟩)
          · exact ⟨i0, h0, hf, (acc_alt (canon_altF _ _ canon_none)).2 (.inl ha)⟩
          · exact ⟨i0, h0, hf, (acc_alt (canon_altF _ _ canon_none)).2 (.inr ha)⟩
        · rintro ⟨i0, h0, hf, ha⟩
          exact ((acc_alt (canon_altF _ _ canon_none)).1 ha).imp (fun h => ⟨i0, h0, hf, h⟩) fun h => ⟨i0, h0, hf, h⟩
    · have ht : i = x.Kids.length := by have := of_decide_eq_false ht; omega
      subst ht
      rw [List.take_of_length_le (Nat.le_refl _), gof_k4 h4]
  · have h5 : x.Kind = 5 := by simpa using h5
    obtain ⟨⟨k, hkk⟩, hlo0, hlo1, hhi⟩ := own_rep ho h5
    have hkm : k ∈ x.Kids := by rw [hkk]; exact List.mem_cons_self ..
    have hkid := ih k hkm (hk k hkm) (hrk k hkm)
    have hkd : List.getD x.Kids 0 default = k := by rw [hkk]; rfl
    have hkl : 0 < x.Kids.length := by rw [hkk]; simp
    rw [hkd]
    refine ⟨_, refSize_ok x hw, fun hz => ?_, fun hz => ?_⟩
    · have hz : sizeN x = 0 := by simp only [sizeZ, beq_iff_eq] at hz; omega
      rw [bl_copy1, gof_zero hr hz]
      refine bl_congr fun j hj => ⟨?_, fun h => ⟨j, hj, h, acc_empty.2 rfl⟩⟩
      rintro ⟨i, _, hf, ha⟩
      cases acc_empty.1 ha; exact hf
    obtain ⟨S, hS⟩ : ∃ S : Nat → Nat → Prop, S = fun m j => ∃ i, i ≤ s.size ∧ F i ∧ pow (acc s.size (bt s) (gof k)) m i j := ⟨_, rfl⟩
    have hSle : ∀ m j, S m j → j ≤ s.size := by
      intro m j h; rw [hS] at h; obtain ⟨i, h0, _, h1⟩ := h; exact pow_le h1 h0
    have hstep : ∀ m, C_heckleref05_step k s (bl s.size (S m)) (bl s.size (S (m + 1))) := by
      intro m
      refine st_congr (hkid (S m)) fun j hj => ?_
      rw [hS]
      constructor
      · rintro ⟨l, hl, ⟨i0, h0, hf, h1⟩, h2⟩
        exact ⟨i0, h0, hf, l, h1, h2⟩
      · rintro ⟨i0, h0, hf, l, h1, h2⟩
        exact ⟨l, pow_le h1 h0, ⟨i0, h0, hf, h1⟩, h2⟩
    have hSs : ∀ m j, S (m + 1) j ↔ ∃ l, S m l ∧ acc s.size (bt s) (gof k) l j := by
      intro m j; rw [hS]
      constructor
      · rintro ⟨i0, h0, hf, l, h1, h2⟩; exact ⟨l, ⟨i0, h0, hf, h1⟩, h2⟩
      · rintro ⟨l, ⟨i0, h0, hf, h1⟩, h2⟩; exact ⟨i0, h0, hf, l, h1, h2⟩
    obtain ⟨lo, hlo⟩ : ∃ lo : Nat, x.Lo = lo := ⟨x.Lo.toNat, by omega⟩
    obtain ⟨U, hU⟩ : ∃ U : Nat → Nat → Prop, U = fun m j => ∃ q, q ≤ m ∧ S (lo + q) j := ⟨_, rfl⟩
    have hhi' : x.Hi = -1 ∨ 1 ≤ x.Hi ∧ x.Lo ≤ x.Hi := hhi.imp id fun h => ⟨h.1, h.2.1⟩
    have hT : ∀ j, Tx s (gof x) F j ↔ ∃ q : Nat, (x.Hi < 0 ∨ x.Lo + (q : Nat) ≤ x.Hi) ∧ S (lo + q) j := by
      intro j
      have e : x.Lo.toNat = lo := by omega
      rw [gof_k5 h5 hkk, hS]
      constructor
      · rintro ⟨i, hi, hf, ha⟩
        obtain ⟨q, h1, h2⟩ := (acc_rep (canon_gof k) hlo0 hhi').1 ha
        rw [e] at h2
        exact ⟨q, h1, i, hi, hf, h2⟩
      · rintro ⟨q, h1, i, hi, hf, h2⟩
        exact ⟨i, hi, hf, (acc_rep (canon_gof k) hlo0 hhi').2 ⟨q, h1, by rw [e]; exact h2⟩⟩
    have hfin : ∀ m : Nat, (x.Hi < 0 ∨ x.Lo + (m : Nat) ≤ x.Hi) → (∀ q : Nat, (x.Hi < 0 ∨ x.Lo + (q : Nat) ≤ x.Hi) → ∀ j, S (lo + q) j → U m j) → bl s.size (Tx s (gof x) F) = bl s.size (U m) := by
      intro m hm hq
      refine bl_congr fun j hj => ?_
      rw [hT]
      constructor
      · rintro ⟨q, h1, h2⟩; exact hq q h1 j h2
      · intro h
        rw [hU] at h
        obtain ⟨q, h1, h2⟩ := h
        exact ⟨q, by omega, h2⟩
    refine ⟨fun now t => ∃ m : Nat, t = m ∧ m ≤ lo ∧ now = bl s.size (S m), fun _ t => (lo - t).toNat, ⟨0, rfl, by omega, ?_⟩, ?_⟩
    · refine bl_congr fun j hj => ?_
      rw [hS]
      constructor
      · exact fun h => ⟨j, hj, h, rfl⟩
      · rintro ⟨i, _, hf, e⟩; cases e; exact hf
    rintro now t ⟨m, rfl, hm, rfl⟩
    refine ⟨fun ht => ?_, fun ht => ?_⟩
    · have ht : m < lo := by have := of_decide_eq_true ht; omega
      have hw2 : w64 ((m : Int) + 1) = ((m + 1 : Nat) : Int) := w64_id (by omega) (by omega)
      rw [hw2]
      exact ⟨hkl, _, hstep m, ⟨m + 1, rfl, by omega, rfl⟩, by dsimp only; omega⟩
    have ht : m = lo := by have := of_decide_eq_false ht; omega
    subst ht
    rw [bl_copy]
    refine ⟨fun most => (x.Hi < 0 → most = s.size + 1) ∧ (¬ x.Hi < 0 → most = x.Hi - x.Lo), fun most hmost => ⟨fun most => (0 ≤ most ∧ most ≤ 100000) ∧ (x.Hi < 0 → most = s.size + 1 ∨ clo k = true ∧ ((1 ≤ m ∧ most = 0) ∨ (m = 0 ∧ most = 1))) ∧ (¬ x.Hi < 0 → most = x.Hi - x.Lo), fun most hm3 => ?_, fun hh => ⟨fun _ => hkl, _, closed_ok k, fun hc => ?_, fun hc => ?_⟩, fun hh => ?_⟩, fun hh => ?_, fun hh => ?_⟩
    · obtain ⟨⟨hm0, hm1⟩, hmA, hmB⟩ := hm3
      refine ⟨fun out now t => ∃ q : Nat, t = q ∧ (q : Int) ≤ most ∧ now = bl s.size (S (m + q)) ∧ out = bl s.size (U q) ∧ q ≤ cntB (U q) (s.size + 1), fun _ _ t => (most - t).toNat, ⟨0, rfl, by omega, rfl, ?_, by omega⟩, ?_⟩
      · refine bl_congr fun j hj => ?_
        rw [hU]
        constructor
        · exact fun h => ⟨0, Nat.le_refl _, h⟩
        · rintro ⟨q, h1, h2⟩
          obtain rfl : q = 0 := by omega
          exact h2
      rintro out now t ⟨q, rfl, hq, rfl, rfl, hcnt⟩
      have hmle : ∀ q : Nat, (q : Int) ≤ most → x.Hi < 0 ∨ x.Lo + (q : Nat) ≤ x.Hi := by
        intro q hq
        by_cases hh : x.Hi < 0
        · exact .inl hh
        · have := hmB hh; exact .inr (by omega)
      refine ⟨fun ht => ?_, fun ht => ?_⟩
      · have ht : (q : Int) < most := of_decide_eq_true ht
        have hw2 : w64 ((q : Int) + 1) = ((q + 1 : Nat) : Int) := w64_id (by omega) (by omega)
        rw [hw2]
        refine ⟨hkl, _, hstep (m + q), @decide (∀ j, j ≤ s.size → S (m + q + 1) j → U q j) (Classical.propDecidable _), within_ok (by omega) _ _ _ (by simp), fun hb => ?_, fun hb => ⟨_, or_ok (by omega) _ _, ⟨q + 1, rfl, by omega, rfl, ?_, ?_⟩, by dsimp only; omega⟩⟩
        · have hb : ∀ j, j ≤ s.size → S (m + q + 1) j → U q j := by simpa using hb
          suffices main : ∀ q2 j, S (m + q2) j → U q j from hfin q (hmle q (by omega)) fun q2 _ => main q2
          intro q2
          induction q2 with
          | zero => intro j h; rw [hU]; exact ⟨0, by omega, h⟩
          | succ q2 ih2 =>
            intro j h
            obtain ⟨l, h1, h2⟩ := (hSs (m + q2) j).1 h
            have h3 := ih2 l h1
            rw [hU] at h3
            obtain ⟨q3, h4, h5⟩ := h3
            have h6 : S (m + q3 + 1) j := (hSs _ _).2 ⟨l, h5, h2⟩
            by_cases hq3 : q3 = q
            · subst hq3; exact hb j (hSle _ _ h6) h6
            · rw [hU]; exact ⟨q3 + 1, by omega, h6⟩
        · refine bl_congr fun j hj => ?_
          rw [hU]
          constructor
          · rintro (⟨q3, h1, h2⟩ | h)
            · exact ⟨q3, by omega, h2⟩
            · exact ⟨q + 1, by omega, h⟩
          · rintro ⟨q3, h1, h2⟩
            by_cases hq3 : q3 = q + 1
            · subst hq3; exact .inr h2
            · exact .inl ⟨q3, by omega, h2⟩
        · have hb : ¬ ∀ j, j ≤ s.size → S (m + q + 1) j → U q j := by simpa using hb
          have : ∃ j, j < s.size + 1 ∧ ¬ U q j ∧ U (q + 1) j := by
            refine Classical.byContradiction fun hno => hb fun j hj h => ?_
            refine Classical.byContradiction fun hu => hno ⟨j, by omega, hu, ?_⟩
            rw [hU]; exact ⟨q + 1, by omega, h⟩
          have := cntB_lt (s.size + 1) (fun j _ h => by
            rw [hU] at h ⊢
            obtain ⟨q3, h1, h2⟩ := h
            exact ⟨q3, by omega, h2⟩) this
          omega
      · have ht : (q : Int) = most := by have := of_decide_eq_false ht; omega
        refine hfin q (hmle q (by omega)) fun q2 hq2 j hj => ?_
        by_cases hh : x.Hi < 0
        · rcases hmA hh with hA | ⟨hc, hA⟩
          · exact cntB_full (s.size + 1) (by omega) j (by have := hSle _ _ hj; omega)
          · have htr : ∀ i l j, acc s.size (bt s) (gof k) i l → acc s.size (bt s) (gof k) l j → acc s.size (bt s) (gof k) i j := fun i l j => clo_trans (hrk k hkm) hc
            rw [hU]
            rw [hS] at hj ⊢
            obtain ⟨i, hi, hf, hp⟩ := hj
            rcases hA with ⟨hm1, hA⟩ | ⟨hm0, hA⟩
            · obtain ⟨n, rfl⟩ : ∃ n, m = n + 1 := ⟨m - 1, by omega⟩
              rw [show n + 1 + q2 = n + (q2 + 1) by omega] at hp
              obtain ⟨l, p1, p2⟩ := pow_add.1 hp
              exact ⟨0, by omega, i, hi, hf, l, p1, pow_trans htr p2⟩
            · subst hm0
              cases q2 with
              | zero => exact ⟨0, by omega, i, hi, hf, hp⟩
              | succ q2 =>
                rw [Nat.zero_add] at hp
                exact ⟨1, by omega, i, hi, hf, pow_one.2 (pow_trans htr hp)⟩
        · rw [hU]
          have := hmB hh
          exact ⟨q2, by omega, hj⟩
    · have hh : x.Hi < 0 := of_decide_eq_true hh
      have hw3 : w64 (1 - x.Lo) = 1 - x.Lo := w64_id (by omega) (by omega)
      rw [hw3]
      refine ⟨by split <;> omega, fun _ => .inr ⟨hc, ?_⟩, fun h => absurd hh h⟩
      by_cases h1 : 1 ≤ m
      · exact .inl ⟨h1, by rw [if_neg (by omega)]⟩
      · exact .inr ⟨by omega, by rw [if_pos (by omega)]; omega⟩
    · have hh : x.Hi < 0 := of_decide_eq_true hh
      have := hmost.1 hh
      exact ⟨by omega, fun _ => .inl this, fun h => absurd hh h⟩
    · have hh : ¬ x.Hi < 0 := of_decide_eq_false hh
      have := hmost.2 hh
      exact ⟨by omega, fun h => absurd h hh, fun _ => this⟩
    · have hh : x.Hi < 0 := of_decide_eq_true hh
      exact ⟨fun _ => by rw [hlen]; omega, fun h => absurd hh h⟩
    · have hh : ¬ x.Hi < 0 := of_decide_eq_false hh
      exact ⟨fun h => absurd h hh, fun _ => w64_id (by omega) (by omega)⟩
  · have e1 : x.Kind ≠ 1 := by simpa using h1
    have e2 : x.Kind ≠ 2 := by simpa using h2
    have e3 : x.Kind ≠ 3 := by simpa using h3
    have e4 : x.Kind ≠ 4 := by simpa using h4
    have e5 : x.Kind ≠ 5 := by simpa using h5
    omega
end Go.Ev.Pl

set_option linter.unusedSimpArgs false
set_option linter.unusedVariables false
namespace Go.Ev.Pl
open Go Go.Ev
theorem may_ok (x : api_Rx) (s : ByteArray) (hw : Wf x) (hr : rightB x = true) (hs : s.size ≤ 10000) : C_heckleref05_May x s true :=
  W_heckleref05_May x s _ ⟨_, refRightAll_ok x hw, by rw [hr, Bool.true_and]; exact (decide_eq_true (by omega)).symm⟩
theorem lst_succ (n : Nat) (p : Nat → Bool) : lst (n + 1) p 0 = lst n p 0 ++ if p n = true then [(n : Int)] else [] := by
  unfold lst
  rw [List.range_succ, List.filter_append, List.map_append]
  by_cases h : p n = true
  · simp [h]
  · simp [h]
noncomputable def accB (s : ByteArray) (g : GA) (j : Nat) : Bool := @decide (acc s.size (bt s) g 0 j) (Classical.propDecidable _)
theorem accB_iff {s : ByteArray} {g : GA} {j : Nat} : accB s g j = true ↔ acc s.size (bt s) g 0 j := by simp [accB]
theorem ends_ok (x : api_Rx) (s : ByteArray) (hw : Wf x) (hr : rightB x = true) (hs : s.size ≤ 10000) : C_heckleref05_Ends x s 0 (lst (s.size + 1) (accB s (gof x)) 0) := by
  have hw1 : w64 ((s.size : Int) + 1) = ((s.size + 1 : Nat) : Int) := w64_id (by omega) (by omega)
  have e0 : List.set (List.replicate (s.size + 1) false) 0 true = bl s.size fun j => j = 0 := by
    rw [bl_none, bl_set true (Nat.zero_le _)]
    exact bl_congr fun j hj => by by_cases h : j = 0 <;> simp [h]
  have hstep := st_congr (step_ok s (by omega) x hw (size_of_right hr).1 fun j => j = 0) (Q := fun j => acc s.size (bt s) (gof x) 0 j) fun j hj =>
    ⟨fun ⟨i, _, e, h⟩ => e ▸ h, fun h => ⟨0, by omega, rfl, h⟩⟩
  refine W_heckleref05_Ends x s 0 _ ⟨true, may_ok x s hw hr hs, fun h => ?_, fun _ => ?_⟩
  · have : ¬ ((0 : Int) > (s.size : Int)) := by omega
    simp [this] at h
  rw [hw1, Int.toNat_natCast]
  refine ⟨⟨by omega, by omega, by omega, by omega⟩, by omega, by simp, by simp, _, (by rw [show (0 : Int).toNat = 0 from rfl, e0]; exact hstep), ?_⟩
  rw [bl_len]
  refine ⟨fun out t => ∃ i : Nat, t = i ∧ i ≤ s.size + 1 ∧ out = lst i (accB s (gof x)) 0, fun _ t => (s.size + 1 - t).toNat, ⟨0, rfl, by omega, rfl⟩, ?_⟩
  rintro out t ⟨i, rfl, hi, rfl⟩
  refine ⟨fun ht => ?_, fun ht => ?_⟩
  · have ht : i < s.size + 1 := by have := of_decide_eq_true ht; omega
    have hw2 : w64 ((i : Int) + 1) = ((i + 1 : Nat) : Int) := w64_id (by omega) (by omega)
    have hll := lst_len i (accB s (gof x)) 0
    have hs2 := lst_succ i (accB s (gof x))
    refine ⟨fun o => o = lst (i + 1) (accB s (gof x)) 0, fun o ho => ⟨by rw [hw2]; exact ⟨i + 1, rfl, by omega, ho⟩, by rw [hw2]; first | omega | (dsimp only; omega)⟩, by omega, by omega, fun hg => ⟨by omega, ?_⟩, fun hg => ?_⟩
    · have hg := accB_iff.2 ((bl_gd (by omega)).1 hg)
      rw [hs2, if_pos hg]
    · have hg : ¬ accB s (gof x) i = true := fun e => (bl_gdf (by omega)).1 hg (accB_iff.1 e)
      rw [hs2, if_neg hg, List.append_nil]
  · have ht : i = s.size + 1 := by have := of_decide_eq_false ht; omega
    subst ht; rfl
theorem match_ok (x : api_Rx) (s : ByteArray) (hw : Wf x) (hr : rightB x = true) (hs : s.size ≤ 10000) : C_heckleref05_Match x s (accB s (gof x) s.size) := by
  have hll := lst_len (s.size + 1) (accB s (gof x)) 0
  obtain ⟨l, hl⟩ : ∃ l, l = lst (s.size + 1) (accB s (gof x)) 0 := ⟨_, rfl⟩
  have hE := ends_ok x s hw hr hs
  rw [← hl] at hll hE
  have hwm : 0 < l.length → w64 ((l.length : Int) - 1) = ((l.length - 1 : Nat) : Int) := fun h => (w64_id (by omega) (by omega)).trans (by omega)
  refine W_heckleref05_Match x s _ ⟨l, hE, fun h => ?_, fun h => ?_, fun h => ?_, ?_⟩
  · have h : 0 < l.length := by simpa using h
    rw [hwm h]; omega
  · have h : 0 < l.length := by simpa using h
    rw [hwm h, Int.toNat_natCast]; omega
  · have h : 0 < l.length := by simpa using h
    rw [hwm h]; omega
  · by_cases h0 : 0 < l.length
    · rw [hwm h0, gd_nat (by omega), decide_eq_true (by omega), Bool.true_and]
      have hlast := List.getElem_mem (l := l) (n := l.length - 1) (by omega)
      rw [Bool.eq_iff_iff, beq_iff_eq]
      constructor
      · intro ha
        have : l = lst s.size (accB s (gof x)) 0 ++ [(s.size : Int)] := by rw [hl, lst_succ, if_pos ha]
        simp [this]
      · intro he
        rw [he, hl] at hlast
        obtain ⟨i, _, hp, hi⟩ := lst_mem.1 hlast
        have : i = s.size := by omega
        subst this; exact hp
    · rw [decide_eq_false (by omega), Bool.false_and]
      cases ha : accB s (gof x) s.size with
      | false => rfl
      | true =>
        have : l = lst s.size (accB s (gof x)) 0 ++ [(s.size : Int)] := by rw [hl, lst_succ, if_pos ha]
        rw [this] at h0; simp at h0
abbrev alph : ByteArray := { data := #[(97 : UInt8), (97 : UInt8), (98 : UInt8), (98 : UInt8), (99 : UInt8), (99 : UInt8), (45 : UInt8), (90 : UInt8), (10 : UInt8), (48 : UInt8), (0 : UInt8), (255 : UInt8)] }
def txt (l : List Int) : Nat → ByteArray
  | 0 => { data := #[] }
  | n + 1 => txt l n ++ ByteArray.extract alph (Int.toNat (Int.tmod (w64 (gd l n)) 12)) (Int.toNat (w64 (Int.tmod (w64 (gd l n)) 12 + 1)))
theorem text_ok (l : List Int) (hb : Bytes l) : ∃ s, C_hecklelaw05_Text l s ∧ s.size ≤ 12 := by
  have hal : alph.size = 12 := by rfl
  have one : ∀ i, i < l.length → 0 ≤ Int.tmod (w64 (gd l (i : Int))) 12 ∧ w64 (Int.tmod (w64 (gd l (i : Int))) 12 + 1) = Int.tmod (w64 (gd l (i : Int))) 12 + 1 ∧ Int.tmod (w64 (gd l (i : Int))) 12 < 12 := by
    intro i hi
    obtain ⟨h0, h1⟩ := hb _ (List.getElem_mem hi)
    rw [gd_nat hi, w64_id (by omega) (by omega)]
    have h2 := Int.tmod_nonneg (a := l[i]) 12 h0
    have h3 := Int.tmod_lt_of_pos l[i] (show (0 : Int) < 12 by omega)
    exact ⟨h2, w64_id (by omega) (by omega), h3⟩
  have hsz : ∀ n, n ≤ l.length → (txt l n).size = n := by
    intro n
    induction n with
    | zero => intro _; rfl
    | succ n ih =>
      intro hn
      obtain ⟨h1, h2, h3⟩ := one n (by omega)
      rw [txt, ByteArray.size_append, ih (by omega), ByteArray.size_extract, h2, hal]
      omega
  refine ⟨txt l (min 12 l.length), ?_, by rw [hsz _ (Nat.min_le_right _ _)]; exact Nat.min_le_left _ _⟩
  refine W_hecklelaw05_Text l _ ⟨fun s t => ∃ i : Nat, t = i ∧ i ≤ min 12 l.length ∧ s = txt l i, fun _ t => (12 - t).toNat, ⟨0, rfl, by omega, rfl⟩, ?_⟩
  rintro s t ⟨i, rfl, hi, rfl⟩
  rw [List.length_map]
  refine ⟨fun ht => ?_, fun ht => ?_⟩
  · simp only [Bool.and_eq_true, decide_eq_true_eq] at ht
    have hil : i < l.length := by omega
    obtain ⟨h1, h2, h3⟩ := one i hil
    have hw2 : w64 ((i : Int) + 1) = ((i + 1 : Nat) : Int) := w64_id (by omega) (by omega)
    refine ⟨by omega, by omega, by omega, by omega, ⟨h1, by rw [h2]; omega, by rw [h2]; omega, ?_⟩, ?_, ?_, ?_⟩
    · rw [h2]; show _ ≤ 12; omega
    · rw [hsz i (by omega), show ByteArray.size (ByteArray.extract _ _ _) = _ from ByteArray.size_extract, h2, show IntKind.max IntKind.i64 = 9223372036854775807 by decide]
      show (((i + (min _ 12 - _) : Nat)) : Int) ≤ _
      omega
    · rw [hw2]; exact ⟨i + 1, rfl, by omega, rfl⟩
    · rw [hw2]; first | omega | (dsimp only; omega)
  · simp only [Bool.and_eq_false_iff, decide_eq_false_iff_not] at ht
    have : i = min 12 l.length := by omega
    rw [this]
end Go.Ev.Pl

set_option linter.unusedSimpArgs false
set_option linter.unusedVariables false
namespace Go.Ev.Pl
open Go Go.Ev
section
variable (N : Nat) (B : Nat → Int)
def Rch (g : GA) : Nat → Nat → Prop
  | 0, p => g.first p = true
  | m + 1, q => ∃ p, Rch g m p ∧ hdS N B g.sets p m ∧ g.follow p q = true
variable {N B}
theorem rch_acc {g : GA} : ∀ {m : Nat}, m < N → (acc N B g 0 N ↔ ∃ p, Rch N B g m p ∧ Pth N B g.sets g.last g.follow p m N)
  | 0, h => by
    constructor
    · rintro (⟨_, e⟩ | h)
      · omega
      · exact h
    · exact fun h => .inr h
  | m + 1, h => by
    rw [rch_acc (show m < N by omega)]
    constructor
    · rintro ⟨p, h1, h2⟩
      cases h2 with
      | last => omega
      | step hd hf hp => exact ⟨_, ⟨p, h1, hd, hf⟩, hp⟩
    · rintro ⟨q, ⟨p, h1, hd, hf⟩, hp⟩
      exact ⟨p, h1, .step hd hf hp⟩
theorem rch_last {g : GA} {m : Nat} (h : m + 1 = N) : acc N B g 0 N ↔ ∃ p, Rch N B g m p ∧ hdS N B g.sets p m ∧ g.last p = true := by
  rw [rch_acc (show m < N by omega)]
  constructor
  · rintro ⟨p, h1, h2⟩
    cases h2 with
    | last hd hl => exact ⟨p, h1, hd, hl⟩
    | step hd hf hp => have := pth_lt hp; omega
  · rintro ⟨p, h1, hd, hl⟩
    refine ⟨p, h1, ?_⟩
    rw [← h]; exact .last (by rw [h]; exact hd) hl
end
theorem empty_text (s : ByteArray) : (ByteArray.toList s == ByteArray.toList { data := #[] }) = true ↔ s.size = 0 := by
  rw [beq_iff_eq, ByteArray.toList_eq, ByteArray.toList_eq]
  constructor
  · intro h
    have := congrArg List.length h
    simpa using this
  · intro h
    have : s.data.size = 0 := h
    simp only [Array.toList_eq_nil_iff]
    exact Array.eq_empty_of_size_eq_zero this
theorem lst_add {n : Nat} {p q r : Nat → Bool} (h : ∀ i, i < n → (r i = true ↔ p i = true ∨ q i = true)) : addL (lst n p 0) (lst n q 0) = lst n r 0 := by
  refine ss_ext (addL_ss (lst_ss _ _ _) (lst_ss _ _ _)) (lst_ss _ _ _) fun x => ?_
  rw [addL_mem, lst_mem, lst_mem, lst_mem]
  constructor
  · rintro (⟨i, hi, hp, rfl⟩ | ⟨i, hi, hp, rfl⟩)
    · exact ⟨i, hi, (h i hi).2 (.inl hp), rfl⟩
    · exact ⟨i, hi, (h i hi).2 (.inr hp), rfl⟩
  · rintro ⟨i, hi, hp, rfl⟩
    exact ((h i hi).1 hp).imp (fun h => ⟨i, hi, h, rfl⟩) fun h => ⟨i, hi, h, rfl⟩
theorem mem_take_succ {α : Type} {l : List α} {i : Nat} (h : i < l.length) (v : α) : v ∈ l.take (i + 1) ↔ v ∈ l.take i ∨ v = l[i] := by
  rw [List.take_succ_eq_append_getElem h, List.mem_append, List.mem_singleton]
theorem placeMatch_ok (l t : List Int) (hb : Bytes l) (hb2 : Bytes t) : C_hecklelaw09_PlaceMatch l t true := by
  obtain ⟨x, hx, hf⟩ := made_ok l hb
  obtain ⟨s, hs, hsz⟩ := text_ok t hb2
  have hP := placeOf_ok x hf.wf
  rw [if_pos hf.right, if_pos hf.right] at hP
  obtain ⟨hr, hs200⟩ := size_of_right hf.right
  have hM := match_ok x s hf.wf hf.right (by omega)
  have hn := gof_n x hr
  have hca := canon_gof x
  obtain ⟨g, hg⟩ : ∃ g, g = gof x := ⟨_, rfl⟩
  rw [← hg] at hP hM hn hca
  have hS : (plc g).Sets.length = g.n := hca.sets
  have hF : (plc g).Follow.length = g.n := flw_len _ _
  refine W_hecklelaw09_PlaceMatch l t _ ⟨true, awake_ok, fun h => (by cases h), fun _ => ⟨x, hx, s, hs, _, _, hP, fun h => ?_, fun _ => ?_⟩⟩
  · rw [hS, hF] at h; simp at h
  rw [hS]
  refine ⟨fun is next i => ∃ m : Nat, i = m ∧ m ≤ s.size ∧ (is = true ↔ m = s.size ∧ acc s.size (bt s) g 0 s.size) ∧ ∃ q : Nat → Bool, (∀ p, p < g.n → (q p = true ↔ Rch s.size (bt s) g m p)) ∧ next = lst g.n q 0,
    fun _ _ i => (s.size - i).toNat, ⟨0, rfl, by omega, ?_, g.first, fun p _ => Iff.rfl, rfl⟩, ?_⟩
  · show (g.null && _) = true ↔ _
    rw [Bool.and_eq_true, empty_text]
    constructor
    · rintro ⟨h1, h2⟩; rw [h2]; exact ⟨rfl, .inl ⟨h1, rfl⟩⟩
    · rintro ⟨h1, h2⟩
      rw [← h1] at h2
      rcases h2 with ⟨h2, _⟩ | ⟨p, _, h2⟩
      · exact ⟨h2, h1.symm⟩
      · have := pth_lt h2; omega
  rintro is next i ⟨m, rfl, hm, his, q, hq, hnext⟩
  refine ⟨fun ht => ?_, fun ht => ⟨fun _ => ⟨_, hM, ?_⟩, fun h => (by cases h)⟩⟩
  rotate_left
  · have ht : m = s.size := by have := of_decide_eq_false ht; omega
    have : is = accB s g s.size := by rw [Bool.eq_iff_iff, his, accB_iff]; exact ⟨fun h => h.2, fun h => ⟨ht, h⟩⟩
    rw [this]; simp
  have ht : m < s.size := by have := of_decide_eq_true ht; omega
  have his : is = false := by
    cases is with
    | false => rfl
    | true => have := (his.1 rfl).1; omega
  have hll := lst_len g.n q 0
  rw [← hnext] at hll
  have hel : ∀ (k : Nat) (hk : k < next.length), ∃ p, p < g.n ∧ next[k] = ((p : Nat) : Int) ∧ Rch s.size (bt s) g m p := by
    intro k hk
    have hm1 : ∀ v, v ∈ next → v ∈ lst g.n q 0 := fun v hv => by rw [← hnext]; exact hv
    obtain ⟨p, hp, hq2, e⟩ := lst_mem.1 (hm1 _ (List.getElem_mem hk))
    exact ⟨p, hp, e, (hq p hp).1 hq2⟩
  have hmem : ∀ p, p < g.n → (((p : Nat) : Int) ∈ next ↔ Rch s.size (bt s) g m p) := by
    intro p hp
    rw [hnext, lst_mem, ← hq p hp]
    constructor
    · rintro ⟨i, hi, hqi, e⟩
      obtain rfl : i = p := by omega
      exact hqi
    · exact fun h => ⟨p, hp, h, by omega⟩
  have hw2 : w64 ((m : Int) + 1) = ((m + 1 : Nat) : Int) := w64_id (by omega) (by omega)
  have hwN : w64 ((s.size : Int) - 1) = ((s.size - 1 : Nat) : Int) := (w64_id (by omega) (by omega)).trans (by omega)
  refine ⟨fun now thn k => ∃ c : Nat, k = c ∧ c ≤ next.length ∧ now.length ≤ c ∧ (∀ v, v ∈ now ↔ v ∈ next.take c ∧ ∃ p : Nat, v = p ∧ hdS s.size (bt s) g.sets p m) ∧
      ∃ w : Nat → Bool, thn = lst g.n w 0 ∧ ∀ r, r < g.n → (w r = true ↔ ∃ p : Nat, ((p : Nat) : Int) ∈ next.take c ∧ hdS s.size (bt s) g.sets p m ∧ g.follow p r = true),
    fun _ _ k => (next.length - k).toNat, ⟨0, rfl, by omega, by simp, fun v => by simp, fun _ => false, (lst_none _ _).symm, fun r _ => by simp⟩, ?_⟩
  rintro now thn k ⟨c, rfl, hc, hnl, hnow, w, rfl, hw⟩
  refine ⟨fun hk => ?_, fun hk => ?_⟩
  · have hk : c < next.length := by have := of_decide_eq_true hk; omega
    have hw3 : w64 ((c : Int) + 1) = ((c + 1 : Nat) : Int) := w64_id (by omega) (by omega)
    obtain ⟨p, hp, ep, hR⟩ := hel c hk
    have hdp : hdS s.size (bt s) g.sets p m ↔ setHas (g.sets[p]'(by rw [hca.sets]; exact hp)) (bt s m) = true := by
      constructor
      · rintro ⟨_, st, h1, h2⟩
        rw [List.getElem?_eq_getElem (by rw [hca.sets]; exact hp)] at h1
        cases h1; exact h2
      · exact fun h => ⟨ht, _, List.getElem?_eq_getElem (by rw [hca.sets]; exact hp), h⟩
    have hgs : gd (plc g).Sets ((p : Nat) : Int) = g.sets[p]'(by rw [hca.sets]; exact hp) := gd_nat (l := g.sets) (by rw [hca.sets]; exact hp)
    have hgf : gd (plc g).Follow ((p : Nat) : Int) = lst g.n (g.follow p) 0 := (gd_nat (l := flw g 0) (by rw [flw_len]; exact hp)).trans (flw_get g 0 hp)
    rw [gd_nat hk, ep, hgs, hgf, hF, hw3]
    refine ⟨fun now' thn' => (now'.length ≤ c + 1) ∧ (∀ v, v ∈ now' ↔ v ∈ next.take (c + 1) ∧ ∃ p : Nat, v = p ∧ hdS s.size (bt s) g.sets p m) ∧
        ∃ w : Nat → Bool, thn' = lst g.n w 0 ∧ ∀ r, r < g.n → (w r = true ↔ ∃ p : Nat, ((p : Nat) : Int) ∈ next.take (c + 1) ∧ hdS s.size (bt s) g.sets p m ∧ g.follow p r = true),
      fun now' thn' h => ⟨⟨c + 1, rfl, by omega, h.1, h.2.1, h.2.2⟩, by first | omega | (dsimp only; omega)⟩, by omega, by omega, fun _ => by omega, fun _ => by omega, fun h => ?_, fun _ => ⟨by omega, by omega, by omega, by omega, by omega, by omega, _, has_ok _ _, fun hh => ?_, fun hh => ?_⟩⟩
    · simp only [Bool.or_eq_true, decide_eq_true_eq] at h; omega
    · have hd := hdp.2 hh
      refine ⟨by omega, by omega, by omega, by omega, by omega, by omega, by omega, _, add_ok _ _ ?_ ?_, ?_, ?_, ?_⟩
      · have := lst_len g.n w 0; omega
      · have := lst_len g.n (g.follow p) 0; omega
      · simp; omega
      · intro v
        rw [List.mem_append, List.mem_singleton, hnow, mem_take_succ hk, ep]
        constructor
        · rintro (⟨h1, h2⟩ | rfl)
          · exact ⟨.inl h1, h2⟩
          · exact ⟨.inr rfl, p, rfl, hd⟩
        · rintro ⟨h1 | h1, h2⟩
          · exact .inl ⟨h1, h2⟩
          · exact .inr h1
      · refine ⟨fun r => w r || g.follow p r, lst_add fun i hi => by rw [Bool.or_eq_true], fun r hr => ?_⟩
        rw [Bool.or_eq_true, hw r hr]
        constructor
        · rintro (⟨p', h1, h2, h3⟩ | h)
          · exact ⟨p', (mem_take_succ hk _).2 (.inl h1), h2, h3⟩
          · exact ⟨p, (mem_take_succ hk _).2 (.inr ep.symm), hd, h⟩
        · rintro ⟨p', h1, h2, h3⟩
          rcases (mem_take_succ hk _).1 h1 with h1 | h1
          · exact .inl ⟨p', h1, h2, h3⟩
          · rw [ep] at h1
            obtain rfl : p' = p := by omega
            exact .inr h3
    · have hd : ¬ hdS s.size (bt s) g.sets p m := fun h => by
        have h2 : setHas (g.sets[p]'(by rw [hca.sets]; exact hp)) (bt s m) = false := hh
        rw [hdp.1 h] at h2; cases h2
      refine ⟨by omega, fun v => ?_, w, rfl, fun r hr => ?_⟩
      · rw [hnow, mem_take_succ hk, ep]
        constructor
        · rintro ⟨h1, h2⟩; exact ⟨.inl h1, h2⟩
        · rintro ⟨h1 | h1, h2⟩
          · exact ⟨h1, h2⟩
          · obtain ⟨p', e, h2⟩ := h2
            obtain rfl : p' = p := by omega
            exact absurd h2 hd
      · rw [hw r hr]
        constructor
        · rintro ⟨p', h1, h2, h3⟩; exact ⟨p', (mem_take_succ hk _).2 (.inl h1), h2, h3⟩
        · rintro ⟨p', h1, h2, h3⟩
          rcases (mem_take_succ hk _).1 h1 with h1 | h1
          · exact ⟨p', h1, h2, h3⟩
          · rw [ep] at h1
            obtain rfl : p' = p := by omega
            exact absurd h2 hd
  · have hk : c = next.length := by have := of_decide_eq_false hk; omega
    subst hk
    rw [List.take_of_length_le (Nat.le_refl _)] at hnow hw
    have hlt : ∀ p : Nat, hdS s.size (bt s) g.sets p m → p < g.n := fun p h => by rw [← hca.sets]; exact hd_lt h
    rw [hw2, hwN, List.length_map]
    refine ⟨fun is2 k => ∃ c : Nat, k = c ∧ c ≤ now.length ∧ (m + 1 = s.size → (is2 = true ↔ ∃ v, v ∈ now.take c ∧ v ∈ lst g.n g.last 0)) ∧ (m + 1 ≠ s.size → is2 = false), fun _ k => (now.length - k).toNat, ⟨0, rfl, by omega, fun _ => by rw [his]; simp, fun _ => his⟩, ?_⟩
    rintro is2 k ⟨c, rfl, hc2, hi1, hi2⟩
    refine ⟨fun hk => ?_, fun hk => ?_⟩
    · simp only [Bool.and_eq_true, decide_eq_true_eq, beq_iff_eq] at hk
      have hmN : m + 1 = s.size := by omega
      have hcl : c < now.length := by omega
      have hw4 : w64 ((c : Int) + 1) = ((c + 1 : Nat) : Int) := w64_id (by omega) (by omega)
      rw [hw4, gd_nat hcl]
      show ∃ (Inv : Bool → Int → Prop) (mu : Bool → Int → Nat), _
      have hLL := lst_len g.n g.last 0
      obtain ⟨L, hL⟩ : ∃ L, L = lst g.n g.last 0 := ⟨_, rfl⟩
      rw [show (plc g).Last = L from hL.symm]
      rw [← hL] at hi1 hLL
      refine ⟨fun is3 j => ∃ d : Nat, j = d ∧ d ≤ L.length ∧ (is3 = true ↔ is2 = true ∨ ∃ u, u ∈ L.take d ∧ u = now[c]), fun _ j => (L.length - j).toNat, ⟨0, rfl, by omega, by simp⟩, ?_⟩
      rintro is3 j ⟨d, rfl, hd, hi3⟩
      refine ⟨fun hj => ?_, fun hj => ?_⟩
      · have hj : d < L.length := by have := of_decide_eq_true hj; omega
        have hw5 : w64 ((d : Int) + 1) = ((d + 1 : Nat) : Int) := w64_id (by omega) (by omega)
        rw [hw5, gd_nat hj]
        refine ⟨fun _ => by omega, fun _ => by omega, fun _ => by omega, fun _ => by rw [Int.toNat_natCast]; exact hcl, fun _ => by omega, ⟨d + 1, rfl, by omega, ?_⟩, by first | omega | (dsimp only; omega)⟩
        rw [Bool.or_eq_true, hi3, beq_iff_eq]
        constructor
        · rintro ((h | ⟨u, h1, h2⟩) | h)
          · exact .inl h
          · exact .inr ⟨u, (mem_take_succ hj _).2 (.inl h1), h2⟩
          · exact .inr ⟨_, (mem_take_succ hj _).2 (.inr rfl), h⟩
        · rintro (h | ⟨u, h1, h2⟩)
          · exact .inl (.inl h)
          · rcases (mem_take_succ hj _).1 h1 with h1 | h1
            · exact .inl (.inr ⟨u, h1, h2⟩)
            · exact .inr (by rw [← h1]; exact h2)
      · have hj : d = L.length := by have := of_decide_eq_false hj; omega
        subst hj
        rw [List.take_of_length_le (Nat.le_refl _)] at hi3
        refine ⟨⟨c + 1, rfl, by omega, fun _ => ?_, fun h => absurd hmN h⟩, by first | omega | (dsimp only; omega)⟩
        rw [hi3, hi1 hmN]
        constructor
        · rintro (⟨v, h1, h2⟩ | ⟨u, h1, h2⟩)
          · exact ⟨v, (mem_take_succ hcl _).2 (.inl h1), by rw [← hL]; exact h2⟩
          · exact ⟨u, (mem_take_succ hcl _).2 (.inr h2), by rw [← hL]; exact h1⟩
        · rintro ⟨v, h1, h2⟩
          rw [← hL] at h2
          rcases (mem_take_succ hcl _).1 h1 with h1 | h1
          · exact .inl ⟨v, h1, h2⟩
          · exact .inr ⟨v, h2, h1⟩
    · refine ⟨⟨m + 1, rfl, by omega, ?_, w, fun r hr => ?_, rfl⟩, by first | omega | (dsimp only; omega)⟩
      · by_cases hmN : m + 1 = s.size
        · have hc3 : c = now.length := by
            simp only [Bool.and_eq_false_iff, decide_eq_false_iff_not, beq_eq_false_iff_ne] at hk
            omega
          subst hc3
          rw [hi1 hmN, List.take_of_length_le (Nat.le_refl _), rch_last hmN]
          constructor
          · rintro ⟨v, h1, h2⟩
            obtain ⟨h3, p, rfl, h4⟩ := (hnow v).1 h1
            obtain ⟨i, hi, hli, e⟩ := lst_mem.1 h2
            obtain rfl : i = p := by omega
            exact ⟨hmN, i, (hmem i (hlt i h4)).1 h3, h4, hli⟩
          · rintro ⟨_, p, h1, h2, h3⟩
            exact ⟨p, (hnow _).2 ⟨(hmem p (hlt p h2)).2 h1, p, rfl, h2⟩, lst_mem.2 ⟨p, hlt p h2, h3, by omega⟩⟩
        · rw [hi2 hmN]
          exact ⟨fun h => (by cases h), fun h => absurd h.1 hmN⟩
      · rw [hw r hr]
        constructor
        · rintro ⟨p, h1, h2, h3⟩
          exact ⟨p, (hmem p (hlt p h2)).1 h1, h2, h3⟩
        · rintro ⟨p, h1, h2, h3⟩
          exact ⟨p, (hmem p (hlt p h2)).2 h1, h2, h3⟩
end Go.Ev.Pl
