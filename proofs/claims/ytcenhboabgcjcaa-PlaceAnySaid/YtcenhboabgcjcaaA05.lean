import Derived.Test.YtcenhboabgcjcaaA04
import Derived.ChangeArms
import Derived.Deep.Slices
set_option linter.unusedSimpArgs false
set_option linter.unusedVariables false
namespace Go.Ev.Pl
open Go Go.Ev
theorem moved_ok (n : Nat) (p : Nat → Bool) (off d : Nat) (h : n + off + d < 1000000) : C_heckleref09_moved (lst n p off) d (lst n p (off + d)) := by
  have hl := lst_len n p off
  have he : lst n p (off + d) = (lst n p off).map (· + (d : Int)) := by
    simp only [lst, List.map_map]
    refine List.map_congr_left fun i _ => ?_
    simp only [Function.comp]; omega
  rw [he]
  refine W_heckleref09_moved _ _ _ ⟨fun o t => ∃ i : Nat, t = i ∧ i ≤ (lst n p off).length ∧ o = ((lst n p off).take i).map (· + (d : Int)), fun o t => ((lst n p off).length - t).toNat, ⟨0, rfl, by omega, rfl⟩, ?_⟩
  rintro o t ⟨i, rfl, hi, rfl⟩
  refine ⟨fun ht => ?_, fun ht => ?_⟩
  · have ht : i < (lst n p off).length := by simpa using ht
    have hm := lst_mem.1 (List.getElem_mem ht)
    obtain ⟨j, hj, _, hv⟩ := hm
    have hw : w64 (gd (lst n p off) (i : Int) + d) = (lst n p off)[i] + d := by rw [gd_nat ht]; exact w64_id (by omega) (by omega)
    have hw2 : w64 ((i : Int) + 1) = ((i + 1 : Nat) : Int) := w64_id (by omega) (by omega)
    rw [hw, hw2]
    refine ⟨by omega, by omega, by simp; omega, ⟨i + 1, rfl, by omega, ?_⟩, by first | omega | (dsimp only; omega)⟩
    rw [List.take_succ_eq_append_getElem ht, List.map_append]; rfl
  · have : i = (lst n p off).length := by have : ¬ i < (lst n p off).length := by simpa using ht
                                          omega
    subst this
    rw [List.take_of_length_le (Nat.le_refl _)]
theorem addL_nil_r : ∀ a, addL a [] = a
  | [] => by rw [addL]
  | x :: a => by rw [addL]; simp
theorem addL_drop_r {a b : List Int} {i k : Nat} (hk : k = b.length) (hi : i < a.length) : addL (a.drop i) (b.drop k) = a[i] :: addL (a.drop (i + 1)) (b.drop k) := by
  subst hk
  rw [List.drop_length, addL_nil_r, addL_nil_r, List.drop_eq_getElem_cons hi]
theorem addL_drop_l {a b : List Int} {i k : Nat} (hi : i = a.length) (hk : k < b.length) : addL (a.drop i) (b.drop k) = b[k] :: addL (a.drop i) (b.drop (k + 1)) := by
  subst hi
  rw [List.drop_length, addL, addL, List.drop_eq_getElem_cons hk]
theorem addL_drop {a b : List Int} {i k : Nat} (hi : i < a.length) (hk : k < b.length) : addL (a.drop i) (b.drop k) = if a[i] < b[k] then a[i] :: addL (a.drop (i + 1)) (b.drop k) else if b[k] < a[i] then b[k] :: addL (a.drop i) (b.drop (k + 1)) else a[i] :: addL (a.drop (i + 1)) (b.drop (k + 1)) := by
  conv => lhs; rw [List.drop_eq_getElem_cons hi, List.drop_eq_getElem_cons hk, addL]
  rw [← List.drop_eq_getElem_cons hi, ← List.drop_eq_getElem_cons hk]
theorem add_ok (a b : List Int) (ha : a.length < 10000000) (hb : b.length < 10000000) : C_heckleref09_Add a b (addL a b) := by
  refine W_heckleref09_Add a b _ ⟨fun o s t => ∃ i k : Nat, s = i ∧ t = k ∧ i ≤ a.length ∧ k ≤ b.length ∧ o.length ≤ i + k ∧ o ++ addL (a.drop i) (b.drop k) = addL a b, fun o s t => (a.length - s).toNat + (b.length - t).toNat, ⟨0, 0, rfl, rfl, by omega, by omega, by simp, rfl⟩, ?_⟩
  rintro o s t ⟨i, k, rfl, rfl, hi, hk, hol, ho⟩
  have hwi : w64 ((i : Int) + 1) = ((i + 1 : Nat) : Int) := w64_id (by omega) (by omega)
  have hwk : w64 ((k : Int) + 1) = ((k + 1 : Nat) : Int) := w64_id (by omega) (by omega)
  simp only [List.length_map]
  refine ⟨fun ht => ?_, fun ht => ?_⟩
  · simp only [Bool.or_eq_true, decide_eq_true_eq] at ht
    have hkb : ((k : Int) == (b.length : Int)) = decide (k = b.length) := by show decide _ = decide _; simp only [decide_eq_decide]; omega
    have hib : ((i : Int) == (a.length : Int)) = decide (i = a.length) := by show decide _ = decide _; simp only [decide_eq_decide]; omega
    have hia : decide ((i : Int) < (a.length : Int)) = decide (i < a.length) := by simp only [decide_eq_decide]; omega
    rw [hkb, hib, hia]
    refine ⟨fun h1 h2 => by omega, fun h1 h2 => by have := of_decide_eq_true h2; omega, fun h1 h2 => by omega, fun h1 h2 => by have := of_decide_eq_false h1; omega, fun h => ?_, fun h => ⟨fun h1 => by omega, fun h1 => ?_, fun h1 => by omega, fun h1 => ?_, fun h2 => ?_, fun h2 => ?_⟩⟩
    · simp only [Bool.or_eq_true, Bool.and_eq_true, decide_eq_true_eq] at h
      have hil : i < a.length := by omega
      rw [gd_nat hil, hwi]
      refine ⟨by omega, by omega, by omega, ⟨i + 1, k, rfl, rfl, by omega, hk, by simp; omega, ?_⟩, by first | omega | (dsimp only; omega)⟩
      rw [← ho, List.append_assoc]
      congr 1
      rcases h with h | ⟨_, h⟩
      · rw [addL_drop_r h hil]; rfl
      · by_cases hkl : k < b.length
        · rw [gd_nat hil, gd_nat hkl] at h
          rw [addL_drop hil hkl, if_pos h]; rfl
        · rw [addL_drop_r (by omega) hil]; rfl
    · simp only [Bool.or_eq_false_iff, decide_eq_false_iff_not] at h; omega
    · have := of_decide_eq_false h1; omega
    · simp only [Bool.or_eq_false_iff, decide_eq_false_iff_not] at h
      have hkl : k < b.length := by omega
      rw [gd_nat hkl, hwk]
      refine ⟨by omega, by omega, by omega, ⟨i, k + 1, rfl, rfl, hi, by omega, by simp; omega, ?_⟩, by first | omega | (dsimp only; omega)⟩
      rw [← ho, List.append_assoc]
      congr 1
      simp only [Bool.or_eq_true, decide_eq_true_eq] at h2
      by_cases hia2 : i = a.length
      · rw [addL_drop_l hia2 hkl]; rfl
      · have hil : i < a.length := by omega
        have h2 : b[k] < a[i] := by
          rcases h2 with h2 | h2
          · exact absurd h2 hia2
          · rw [gd_nat hkl, gd_nat hil] at h2; exact h2
        rw [addL_drop hil hkl, if_neg (by omega), if_pos h2]; rfl
    · simp only [Bool.or_eq_false_iff, decide_eq_false_iff_not, Bool.and_eq_false_iff] at h h2
      have hkl : k < b.length := by omega
      have hil : i < a.length := by omega
      rw [gd_nat hkl, gd_nat hil] at h h2
      rw [gd_nat hil, hwi, hwk]
      refine ⟨by omega, by omega, by omega, ⟨i + 1, k + 1, rfl, rfl, by omega, by omega, by simp; omega, ?_⟩, by first | omega | (dsimp only; omega)⟩
      rw [← ho, List.append_assoc]
      congr 1
      rw [addL_drop hil hkl, if_neg (by rcases h.2 with h | h <;> omega), if_neg h2.2]; rfl
  · simp only [Bool.or_eq_false_iff, decide_eq_false_iff_not] at ht
    have e1 : i = a.length := by omega
    have e2 : k = b.length := by omega
    rw [← ho, e1, e2, List.drop_length, List.drop_length, addL, List.append_nil]
theorem flw_mem {g : GA} {off i : Nat} (h : i < g.n) : gd (flw g off) (i : Int) = lst g.n (g.follow i) off := by rw [gd_nat (by rw [flw_len]; exact h), flw_get _ _ h]
theorem both_ok (a b : GA) (ha : Canon a) (hb : Canon b) (hn : a.n + b.n < 1000) (nb : Bool) (f l : List Int) : C_heckleref09_both (plc a) { Sets := b.sets, First := f, Last := l, Follow := flw b 0, Null := nb } ⟨a.sets ++ b.sets, [], [], flw a 0 ++ flw b a.n, false⟩ := by
  have has := ha.sets
  have hbs := hb.sets
  refine W_heckleref09_both _ _ _ ⟨by show a.sets.length * 32 ≤ _; omega, by show (a.sets.length + b.sets.length) * 32 ≤ _; omega, fun o t => ∃ i : Nat, t = i ∧ i ≤ a.n ∧ o = (flw a 0).take i, fun o t => (a.n - t).toNat, ⟨0, rfl, by omega, rfl⟩, ?_⟩
  rintro o t ⟨i, rfl, hi, rfl⟩
  have hfa : (plc a).Follow = flw a 0 := rfl
  simp only [hfa]
  refine ⟨fun ht => ?_, fun ht => ?_⟩
  · have ht : i < a.n := by rw [flw_len] at ht; simpa using ht
    have hw2 : w64 ((i : Int) + 1) = ((i + 1 : Nat) : Int) := w64_id (by omega) (by omega)
    have hfl := flw_len a 0
    rw [hw2, gd_nat (by rw [flw_len]; exact ht)]
    refine ⟨by omega, by omega, by simp [flw_len]; omega, ⟨i + 1, rfl, by omega, ?_⟩, by first | omega | (dsimp only; omega)⟩
    rw [List.take_succ_eq_append_getElem (by rw [flw_len]; exact ht)]
  · have : i = a.n := by rw [flw_len] at ht; have : ¬ i < a.n := by simpa using ht
                         omega
    subst this
    rw [List.take_of_length_le (by rw [flw_len]; exact Nat.le_refl _)]
    refine ⟨fun o t => ∃ i : Nat, t = i ∧ i ≤ b.n ∧ o = flw a 0 ++ (flw b a.n).take i, fun o t => (b.n - t).toNat, ⟨0, rfl, by omega, by simp⟩, ?_⟩
    rintro o t ⟨i, rfl, hi, rfl⟩
    simp only [flw_len]
    refine ⟨fun ht => ?_, fun ht => ?_⟩
    · have ht : i < b.n := by simpa using ht
      have hw2 : w64 ((i : Int) + 1) = ((i + 1 : Nat) : Int) := w64_id (by omega) (by omega)
      have hmv := moved_ok b.n (b.follow i) 0 a.n (by omega)
      rw [Nat.zero_add] at hmv
      rw [flw_mem ht, hw2]
      have : ((plc a).Sets.length : Int) = a.n := by show (a.sets.length : Int) = _; rw [has]
      rw [this]
      refine ⟨by omega, by omega, _, hmv, by simp [flw_len]; omega, ⟨i + 1, rfl, by omega, ?_⟩, by first | omega | (dsimp only; omega)⟩
      rw [List.take_succ_eq_append_getElem (by rw [flw_len]; exact ht), flw_get _ _ ht, List.append_assoc]
    · have : i = b.n := by have : ¬ i < b.n := by simpa using ht
                           omega
      subst this
      rw [List.take_of_length_le (by rw [flw_len]; exact Nat.le_refl _)]; rfl
theorem leadA_ok {fr to : List Int} {F : List (List Int)} (hfr : SS fr) (hto : SS to) (hF : ∀ f ∈ F, SS f) (hin : ∀ x ∈ fr, 0 ≤ x ∧ x < F.length) (hsm : ∀ f ∈ F, f.length < 1000000) (hts : to.length < 1000000) (hfs : fr.length < 1000000)
    {Q : List (List Int) → Prop} (hQ : Q (leadF F fr to)) :
    ∃ (Inv : List (List Int) → Int → Prop) (mu : List (List Int) → Int → Nat), Inv F 0 ∧ ∀ (o : List (List Int)) (i : Int), Inv o i →
      (decide (i < (fr.length : Int)) = true → 0 ≤ i ∧ i < (fr.length : Int) ∧ 0 ≤ i ∧ i < (fr.length : Int) ∧ 0 ≤ gd fr i ∧ (Int.toNat (gd fr i) < o.length) ∧ gd fr i < (o.length : Int) ∧
        (∃ r, C_heckleref09_Add (gd o (gd fr i)) to r ∧ 0 ≤ gd fr i ∧ (Int.toNat (gd fr i) < o.length) ∧ gd fr i < (o.length : Int) ∧ (Inv (List.set o (Int.toNat (gd fr i)) r) (w64 (i + 1)) ∧ mu (List.set o (Int.toNat (gd fr i)) r) (w64 (i + 1)) < mu o i))) ∧
      (decide (i < (fr.length : Int)) = false → Q o) := by
  refine ⟨fun o t => ∃ i : Nat, t = i ∧ i ≤ fr.length ∧ o = leadF F (fr.take i) to, fun o t => (fr.length - t).toNat, ⟨0, rfl, by omega, by simp [leadF]; exact (List.ext_getElem (by simp) (fun j h1 h2 => by simp))⟩, ?_⟩
  rintro o t ⟨i, rfl, hi, rfl⟩
  refine ⟨fun ht => ?_, fun ht => ?_⟩
  · have ht : i < fr.length := by simpa using ht
    have hg : gd fr (i : Int) = fr[i] := gd_nat ht
    rw [hg]
    obtain ⟨q0, q1⟩ := hin _ (List.getElem_mem ht)
    obtain ⟨e, he⟩ : ∃ e : Nat, fr[i] = e := ⟨fr[i].toNat, by omega⟩
    rw [he] at q1 ⊢
    have he2 : e < F.length := by omega
    have hl : (leadF F (fr.take i) to).length = F.length := leadF_len _ _ _
    have hnot : ¬ ((e : Int) ∈ fr.take i) := by
      intro hm
      obtain ⟨k, hk, hk2⟩ := List.mem_iff_getElem.1 hm
      simp only [List.length_take] at hk
      rw [List.getElem_take] at hk2
      have := List.pairwise_iff_getElem.1 hfr k i (by omega) ht (by omega)
      omega
    have hge : gd (leadF F (fr.take i) to) (e : Int) = F[e] := by
      rw [gd_nat (by rw [hl]; exact he2), leadF_get _ _ _ he2, if_neg hnot]
    have hw2 : w64 ((i : Int) + 1) = ((i + 1 : Nat) : Int) := w64_id (by omega) (by omega)
    have hFe := hF _ (List.getElem_mem he2)
    refine ⟨by omega, by omega, by omega, by omega, by omega, by rw [hl]; omega, by rw [hl]; omega, addL F[e] to, ?_, by omega, by rw [hl]; omega, by rw [hl]; omega, ?_⟩
    · rw [hge]; exact add_ok _ _ (by have := hsm _ (List.getElem_mem he2); omega) (by omega)
    · rw [hw2, ← join_eq hFe hto]
      refine ⟨⟨i + 1, rfl, by omega, ?_⟩, by first | omega | (dsimp only; omega)⟩
      show List.set _ e _ = _
      refine set_eq (by rw [leadF_len, leadF_len]) (fun j hj hne => ?_) (fun hj => ?_)
      · rw [hl] at hj
        rw [leadF_get _ _ _ hj, leadF_get _ _ _ hj, List.take_succ_eq_append_getElem ht, he]
        have : ((j : Int) ∈ fr.take i ++ [(e : Int)]) ↔ (j : Int) ∈ fr.take i := by
          rw [List.mem_append, List.mem_singleton]
          constructor
          · rintro (h | h)
            · exact h
            · exact absurd (by omega) hne
          · exact .inl
        simp only [this]
      · rw [leadF_get _ _ _ he2, List.take_succ_eq_append_getElem ht, he, if_pos (by simp)]
  · have : i = fr.length := by have : ¬ i < fr.length := by simpa using ht
                               omega
    subst this
    rw [List.take_of_length_le (Nat.le_refl _)]; exact hQ
theorem flw_ss (g : GA) (off : Nat) : ∀ f ∈ flw g off, SS f := by
  intro f hf
  simp only [flw, List.mem_map] at hf
  obtain ⟨i, _, rfl⟩ := hf
  exact lst_ss _ _ _
theorem refCat_ok (a b : GA) (ha : Canon a) (hb : Canon b) (hn : a.n + b.n < 1000) : C_heckleref09_cat (plc a) (plc b) (plc (gCat a b)) := by
  have has := ha.sets
  have l1 := lst_len a.n a.first 0
  have l2 := lst_len a.n a.last 0
  have l3 := lst_len b.n b.first a.n
  have l4 := lst_len b.n b.last a.n
  have m1 := moved_ok b.n b.first 0 a.n (by omega)
  have m2 := moved_ok b.n b.last 0 a.n (by omega)
  rw [Nat.zero_add] at m1 m2
  have hsz : ((plc a).Sets.length : Int) = a.n := by show (a.sets.length : Int) = _; rw [has]
  refine W_heckleref09_cat _ _ _ ⟨_, both_ok a b ha hb hn b.null _ _, _, by rw [hsz]; exact m1, _, by rw [hsz]; exact m2, ?_⟩
  have hlead := lead_cat [] a b
  simp only [List.nil_append, List.length_nil, Nat.zero_add] at hlead
  refine leadA_ok (fr := lst a.n a.last 0) (to := lst b.n b.first a.n) (F := flw a 0 ++ flw b a.n) (lst_ss _ _ _) (lst_ss _ _ _) (fun f hf => ?_) (fun x hx => ?_) (fun f hf => ?_) (by omega) (by omega) ?_
  · rcases List.mem_append.1 hf with hf | hf
    · exact flw_ss _ _ f hf
    · exact flw_ss _ _ f hf
  · obtain ⟨i, hi, _, rfl⟩ := lst_mem.1 hx
    simp only [List.length_append, flw_len]; omega
  · rcases List.mem_append.1 hf with hf | hf
    · simp only [flw, List.mem_map] at hf
      obtain ⟨i, _, rfl⟩ := hf
      have := lst_len a.n (a.follow i) 0; omega
    · simp only [flw, List.mem_map] at hf
      obtain ⟨i, _, rfl⟩ := hf
      have := lst_len b.n (b.follow i) a.n; omega
  · rw [hlead]
    have c1 := cat_first a b 0
    have c2 := cat_last a b 0
    rw [Nat.zero_add] at c1 c2
    refine ⟨fun l => l = lst (a.n + b.n) (gCat a b).first 0, ?_, fun hnn => ⟨_, add_ok _ _ (by show (lst _ _ _).length < _; omega) (by omega), ?_⟩, fun hnn => ?_⟩
    · rintro l rfl
      refine ⟨fun l => l = lst (a.n + b.n) (gCat a b).last 0, ?_, fun hnn => ⟨_, add_ok _ _ (by show (lst _ _ _).length < _; omega) (by omega), ?_⟩, fun hnn => ?_⟩
      · rintro l rfl; rfl
      · rw [if_pos (show b.null = true from hnn), join_eq (lst_ss _ _ _) (lst_ss _ _ _)] at c2; exact c2
      · rw [if_neg (by show ¬ (b.null = true); have : b.null = false := hnn; simp [this])] at c2; exact c2
    · rw [if_pos (show a.null = true from hnn), join_eq (lst_ss _ _ _) (lst_ss _ _ _)] at c1; exact c1
    · rw [if_neg (by show ¬ (a.null = true); have : a.null = false := hnn; simp [this])] at c1; exact c1
theorem refAlt_ok (a b : GA) (ha : Canon a) (hb : Canon b) (hn : a.n + b.n < 1000) : C_heckleref09_alt (plc a) (plc b) (plc (gAlt a b)) := by
  have has := ha.sets
  have l1 := lst_len a.n a.first 0
  have l2 := lst_len a.n a.last 0
  have l3 := lst_len b.n b.first a.n
  have l4 := lst_len b.n b.last a.n
  have m1 := moved_ok b.n b.first 0 a.n (by omega)
  have m2 := moved_ok b.n b.last 0 a.n (by omega)
  rw [Nat.zero_add] at m1 m2
  have hsz : ((plc a).Sets.length : Int) = a.n := by show (a.sets.length : Int) = _; rw [has]
  have c1 := alt_first a b 0
  have c2 := alt_last a b 0
  have c3 := flw_alt a b 0
  rw [Nat.zero_add] at c1 c2 c3
  rw [join_eq (lst_ss _ _ _) (lst_ss _ _ _)] at c1 c2
  refine W_heckleref09_alt _ _ _ ⟨_, both_ok a b ha hb hn b.null _ _, _, by rw [hsz]; exact m1, _, add_ok _ _ (by show (lst _ _ _).length < _; omega) (by omega), _, by rw [hsz]; exact m2, _, add_ok _ _ (by show (lst _ _ _).length < _; omega) (by omega), ?_⟩
  show plc (gAlt a b) = ⟨_, addL (lst a.n a.first 0) (lst b.n b.first a.n), addL (lst a.n a.last 0) (lst b.n b.last a.n), _, _⟩
  rw [c1, c2]
  show _ = (⟨a.sets ++ b.sets, _, _, flw a 0 ++ flw b a.n, a.null || b.null⟩ : api_Places)
  rw [c3]; rfl
theorem refAgain_ok (a : GA) (ha : Canon a) (hn : a.n < 1000) : C_heckleref09_again (plc a) (plc (gAgain a)) := by
  have l1 := lst_len a.n a.first 0
  have l2 := lst_len a.n a.last 0
  have hb := both_ok a gNone ha canon_none (by show a.n + 0 < 1000; omega) false [] []
  have e1 : a.sets ++ gNone.sets = a.sets := List.append_nil _
  have e2 : flw a 0 ++ flw gNone a.n = flw a 0 := List.append_nil _
  rw [e1, e2] at hb
  have hlead := lead_again [] a
  simp only [List.nil_append, List.length_nil] at hlead
  refine W_heckleref09_again _ _ ⟨_, hb, ?_⟩
  refine leadA_ok (fr := lst a.n a.last 0) (to := lst a.n a.first 0) (F := flw a 0) (lst_ss _ _ _) (lst_ss _ _ _) (flw_ss _ _) (fun x hx => ?_) (fun f hf => ?_) (by omega) (by omega) ?_
  · obtain ⟨i, hi, _, rfl⟩ := lst_mem.1 hx
    simp only [flw_len]; omega
  · simp only [flw, List.mem_map] at hf
    obtain ⟨i, _, rfl⟩ := hf
    have := lst_len a.n (a.follow i) 0; omega
  · rw [hlead]; rfl
theorem refMaybe_ok (a : GA) : C_heckleref09_maybe (plc a) (plc (gMaybe a)) := W_heckleref09_maybe _ _ rfl
end Go.Ev.Pl

set_option linter.unusedSimpArgs false
set_option linter.unusedVariables false
namespace Go.Ev.Pl
open Go Go.Ev
theorem eta_pl (p : api_Places) : (⟨p.Sets, p.First, p.Last, p.Follow, p.Null⟩ : api_Places) = p := rfl
theorem empty_ok : C_heckleref09_empty (plc gEmpty) := W_heckleref09_empty _ rfl
theorem iter_canon_cat {a : GA} (h : Canon a) (k : Nat) {z : GA} (hz : Canon z) : Canon (iter (gCat a) k z) := canon_iter (fun b hb => canon_cat h hb) k hz
theorem refOf_ok : ∀ x, Wf x → Rgt x → sizeN x ≤ 200 → C_heckleref09_of x (plc (gof x)) := by
  refine rxInd fun x ih hw hr hs => ?_
  obtain ⟨hl, hkw⟩ := (wf_eq x).1 hw
  obtain ⟨ho, hk⟩ := rgt_own hr
  have hgn := gof_n x hr
  refine W_heckleref09_of x _ ⟨fun h => ?_, fun h2 => ⟨fun h => ?_, fun h3 => ⟨fun h => ?_, fun h4 => ⟨fun h => ?_, fun h5 => ?_⟩⟩⟩⟩
  · have h : x.Kind = 2 := by simpa using h
    have hg : gof x = gByte x.Set := by rw [gof_eq, if_pos h]
    rw [hg]; rfl
  · have h : x.Kind = 3 := by simpa using h
    have hg : gof x = x.Kids.foldl (fun o y => gCat o (gof y)) gEmpty := by rw [gof_eq]; simp [h]
    refine ⟨_, empty_ok, fun s f a b c t => ∃ i : Nat, t = i ∧ i ≤ x.Kids.length ∧ (⟨s, f, a, b, c⟩ : api_Places) = plc ((x.Kids.take i).foldl (fun o y => gCat o (gof y)) gEmpty),
      fun _ _ _ _ _ t => (x.Kids.length - t).toNat, ⟨0, rfl, by omega, rfl⟩, ?_⟩
    rintro s f a b c t ⟨i, rfl, hi, hp⟩
    refine ⟨fun ht => ?_, fun ht => ?_⟩
    · have ht : i < x.Kids.length := by simpa using ht
      have hm := List.getElem_mem ht
      obtain ⟨o, ho'⟩ : ∃ o, o = (x.Kids.take i).foldl (fun o y => gCat o (gof y)) gEmpty := ⟨_, rfl⟩
      have hn := pre_n (f := gCat) (fun _ _ => rfl) (z := gEmpty) rfl ht
      rw [← hg, ← ho'] at hn
      have hsucc := foldl_take_succ (f := fun o y => gCat o (gof y)) (b := gEmpty) ht
      rw [← ho'] at hsucc hp
      have hoc : Canon o := by
        rw [ho']
        have : ∀ (l : List api_Rx) (z : GA), Canon z → Canon (l.foldl (fun o y => gCat o (gof y)) z) := by
          intro l
          induction l with
          | nil => intro z h; exact h
          | cons y r ih2 => intro z h; exact ih2 _ (canon_cat h (canon_gof y))
        exact this _ _ canon_empty
      have hkn := gof_n _ (hk _ hm)
      have hw2 : w64 ((i : Int) + 1) = ((i + 1 : Nat) : Int) := w64_id (by omega) (by omega)
      rw [gd_nat ht, hp]
      refine ⟨by omega, by omega, _, ih _ hm (hkw _ hm) (hk _ hm) (by omega), _, refCat_ok o (gof x.Kids[i]) hoc (canon_gof _) (by omega), ?_⟩
      rw [hw2]
      exact ⟨⟨i + 1, rfl, by omega, by rw [hsucc]⟩, by first | omega | (dsimp only; omega)⟩
    · have : i = x.Kids.length := by have : ¬ i < x.Kids.length := by simpa using ht
                                     omega
      subst this
      rw [List.take_of_length_le (Nat.le_refl _), ← hg] at hp
      exact hp.symm
  · have h : x.Kind = 4 := by simpa using h
    have hg : gof x = x.Kids.foldl (fun o y => gAlt o (gof y)) gNone := by rw [gof_eq]; simp [h]
    have h2k := own_kids ho (.inr h)
    have hm0 : x.Kids[0]'(by omega) ∈ x.Kids := List.getElem_mem _
    have hg0 : List.getD x.Kids 0 default = x.Kids[0]'(by omega) := by simp [List.getD, show 0 < x.Kids.length by omega]
    have hn0 := pre_n (f := gAlt) (fun _ _ => rfl) (z := gNone) rfl (l := x.Kids) (i := 0) (by omega)
    rw [← hg] at hn0
    have hkn0 := gof_n _ (hk _ hm0)
    refine ⟨by omega, _, by rw [hg0]; exact ih _ hm0 (hkw _ hm0) (hk _ hm0) (by omega), fun s f a b c t => ∃ i : Nat, t = i ∧ 1 ≤ i ∧ i ≤ x.Kids.length ∧ (⟨s, f, a, b, c⟩ : api_Places) = plc ((x.Kids.take i).foldl (fun o y => gAlt o (gof y)) gNone),
      fun _ _ _ _ _ t => (x.Kids.length - t).toNat, ⟨1, rfl, by omega, by omega, ?_⟩, ?_⟩
    · rw [eta_pl, foldl_take_succ (by omega)]
      show _ = plc (gAlt gNone _)
      rw [alt_none_l]
    rintro s f a b c t ⟨i, rfl, hi1, hi, hp⟩
    refine ⟨fun ht => ?_, fun ht => ?_⟩
    · have ht : i < x.Kids.length := by simpa using ht
      have hm := List.getElem_mem ht
      obtain ⟨o, ho'⟩ : ∃ o, o = (x.Kids.take i).foldl (fun o y => gAlt o (gof y)) gNone := ⟨_, rfl⟩
      have hn := pre_n (f := gAlt) (fun _ _ => rfl) (z := gNone) rfl ht
      rw [← hg, ← ho'] at hn
      have hsucc := foldl_take_succ (f := fun o y => gAlt o (gof y)) (b := gNone) ht
      rw [← ho'] at hsucc hp
      have hoc : Canon o := by
        rw [ho']
        have : ∀ (l : List api_Rx) (z : GA), Canon z → Canon (l.foldl (fun o y => gAlt o (gof y)) z) := by
          intro l
          induction l with
          | nil => intro z h; exact h
          | cons y r ih2 => intro z h; exact ih2 _ (canon_alt h (canon_gof y))
        exact this _ _ canon_none
      have hkn := gof_n _ (hk _ hm)
      have hw2 : w64 ((i : Int) + 1) = ((i + 1 : Nat) : Int) := w64_id (by omega) (by omega)
      rw [gd_nat ht, hp]
      refine ⟨by omega, by omega, _, ih _ hm (hkw _ hm) (hk _ hm) (by omega), _, refAlt_ok o (gof x.Kids[i]) hoc (canon_gof _) (by omega), ?_⟩
      rw [hw2]
      exact ⟨⟨i + 1, rfl, by omega, by omega, by rw [hsucc]⟩, by first | omega | (dsimp only; omega)⟩
    · have : i = x.Kids.length := by have : ¬ i < x.Kids.length := by simpa using ht
                                     omega
      subst this
      rw [List.take_of_length_le (Nat.le_refl _), ← hg] at hp
      exact hp.symm
  · have h : x.Kind = 5 := by simpa using h
    obtain ⟨⟨k, hq⟩, h1, h2', h3'⟩ := own_rep ho h
    have hkm : k ∈ x.Kids := by rw [hq]; simp
    have hgof : gof x = gRep (gof k) x.Lo x.Hi := by rw [gof_eq, h, hq]; simp
    have hn : (gof x).n = (max 1 (max x.Lo x.Hi)).toNat * (gof k).n := by rw [hgof, rep_n _ h1 (by omega)]
    have hkn := gof_n k (hk k hkm)
    have hkle : (gof k).n ≤ (gof x).n := by
      rw [hn]; exact Nat.le_mul_of_pos_left _ (by omega)
    have hkc := canon_gof k
    have hkd : List.getD x.Kids 0 default = k := by rw [hq]; rfl
    rw [hkd]
    have hbound : ∀ j : Nat, j ≤ (max 1 (max x.Lo x.Hi)).toNat → j * (gof k).n ≤ 200 := fun j hj => by
      have := Nat.mul_le_mul_right (gof k).n hj
      omega
    refine ⟨by rw [hq]; simp, _, ih k hkm (hkw k hkm) (hk k hkm) (by omega), _, empty_ok, fun hneg => ?_, fun hpos => ?_⟩
    · have hneg : x.Hi < 0 := of_decide_eq_true hneg
      have hmx : max 1 (max x.Lo x.Hi) = max x.Lo 1 := by omega
      refine ⟨fun s f a b c t => ∃ i : Nat, t = i + 1 ∧ (i : Int) ≤ max x.Lo 1 - 1 ∧ (⟨s, f, a, b, c⟩ : api_Places) = plc (leftp (gof k) i), fun _ _ _ _ _ t => (x.Lo - t).toNat, ⟨0, rfl, by omega, rfl⟩, ?_⟩
      rintro s f a b c t ⟨i, rfl, hi, hp⟩
      have hln : (leftp (gof k) i).n = i * (gof k).n := by
        have := iter_n (f := fun o => gCat o (gof k)) (a := gof k) (fun o => by show o.n + (gof k).n = _; omega) i gEmpty
        rw [show leftp (gof k) i = iter (fun o => gCat o (gof k)) i gEmpty from rfl, this]; rfl
      have hlc : Canon (leftp (gof k) i) := canon_iter (fun b hb => canon_cat hb hkc) i canon_empty
      have hb1 := hbound (i + 1) (by omega)
      rw [Nat.succ_mul] at hb1
      refine ⟨fun ht => ?_, fun ht => ?_⟩
      · have ht : (i : Int) + 1 < x.Lo := of_decide_eq_true ht
        have hw2 : w64 ((i : Int) + 1 + 1) = ((i + 1 : Nat) : Int) + 1 := (w64_id (by omega) (by omega)).trans (by omega)
        rw [hp]
        refine ⟨_, refCat_ok _ _ hlc hkc (by omega), ?_⟩
        rw [hw2]
        exact ⟨⟨i + 1, rfl, by omega, rfl⟩, by first | omega | (dsimp only; omega)⟩
      · have ht : ¬ (i : Int) + 1 < x.Lo := of_decide_eq_false ht
        have hii : i = (max x.Lo 1 - 1).toNat := by omega
        have hfin : ∀ z : GA, z = (if x.Lo = 0 then gMaybe (gAgain (gof k)) else gAgain (gof k)) → gCat (leftp (gof k) i) z = gof x := by
          rintro z rfl
          rw [leftp_cat, hgof]
          unfold gRep
          rw [if_pos hneg, hii]
        refine ⟨_, refAgain_ok (gof k) hkc (by omega), fun s f a b c => ∃ z : GA, Canon z ∧ z.n = (gof k).n ∧ z = (if x.Lo = 0 then gMaybe (gAgain (gof k)) else gAgain (gof k)) ∧ (⟨s, f, a, b, c⟩ : api_Places) = plc z, ?_, fun h0 => ?_, fun h0 => ?_⟩
        · rintro s f a b c ⟨z, hzc, hzn, hz, hpz⟩
          rw [hp, hpz]
          exact ⟨_, refCat_ok _ _ hlc hzc (by omega), by rw [hfin z hz]⟩
        · have h0 : x.Lo = 0 := by simpa using h0
          exact ⟨_, refMaybe_ok _, gMaybe (gAgain (gof k)), canon_maybe (canon_again hkc), rfl, by rw [if_pos h0], rfl⟩
        · have h0 : x.Lo ≠ 0 := by simpa using h0
          exact ⟨gAgain (gof k), canon_again hkc, rfl, by rw [if_neg h0], rfl⟩
    · have hpos : ¬ x.Hi < 0 := of_decide_eq_false hpos
      have hmx : max 1 (max x.Lo x.Hi) = x.Hi := by omega
      refine ⟨fun s f a b c t => ∃ i : Nat, t = x.Lo + i ∧ x.Lo + i ≤ x.Hi ∧ (⟨s, f, a, b, c⟩ : api_Places) = plc (iter (fun o => gMaybe (gCat (gof k) o)) i gEmpty), fun _ _ _ _ _ t => (x.Hi - t).toNat, ⟨0, by simp, by omega, rfl⟩, ?_⟩
      rintro s f a b c t ⟨i, rfl, hi, hp⟩
      have hin := iter_n (f := fun o => gMaybe (gCat (gof k) o)) (a := gof k) (fun _ => rfl) i gEmpty
      have hin : (iter (fun o => gMaybe (gCat (gof k) o)) i gEmpty).n = i * (gof k).n := hin
      have hic : Canon (iter (fun o => gMaybe (gCat (gof k) o)) i gEmpty) := canon_iter (fun b hb => canon_maybe (canon_cat hkc hb)) i canon_empty
      refine ⟨fun ht => ?_, fun ht => ?_⟩
      · have ht : x.Lo + i < x.Hi := of_decide_eq_true ht
        have hb1 := hbound (i + 1) (by omega)
        rw [Nat.succ_mul] at hb1
        have hw2 : w64 (x.Lo + (i : Int) + 1) = x.Lo + ((i + 1 : Nat) : Int) := (w64_id (by omega) (by omega)).trans (by omega)
        rw [hp]
        refine ⟨_, refCat_ok _ _ hkc hic (by omega), _, refMaybe_ok _, ?_⟩
        rw [hw2]
        exact ⟨⟨i + 1, rfl, by omega, rfl⟩, by first | omega | (dsimp only; omega)⟩
      · have ht : ¬ x.Lo + i < x.Hi := of_decide_eq_false ht
        have hii : i = (x.Hi - x.Lo).toNat := by omega
        refine ⟨fun s f a b c t => ∃ j : Nat, t = j ∧ (j : Int) ≤ x.Lo ∧ (⟨s, f, a, b, c⟩ : api_Places) = plc (iter (gCat (gof k)) j (iter (fun o => gMaybe (gCat (gof k) o)) i gEmpty)), fun _ _ _ _ _ t => (x.Lo - t).toNat, ⟨0, rfl, by omega, hp⟩, ?_⟩
        rintro s f a b c t ⟨j, rfl, hj, hp⟩
        have hjn := iter_n (f := gCat (gof k)) (a := gof k) (fun _ => rfl) j (iter (fun o => gMaybe (gCat (gof k) o)) i gEmpty)
        rw [hin, ← Nat.add_mul] at hjn
        have hjc := iter_canon_cat hkc j hic
        refine ⟨fun ht => ?_, fun ht => ?_⟩
        · have ht : (j : Int) < x.Lo := of_decide_eq_true ht
          have hb1 := hbound (j + i + 1) (by omega)
          rw [Nat.succ_mul] at hb1
          have hw2 : w64 ((j : Int) + 1) = ((j + 1 : Nat) : Int) := w64_id (by omega) (by omega)
          rw [hp]
          refine ⟨_, refCat_ok _ _ hkc hjc (by omega), ?_⟩
          rw [hw2]
          exact ⟨⟨j + 1, rfl, by omega, rfl⟩, by first | omega | (dsimp only; omega)⟩
        · have ht : ¬ (j : Int) < x.Lo := of_decide_eq_false ht
          rw [hp, hgof]
          unfold gRep
          rw [if_neg hpos, ← hii, show j = x.Lo.toNat by omega]
  · have h1 : x.Kind = 1 := by
      simp only [beq_eq_false_iff_ne, ne_eq] at h2 h3 h4 h5
      have := own_kind ho; omega
    have hg : gof x = gEmpty := by rw [gof_eq]; simp [h1]
    rw [hg]
    exact ⟨_, empty_ok, rfl⟩
theorem refOfAll_ok (x : api_Rx) (hw : Wf x) : C_heckleref09_Of x (if rightB x = true then plc (gof x) else noPl) (if rightB x = true then 0 else 1) := by
  refine W_heckleref09_Of x _ _ ⟨_, refRightAll_ok x hw, fun h => ?_, fun h => ?_⟩
  · have h : rightB x = false := by simpa using h
    rw [h]; exact ⟨rfl, rfl⟩
  · have h : rightB x = true := by simpa using h
    obtain ⟨hr, hs⟩ := size_of_right h
    exact ⟨_, refOf_ok x hw hr hs, by rw [if_pos h], by rw [if_pos h]⟩
theorem intsRefl_ok (a : List Int) (h : a.length < 1000000) : C_heckleref09_ints a a true := by
  refine W_heckleref09_ints a a _ ⟨fun h => by simp at h, fun _ => ⟨fun t => ∃ i : Nat, t = i ∧ i ≤ a.length, fun t => (a.length - t).toNat, ⟨0, rfl, by omega⟩, ?_⟩⟩
  rintro t ⟨i, rfl, hi⟩
  refine ⟨fun ht => ?_, fun _ => rfl⟩
  have ht : i < a.length := by simpa using ht
  have hw2 : w64 ((i : Int) + 1) = ((i + 1 : Nat) : Int) := w64_id (by omega) (by omega)
  rw [hw2]
  exact ⟨by omega, by omega, by omega, by omega, fun h => by simp at h, fun _ => ⟨⟨i + 1, rfl, by omega⟩, by first | omega | (dsimp only; omega)⟩⟩
theorem sameRefl_ok (p : api_Places) (h1 : p.Sets.length < 1000000) (h2 : p.First.length < 1000000) (h3 : p.Last.length < 1000000) (h4 : p.Follow.length < 1000000) (h5 : ∀ f ∈ p.Follow, f.length < 1000000) : C_heckleref09_Same p p true := by
  refine W_heckleref09_Same p p _ ?_
  refine ⟨fun h => by simp at h, fun _ => ?_⟩
  refine ⟨fun h => by simp at h, fun _ => ?_⟩
  refine ⟨fun h => by simp at h, fun _ => ⟨true, intsRefl_ok _ h2, ?_⟩⟩
  refine ⟨fun h => (by cases h), fun _ => ⟨true, intsRefl_ok _ h3, ?_⟩⟩
  refine ⟨fun h => (by cases h), fun _ => ?_⟩
  refine ⟨fun t => ∃ i : Nat, t = i ∧ i ≤ p.Sets.length, fun t => (p.Sets.length - t).toNat, ⟨0, rfl, by omega⟩, ?_⟩
  rintro t ⟨i, rfl, hi⟩
  refine ⟨fun ht => ?_, fun ht => ?_⟩
  · have ht : i < p.Sets.length := by simpa using ht
    have hw2 : w64 ((i : Int) + 1) = ((i + 1 : Nat) : Int) := w64_id (by omega) (by omega)
    rw [hw2]
    exact ⟨by omega, by omega, by omega, by omega, fun h => by simp at h, fun _ => ⟨⟨i + 1, rfl, by omega⟩, by first | omega | (dsimp only; omega)⟩⟩
  · refine ⟨fun t => ∃ i : Nat, t = i ∧ i ≤ p.Follow.length, fun t => (p.Follow.length - t).toNat, ⟨0, rfl, by omega⟩, ?_⟩
    rintro t ⟨j, rfl, hj⟩
    refine ⟨fun ht => ?_, fun _ => rfl⟩
    have ht : j < p.Follow.length := by simpa using ht
    have hw2 : w64 ((j : Int) + 1) = ((j + 1 : Nat) : Int) := w64_id (by omega) (by omega)
    rw [hw2, gd_nat ht]
    exact ⟨by omega, by omega, by omega, by omega, _, intsRefl_ok _ (h5 _ (List.getElem_mem ht)), fun h => (by cases h), fun _ => ⟨⟨j + 1, rfl, by omega⟩, by first | omega | (dsimp only; omega)⟩⟩
theorem same_ok (x : api_Rx) (hw : Wf x) : C_hecklelaw09_same x true := by
  have hs : C_heckleref09_Same (if rightB x = true then plc (gof x) else noPl) (if rightB x = true then plc (gof x) else noPl) true := by
    cases h : rightB x with
    | false => exact sameRefl_ok _ (by simp [noPl]) (by simp [noPl]) (by simp [noPl]) (by simp [noPl]) (fun f hf => by simp [noPl] at hf)
    | true =>
      obtain ⟨hr, hs⟩ := size_of_right h
      have hn := gof_n x hr
      have hc := (canon_gof x).sets
      refine sameRefl_ok _ ?_ ?_ ?_ ?_ ?_
      · show (gof x).sets.length < _; omega
      · have := lst_len (gof x).n (gof x).first 0; show (lst _ _ _).length < _; omega
      · have := lst_len (gof x).n (gof x).last 0; show (lst _ _ _).length < _; omega
      · show (flw _ _).length < _; rw [flw_len]; omega
      · intro f hf
        have hf : f ∈ flw (gof x) 0 := hf
        simp only [flw, List.mem_map] at hf
        obtain ⟨i, _, rfl⟩ := hf
        have := lst_len (gof x).n ((gof x).follow i) 0; omega
  exact W_hecklelaw09_same x _ ⟨_, _, placeOf_ok x hw, _, _, refOfAll_ok x hw, _, hs, by simp⟩
end Go.Ev.Pl

set_option linter.unusedSimpArgs false
set_option linter.unusedVariables false
namespace Go.Ev.Pl
open Go Go.Ev
def setOf (lo hi : Int) : arr4_uint64 := mkSet fun i => decide (i ≥ lo) && decide (i ≤ hi)
theorem ints1Refl_ok (a : List Int) (h : a.length < 1000000) : C_hecklelaw01_Ints a a true := by
  refine W_hecklelaw01_Ints a a _ ⟨fun h => by simp at h, fun _ => ⟨fun t => ∃ i : Nat, t = i ∧ i ≤ a.length, fun t => (a.length - t).toNat, ⟨0, rfl, by omega⟩, ?_⟩⟩
  rintro t ⟨i, rfl, hi⟩
  refine ⟨fun ht => ?_, fun _ => rfl⟩
  have ht : i < a.length := by simpa using ht
  have hw2 : w64 ((i : Int) + 1) = ((i + 1 : Nat) : Int) := w64_id (by omega) (by omega)
  rw [hw2]
  exact ⟨by omega, by omega, by omega, by omega, fun h => by simp at h, fun _ => ⟨⟨i + 1, rfl, by omega⟩, by first | omega | (dsimp only; omega)⟩⟩
def zset : arr4_uint64 := ⟨0, 0, 0, 0⟩
def chr (b : Int) : api_Rx := ⟨2, setOf b b, 0, 0, []⟩
def awX : api_Rx := ⟨3, zset, 0, 0, [chr 97, ⟨5, zset, 0, -1, [⟨4, zset, 0, 0, [chr 98, chr 99]⟩]⟩]⟩
def awE : api_Rx := ⟨0, zset, 0, 0, []⟩
theorem wf_leaf (k : Int) (s : arr4_uint64) (lo hi : Int) : Wf ⟨k, s, lo, hi, []⟩ := (wf_eq _).2 ⟨by simp, fun y hy => by simp at hy⟩
theorem wf_X : Wf awX := by
  refine (wf_eq _).2 ⟨by simp [awX], fun y hy => ?_⟩
  simp only [awX, List.mem_cons, List.not_mem_nil, or_false] at hy
  rcases hy with rfl | rfl
  · exact wf_leaf _ _ _ _
  · refine (wf_eq _).2 ⟨by simp, fun y hy => ?_⟩
    simp only [List.mem_cons, List.not_mem_nil, or_false] at hy
    subst hy
    refine (wf_eq _).2 ⟨by simp, fun y hy => ?_⟩
    simp only [List.mem_cons, List.not_mem_nil, or_false] at hy
    rcases hy with rfl | rfl <;> exact wf_leaf _ _ _ _
theorem right_X : rightB awX = true := by kernel_rfl
theorem right_E : rightB awE = false := by kernel_rfl
theorem plc_X : plc (gof awX) = ⟨[setOf 97 97, setOf 98 98, setOf 99 99], [0], [0, 1, 2], [[1, 2], [1, 2], [1, 2]], false⟩ := by kernel_rfl
theorem awake_ok : C_hecklelaw09_awake true := by
  have hX := placeOf_ok awX wf_X
  have hE := placeOf_ok awE (wf_leaf _ _ _ _)
  rw [if_pos right_X, if_pos right_X, plc_X] at hX
  rw [if_neg (by rw [right_E]; simp), if_neg (by rw [right_E]; simp)] at hE
  refine W_hecklelaw09_awake _ ⟨chr 97, char9_ok 97, chr 98, char9_ok 98, chr 99, char9_ok 99, _, _, hX, _, _, hE, ?_⟩
  refine ⟨fun _ => ?_, fun h => by simp at h⟩
  refine ⟨fun _ => ?_, fun h => by simp at h⟩
  refine ⟨fun _ => ⟨true, ints1Refl_ok _ (by simp), ?_⟩, fun h => by simp at h⟩
  refine ⟨fun _ => ⟨true, ints1Refl_ok _ (by simp), ?_⟩, fun h => (by cases h)⟩
  refine ⟨fun _ => ⟨fun _ _ _ _ _ => by simp, true, ints1Refl_ok _ (by simp), ?_⟩, fun h => (by cases h)⟩
  refine ⟨fun _ => ?_, fun h => (by cases h)⟩
  exact ⟨fun _ => by simp, fun h => (by simp at h)⟩
end Go.Ev.Pl

set_option linter.unusedSimpArgs false
set_option linter.unusedVariables false
namespace Go.Ev.Pl
open Go Go.Ev
end Go.Ev.Pl

set_option linter.unusedSimpArgs false
set_option linter.unusedVariables false
namespace Go.Ev.Pl
open Go Go.Ev
end Go.Ev.Pl

set_option linter.unusedSimpArgs false
set_option linter.unusedVariables false
namespace Go.Ev.Pl
open Go Go.Ev Go.Proofs
section
variable {H : Type} {enc : TypeId × Value → H} {P : Program} {w : World} {base : Nat} {spare : Nat → Bool} {held : Bool}
theorem trod_array {fuel : Nat} {t e : TypeId} {n : Nat} {cs : List Value} {x : DataW H × List MemPlace} (ht : P.underlying t = some (.array n e)) (h : DataW.trod enc P w base spare held fuel t cs = some x) :
    cs.length = P.cellsOf t ∧ ∀ i, i < n → ∃ m y, DataW.trod enc P w base spare held m e ((cs.drop (i * P.cellsOf e)).take (P.cellsOf e)) = some y := by
  cases fuel with
  | zero => simp [DataW.trod] at h
  | succ m =>
    unfold DataW.trod at h
    rw [ht] at h
    simp only at h
    split at h
    · rename_i hl
      simp only [Option.map_eq_some_iff] at h
      obtain ⟨xs, h1, -⟩ := h
      refine ⟨hl, fun i hi => ?_⟩
      have h2 := mapM_some_get h1 i i (by simp [hi])
      have h3 : xs.length = n := by simpa using mapM_some_length h1
      rw [List.getElem?_eq_getElem (by omega)] at h2
      exact ⟨m, _, h2⟩
    · simp at h
end
theorem list8 {α : Type} {l : List α} (h : l.length = 8) : ∃ a b c d e f g k, l = [a, b, c, d, e, f, g, k] := by
  rcases l with _ | ⟨a, _ | ⟨b, _ | ⟨c, _ | ⟨d, _ | ⟨e, _ | ⟨f, _ | ⟨g, _ | ⟨k, _ | ⟨m, l⟩⟩⟩⟩⟩⟩⟩⟩⟩
  all_goals first | (simp at h; done) | exact ⟨_, _, _, _, _, _, _, _, rfl⟩
def Reads (W : World) (r : api_Rx) (cs : List Value) : Prop := cs.length = 8 ∧ ∀ (j : Nat) y v, (enc_api_Rx r).cells[j]? = some y → cs[j]? = some v → RF no W y v
theorem reads_mk {W : World} {k a b c d lo hi : Int} {kids : List api_Rx} {u : Value} (h : RF no W (.sl (List.map enc_api_Rx kids)) u) :
    Reads W ⟨k, ⟨a, b, c, d⟩, lo, hi, kids⟩ [.int .i64 k, .int .u64 a, .int .u64 b, .int .u64 c, .int .u64 d, .int .i64 lo, .int .i64 hi, u] := by
  refine ⟨rfl, fun j y v h1 h2 => ?_⟩
  rw [enc_api_Rx_eq] at h1
  match j with
  | 0 => cases h1; cases h2; exact .pv _ rfl
  | 1 => cases h1; cases h2; exact .pv _ rfl
  | 2 => cases h1; cases h2; exact .pv _ rfl
  | 3 => cases h1; cases h2; exact .pv _ rfl
  | 4 => cases h1; cases h2; exact .pv _ rfl
  | 5 => cases h1; cases h2; exact .pv _ rfl
  | 6 => cases h1; cases h2; exact .pv _ rfl
  | 7 => cases h1; cases h2; exact h
  | j + 8 => cases h2
theorem rx_cells (r : api_Rx) : (enc_api_Rx r).cells.length = 8 ∧ (enc_api_Rx r).size = 8 := by
  rw [enc_api_Rx_eq]; exact ⟨rfl, rfl⟩
theorem kids_mk {W : World} {len cap : Nat} {a : Addr} (hl : len ≤ cap) {f : Nat → api_Rx} {cs : Nat → List Value}
    (hc : ∀ i, i < len → W.cells? 0 (a.add (i * 8)) 8 = some (cs i)) (hr : ∀ i, i < len → Reads W (f i) (cs i)) :
    RF no W (.sl (List.map enc_api_Rx ((List.range len).map f))) (.slice (some a) len cap) := by
  rcases Nat.eq_zero_or_pos len with rfl | hp
  · exact RF.nil
  have hcell : ∀ i j, i < len → j < 8 → W.cell? (a.add (i * 8 + j)) = (cs i)[j]? := fun i j hi hj => by
    rw [← Go.Deep.add_add]; exact (World.cells?_some (hc i hi)).2.2 j hj
  have hsome : ∀ i j, i < len → j < 8 → ∃ v, (cs i)[j]? = some v := fun i j hi hj => ⟨_, List.getElem?_eq_getElem (by rw [(hr i hi).1]; exact hj)⟩
  obtain ⟨b, off, spot⟩ := a
  have hspot : spot = none := by
    obtain ⟨v, hv⟩ := hsome 0 0 hp (by omega)
    simpa [Addr.add] using World.cell?_spot ((hcell 0 0 hp (by omega)).trans hv)
  subst hspot
  have hb : b < W.heap.size := by
    obtain ⟨v, hv⟩ := hsome 0 0 hp (by omega)
    have := cell_lt ((hcell 0 0 hp (by omega)).trans hv)
    simpa [Addr.add] using this
  have hel : ∀ (i : Nat) x, (List.map enc_api_Rx ((List.range len).map f))[i]? = some x → i < len ∧ x = enc_api_Rx (f i) := by
    intro i x h
    rw [List.getElem?_map, List.getElem?_map] at h
    by_cases hi : i < len
    · rw [List.getElem?_range hi] at h; exact ⟨hi, by simpa using h.symm⟩
    · rw [List.getElem?_eq_none (by simpa using hi)] at h; simp at h
  refine RF.sl _ _ _ _ ⟨b, off, none⟩ 8 (by simp) hl (fun _ => ⟨rfl, rfl, rfl, hb⟩) ?_ ?_ ?_
  · intro y hy
    obtain ⟨r, -, rfl⟩ := List.mem_map.1 hy
    exact (rx_cells r).2
  · intro i x j y h1 h2
    obtain ⟨hi, rfl⟩ := hel i x h1
    have hj : j < 8 := by have := (List.getElem?_eq_some_iff.1 h2).1; rw [(rx_cells _).1] at this; exact this
    obtain ⟨v, hv⟩ := hsome i j hi hj
    have := (hcell i j hi hj).trans hv
    rw [Go.WideShapes.add_plain] at this
    exact ⟨v, this⟩
  · intro i x j y v h1 h2 h3
    obtain ⟨hi, rfl⟩ := hel i x h1
    have hj : j < 8 := by have := (List.getElem?_eq_some_iff.1 h2).1; rw [(rx_cells _).1] at this; exact this
    have := hcell i j hi hj
    rw [Go.WideShapes.add_plain] at this
    exact (hr i hi).2 j y v h2 (this.symm.trans h3)
set_option maxRecDepth 20000 in
theorem read_rx {H : Type} (enc : TypeId × Value → H) (W : World) : ∀ (fuel : Nat) (cs : List Value) x, DataW.trod enc Try.prog W 0 (fun _ => true) true fuel 27 cs = some x → ∃ r : api_Rx, WfB r ∧ Reads W r cs := by
  intro fuel
  induction fuel using Nat.strongRecOn with
  | ind fuel ih =>
    intro cs x h
    obtain ⟨xs, n, rfl, -, hl, hx, hf⟩ := DataW.trod_struct Try.underlying27 h
    have h8 : Try.prog.cellsOf 27 = 8 := by kernel_rfl
    have e3 : Try.prog.cellsOf 3 = 1 := by kernel_rfl
    have e24 : Try.prog.cellsOf 24 = 4 := by kernel_rfl
    have e25 : Try.prog.cellsOf 25 = 1 := by kernel_rfl
    rw [h8] at hl
    obtain ⟨c0, c1, c2, c3, c4, c5, c6, c7, rfl⟩ := list8 hl
    have hx5 : xs.length = 5 := hx
    have g : ∀ (i : Nat) (f : Field), i < 5 → (#[{ name := "Kind", type := 3, offset := 0, embedded := false, tag := "", pkgPath := "", byteOffset := 0 }, { name := "Set", type := 24, offset := 1, embedded := false, tag := "", pkgPath := "", byteOffset := 8 }, { name := "Lo", type := 3, offset := 5, embedded := false, tag := "", pkgPath := "", byteOffset := 40 }, { name := "Hi", type := 3, offset := 6, embedded := false, tag := "", pkgPath := "", byteOffset := 48 }, { name := "Kids", type := 25, offset := 7, embedded := false, tag := "", pkgPath := "", byteOffset := 56 }] : Array Field)[i]? = some f →
        ∀ o t l, f.offset = o → f.type = t → ([c0, c1, c2, c3, c4, c5, c6, c7].drop o).take (Try.prog.cellsOf t) = l → ∃ y, DataW.trod enc Try.prog W 0 (fun _ => true) true n t l = some y := by
      rintro i f h5 hi _ _ l rfl rfl hl
      have := hf i f hi
      rw [hl, List.getElem?_eq_getElem (by omega)] at this
      exact ⟨_, this⟩
    obtain ⟨y0, t0⟩ := g 0 _ (by omega) rfl 0 3 [c0] rfl rfl (by rw [e3]; rfl)
    obtain ⟨y1, t1⟩ := g 1 _ (by omega) rfl 1 24 [c1, c2, c3, c4] rfl rfl (by rw [e24]; rfl)
    obtain ⟨y2, t2⟩ := g 2 _ (by omega) rfl 5 3 [c5] rfl rfl (by rw [e3]; rfl)
    obtain ⟨y3, t3⟩ := g 3 _ (by omega) rfl 6 3 [c6] rfl rfl (by rw [e3]; rfl)
    obtain ⟨y4, t4⟩ := g 4 _ (by omega) rfl 7 25 [c7] rfl rfl (by rw [e25]; rfl)
    clear g hf
    obtain ⟨n0, q0, -, -⟩ := DataW.trod_int Try.underlying3 t0
    obtain ⟨n2, q2, -, -⟩ := DataW.trod_int Try.underlying3 t2
    obtain ⟨n3, q3, -, -⟩ := DataW.trod_int Try.underlying3 t3
    obtain ⟨-, ta⟩ := trod_array Try.underlying24 t1
    have e22 : Try.prog.cellsOf 22 = 1 := by kernel_rfl
    have ga : ∀ i, i < 4 → ∃ z, ([c1, c2, c3, c4].drop i).take 1 = [Value.int .u64 z] := by
      intro i hi
      obtain ⟨m, y, hm⟩ := ta i hi
      rw [e22, Nat.mul_one] at hm
      obtain ⟨z, hz, -, -⟩ := DataW.trod_int Try.underlying22 hm
      exact ⟨z, hz⟩
    obtain ⟨z1, g1⟩ := ga 0 (by omega)
    obtain ⟨z2, g2⟩ := ga 1 (by omega)
    obtain ⟨z3, g3⟩ := ga 2 (by omega)
    obtain ⟨z4, g4⟩ := ga 3 (by omega)
    cases q0; cases q2; cases q3; cases g1; cases g2; cases g3; cases g4
    rcases DataW.trod_slice Try.underlying25 t4 with ⟨hs, -⟩ | ⟨a, len, cap, el, rest, m, hm, hs, -, -, hlc, hcm, hel, hel2, -, -⟩
    · cases hs
      exact ⟨⟨_, ⟨_, _, _, _⟩, _, _, []⟩, (wfB_eq _).2 ⟨by simp, fun y hy => by simp at hy⟩, reads_mk RF.nil⟩
    · cases hs
      subst hm
      have hone : ∀ i, i < len → ∃ p : api_Rx × List Value, WfB p.1 ∧ Reads W p.1 p.2 ∧ W.cells? 0 (a.add (i * 8)) 8 = some p.2 := by
        intro i hi
        have := hel2 i hi
        rw [h8, List.getElem?_eq_getElem (by omega)] at this
        obtain ⟨cs', k1, k2⟩ := Option.bind_eq_some_iff.1 this
        obtain ⟨r, k3, k4⟩ := ih m (by omega) cs' _ k2
        exact ⟨(r, cs'), k3, k4, k1⟩
      obtain ⟨f, hfam⟩ := Go.Deep.choose_lt hone
      refine ⟨⟨_, ⟨_, _, _, _⟩, _, _, (List.range len).map fun i => (f i).1⟩, (wfB_eq _).2 ⟨?_, fun y hy => ?_⟩, reads_mk (kids_mk (cs := fun i => (f i).2) hlc (fun i hi => (hfam i hi).2.2) fun i hi => (hfam i hi).2.1)⟩
      · simp only [List.length_map, List.length_range]
        have : maxLen = 9223372036854775807 := by decide
        omega
      · obtain ⟨i, hi, rfl⟩ := List.mem_map.1 hy
        exact (hfam i (List.mem_range.1 hi)).1
theorem r1_rx {W : World} {r : api_Rx} {cs : Array Value} (h : Reads W r cs.toList) : R1 Try.prog [] no W (av_api_Rx r) (.agg cs) := by
  refine ⟨cs, rfl, by have := h.1; simpa using this.symm, fun j x v h1 h2 => ?_⟩
  have h2 : cs.toList[j]? = some v := by simpa using h2
  have h3 := h.2 j
  rw [enc_api_Rx_eq] at h3
  match j with
  | 0 => cases h1; exact ⟨rfl, h3 _ _ rfl h2⟩
  | 1 => cases h1; exact ⟨rfl, h3 _ _ rfl h2⟩
  | 2 => cases h1; exact ⟨rfl, h3 _ _ rfl h2⟩
  | 3 => cases h1; exact ⟨rfl, h3 _ _ rfl h2⟩
  | 4 => cases h1; exact ⟨rfl, h3 _ _ rfl h2⟩
  | 5 => cases h1; exact ⟨rfl, h3 _ _ rfl h2⟩
  | 6 => cases h1; exact ⟨rfl, h3 _ _ rfl h2⟩
  | 7 => cases h1; exact ⟨rfl, h3 _ _ rfl h2⟩
  | j + 8 => cases h1
theorem placeAny_ok (x : api_Rx) (hw : WfB x) : C_hecklelaw09_PlaceAny x true := by
  refine W_hecklelaw09_PlaceAny x _ ⟨true, awake_ok, fun _ => ⟨_, refNodesB_ok x hw 300 (by omega) (by omega), fun _ => rfl, fun h => ?_⟩, fun h => by cases h⟩
  have h : 0 ≤ nodesZ x 300 := by have := of_decide_eq_false h; omega
  exact ⟨true, same_ok x (wf_of_nodes x 300 (by omega) h), rfl⟩
end Go.Ev.Pl
