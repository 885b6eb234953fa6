import Derived.Test.YtcenhboabgcjcaaA03
import Derived.Lib.RowBridge
set_option linter.unusedSimpArgs false
set_option linter.unusedVariables false
namespace Go.Ev
open Go Go.Proofs
set_option maxRecDepth 8000
set_option maxHeartbeats 1000000 in
theorem W_hecklelaw05_Text (l : (List Int)) (res : ByteArray)
    (h : (∃ (Inv14 : ByteArray → Int → Prop) (mu15 : ByteArray → Int → Nat), Inv14 ({ data := #[] }) 0 ∧ (∀ (s0 : ByteArray) (i : Int), Inv14 s0 i → (((decide (i < (↑(List.length (List.map enc_u8 l)) : Int)) && decide (i < (12 : Int))) = true → ((0 : Int) ≤ i) ∧ i < ↑(List.length l) ∧ ((0 : Int) ≤ i) ∧ i < ↑(List.length l) ∧ ((0 : Int) ≤ Int.tmod (w64 (gd l i)) (12 : Int) ∧ (0 : Int) ≤ w64 (Int.tmod (w64 (gd l i)) (12 : Int) + 1) ∧ Int.toNat (Int.tmod (w64 (gd l i)) (12 : Int)) ≤ Int.toNat (w64 (Int.tmod (w64 (gd l i)) (12 : Int) + 1)) ∧ Int.toNat (w64 (Int.tmod (w64 (gd l i)) (12 : Int) + 1)) ≤ ByteArray.size { data := #[(97 : UInt8), (97 : UInt8), (98 : UInt8), (98 : UInt8), (99 : UInt8), (99 : UInt8), (45 : UInt8), (90 : UInt8), (10 : UInt8), (48 : UInt8), (0 : UInt8), (255 : UInt8)] }) ∧ ((↑(ByteArray.size s0 + ByteArray.size (ByteArray.extract { data := #[(97 : UInt8), (97 : UInt8), (98 : UInt8), (98 : UInt8), (99 : UInt8), (99 : UInt8), (45 : UInt8), (90 : UInt8), (10 : UInt8), (48 : UInt8), (0 : UInt8), (255 : UInt8)] } (Int.toNat (Int.tmod (w64 (gd l i)) (12 : Int))) (Int.toNat (w64 (Int.tmod (w64 (gd l i)) (12 : Int) + 1))))) : Int) ≤ IntKind.max IntKind.i64) ∧ (Inv14 (s0 ++ ByteArray.extract { data := #[(97 : UInt8), (97 : UInt8), (98 : UInt8), (98 : UInt8), (99 : UInt8), (99 : UInt8), (45 : UInt8), (90 : UInt8), (10 : UInt8), (48 : UInt8), (0 : UInt8), (255 : UInt8)] } (Int.toNat (Int.tmod (w64 (gd l i)) (12 : Int))) (Int.toNat (w64 (Int.tmod (w64 (gd l i)) (12 : Int) + 1)))) (w64 (i + 1)) ∧ mu15 (s0 ++ ByteArray.extract { data := #[(97 : UInt8), (97 : UInt8), (98 : UInt8), (98 : UInt8), (99 : UInt8), (99 : UInt8), (45 : UInt8), (90 : UInt8), (10 : UInt8), (48 : UInt8), (0 : UInt8), (255 : UInt8)] } (Int.toNat (Int.tmod (w64 (gd l i)) (12 : Int))) (Int.toNat (w64 (Int.tmod (w64 (gd l i)) (12 : Int) + 1)))) (w64 (i + 1)) < mu15 s0 i)) ∧ ((decide (i < (↑(List.length (List.map enc_u8 l)) : Int)) && decide (i < (12 : Int))) = false → (res = s0)))))) : C_hecklelaw05_Text l res := by
  unfold C_hecklelaw05_Text
  have kk := cfOk [31] 32
  refine fD (x := bodyOf Try.f15) kk Try.func15 ?_
  refine wkS [1] [(1, vL enc_u8 l)] (by kernel_rfl) ?_
  refine sD kk [] [] [] obN ?_
  refine sD kk [] [] [(10, vS ({ data := #[] }))] obN ?_
  refine qD ?_
  refine sD kk [] [] [(13, vi 0)] obN ?_
  refine bD (id := 0) ?_
  obtain ⟨Inv14, mu15, h0Inv14, hInv14⟩ := h
  refine loD (fun (q : ByteArray × Int) => (fun (s0 : ByteArray) (i : Int) => ([(1, vL enc_u8 l), (10, vS s0), (13, vi i)] : Sta)) q.1 q.2) (fun (q : ByteArray × Int) => Inv14 q.1 q.2) (fun (q : ByteArray × Int) => mu15 q.1 q.2) (({ data := #[] }), 0) [] h0Inv14 ?_
  rintro ⟨s0, i⟩ hi
  have h := hInv14 s0 i hi
  refine qD ?_
  refine sM [] [(37, vB (decide (i < (↑(List.length (List.map enc_u8 l)) : Int)) && decide (i < (12 : Int))))] ?_ (fun hk0 => ?_)
  · refine cD (t := 12) (b := decide (i < (↑(List.length (List.map enc_u8 l)) : Int)) && decide (i < (12 : Int))) (fun hb17 => ?_) (fun hb17 => ?_)
    · have h := h.1 hb17
      refine Sem.skip' (by kernel_rfl) Wk.refl ?_
      show Sem _ _ _ _ _
      refine wkD [37] ?_
      refine qD ?_
      refine bD (id := 1) ?_
      obtain ⟨h18, h⟩ := h
      obtain ⟨h19, h⟩ := h
      obtain ⟨h20, h⟩ := h
      obtain ⟨h21, h⟩ := h
      obtain ⟨h22, h⟩ := h
      obtain ⟨h23, h⟩ := h
      refine rD kk [.e (.pv (.int .u8 (gd l i))), .e (.pv (.int .u8 (gd l i)))] [] [(10, vS (s0 ++ ByteArray.extract { data := #[(97 : UInt8), (97 : UInt8), (98 : UInt8), (98 : UInt8), (99 : UInt8), (99 : UInt8), (45 : UInt8), (90 : UInt8), (10 : UInt8), (48 : UInt8), (0 : UInt8), (255 : UInt8)] } (Int.toNat (Int.tmod (w64 (gd l i)) (12 : Int))) (Int.toNat (w64 (Int.tmod (w64 (gd l i)) (12 : Int) + 1)))))] (obC h18 (obC (idx_ok enc_u8 l i _ rfl h18 h19) (obC (show (12 : Int) ≠ (0 : Int) from by first | decide | rfl | trivial | (simp only [nm] <;> first | decide | rfl | omega)) (obC h20 (obC (idx_ok enc_u8 l i _ rfl h20 h21) (obC (show (12 : Int) ≠ (0 : Int) from by first | decide | rfl | trivial | (simp only [nm] <;> first | decide | rfl | omega)) (obC h22 (obC h23 obN)))))))) ?_
      show Sem _ _ _ _ _
      refine rD kk [] [] [(13, vi (w64 (i + 1)))] obN ?_
      exact lD ((s0 ++ ByteArray.extract { data := #[(97 : UInt8), (97 : UInt8), (98 : UInt8), (98 : UInt8), (99 : UInt8), (99 : UInt8), (45 : UInt8), (90 : UInt8), (10 : UInt8), (48 : UInt8), (0 : UInt8), (255 : UInt8)] } (Int.toNat (Int.tmod (w64 (gd l i)) (12 : Int))) (Int.toNat (w64 (Int.tmod (w64 (gd l i)) (12 : Int) + 1)))), (w64 (i + 1))) [] h
    · have h := h.2 hb17
      refine xD (i := 0) ?_
      show Sem _ _ _ _ _
      refine wkD [1, 13, 37] ?_
      refine sD kk [] [10] [(7, vS s0)] obN ?_
      refine tD ?_
      obtain he0 := h
      subst res
      exact (endD [] (vS s0) []).1
  · rcases Bool.eq_false_or_eq_true (decide (i < (↑(List.length (List.map enc_u8 l)) : Int))) with hb16 | hb16
    · refine sD kk [.b true, .b true, .b true] [] [(37, vB (decide (i < (12 : Int))))] (obC (gtt hb16) (obC (gtt hb16) (obC hb16 obN))) ?_
      exact Sem.cast (by try rw [hb16]; kernel_rfl) hk0
    · refine sD kk [.b false, .b false, .b false] [] [(37, vB false)] (obC (gtf hb16) (obC (gtf hb16) (obC hb16 obN))) ?_
      exact Sem.cast (by try rw [hb16]; kernel_rfl) hk0
set_option maxHeartbeats 1000000 in
theorem W_heckleref05_May (x : api_Rx) (s0 : ByteArray) (res : Bool)
    (h : (∃ r0 : Bool, C_heckleref03_Right x r0 ∧ (res = (r0 && decide ((↑(ByteArray.size s0) : Int) ≤ (10000 : Int)))))) : C_heckleref05_May x s0 res := by
  unfold C_heckleref05_May
  have kk := cfOk [] 12
  refine fD (x := bodyOf Try.f42) kk Try.func42 ?_
  refine wkS [1, 4] [(1, av_api_Rx x), (4, vS s0)] (by kernel_rfl) ?_
  refine sD kk [] [1] [(7, .ptr 8 0), (8, av_api_Rx x)] obN ?_
  obtain ⟨r0, hc0, h⟩ := h
  refine sM [4, 7, 8] [(13, vB (r0 && decide ((↑(ByteArray.size s0) : Int) ≤ (10000 : Int))))] ?_ (fun hk0 => ?_)
  · refine tD ?_
    obtain he0 := h
    subst res
    exact (endD [] (vB (r0 && decide ((↑(ByteArray.size s0) : Int) ≤ (10000 : Int)))) []).1
  · rcases Bool.eq_false_or_eq_true (r0) with hb1 | hb1
    · refine sD kk [.c (vB r0) [], .b true, .b true, .b true, .b true] [4, 7, 8] [(13, vB (decide ((↑(ByteArray.size s0) : Int) ≤ (10000 : Int))))] (obC hc0 (obC (gtt hb1) (obC (gtt hb1) (obC (gtt hb1) (obC hb1 obN))))) ?_
      exact Sem.cast (by try rw [hb1]; kernel_rfl) hk0
    · refine sD kk [.c (vB r0) [], .b false, .b false, .b false, .b false] [4, 7, 8] [(13, vB false)] (obC hc0 (obC (gtf hb1) (obC (gtf hb1) (obC (gtf hb1) (obC hb1 obN))))) ?_
      exact Sem.cast (by try rw [hb1]; kernel_rfl) hk0
set_option maxHeartbeats 1000000 in
theorem W_heckleref05_or (a : (List Bool)) (b : (List Bool)) (res : (List Bool))
    (h : (∃ (Inv12 : List Bool → Int → Prop) (mu13 : List Bool → Int → Nat), Inv12 ([]) 0 ∧ (∀ (out : List Bool) (i : Int), Inv12 out i → (((decide (i < (↑(List.length a) : Int))) = true → ((0 : Int) ≤ i) ∧ i < ↑(List.length a) ∧ (((gd a i) = true → ((gd a i) = true → ((List.length out + (1 : Nat)) * (1 : Nat) ≤ (2 : Nat) ^ (47 : Nat))) ∧ (Inv12 (out ++ [true]) (w64 (i + 1)) ∧ mu13 (out ++ [true]) (w64 (i + 1)) < mu13 out i)) ∧ ((gd a i) = false → ((gd a i) = false → ((0 : Int) ≤ i)) ∧ ((gd a i) = false → i < ↑(List.length b)) ∧ ((gd a i) = false → ((List.length out + (1 : Nat)) * (1 : Nat) ≤ (2 : Nat) ^ (47 : Nat))) ∧ (Inv12 (out ++ [gd b i]) (w64 (i + 1)) ∧ mu13 (out ++ [gd b i]) (w64 (i + 1)) < mu13 out i)))) ∧ ((decide (i < (↑(List.length a) : Int))) = false → (res = out)))))) : C_heckleref05_or a b res := by
  unfold C_heckleref05_or
  have kk := cfOk [26] 27
  refine fD (x := bodyOf Try.f62) kk Try.func62 ?_
  refine wkS [1, 4] [(1, vL enc_bool a), (4, vL enc_bool b)] (by kernel_rfl) ?_
  refine sD kk [] [] [] obN ?_
  refine sDE kk [] [] [(16, .own 4 ([]))] [(16, oL 4 enc_bool ([]))] obN ?_
  refine qD ?_
  refine sD kk [] [] [(19, vi 0)] obN ?_
  refine bD (id := 0) ?_
  obtain ⟨Inv12, mu13, h0Inv12, hInv12⟩ := h
  refine loD (fun (q : List Bool × Int) => (fun (out : List Bool) (i : Int) => ([(1, vL enc_bool a), (4, vL enc_bool b), (16, oL 4 enc_bool out), (19, vi i)] : Sta)) q.1 q.2) (fun (q : List Bool × Int) => Inv12 q.1 q.2) (fun (q : List Bool × Int) => mu13 q.1 q.2) (([]), 0) [] h0Inv12 ?_
  rintro ⟨out, i⟩ hi
  have h := hInv12 out i hi
  refine qD ?_
  refine sDE kk [] [] [(31, vB (decide (i < (↑(List.length (List.map enc_bool a)) : Int))))] [(31, vB (decide (i < (↑(List.length a) : Int))))] obN ?_
  refine cD (t := 10) (b := decide (i < (↑(List.length a) : Int))) (fun hb14 => ?_) (fun hb14 => ?_)
  · have h := h.1 hb14
    refine Sem.skip' (by kernel_rfl) Wk.refl ?_
    show Sem _ _ _ _ _
    refine wkD [31] ?_
    refine qD ?_
    refine bD (id := 1) ?_
    obtain ⟨h15, h⟩ := h
    obtain ⟨h16, h⟩ := h
    rcases Bool.eq_false_or_eq_true (gd a i) with hb17 | hb17
    · have h := h.1 hb17
      obtain ⟨h21, h⟩ := h
      refine rDE kk [.e (fB (gd a i)), .b false, .b false, .b false, .b false, .b true] [] [(16, .own 4 (List.map enc_bool out ++ List.take (List.length [FV.pv (Value.bool true)]) (List.drop (0 : Nat) [FV.pv (Value.bool true)])))] [(16, oL 4 enc_bool (out ++ [true]))] (obC h15 (obC (idx_ok enc_bool a i _ rfl h15 h16) (obC (gff hb17) (obC (gff hb17) (obC (gff hb17) (obC (gff hb17) (obC hb17 (obC (show (0 : Nat) = (0 : Nat) ∧ List.length (List.map enc_bool out) = List.length (List.map enc_bool out) from by first | decide | rfl | trivial | (simp only [nm] <;> first | decide | rfl | omega)) (obC (show (List.length (List.map enc_bool out) + List.length (List.take (1 : Nat) (List.drop (0 : Nat) [FV.pv (Value.bool true)]))) * (1 : Nat) ≤ (2 : Nat) ^ (47 : Nat) from by simpa only [nm] using (h21 hb17)) (obC (show List.all (List.take (1 : Nat) (List.drop (0 : Nat) [FV.pv (Value.bool true)])) (FV.fits (1 : Nat)) = true from by first | decide | rfl | trivial | (simp only [nm] <;> first | decide | rfl | omega)) obN)))))))))) ?_
      show Sem _ _ _ _ _
      refine rD kk [] [] [(19, vi (w64 (i + 1)))] obN ?_
      exact lD ((out ++ [true]), (w64 (i + 1))) [] h
    · have h := h.2 hb17
      obtain ⟨h18, h⟩ := h
      obtain ⟨h19, h⟩ := h
      obtain ⟨h20, h⟩ := h
      refine rDE kk [.e (fB (gd a i)), .b true, .b true, .b true, .e (fB (gd b i)), .b true, .b false] [] [(16, .own 4 (List.map enc_bool out ++ List.take (List.length [FV.pv (Value.bool (gd b i))]) (List.drop (0 : Nat) [FV.pv (Value.bool (gd b i))])))] [(16, oL 4 enc_bool (out ++ [gd b i]))] (obC h15 (obC (idx_ok enc_bool a i _ rfl h15 h16) (obC (gft hb17) (obC (gft hb17) (obC (gft hb17) (obC (h18 hb17) (obC (idx_ok enc_bool b i _ rfl (h18 hb17) (h19 hb17)) (obC (gft hb17) (obC hb17 (obC (show (0 : Nat) = (0 : Nat) ∧ List.length (List.map enc_bool out) = List.length (List.map enc_bool out) from by first | decide | rfl | trivial | (simp only [nm] <;> first | decide | rfl | omega)) (obC (show (List.length (List.map enc_bool out) + List.length (List.take (1 : Nat) (List.drop (0 : Nat) [FV.pv (Value.bool (gd b i))]))) * (1 : Nat) ≤ (2 : Nat) ^ (47 : Nat) from by simpa only [nm] using (h20 hb17)) (obC (show List.all (List.take (1 : Nat) (List.drop (0 : Nat) [FV.pv (Value.bool (gd b i))])) (FV.fits (1 : Nat)) = true from by first | exact fits_bool _ | rfl | simp [FV.fits, FV.size, FV.cells, FV.one, ]) obN)))))))))))) ?_
      show Sem _ _ _ _ _
      refine rD kk [] [] [(19, vi (w64 (i + 1)))] obN ?_
      exact lD ((out ++ [gd b i]), (w64 (i + 1))) [] h
  · have h := h.2 hb14
    refine xD (i := 0) ?_
    show Sem _ _ _ _ _
    refine wkD [1, 4, 19, 31] ?_
    refine sD kk [] [16] [(13, oL 4 enc_bool out)] obN ?_
    refine tD ?_
    obtain he0 := h
    subst res
    exact (endD [] (oL 4 enc_bool out) []).1
set_option maxHeartbeats 1000000 in
theorem W_heckleref05_closed (x : api_Rx) (res : Bool)
    (h : (res = (api_Rx.Kind x == (5 : Int) && (decide (api_Rx.Hi x < (0 : Int)) && decide (api_Rx.Lo x ≤ (1 : Int)))))) : C_heckleref05_closed x res := by
  unfold C_heckleref05_closed
  have kk := cfOk [] 16
  refine fD (x := bodyOf Try.f63) kk Try.func63 ?_
  refine wkS [1] [(1, av_api_Rx x)] (by kernel_rfl) ?_
  refine sD kk [] [1] [(4, .ptr 5 0), (5, av_api_Rx x)] obN ?_
  refine sM [4, 5] [(7, vB (api_Rx.Kind x == (5 : Int) && (decide (api_Rx.Hi x < (0 : Int)) && decide (api_Rx.Lo x ≤ (1 : Int)))))] ?_ (fun hk0 => ?_)
  · refine tD ?_
    obtain he0 := h
    subst res
    exact (endD [] (vB (api_Rx.Kind x == (5 : Int) && (decide (api_Rx.Hi x < (0 : Int)) && decide (api_Rx.Lo x ≤ (1 : Int))))) []).1
  · rcases Bool.eq_false_or_eq_true (api_Rx.Kind x == (5 : Int)) with hb0 | hb0
    · rcases Bool.eq_false_or_eq_true (decide (api_Rx.Hi x < (0 : Int))) with hb1 | hb1
      · refine sD kk [.b true, .b true, .b true, .b true, .b true, .b true, .b true, .b true] [4, 5] [(7, vB (decide (api_Rx.Lo x ≤ (1 : Int))))] (obC (gtt hb0) (obC (gtt hb0) (obC (gtt hb0) (obC hb0 (obC (gtt hb1) (obC (gtt hb1) (obC (gtt hb1) (obC hb1 obN)))))))) ?_
        exact Sem.cast (by try rw [hb0]; try rw [hb1]; kernel_rfl) hk0
      · refine sD kk [.b true, .b true, .b true, .b true, .b false, .b false, .b false, .b false] [4, 5] [(7, vB false)] (obC (gtt hb0) (obC (gtt hb0) (obC (gtt hb0) (obC hb0 (obC (gtf hb1) (obC (gtf hb1) (obC (gtf hb1) (obC hb1 obN)))))))) ?_
        exact Sem.cast (by try rw [hb0]; try rw [hb1]; kernel_rfl) hk0
    · refine sD kk [.b false, .b false, .b false, .b false, .b false, .b false, .b false, .b false] [4, 5] [(7, vB false)] (obC (gtf hb0) (obC (gtf hb0) (obC (gtf hb0) (obC hb0 (obC (rfl : false = false) (obC (rfl : false = false) (obC (rfl : false = false) (obC (rfl : false = false) obN)))))))) ?_
      exact Sem.cast (by try rw [hb0]; kernel_rfl) hk0
set_option maxHeartbeats 1000000 in
theorem W_heckleref05_within (a : (List Bool)) (b : (List Bool)) (res : Bool)
    (h : (∃ (Inv12 : Int → Prop) (mu13 : Int → Nat), Inv12 0 ∧ (∀ (i : Int), Inv12 i → (((decide (i < (↑(List.length a) : Int))) = true → ((0 : Int) ≤ i) ∧ i < ↑(List.length a) ∧ ((gd a i) = true → ((0 : Int) ≤ i)) ∧ ((gd a i) = true → i < ↑(List.length b)) ∧ (((gd a i && !gd b i) = true → (res = false)) ∧ ((gd a i && !gd b i) = false → (Inv12 (w64 (i + 1)) ∧ mu13 (w64 (i + 1)) < mu13 i)))) ∧ ((decide (i < (↑(List.length a) : Int))) = false → (res = true)))))) : C_heckleref05_within a b res := by
  unfold C_heckleref05_within
  have kk := cfOk [] 23
  refine fD (x := bodyOf Try.f64) kk Try.func64 ?_
  refine wkS [1, 4] [(1, vL enc_bool a), (4, vL enc_bool b)] (by kernel_rfl) ?_
  refine sD kk [] [] [] obN ?_
  refine qD ?_
  refine sD kk [] [] [(16, vi 0)] obN ?_
  refine bD (id := 0) ?_
  obtain ⟨Inv12, mu13, h0Inv12, hInv12⟩ := h
  refine loD (fun (q : Int) => (fun (i : Int) => ([(1, vL enc_bool a), (4, vL enc_bool b), (16, vi i)] : Sta)) q) (fun (q : Int) => Inv12 q) (fun (q : Int) => mu13 q) 0 [] h0Inv12 ?_
  rintro i hi
  have h := hInv12 i hi
  refine qD ?_
  refine sDE kk [] [] [(28, vB (decide (i < (↑(List.length (List.map enc_bool a)) : Int))))] [(28, vB (decide (i < (↑(List.length a) : Int))))] obN ?_
  refine cD (t := 9) (b := decide (i < (↑(List.length a) : Int))) (fun hb14 => ?_) (fun hb14 => ?_)
  · have h := h.1 hb14
    refine Sem.skip' (by kernel_rfl) Wk.refl ?_
    show Sem _ _ _ _ _
    refine wkD [28] ?_
    refine qD ?_
    refine bD (id := 1) ?_
    obtain ⟨h15, h⟩ := h
    obtain ⟨h16, h⟩ := h
    obtain ⟨h18, h19, h⟩ := h
    refine sM [] [(67, vB (gd a i && !gd b i))] ?_ (fun hk0 => ?_)
    · refine cD (t := 22) (b := gd a i && !gd b i) (fun hb20 => ?_) (fun hb20 => ?_)
      · have h := h.1 hb20
        refine sD kk [] [1, 4, 16, 67] [(13, vB false)] obN ?_
        refine tD ?_
        obtain he0 := h
        subst res
        exact (endD [] (vB false) []).1
      · have h := h.2 hb20
        refine Sem.skip' (by kernel_rfl) Wk.refl ?_
        show Sem _ _ _ _ _
        refine wkD [67] ?_
        refine rD kk [] [] [(16, vi (w64 (i + 1)))] obN ?_
        exact lD (w64 (i + 1)) [] h
    · rcases Bool.eq_false_or_eq_true (gd a i) with hb17 | hb17
      · refine sD kk [.e (fB (gd a i)), .b true, .b true, .b true, .e (fB (gd b i)), .b true, .b true, .b true] [] [(67, vB (!gd b i))] (obC h15 (obC (idx_ok enc_bool a i _ rfl h15 h16) (obC (gtt hb17) (obC (gtt hb17) (obC (gtt hb17) (obC (h18 hb17) (obC (idx_ok enc_bool b i _ rfl (h18 hb17) (h19 hb17)) (obC (gtt hb17) (obC (gtt hb17) (obC hb17 obN)))))))))) ?_
        exact Sem.cast (by try rw [hb17]; kernel_rfl) hk0
      · refine sD kk [.e (fB (gd a i)), .b false, .b false, .b false, .b false, .b false, .b false] [] [(67, vB false)] (obC h15 (obC (idx_ok enc_bool a i _ rfl h15 h16) (obC (gtf hb17) (obC (gtf hb17) (obC (gtf hb17) (obC (gtf hb17) (obC (gtf hb17) (obC hb17 obN)))))))) ?_
        exact Sem.cast (by try rw [hb17]; kernel_rfl) hk0
  · have h := h.2 hb14
    refine xD (i := 0) ?_
    show Sem _ _ _ _ _
    refine wkD [1, 4, 16, 28] ?_
    refine sD kk [] [] [(13, vB true)] obN ?_
    refine tD ?_
    obtain he0 := h
    subst res
    exact (endD [] (vB true) []).1
set_option maxHeartbeats 1000000 in
theorem W_heckleref05_step (x : api_Rx) (s0 : ByteArray) (from0 : (List Bool)) (res : (List Bool))
    (h : ((0 : Int) ≤ (↑(List.length from0) : Int) ∧ (↑(List.length from0) : Int) ≤ (↑(List.length from0) : Int) ∧ (↑(List.length from0) : Int) < (2 : Int) ^ (40 : Nat) ∧ (↑(1 : Nat) : Int) * (↑(List.length from0) : Int) ≤ (2 : Int) ^ (47 : Nat)) ∧ (∃ J119 : List Bool → Prop, (∀ (out_3 : List Bool), J119 out_3 → (res = out_3)) ∧ (((api_Rx.Kind x == 1) = true → J119 (from0 ++ List.drop (List.length from0) (List.replicate (List.length from0) false))) ∧ ((api_Rx.Kind x == 1) = false → (((api_Rx.Kind x == (2 : Int)) = true → (∃ (Inv144 : List Bool → Int → Prop) (mu145 : List Bool → Int → Nat), Inv144 (List.replicate (List.length from0) false) 0 ∧ (∀ (out_4 : List Bool) (i_5 : Int), Inv144 out_4 i_5 → (((decide (i_5 < (↑(ByteArray.size s0) : Int))) = true → ((0 : Int) ≤ i_5) ∧ i_5 < ↑(List.length from0) ∧ (((gd from0 i_5) = true → ((gd from0 i_5) = true → ((0 : Int) ≤ i_5)) ∧ ((gd from0 i_5) = true → i_5 < ↑(ByteArray.size s0)) ∧ (∃ r0_29 : Bool, C_heckleref01_Has (api_Rx.Set x) (w64 (↑(UInt8.toNat (byteAt s0 i_5)) : Int)) r0_29 ∧ ((gd from0 i_5) = true → ((0 : Int) ≤ w64 (i_5 + 1))) ∧ ((gd from0 i_5) = true → (Int.toNat (w64 (i_5 + 1)) < List.length out_4)) ∧ ((gd from0 i_5) = true → w64 (i_5 + 1) < ↑(List.length out_4)) ∧ (Inv144 (List.set out_4 (Int.toNat (w64 (i_5 + 1))) r0_29) (w64 (i_5 + 1)) ∧ mu145 (List.set out_4 (Int.toNat (w64 (i_5 + 1))) r0_29) (w64 (i_5 + 1)) < mu145 out_4 i_5))) ∧ ((gd from0 i_5) = false → ((gd from0 i_5) = false → ((0 : Int) ≤ w64 (i_5 + 1))) ∧ ((gd from0 i_5) = false → (Int.toNat (w64 (i_5 + 1)) < List.length out_4)) ∧ ((gd from0 i_5) = false → w64 (i_5 + 1) < ↑(List.length out_4)) ∧ (Inv144 (List.set out_4 (Int.toNat (w64 (i_5 + 1))) false) (w64 (i_5 + 1)) ∧ mu145 (List.set out_4 (Int.toNat (w64 (i_5 + 1))) false) (w64 (i_5 + 1)) < mu145 out_4 i_5)))) ∧ ((decide (i_5 < (↑(ByteArray.size s0) : Int))) = false → J119 out_4))))) ∧ ((api_Rx.Kind x == (2 : Int)) = false → (((api_Rx.Kind x == (3 : Int)) = true → (∃ (Inv167 : List Bool → Int → Prop) (mu168 : List Bool → Int → Nat), Inv167 from0 0 ∧ (∀ (now_3 : List Bool) (i_6 : Int), Inv167 now_3 i_6 → (((decide (i_6 < (↑(List.length (api_Rx.Kids x)) : Int))) = true → ((0 : Int) ≤ i_6) ∧ i_6 < ↑(List.length (api_Rx.Kids x)) ∧ (∃ r0_32 : List Bool, C_heckleref05_step (gd (api_Rx.Kids x) i_6) s0 now_3 r0_32 ∧ (Inv167 r0_32 (w64 (i_6 + 1)) ∧ mu168 r0_32 (w64 (i_6 + 1)) < mu168 now_3 i_6))) ∧ ((decide (i_6 < (↑(List.length (api_Rx.Kids x)) : Int))) = false → J119 (List.take (List.length from0) now_3 ++ List.drop (List.length now_3) (List.replicate (List.length from0) false))))))) ∧ ((api_Rx.Kind x == (3 : Int)) = false → (((api_Rx.Kind x == (4 : Int)) = true → (∃ (Inv183 : List Bool → Int → Prop) (mu184 : List Bool → Int → Nat), Inv183 (List.replicate (List.length from0) false) 0 ∧ (∀ (out_5 : List Bool) (i_7 : Int), Inv183 out_5 i_7 → (((decide (i_7 < (↑(List.length (api_Rx.Kids x)) : Int))) = true → ((0 : Int) ≤ i_7) ∧ i_7 < ↑(List.length (api_Rx.Kids x)) ∧ (∃ r0_37 : List Bool, C_heckleref05_step (gd (api_Rx.Kids x) i_7) s0 from0 r0_37 ∧ (∃ r0_38 : List Bool, C_heckleref05_or out_5 r0_37 r0_38 ∧ (Inv183 r0_38 (w64 (i_7 + 1)) ∧ mu184 r0_38 (w64 (i_7 + 1)) < mu184 out_5 i_7)))) ∧ ((decide (i_7 < (↑(List.length (api_Rx.Kids x)) : Int))) = false → J119 out_5))))) ∧ ((api_Rx.Kind x == (4 : Int)) = false → (((api_Rx.Kind x == (5 : Int)) = true → (∃ r0_39 : Int, C_heckleref03_Size x r0_39 ∧ (((r0_39 == 0) = true → (res = (from0 ++ List.drop (List.length from0) (List.replicate (List.length from0) false)))) ∧ ((r0_39 == 0) = false → (∃ (Inv199 : List Bool → Int → Prop) (mu200 : List Bool → Int → Nat), Inv199 from0 0 ∧ (∀ (now_4 : List Bool) (i_8 : Int), Inv199 now_4 i_8 → (((decide (i_8 < api_Rx.Lo x)) = true → (0 : Nat) < List.length (api_Rx.Kids x) ∧ (∃ r0_42 : List Bool, C_heckleref05_step (List.getD (api_Rx.Kids x) (0 : Nat) default) s0 now_4 r0_42 ∧ (Inv199 r0_42 (w64 (i_8 + 1)) ∧ mu200 r0_42 (w64 (i_8 + 1)) < mu200 now_4 i_8))) ∧ ((decide (i_8 < api_Rx.Lo x)) = false → (∃ J205 : Int → Prop, (∀ (most_2 : Int), J205 most_2 → (∃ J211 : Int → Prop, (∀ (most_3 : Int), J211 most_3 → (∃ (Inv224 : List Bool → List Bool → Int → Prop) (mu225 : List Bool → List Bool → Int → Nat), Inv224 (List.take (List.length from0) now_4 ++ List.drop (List.length now_4) (List.replicate (List.length from0) false)) now_4 0 ∧ (∀ (out_6 : List Bool) (now_5 : List Bool) (i_9 : Int), Inv224 out_6 now_5 i_9 → (((decide (i_9 < most_3)) = true → (0 : Nat) < List.length (api_Rx.Kids x) ∧ (∃ r0_50 : List Bool, C_heckleref05_step (List.getD (api_Rx.Kids x) (0 : Nat) default) s0 now_5 r0_50 ∧ (∃ r0_51 : Bool, C_heckleref05_within r0_50 out_6 r0_51 ∧ (((r0_51) = true → J119 out_6) ∧ ((r0_51) = false → (∃ r0_52 : List Bool, C_heckleref05_or out_6 r0_50 r0_52 ∧ (Inv224 r0_52 r0_50 (w64 (i_9 + 1)) ∧ mu225 r0_52 r0_50 (w64 (i_9 + 1)) < mu225 out_6 now_5 i_9))))))) ∧ ((decide (i_9 < most_3)) = false → J119 out_6))))) ∧ (((decide (api_Rx.Hi x < (0 : Int))) = true → ((decide (api_Rx.Hi x < (0 : Int))) = true → (0 : Nat) < List.length (api_Rx.Kids x)) ∧ (∃ r0_53 : Bool, C_heckleref05_closed (List.getD (api_Rx.Kids x) (0 : Nat) default) r0_53 ∧ (((r0_53) = true → J211 (if w64 ((1 : Int) - api_Rx.Lo x) > (0 : Int) then w64 ((1 : Int) - api_Rx.Lo x) else (0 : Int))) ∧ ((r0_53) = false → J211 most_2)))) ∧ ((decide (api_Rx.Hi x < (0 : Int))) = false → J211 most_2)))) ∧ (((decide (api_Rx.Hi x < (0 : Int))) = true → J205 ((↑(List.length from0) : Int))) ∧ ((decide (api_Rx.Hi x < (0 : Int))) = false → J205 (w64 (api_Rx.Hi x - api_Rx.Lo x))))))))))))) ∧ ((api_Rx.Kind x == (5 : Int)) = false → J119 (List.replicate (List.length from0) false))))))))))))) : C_heckleref05_step x s0 from0 res := by
  unfold C_heckleref05_step
  have kk := cfOk [99, 159] 160
  refine fD (x := bodyOf Try.f43) kk Try.func43 ?_
  refine wkS [1, 4, 7] [(1, av_api_Rx x), (4, vS s0), (7, vL enc_bool from0)] (by kernel_rfl) ?_
  refine sD kk [] [1] [(10, .ptr 11 0), (11, av_api_Rx x)] obN ?_
  obtain ⟨h0, h⟩ := h
  refine sDE kk [] [] [(22, .own 4 (List.replicate (Int.toNat (↑(List.length (List.map enc_bool from0)) : Int)) (FV.pv (Value.bool false))))] [(22, oL 4 enc_bool (List.replicate (List.length from0) false))] (obC (show (0 : Int) ≤ (↑(List.length (List.map enc_bool from0)) : Int) ∧ (↑(List.length (List.map enc_bool from0)) : Int) ≤ (↑(List.length (List.map enc_bool from0)) : Int) ∧ (↑(List.length (List.map enc_bool from0)) : Int) < (2 : Int) ^ (40 : Nat) ∧ (↑(1 : Nat) : Int) * (↑(List.length (List.map enc_bool from0)) : Int) ≤ (2 : Int) ^ (47 : Nat) from by simpa only [nm] using h0) obN) ?_
  obtain ⟨J119, hJ119, h⟩ := h
  refine sjD (fun (q : List Bool) => J119 q) (fun (q : List Bool) => (fun (out_3 : List Bool) => ([(22, vL enc_bool out_3)] : Sta)) q) ?_ ?_
  · rintro out_3 hj
    have h := hJ119 out_3 hj
    refine sD kk [] [22] [(19, vL enc_bool out_3)] obN ?_
    refine tD ?_
    obtain he0 := h
    subst res
    exact (endD [] (vL enc_bool out_3) []).1
  · refine sD kk [] [] [(61, vi (api_Rx.Kind x))] obN ?_
    refine bD (id := 0) ?_
    refine sD kk [] [] [(64, vB (api_Rx.Kind x == 1))] obN ?_
    refine cD (t := 21) (b := api_Rx.Kind x == 1) (fun hb120 => ?_) (fun hb120 => ?_)
    · have h := h.1 hb120
      refine rDE kk [] [4, 7, 10, 11, 61, 64] [(22, .own 4 (List.take (List.length (List.map enc_bool (List.replicate (List.length from0) false))) (List.map enc_bool from0) ++ List.drop (List.length (List.map enc_bool from0)) (List.map enc_bool (List.replicate (List.length from0) false))))] [(22, oL 4 enc_bool (from0 ++ List.drop (List.length from0) (List.replicate (List.length from0) false)))] (obC (show (0 : Nat) = (0 : Nat) ∧ List.length (List.map enc_bool (List.replicate (List.length from0) false)) = List.length (List.map enc_bool (List.replicate (List.length from0) false)) from by first | decide | rfl | trivial | (simp only [nm] <;> first | decide | rfl | omega)) (obC (show List.all (List.map enc_bool from0) (FV.fits (1 : Nat)) = true from by first | exact fits_bool _ | rfl | simp [FV.fits, FV.size, FV.cells, FV.one, enc_bool]) obN)) ?_
      exact jD (from0 ++ List.drop (List.length from0) (List.replicate (List.length from0) false)) [(22, 0)] h
    · have h := h.2 hb120
      refine sD kk [] [64] [(79, vB (api_Rx.Kind x == (2 : Int)))] obN ?_
      refine cD (t := 26) (b := api_Rx.Kind x == (2 : Int)) (fun hb121 => ?_) (fun hb121 => ?_)
      · have h := h.1 hb121
        refine sD kk [] [61, 79] [(25, vi 0)] obN ?_
        refine bD (id := 1) ?_
        obtain ⟨Inv144, mu145, h0Inv144, hInv144⟩ := h
        refine loD (fun (q : List Bool × Int) => (fun (out_4 : List Bool) (i_5 : Int) => ([(4, vS s0), (7, vL enc_bool from0), (10, .ptr 11 0), (11, av_api_Rx x), (22, oL 4 enc_bool out_4), (25, vi i_5)] : Sta)) q.1 q.2) (fun (q : List Bool × Int) => Inv144 q.1 q.2) (fun (q : List Bool × Int) => mu145 q.1 q.2) ((List.replicate (List.length from0) false), 0) [] h0Inv144 ?_
        rintro ⟨out_4, i_5⟩ hi
        have h := hInv144 out_4 i_5 hi
        refine qD ?_
        refine sD kk [] [] [(94, vB (decide (i_5 < (↑(ByteArray.size s0) : Int))))] obN ?_
        refine cD (t := 31) (b := decide (i_5 < (↑(ByteArray.size s0) : Int))) (fun hb146 => ?_) (fun hb146 => ?_)
        · have h := h.1 hb146
          refine Sem.skip' (by kernel_rfl) Wk.refl ?_
          show Sem _ _ _ _ _
          refine wkD [94] ?_
          refine qD ?_
          refine bD (id := 2) ?_
          obtain ⟨h147, h⟩ := h
          obtain ⟨h148, h⟩ := h
          rcases Bool.eq_false_or_eq_true (gd from0 i_5) with hb149 | hb149
          · have h := h.1 hb149
            obtain ⟨h150, h⟩ := h
            obtain ⟨h151, h⟩ := h
            obtain ⟨r0_29, hc152, h⟩ := h
            obtain ⟨h153, h⟩ := h
            obtain ⟨h154, h⟩ := h
            obtain ⟨h155, h⟩ := h
            refine rDE kk [.e (fB (gd from0 i_5)), .b true, .b true, .b true, .b true, .b true, .y (byteAt s0 i_5), .b true, .b true, .c (vB r0_29) [], .b true, .e (fB (gd out_4 (w64 (i_5 + 1))))] [] [(22, .own 4 (List.set (List.map enc_bool out_4) ((0 : Nat) + Int.toNat (w64 (i_5 + 1))) (FV.pv (Value.bool r0_29))))] [(22, oL 4 enc_bool (List.set out_4 (Int.toNat (w64 (i_5 + 1))) r0_29))] (obC h147 (obC (idx_ok enc_bool from0 i_5 _ rfl h147 h148) (obC (gtt hb149) (obC (gtt hb149) (obC (gtt hb149) (obC (gtt hb149) (obC (gtt hb149) (obC (h150 hb149) (obC (byte_ok s0 i_5 (h150 hb149) (h151 hb149)) (obC (gtt hb149) (obC (gtt hb149) (obC hc152 (obC hb149 (obC (h153 hb149) (obC (show Int.toNat (w64 (i_5 + 1)) < List.length (List.map enc_bool out_4) from by simpa only [nm] using (h154 hb149)) (obC (show (List.map enc_bool out_4)[((0 : Nat) + Int.toNat (w64 (i_5 + 1)) : Nat)]? = some (fB (gd out_4 (w64 (i_5 + 1)))) from by have := idx_ok enc_bool out_4 (w64 (i_5 + 1)) _ rfl (h153 hb149) (h155 hb149); simpa only [nm, enq, enc_bool] using this) obN)))))))))))))))) ?_
            show Sem _ _ _ _ _
            refine rD kk [] [] [(25, vi (w64 (i_5 + 1)))] obN ?_
            exact lD ((List.set out_4 (Int.toNat (w64 (i_5 + 1))) r0_29), (w64 (i_5 + 1))) [] h
          · have h := h.2 hb149
            obtain ⟨h156, h⟩ := h
            obtain ⟨h157, h⟩ := h
            obtain ⟨h158, h⟩ := h
            refine rDE kk [.e (fB (gd from0 i_5)), .b false, .b false, .b false, .b false, .b false, .b false, .b false, .b false, .e (fB (gd out_4 (w64 (i_5 + 1))))] [] [(22, .own 4 (List.set (List.map enc_bool out_4) ((0 : Nat) + Int.toNat (w64 (i_5 + 1))) (FV.pv (Value.bool false))))] [(22, oL 4 enc_bool (List.set out_4 (Int.toNat (w64 (i_5 + 1))) false))] (obC h147 (obC (idx_ok enc_bool from0 i_5 _ rfl h147 h148) (obC (gtf hb149) (obC (gtf hb149) (obC (gtf hb149) (obC (gtf hb149) (obC (gtf hb149) (obC (gtf hb149) (obC (gtf hb149) (obC hb149 (obC (h156 hb149) (obC (show Int.toNat (w64 (i_5 + 1)) < List.length (List.map enc_bool out_4) from by simpa only [nm] using (h157 hb149)) (obC (show (List.map enc_bool out_4)[((0 : Nat) + Int.toNat (w64 (i_5 + 1)) : Nat)]? = some (fB (gd out_4 (w64 (i_5 + 1)))) from by have := idx_ok enc_bool out_4 (w64 (i_5 + 1)) _ rfl (h156 hb149) (h158 hb149); simpa only [nm, enq, enc_bool] using this) obN))))))))))))) ?_
            show Sem _ _ _ _ _
            refine rD kk [] [] [(25, vi (w64 (i_5 + 1)))] obN ?_
            exact lD ((List.set out_4 (Int.toNat (w64 (i_5 + 1))) false), (w64 (i_5 + 1))) [] h
        · have h := h.2 hb146
          refine xD (i := 1) ?_
          exact jD out_4 [(22, 0)] h
      · have h := h.2 hb121
        refine sD kk [] [79] [(154, vB (api_Rx.Kind x == (3 : Int)))] obN ?_
        refine cD (t := 51) (b := api_Rx.Kind x == (3 : Int)) (fun hb159 => ?_) (fun hb159 => ?_)
        · have h := h.1 hb159
          refine sD kk [] [7, 61, 154] [(28, vL enc_bool from0)] obN ?_
          refine qD ?_
          refine sD kk [] [] [(31, vi 0)] obN ?_
          refine bD (id := 3) ?_
          obtain ⟨Inv167, mu168, h0Inv167, hInv167⟩ := h
          refine loD (fun (q : List Bool × Int) => (fun (now_3 : List Bool) (i_6 : Int) => ([(4, vS s0), (10, .ptr 11 0), (11, av_api_Rx x), (22, oL 4 enc_bool (List.replicate (List.length from0) false)), (28, vL enc_bool now_3), (31, vi i_6)] : Sta)) q.1 q.2) (fun (q : List Bool × Int) => Inv167 q.1 q.2) (fun (q : List Bool × Int) => mu168 q.1 q.2) (from0, 0) [] h0Inv167 ?_
          rintro ⟨now_3, i_6⟩ hi
          have h := hInv167 now_3 i_6 hi
          refine qD ?_
          refine sDE kk [] [] [(175, vB (decide (i_6 < (↑(List.length (List.map enc_api_Rx (api_Rx.Kids x))) : Int))))] [(175, vB (decide (i_6 < (↑(List.length (api_Rx.Kids x)) : Int))))] obN ?_
          refine cD (t := 58) (b := decide (i_6 < (↑(List.length (api_Rx.Kids x)) : Int))) (fun hb169 => ?_) (fun hb169 => ?_)
          · have h := h.1 hb169
            refine Sem.skip' (by kernel_rfl) Wk.refl ?_
            show Sem _ _ _ _ _
            refine wkD [175] ?_
            refine qD ?_
            refine bD (id := 4) ?_
            obtain ⟨h170, h⟩ := h
            obtain ⟨h171, h⟩ := h
            obtain ⟨r0_32, hc172, h⟩ := h
            refine rD kk [.e (fv_api_Rx (gd (api_Rx.Kids x) i_6)), .c (vL enc_bool r0_32) []] [] [(28, vL enc_bool r0_32)] (obC h170 (obC (idx_ok enc_api_Rx (api_Rx.Kids x) i_6 _ (enc_api_Rx_eq _) h170 h171) (obC hc172 obN))) ?_
            show Sem _ _ _ _ _
            refine rD kk [] [] [(31, vi (w64 (i_6 + 1)))] obN ?_
            exact lD (r0_32, (w64 (i_6 + 1))) [] h
          · have h := h.2 hb169
            refine xD (i := 3) ?_
            show Sem _ _ _ _ _
            refine wkD [4, 10, 11, 31, 175] ?_
            refine rDE kk [] [28] [(22, .own 4 (List.take (List.length (List.map enc_bool (List.replicate (List.length from0) false))) (List.map enc_bool now_3) ++ List.drop (List.length (List.map enc_bool now_3)) (List.map enc_bool (List.replicate (List.length from0) false))))] [(22, oL 4 enc_bool (List.take (List.length from0) now_3 ++ List.drop (List.length now_3) (List.replicate (List.length from0) false)))] (obC (show (0 : Nat) = (0 : Nat) ∧ List.length (List.map enc_bool (List.replicate (List.length from0) false)) = List.length (List.map enc_bool (List.replicate (List.length from0) false)) from by first | decide | rfl | trivial | (simp only [nm] <;> first | decide | rfl | omega)) (obC (show List.all (List.map enc_bool now_3) (FV.fits (1 : Nat)) = true from by first | exact fits_bool _ | rfl | simp [FV.fits, FV.size, FV.cells, FV.one, enc_bool]) obN)) ?_
            exact jD (List.take (List.length from0) now_3 ++ List.drop (List.length now_3) (List.replicate (List.length from0) false)) [(22, 0)] h
        · have h := h.2 hb159
          refine sD kk [] [154] [(217, vB (api_Rx.Kind x == (4 : Int)))] obN ?_
          refine cD (t := 72) (b := api_Rx.Kind x == (4 : Int)) (fun hb173 => ?_) (fun hb173 => ?_)
          · have h := h.1 hb173
            refine sD kk [] [61, 217] [(34, vi 0)] obN ?_
            refine bD (id := 5) ?_
            obtain ⟨Inv183, mu184, h0Inv183, hInv183⟩ := h
            refine loD (fun (q : List Bool × Int) => (fun (out_5 : List Bool) (i_7 : Int) => ([(4, vS s0), (7, vL enc_bool from0), (10, .ptr 11 0), (11, av_api_Rx x), (22, oL 4 enc_bool out_5), (34, vi i_7)] : Sta)) q.1 q.2) (fun (q : List Bool × Int) => Inv183 q.1 q.2) (fun (q : List Bool × Int) => mu184 q.1 q.2) ((List.replicate (List.length from0) false), 0) [] h0Inv183 ?_
            rintro ⟨out_5, i_7⟩ hi
            have h := hInv183 out_5 i_7 hi
            refine qD ?_
            refine sDE kk [] [] [(235, vB (decide (i_7 < (↑(List.length (List.map enc_api_Rx (api_Rx.Kids x))) : Int))))] [(235, vB (decide (i_7 < (↑(List.length (api_Rx.Kids x)) : Int))))] obN ?_
            refine cD (t := 78) (b := decide (i_7 < (↑(List.length (api_Rx.Kids x)) : Int))) (fun hb185 => ?_) (fun hb185 => ?_)
            · have h := h.1 hb185
              refine Sem.skip' (by kernel_rfl) Wk.refl ?_
              show Sem _ _ _ _ _
              refine wkD [235] ?_
              refine qD ?_
              refine bD (id := 6) ?_
              obtain ⟨h186, h⟩ := h
              obtain ⟨h187, h⟩ := h
              obtain ⟨r0_37, hc188, h⟩ := h
              obtain ⟨r0_38, hc189, h⟩ := h
              refine rD kk [.e (fv_api_Rx (gd (api_Rx.Kids x) i_7)), .c (vL enc_bool r0_37) [], .c (oL 4 enc_bool r0_38) []] [] [(22, oL 4 enc_bool r0_38)] (obC h186 (obC (idx_ok enc_api_Rx (api_Rx.Kids x) i_7 _ (enc_api_Rx_eq _) h186 h187) (obC hc188 (obC (Eq.mp (by unfold C_heckleref05_or; (try simp only [List.drop_zero, List.take_length]); first | done | simp only [nm, enq] : C_heckleref05_or out_5 r0_37 r0_38 = CallE Try.prog 62 [.f (FV.sl (List.take (List.length (List.map enc_bool out_5)) (List.drop (0 : Nat) (List.map enc_bool out_5)))), vL enc_bool r0_37] [] (oL 4 enc_bool r0_38) []) hc189) obN)))) ?_
              show Sem _ _ _ _ _
              refine rD kk [] [] [(34, vi (w64 (i_7 + 1)))] obN ?_
              exact lD (r0_38, (w64 (i_7 + 1))) [] h
            · have h := h.2 hb185
              refine xD (i := 5) ?_
              exact jD out_5 [(22, 0)] h
          · have h := h.2 hb173
            refine sD kk [] [61, 217] [(274, vB (api_Rx.Kind x == (5 : Int)))] obN ?_
            refine cD (t := 91) (b := api_Rx.Kind x == (5 : Int)) (fun hb190 => ?_) (fun hb190 => ?_)
            · have h := h.1 hb190
              refine qD ?_
              obtain ⟨r0_39, hc191, h⟩ := h
              refine sD kk [.c (vi r0_39) []] [274] [(286, vB (r0_39 == 0))] (obC hc191 obN) ?_
              refine cD (t := 95) (b := r0_39 == 0) (fun hb192 => ?_) (fun hb192 => ?_)
              · have h := h.1 hb192
                refine sDE kk [] [4, 7, 10, 11, 286] [(22, .own 4 (List.take (List.length (List.map enc_bool (List.replicate (List.length from0) false))) (List.map enc_bool from0) ++ List.drop (List.length (List.map enc_bool from0)) (List.map enc_bool (List.replicate (List.length from0) false))))] [(22, oL 4 enc_bool (from0 ++ List.drop (List.length from0) (List.replicate (List.length from0) false)))] (obC (show (0 : Nat) = (0 : Nat) ∧ List.length (List.map enc_bool (List.replicate (List.length from0) false)) = List.length (List.map enc_bool (List.replicate (List.length from0) false)) from by first | decide | rfl | trivial | (simp only [nm] <;> first | decide | rfl | omega)) (obC (show List.all (List.map enc_bool from0) (FV.fits (1 : Nat)) = true from by first | exact fits_bool _ | rfl | simp [FV.fits, FV.size, FV.cells, FV.one, enc_bool]) obN)) ?_
                refine sD kk [] [22] [(19, oL 4 enc_bool (from0 ++ List.drop (List.length from0) (List.replicate (List.length from0) false)))] obN ?_
                refine tD ?_
                obtain he0 := h
                subst res
                exact (endD [(19, 0)] (vL enc_bool (from0 ++ List.drop (List.length from0) (List.replicate (List.length from0) false))) []).1
              · have h := h.2 hb192
                refine Sem.skip' (by kernel_rfl) Wk.refl ?_
                show Sem _ _ _ _ _
                refine wkD [286] ?_
                refine sD kk [] [] [(37, vL enc_bool from0)] obN ?_
                refine qD ?_
                refine sD kk [] [] [(40, vi 0)] obN ?_
                refine bD (id := 7) ?_
                obtain ⟨Inv199, mu200, h0Inv199, hInv199⟩ := h
                refine loD (fun (q : List Bool × Int) => (fun (now_4 : List Bool) (i_8 : Int) => ([(4, vS s0), (7, vL enc_bool from0), (10, .ptr 11 0), (11, av_api_Rx x), (22, oL 4 enc_bool (List.replicate (List.length from0) false)), (37, vL enc_bool now_4), (40, vi i_8)] : Sta)) q.1 q.2) (fun (q : List Bool × Int) => Inv199 q.1 q.2) (fun (q : List Bool × Int) => mu200 q.1 q.2) (from0, 0) [] h0Inv199 ?_
                rintro ⟨now_4, i_8⟩ hi
                have h := hInv199 now_4 i_8 hi
                refine qD ?_
                refine sD kk [] [] [(313, vB (decide (i_8 < api_Rx.Lo x)))] obN ?_
                refine cD (t := 104) (b := decide (i_8 < api_Rx.Lo x)) (fun hb201 => ?_) (fun hb201 => ?_)
                · have h := h.1 hb201
                  refine Sem.skip' (by kernel_rfl) Wk.refl ?_
                  show Sem _ _ _ _ _
                  refine wkD [313] ?_
                  refine qD ?_
                  refine bD (id := 8) ?_
                  obtain ⟨h202, h⟩ := h
                  obtain ⟨r0_42, hc203, h⟩ := h
                  refine rD kk [.e (fv_api_Rx (List.getD (api_Rx.Kids x) (0 : Nat) default)), .c (vL enc_bool r0_42) []] [] [(37, vL enc_bool r0_42)] (obC (show (0 : Int) ≤ (0 : Int) from by first | decide | rfl | trivial | (simp only [nm] <;> first | decide | rfl | omega)) (obC (show (List.map enc_api_Rx (api_Rx.Kids x))[(Int.toNat (0 : Int) : Nat)]? = some (fv_api_Rx (List.getD (api_Rx.Kids x) (0 : Nat) default)) from by have := idx_ok' enc_api_Rx (api_Rx.Kids x) ((0 : Nat)) _ (enc_api_Rx_eq _) h202; simpa only [nm, enq, enc_api_Rx_eq] using this) (obC hc203 obN))) ?_
                  show Sem _ _ _ _ _
                  refine rD kk [] [] [(40, vi (w64 (i_8 + 1)))] obN ?_
                  exact lD (r0_42, (w64 (i_8 + 1))) [] h
                · have h := h.2 hb201
                  refine xD (i := 7) ?_
                  show Sem _ _ _ _ _
                  refine wkD [40, 313] ?_
                  refine sDE kk [] [] [(22, .own 4 (List.take (List.length (List.map enc_bool (List.replicate (List.length from0) false))) (List.map enc_bool now_4) ++ List.drop (List.length (List.map enc_bool now_4)) (List.map enc_bool (List.replicate (List.length from0) false))))] [(22, oL 4 enc_bool (List.take (List.length from0) now_4 ++ List.drop (List.length now_4) (List.replicate (List.length from0) false)))] (obC (show (0 : Nat) = (0 : Nat) ∧ List.length (List.map enc_bool (List.replicate (List.length from0) false)) = List.length (List.map enc_bool (List.replicate (List.length from0) false)) from by first | decide | rfl | trivial | (simp only [nm] <;> first | decide | rfl | omega)) (obC (show List.all (List.map enc_bool now_4) (FV.fits (1 : Nat)) = true from by first | exact fits_bool _ | rfl | simp [FV.fits, FV.size, FV.cells, FV.one, enc_bool]) obN)) ?_
                  refine sD kk [] [] [(43, vi (w64 (api_Rx.Hi x - api_Rx.Lo x)))] obN ?_
                  obtain ⟨J205, hJ205, h⟩ := h
                  refine sjD (fun (q : Int) => J205 q) (fun (q : Int) => (fun (most_2 : Int) => ([(4, vS s0), (10, .ptr 11 0), (11, av_api_Rx x), (22, oL 4 enc_bool (List.take (List.length from0) now_4 ++ List.drop (List.length now_4) (List.replicate (List.length from0) false))), (37, vL enc_bool now_4), (43, vi most_2)] : Sta)) q) ?_ ?_
                  · rintro most_2 hj
                    have h := hJ205 most_2 hj
                    obtain ⟨J211, hJ211, h⟩ := h
                    refine sjD (fun (q : Int) => J211 q) (fun (q : Int) => (fun (most_3 : Int) => ([(4, vS s0), (10, .ptr 11 0), (11, av_api_Rx x), (22, oL 4 enc_bool (List.take (List.length from0) now_4 ++ List.drop (List.length now_4) (List.replicate (List.length from0) false))), (37, vL enc_bool now_4), (43, vi most_3)] : Sta)) q) ?_ ?_
                    · rintro most_3 hj
                      have h := hJ211 most_3 hj
                      refine sD kk [] [] [(46, vi 0)] obN ?_
                      refine bD (id := 9) ?_
                      obtain ⟨Inv224, mu225, h0Inv224, hInv224⟩ := h
                      refine loD (fun (q : List Bool × List Bool × Int) => (fun (out_6 : List Bool) (now_5 : List Bool) (i_9 : Int) => ([(4, vS s0), (10, .ptr 11 0), (11, av_api_Rx x), (22, oL 4 enc_bool out_6), (37, vL enc_bool now_5), (43, vi most_3), (46, vi i_9)] : Sta)) q.1 q.2.1 q.2.2) (fun (q : List Bool × List Bool × Int) => Inv224 q.1 q.2.1 q.2.2) (fun (q : List Bool × List Bool × Int) => mu225 q.1 q.2.1 q.2.2) ((List.take (List.length from0) now_4 ++ List.drop (List.length now_4) (List.replicate (List.length from0) false)), now_4, 0) [] h0Inv224 ?_
                      rintro ⟨out_6, now_5, i_9⟩ hi
                      have h := hInv224 out_6 now_5 i_9 hi
                      refine qD ?_
                      refine sD kk [] [] [(430, vB (decide (i_9 < most_3)))] obN ?_
                      refine cD (t := 143) (b := decide (i_9 < most_3)) (fun hb226 => ?_) (fun hb226 => ?_)
                      · have h := h.1 hb226
                        refine Sem.skip' (by kernel_rfl) Wk.refl ?_
                        show Sem _ _ _ _ _
                        refine wkD [430] ?_
                        refine qD ?_
                        refine bD (id := 10) ?_
                        obtain ⟨h227, h⟩ := h
                        obtain ⟨r0_50, hc228, h⟩ := h
                        refine sD kk [.e (fv_api_Rx (List.getD (api_Rx.Kids x) (0 : Nat) default)), .c (vL enc_bool r0_50) []] [] [(37, vL enc_bool r0_50)] (obC (show (0 : Int) ≤ (0 : Int) from by first | decide | rfl | trivial | (simp only [nm] <;> first | decide | rfl | omega)) (obC (show (List.map enc_api_Rx (api_Rx.Kids x))[(Int.toNat (0 : Int) : Nat)]? = some (fv_api_Rx (List.getD (api_Rx.Kids x) (0 : Nat) default)) from by have := idx_ok' enc_api_Rx (api_Rx.Kids x) ((0 : Nat)) _ (enc_api_Rx_eq _) h227; simpa only [nm, enq, enc_api_Rx_eq] using this) (obC hc228 obN))) ?_
                        refine qD ?_
                        obtain ⟨r0_51, hc229, h⟩ := h
                        refine sD kk [.c (vB r0_51) []] [] [(22, vL enc_bool out_6), (466, vB r0_51)] (obC (Eq.mp (by unfold C_heckleref05_within; (try simp only [List.drop_zero, List.take_length]); first | done | simp only [nm, enq] : C_heckleref05_within r0_50 out_6 r0_51 = CallE Try.prog 64 [vL enc_bool r0_50, .f (FV.sl (List.take (List.length (List.map enc_bool out_6)) (List.drop (0 : Nat) (List.map enc_bool out_6))))] [] (vB r0_51) []) hc229) obN) ?_
                        refine cD (t := 155) (b := r0_51) (fun hb230 => ?_) (fun hb230 => ?_)
                        · have h := h.1 hb230
                          refine xD (i := 9) ?_
                          exact jD out_6 [] h
                        · have h := h.2 hb230
                          refine Sem.skip' (by kernel_rfl) Wk.refl ?_
                          show Sem _ _ _ _ _
                          refine wkD [466] ?_
                          obtain ⟨r0_52, hc231, h⟩ := h
                          refine rD kk [.c (oL 4 enc_bool r0_52) []] [] [(22, oL 4 enc_bool r0_52)] (obC hc231 obN) ?_
                          show Sem _ _ _ _ _
                          refine rD kk [] [] [(46, vi (w64 (i_9 + 1)))] obN ?_
                          exact lD (r0_52, r0_50, (w64 (i_9 + 1))) [] h
                      · have h := h.2 hb226
                        refine xD (i := 9) ?_
                        exact jD out_6 [(22, 0)] h
                    · rcases Bool.eq_false_or_eq_true (decide (api_Rx.Hi x < (0 : Int))) with hb232 | hb232
                      · have h := h.1 hb232
                        obtain ⟨h233, h⟩ := h
                        obtain ⟨r0_53, hc234, h⟩ := h
                        refine sD kk [.b true, .b true, .b true, .e (fv_api_Rx (List.getD (api_Rx.Kids x) (0 : Nat) default)), .b true, .b true, .c (vB r0_53) [], .b true] [] [(409, vB r0_53)] (obC (gtt hb232) (obC (gtt hb232) (obC (gtt hb232) (obC (show (0 : Int) ≤ (0 : Int) from by first | decide | rfl | trivial | (simp only [nm] <;> first | decide | rfl | omega)) (obC (show (List.map enc_api_Rx (api_Rx.Kids x))[(Int.toNat (0 : Int) : Nat)]? = some (fv_api_Rx (List.getD (api_Rx.Kids x) (0 : Nat) default)) from by have := idx_ok' enc_api_Rx (api_Rx.Kids x) ((0 : Nat)) _ (enc_api_Rx_eq _) (h233 hb232); simpa only [nm, enq, enc_api_Rx_eq] using this) (obC (gtt hb232) (obC (gtt hb232) (obC hc234 (obC hb232 obN))))))))) ?_
                        refine cD (t := 136) (b := r0_53) (fun hb235 => ?_) (fun hb235 => ?_)
                        · have h := h.1 hb235
                          refine rDE kk [] [409] [(43, vi (if true = true then if w64 ((1 : Int) - api_Rx.Lo x) > (0 : Int) then w64 ((1 : Int) - api_Rx.Lo x) else (0 : Int) else if w64 ((1 : Int) - api_Rx.Lo x) < (0 : Int) then w64 ((1 : Int) - api_Rx.Lo x) else (0 : Int)))] [(43, vi (if w64 ((1 : Int) - api_Rx.Lo x) > (0 : Int) then w64 ((1 : Int) - api_Rx.Lo x) else (0 : Int)))] obN ?_
                          exact jD (if w64 ((1 : Int) - api_Rx.Lo x) > (0 : Int) then w64 ((1 : Int) - api_Rx.Lo x) else (0 : Int)) [] h
                        · have h := h.2 hb235
                          refine Sem.skip' (by kernel_rfl) Wk.refl ?_
                          exact jD most_2 [] h
                      · have h := h.2 hb232
                        refine sD kk [.b false, .b false, .b false, .b false, .b false, .b false] [] [(409, vB false)] (obC (gtf hb232) (obC (gtf hb232) (obC (gtf hb232) (obC (gtf hb232) (obC (gtf hb232) (obC hb232 obN)))))) ?_
                        refine cD (t := 136) (b := false) (fun hb236 => ?_) (fun hb236 => ?_)
                        · cases hb236
                        · refine Sem.skip' (by kernel_rfl) Wk.refl ?_
                          exact jD most_2 [] h
                  · refine sD kk [] [] [(373, vB (decide (api_Rx.Hi x < (0 : Int))))] obN ?_
                    refine cD (t := 124) (b := decide (api_Rx.Hi x < (0 : Int))) (fun hb237 => ?_) (fun hb237 => ?_)
                    · have h := h.1 hb237
                      refine rDE kk [] [7, 373] [(43, vi ((↑(List.length (List.map enc_bool from0)) : Int)))] [(43, vi ((↑(List.length from0) : Int)))] obN ?_
                      exact jD ((↑(List.length from0) : Int)) [] h
                    · have h := h.2 hb237
                      refine Sem.skip' (by kernel_rfl) Wk.refl ?_
                      exact jD (w64 (api_Rx.Hi x - api_Rx.Lo x)) [] h
            · have h := h.2 hb190
              refine Sem.skip' (by kernel_rfl) Wk.refl ?_
              exact jD (List.replicate (List.length from0) false) [(22, 0)] h
set_option maxHeartbeats 1000000 in
theorem W_heckleref05_Ends (x : api_Rx) (s0 : ByteArray) (at0 : Int) (res : (List Int))
    (h : (∃ r0 : Bool, C_heckleref05_May x s0 r0 ∧ (((!r0 || (decide (at0 < (0 : Int)) || decide (at0 > (↑(ByteArray.size s0) : Int)))) = true → (res = ([]))) ∧ ((!r0 || (decide (at0 < (0 : Int)) || decide (at0 > (↑(ByteArray.size s0) : Int)))) = false → ((0 : Int) ≤ w64 ((↑(ByteArray.size s0) : Int) + 1) ∧ w64 ((↑(ByteArray.size s0) : Int) + 1) ≤ w64 ((↑(ByteArray.size s0) : Int) + 1) ∧ w64 ((↑(ByteArray.size s0) : Int) + 1) < (2 : Int) ^ (40 : Nat) ∧ (↑(1 : Nat) : Int) * w64 ((↑(ByteArray.size s0) : Int) + 1) ≤ (2 : Int) ^ (47 : Nat)) ∧ ((0 : Int) ≤ at0) ∧ (Int.toNat at0 < Int.toNat (w64 ((↑(ByteArray.size s0) : Int) + 1))) ∧ at0 < ↑(List.length (List.replicate (Int.toNat (w64 ((↑(ByteArray.size s0) : Int) + 1))) false)) ∧ (∃ r0_1 : List Bool, C_heckleref05_step x s0 (List.set (List.replicate (Int.toNat (w64 ((↑(ByteArray.size s0) : Int) + 1))) false) (Int.toNat at0) true) r0_1 ∧ (∃ (Inv25 : List Int → Int → Prop) (mu26 : List Int → Int → Nat), Inv25 ([]) 0 ∧ (∀ (out_1 : List Int) (i : Int), Inv25 out_1 i → (((decide (i < (↑(List.length r0_1) : Int))) = true → (∃ J32 : List Int → Prop, (∀ (out_3 : List Int), J32 out_3 → (Inv25 out_3 (w64 (i + 1)) ∧ mu26 out_3 (w64 (i + 1)) < mu26 out_1 i)) ∧ ((0 : Int) ≤ i) ∧ i < ↑(List.length r0_1) ∧ (((gd r0_1 i) = true → ((List.length out_1 + (1 : Nat)) * (8 : Nat) ≤ (2 : Nat) ^ (47 : Nat)) ∧ J32 (out_1 ++ [i])) ∧ ((gd r0_1 i) = false → J32 out_1)))) ∧ ((decide (i < (↑(List.length r0_1) : Int))) = false → (res = out_1)))))))))) : C_heckleref05_Ends x s0 at0 res := by
  unfold C_heckleref05_Ends
  have kk := cfOk [50] 51
  refine fD (x := bodyOf Try.f27) kk Try.func27 ?_
  refine wkS [1, 4, 7] [(1, av_api_Rx x), (4, vS s0), (7, vi at0)] (by kernel_rfl) ?_
  refine sD kk [] [1] [(10, .ptr 11 0), (11, av_api_Rx x)] obN ?_
  refine qD ?_
  obtain ⟨r0, hc0, h⟩ := h
  refine sM [] [(73, vB (!r0 || (decide (at0 < (0 : Int)) || decide (at0 > (↑(ByteArray.size s0) : Int)))))] ?_ (fun hk0 => ?_)
  · refine cD (t := 24) (b := !r0 || (decide (at0 < (0 : Int)) || decide (at0 > (↑(ByteArray.size s0) : Int)))) (fun hb3 => ?_) (fun hb3 => ?_)
    · have h := h.1 hb3
      refine sDE kk [] [4, 7, 10, 11, 73] [(19, .own 3 ([]))] [(19, oL 3 enc_i64 ([]))] obN ?_
      refine tD ?_
      obtain he0 := h
      subst res
      exact (endD [] (oL 3 enc_i64 ([])) []).1
    · have h := h.2 hb3
      refine Sem.skip' (by kernel_rfl) Wk.refl ?_
      show Sem _ _ _ _ _
      refine wkD [73] ?_
      obtain ⟨h4, h⟩ := h
      refine sDE kk [] [] [(22, .own 4 (List.replicate (Int.toNat (w64 ((↑(ByteArray.size s0) : Int) + 1))) (FV.pv (Value.bool false))))] [(22, oL 4 enc_bool (List.replicate (Int.toNat (w64 ((↑(ByteArray.size s0) : Int) + 1))) false))] (obC h4 obN) ?_
      obtain ⟨h5, h⟩ := h
      obtain ⟨h6, h⟩ := h
      obtain ⟨h7, h⟩ := h
      refine sDE kk [.e (fB (gd (List.replicate (Int.toNat (w64 ((↑(ByteArray.size s0) : Int) + 1))) false) at0))] [7] [(22, .own 4 (List.set (List.map enc_bool (List.replicate (Int.toNat (w64 ((↑(ByteArray.size s0) : Int) + 1))) false)) ((0 : Nat) + Int.toNat at0) (FV.pv (Value.bool true))))] [(22, oL 4 enc_bool (List.set (List.replicate (Int.toNat (w64 ((↑(ByteArray.size s0) : Int) + 1))) false) (Int.toNat at0) true))] (obC h5 (obC (show Int.toNat at0 < List.length (List.map enc_bool (List.replicate (Int.toNat (w64 ((↑(ByteArray.size s0) : Int) + 1))) false)) from by simpa only [nm] using h6) (obC (show (List.map enc_bool (List.replicate (Int.toNat (w64 ((↑(ByteArray.size s0) : Int) + 1))) false))[((0 : Nat) + Int.toNat at0 : Nat)]? = some (fB (gd (List.replicate (Int.toNat (w64 ((↑(ByteArray.size s0) : Int) + 1))) false) at0)) from by have := idx_ok enc_bool (List.replicate (Int.toNat (w64 ((↑(ByteArray.size s0) : Int) + 1))) false) at0 _ rfl h5 h7; simpa only [nm, enq, enc_bool] using this) obN))) ?_
      obtain ⟨r0_1, hc8, h⟩ := h
      refine sD kk [.c (vL enc_bool r0_1) []] [4, 10, 11, 22] [(25, vL enc_bool r0_1)] (obC (Eq.mp (by unfold C_heckleref05_step; (try simp only [List.drop_zero, List.take_length]); first | done | simp only [nm, enq] : C_heckleref05_step x s0 (List.set (List.replicate (Int.toNat (w64 ((↑(ByteArray.size s0) : Int) + 1))) false) (Int.toNat at0) true) r0_1 = CallE Try.prog 43 [.agg [vi (api_Rx.Kind x), vI .u64 (arr4_uint64.e0 (api_Rx.Set x)), vI .u64 (arr4_uint64.e1 (api_Rx.Set x)), vI .u64 (arr4_uint64.e2 (api_Rx.Set x)), vI .u64 (arr4_uint64.e3 (api_Rx.Set x)), vi (api_Rx.Lo x), vi (api_Rx.Hi x), vL enc_api_Rx (api_Rx.Kids x)], vS s0, .f (FV.sl (List.take (List.length (List.map enc_bool (List.set (List.replicate (Int.toNat (w64 ((↑(ByteArray.size s0) : Int) + 1))) false) (Int.toNat at0) true))) (List.drop (0 : Nat) (List.map enc_bool (List.set (List.replicate (Int.toNat (w64 ((↑(ByteArray.size s0) : Int) + 1))) false) (Int.toNat at0) true)))))] [] (vL enc_bool r0_1) []) hc8) obN) ?_
      refine sDE kk [] [] [(28, .own 3 ([]))] [(28, oL 3 enc_i64 ([]))] obN ?_
      refine qD ?_
      refine sD kk [] [] [(31, vi 0)] obN ?_
      refine bD (id := 0) ?_
      obtain ⟨Inv25, mu26, h0Inv25, hInv25⟩ := h
      refine loD (fun (q : List Int × Int) => (fun (out_1 : List Int) (i : Int) => ([(25, vL enc_bool r0_1), (28, oL 3 enc_i64 out_1), (31, vi i)] : Sta)) q.1 q.2) (fun (q : List Int × Int) => Inv25 q.1 q.2) (fun (q : List Int × Int) => mu26 q.1 q.2) (([]), 0) [] h0Inv25 ?_
      rintro ⟨out_1, i⟩ hi
      have h := hInv25 out_1 i hi
      refine qD ?_
      refine sDE kk [] [] [(118, vB (decide (i < (↑(List.length (List.map enc_bool r0_1)) : Int))))] [(118, vB (decide (i < (↑(List.length r0_1) : Int))))] obN ?_
      refine cD (t := 39) (b := decide (i < (↑(List.length r0_1) : Int))) (fun hb27 => ?_) (fun hb27 => ?_)
      · have h := h.1 hb27
        refine Sem.skip' (by kernel_rfl) Wk.refl ?_
        show Sem _ _ _ _ _
        refine wkD [118] ?_
        obtain ⟨J32, hJ32, h⟩ := h
        refine sjD (fun (q : List Int) => J32 q) (fun (q : List Int) => (fun (out_3 : List Int) => ([(25, vL enc_bool r0_1), (28, oL 3 enc_i64 out_3), (31, vi i)] : Sta)) q) ?_ ?_
        · rintro out_3 hj
          have h := hJ32 out_3 hj
          refine rD kk [] [] [(31, vi (w64 (i + 1)))] obN ?_
          exact lD (out_3, (w64 (i + 1))) [] h
        · refine bD (id := 1) ?_
          obtain ⟨h33, h⟩ := h
          obtain ⟨h34, h⟩ := h
          refine sD kk [.e (fB (gd r0_1 i))] [] [(136, vB (gd r0_1 i))] (obC h33 (obC (idx_ok enc_bool r0_1 i _ rfl h33 h34) obN)) ?_
          refine cD (t := 45) (b := gd r0_1 i) (fun hb35 => ?_) (fun hb35 => ?_)
          · have h := h.1 hb35
            obtain ⟨h36, h⟩ := h
            refine rDE kk [] [136] [(28, .own 3 (List.map enc_i64 out_1 ++ List.take (List.length [FV.pv (Value.int IntKind.i64 i)]) (List.drop (0 : Nat) [FV.pv (Value.int IntKind.i64 i)])))] [(28, oL 3 enc_i64 (out_1 ++ [i]))] (obC (show (0 : Nat) = (0 : Nat) ∧ List.length (List.map enc_i64 out_1) = List.length (List.map enc_i64 out_1) from by first | decide | rfl | trivial | (simp only [nm] <;> first | decide | rfl | omega)) (obC (show (List.length (List.map enc_i64 out_1) + List.length (List.take (1 : Nat) (List.drop (0 : Nat) [FV.pv (Value.int IntKind.i64 i)]))) * (8 : Nat) ≤ (2 : Nat) ^ (47 : Nat) from by simpa only [nm] using h36) (obC (show List.all (List.take (1 : Nat) (List.drop (0 : Nat) [FV.pv (Value.int IntKind.i64 i)])) (FV.fits (1 : Nat)) = true from by first | exact fits_i64 _ | rfl | simp [FV.fits, FV.size, FV.cells, FV.one, ]) obN))) ?_
            exact jD (out_1 ++ [i]) [] h
          · have h := h.2 hb35
            refine Sem.skip' (by kernel_rfl) Wk.refl ?_
            exact jD out_1 [] h
      · have h := h.2 hb27
        refine xD (i := 0) ?_
        show Sem _ _ _ _ _
        refine wkD [25, 31, 118] ?_
        refine sD kk [] [28] [(19, oL 3 enc_i64 out_1)] obN ?_
        refine tD ?_
        obtain he0 := h
        subst res
        exact (endD [] (oL 3 enc_i64 out_1) []).1
  · rcases Bool.eq_false_or_eq_true (!r0) with hb1 | hb1
    · refine sD kk [.c (vB r0) [], .b false, .b false, .b true, .b false, .b false, .b false, .b false, .b true] [] [(73, vB true)] (obC hc0 (obC (gff hb1) (obC (gff hb1) (obC hb1 (obC (rfl : false = false) (obC (rfl : false = false) (obC (rfl : false = false) (obC (rfl : false = false) (obC (rfl : true = true) obN))))))))) ?_
      exact Sem.cast (by try rw [hb1]; kernel_rfl) hk0
    · rcases Bool.eq_false_or_eq_true (decide (at0 < (0 : Int))) with hb2 | hb2
      · refine sD kk [.c (vB r0) [], .b true, .b true, .b false, .b false, .b false, .b false, .b false, .b true] [] [(73, vB true)] (obC hc0 (obC (gft hb1) (obC (gft hb1) (obC hb1 (obC (gff hb2) (obC (gff hb2) (obC (gff hb2) (obC (gff hb2) (obC hb2 obN))))))))) ?_
        exact Sem.cast (by try rw [hb1]; try rw [hb2]; kernel_rfl) hk0
      · refine sD kk [.c (vB r0) [], .b true, .b true, .b false, .b true, .b true, .b true, .b true, .b false] [] [(73, vB (decide (at0 > (↑(ByteArray.size s0) : Int))))] (obC hc0 (obC (gft hb1) (obC (gft hb1) (obC hb1 (obC (gft hb2) (obC (gft hb2) (obC (gft hb2) (obC (gft hb2) (obC hb2 obN))))))))) ?_
        exact Sem.cast (by try rw [hb1]; try rw [hb2]; kernel_rfl) hk0
set_option maxHeartbeats 1000000 in
theorem W_heckleref05_Match (x : api_Rx) (s0 : ByteArray) (res : Bool)
    (h : (∃ r0 : List Int, C_heckleref05_Ends x s0 0 r0 ∧ ((decide ((↑(List.length (List.map enc_i64 r0)) : Int) > (0 : Int))) = true → ((0 : Int) ≤ w64 ((↑(List.length r0) : Int) - 1))) ∧ ((decide ((↑(List.length (List.map enc_i64 r0)) : Int) > (0 : Int))) = true → (Int.toNat (w64 ((↑(List.length r0) : Int) - 1)) < List.length r0)) ∧ ((decide ((↑(List.length (List.map enc_i64 r0)) : Int) > (0 : Int))) = true → w64 ((↑(List.length r0) : Int) - 1) < ↑(List.length r0)) ∧ (res = (decide ((↑(List.length r0) : Int) > (0 : Int)) && gd r0 (w64 ((↑(List.length r0) : Int) - 1)) == (↑(ByteArray.size s0) : Int))))) : C_heckleref05_Match x s0 res := by
  unfold C_heckleref05_Match
  have kk := cfOk [] 23
  refine fD (x := bodyOf Try.f18) kk Try.func18 ?_
  refine wkS [1, 4] [(1, av_api_Rx x), (4, vS s0)] (by kernel_rfl) ?_
  refine sD kk [] [1] [(7, .ptr 8 0), (8, av_api_Rx x)] obN ?_
  obtain ⟨r0, hc0, h⟩ := h
  refine sD kk [.c (oL 3 enc_i64 r0) []] [7, 8] [(16, oL 3 enc_i64 r0)] (obC hc0 obN) ?_
  obtain ⟨h2, h3, h4, h⟩ := h
  refine sM [4, 16] [(13, vB (decide ((↑(List.length (List.map enc_i64 r0)) : Int) > (0 : Int)) && gd r0 (w64 ((↑(List.length r0) : Int) - 1)) == (↑(ByteArray.size s0) : Int)))] ?_ (fun hk0 => ?_)
  · refine tD ?_
    obtain he0 := h
    subst res
    exact (endD [] (vB (decide ((↑(List.length (List.map enc_i64 r0)) : Int) > (0 : Int)) && gd r0 (w64 ((↑(List.length r0) : Int) - 1)) == (↑(ByteArray.size s0) : Int))) []).1
  · rcases Bool.eq_false_or_eq_true (decide ((↑(List.length (List.map enc_i64 r0)) : Int) > (0 : Int))) with hb1 | hb1
    · refine sD kk [.b true, .b true, .b true, .b true, .b true, .b true, .e (fi (gd r0 (w64 ((↑(List.length r0) : Int) - 1)))), .b true, .b true, .b true, .b true] [4, 16] [(13, vB (gd r0 (w64 ((↑(List.length r0) : Int) - 1)) == (↑(ByteArray.size s0) : Int)))] (obC (gtt hb1) (obC (gtt hb1) (obC (gtt hb1) (obC (gtt hb1) (obC (gtt hb1) (obC (show (0 : Int) ≤ w64 ((↑(List.length (List.map enc_i64 r0)) : Int) - 1) from by simpa only [nm] using (h2 hb1)) (obC (show Int.toNat (w64 ((↑(List.length (List.map enc_i64 r0)) : Int) - 1)) < List.length (List.map enc_i64 r0) from by simpa only [nm] using (h3 hb1)) (obC (gtt hb1) (obC (show (List.map enc_i64 r0)[((0 : Nat) + Int.toNat (w64 ((↑(List.length (List.map enc_i64 r0)) : Int) - 1)) : Nat)]? = some (fi (gd r0 (w64 ((↑(List.length r0) : Int) - 1)))) from by have := idx_ok enc_i64 r0 (w64 ((↑(List.length r0) : Int) - 1)) _ rfl (h2 hb1) (h4 hb1); simpa only [nm, enq, enc_i64] using this) (obC (gtt hb1) (obC (gtt hb1) (obC (gtt hb1) (obC hb1 obN))))))))))))) ?_
      exact Sem.cast (by try rw [hb1]; kernel_rfl) hk0
    · refine sD kk [.b false, .b false, .b false, .b false, .b false, .b false, .b false, .b false, .b false, .b false] [4, 16] [(13, vB false)] (obC (gtf hb1) (obC (gtf hb1) (obC (gtf hb1) (obC (gtf hb1) (obC (gtf hb1) (obC (gtf hb1) (obC (gtf hb1) (obC (gtf hb1) (obC (gtf hb1) (obC hb1 obN)))))))))) ?_
      exact Sem.cast (by try rw [hb1]; kernel_rfl) hk0
set_option maxHeartbeats 1000000 in
theorem W_hecklelaw09_PlaceMatch (l : (List Int)) (t : (List Int)) (res : Bool)
    (h : (∃ r0 : Bool, C_hecklelaw09_awake r0 ∧ (((!r0) = true → (res = false)) ∧ ((!r0) = false → (∃ r0_1 : api_Rx, C_hecklelaw03_Made l r0_1 ∧ (∃ r0_2 : ByteArray, C_hecklelaw05_Text t r0_2 ∧ (∃ r0_3 : api_Places, ∃ r0_4 : Int, C_place_Of r0_1 r0_3 r0_4 ∧ (((r0_4 != (0 : Int) || (↑(List.length (api_Places.Sets r0_3)) : Int) != (↑(List.length (api_Places.Follow r0_3)) : Int)) = true → (res = false)) ∧ ((r0_4 != (0 : Int) || (↑(List.length (api_Places.Sets r0_3)) : Int) != (↑(List.length (api_Places.Follow r0_3)) : Int)) = false → (∃ (Inv402 : Bool → List Int → Int → Prop) (mu403 : Bool → List Int → Int → Nat), Inv402 (api_Places.Null r0_3 && ByteArray.toList r0_2 == ByteArray.toList { data := #[] }) (api_Places.First r0_3) 0 ∧ (∀ (is_4 : Bool) (next : List Int) (i : Int), Inv402 is_4 next i → (((decide (i < (↑(ByteArray.size r0_2) : Int))) = true → (∃ (Inv485 : List Int → List Int → Int → Prop) (mu486 : List Int → List Int → Int → Nat), Inv485 ([]) ([]) 0 ∧ (∀ (now_9 : List Int) (then0_9 : List Int) (k_4 : Int), Inv485 now_9 then0_9 k_4 → (((decide (k_4 < (↑(List.length next) : Int))) = true → (∃ J510 : List Int → List Int → Prop, (∀ (now_11 : List Int) (then0_11 : List Int), J510 now_11 then0_11 → (Inv485 now_11 then0_11 (w64 (k_4 + 1)) ∧ mu486 now_11 then0_11 (w64 (k_4 + 1)) < mu486 now_9 then0_9 k_4)) ∧ ((0 : Int) ≤ k_4) ∧ k_4 < ↑(List.length next) ∧ ((decide (gd next k_4 < (0 : Int))) = false → ((0 : Int) ≤ k_4)) ∧ ((decide (gd next k_4 < (0 : Int))) = false → k_4 < ↑(List.length next)) ∧ (((decide (gd next k_4 < (0 : Int)) || decide (gd next k_4 ≥ (↑(List.length (api_Places.Sets r0_3)) : Int))) = true → (res = false)) ∧ ((decide (gd next k_4 < (0 : Int)) || decide (gd next k_4 ≥ (↑(List.length (api_Places.Sets r0_3)) : Int))) = false → ((0 : Int) ≤ k_4) ∧ k_4 < ↑(List.length next) ∧ ((0 : Int) ≤ gd next k_4) ∧ gd next k_4 < ↑(List.length (api_Places.Sets r0_3)) ∧ ((0 : Int) ≤ i) ∧ i < ↑(ByteArray.size r0_2) ∧ (∃ r0_39 : Bool, C_heckleref01_Has (gd (api_Places.Sets r0_3) (gd next k_4)) (w64 (↑(UInt8.toNat (byteAt r0_2 i)) : Int)) r0_39 ∧ (((r0_39) = true → ((0 : Int) ≤ k_4) ∧ k_4 < ↑(List.length next) ∧ ((List.length now_9 + (1 : Nat)) * (8 : Nat) ≤ (2 : Nat) ^ (47 : Nat)) ∧ ((0 : Int) ≤ k_4) ∧ k_4 < ↑(List.length next) ∧ ((0 : Int) ≤ gd next k_4) ∧ gd next k_4 < ↑(List.length (api_Places.Follow r0_3)) ∧ (∃ r0_40 : List Int, C_heckleref09_Add then0_9 (gd (api_Places.Follow r0_3) (gd next k_4)) r0_40 ∧ J510 (now_9 ++ [gd next k_4]) r0_40)) ∧ ((r0_39) = false → J510 now_9 then0_9))))))) ∧ ((decide (k_4 < (↑(List.length next) : Int))) = false → (∃ (Inv578 : Bool → Int → Prop) (mu579 : Bool → Int → Nat), Inv578 is_4 0 ∧ (∀ (is_10 : Bool) (k_5 : Int), Inv578 is_10 k_5 → (((decide (k_5 < (↑(List.length (List.map enc_i64 now_9)) : Int)) && i == w64 ((↑(ByteArray.size r0_2) : Int) - 1)) = true → (∃ (Inv595 : Bool → Int → Prop) (mu596 : Bool → Int → Nat), Inv595 is_10 0 ∧ (∀ (is_12 : Bool) (j_8 : Int), Inv595 is_12 j_8 → (((decide (j_8 < (↑(List.length (api_Places.Last r0_3)) : Int))) = true → ((is_12) = false → ((0 : Int) ≤ j_8)) ∧ ((is_12) = false → j_8 < ↑(List.length (api_Places.Last r0_3))) ∧ ((is_12) = false → ((0 : Int) ≤ k_5)) ∧ ((is_12) = false → (Int.toNat k_5 < List.length now_9)) ∧ ((is_12) = false → k_5 < ↑(List.length now_9)) ∧ (Inv595 (is_12 || gd (api_Places.Last r0_3) j_8 == gd now_9 k_5) (w64 (j_8 + 1)) ∧ mu596 (is_12 || gd (api_Places.Last r0_3) j_8 == gd now_9 k_5) (w64 (j_8 + 1)) < mu596 is_12 j_8)) ∧ ((decide (j_8 < (↑(List.length (api_Places.Last r0_3)) : Int))) = false → (Inv578 is_12 (w64 (k_5 + 1)) ∧ mu579 is_12 (w64 (k_5 + 1)) < mu579 is_10 k_5)))))) ∧ ((decide (k_5 < (↑(List.length (List.map enc_i64 now_9)) : Int)) && i == w64 ((↑(ByteArray.size r0_2) : Int) - 1)) = false → (Inv402 is_10 then0_9 (w64 (i + 1)) ∧ mu403 is_10 then0_9 (w64 (i + 1)) < mu403 is_4 next i)))))))))) ∧ ((decide (i < (↑(ByteArray.size r0_2) : Int))) = false → (((r0) = true → (∃ r0_41 : Bool, C_heckleref05_Match r0_1 r0_2 r0_41 ∧ (res = (is_4 == r0_41)))) ∧ ((r0) = false → (res = false)))))))))))))))) : C_hecklelaw09_PlaceMatch l t res := by
  unfold C_hecklelaw09_PlaceMatch
  have kk := cfOk [] 148
  refine fD (x := bodyOf Try.f7) kk Try.func7 ?_
  refine wkS [1, 4] [(1, vL enc_u8 l), (4, vL enc_u8 t)] (by kernel_rfl) ?_
  refine sD kk [] [] [] obN ?_
  obtain ⟨r0, hc0, h⟩ := h
  refine sD kk [.c (vB r0) []] [] [(16, vB r0)] (obC hc0 obN) ?_
  refine qD ?_
  refine sD kk [] [] [(61, vB (!r0))] obN ?_
  refine cD (t := 20) (b := !r0) (fun hb1 => ?_) (fun hb1 => ?_)
  · have h := h.1 hb1
    refine sD kk [] [1, 4, 16, 61] [(13, vB false)] obN ?_
    refine tD ?_
    obtain he0 := h
    subst res
    exact (endD [] (vB false) []).1
  · have h := h.2 hb1
    refine Sem.skip' (by kernel_rfl) Wk.refl ?_
    show Sem _ _ _ _ _
    refine wkD [61] ?_
    obtain ⟨r0_1, hc2, h⟩ := h
    obtain ⟨r0_2, hc3, h⟩ := h
    refine sD kk [.c (av_api_Rx r0_1) [], .c (vS r0_2) []] [1, 4] [(19, .ptr 20 0), (20, av_api_Rx r0_1), (22, vS r0_2)] (obC hc2 (obC hc3 obN)) ?_
    obtain ⟨r0_3, r0_4, hc4, h⟩ := h
    refine sD kk [.c (.tup [av_api_Places r0_3, vi r0_4]) []] [] [(25, .ptr 26 0), (26, av_api_Places r0_3), (28, vi r0_4)] (obC hc4 obN) ?_
    refine qD ?_
    refine sM [28] [(121, vB (r0_4 != (0 : Int) || (↑(List.length (api_Places.Sets r0_3)) : Int) != (↑(List.length (api_Places.Follow r0_3)) : Int)))] ?_ (fun hk0 => ?_)
    · refine cD (t := 40) (b := r0_4 != (0 : Int) || (↑(List.length (api_Places.Sets r0_3)) : Int) != (↑(List.length (api_Places.Follow r0_3)) : Int)) (fun hb6 => ?_) (fun hb6 => ?_)
      · have h := h.1 hb6
        refine sD kk [] [16, 19, 20, 22, 25, 26, 121] [(13, vB false)] obN ?_
        refine tD ?_
        obtain he0 := h
        subst res
        exact (endD [] (vB false) []).1
      · have h := h.2 hb6
        refine Sem.skip' (by kernel_rfl) Wk.refl ?_
        show Sem _ _ _ _ _
        refine wkD [121] ?_
        refine sM [] [(31, vB (api_Places.Null r0_3 && ByteArray.toList r0_2 == ByteArray.toList { data := #[] }))] ?_ (fun hk0 => ?_)
        · refine sD kk [] [] [(34, vL enc_i64 (api_Places.First r0_3))] obN ?_
          refine qD ?_
          refine sD kk [] [] [(37, vi 0)] obN ?_
          refine bD (id := 0) ?_
          obtain ⟨Inv402, mu403, h0Inv402, hInv402⟩ := h
          refine loD (fun (q : Bool × List Int × Int) => (fun (is_4 : Bool) (next : List Int) (i : Int) => ([(16, vB r0), (19, .ptr 20 0), (20, av_api_Rx r0_1), (22, vS r0_2), (25, .ptr 26 0), (26, av_api_Places r0_3), (31, vB is_4), (34, vL enc_i64 next), (37, vi i)] : Sta)) q.1 q.2.1 q.2.2) (fun (q : Bool × List Int × Int) => Inv402 q.1 q.2.1 q.2.2) (fun (q : Bool × List Int × Int) => mu403 q.1 q.2.1 q.2.2) ((api_Places.Null r0_3 && ByteArray.toList r0_2 == ByteArray.toList { data := #[] }), (api_Places.First r0_3), 0) [] h0Inv402 ?_
          rintro ⟨is_4, next, i⟩ hi
          have h := hInv402 is_4 next i hi
          refine qD ?_
          refine sD kk [] [] [(157, vB (decide (i < (↑(ByteArray.size r0_2) : Int))))] obN ?_
          refine cD (t := 52) (b := decide (i < (↑(ByteArray.size r0_2) : Int))) (fun hb404 => ?_) (fun hb404 => ?_)
          · have h := h.1 hb404
            refine Sem.skip' (by kernel_rfl) Wk.refl ?_
            show Sem _ _ _ _ _
            refine wkD [157] ?_
            refine qD ?_
            refine bD (id := 1) ?_
            refine sDE kk [] [] [(40, .own 3 ([])), (43, .own 3 ([]))] [(40, oL 3 enc_i64 ([])), (43, oL 3 enc_i64 ([]))] obN ?_
            refine qD ?_
            refine sD kk [] [] [(46, vi 0)] obN ?_
            refine bD (id := 2) ?_
            obtain ⟨Inv485, mu486, h0Inv485, hInv485⟩ := h
            refine loD (fun (q : List Int × List Int × Int) => (fun (now_9 : List Int) (then0_9 : List Int) (k_4 : Int) => ([(16, vB r0), (19, .ptr 20 0), (20, av_api_Rx r0_1), (22, vS r0_2), (25, .ptr 26 0), (26, av_api_Places r0_3), (31, vB is_4), (34, vL enc_i64 next), (37, vi i), (40, oL 3 enc_i64 now_9), (43, vL enc_i64 then0_9), (46, vi k_4)] : Sta)) q.1 q.2.1 q.2.2) (fun (q : List Int × List Int × Int) => Inv485 q.1 q.2.1 q.2.2) (fun (q : List Int × List Int × Int) => mu486 q.1 q.2.1 q.2.2) (([]), ([]), 0) [(43, 0)] h0Inv485 ?_
            rintro ⟨now_9, then0_9, k_4⟩ hi
            have h := hInv485 now_9 then0_9 k_4 hi
            refine qD ?_
            refine sDE kk [] [] [(175, vB (decide (k_4 < (↑(List.length (List.map enc_i64 next)) : Int))))] [(175, vB (decide (k_4 < (↑(List.length next) : Int))))] obN ?_
            refine cD (t := 58) (b := decide (k_4 < (↑(List.length next) : Int))) (fun hb487 => ?_) (fun hb487 => ?_)
            · have h := h.1 hb487
              refine Sem.skip' (by kernel_rfl) Wk.refl ?_
              show Sem _ _ _ _ _
              refine wkD [175] ?_
              obtain ⟨J510, hJ510, h⟩ := h
              refine sjD (fun (q : List Int × List Int) => J510 q.1 q.2) (fun (q : List Int × List Int) => (fun (now_11 : List Int) (then0_11 : List Int) => ([(16, vB r0), (19, .ptr 20 0), (20, av_api_Rx r0_1), (22, vS r0_2), (25, .ptr 26 0), (26, av_api_Places r0_3), (31, vB is_4), (34, vL enc_i64 next), (37, vi i), (40, oL 3 enc_i64 now_11), (43, vL enc_i64 then0_11), (46, vi k_4)] : Sta)) q.1 q.2) ?_ ?_
              · rintro ⟨now_11, then0_11⟩ hj
                have h := hJ510 now_11 then0_11 hj
                refine rD kk [] [] [(46, vi (w64 (k_4 + 1)))] obN ?_
                exact lD (now_11, then0_11, (w64 (k_4 + 1))) [] h
              · refine bD (id := 3) ?_
                refine qD ?_
                obtain ⟨h511, h⟩ := h
                obtain ⟨h512, h⟩ := h
                obtain ⟨h514, h515, h⟩ := h
                refine sM [] [(226, vB (decide (gd next k_4 < (0 : Int)) || decide (gd next k_4 ≥ (↑(List.length (api_Places.Sets r0_3)) : Int))))] ?_ (fun hk0 => ?_)
                · refine cD (t := 75) (b := decide (gd next k_4 < (0 : Int)) || decide (gd next k_4 ≥ (↑(List.length (api_Places.Sets r0_3)) : Int))) (fun hb516 => ?_) (fun hb516 => ?_)
                  · have h := h.1 hb516
                    refine sD kk [] [16, 19, 20, 22, 25, 26, 31, 34, 37, 40, 43, 46, 226] [(13, vB false)] obN ?_
                    refine tD ?_
                    obtain he0 := h
                    subst res
                    exact (endD [] (vB false) []).1
                  · have h := h.2 hb516
                    refine Sem.skip' (by kernel_rfl) Wk.refl ?_
                    show Sem _ _ _ _ _
                    refine wkD [226] ?_
                    obtain ⟨h517, h⟩ := h
                    obtain ⟨h518, h⟩ := h
                    obtain ⟨h519, h⟩ := h
                    obtain ⟨h520, h⟩ := h
                    obtain ⟨h521, h⟩ := h
                    obtain ⟨h522, h⟩ := h
                    obtain ⟨r0_39, hc523, h⟩ := h
                    refine sD kk [.e (fi (gd next k_4)), .e (fv_arr4_uint64 (gd (api_Places.Sets r0_3) (gd next k_4))), .y (byteAt r0_2 i), .c (vB r0_39) []] [] [(265, vB r0_39)] (obC h517 (obC (idx_ok enc_i64 next k_4 _ rfl h517 h518) (obC h519 (obC (idx_ok enc_arr4_uint64 (api_Places.Sets r0_3) (gd next k_4) _ (enc_arr4_uint64_eq _) h519 h520) (obC h521 (obC (byte_ok r0_2 i h521 h522) (obC hc523 obN))))))) ?_
                    refine cD (t := 88) (b := r0_39) (fun hb524 => ?_) (fun hb524 => ?_)
                    · have h := h.1 hb524
                      obtain ⟨h525, h⟩ := h
                      obtain ⟨h526, h⟩ := h
                      obtain ⟨h527, h⟩ := h
                      refine sDE kk [.e (fi (gd next k_4))] [265] [(40, .own 3 (List.map enc_i64 now_9 ++ List.take (List.length [FV.pv (Value.int IntKind.i64 (gd next k_4))]) (List.drop (0 : Nat) [FV.pv (Value.int IntKind.i64 (gd next k_4))])))] [(40, oL 3 enc_i64 (now_9 ++ [gd next k_4]))] (obC h525 (obC (idx_ok enc_i64 next k_4 _ rfl h525 h526) (obC (show (0 : Nat) = (0 : Nat) ∧ List.length (List.map enc_i64 now_9) = List.length (List.map enc_i64 now_9) from by first | decide | rfl | trivial | (simp only [nm] <;> first | decide | rfl | omega)) (obC (show (List.length (List.map enc_i64 now_9) + List.length (List.take (1 : Nat) (List.drop (0 : Nat) [FV.pv (Value.int IntKind.i64 (gd next k_4))]))) * (8 : Nat) ≤ (2 : Nat) ^ (47 : Nat) from by simpa only [nm] using h527) (obC (show List.all (List.take (1 : Nat) (List.drop (0 : Nat) [FV.pv (Value.int IntKind.i64 (gd next k_4))])) (FV.fits (1 : Nat)) = true from by first | exact fits_i64 _ | rfl | simp [FV.fits, FV.size, FV.cells, FV.one, ]) obN))))) ?_
                      obtain ⟨h528, h⟩ := h
                      obtain ⟨h529, h⟩ := h
                      obtain ⟨h530, h⟩ := h
                      obtain ⟨h531, h⟩ := h
                      obtain ⟨r0_40, hc532, h⟩ := h
                      refine rD kk [.e (fi (gd next k_4)), .e (fL enc_i64 (gd (api_Places.Follow r0_3) (gd next k_4))), .c (vL enc_i64 r0_40) []] [] [(43, vL enc_i64 r0_40)] (obC h528 (obC (idx_ok enc_i64 next k_4 _ rfl h528 h529) (obC h530 (obC (idx_ok encs_i64 (api_Places.Follow r0_3) (gd next k_4) _ rfl h530 h531) (obC hc532 obN))))) ?_
                      exact jD ((now_9 ++ [gd next k_4]), r0_40) [] h
                    · have h := h.2 hb524
                      refine Sem.skip' (by kernel_rfl) Wk.refl ?_
                      exact jD (now_9, then0_9) [] h
                · rcases Bool.eq_false_or_eq_true (decide (gd next k_4 < (0 : Int))) with hb513 | hb513
                  · refine sD kk [.e (fi (gd next k_4)), .b false, .b false, .b false, .b false, .b false, .b false, .b false, .b false, .b true] [] [(226, vB true)] (obC h511 (obC (idx_ok enc_i64 next k_4 _ rfl h511 h512) (obC (gff hb513) (obC (gff hb513) (obC (gff hb513) (obC (gff hb513) (obC (gff hb513) (obC (gff hb513) (obC (gff hb513) (obC (gff hb513) (obC hb513 obN))))))))))) ?_
                    exact Sem.cast (by try rw [hb513]; kernel_rfl) hk0
                  · refine sDE kk [.e (fi (gd next k_4)), .b true, .b true, .b true, .e (fi (gd next k_4)), .b true, .b true, .b true, .b true, .b true, .b false] [] [(226, vB (decide (gd next k_4 ≥ (↑(List.length (List.map enc_arr4_uint64 (api_Places.Sets r0_3))) : Int))))] [(226, vB (decide (gd next k_4 ≥ (↑(List.length (api_Places.Sets r0_3)) : Int))))] (obC h511 (obC (idx_ok enc_i64 next k_4 _ rfl h511 h512) (obC (gft hb513) (obC (gft hb513) (obC (gft hb513) (obC (h514 hb513) (obC (idx_ok enc_i64 next k_4 _ rfl (h514 hb513) (h515 hb513)) (obC (gft hb513) (obC (gft hb513) (obC (gft hb513) (obC (gft hb513) (obC (gft hb513) (obC hb513 obN))))))))))))) ?_
                    exact Sem.cast (by try rw [hb513]; kernel_rfl) hk0
            · have h := h.2 hb487
              refine xD (i := 2) ?_
              show Sem _ _ _ _ _
              refine wkD [34, 46, 175] ?_
              refine qD ?_
              refine sD kk [] [] [(49, vi 0)] obN ?_
              refine bD (id := 4) ?_
              obtain ⟨Inv578, mu579, h0Inv578, hInv578⟩ := h
              refine loD (fun (q : Bool × Int) => (fun (is_10 : Bool) (k_5 : Int) => ([(16, vB r0), (19, .ptr 20 0), (20, av_api_Rx r0_1), (22, vS r0_2), (25, .ptr 26 0), (26, av_api_Places r0_3), (31, vB is_10), (37, vi i), (40, oL 3 enc_i64 now_9), (43, vL enc_i64 then0_9), (49, vi k_5)] : Sta)) q.1 q.2) (fun (q : Bool × Int) => Inv578 q.1 q.2) (fun (q : Bool × Int) => mu579 q.1 q.2) (is_4, 0) [] h0Inv578 ?_
              rintro ⟨is_10, k_5⟩ hi
              have h := hInv578 is_10 k_5 hi
              refine qD ?_
              refine sM [] [(349, vB (decide (k_5 < (↑(List.length (List.map enc_i64 now_9)) : Int)) && i == w64 ((↑(ByteArray.size r0_2) : Int) - 1)))] ?_ (fun hk0 => ?_)
              · refine cD (t := 116) (b := decide (k_5 < (↑(List.length (List.map enc_i64 now_9)) : Int)) && i == w64 ((↑(ByteArray.size r0_2) : Int) - 1)) (fun hb581 => ?_) (fun hb581 => ?_)
                · have h := h.1 hb581
                  refine Sem.skip' (by kernel_rfl) Wk.refl ?_
                  show Sem _ _ _ _ _
                  refine wkD [349] ?_
                  refine qD ?_
                  refine bD (id := 5) ?_
                  refine sD kk [] [] [(52, vi 0)] obN ?_
                  refine bD (id := 6) ?_
                  obtain ⟨Inv595, mu596, h0Inv595, hInv595⟩ := h
                  refine loD (fun (q : Bool × Int) => (fun (is_12 : Bool) (j_8 : Int) => ([(16, vB r0), (19, .ptr 20 0), (20, av_api_Rx r0_1), (22, vS r0_2), (25, .ptr 26 0), (26, av_api_Places r0_3), (31, vB is_12), (37, vi i), (40, oL 3 enc_i64 now_9), (43, vL enc_i64 then0_9), (49, vi k_5), (52, vi j_8)] : Sta)) q.1 q.2) (fun (q : Bool × Int) => Inv595 q.1 q.2) (fun (q : Bool × Int) => mu596 q.1 q.2) (is_10, 0) [] h0Inv595 ?_
                  rintro ⟨is_12, j_8⟩ hi
                  have h := hInv595 is_12 j_8 hi
                  refine qD ?_
                  refine sDE kk [] [] [(370, vB (decide (j_8 < (↑(List.length (List.map enc_i64 (api_Places.Last r0_3))) : Int))))] [(370, vB (decide (j_8 < (↑(List.length (api_Places.Last r0_3)) : Int))))] obN ?_
                  refine cD (t := 123) (b := decide (j_8 < (↑(List.length (api_Places.Last r0_3)) : Int))) (fun hb597 => ?_) (fun hb597 => ?_)
                  · have h := h.1 hb597
                    refine Sem.skip' (by kernel_rfl) Wk.refl ?_
                    show Sem _ _ _ _ _
                    refine wkD [370] ?_
                    refine qD ?_
                    refine bD (id := 7) ?_
                    obtain ⟨h599, h600, h601, h602, h603, h⟩ := h
                    refine rM [] [(31, vB (is_12 || gd (api_Places.Last r0_3) j_8 == gd now_9 k_5))] ?_ (fun hk0 => ?_)
                    · show Sem _ _ _ _ _
                      refine rD kk [] [] [(52, vi (w64 (j_8 + 1)))] obN ?_
                      exact lD ((is_12 || gd (api_Places.Last r0_3) j_8 == gd now_9 k_5), (w64 (j_8 + 1))) [] h
                    · rcases Bool.eq_false_or_eq_true (is_12) with hb598 | hb598
                      · refine rD kk [.b false, .b false, .b false, .b false, .b false, .b false, .b false, .b false, .b false, .b false, .b true] [] [(31, vB true)] (obC (gff hb598) (obC (gff hb598) (obC (gff hb598) (obC (gff hb598) (obC (gff hb598) (obC (gff hb598) (obC (gff hb598) (obC (gff hb598) (obC (gff hb598) (obC (gff hb598) (obC hb598 obN))))))))))) ?_
                        exact kcast (by try rw [hb598]; kernel_rfl) hk0
                      · refine rD kk [.b true, .b true, .b true, .b true, .e (fi (gd (api_Places.Last r0_3) j_8)), .b true, .b true, .b true, .b true, .b true, .e (fi (gd now_9 k_5)), .b true, .b false] [] [(31, vB (gd (api_Places.Last r0_3) j_8 == gd now_9 k_5))] (obC (gft hb598) (obC (gft hb598) (obC (gft hb598) (obC (gft hb598) (obC (h599 hb598) (obC (idx_ok enc_i64 (api_Places.Last r0_3) j_8 _ rfl (h599 hb598) (h600 hb598)) (obC (gft hb598) (obC (gft hb598) (obC (gft hb598) (obC (gft hb598) (obC (h601 hb598) (obC (show Int.toNat k_5 < List.length (List.map enc_i64 now_9) from by simpa only [nm] using (h602 hb598)) (obC (gft hb598) (obC (show (List.map enc_i64 now_9)[((0 : Nat) + Int.toNat k_5 : Nat)]? = some (fi (gd now_9 k_5)) from by have := idx_ok enc_i64 now_9 k_5 _ rfl (h601 hb598) (h603 hb598); simpa only [nm, enq, enc_i64] using this) (obC (gft hb598) (obC hb598 obN)))))))))))))))) ?_
                        exact kcast (by try rw [hb598]; kernel_rfl) hk0
                  · have h := h.2 hb597
                    refine xD (i := 6) ?_
                    show Sem _ _ _ _ _
                    refine wkD [52, 370] ?_
                    refine rD kk [] [] [(49, vi (w64 (k_5 + 1)))] obN ?_
                    exact lD (is_12, (w64 (k_5 + 1))) [] h
                · have h := h.2 hb581
                  refine xD (i := 4) ?_
                  show Sem _ _ _ _ _
                  refine wkD [40, 49, 349] ?_
                  refine rD kk [] [43] [(34, vL enc_i64 then0_9)] obN ?_
                  show Sem _ _ _ _ _
                  refine rD kk [] [] [(37, vi (w64 (i + 1)))] obN ?_
                  exact lD (is_10, then0_9, (w64 (i + 1))) [] h
              · rcases Bool.eq_false_or_eq_true (decide (k_5 < (↑(List.length (List.map enc_i64 now_9)) : Int))) with hb580 | hb580
                · refine sD kk [.b true, .b true, .b true, .b true, .b true, .b true] [] [(349, vB (i == w64 ((↑(ByteArray.size r0_2) : Int) - 1)))] (obC (gtt hb580) (obC (gtt hb580) (obC (gtt hb580) (obC (gtt hb580) (obC (gtt hb580) (obC hb580 obN)))))) ?_
                  exact Sem.cast (by try rw [hb580]; kernel_rfl) hk0
                · refine sD kk [.b false, .b false, .b false, .b false, .b false, .b false] [] [(349, vB false)] (obC (gtf hb580) (obC (gtf hb580) (obC (gtf hb580) (obC (gtf hb580) (obC (gtf hb580) (obC hb580 obN)))))) ?_
                  exact Sem.cast (by try rw [hb580]; kernel_rfl) hk0
          · have h := h.2 hb404
            refine xD (i := 0) ?_
            show Sem _ _ _ _ _
            refine wkD [25, 26, 34, 37, 157] ?_
            rcases Bool.eq_false_or_eq_true (r0) with hb604 | hb604
            · have h := h.1 hb604
              obtain ⟨r0_41, hc605, h⟩ := h
              refine sD kk [.b true, .b true, .b true, .b true, .c (vB r0_41) [], .b true, .b true] [16, 19, 20, 22, 31] [(13, vB (is_4 == r0_41))] (obC (gtt hb604) (obC (gtt hb604) (obC (gtt hb604) (obC (gtt hb604) (obC hc605 (obC (gtt hb604) (obC hb604 obN))))))) ?_
              refine tD ?_
              obtain he0 := h
              subst res
              exact (endD [] (vB (is_4 == r0_41)) []).1
            · have h := h.2 hb604
              refine sD kk [.b false, .b false, .b false, .b false, .b false, .b false] [16, 19, 20, 22, 31] [(13, vB false)] (obC (gtf hb604) (obC (gtf hb604) (obC (gtf hb604) (obC (gtf hb604) (obC (gtf hb604) (obC hb604 obN)))))) ?_
              refine tD ?_
              obtain he0 := h
              subst res
              exact (endD [] (vB false) []).1
        · rcases Bool.eq_false_or_eq_true (api_Places.Null r0_3) with hb7 | hb7
          · refine sD kk [.b true, .b true, .b true] [] [(31, vB (ByteArray.toList r0_2 == ByteArray.toList { data := #[] }))] (obC (gtt hb7) (obC (gtt hb7) (obC hb7 obN))) ?_
            exact Sem.cast (by try rw [hb7]; kernel_rfl) hk0
          · refine sD kk [.b false, .b false, .b false] [] [(31, vB false)] (obC (gtf hb7) (obC (gtf hb7) (obC hb7 obN))) ?_
            exact Sem.cast (by try rw [hb7]; kernel_rfl) hk0
    · rcases Bool.eq_false_or_eq_true (r0_4 != (0 : Int)) with hb5 | hb5
      · refine sD kk [.b false, .b false, .b false, .b false, .b false, .b false, .b false, .b true] [28] [(121, vB true)] (obC (gff hb5) (obC (gff hb5) (obC (gff hb5) (obC (gff hb5) (obC (gff hb5) (obC (gff hb5) (obC (gff hb5) (obC hb5 obN)))))))) ?_
        exact Sem.cast (by try rw [hb5]; kernel_rfl) hk0
      · refine sDE kk [.b true, .b true, .b true, .b true, .b true, .b true, .b true, .b false] [28] [(121, vB ((↑(List.length (List.map enc_arr4_uint64 (api_Places.Sets r0_3))) : Int) != (↑(List.length (List.map encs_i64 (api_Places.Follow r0_3))) : Int)))] [(121, vB ((↑(List.length (api_Places.Sets r0_3)) : Int) != (↑(List.length (api_Places.Follow r0_3)) : Int)))] (obC (gft hb5) (obC (gft hb5) (obC (gft hb5) (obC (gft hb5) (obC (gft hb5) (obC (gft hb5) (obC (gft hb5) (obC hb5 obN)))))))) ?_
        exact Sem.cast (by try rw [hb5]; kernel_rfl) hk0
end Go.Ev


set_option linter.unusedSimpArgs false
set_option linter.unusedVariables false
namespace Go.Ev
open Go Go.Proofs
set_option maxRecDepth 8000
theorem ti4 : tiOf Try.prog 4 = some ⟨Try.t4.desc, 1, 1, some (.f (.pv (.bool false)))⟩ := tiOf_eq Try.underlying4 Try.type4 (by kernel_rfl)
theorem ti3 : tiOf Try.prog 3 = some ⟨Try.t3.desc, 1, 8, some (.f (.pv (.int .i64 0)))⟩ := tiOf_eq Try.underlying3 Try.type3 (by kernel_rfl)
theorem ti24 : tiOf Try.prog 24 = some ⟨Try.t23.desc, 4, 32, some (.agg [.f (.pv (.int .u64 0)), .f (.pv (.int .u64 0)), .f (.pv (.int .u64 0)), .f (.pv (.int .u64 0))])⟩ := tiOf_eq Try.underlying24 Try.type24 (by kernel_rfl)
theorem ti22 : tiOf Try.prog 22 = some ⟨Try.t22.desc, 1, 8, some (.f (.pv (.int .u64 0)))⟩ := tiOf_eq Try.underlying22 Try.type22 (by kernel_rfl)
theorem ti27 : tiOf Try.prog 27 = some ⟨Try.t26.desc, 8, 80, some (.agg [.f (.pv (.int .i64 0)), .f (.pv (.int .u64 0)), .f (.pv (.int .u64 0)), .f (.pv (.int .u64 0)), .f (.pv (.int .u64 0)), .f (.pv (.int .i64 0)), .f (.pv (.int .i64 0)), .own 27 []])⟩ := tiOf_eq Try.underlying27 Try.type27 (by kernel_rfl)
theorem ti25 : tiOf Try.prog 25 = some ⟨Try.t25.desc, 1, 24, some (.own 27 [])⟩ := tiOf_eq Try.underlying25 Try.type25 (by kernel_rfl)
def orBit (w : Int) (i : Int) : Int := IntKind.u64.wrap (BitVec.ofInt IntKind.u64.bits w ||| BitVec.ofInt IntKind.u64.bits (IntKind.u64.wrap (1 * 2 ^ min i.toNat IntKind.u64.bits))).toNat
def setAdd (s : arr4_uint64) (i : Int) : arr4_uint64 :=
  if i < 64 then { s with e0 := orBit s.e0 i } else if i < 128 then { s with e1 := orBit s.e1 (i - 64) } else if i < 192 then { s with e2 := orBit s.e2 (i - 128) } else { s with e3 := orBit s.e3 (i - 192) }
noncomputable def cf44 : Cfg := { ti := tiOf Try.prog, mv := fun _ => false, nt := 17, dead := keepC [4, 7, 13], deadL := keepC [] }
theorem divmod64 (q i : Int) (h0 : 0 ≤ i) (h1 : 64 * q ≤ i) (h2 : i < 64 * q + 64) : i.tdiv 64 = q ∧ i.tmod 64 = i - 64 * q := by
  rw [Int.tdiv_eq_ediv_of_nonneg h0, Int.tmod_eq_emod_of_nonneg h0]; omega
set_option maxHeartbeats 4000000 in
theorem add_ok (s : arr4_uint64) (i : Int) (h0 : 0 ≤ i) (h1 : i < 256) : C_heckleref01_add s i (setAdd s i) := by
  unfold C_heckleref01_add
  obtain ⟨a, b, c, d⟩ := s
  refine callE_of (c := cf44) (by rfl) (cfgOk_of rfl) (ipsOk_none rfl rfl) Try.func44 (by rfl) rfl rfl (Nat.le_of_ble_eq_true rfl) (by rfl) (by rfl) ?_
  rw [show Try.f44.results = #[.cell 4 24] from rfl]
  have hw0 : IntKind.i64.wrap 0 = 0 := by rfl
  have hw1 : IntKind.i64.wrap 1 = 1 := by rfl
  have hw2 : IntKind.i64.wrap 2 = 2 := by rfl
  have hw3 : IntKind.i64.wrap 3 = 3 := by rfl
  simp only [entry, av_arr4_uint64, vI, vi, vB, cf44, ti3, ti4, ti22, ti24, ti25, ti27, Try.t3, Try.t4, Try.t22, Try.t23, Try.t25, Try.t26, boxRM, hasO, isFO, List.any_cons, List.any_nil, storeX, mvS, wc_seq, wc_reg, wc_skip, wc_block, wc_exit, wc_ret, wc_cond, condQ_t, condQ_f, seqK_n, seqK_e, seqK_r, seqN_nil, seqN_cons, blockK_n, blockK_e, blockK_r, regN_nil, regN_cons, opsQ_nil, opsQ_cons, goQ_nil, goQ_cons, wq_ret, wq_fail, wq_ask, wq_call, wq_peek, wq_if, askQ_some, peekQ_some, look_none, look_at, leafAt.eq_1, leafAt.eq_2, get, ins, mapv, upd, dropN, Up.app.eq_1, Up.app.eq_2, Up.app.eq_3, Up.app.eq_4, Up.app.eq_5, Up.app.eq_6, AV.map2.eq_1, AV.map2.eq_2, AV.map2.eq_3, AV.map1.eq_1, AV.map1.eq_2, killr.eq_1, killr.eq_2, killr.eq_3, killp.eq_1, killp.eq_2, killp.eq_3, killb, putV, setLeaf.eq_1, setLeaf.eq_2, mapLeaf.eq_1, mapLeaf.eq_2, Ev.frz.eq_1, Ev.frz.eq_2, AV.toLeaf.eq_1, AV.toLeaf.eq_2, AV.toLeaf.eq_3, AV.leaves.eq_1, AV.leaves.eq_2, AV.isLeaf.eq_1, AV.isLeaf.eq_2, AV.isLeaf.eq_3, AV.ok.eq_1, AV.ok.eq_2, AV.ok1.eq_1, AV.ok1.eq_2, AV.isBad.eq_1, AV.isBad.eq_2, guardRM, opRM, rdO.eq_1, rdO.eq_2, rdO.eq_3, rdO.eq_4, rdL, vw.eq_1, vw.eq_2, vw.eq_3, vwL, vwLeaf.eq_1, vwLeaf.eq_2, fin.eq_1, fin.eq_2, finOwn.eq_1, finOwn.eq_2, finAgg.eq_1, finAgg.eq_2, finNew.eq_1, finNew.eq_2, newB.eq_1, newB.eq_2, moveRM.eq_1, moveRM.eq_2, asgRM.eq_1, asgRM.eq_2, asgRM.eq_3, asgRM.eq_4, loadRM, storeRM, stSrc.eq_1, stSrc.eq_2, stSrc.eq_3, stTmp.eq_1, stTmp.eq_2, stTmp.eq_3, stTmp.eq_4, stTmp.eq_5, stTmp.eq_6, stTmp.eq_7, stTmp.eq_8, stRaw, stAny, stNil, stEl, stL, cpoL, cpo1.eq_1, cpo1.eq_2, cp.eq_1, cp.eq_2, cp1.eq_1, cp1.eq_2, cp1.eq_3, cp1.eq_4, cp1.eq_5, cp1.eq_6, cpL, cps, fieldAddrRM, fieldOff, AV.plus.eq_1, AV.plus.eq_2, AV.plus.eq_3, AV.plus.eq_4, seen.eq_1, seen.eq_2, seen.eq_3, partAV, binAV.eq_1, binAV.eq_2, binAV.eq_3, binAV.eq_4, binAV.eq_5, binAV.eq_6, binAV.eq_7, binAV.eq_8, binAV.eq_9, unAV.eq_1, unAV.eq_2, unAV.eq_3, unAV.eq_4, optRM.eq_1, optRM.eq_2, intOp.eq_1, intOp.eq_2, intOp.eq_3, intOp.eq_4, intOp.eq_5, intOp.eq_6, intOp.eq_7, intOp.eq_8, intOp.eq_9, intOp.eq_10, intOp.eq_11, intOp.eq_12, intOp.eq_13, intOp.eq_14, intOp.eq_15, intOp.eq_16, shiftOp.eq_1, shiftOp.eq_2, shiftOp.eq_3, strOp.eq_1, strOp.eq_2, strOp.eq_3, strOp.eq_4, strOp.eq_5, strOp.eq_6, strOp.eq_7, strOp.eq_8, isShift.eq_1, isShift.eq_2, isShift.eq_3, buildRM, placesL, fillRM, fillL, buildSliceRM, elemsRM, lenRM.eq_1, lenRM.eq_2, lenRM.eq_3, lenSRM.eq_1, lenSRM.eq_2, maxAV.eq_1, maxAV.eq_2, maxGo, appendRM, apBase.eq_1, apBase.eq_2, apBase.eq_3, apGo, boOk.eq_1, boOk.eq_2, boUps.eq_1, boUps.eq_2, frzNe.eq_1, frzNe.eq_2, isSrcD.eq_1, isSrcD.eq_2, isSrcD.eq_3, sliceOpRM, callGo, addNew, builtinRM.eq_1, builtinRM.eq_2, builtinRM.eq_3, builtinRM.eq_4, builtinRM.eq_5, constAV.eq_1, constAV.eq_2, constL, constLeaf.eq_1, constLeaf.eq_2, constLeaf.eq_3, constLeaf.eq_4, constLeaf.eq_5, constLeaf.eq_6, constLeaf.eq_7, constLeaf.eq_8, constLeaf.eq_9, constLeaf.eq_10, isAggD.eq_1, isAggD.eq_2, isAggD.eq_3, askL, ofCells, AV.free, AV.refs.eq_1, AV.refs.eq_2, AV.refs1.eq_1, AV.refs1.eq_2, AV.refs0.eq_1, AV.refs0.eq_2, AV.refs0.eq_3, AV.refs0.eq_4, AV.refs0.eq_5, Acc.meets.eq_1, Acc.meets.eq_2, Acc.meets.eq_3, Acc.meets.eq_4, Acc.meets.eq_5, Acc.meets.eq_6, frzOff.eq_1, frzOff.eq_2, tb, xb, ob, endK_r, endK_n, endU.eq_1, endU.eq_2, outsOf, resRM.eq_1, resRM.eq_2, resRM.eq_3, res1.eq_1, res1.eq_2, res1.eq_3, cellR, cellFits.eq_1, cellFits.eq_2, cellFits.eq_3, rdR.eq_1, rdR.eq_2, rdRs, keepC, FV.one.eq_1, FV.one.eq_2, FV.cells.eq_1, FV.cells.eq_2, FV.cells.eq_3, AV.leafF.eq_1, AV.leafF.eq_2, AV.elem.eq_1, AV.elem.eq_2, fLeaves, asAV.eq_1, asAV.eq_2, opsP_nil, opsP_cons, goU_nil, goU_cons, goP_nil, goP_cons, ups_refs_nil, ups_refs_cons, ups_writes_nil, ups_writes_cons, regP_cons, wp_ret, wp_fail, wp_ask', wp_peek, wp_call, wp_if, askP_some, peekP_some, accOf.eq_1, accOf.eq_2, Up.refs.eq_1, Up.refs.eq_2, Up.refs.eq_3, Up.refs.eq_4, Up.refs.eq_5, Up.refs.eq_6, Up.writes.eq_1, Up.writes.eq_2, Up.writes.eq_3, Up.writes.eq_4, Up.writes.eq_5, Up.writes.eq_6, Option.isNone_none, AV.ptrs.eq_1, AV.ptrs.eq_2, AV.ptrs0.eq_1, AV.ptrs0.eq_2, AV.ptrs0.eq_3, frzAll, frzIn, ren1.eq_1, ren1.eq_2, ren0.eq_1, ren0.eq_2, ren0.eq_3, renC.eq_1, renC.eq_2, ren2.eq_1, ren2.eq_2, ren2.eq_3, shut1.eq_1, shut1.eq_2, shut0.eq_1, shut0.eq_2, shut0.eq_3, shut2.eq_1, shut2.eq_2, capIn.eq_1, capIn.eq_2, capIn.eq_3, capIn.eq_4, capIn.eq_5, isOut, sameLens, putsOf, setD.eq_1, setD.eq_2, dIn.eq_1, dIn.eq_2, toOut, back, ipOf.eq_1, ipOf.eq_2, ipRM, ipGo, AV.cap.eq_1, AV.cap.eq_2, AV.cap.eq_3, AV.cap.eq_4, callRM_nil, callRM_cons, gather_nil32, gather_cons32, indexAddrRM, indexRM, fieldRM, convAV, sliceRM, makeSliceRM, implies_true, imp_false, forall_const, Option.map_none, FV.size, Int.reduceEq, Int.reduceNe, Int.reduceLT, Int.reduceLE, Int.reduceGT, Int.reduceGE, Int.reduceAdd, Int.reduceSub, Int.reduceMul, Int.reduceNeg, Int.reduceToNat, Int.reducePow, Int.reduceTDiv, Int.reduceTMod, Int.reduceBEq, Int.reduceBNe, Nat.reducePow, Nat.reduceGT, reduceIte, decide_eq_true_eq, Int.toNat_zero, Nat.zero_mul, Nat.reduceMul, Nat.reduceAdd, Nat.reduceMod, Nat.reduceSub, Nat.reduceDiv, Nat.reduceEqDiff, Nat.reduceLT, Nat.reduceLeDiff, Nat.reduceBEq, Nat.reduceBNe, reduceCtorEq, if_true, if_false, Option.bind_some, Option.bind_none, Option.filter_some, Option.map_some, Option.some.injEq, List.getElem?_cons_zero, List.getElem?_cons_succ, List.getElem?_nil, List.getElem?_toArray, List.nodup_nil, List.nodup_cons, List.mem_cons, List.not_mem_nil, List.idxOf_cons, cond_true, cond_false, List.filterMap_cons, List.filterMap_nil, List.getD_cons_zero, List.getD_cons_succ, Option.getD_some, not_or, or_false, false_or, List.map_cons, List.length_map, Int.toNat_natCast, List.map_nil, List.all_cons, List.all_nil, List.length_cons, List.length_nil, List.nil_append, List.cons_append, List.append_nil, List.flatMap_cons, List.flatMap_nil, List.set_cons_zero, List.set_cons_succ, Bool.and_true, Bool.true_and, Bool.and_false, Bool.false_and, Bool.not_true, Bool.not_false, Bool.true_eq_false, Bool.false_eq_true, and_true, true_and, and_false, false_and, not_true_eq_false, not_false_eq_true, ne_eq, ite_self, List.contains_cons, List.contains_nil, Bool.or_false, Bool.false_or, Bool.or_true, Bool.true_or, Nat.zero_add, List.size_toArray, beq_self_eq_true, decide_true, decide_false, List.drop_succ_cons, List.drop_zero, List.take_succ_cons, List.take_zero]
  refine wc_draw (by rfl) (by rfl) ?_
  have cases4 : i < 64 ∨ (64 ≤ i ∧ i < 128) ∨ (128 ≤ i ∧ i < 192) ∨ 192 ≤ i := by omega
  rcases cases4 with c0 | ⟨c0, c1⟩ | ⟨c0, c1⟩ | c0
  · have e1 : i < 64 := by omega
    obtain ⟨hq, hm⟩ := divmod64 0 i h0 (by omega) (by omega)
    generalize hmm : i.tmod 64 = m at hm
    have hn : ¬ m < 0 := by omega
    simp only [hq, hmm, hn, hw0, cf44, ti3, ti4, ti22, ti24, ti25, ti27, Try.t3, Try.t4, Try.t22, Try.t23, Try.t25, Try.t26, boxRM, hasO, isFO, List.any_cons, List.any_nil, storeX, mvS, wc_seq, wc_reg, wc_skip, wc_block, wc_exit, wc_ret, wc_cond, condQ_t, condQ_f, seqK_n, seqK_e, seqK_r, seqN_nil, seqN_cons, blockK_n, blockK_e, blockK_r, regN_nil, regN_cons, opsQ_nil, opsQ_cons, goQ_nil, goQ_cons, wq_ret, wq_fail, wq_ask, wq_call, wq_peek, wq_if, askQ_some, peekQ_some, look_none, look_at, leafAt.eq_1, leafAt.eq_2, get, ins, mapv, upd, dropN, Up.app.eq_1, Up.app.eq_2, Up.app.eq_3, Up.app.eq_4, Up.app.eq_5, Up.app.eq_6, AV.map2.eq_1, AV.map2.eq_2, AV.map2.eq_3, AV.map1.eq_1, AV.map1.eq_2, killr.eq_1, killr.eq_2, killr.eq_3, killp.eq_1, killp.eq_2, killp.eq_3, killb, putV, setLeaf.eq_1, setLeaf.eq_2, mapLeaf.eq_1, mapLeaf.eq_2, Ev.frz.eq_1, Ev.frz.eq_2, AV.toLeaf.eq_1, AV.toLeaf.eq_2, AV.toLeaf.eq_3, AV.leaves.eq_1, AV.leaves.eq_2, AV.isLeaf.eq_1, AV.isLeaf.eq_2, AV.isLeaf.eq_3, AV.ok.eq_1, AV.ok.eq_2, AV.ok1.eq_1, AV.ok1.eq_2, AV.isBad.eq_1, AV.isBad.eq_2, guardRM, opRM, rdO.eq_1, rdO.eq_2, rdO.eq_3, rdO.eq_4, rdL, vw.eq_1, vw.eq_2, vw.eq_3, vwL, vwLeaf.eq_1, vwLeaf.eq_2, fin.eq_1, fin.eq_2, finOwn.eq_1, finOwn.eq_2, finAgg.eq_1, finAgg.eq_2, finNew.eq_1, finNew.eq_2, newB.eq_1, newB.eq_2, moveRM.eq_1, moveRM.eq_2, asgRM.eq_1, asgRM.eq_2, asgRM.eq_3, asgRM.eq_4, loadRM, storeRM, stSrc.eq_1, stSrc.eq_2, stSrc.eq_3, stTmp.eq_1, stTmp.eq_2, stTmp.eq_3, stTmp.eq_4, stTmp.eq_5, stTmp.eq_6, stTmp.eq_7, stTmp.eq_8, stRaw, stAny, stNil, stEl, stL, cpoL, cpo1.eq_1, cpo1.eq_2, cp.eq_1, cp.eq_2, cp1.eq_1, cp1.eq_2, cp1.eq_3, cp1.eq_4, cp1.eq_5, cp1.eq_6, cpL, cps, fieldAddrRM, fieldOff, AV.plus.eq_1, AV.plus.eq_2, AV.plus.eq_3, AV.plus.eq_4, seen.eq_1, seen.eq_2, seen.eq_3, partAV, binAV.eq_1, binAV.eq_2, binAV.eq_3, binAV.eq_4, binAV.eq_5, binAV.eq_6, binAV.eq_7, binAV.eq_8, binAV.eq_9, unAV.eq_1, unAV.eq_2, unAV.eq_3, unAV.eq_4, optRM.eq_1, optRM.eq_2, intOp.eq_1, intOp.eq_2, intOp.eq_3, intOp.eq_4, intOp.eq_5, intOp.eq_6, intOp.eq_7, intOp.eq_8, intOp.eq_9, intOp.eq_10, intOp.eq_11, intOp.eq_12, intOp.eq_13, intOp.eq_14, intOp.eq_15, intOp.eq_16, shiftOp.eq_1, shiftOp.eq_2, shiftOp.eq_3, strOp.eq_1, strOp.eq_2, strOp.eq_3, strOp.eq_4, strOp.eq_5, strOp.eq_6, strOp.eq_7, strOp.eq_8, isShift.eq_1, isShift.eq_2, isShift.eq_3, buildRM, placesL, fillRM, fillL, buildSliceRM, elemsRM, lenRM.eq_1, lenRM.eq_2, lenRM.eq_3, lenSRM.eq_1, lenSRM.eq_2, maxAV.eq_1, maxAV.eq_2, maxGo, appendRM, apBase.eq_1, apBase.eq_2, apBase.eq_3, apGo, boOk.eq_1, boOk.eq_2, boUps.eq_1, boUps.eq_2, frzNe.eq_1, frzNe.eq_2, isSrcD.eq_1, isSrcD.eq_2, isSrcD.eq_3, sliceOpRM, callGo, addNew, builtinRM.eq_1, builtinRM.eq_2, builtinRM.eq_3, builtinRM.eq_4, builtinRM.eq_5, constAV.eq_1, constAV.eq_2, constL, constLeaf.eq_1, constLeaf.eq_2, constLeaf.eq_3, constLeaf.eq_4, constLeaf.eq_5, constLeaf.eq_6, constLeaf.eq_7, constLeaf.eq_8, constLeaf.eq_9, constLeaf.eq_10, isAggD.eq_1, isAggD.eq_2, isAggD.eq_3, askL, ofCells, AV.free, AV.refs.eq_1, AV.refs.eq_2, AV.refs1.eq_1, AV.refs1.eq_2, AV.refs0.eq_1, AV.refs0.eq_2, AV.refs0.eq_3, AV.refs0.eq_4, AV.refs0.eq_5, Acc.meets.eq_1, Acc.meets.eq_2, Acc.meets.eq_3, Acc.meets.eq_4, Acc.meets.eq_5, Acc.meets.eq_6, frzOff.eq_1, frzOff.eq_2, tb, xb, ob, endK_r, endK_n, endU.eq_1, endU.eq_2, outsOf, resRM.eq_1, resRM.eq_2, resRM.eq_3, res1.eq_1, res1.eq_2, res1.eq_3, cellR, cellFits.eq_1, cellFits.eq_2, cellFits.eq_3, rdR.eq_1, rdR.eq_2, rdRs, keepC, FV.one.eq_1, FV.one.eq_2, FV.cells.eq_1, FV.cells.eq_2, FV.cells.eq_3, AV.leafF.eq_1, AV.leafF.eq_2, AV.elem.eq_1, AV.elem.eq_2, fLeaves, asAV.eq_1, asAV.eq_2, opsP_nil, opsP_cons, goU_nil, goU_cons, goP_nil, goP_cons, ups_refs_nil, ups_refs_cons, ups_writes_nil, ups_writes_cons, regP_cons, wp_ret, wp_fail, wp_ask', wp_peek, wp_call, wp_if, askP_some, peekP_some, accOf.eq_1, accOf.eq_2, Up.refs.eq_1, Up.refs.eq_2, Up.refs.eq_3, Up.refs.eq_4, Up.refs.eq_5, Up.refs.eq_6, Up.writes.eq_1, Up.writes.eq_2, Up.writes.eq_3, Up.writes.eq_4, Up.writes.eq_5, Up.writes.eq_6, Option.isNone_none, AV.ptrs.eq_1, AV.ptrs.eq_2, AV.ptrs0.eq_1, AV.ptrs0.eq_2, AV.ptrs0.eq_3, frzAll, frzIn, ren1.eq_1, ren1.eq_2, ren0.eq_1, ren0.eq_2, ren0.eq_3, renC.eq_1, renC.eq_2, ren2.eq_1, ren2.eq_2, ren2.eq_3, shut1.eq_1, shut1.eq_2, shut0.eq_1, shut0.eq_2, shut0.eq_3, shut2.eq_1, shut2.eq_2, capIn.eq_1, capIn.eq_2, capIn.eq_3, capIn.eq_4, capIn.eq_5, isOut, sameLens, putsOf, setD.eq_1, setD.eq_2, dIn.eq_1, dIn.eq_2, toOut, back, ipOf.eq_1, ipOf.eq_2, ipRM, ipGo, AV.cap.eq_1, AV.cap.eq_2, AV.cap.eq_3, AV.cap.eq_4, callRM_nil, callRM_cons, gather_nil32, gather_cons32, indexAddrRM, indexRM, fieldRM, convAV, sliceRM, makeSliceRM, implies_true, imp_false, forall_const, Option.map_none, FV.size, Int.reduceEq, Int.reduceNe, Int.reduceLT, Int.reduceLE, Int.reduceGT, Int.reduceGE, Int.reduceAdd, Int.reduceSub, Int.reduceMul, Int.reduceNeg, Int.reduceToNat, Int.reducePow, Int.reduceTDiv, Int.reduceTMod, Int.reduceBEq, Int.reduceBNe, Nat.reducePow, Nat.reduceGT, reduceIte, decide_eq_true_eq, Int.toNat_zero, Nat.zero_mul, Nat.reduceMul, Nat.reduceAdd, Nat.reduceMod, Nat.reduceSub, Nat.reduceDiv, Nat.reduceEqDiff, Nat.reduceLT, Nat.reduceLeDiff, Nat.reduceBEq, Nat.reduceBNe, reduceCtorEq, if_true, if_false, Option.bind_some, Option.bind_none, Option.filter_some, Option.map_some, Option.some.injEq, List.getElem?_cons_zero, List.getElem?_cons_succ, List.getElem?_nil, List.getElem?_toArray, List.nodup_nil, List.nodup_cons, List.mem_cons, List.not_mem_nil, List.idxOf_cons, cond_true, cond_false, List.filterMap_cons, List.filterMap_nil, List.getD_cons_zero, List.getD_cons_succ, Option.getD_some, not_or, or_false, false_or, List.map_cons, List.length_map, Int.toNat_natCast, List.map_nil, List.all_cons, List.all_nil, List.length_cons, List.length_nil, List.nil_append, List.cons_append, List.append_nil, List.flatMap_cons, List.flatMap_nil, List.set_cons_zero, List.set_cons_succ, Bool.and_true, Bool.true_and, Bool.and_false, Bool.false_and, Bool.not_true, Bool.not_false, Bool.true_eq_false, Bool.false_eq_true, and_true, true_and, and_false, false_and, not_true_eq_false, not_false_eq_true, ne_eq, ite_self, List.contains_cons, List.contains_nil, Bool.or_false, Bool.false_or, Bool.or_true, Bool.true_or, Nat.zero_add, List.size_toArray, beq_self_eq_true, decide_true, decide_false, List.drop_succ_cons, List.drop_zero, List.take_succ_cons, List.take_zero]
    refine ⟨by decide, by decide, by rfl, ?_⟩
    simp [setAdd, e1, orBit, hm]
  · have e1 : ¬ i < 64 := by omega
    have e2 : i < 128 := by omega
    obtain ⟨hq, hm⟩ := divmod64 1 i h0 (by omega) (by omega)
    generalize hmm : i.tmod 64 = m at hm
    have hn : ¬ m < 0 := by omega
    simp only [hq, hmm, hn, hw1, cf44, ti3, ti4, ti22, ti24, ti25, ti27, Try.t3, Try.t4, Try.t22, Try.t23, Try.t25, Try.t26, boxRM, hasO, isFO, List.any_cons, List.any_nil, storeX, mvS, wc_seq, wc_reg, wc_skip, wc_block, wc_exit, wc_ret, wc_cond, condQ_t, condQ_f, seqK_n, seqK_e, seqK_r, seqN_nil, seqN_cons, blockK_n, blockK_e, blockK_r, regN_nil, regN_cons, opsQ_nil, opsQ_cons, goQ_nil, goQ_cons, wq_ret, wq_fail, wq_ask, wq_call, wq_peek, wq_if, askQ_some, peekQ_some, look_none, look_at, leafAt.eq_1, leafAt.eq_2, get, ins, mapv, upd, dropN, Up.app.eq_1, Up.app.eq_2, Up.app.eq_3, Up.app.eq_4, Up.app.eq_5, Up.app.eq_6, AV.map2.eq_1, AV.map2.eq_2, AV.map2.eq_3, AV.map1.eq_1, AV.map1.eq_2, killr.eq_1, killr.eq_2, killr.eq_3, killp.eq_1, killp.eq_2, killp.eq_3, killb, putV, setLeaf.eq_1, setLeaf.eq_2, mapLeaf.eq_1, mapLeaf.eq_2, Ev.frz.eq_1, Ev.frz.eq_2, AV.toLeaf.eq_1, AV.toLeaf.eq_2, AV.toLeaf.eq_3, AV.leaves.eq_1, AV.leaves.eq_2, AV.isLeaf.eq_1, AV.isLeaf.eq_2, AV.isLeaf.eq_3, AV.ok.eq_1, AV.ok.eq_2, AV.ok1.eq_1, AV.ok1.eq_2, AV.isBad.eq_1, AV.isBad.eq_2, guardRM, opRM, rdO.eq_1, rdO.eq_2, rdO.eq_3, rdO.eq_4, rdL, vw.eq_1, vw.eq_2, vw.eq_3, vwL, vwLeaf.eq_1, vwLeaf.eq_2, fin.eq_1, fin.eq_2, finOwn.eq_1, finOwn.eq_2, finAgg.eq_1, finAgg.eq_2, finNew.eq_1, finNew.eq_2, newB.eq_1, newB.eq_2, moveRM.eq_1, moveRM.eq_2, asgRM.eq_1, asgRM.eq_2, asgRM.eq_3, asgRM.eq_4, loadRM, storeRM, stSrc.eq_1, stSrc.eq_2, stSrc.eq_3, stTmp.eq_1, stTmp.eq_2, stTmp.eq_3, stTmp.eq_4, stTmp.eq_5, stTmp.eq_6, stTmp.eq_7, stTmp.eq_8, stRaw, stAny, stNil, stEl, stL, cpoL, cpo1.eq_1, cpo1.eq_2, cp.eq_1, cp.eq_2, cp1.eq_1, cp1.eq_2, cp1.eq_3, cp1.eq_4, cp1.eq_5, cp1.eq_6, cpL, cps, fieldAddrRM, fieldOff, AV.plus.eq_1, AV.plus.eq_2, AV.plus.eq_3, AV.plus.eq_4, seen.eq_1, seen.eq_2, seen.eq_3, partAV, binAV.eq_1, binAV.eq_2, binAV.eq_3, binAV.eq_4, binAV.eq_5, binAV.eq_6, binAV.eq_7, binAV.eq_8, binAV.eq_9, unAV.eq_1, unAV.eq_2, unAV.eq_3, unAV.eq_4, optRM.eq_1, optRM.eq_2, intOp.eq_1, intOp.eq_2, intOp.eq_3, intOp.eq_4, intOp.eq_5, intOp.eq_6, intOp.eq_7, intOp.eq_8, intOp.eq_9, intOp.eq_10, intOp.eq_11, intOp.eq_12, intOp.eq_13, intOp.eq_14, intOp.eq_15, intOp.eq_16, shiftOp.eq_1, shiftOp.eq_2, shiftOp.eq_3, strOp.eq_1, strOp.eq_2, strOp.eq_3, strOp.eq_4, strOp.eq_5, strOp.eq_6, strOp.eq_7, strOp.eq_8, isShift.eq_1, isShift.eq_2, isShift.eq_3, buildRM, placesL, fillRM, fillL, buildSliceRM, elemsRM, lenRM.eq_1, lenRM.eq_2, lenRM.eq_3, lenSRM.eq_1, lenSRM.eq_2, maxAV.eq_1, maxAV.eq_2, maxGo, appendRM, apBase.eq_1, apBase.eq_2, apBase.eq_3, apGo, boOk.eq_1, boOk.eq_2, boUps.eq_1, boUps.eq_2, frzNe.eq_1, frzNe.eq_2, isSrcD.eq_1, isSrcD.eq_2, isSrcD.eq_3, sliceOpRM, callGo, addNew, builtinRM.eq_1, builtinRM.eq_2, builtinRM.eq_3, builtinRM.eq_4, builtinRM.eq_5, constAV.eq_1, constAV.eq_2, constL, constLeaf.eq_1, constLeaf.eq_2, constLeaf.eq_3, constLeaf.eq_4, constLeaf.eq_5, constLeaf.eq_6, constLeaf.eq_7, constLeaf.eq_8, constLeaf.eq_9, constLeaf.eq_10, isAggD.eq_1, isAggD.eq_2, isAggD.eq_3, askL, ofCells, AV.free, AV.refs.eq_1, AV.refs.eq_2, AV.refs1.eq_1, AV.refs1.eq_2, AV.refs0.eq_1, AV.refs0.eq_2, AV.refs0.eq_3, AV.refs0.eq_4, AV.refs0.eq_5, Acc.meets.eq_1, Acc.meets.eq_2, Acc.meets.eq_3, Acc.meets.eq_4, Acc.meets.eq_5, Acc.meets.eq_6, frzOff.eq_1, frzOff.eq_2, tb, xb, ob, endK_r, endK_n, endU.eq_1, endU.eq_2, outsOf, resRM.eq_1, resRM.eq_2, resRM.eq_3, res1.eq_1, res1.eq_2, res1.eq_3, cellR, cellFits.eq_1, cellFits.eq_2, cellFits.eq_3, rdR.eq_1, rdR.eq_2, rdRs, keepC, FV.one.eq_1, FV.one.eq_2, FV.cells.eq_1, FV.cells.eq_2, FV.cells.eq_3, AV.leafF.eq_1, AV.leafF.eq_2, AV.elem.eq_1, AV.elem.eq_2, fLeaves, asAV.eq_1, asAV.eq_2, opsP_nil, opsP_cons, goU_nil, goU_cons, goP_nil, goP_cons, ups_refs_nil, ups_refs_cons, ups_writes_nil, ups_writes_cons, regP_cons, wp_ret, wp_fail, wp_ask', wp_peek, wp_call, wp_if, askP_some, peekP_some, accOf.eq_1, accOf.eq_2, Up.refs.eq_1, Up.refs.eq_2, Up.refs.eq_3, Up.refs.eq_4, Up.refs.eq_5, Up.refs.eq_6, Up.writes.eq_1, Up.writes.eq_2, Up.writes.eq_3, Up.writes.eq_4, Up.writes.eq_5, Up.writes.eq_6, Option.isNone_none, AV.ptrs.eq_1, AV.ptrs.eq_2, AV.ptrs0.eq_1, AV.ptrs0.eq_2, AV.ptrs0.eq_3, frzAll, frzIn, ren1.eq_1, ren1.eq_2, ren0.eq_1, ren0.eq_2, ren0.eq_3, renC.eq_1, renC.eq_2, ren2.eq_1, ren2.eq_2, ren2.eq_3, shut1.eq_1, shut1.eq_2, shut0.eq_1, shut0.eq_2, shut0.eq_3, shut2.eq_1, shut2.eq_2, capIn.eq_1, capIn.eq_2, capIn.eq_3, capIn.eq_4, capIn.eq_5, isOut, sameLens, putsOf, setD.eq_1, setD.eq_2, dIn.eq_1, dIn.eq_2, toOut, back, ipOf.eq_1, ipOf.eq_2, ipRM, ipGo, AV.cap.eq_1, AV.cap.eq_2, AV.cap.eq_3, AV.cap.eq_4, callRM_nil, callRM_cons, gather_nil32, gather_cons32, indexAddrRM, indexRM, fieldRM, convAV, sliceRM, makeSliceRM, implies_true, imp_false, forall_const, Option.map_none, FV.size, Int.reduceEq, Int.reduceNe, Int.reduceLT, Int.reduceLE, Int.reduceGT, Int.reduceGE, Int.reduceAdd, Int.reduceSub, Int.reduceMul, Int.reduceNeg, Int.reduceToNat, Int.reducePow, Int.reduceTDiv, Int.reduceTMod, Int.reduceBEq, Int.reduceBNe, Nat.reducePow, Nat.reduceGT, reduceIte, decide_eq_true_eq, Int.toNat_zero, Nat.zero_mul, Nat.reduceMul, Nat.reduceAdd, Nat.reduceMod, Nat.reduceSub, Nat.reduceDiv, Nat.reduceEqDiff, Nat.reduceLT, Nat.reduceLeDiff, Nat.reduceBEq, Nat.reduceBNe, reduceCtorEq, if_true, if_false, Option.bind_some, Option.bind_none, Option.filter_some, Option.map_some, Option.some.injEq, List.getElem?_cons_zero, List.getElem?_cons_succ, List.getElem?_nil, List.getElem?_toArray, List.nodup_nil, List.nodup_cons, List.mem_cons, List.not_mem_nil, List.idxOf_cons, cond_true, cond_false, List.filterMap_cons, List.filterMap_nil, List.getD_cons_zero, List.getD_cons_succ, Option.getD_some, not_or, or_false, false_or, List.map_cons, List.length_map, Int.toNat_natCast, List.map_nil, List.all_cons, List.all_nil, List.length_cons, List.length_nil, List.nil_append, List.cons_append, List.append_nil, List.flatMap_cons, List.flatMap_nil, List.set_cons_zero, List.set_cons_succ, Bool.and_true, Bool.true_and, Bool.and_false, Bool.false_and, Bool.not_true, Bool.not_false, Bool.true_eq_false, Bool.false_eq_true, and_true, true_and, and_false, false_and, not_true_eq_false, not_false_eq_true, ne_eq, ite_self, List.contains_cons, List.contains_nil, Bool.or_false, Bool.false_or, Bool.or_true, Bool.true_or, Nat.zero_add, List.size_toArray, beq_self_eq_true, decide_true, decide_false, List.drop_succ_cons, List.drop_zero, List.take_succ_cons, List.take_zero]
    refine ⟨by decide, by decide, by rfl, ?_⟩
    simp [setAdd, e1, e2, orBit, hm]
  · have e1 : ¬ i < 64 := by omega
    have e2 : ¬ i < 128 := by omega
    have e3 : i < 192 := by omega
    obtain ⟨hq, hm⟩ := divmod64 2 i h0 (by omega) (by omega)
    generalize hmm : i.tmod 64 = m at hm
    have hn : ¬ m < 0 := by omega
    simp only [hq, hmm, hn, hw2, cf44, ti3, ti4, ti22, ti24, ti25, ti27, Try.t3, Try.t4, Try.t22, Try.t23, Try.t25, Try.t26, boxRM, hasO, isFO, List.any_cons, List.any_nil, storeX, mvS, wc_seq, wc_reg, wc_skip, wc_block, wc_exit, wc_ret, wc_cond, condQ_t, condQ_f, seqK_n, seqK_e, seqK_r, seqN_nil, seqN_cons, blockK_n, blockK_e, blockK_r, regN_nil, regN_cons, opsQ_nil, opsQ_cons, goQ_nil, goQ_cons, wq_ret, wq_fail, wq_ask, wq_call, wq_peek, wq_if, askQ_some, peekQ_some, look_none, look_at, leafAt.eq_1, leafAt.eq_2, get, ins, mapv, upd, dropN, Up.app.eq_1, Up.app.eq_2, Up.app.eq_3, Up.app.eq_4, Up.app.eq_5, Up.app.eq_6, AV.map2.eq_1, AV.map2.eq_2, AV.map2.eq_3, AV.map1.eq_1, AV.map1.eq_2, killr.eq_1, killr.eq_2, killr.eq_3, killp.eq_1, killp.eq_2, killp.eq_3, killb, putV, setLeaf.eq_1, setLeaf.eq_2, mapLeaf.eq_1, mapLeaf.eq_2, Ev.frz.eq_1, Ev.frz.eq_2, AV.toLeaf.eq_1, AV.toLeaf.eq_2, AV.toLeaf.eq_3, AV.leaves.eq_1, AV.leaves.eq_2, AV.isLeaf.eq_1, AV.isLeaf.eq_2, AV.isLeaf.eq_3, AV.ok.eq_1, AV.ok.eq_2, AV.ok1.eq_1, AV.ok1.eq_2, AV.isBad.eq_1, AV.isBad.eq_2, guardRM, opRM, rdO.eq_1, rdO.eq_2, rdO.eq_3, rdO.eq_4, rdL, vw.eq_1, vw.eq_2, vw.eq_3, vwL, vwLeaf.eq_1, vwLeaf.eq_2, fin.eq_1, fin.eq_2, finOwn.eq_1, finOwn.eq_2, finAgg.eq_1, finAgg.eq_2, finNew.eq_1, finNew.eq_2, newB.eq_1, newB.eq_2, moveRM.eq_1, moveRM.eq_2, asgRM.eq_1, asgRM.eq_2, asgRM.eq_3, asgRM.eq_4, loadRM, storeRM, stSrc.eq_1, stSrc.eq_2, stSrc.eq_3, stTmp.eq_1, stTmp.eq_2, stTmp.eq_3, stTmp.eq_4, stTmp.eq_5, stTmp.eq_6, stTmp.eq_7, stTmp.eq_8, stRaw, stAny, stNil, stEl, stL, cpoL, cpo1.eq_1, cpo1.eq_2, cp.eq_1, cp.eq_2, cp1.eq_1, cp1.eq_2, cp1.eq_3, cp1.eq_4, cp1.eq_5, cp1.eq_6, cpL, cps, fieldAddrRM, fieldOff, AV.plus.eq_1, AV.plus.eq_2, AV.plus.eq_3, AV.plus.eq_4, seen.eq_1, seen.eq_2, seen.eq_3, partAV, binAV.eq_1, binAV.eq_2, binAV.eq_3, binAV.eq_4, binAV.eq_5, binAV.eq_6, binAV.eq_7, binAV.eq_8, binAV.eq_9, unAV.eq_1, unAV.eq_2, unAV.eq_3, unAV.eq_4, optRM.eq_1, optRM.eq_2, intOp.eq_1, intOp.eq_2, intOp.eq_3, intOp.eq_4, intOp.eq_5, intOp.eq_6, intOp.eq_7, intOp.eq_8, intOp.eq_9, intOp.eq_10, intOp.eq_11, intOp.eq_12, intOp.eq_13, intOp.eq_14, intOp.eq_15, intOp.eq_16, shiftOp.eq_1, shiftOp.eq_2, shiftOp.eq_3, strOp.eq_1, strOp.eq_2, strOp.eq_3, strOp.eq_4, strOp.eq_5, strOp.eq_6, strOp.eq_7, strOp.eq_8, isShift.eq_1, isShift.eq_2, isShift.eq_3, buildRM, placesL, fillRM, fillL, buildSliceRM, elemsRM, lenRM.eq_1, lenRM.eq_2, lenRM.eq_3, lenSRM.eq_1, lenSRM.eq_2, maxAV.eq_1, maxAV.eq_2, maxGo, appendRM, apBase.eq_1, apBase.eq_2, apBase.eq_3, apGo, boOk.eq_1, boOk.eq_2, boUps.eq_1, boUps.eq_2, frzNe.eq_1, frzNe.eq_2, isSrcD.eq_1, isSrcD.eq_2, isSrcD.eq_3, sliceOpRM, callGo, addNew, builtinRM.eq_1, builtinRM.eq_2, builtinRM.eq_3, builtinRM.eq_4, builtinRM.eq_5, constAV.eq_1, constAV.eq_2, constL, constLeaf.eq_1, constLeaf.eq_2, constLeaf.eq_3, constLeaf.eq_4, constLeaf.eq_5, constLeaf.eq_6, constLeaf.eq_7, constLeaf.eq_8, constLeaf.eq_9, constLeaf.eq_10, isAggD.eq_1, isAggD.eq_2, isAggD.eq_3, askL, ofCells, AV.free, AV.refs.eq_1, AV.refs.eq_2, AV.refs1.eq_1, AV.refs1.eq_2, AV.refs0.eq_1, AV.refs0.eq_2, AV.refs0.eq_3, AV.refs0.eq_4, AV.refs0.eq_5, Acc.meets.eq_1, Acc.meets.eq_2, Acc.meets.eq_3, Acc.meets.eq_4, Acc.meets.eq_5, Acc.meets.eq_6, frzOff.eq_1, frzOff.eq_2, tb, xb, ob, endK_r, endK_n, endU.eq_1, endU.eq_2, outsOf, resRM.eq_1, resRM.eq_2, resRM.eq_3, res1.eq_1, res1.eq_2, res1.eq_3, cellR, cellFits.eq_1, cellFits.eq_2, cellFits.eq_3, rdR.eq_1, rdR.eq_2, rdRs, keepC, FV.one.eq_1, FV.one.eq_2, FV.cells.eq_1, FV.cells.eq_2, FV.cells.eq_3, AV.leafF.eq_1, AV.leafF.eq_2, AV.elem.eq_1, AV.elem.eq_2, fLeaves, asAV.eq_1, asAV.eq_2, opsP_nil, opsP_cons, goU_nil, goU_cons, goP_nil, goP_cons, ups_refs_nil, ups_refs_cons, ups_writes_nil, ups_writes_cons, regP_cons, wp_ret, wp_fail, wp_ask', wp_peek, wp_call, wp_if, askP_some, peekP_some, accOf.eq_1, accOf.eq_2, Up.refs.eq_1, Up.refs.eq_2, Up.refs.eq_3, Up.refs.eq_4, Up.refs.eq_5, Up.refs.eq_6, Up.writes.eq_1, Up.writes.eq_2, Up.writes.eq_3, Up.writes.eq_4, Up.writes.eq_5, Up.writes.eq_6, Option.isNone_none, AV.ptrs.eq_1, AV.ptrs.eq_2, AV.ptrs0.eq_1, AV.ptrs0.eq_2, AV.ptrs0.eq_3, frzAll, frzIn, ren1.eq_1, ren1.eq_2, ren0.eq_1, ren0.eq_2, ren0.eq_3, renC.eq_1, renC.eq_2, ren2.eq_1, ren2.eq_2, ren2.eq_3, shut1.eq_1, shut1.eq_2, shut0.eq_1, shut0.eq_2, shut0.eq_3, shut2.eq_1, shut2.eq_2, capIn.eq_1, capIn.eq_2, capIn.eq_3, capIn.eq_4, capIn.eq_5, isOut, sameLens, putsOf, setD.eq_1, setD.eq_2, dIn.eq_1, dIn.eq_2, toOut, back, ipOf.eq_1, ipOf.eq_2, ipRM, ipGo, AV.cap.eq_1, AV.cap.eq_2, AV.cap.eq_3, AV.cap.eq_4, callRM_nil, callRM_cons, gather_nil32, gather_cons32, indexAddrRM, indexRM, fieldRM, convAV, sliceRM, makeSliceRM, implies_true, imp_false, forall_const, Option.map_none, FV.size, Int.reduceEq, Int.reduceNe, Int.reduceLT, Int.reduceLE, Int.reduceGT, Int.reduceGE, Int.reduceAdd, Int.reduceSub, Int.reduceMul, Int.reduceNeg, Int.reduceToNat, Int.reducePow, Int.reduceTDiv, Int.reduceTMod, Int.reduceBEq, Int.reduceBNe, Nat.reducePow, Nat.reduceGT, reduceIte, decide_eq_true_eq, Int.toNat_zero, Nat.zero_mul, Nat.reduceMul, Nat.reduceAdd, Nat.reduceMod, Nat.reduceSub, Nat.reduceDiv, Nat.reduceEqDiff, Nat.reduceLT, Nat.reduceLeDiff, Nat.reduceBEq, Nat.reduceBNe, reduceCtorEq, if_true, if_false, Option.bind_some, Option.bind_none, Option.filter_some, Option.map_some, Option.some.injEq, List.getElem?_cons_zero, List.getElem?_cons_succ, List.getElem?_nil, List.getElem?_toArray, List.nodup_nil, List.nodup_cons, List.mem_cons, List.not_mem_nil, List.idxOf_cons, cond_true, cond_false, List.filterMap_cons, List.filterMap_nil, List.getD_cons_zero, List.getD_cons_succ, Option.getD_some, not_or, or_false, false_or, List.map_cons, List.length_map, Int.toNat_natCast, List.map_nil, List.all_cons, List.all_nil, List.length_cons, List.length_nil, List.nil_append, List.cons_append, List.append_nil, List.flatMap_cons, List.flatMap_nil, List.set_cons_zero, List.set_cons_succ, Bool.and_true, Bool.true_and, Bool.and_false, Bool.false_and, Bool.not_true, Bool.not_false, Bool.true_eq_false, Bool.false_eq_true, and_true, true_and, and_false, false_and, not_true_eq_false, not_false_eq_true, ne_eq, ite_self, List.contains_cons, List.contains_nil, Bool.or_false, Bool.false_or, Bool.or_true, Bool.true_or, Nat.zero_add, List.size_toArray, beq_self_eq_true, decide_true, decide_false, List.drop_succ_cons, List.drop_zero, List.take_succ_cons, List.take_zero]
    refine ⟨by decide, by decide, by rfl, ?_⟩
    simp [setAdd, e1, e2, e3, orBit, hm]
  · have e1 : ¬ i < 64 := by omega
    have e2 : ¬ i < 128 := by omega
    have e3 : ¬ i < 192 := by omega
    obtain ⟨hq, hm⟩ := divmod64 3 i h0 (by omega) (by omega)
    generalize hmm : i.tmod 64 = m at hm
    have hn : ¬ m < 0 := by omega
    simp only [hq, hmm, hn, hw3, cf44, ti3, ti4, ti22, ti24, ti25, ti27, Try.t3, Try.t4, Try.t22, Try.t23, Try.t25, Try.t26, boxRM, hasO, isFO, List.any_cons, List.any_nil, storeX, mvS, wc_seq, wc_reg, wc_skip, wc_block, wc_exit, wc_ret, wc_cond, condQ_t, condQ_f, seqK_n, seqK_e, seqK_r, seqN_nil, seqN_cons, blockK_n, blockK_e, blockK_r, regN_nil, regN_cons, opsQ_nil, opsQ_cons, goQ_nil, goQ_cons, wq_ret, wq_fail, wq_ask, wq_call, wq_peek, wq_if, askQ_some, peekQ_some, look_none, look_at, leafAt.eq_1, leafAt.eq_2, get, ins, mapv, upd, dropN, Up.app.eq_1, Up.app.eq_2, Up.app.eq_3, Up.app.eq_4, Up.app.eq_5, Up.app.eq_6, AV.map2.eq_1, AV.map2.eq_2, AV.map2.eq_3, AV.map1.eq_1, AV.map1.eq_2, killr.eq_1, killr.eq_2, killr.eq_3, killp.eq_1, killp.eq_2, killp.eq_3, killb, putV, setLeaf.eq_1, setLeaf.eq_2, mapLeaf.eq_1, mapLeaf.eq_2, Ev.frz.eq_1, Ev.frz.eq_2, AV.toLeaf.eq_1, AV.toLeaf.eq_2, AV.toLeaf.eq_3, AV.leaves.eq_1, AV.leaves.eq_2, AV.isLeaf.eq_1, AV.isLeaf.eq_2, AV.isLeaf.eq_3, AV.ok.eq_1, AV.ok.eq_2, AV.ok1.eq_1, AV.ok1.eq_2, AV.isBad.eq_1, AV.isBad.eq_2, guardRM, opRM, rdO.eq_1, rdO.eq_2, rdO.eq_3, rdO.eq_4, rdL, vw.eq_1, vw.eq_2, vw.eq_3, vwL, vwLeaf.eq_1, vwLeaf.eq_2, fin.eq_1, fin.eq_2, finOwn.eq_1, finOwn.eq_2, finAgg.eq_1, finAgg.eq_2, finNew.eq_1, finNew.eq_2, newB.eq_1, newB.eq_2, moveRM.eq_1, moveRM.eq_2, asgRM.eq_1, asgRM.eq_2, asgRM.eq_3, asgRM.eq_4, loadRM, storeRM, stSrc.eq_1, stSrc.eq_2, stSrc.eq_3, stTmp.eq_1, stTmp.eq_2, stTmp.eq_3, stTmp.eq_4, stTmp.eq_5, stTmp.eq_6, stTmp.eq_7, stTmp.eq_8, stRaw, stAny, stNil, stEl, stL, cpoL, cpo1.eq_1, cpo1.eq_2, cp.eq_1, cp.eq_2, cp1.eq_1, cp1.eq_2, cp1.eq_3, cp1.eq_4, cp1.eq_5, cp1.eq_6, cpL, cps, fieldAddrRM, fieldOff, AV.plus.eq_1, AV.plus.eq_2, AV.plus.eq_3, AV.plus.eq_4, seen.eq_1, seen.eq_2, seen.eq_3, partAV, binAV.eq_1, binAV.eq_2, binAV.eq_3, binAV.eq_4, binAV.eq_5, binAV.eq_6, binAV.eq_7, binAV.eq_8, binAV.eq_9, unAV.eq_1, unAV.eq_2, unAV.eq_3, unAV.eq_4, optRM.eq_1, optRM.eq_2, intOp.eq_1, intOp.eq_2, intOp.eq_3, intOp.eq_4, intOp.eq_5, intOp.eq_6, intOp.eq_7, intOp.eq_8, intOp.eq_9, intOp.eq_10, intOp.eq_11, intOp.eq_12, intOp.eq_13, intOp.eq_14, intOp.eq_15, intOp.eq_16, shiftOp.eq_1, shiftOp.eq_2, shiftOp.eq_3, strOp.eq_1, strOp.eq_2, strOp.eq_3, strOp.eq_4, strOp.eq_5, strOp.eq_6, strOp.eq_7, strOp.eq_8, isShift.eq_1, isShift.eq_2, isShift.eq_3, buildRM, placesL, fillRM, fillL, buildSliceRM, elemsRM, lenRM.eq_1, lenRM.eq_2, lenRM.eq_3, lenSRM.eq_1, lenSRM.eq_2, maxAV.eq_1, maxAV.eq_2, maxGo, appendRM, apBase.eq_1, apBase.eq_2, apBase.eq_3, apGo, boOk.eq_1, boOk.eq_2, boUps.eq_1, boUps.eq_2, frzNe.eq_1, frzNe.eq_2, isSrcD.eq_1, isSrcD.eq_2, isSrcD.eq_3, sliceOpRM, callGo, addNew, builtinRM.eq_1, builtinRM.eq_2, builtinRM.eq_3, builtinRM.eq_4, builtinRM.eq_5, constAV.eq_1, constAV.eq_2, constL, constLeaf.eq_1, constLeaf.eq_2, constLeaf.eq_3, constLeaf.eq_4, constLeaf.eq_5, constLeaf.eq_6, constLeaf.eq_7, constLeaf.eq_8, constLeaf.eq_9, constLeaf.eq_10, isAggD.eq_1, isAggD.eq_2, isAggD.eq_3, askL, ofCells, AV.free, AV.refs.eq_1, AV.refs.eq_2, AV.refs1.eq_1, AV.refs1.eq_2, AV.refs0.eq_1, AV.refs0.eq_2, AV.refs0.eq_3, AV.refs0.eq_4, AV.refs0.eq_5, Acc.meets.eq_1, Acc.meets.eq_2, Acc.meets.eq_3, Acc.meets.eq_4, Acc.meets.eq_5, Acc.meets.eq_6, frzOff.eq_1, frzOff.eq_2, tb, xb, ob, endK_r, endK_n, endU.eq_1, endU.eq_2, outsOf, resRM.eq_1, resRM.eq_2, resRM.eq_3, res1.eq_1, res1.eq_2, res1.eq_3, cellR, cellFits.eq_1, cellFits.eq_2, cellFits.eq_3, rdR.eq_1, rdR.eq_2, rdRs, keepC, FV.one.eq_1, FV.one.eq_2, FV.cells.eq_1, FV.cells.eq_2, FV.cells.eq_3, AV.leafF.eq_1, AV.leafF.eq_2, AV.elem.eq_1, AV.elem.eq_2, fLeaves, asAV.eq_1, asAV.eq_2, opsP_nil, opsP_cons, goU_nil, goU_cons, goP_nil, goP_cons, ups_refs_nil, ups_refs_cons, ups_writes_nil, ups_writes_cons, regP_cons, wp_ret, wp_fail, wp_ask', wp_peek, wp_call, wp_if, askP_some, peekP_some, accOf.eq_1, accOf.eq_2, Up.refs.eq_1, Up.refs.eq_2, Up.refs.eq_3, Up.refs.eq_4, Up.refs.eq_5, Up.refs.eq_6, Up.writes.eq_1, Up.writes.eq_2, Up.writes.eq_3, Up.writes.eq_4, Up.writes.eq_5, Up.writes.eq_6, Option.isNone_none, AV.ptrs.eq_1, AV.ptrs.eq_2, AV.ptrs0.eq_1, AV.ptrs0.eq_2, AV.ptrs0.eq_3, frzAll, frzIn, ren1.eq_1, ren1.eq_2, ren0.eq_1, ren0.eq_2, ren0.eq_3, renC.eq_1, renC.eq_2, ren2.eq_1, ren2.eq_2, ren2.eq_3, shut1.eq_1, shut1.eq_2, shut0.eq_1, shut0.eq_2, shut0.eq_3, shut2.eq_1, shut2.eq_2, capIn.eq_1, capIn.eq_2, capIn.eq_3, capIn.eq_4, capIn.eq_5, isOut, sameLens, putsOf, setD.eq_1, setD.eq_2, dIn.eq_1, dIn.eq_2, toOut, back, ipOf.eq_1, ipOf.eq_2, ipRM, ipGo, AV.cap.eq_1, AV.cap.eq_2, AV.cap.eq_3, AV.cap.eq_4, callRM_nil, callRM_cons, gather_nil32, gather_cons32, indexAddrRM, indexRM, fieldRM, convAV, sliceRM, makeSliceRM, implies_true, imp_false, forall_const, Option.map_none, FV.size, Int.reduceEq, Int.reduceNe, Int.reduceLT, Int.reduceLE, Int.reduceGT, Int.reduceGE, Int.reduceAdd, Int.reduceSub, Int.reduceMul, Int.reduceNeg, Int.reduceToNat, Int.reducePow, Int.reduceTDiv, Int.reduceTMod, Int.reduceBEq, Int.reduceBNe, Nat.reducePow, Nat.reduceGT, reduceIte, decide_eq_true_eq, Int.toNat_zero, Nat.zero_mul, Nat.reduceMul, Nat.reduceAdd, Nat.reduceMod, Nat.reduceSub, Nat.reduceDiv, Nat.reduceEqDiff, Nat.reduceLT, Nat.reduceLeDiff, Nat.reduceBEq, Nat.reduceBNe, reduceCtorEq, if_true, if_false, Option.bind_some, Option.bind_none, Option.filter_some, Option.map_some, Option.some.injEq, List.getElem?_cons_zero, List.getElem?_cons_succ, List.getElem?_nil, List.getElem?_toArray, List.nodup_nil, List.nodup_cons, List.mem_cons, List.not_mem_nil, List.idxOf_cons, cond_true, cond_false, List.filterMap_cons, List.filterMap_nil, List.getD_cons_zero, List.getD_cons_succ, Option.getD_some, not_or, or_false, false_or, List.map_cons, List.length_map, Int.toNat_natCast, List.map_nil, List.all_cons, List.all_nil, List.length_cons, List.length_nil, List.nil_append, List.cons_append, List.append_nil, List.flatMap_cons, List.flatMap_nil, List.set_cons_zero, List.set_cons_succ, Bool.and_true, Bool.true_and, Bool.and_false, Bool.false_and, Bool.not_true, Bool.not_false, Bool.true_eq_false, Bool.false_eq_true, and_true, true_and, and_false, false_and, not_true_eq_false, not_false_eq_true, ne_eq, ite_self, List.contains_cons, List.contains_nil, Bool.or_false, Bool.false_or, Bool.or_true, Bool.true_or, Nat.zero_add, List.size_toArray, beq_self_eq_true, decide_true, decide_false, List.drop_succ_cons, List.drop_zero, List.take_succ_cons, List.take_zero]
    refine ⟨by decide, by decide, by rfl, ?_⟩
    simp [setAdd, e1, e2, e3, orBit, hm]
def bitOf (w : Int) (i : Int) : Bool := IntKind.u64.wrap (BitVec.ofInt IntKind.u64.bits (w.fdiv (2 ^ min i.toNat IntKind.u64.bits)) &&& BitVec.ofInt IntKind.u64.bits 1).toNat == 1
def setHas (s : arr4_uint64) (i : Int) : Bool :=
  if i < 0 then false else if i < 64 then bitOf s.e0 i else if i < 128 then bitOf s.e1 (i - 64) else if i < 192 then bitOf s.e2 (i - 128) else if i < 256 then bitOf s.e3 (i - 192) else false
noncomputable def cf16 : Cfg := { ti := tiOf Try.prog, mv := fun _ => false, nt := 22, dead := keepC [4, 7, 13], deadL := keepC [] }
set_option maxHeartbeats 4000000 in
theorem has_ok (s : arr4_uint64) (i : Int) : C_heckleref01_Has s i (setHas s i) := by
  unfold C_heckleref01_Has
  obtain ⟨a, b, c, d⟩ := s
  refine callE_of (c := cf16) (by rfl) (cfgOk_of rfl) (ipsOk_none rfl rfl) Try.func16 (by rfl) rfl rfl (Nat.le_of_ble_eq_true rfl) (by rfl) (by rfl) ?_
  rw [show Try.f16.results = #[.tmp 4] from rfl]
  have hw0 : IntKind.i64.wrap 0 = 0 := by rfl
  have hw1 : IntKind.i64.wrap 1 = 1 := by rfl
  have hw2 : IntKind.i64.wrap 2 = 2 := by rfl
  have hw3 : IntKind.i64.wrap 3 = 3 := by rfl
  by_cases g0 : i < 0
  · have g : ¬ i ≥ 0 := by omega
    simp only [entry, av_arr4_uint64, vI, vi, vB, g, cf16, ti3, ti4, ti22, ti24, ti25, ti27, Try.t3, Try.t4, Try.t22, Try.t23, Try.t25, Try.t26, boxRM, hasO, isFO, List.any_cons, List.any_nil, storeX, mvS, wc_seq, wc_reg, wc_skip, wc_block, wc_exit, wc_ret, wc_cond, condQ_t, condQ_f, seqK_n, seqK_e, seqK_r, seqN_nil, seqN_cons, blockK_n, blockK_e, blockK_r, regN_nil, regN_cons, opsQ_nil, opsQ_cons, goQ_nil, goQ_cons, wq_ret, wq_fail, wq_ask, wq_call, wq_peek, wq_if, askQ_some, peekQ_some, look_none, look_at, leafAt.eq_1, leafAt.eq_2, get, ins, mapv, upd, dropN, Up.app.eq_1, Up.app.eq_2, Up.app.eq_3, Up.app.eq_4, Up.app.eq_5, Up.app.eq_6, AV.map2.eq_1, AV.map2.eq_2, AV.map2.eq_3, AV.map1.eq_1, AV.map1.eq_2, killr.eq_1, killr.eq_2, killr.eq_3, killp.eq_1, killp.eq_2, killp.eq_3, killb, putV, setLeaf.eq_1, setLeaf.eq_2, mapLeaf.eq_1, mapLeaf.eq_2, Ev.frz.eq_1, Ev.frz.eq_2, AV.toLeaf.eq_1, AV.toLeaf.eq_2, AV.toLeaf.eq_3, AV.leaves.eq_1, AV.leaves.eq_2, AV.isLeaf.eq_1, AV.isLeaf.eq_2, AV.isLeaf.eq_3, AV.ok.eq_1, AV.ok.eq_2, AV.ok1.eq_1, AV.ok1.eq_2, AV.isBad.eq_1, AV.isBad.eq_2, guardRM, opRM, rdO.eq_1, rdO.eq_2, rdO.eq_3, rdO.eq_4, rdL, vw.eq_1, vw.eq_2, vw.eq_3, vwL, vwLeaf.eq_1, vwLeaf.eq_2, fin.eq_1, fin.eq_2, finOwn.eq_1, finOwn.eq_2, finAgg.eq_1, finAgg.eq_2, finNew.eq_1, finNew.eq_2, newB.eq_1, newB.eq_2, moveRM.eq_1, moveRM.eq_2, asgRM.eq_1, asgRM.eq_2, asgRM.eq_3, asgRM.eq_4, loadRM, storeRM, stSrc.eq_1, stSrc.eq_2, stSrc.eq_3, stTmp.eq_1, stTmp.eq_2, stTmp.eq_3, stTmp.eq_4, stTmp.eq_5, stTmp.eq_6, stTmp.eq_7, stTmp.eq_8, stRaw, stAny, stNil, stEl, stL, cpoL, cpo1.eq_1, cpo1.eq_2, cp.eq_1, cp.eq_2, cp1.eq_1, cp1.eq_2, cp1.eq_3, cp1.eq_4, cp1.eq_5, cp1.eq_6, cpL, cps, fieldAddrRM, fieldOff, AV.plus.eq_1, AV.plus.eq_2, AV.plus.eq_3, AV.plus.eq_4, seen.eq_1, seen.eq_2, seen.eq_3, partAV, binAV.eq_1, binAV.eq_2, binAV.eq_3, binAV.eq_4, binAV.eq_5, binAV.eq_6, binAV.eq_7, binAV.eq_8, binAV.eq_9, unAV.eq_1, unAV.eq_2, unAV.eq_3, unAV.eq_4, optRM.eq_1, optRM.eq_2, intOp.eq_1, intOp.eq_2, intOp.eq_3, intOp.eq_4, intOp.eq_5, intOp.eq_6, intOp.eq_7, intOp.eq_8, intOp.eq_9, intOp.eq_10, intOp.eq_11, intOp.eq_12, intOp.eq_13, intOp.eq_14, intOp.eq_15, intOp.eq_16, shiftOp.eq_1, shiftOp.eq_2, shiftOp.eq_3, strOp.eq_1, strOp.eq_2, strOp.eq_3, strOp.eq_4, strOp.eq_5, strOp.eq_6, strOp.eq_7, strOp.eq_8, isShift.eq_1, isShift.eq_2, isShift.eq_3, buildRM, placesL, fillRM, fillL, buildSliceRM, elemsRM, lenRM.eq_1, lenRM.eq_2, lenRM.eq_3, lenSRM.eq_1, lenSRM.eq_2, maxAV.eq_1, maxAV.eq_2, maxGo, appendRM, apBase.eq_1, apBase.eq_2, apBase.eq_3, apGo, boOk.eq_1, boOk.eq_2, boUps.eq_1, boUps.eq_2, frzNe.eq_1, frzNe.eq_2, isSrcD.eq_1, isSrcD.eq_2, isSrcD.eq_3, sliceOpRM, callGo, addNew, builtinRM.eq_1, builtinRM.eq_2, builtinRM.eq_3, builtinRM.eq_4, builtinRM.eq_5, constAV.eq_1, constAV.eq_2, constL, constLeaf.eq_1, constLeaf.eq_2, constLeaf.eq_3, constLeaf.eq_4, constLeaf.eq_5, constLeaf.eq_6, constLeaf.eq_7, constLeaf.eq_8, constLeaf.eq_9, constLeaf.eq_10, isAggD.eq_1, isAggD.eq_2, isAggD.eq_3, askL, ofCells, AV.free, AV.refs.eq_1, AV.refs.eq_2, AV.refs1.eq_1, AV.refs1.eq_2, AV.refs0.eq_1, AV.refs0.eq_2, AV.refs0.eq_3, AV.refs0.eq_4, AV.refs0.eq_5, Acc.meets.eq_1, Acc.meets.eq_2, Acc.meets.eq_3, Acc.meets.eq_4, Acc.meets.eq_5, Acc.meets.eq_6, frzOff.eq_1, frzOff.eq_2, tb, xb, ob, endK_r, endK_n, endU.eq_1, endU.eq_2, outsOf, resRM.eq_1, resRM.eq_2, resRM.eq_3, res1.eq_1, res1.eq_2, res1.eq_3, cellR, cellFits.eq_1, cellFits.eq_2, cellFits.eq_3, rdR.eq_1, rdR.eq_2, rdRs, keepC, FV.one.eq_1, FV.one.eq_2, FV.cells.eq_1, FV.cells.eq_2, FV.cells.eq_3, AV.leafF.eq_1, AV.leafF.eq_2, AV.elem.eq_1, AV.elem.eq_2, fLeaves, asAV.eq_1, asAV.eq_2, opsP_nil, opsP_cons, goU_nil, goU_cons, goP_nil, goP_cons, ups_refs_nil, ups_refs_cons, ups_writes_nil, ups_writes_cons, regP_cons, wp_ret, wp_fail, wp_ask', wp_peek, wp_call, wp_if, askP_some, peekP_some, accOf.eq_1, accOf.eq_2, Up.refs.eq_1, Up.refs.eq_2, Up.refs.eq_3, Up.refs.eq_4, Up.refs.eq_5, Up.refs.eq_6, Up.writes.eq_1, Up.writes.eq_2, Up.writes.eq_3, Up.writes.eq_4, Up.writes.eq_5, Up.writes.eq_6, Option.isNone_none, AV.ptrs.eq_1, AV.ptrs.eq_2, AV.ptrs0.eq_1, AV.ptrs0.eq_2, AV.ptrs0.eq_3, frzAll, frzIn, ren1.eq_1, ren1.eq_2, ren0.eq_1, ren0.eq_2, ren0.eq_3, renC.eq_1, renC.eq_2, ren2.eq_1, ren2.eq_2, ren2.eq_3, shut1.eq_1, shut1.eq_2, shut0.eq_1, shut0.eq_2, shut0.eq_3, shut2.eq_1, shut2.eq_2, capIn.eq_1, capIn.eq_2, capIn.eq_3, capIn.eq_4, capIn.eq_5, isOut, sameLens, putsOf, setD.eq_1, setD.eq_2, dIn.eq_1, dIn.eq_2, toOut, back, ipOf.eq_1, ipOf.eq_2, ipRM, ipGo, AV.cap.eq_1, AV.cap.eq_2, AV.cap.eq_3, AV.cap.eq_4, callRM_nil, callRM_cons, gather_nil32, gather_cons32, indexAddrRM, indexRM, fieldRM, convAV, sliceRM, makeSliceRM, implies_true, imp_false, forall_const, Option.map_none, FV.size, Int.reduceEq, Int.reduceNe, Int.reduceLT, Int.reduceLE, Int.reduceGT, Int.reduceGE, Int.reduceAdd, Int.reduceSub, Int.reduceMul, Int.reduceNeg, Int.reduceToNat, Int.reducePow, Int.reduceTDiv, Int.reduceTMod, Int.reduceBEq, Int.reduceBNe, Nat.reducePow, Nat.reduceGT, reduceIte, decide_eq_true_eq, Int.toNat_zero, Nat.zero_mul, Nat.reduceMul, Nat.reduceAdd, Nat.reduceMod, Nat.reduceSub, Nat.reduceDiv, Nat.reduceEqDiff, Nat.reduceLT, Nat.reduceLeDiff, Nat.reduceBEq, Nat.reduceBNe, reduceCtorEq, if_true, if_false, Option.bind_some, Option.bind_none, Option.filter_some, Option.map_some, Option.some.injEq, List.getElem?_cons_zero, List.getElem?_cons_succ, List.getElem?_nil, List.getElem?_toArray, List.nodup_nil, List.nodup_cons, List.mem_cons, List.not_mem_nil, List.idxOf_cons, cond_true, cond_false, List.filterMap_cons, List.filterMap_nil, List.getD_cons_zero, List.getD_cons_succ, Option.getD_some, not_or, or_false, false_or, List.map_cons, List.length_map, Int.toNat_natCast, List.map_nil, List.all_cons, List.all_nil, List.length_cons, List.length_nil, List.nil_append, List.cons_append, List.append_nil, List.flatMap_cons, List.flatMap_nil, List.set_cons_zero, List.set_cons_succ, Bool.and_true, Bool.true_and, Bool.and_false, Bool.false_and, Bool.not_true, Bool.not_false, Bool.true_eq_false, Bool.false_eq_true, and_true, true_and, and_false, false_and, not_true_eq_false, not_false_eq_true, ne_eq, ite_self, List.contains_cons, List.contains_nil, Bool.or_false, Bool.false_or, Bool.or_true, Bool.true_or, Nat.zero_add, List.size_toArray, beq_self_eq_true, decide_true, decide_false, List.drop_succ_cons, List.drop_zero, List.take_succ_cons, List.take_zero]
    simp [setHas, g0]
  have g : i ≥ 0 := by omega
  by_cases g1 : i < 256
  · have cases4 : i < 64 ∨ (64 ≤ i ∧ i < 128) ∨ (128 ≤ i ∧ i < 192) ∨ 192 ≤ i := by omega
    rcases cases4 with c0 | ⟨c0, c1⟩ | ⟨c0, c1⟩ | c0
    · obtain ⟨hq, hm⟩ := divmod64 0 i g (by omega) (by omega)
      generalize hmm : i.tmod 64 = m at hm
      have hn : ¬ m < 0 := by omega
      have e1 : i < 64 := by omega
      simp only [entry, av_arr4_uint64, vI, vi, vB, g, g1, hq, hmm, hn, hw0, cf16, ti3, ti4, ti22, ti24, ti25, ti27, Try.t3, Try.t4, Try.t22, Try.t23, Try.t25, Try.t26, boxRM, hasO, isFO, List.any_cons, List.any_nil, storeX, mvS, wc_seq, wc_reg, wc_skip, wc_block, wc_exit, wc_ret, wc_cond, condQ_t, condQ_f, seqK_n, seqK_e, seqK_r, seqN_nil, seqN_cons, blockK_n, blockK_e, blockK_r, regN_nil, regN_cons, opsQ_nil, opsQ_cons, goQ_nil, goQ_cons, wq_ret, wq_fail, wq_ask, wq_call, wq_peek, wq_if, askQ_some, peekQ_some, look_none, look_at, leafAt.eq_1, leafAt.eq_2, get, ins, mapv, upd, dropN, Up.app.eq_1, Up.app.eq_2, Up.app.eq_3, Up.app.eq_4, Up.app.eq_5, Up.app.eq_6, AV.map2.eq_1, AV.map2.eq_2, AV.map2.eq_3, AV.map1.eq_1, AV.map1.eq_2, killr.eq_1, killr.eq_2, killr.eq_3, killp.eq_1, killp.eq_2, killp.eq_3, killb, putV, setLeaf.eq_1, setLeaf.eq_2, mapLeaf.eq_1, mapLeaf.eq_2, Ev.frz.eq_1, Ev.frz.eq_2, AV.toLeaf.eq_1, AV.toLeaf.eq_2, AV.toLeaf.eq_3, AV.leaves.eq_1, AV.leaves.eq_2, AV.isLeaf.eq_1, AV.isLeaf.eq_2, AV.isLeaf.eq_3, AV.ok.eq_1, AV.ok.eq_2, AV.ok1.eq_1, AV.ok1.eq_2, AV.isBad.eq_1, AV.isBad.eq_2, guardRM, opRM, rdO.eq_1, rdO.eq_2, rdO.eq_3, rdO.eq_4, rdL, vw.eq_1, vw.eq_2, vw.eq_3, vwL, vwLeaf.eq_1, vwLeaf.eq_2, fin.eq_1, fin.eq_2, finOwn.eq_1, finOwn.eq_2, finAgg.eq_1, finAgg.eq_2, finNew.eq_1, finNew.eq_2, newB.eq_1, newB.eq_2, moveRM.eq_1, moveRM.eq_2, asgRM.eq_1, asgRM.eq_2, asgRM.eq_3, asgRM.eq_4, loadRM, storeRM, stSrc.eq_1, stSrc.eq_2, stSrc.eq_3, stTmp.eq_1, stTmp.eq_2, stTmp.eq_3, stTmp.eq_4, stTmp.eq_5, stTmp.eq_6, stTmp.eq_7, stTmp.eq_8, stRaw, stAny, stNil, stEl, stL, cpoL, cpo1.eq_1, cpo1.eq_2, cp.eq_1, cp.eq_2, cp1.eq_1, cp1.eq_2, cp1.eq_3, cp1.eq_4, cp1.eq_5, cp1.eq_6, cpL, cps, fieldAddrRM, fieldOff, AV.plus.eq_1, AV.plus.eq_2, AV.plus.eq_3, AV.plus.eq_4, seen.eq_1, seen.eq_2, seen.eq_3, partAV, binAV.eq_1, binAV.eq_2, binAV.eq_3, binAV.eq_4, binAV.eq_5, binAV.eq_6, binAV.eq_7, binAV.eq_8, binAV.eq_9, unAV.eq_1, unAV.eq_2, unAV.eq_3, unAV.eq_4, optRM.eq_1, optRM.eq_2, intOp.eq_1, intOp.eq_2, intOp.eq_3, intOp.eq_4, intOp.eq_5, intOp.eq_6, intOp.eq_7, intOp.eq_8, intOp.eq_9, intOp.eq_10, intOp.eq_11, intOp.eq_12, intOp.eq_13, intOp.eq_14, intOp.eq_15, intOp.eq_16, shiftOp.eq_1, shiftOp.eq_2, shiftOp.eq_3, strOp.eq_1, strOp.eq_2, strOp.eq_3, strOp.eq_4, strOp.eq_5, strOp.eq_6, strOp.eq_7, strOp.eq_8, isShift.eq_1, isShift.eq_2, isShift.eq_3, buildRM, placesL, fillRM, fillL, buildSliceRM, elemsRM, lenRM.eq_1, lenRM.eq_2, lenRM.eq_3, lenSRM.eq_1, lenSRM.eq_2, maxAV.eq_1, maxAV.eq_2, maxGo, appendRM, apBase.eq_1, apBase.eq_2, apBase.eq_3, apGo, boOk.eq_1, boOk.eq_2, boUps.eq_1, boUps.eq_2, frzNe.eq_1, frzNe.eq_2, isSrcD.eq_1, isSrcD.eq_2, isSrcD.eq_3, sliceOpRM, callGo, addNew, builtinRM.eq_1, builtinRM.eq_2, builtinRM.eq_3, builtinRM.eq_4, builtinRM.eq_5, constAV.eq_1, constAV.eq_2, constL, constLeaf.eq_1, constLeaf.eq_2, constLeaf.eq_3, constLeaf.eq_4, constLeaf.eq_5, constLeaf.eq_6, constLeaf.eq_7, constLeaf.eq_8, constLeaf.eq_9, constLeaf.eq_10, isAggD.eq_1, isAggD.eq_2, isAggD.eq_3, askL, ofCells, AV.free, AV.refs.eq_1, AV.refs.eq_2, AV.refs1.eq_1, AV.refs1.eq_2, AV.refs0.eq_1, AV.refs0.eq_2, AV.refs0.eq_3, AV.refs0.eq_4, AV.refs0.eq_5, Acc.meets.eq_1, Acc.meets.eq_2, Acc.meets.eq_3, Acc.meets.eq_4, Acc.meets.eq_5, Acc.meets.eq_6, frzOff.eq_1, frzOff.eq_2, tb, xb, ob, endK_r, endK_n, endU.eq_1, endU.eq_2, outsOf, resRM.eq_1, resRM.eq_2, resRM.eq_3, res1.eq_1, res1.eq_2, res1.eq_3, cellR, cellFits.eq_1, cellFits.eq_2, cellFits.eq_3, rdR.eq_1, rdR.eq_2, rdRs, keepC, FV.one.eq_1, FV.one.eq_2, FV.cells.eq_1, FV.cells.eq_2, FV.cells.eq_3, AV.leafF.eq_1, AV.leafF.eq_2, AV.elem.eq_1, AV.elem.eq_2, fLeaves, asAV.eq_1, asAV.eq_2, opsP_nil, opsP_cons, goU_nil, goU_cons, goP_nil, goP_cons, ups_refs_nil, ups_refs_cons, ups_writes_nil, ups_writes_cons, regP_cons, wp_ret, wp_fail, wp_ask', wp_peek, wp_call, wp_if, askP_some, peekP_some, accOf.eq_1, accOf.eq_2, Up.refs.eq_1, Up.refs.eq_2, Up.refs.eq_3, Up.refs.eq_4, Up.refs.eq_5, Up.refs.eq_6, Up.writes.eq_1, Up.writes.eq_2, Up.writes.eq_3, Up.writes.eq_4, Up.writes.eq_5, Up.writes.eq_6, Option.isNone_none, AV.ptrs.eq_1, AV.ptrs.eq_2, AV.ptrs0.eq_1, AV.ptrs0.eq_2, AV.ptrs0.eq_3, frzAll, frzIn, ren1.eq_1, ren1.eq_2, ren0.eq_1, ren0.eq_2, ren0.eq_3, renC.eq_1, renC.eq_2, ren2.eq_1, ren2.eq_2, ren2.eq_3, shut1.eq_1, shut1.eq_2, shut0.eq_1, shut0.eq_2, shut0.eq_3, shut2.eq_1, shut2.eq_2, capIn.eq_1, capIn.eq_2, capIn.eq_3, capIn.eq_4, capIn.eq_5, isOut, sameLens, putsOf, setD.eq_1, setD.eq_2, dIn.eq_1, dIn.eq_2, toOut, back, ipOf.eq_1, ipOf.eq_2, ipRM, ipGo, AV.cap.eq_1, AV.cap.eq_2, AV.cap.eq_3, AV.cap.eq_4, callRM_nil, callRM_cons, gather_nil32, gather_cons32, indexAddrRM, indexRM, fieldRM, convAV, sliceRM, makeSliceRM, implies_true, imp_false, forall_const, Option.map_none, FV.size, Int.reduceEq, Int.reduceNe, Int.reduceLT, Int.reduceLE, Int.reduceGT, Int.reduceGE, Int.reduceAdd, Int.reduceSub, Int.reduceMul, Int.reduceNeg, Int.reduceToNat, Int.reducePow, Int.reduceTDiv, Int.reduceTMod, Int.reduceBEq, Int.reduceBNe, Nat.reducePow, Nat.reduceGT, reduceIte, decide_eq_true_eq, Int.toNat_zero, Nat.zero_mul, Nat.reduceMul, Nat.reduceAdd, Nat.reduceMod, Nat.reduceSub, Nat.reduceDiv, Nat.reduceEqDiff, Nat.reduceLT, Nat.reduceLeDiff, Nat.reduceBEq, Nat.reduceBNe, reduceCtorEq, if_true, if_false, Option.bind_some, Option.bind_none, Option.filter_some, Option.map_some, Option.some.injEq, List.getElem?_cons_zero, List.getElem?_cons_succ, List.getElem?_nil, List.getElem?_toArray, List.nodup_nil, List.nodup_cons, List.mem_cons, List.not_mem_nil, List.idxOf_cons, cond_true, cond_false, List.filterMap_cons, List.filterMap_nil, List.getD_cons_zero, List.getD_cons_succ, Option.getD_some, not_or, or_false, false_or, List.map_cons, List.length_map, Int.toNat_natCast, List.map_nil, List.all_cons, List.all_nil, List.length_cons, List.length_nil, List.nil_append, List.cons_append, List.append_nil, List.flatMap_cons, List.flatMap_nil, List.set_cons_zero, List.set_cons_succ, Bool.and_true, Bool.true_and, Bool.and_false, Bool.false_and, Bool.not_true, Bool.not_false, Bool.true_eq_false, Bool.false_eq_true, and_true, true_and, and_false, false_and, not_true_eq_false, not_false_eq_true, ne_eq, ite_self, List.contains_cons, List.contains_nil, Bool.or_false, Bool.false_or, Bool.or_true, Bool.true_or, Nat.zero_add, List.size_toArray, beq_self_eq_true, decide_true, decide_false, List.drop_succ_cons, List.drop_zero, List.take_succ_cons, List.take_zero]
      refine ⟨by decide, ?_⟩
      simp [setHas, g0, g1, e1, bitOf, hm]
    · obtain ⟨hq, hm⟩ := divmod64 1 i g (by omega) (by omega)
      generalize hmm : i.tmod 64 = m at hm
      have hn : ¬ m < 0 := by omega
      have e1 : ¬ i < 64 := by omega
      have e2 : i < 128 := by omega
      simp only [entry, av_arr4_uint64, vI, vi, vB, g, g1, hq, hmm, hn, hw1, cf16, ti3, ti4, ti22, ti24, ti25, ti27, Try.t3, Try.t4, Try.t22, Try.t23, Try.t25, Try.t26, boxRM, hasO, isFO, List.any_cons, List.any_nil, storeX, mvS, wc_seq, wc_reg, wc_skip, wc_block, wc_exit, wc_ret, wc_cond, condQ_t, condQ_f, seqK_n, seqK_e, seqK_r, seqN_nil, seqN_cons, blockK_n, blockK_e, blockK_r, regN_nil, regN_cons, opsQ_nil, opsQ_cons, goQ_nil, goQ_cons, wq_ret, wq_fail, wq_ask, wq_call, wq_peek, wq_if, askQ_some, peekQ_some, look_none, look_at, leafAt.eq_1, leafAt.eq_2, get, ins, mapv, upd, dropN, Up.app.eq_1, Up.app.eq_2, Up.app.eq_3, Up.app.eq_4, Up.app.eq_5, Up.app.eq_6, AV.map2.eq_1, AV.map2.eq_2, AV.map2.eq_3, AV.map1.eq_1, AV.map1.eq_2, killr.eq_1, killr.eq_2, killr.eq_3, killp.eq_1, killp.eq_2, killp.eq_3, killb, putV, setLeaf.eq_1, setLeaf.eq_2, mapLeaf.eq_1, mapLeaf.eq_2, Ev.frz.eq_1, Ev.frz.eq_2, AV.toLeaf.eq_1, AV.toLeaf.eq_2, AV.toLeaf.eq_3, AV.leaves.eq_1, AV.leaves.eq_2, AV.isLeaf.eq_1, AV.isLeaf.eq_2, AV.isLeaf.eq_3, AV.ok.eq_1, AV.ok.eq_2, AV.ok1.eq_1, AV.ok1.eq_2, AV.isBad.eq_1, AV.isBad.eq_2, guardRM, opRM, rdO.eq_1, rdO.eq_2, rdO.eq_3, rdO.eq_4, rdL, vw.eq_1, vw.eq_2, vw.eq_3, vwL, vwLeaf.eq_1, vwLeaf.eq_2, fin.eq_1, fin.eq_2, finOwn.eq_1, finOwn.eq_2, finAgg.eq_1, finAgg.eq_2, finNew.eq_1, finNew.eq_2, newB.eq_1, newB.eq_2, moveRM.eq_1, moveRM.eq_2, asgRM.eq_1, asgRM.eq_2, asgRM.eq_3, asgRM.eq_4, loadRM, storeRM, stSrc.eq_1, stSrc.eq_2, stSrc.eq_3, stTmp.eq_1, stTmp.eq_2, stTmp.eq_3, stTmp.eq_4, stTmp.eq_5, stTmp.eq_6, stTmp.eq_7, stTmp.eq_8, stRaw, stAny, stNil, stEl, stL, cpoL, cpo1.eq_1, cpo1.eq_2, cp.eq_1, cp.eq_2, cp1.eq_1, cp1.eq_2, cp1.eq_3, cp1.eq_4, cp1.eq_5, cp1.eq_6, cpL, cps, fieldAddrRM, fieldOff, AV.plus.eq_1, AV.plus.eq_2, AV.plus.eq_3, AV.plus.eq_4, seen.eq_1, seen.eq_2, seen.eq_3, partAV, binAV.eq_1, binAV.eq_2, binAV.eq_3, binAV.eq_4, binAV.eq_5, binAV.eq_6, binAV.eq_7, binAV.eq_8, binAV.eq_9, unAV.eq_1, unAV.eq_2, unAV.eq_3, unAV.eq_4, optRM.eq_1, optRM.eq_2, intOp.eq_1, intOp.eq_2, intOp.eq_3, intOp.eq_4, intOp.eq_5, intOp.eq_6, intOp.eq_7, intOp.eq_8, intOp.eq_9, intOp.eq_10, intOp.eq_11, intOp.eq_12, intOp.eq_13, intOp.eq_14, intOp.eq_15, intOp.eq_16, shiftOp.eq_1, shiftOp.eq_2, shiftOp.eq_3, strOp.eq_1, strOp.eq_2, strOp.eq_3, strOp.eq_4, strOp.eq_5, strOp.eq_6, strOp.eq_7, strOp.eq_8, isShift.eq_1, isShift.eq_2, isShift.eq_3, buildRM, placesL, fillRM, fillL, buildSliceRM, elemsRM, lenRM.eq_1, lenRM.eq_2, lenRM.eq_3, lenSRM.eq_1, lenSRM.eq_2, maxAV.eq_1, maxAV.eq_2, maxGo, appendRM, apBase.eq_1, apBase.eq_2, apBase.eq_3, apGo, boOk.eq_1, boOk.eq_2, boUps.eq_1, boUps.eq_2, frzNe.eq_1, frzNe.eq_2, isSrcD.eq_1, isSrcD.eq_2, isSrcD.eq_3, sliceOpRM, callGo, addNew, builtinRM.eq_1, builtinRM.eq_2, builtinRM.eq_3, builtinRM.eq_4, builtinRM.eq_5, constAV.eq_1, constAV.eq_2, constL, constLeaf.eq_1, constLeaf.eq_2, constLeaf.eq_3, constLeaf.eq_4, constLeaf.eq_5, constLeaf.eq_6, constLeaf.eq_7, constLeaf.eq_8, constLeaf.eq_9, constLeaf.eq_10, isAggD.eq_1, isAggD.eq_2, isAggD.eq_3, askL, ofCells, AV.free, AV.refs.eq_1, AV.refs.eq_2, AV.refs1.eq_1, AV.refs1.eq_2, AV.refs0.eq_1, AV.refs0.eq_2, AV.refs0.eq_3, AV.refs0.eq_4, AV.refs0.eq_5, Acc.meets.eq_1, Acc.meets.eq_2, Acc.meets.eq_3, Acc.meets.eq_4, Acc.meets.eq_5, Acc.meets.eq_6, frzOff.eq_1, frzOff.eq_2, tb, xb, ob, endK_r, endK_n, endU.eq_1, endU.eq_2, outsOf, resRM.eq_1, resRM.eq_2, resRM.eq_3, res1.eq_1, res1.eq_2, res1.eq_3, cellR, cellFits.eq_1, cellFits.eq_2, cellFits.eq_3, rdR.eq_1, rdR.eq_2, rdRs, keepC, FV.one.eq_1, FV.one.eq_2, FV.cells.eq_1, FV.cells.eq_2, FV.cells.eq_3, AV.leafF.eq_1, AV.leafF.eq_2, AV.elem.eq_1, AV.elem.eq_2, fLeaves, asAV.eq_1, asAV.eq_2, opsP_nil, opsP_cons, goU_nil, goU_cons, goP_nil, goP_cons, ups_refs_nil, ups_refs_cons, ups_writes_nil, ups_writes_cons, regP_cons, wp_ret, wp_fail, wp_ask', wp_peek, wp_call, wp_if, askP_some, peekP_some, accOf.eq_1, accOf.eq_2, Up.refs.eq_1, Up.refs.eq_2, Up.refs.eq_3, Up.refs.eq_4, Up.refs.eq_5, Up.refs.eq_6, Up.writes.eq_1, Up.writes.eq_2, Up.writes.eq_3, Up.writes.eq_4, Up.writes.eq_5, Up.writes.eq_6, Option.isNone_none, AV.ptrs.eq_1, AV.ptrs.eq_2, AV.ptrs0.eq_1, AV.ptrs0.eq_2, AV.ptrs0.eq_3, frzAll, frzIn, ren1.eq_1, ren1.eq_2, ren0.eq_1, ren0.eq_2, ren0.eq_3, renC.eq_1, renC.eq_2, ren2.eq_1, ren2.eq_2, ren2.eq_3, shut1.eq_1, shut1.eq_2, shut0.eq_1, shut0.eq_2, shut0.eq_3, shut2.eq_1, shut2.eq_2, capIn.eq_1, capIn.eq_2, capIn.eq_3, capIn.eq_4, capIn.eq_5, isOut, sameLens, putsOf, setD.eq_1, setD.eq_2, dIn.eq_1, dIn.eq_2, toOut, back, ipOf.eq_1, ipOf.eq_2, ipRM, ipGo, AV.cap.eq_1, AV.cap.eq_2, AV.cap.eq_3, AV.cap.eq_4, callRM_nil, callRM_cons, gather_nil32, gather_cons32, indexAddrRM, indexRM, fieldRM, convAV, sliceRM, makeSliceRM, implies_true, imp_false, forall_const, Option.map_none, FV.size, Int.reduceEq, Int.reduceNe, Int.reduceLT, Int.reduceLE, Int.reduceGT, Int.reduceGE, Int.reduceAdd, Int.reduceSub, Int.reduceMul, Int.reduceNeg, Int.reduceToNat, Int.reducePow, Int.reduceTDiv, Int.reduceTMod, Int.reduceBEq, Int.reduceBNe, Nat.reducePow, Nat.reduceGT, reduceIte, decide_eq_true_eq, Int.toNat_zero, Nat.zero_mul, Nat.reduceMul, Nat.reduceAdd, Nat.reduceMod, Nat.reduceSub, Nat.reduceDiv, Nat.reduceEqDiff, Nat.reduceLT, Nat.reduceLeDiff, Nat.reduceBEq, Nat.reduceBNe, reduceCtorEq, if_true, if_false, Option.bind_some, Option.bind_none, Option.filter_some, Option.map_some, Option.some.injEq, List.getElem?_cons_zero, List.getElem?_cons_succ, List.getElem?_nil, List.getElem?_toArray, List.nodup_nil, List.nodup_cons, List.mem_cons, List.not_mem_nil, List.idxOf_cons, cond_true, cond_false, List.filterMap_cons, List.filterMap_nil, List.getD_cons_zero, List.getD_cons_succ, Option.getD_some, not_or, or_false, false_or, List.map_cons, List.length_map, Int.toNat_natCast, List.map_nil, List.all_cons, List.all_nil, List.length_cons, List.length_nil, List.nil_append, List.cons_append, List.append_nil, List.flatMap_cons, List.flatMap_nil, List.set_cons_zero, List.set_cons_succ, Bool.and_true, Bool.true_and, Bool.and_false, Bool.false_and, Bool.not_true, Bool.not_false, Bool.true_eq_false, Bool.false_eq_true, and_true, true_and, and_false, false_and, not_true_eq_false, not_false_eq_true, ne_eq, ite_self, List.contains_cons, List.contains_nil, Bool.or_false, Bool.false_or, Bool.or_true, Bool.true_or, Nat.zero_add, List.size_toArray, beq_self_eq_true, decide_true, decide_false, List.drop_succ_cons, List.drop_zero, List.take_succ_cons, List.take_zero]
      refine ⟨by decide, ?_⟩
      simp [setHas, g0, g1, e1, e2, bitOf, hm]
    · obtain ⟨hq, hm⟩ := divmod64 2 i g (by omega) (by omega)
      generalize hmm : i.tmod 64 = m at hm
      have hn : ¬ m < 0 := by omega
      have e1 : ¬ i < 64 := by omega
      have e2 : ¬ i < 128 := by omega
      have e3 : i < 192 := by omega
      simp only [entry, av_arr4_uint64, vI, vi, vB, g, g1, hq, hmm, hn, hw2, cf16, ti3, ti4, ti22, ti24, ti25, ti27, Try.t3, Try.t4, Try.t22, Try.t23, Try.t25, Try.t26, boxRM, hasO, isFO, List.any_cons, List.any_nil, storeX, mvS, wc_seq, wc_reg, wc_skip, wc_block, wc_exit, wc_ret, wc_cond, condQ_t, condQ_f, seqK_n, seqK_e, seqK_r, seqN_nil, seqN_cons, blockK_n, blockK_e, blockK_r, regN_nil, regN_cons, opsQ_nil, opsQ_cons, goQ_nil, goQ_cons, wq_ret, wq_fail, wq_ask, wq_call, wq_peek, wq_if, askQ_some, peekQ_some, look_none, look_at, leafAt.eq_1, leafAt.eq_2, get, ins, mapv, upd, dropN, Up.app.eq_1, Up.app.eq_2, Up.app.eq_3, Up.app.eq_4, Up.app.eq_5, Up.app.eq_6, AV.map2.eq_1, AV.map2.eq_2, AV.map2.eq_3, AV.map1.eq_1, AV.map1.eq_2, killr.eq_1, killr.eq_2, killr.eq_3, killp.eq_1, killp.eq_2, killp.eq_3, killb, putV, setLeaf.eq_1, setLeaf.eq_2, mapLeaf.eq_1, mapLeaf.eq_2, Ev.frz.eq_1, Ev.frz.eq_2, AV.toLeaf.eq_1, AV.toLeaf.eq_2, AV.toLeaf.eq_3, AV.leaves.eq_1, AV.leaves.eq_2, AV.isLeaf.eq_1, AV.isLeaf.eq_2, AV.isLeaf.eq_3, AV.ok.eq_1, AV.ok.eq_2, AV.ok1.eq_1, AV.ok1.eq_2, AV.isBad.eq_1, AV.isBad.eq_2, guardRM, opRM, rdO.eq_1, rdO.eq_2, rdO.eq_3, rdO.eq_4, rdL, vw.eq_1, vw.eq_2, vw.eq_3, vwL, vwLeaf.eq_1, vwLeaf.eq_2, fin.eq_1, fin.eq_2, finOwn.eq_1, finOwn.eq_2, finAgg.eq_1, finAgg.eq_2, finNew.eq_1, finNew.eq_2, newB.eq_1, newB.eq_2, moveRM.eq_1, moveRM.eq_2, asgRM.eq_1, asgRM.eq_2, asgRM.eq_3, asgRM.eq_4, loadRM, storeRM, stSrc.eq_1, stSrc.eq_2, stSrc.eq_3, stTmp.eq_1, stTmp.eq_2, stTmp.eq_3, stTmp.eq_4, stTmp.eq_5, stTmp.eq_6, stTmp.eq_7, stTmp.eq_8, stRaw, stAny, stNil, stEl, stL, cpoL, cpo1.eq_1, cpo1.eq_2, cp.eq_1, cp.eq_2, cp1.eq_1, cp1.eq_2, cp1.eq_3, cp1.eq_4, cp1.eq_5, cp1.eq_6, cpL, cps, fieldAddrRM, fieldOff, AV.plus.eq_1, AV.plus.eq_2, AV.plus.eq_3, AV.plus.eq_4, seen.eq_1, seen.eq_2, seen.eq_3, partAV, binAV.eq_1, binAV.eq_2, binAV.eq_3, binAV.eq_4, binAV.eq_5, binAV.eq_6, binAV.eq_7, binAV.eq_8, binAV.eq_9, unAV.eq_1, unAV.eq_2, unAV.eq_3, unAV.eq_4, optRM.eq_1, optRM.eq_2, intOp.eq_1, intOp.eq_2, intOp.eq_3, intOp.eq_4, intOp.eq_5, intOp.eq_6, intOp.eq_7, intOp.eq_8, intOp.eq_9, intOp.eq_10, intOp.eq_11, intOp.eq_12, intOp.eq_13, intOp.eq_14, intOp.eq_15, intOp.eq_16, shiftOp.eq_1, shiftOp.eq_2, shiftOp.eq_3, strOp.eq_1, strOp.eq_2, strOp.eq_3, strOp.eq_4, strOp.eq_5, strOp.eq_6, strOp.eq_7, strOp.eq_8, isShift.eq_1, isShift.eq_2, isShift.eq_3, buildRM, placesL, fillRM, fillL, buildSliceRM, elemsRM, lenRM.eq_1, lenRM.eq_2, lenRM.eq_3, lenSRM.eq_1, lenSRM.eq_2, maxAV.eq_1, maxAV.eq_2, maxGo, appendRM, apBase.eq_1, apBase.eq_2, apBase.eq_3, apGo, boOk.eq_1, boOk.eq_2, boUps.eq_1, boUps.eq_2, frzNe.eq_1, frzNe.eq_2, isSrcD.eq_1, isSrcD.eq_2, isSrcD.eq_3, sliceOpRM, callGo, addNew, builtinRM.eq_1, builtinRM.eq_2, builtinRM.eq_3, builtinRM.eq_4, builtinRM.eq_5, constAV.eq_1, constAV.eq_2, constL, constLeaf.eq_1, constLeaf.eq_2, constLeaf.eq_3, constLeaf.eq_4, constLeaf.eq_5, constLeaf.eq_6, constLeaf.eq_7, constLeaf.eq_8, constLeaf.eq_9, constLeaf.eq_10, isAggD.eq_1, isAggD.eq_2, isAggD.eq_3, askL, ofCells, AV.free, AV.refs.eq_1, AV.refs.eq_2, AV.refs1.eq_1, AV.refs1.eq_2, AV.refs0.eq_1, AV.refs0.eq_2, AV.refs0.eq_3, AV.refs0.eq_4, AV.refs0.eq_5, Acc.meets.eq_1, Acc.meets.eq_2, Acc.meets.eq_3, Acc.meets.eq_4, Acc.meets.eq_5, Acc.meets.eq_6, frzOff.eq_1, frzOff.eq_2, tb, xb, ob, endK_r, endK_n, endU.eq_1, endU.eq_2, outsOf, resRM.eq_1, resRM.eq_2, resRM.eq_3, res1.eq_1, res1.eq_2, res1.eq_3, cellR, cellFits.eq_1, cellFits.eq_2, cellFits.eq_3, rdR.eq_1, rdR.eq_2, rdRs, keepC, FV.one.eq_1, FV.one.eq_2, FV.cells.eq_1, FV.cells.eq_2, FV.cells.eq_3, AV.leafF.eq_1, AV.leafF.eq_2, AV.elem.eq_1, AV.elem.eq_2, fLeaves, asAV.eq_1, asAV.eq_2, opsP_nil, opsP_cons, goU_nil, goU_cons, goP_nil, goP_cons, ups_refs_nil, ups_refs_cons, ups_writes_nil, ups_writes_cons, regP_cons, wp_ret, wp_fail, wp_ask', wp_peek, wp_call, wp_if, askP_some, peekP_some, accOf.eq_1, accOf.eq_2, Up.refs.eq_1, Up.refs.eq_2, Up.refs.eq_3, Up.refs.eq_4, Up.refs.eq_5, Up.refs.eq_6, Up.writes.eq_1, Up.writes.eq_2, Up.writes.eq_3, Up.writes.eq_4, Up.writes.eq_5, Up.writes.eq_6, Option.isNone_none, AV.ptrs.eq_1, AV.ptrs.eq_2, AV.ptrs0.eq_1, AV.ptrs0.eq_2, AV.ptrs0.eq_3, frzAll, frzIn, ren1.eq_1, ren1.eq_2, ren0.eq_1, ren0.eq_2, ren0.eq_3, renC.eq_1, renC.eq_2, ren2.eq_1, ren2.eq_2, ren2.eq_3, shut1.eq_1, shut1.eq_2, shut0.eq_1, shut0.eq_2, shut0.eq_3, shut2.eq_1, shut2.eq_2, capIn.eq_1, capIn.eq_2, capIn.eq_3, capIn.eq_4, capIn.eq_5, isOut, sameLens, putsOf, setD.eq_1, setD.eq_2, dIn.eq_1, dIn.eq_2, toOut, back, ipOf.eq_1, ipOf.eq_2, ipRM, ipGo, AV.cap.eq_1, AV.cap.eq_2, AV.cap.eq_3, AV.cap.eq_4, callRM_nil, callRM_cons, gather_nil32, gather_cons32, indexAddrRM, indexRM, fieldRM, convAV, sliceRM, makeSliceRM, implies_true, imp_false, forall_const, Option.map_none, FV.size, Int.reduceEq, Int.reduceNe, Int.reduceLT, Int.reduceLE, Int.reduceGT, Int.reduceGE, Int.reduceAdd, Int.reduceSub, Int.reduceMul, Int.reduceNeg, Int.reduceToNat, Int.reducePow, Int.reduceTDiv, Int.reduceTMod, Int.reduceBEq, Int.reduceBNe, Nat.reducePow, Nat.reduceGT, reduceIte, decide_eq_true_eq, Int.toNat_zero, Nat.zero_mul, Nat.reduceMul, Nat.reduceAdd, Nat.reduceMod, Nat.reduceSub, Nat.reduceDiv, Nat.reduceEqDiff, Nat.reduceLT, Nat.reduceLeDiff, Nat.reduceBEq, Nat.reduceBNe, reduceCtorEq, if_true, if_false, Option.bind_some, Option.bind_none, Option.filter_some, Option.map_some, Option.some.injEq, List.getElem?_cons_zero, List.getElem?_cons_succ, List.getElem?_nil, List.getElem?_toArray, List.nodup_nil, List.nodup_cons, List.mem_cons, List.not_mem_nil, List.idxOf_cons, cond_true, cond_false, List.filterMap_cons, List.filterMap_nil, List.getD_cons_zero, List.getD_cons_succ, Option.getD_some, not_or, or_false, false_or, List.map_cons, List.length_map, Int.toNat_natCast, List.map_nil, List.all_cons, List.all_nil, List.length_cons, List.length_nil, List.nil_append, List.cons_append, List.append_nil, List.flatMap_cons, List.flatMap_nil, List.set_cons_zero, List.set_cons_succ, Bool.and_true, Bool.true_and, Bool.and_false, Bool.false_and, Bool.not_true, Bool.not_false, Bool.true_eq_false, Bool.false_eq_true, and_true, true_and, and_false, false_and, not_true_eq_false, not_false_eq_true, ne_eq, ite_self, List.contains_cons, List.contains_nil, Bool.or_false, Bool.false_or, Bool.or_true, Bool.true_or, Nat.zero_add, List.size_toArray, beq_self_eq_true, decide_true, decide_false, List.drop_succ_cons, List.drop_zero, List.take_succ_cons, List.take_zero]
      refine ⟨by decide, ?_⟩
      simp [setHas, g0, g1, e1, e2, e3, bitOf, hm]
    · obtain ⟨hq, hm⟩ := divmod64 3 i g (by omega) (by omega)
      generalize hmm : i.tmod 64 = m at hm
      have hn : ¬ m < 0 := by omega
      have e1 : ¬ i < 64 := by omega
      have e2 : ¬ i < 128 := by omega
      have e3 : ¬ i < 192 := by omega
      simp only [entry, av_arr4_uint64, vI, vi, vB, g, g1, hq, hmm, hn, hw3, cf16, ti3, ti4, ti22, ti24, ti25, ti27, Try.t3, Try.t4, Try.t22, Try.t23, Try.t25, Try.t26, boxRM, hasO, isFO, List.any_cons, List.any_nil, storeX, mvS, wc_seq, wc_reg, wc_skip, wc_block, wc_exit, wc_ret, wc_cond, condQ_t, condQ_f, seqK_n, seqK_e, seqK_r, seqN_nil, seqN_cons, blockK_n, blockK_e, blockK_r, regN_nil, regN_cons, opsQ_nil, opsQ_cons, goQ_nil, goQ_cons, wq_ret, wq_fail, wq_ask, wq_call, wq_peek, wq_if, askQ_some, peekQ_some, look_none, look_at, leafAt.eq_1, leafAt.eq_2, get, ins, mapv, upd, dropN, Up.app.eq_1, Up.app.eq_2, Up.app.eq_3, Up.app.eq_4, Up.app.eq_5, Up.app.eq_6, AV.map2.eq_1, AV.map2.eq_2, AV.map2.eq_3, AV.map1.eq_1, AV.map1.eq_2, killr.eq_1, killr.eq_2, killr.eq_3, killp.eq_1, killp.eq_2, killp.eq_3, killb, putV, setLeaf.eq_1, setLeaf.eq_2, mapLeaf.eq_1, mapLeaf.eq_2, Ev.frz.eq_1, Ev.frz.eq_2, AV.toLeaf.eq_1, AV.toLeaf.eq_2, AV.toLeaf.eq_3, AV.leaves.eq_1, AV.leaves.eq_2, AV.isLeaf.eq_1, AV.isLeaf.eq_2, AV.isLeaf.eq_3, AV.ok.eq_1, AV.ok.eq_2, AV.ok1.eq_1, AV.ok1.eq_2, AV.isBad.eq_1, AV.isBad.eq_2, guardRM, opRM, rdO.eq_1, rdO.eq_2, rdO.eq_3, rdO.eq_4, rdL, vw.eq_1, vw.eq_2, vw.eq_3, vwL, vwLeaf.eq_1, vwLeaf.eq_2, fin.eq_1, fin.eq_2, finOwn.eq_1, finOwn.eq_2, finAgg.eq_1, finAgg.eq_2, finNew.eq_1, finNew.eq_2, newB.eq_1, newB.eq_2, moveRM.eq_1, moveRM.eq_2, asgRM.eq_1, asgRM.eq_2, asgRM.eq_3, asgRM.eq_4, loadRM, storeRM, stSrc.eq_1, stSrc.eq_2, stSrc.eq_3, stTmp.eq_1, stTmp.eq_2, stTmp.eq_3, stTmp.eq_4, stTmp.eq_5, stTmp.eq_6, stTmp.eq_7, stTmp.eq_8, stRaw, stAny, stNil, stEl, stL, cpoL, cpo1.eq_1, cpo1.eq_2, cp.eq_1, cp.eq_2, cp1.eq_1, cp1.eq_2, cp1.eq_3, cp1.eq_4, cp1.eq_5, cp1.eq_6, cpL, cps, fieldAddrRM, fieldOff, AV.plus.eq_1, AV.plus.eq_2, AV.plus.eq_3, AV.plus.eq_4, seen.eq_1, seen.eq_2, seen.eq_3, partAV, binAV.eq_1, binAV.eq_2, binAV.eq_3, binAV.eq_4, binAV.eq_5, binAV.eq_6, binAV.eq_7, binAV.eq_8, binAV.eq_9, unAV.eq_1, unAV.eq_2, unAV.eq_3, unAV.eq_4, optRM.eq_1, optRM.eq_2, intOp.eq_1, intOp.eq_2, intOp.eq_3, intOp.eq_4, intOp.eq_5, intOp.eq_6, intOp.eq_7, intOp.eq_8, intOp.eq_9, intOp.eq_10, intOp.eq_11, intOp.eq_12, intOp.eq_13, intOp.eq_14, intOp.eq_15, intOp.eq_16, shiftOp.eq_1, shiftOp.eq_2, shiftOp.eq_3, strOp.eq_1, strOp.eq_2, strOp.eq_3, strOp.eq_4, strOp.eq_5, strOp.eq_6, strOp.eq_7, strOp.eq_8, isShift.eq_1, isShift.eq_2, isShift.eq_3, buildRM, placesL, fillRM, fillL, buildSliceRM, elemsRM, lenRM.eq_1, lenRM.eq_2, lenRM.eq_3, lenSRM.eq_1, lenSRM.eq_2, maxAV.eq_1, maxAV.eq_2, maxGo, appendRM, apBase.eq_1, apBase.eq_2, apBase.eq_3, apGo, boOk.eq_1, boOk.eq_2, boUps.eq_1, boUps.eq_2, frzNe.eq_1, frzNe.eq_2, isSrcD.eq_1, isSrcD.eq_2, isSrcD.eq_3, sliceOpRM, callGo, addNew, builtinRM.eq_1, builtinRM.eq_2, builtinRM.eq_3, builtinRM.eq_4, builtinRM.eq_5, constAV.eq_1, constAV.eq_2, constL, constLeaf.eq_1, constLeaf.eq_2, constLeaf.eq_3, constLeaf.eq_4, constLeaf.eq_5, constLeaf.eq_6, constLeaf.eq_7, constLeaf.eq_8, constLeaf.eq_9, constLeaf.eq_10, isAggD.eq_1, isAggD.eq_2, isAggD.eq_3, askL, ofCells, AV.free, AV.refs.eq_1, AV.refs.eq_2, AV.refs1.eq_1, AV.refs1.eq_2, AV.refs0.eq_1, AV.refs0.eq_2, AV.refs0.eq_3, AV.refs0.eq_4, AV.refs0.eq_5, Acc.meets.eq_1, Acc.meets.eq_2, Acc.meets.eq_3, Acc.meets.eq_4, Acc.meets.eq_5, Acc.meets.eq_6, frzOff.eq_1, frzOff.eq_2, tb, xb, ob, endK_r, endK_n, endU.eq_1, endU.eq_2, outsOf, resRM.eq_1, resRM.eq_2, resRM.eq_3, res1.eq_1, res1.eq_2, res1.eq_3, cellR, cellFits.eq_1, cellFits.eq_2, cellFits.eq_3, rdR.eq_1, rdR.eq_2, rdRs, keepC, FV.one.eq_1, FV.one.eq_2, FV.cells.eq_1, FV.cells.eq_2, FV.cells.eq_3, AV.leafF.eq_1, AV.leafF.eq_2, AV.elem.eq_1, AV.elem.eq_2, fLeaves, asAV.eq_1, asAV.eq_2, opsP_nil, opsP_cons, goU_nil, goU_cons, goP_nil, goP_cons, ups_refs_nil, ups_refs_cons, ups_writes_nil, ups_writes_cons, regP_cons, wp_ret, wp_fail, wp_ask', wp_peek, wp_call, wp_if, askP_some, peekP_some, accOf.eq_1, accOf.eq_2, Up.refs.eq_1, Up.refs.eq_2, Up.refs.eq_3, Up.refs.eq_4, Up.refs.eq_5, Up.refs.eq_6, Up.writes.eq_1, Up.writes.eq_2, Up.writes.eq_3, Up.writes.eq_4, Up.writes.eq_5, Up.writes.eq_6, Option.isNone_none, AV.ptrs.eq_1, AV.ptrs.eq_2, AV.ptrs0.eq_1, AV.ptrs0.eq_2, AV.ptrs0.eq_3, frzAll, frzIn, ren1.eq_1, ren1.eq_2, ren0.eq_1, ren0.eq_2, ren0.eq_3, renC.eq_1, renC.eq_2, ren2.eq_1, ren2.eq_2, ren2.eq_3, shut1.eq_1, shut1.eq_2, shut0.eq_1, shut0.eq_2, shut0.eq_3, shut2.eq_1, shut2.eq_2, capIn.eq_1, capIn.eq_2, capIn.eq_3, capIn.eq_4, capIn.eq_5, isOut, sameLens, putsOf, setD.eq_1, setD.eq_2, dIn.eq_1, dIn.eq_2, toOut, back, ipOf.eq_1, ipOf.eq_2, ipRM, ipGo, AV.cap.eq_1, AV.cap.eq_2, AV.cap.eq_3, AV.cap.eq_4, callRM_nil, callRM_cons, gather_nil32, gather_cons32, indexAddrRM, indexRM, fieldRM, convAV, sliceRM, makeSliceRM, implies_true, imp_false, forall_const, Option.map_none, FV.size, Int.reduceEq, Int.reduceNe, Int.reduceLT, Int.reduceLE, Int.reduceGT, Int.reduceGE, Int.reduceAdd, Int.reduceSub, Int.reduceMul, Int.reduceNeg, Int.reduceToNat, Int.reducePow, Int.reduceTDiv, Int.reduceTMod, Int.reduceBEq, Int.reduceBNe, Nat.reducePow, Nat.reduceGT, reduceIte, decide_eq_true_eq, Int.toNat_zero, Nat.zero_mul, Nat.reduceMul, Nat.reduceAdd, Nat.reduceMod, Nat.reduceSub, Nat.reduceDiv, Nat.reduceEqDiff, Nat.reduceLT, Nat.reduceLeDiff, Nat.reduceBEq, Nat.reduceBNe, reduceCtorEq, if_true, if_false, Option.bind_some, Option.bind_none, Option.filter_some, Option.map_some, Option.some.injEq, List.getElem?_cons_zero, List.getElem?_cons_succ, List.getElem?_nil, List.getElem?_toArray, List.nodup_nil, List.nodup_cons, List.mem_cons, List.not_mem_nil, List.idxOf_cons, cond_true, cond_false, List.filterMap_cons, List.filterMap_nil, List.getD_cons_zero, List.getD_cons_succ, Option.getD_some, not_or, or_false, false_or, List.map_cons, List.length_map, Int.toNat_natCast, List.map_nil, List.all_cons, List.all_nil, List.length_cons, List.length_nil, List.nil_append, List.cons_append, List.append_nil, List.flatMap_cons, List.flatMap_nil, List.set_cons_zero, List.set_cons_succ, Bool.and_true, Bool.true_and, Bool.and_false, Bool.false_and, Bool.not_true, Bool.not_false, Bool.true_eq_false, Bool.false_eq_true, and_true, true_and, and_false, false_and, not_true_eq_false, not_false_eq_true, ne_eq, ite_self, List.contains_cons, List.contains_nil, Bool.or_false, Bool.false_or, Bool.or_true, Bool.true_or, Nat.zero_add, List.size_toArray, beq_self_eq_true, decide_true, decide_false, List.drop_succ_cons, List.drop_zero, List.take_succ_cons, List.take_zero]
      refine ⟨by decide, ?_⟩
      simp [setHas, g0, g1, e1, e2, e3, bitOf, hm]
  · have e1 : ¬ i < 64 := by omega
    have e2 : ¬ i < 128 := by omega
    have e3 : ¬ i < 192 := by omega
    simp only [entry, av_arr4_uint64, vI, vi, vB, g, g1, cf16, ti3, ti4, ti22, ti24, ti25, ti27, Try.t3, Try.t4, Try.t22, Try.t23, Try.t25, Try.t26, boxRM, hasO, isFO, List.any_cons, List.any_nil, storeX, mvS, wc_seq, wc_reg, wc_skip, wc_block, wc_exit, wc_ret, wc_cond, condQ_t, condQ_f, seqK_n, seqK_e, seqK_r, seqN_nil, seqN_cons, blockK_n, blockK_e, blockK_r, regN_nil, regN_cons, opsQ_nil, opsQ_cons, goQ_nil, goQ_cons, wq_ret, wq_fail, wq_ask, wq_call, wq_peek, wq_if, askQ_some, peekQ_some, look_none, look_at, leafAt.eq_1, leafAt.eq_2, get, ins, mapv, upd, dropN, Up.app.eq_1, Up.app.eq_2, Up.app.eq_3, Up.app.eq_4, Up.app.eq_5, Up.app.eq_6, AV.map2.eq_1, AV.map2.eq_2, AV.map2.eq_3, AV.map1.eq_1, AV.map1.eq_2, killr.eq_1, killr.eq_2, killr.eq_3, killp.eq_1, killp.eq_2, killp.eq_3, killb, putV, setLeaf.eq_1, setLeaf.eq_2, mapLeaf.eq_1, mapLeaf.eq_2, Ev.frz.eq_1, Ev.frz.eq_2, AV.toLeaf.eq_1, AV.toLeaf.eq_2, AV.toLeaf.eq_3, AV.leaves.eq_1, AV.leaves.eq_2, AV.isLeaf.eq_1, AV.isLeaf.eq_2, AV.isLeaf.eq_3, AV.ok.eq_1, AV.ok.eq_2, AV.ok1.eq_1, AV.ok1.eq_2, AV.isBad.eq_1, AV.isBad.eq_2, guardRM, opRM, rdO.eq_1, rdO.eq_2, rdO.eq_3, rdO.eq_4, rdL, vw.eq_1, vw.eq_2, vw.eq_3, vwL, vwLeaf.eq_1, vwLeaf.eq_2, fin.eq_1, fin.eq_2, finOwn.eq_1, finOwn.eq_2, finAgg.eq_1, finAgg.eq_2, finNew.eq_1, finNew.eq_2, newB.eq_1, newB.eq_2, moveRM.eq_1, moveRM.eq_2, asgRM.eq_1, asgRM.eq_2, asgRM.eq_3, asgRM.eq_4, loadRM, storeRM, stSrc.eq_1, stSrc.eq_2, stSrc.eq_3, stTmp.eq_1, stTmp.eq_2, stTmp.eq_3, stTmp.eq_4, stTmp.eq_5, stTmp.eq_6, stTmp.eq_7, stTmp.eq_8, stRaw, stAny, stNil, stEl, stL, cpoL, cpo1.eq_1, cpo1.eq_2, cp.eq_1, cp.eq_2, cp1.eq_1, cp1.eq_2, cp1.eq_3, cp1.eq_4, cp1.eq_5, cp1.eq_6, cpL, cps, fieldAddrRM, fieldOff, AV.plus.eq_1, AV.plus.eq_2, AV.plus.eq_3, AV.plus.eq_4, seen.eq_1, seen.eq_2, seen.eq_3, partAV, binAV.eq_1, binAV.eq_2, binAV.eq_3, binAV.eq_4, binAV.eq_5, binAV.eq_6, binAV.eq_7, binAV.eq_8, binAV.eq_9, unAV.eq_1, unAV.eq_2, unAV.eq_3, unAV.eq_4, optRM.eq_1, optRM.eq_2, intOp.eq_1, intOp.eq_2, intOp.eq_3, intOp.eq_4, intOp.eq_5, intOp.eq_6, intOp.eq_7, intOp.eq_8, intOp.eq_9, intOp.eq_10, intOp.eq_11, intOp.eq_12, intOp.eq_13, intOp.eq_14, intOp.eq_15, intOp.eq_16, shiftOp.eq_1, shiftOp.eq_2, shiftOp.eq_3, strOp.eq_1, strOp.eq_2, strOp.eq_3, strOp.eq_4, strOp.eq_5, strOp.eq_6, strOp.eq_7, strOp.eq_8, isShift.eq_1, isShift.eq_2, isShift.eq_3, buildRM, placesL, fillRM, fillL, buildSliceRM, elemsRM, lenRM.eq_1, lenRM.eq_2, lenRM.eq_3, lenSRM.eq_1, lenSRM.eq_2, maxAV.eq_1, maxAV.eq_2, maxGo, appendRM, apBase.eq_1, apBase.eq_2, apBase.eq_3, apGo, boOk.eq_1, boOk.eq_2, boUps.eq_1, boUps.eq_2, frzNe.eq_1, frzNe.eq_2, isSrcD.eq_1, isSrcD.eq_2, isSrcD.eq_3, sliceOpRM, callGo, addNew, builtinRM.eq_1, builtinRM.eq_2, builtinRM.eq_3, builtinRM.eq_4, builtinRM.eq_5, constAV.eq_1, constAV.eq_2, constL, constLeaf.eq_1, constLeaf.eq_2, constLeaf.eq_3, constLeaf.eq_4, constLeaf.eq_5, constLeaf.eq_6, constLeaf.eq_7, constLeaf.eq_8, constLeaf.eq_9, constLeaf.eq_10, isAggD.eq_1, isAggD.eq_2, isAggD.eq_3, askL, ofCells, AV.free, AV.refs.eq_1, AV.refs.eq_2, AV.refs1.eq_1, AV.refs1.eq_2, AV.refs0.eq_1, AV.refs0.eq_2, AV.refs0.eq_3, AV.refs0.eq_4, AV.refs0.eq_5, Acc.meets.eq_1, Acc.meets.eq_2, Acc.meets.eq_3, Acc.meets.eq_4, Acc.meets.eq_5, Acc.meets.eq_6, frzOff.eq_1, frzOff.eq_2, tb, xb, ob, endK_r, endK_n, endU.eq_1, endU.eq_2, outsOf, resRM.eq_1, resRM.eq_2, resRM.eq_3, res1.eq_1, res1.eq_2, res1.eq_3, cellR, cellFits.eq_1, cellFits.eq_2, cellFits.eq_3, rdR.eq_1, rdR.eq_2, rdRs, keepC, FV.one.eq_1, FV.one.eq_2, FV.cells.eq_1, FV.cells.eq_2, FV.cells.eq_3, AV.leafF.eq_1, AV.leafF.eq_2, AV.elem.eq_1, AV.elem.eq_2, fLeaves, asAV.eq_1, asAV.eq_2, opsP_nil, opsP_cons, goU_nil, goU_cons, goP_nil, goP_cons, ups_refs_nil, ups_refs_cons, ups_writes_nil, ups_writes_cons, regP_cons, wp_ret, wp_fail, wp_ask', wp_peek, wp_call, wp_if, askP_some, peekP_some, accOf.eq_1, accOf.eq_2, Up.refs.eq_1, Up.refs.eq_2, Up.refs.eq_3, Up.refs.eq_4, Up.refs.eq_5, Up.refs.eq_6, Up.writes.eq_1, Up.writes.eq_2, Up.writes.eq_3, Up.writes.eq_4, Up.writes.eq_5, Up.writes.eq_6, Option.isNone_none, AV.ptrs.eq_1, AV.ptrs.eq_2, AV.ptrs0.eq_1, AV.ptrs0.eq_2, AV.ptrs0.eq_3, frzAll, frzIn, ren1.eq_1, ren1.eq_2, ren0.eq_1, ren0.eq_2, ren0.eq_3, renC.eq_1, renC.eq_2, ren2.eq_1, ren2.eq_2, ren2.eq_3, shut1.eq_1, shut1.eq_2, shut0.eq_1, shut0.eq_2, shut0.eq_3, shut2.eq_1, shut2.eq_2, capIn.eq_1, capIn.eq_2, capIn.eq_3, capIn.eq_4, capIn.eq_5, isOut, sameLens, putsOf, setD.eq_1, setD.eq_2, dIn.eq_1, dIn.eq_2, toOut, back, ipOf.eq_1, ipOf.eq_2, ipRM, ipGo, AV.cap.eq_1, AV.cap.eq_2, AV.cap.eq_3, AV.cap.eq_4, callRM_nil, callRM_cons, gather_nil32, gather_cons32, indexAddrRM, indexRM, fieldRM, convAV, sliceRM, makeSliceRM, implies_true, imp_false, forall_const, Option.map_none, FV.size, Int.reduceEq, Int.reduceNe, Int.reduceLT, Int.reduceLE, Int.reduceGT, Int.reduceGE, Int.reduceAdd, Int.reduceSub, Int.reduceMul, Int.reduceNeg, Int.reduceToNat, Int.reducePow, Int.reduceTDiv, Int.reduceTMod, Int.reduceBEq, Int.reduceBNe, Nat.reducePow, Nat.reduceGT, reduceIte, decide_eq_true_eq, Int.toNat_zero, Nat.zero_mul, Nat.reduceMul, Nat.reduceAdd, Nat.reduceMod, Nat.reduceSub, Nat.reduceDiv, Nat.reduceEqDiff, Nat.reduceLT, Nat.reduceLeDiff, Nat.reduceBEq, Nat.reduceBNe, reduceCtorEq, if_true, if_false, Option.bind_some, Option.bind_none, Option.filter_some, Option.map_some, Option.some.injEq, List.getElem?_cons_zero, List.getElem?_cons_succ, List.getElem?_nil, List.getElem?_toArray, List.nodup_nil, List.nodup_cons, List.mem_cons, List.not_mem_nil, List.idxOf_cons, cond_true, cond_false, List.filterMap_cons, List.filterMap_nil, List.getD_cons_zero, List.getD_cons_succ, Option.getD_some, not_or, or_false, false_or, List.map_cons, List.length_map, Int.toNat_natCast, List.map_nil, List.all_cons, List.all_nil, List.length_cons, List.length_nil, List.nil_append, List.cons_append, List.append_nil, List.flatMap_cons, List.flatMap_nil, List.set_cons_zero, List.set_cons_succ, Bool.and_true, Bool.true_and, Bool.and_false, Bool.false_and, Bool.not_true, Bool.not_false, Bool.true_eq_false, Bool.false_eq_true, and_true, true_and, and_false, false_and, not_true_eq_false, not_false_eq_true, ne_eq, ite_self, List.contains_cons, List.contains_nil, Bool.or_false, Bool.false_or, Bool.or_true, Bool.true_or, Nat.zero_add, List.size_toArray, beq_self_eq_true, decide_true, decide_false, List.drop_succ_cons, List.drop_zero, List.take_succ_cons, List.take_zero]
    simp [setHas, g0, g1, e1, e2, e3]
end Go.Ev

set_option linter.unusedSimpArgs false
set_option linter.unusedVariables false
namespace Go.Ev
open Go Go.Proofs
theorem w64_id {x : Int} (h0 : -9223372036854775808 ≤ x) (h1 : x ≤ 9223372036854775807) : w64 x = x := wrap64 h0 (by omega)
def setTo (p : Int → Bool) : Nat → arr4_uint64
  | 0 => ⟨0, 0, 0, 0⟩
  | n + 1 => if p n then setAdd (setTo p n) n else setTo p n
def mkSet (p : Int → Bool) : arr4_uint64 := setTo p 256
theorem setOf_ok (lo hi : Int) : C_heckleref01_Of lo hi (mkSet fun i => decide (i ≥ lo) && decide (i ≤ hi)) := by
  refine W_heckleref01_Of _ _ _ ⟨fun e0 e1 e2 e3 b => ∃ n : Nat, n ≤ 256 ∧ b = n ∧ arr4_uint64.mk e0 e1 e2 e3 = setTo (fun i => decide (i ≥ lo) && decide (i ≤ hi)) n, fun _ _ _ _ b => (256 - b).toNat, ⟨0, by omega, rfl, rfl⟩, ?_⟩
  rintro e0 e1 e2 e3 b ⟨n, hn, rfl, hs⟩
  refine ⟨fun hb => ?_, fun hb => ?_⟩
  · have hb : n < 256 := by have := of_decide_eq_true hb; omega
    have hw : w64 ((n : Int) + 1) = ((n + 1 : Nat) : Int) := w64_id (by omega) (by omega)
    refine ⟨fun a b c d => arr4_uint64.mk a b c d = setTo (fun i => decide (i ≥ lo) && decide (i ≤ hi)) (n + 1), fun a b c d h => ⟨⟨n + 1, by omega, hw, h⟩, by rw [hw]; show (256 - _ : Int).toNat < (256 - _ : Int).toNat; omega⟩, fun ht => ⟨_, add_ok _ _ (by omega) (by omega), ?_⟩, fun ht => ?_⟩
    · simp only [setTo, ht, if_true, hs]
    · simp only [setTo, ht, hs]; rfl
  · have hb : n = 256 := by have := of_decide_eq_false hb; omega
    subst hb
    exact hs.symm
theorem setNot_ok (s : arr4_uint64) : C_heckleref01_Not s (mkSet fun i => !setHas s i) := by
  refine W_heckleref01_Not _ _ ⟨fun e0 e1 e2 e3 b => ∃ n : Nat, n ≤ 256 ∧ b = n ∧ arr4_uint64.mk e0 e1 e2 e3 = setTo (fun i => !setHas s i) n, fun _ _ _ _ b => (256 - b).toNat, ⟨0, by omega, rfl, rfl⟩, ?_⟩
  rintro e0 e1 e2 e3 b ⟨n, hn, rfl, hs⟩
  refine ⟨fun hb => ?_, fun hb => ?_⟩
  · have hb : n < 256 := by have := of_decide_eq_true hb; omega
    have hw : w64 ((n : Int) + 1) = ((n + 1 : Nat) : Int) := w64_id (by omega) (by omega)
    refine ⟨fun a b c d => arr4_uint64.mk a b c d = setTo (fun i => !setHas s i) (n + 1), fun a b c d h => ⟨⟨n + 1, by omega, hw, h⟩, by rw [hw]; show (256 - _ : Int).toNat < (256 - _ : Int).toNat; omega⟩, _, has_ok _ _, fun ht => ⟨_, add_ok _ _ (by omega) (by omega), ?_⟩, fun ht => ?_⟩
    · simp only [setTo, ht, if_true, hs]
    · simp only [setTo, ht, hs]; rfl
  · have hb : n = 256 := by have := of_decide_eq_false hb; omega
    subst hb
    exact hs.symm
theorem char9_ok (b : Int) : C_hecklelaw09_char b ⟨2, mkSet fun i => decide (i ≥ b) && decide (i ≤ b), 0, 0, []⟩ := by
  exact W_hecklelaw09_char _ _ ⟨_, setOf_ok _ _, rfl⟩
theorem char3_ok (b : Int) : C_hecklelaw03_char b ⟨2, mkSet fun i => decide (i ≥ b) && decide (i ≤ b), 0, 0, []⟩ := by
  exact W_hecklelaw03_char _ _ ⟨_, setOf_ok _ _, rfl⟩
end Go.Ev

set_option linter.unusedSimpArgs false
set_option linter.unusedVariables false
namespace Go.Ev.Pl
open Go Go.Ev
abbrev SS (l : List Int) : Prop := l.Pairwise (· < ·)
theorem ss_ext : ∀ {a b : List Int}, SS a → SS b → (∀ x, x ∈ a ↔ x ∈ b) → a = b
  | [], [], _, _, _ => rfl
  | [], y :: b, _, _, h => by have := (h y).2 (List.mem_cons_self ..); simp at this
  | x :: a, [], _, _, h => by have := (h x).1 (List.mem_cons_self ..); simp at this
  | x :: a, y :: b, ha, hb, h => by
    have ha := List.pairwise_cons.1 ha
    have hb := List.pairwise_cons.1 hb
    have hxy : x = y := by
      rcases List.mem_cons.1 ((h x).1 (List.mem_cons_self ..)) with e | e
      · exact e
      · rcases List.mem_cons.1 ((h y).2 (List.mem_cons_self ..)) with e' | e'
        · exact e'.symm
        · have := hb.1 x e; have := ha.1 y e'; omega
    subst hxy
    rw [ss_ext ha.2 hb.2]
    intro z
    constructor
    · intro hz
      rcases List.mem_cons.1 ((h z).1 (List.mem_cons_of_mem _ hz)) with e | e
      · subst e; have := ha.1 z hz; omega
      · exact e
    · intro hz
      rcases List.mem_cons.1 ((h z).2 (List.mem_cons_of_mem _ hz)) with e | e
      · subst e; have := hb.1 z hz; omega
      · exact e
def join (a b : List Int) : List Int := compactInts (sortInts (a ++ b))
theorem upTo_spec (zs : List Int) (hs : zs.Pairwise (· ≤ ·)) : ∀ m, m ≤ zs.length → SS (Lib.compactUpTo zs.toArray m) ∧ ∀ x, x ∈ Lib.compactUpTo zs.toArray m ↔ x ∈ zs.take m := by
  intro m
  induction m with
  | zero => intro _; simp [Lib.compactUpTo]
  | succ m ih =>
    intro hm
    obtain ⟨h1, h2⟩ := ih (by omega)
    have hg : zs.toArray[m]! = zs[m]'(by omega) := by simp [getElem!_pos, show m < zs.length by omega]
    have ht : ∀ x, x ∈ zs.take (m + 1) ↔ x ∈ zs.take m ∨ x = zs[m]'(by omega) := by
      intro x; rw [List.take_succ_eq_append_getElem (by omega), List.mem_append, List.mem_singleton]
    have hle : ∀ x ∈ zs.take m, x ≤ zs[m]'(by omega) := by
      intro x hx
      obtain ⟨i, hi, rfl⟩ := List.mem_iff_getElem.1 hx
      simp only [List.length_take] at hi
      rw [List.getElem_take]
      exact List.pairwise_iff_getElem.1 hs i m (by omega) (by omega) (by omega)
    rw [Lib.compactUpTo_succ, hg]
    by_cases hk : Lib.keeps zs.toArray m = true
    · rw [if_pos hk]
      refine ⟨List.pairwise_append.2 ⟨h1, by simp, fun x hx y hy => ?_⟩, fun x => ?_⟩
      · simp at hy; subst hy
        have hx := (h2 x).1 hx
        have h3 := hle x hx
        simp only [Lib.keeps, decide_eq_true_eq] at hk
        rcases hk with rfl | hk
        · simp at hx
        · have hm0 : m ≠ 0 := by rintro rfl; simp at hx
          have hg' : zs.toArray[m - 1]! = zs[m - 1]'(by omega) := by simp [getElem!_pos, show m - 1 < zs.length by omega]
          rw [hg, hg'] at hk
          obtain ⟨i, hi, rfl⟩ := List.mem_iff_getElem.1 hx
          simp only [List.length_take] at hi
          rw [List.getElem_take] at h3 ⊢
          have h5 : zs[i]'(by omega) ≤ zs[m - 1]'(by omega) := by
            by_cases e : i = m - 1
            · subst e; exact Int.le_refl _
            · exact List.pairwise_iff_getElem.1 hs i (m - 1) (by omega) (by omega) (by omega)
          have h6 : zs[m - 1]'(by omega) ≤ zs[m]'(by omega) := List.pairwise_iff_getElem.1 hs (m - 1) m (by omega) (by omega) (by omega)
          have : zs[m - 1]'(by omega) ≠ zs[m]'(by omega) := fun e => hk e.symm
          omega
      · rw [ht]; simp [h2]
    · rw [if_neg hk]
      refine ⟨by simpa using h1, fun x => ?_⟩
      rw [List.append_nil, ht, h2]
      constructor
      · exact .inl
      · rintro (h | rfl)
        · exact h
        · simp only [Lib.keeps, decide_eq_true_eq, not_or, Decidable.not_not] at hk
          obtain ⟨hm0, hk⟩ := hk
          have hg' : zs.toArray[m - 1]! = zs[m - 1]'(by omega) := by simp [getElem!_pos, show m - 1 < zs.length by omega]
          rw [hg, hg'] at hk
          rw [hk]
          refine List.mem_iff_getElem.2 ⟨m - 1, by simp; omega, by rw [List.getElem_take]⟩
theorem sort_spec (l : List Int) : (sortInts l).Pairwise (· ≤ ·) ∧ ∀ x, x ∈ sortInts l ↔ x ∈ l := by
  refine ⟨?_, fun x => by simp [sortInts]⟩
  have := List.pairwise_mergeSort (le := fun x y : Int => decide (x ≤ y)) (fun a b c h1 h2 => by simp at *; omega) (fun a b => by simp; omega) l
  exact this.imp (by simp)
theorem join_spec (a b : List Int) : SS (join a b) ∧ ∀ x, x ∈ join a b ↔ x ∈ a ∨ x ∈ b := by
  obtain ⟨h1, h2⟩ := sort_spec (a ++ b)
  obtain ⟨h3, h4⟩ := upTo_spec _ h1 _ (Nat.le_refl _)
  refine ⟨h3, fun x => ?_⟩
  show x ∈ Lib.compactUpTo _ _ ↔ _
  rw [h4, List.take_length, h2, List.mem_append]
theorem sort_len (l : List Int) : (sortInts l).length = l.length := by simp [sortInts]
def addL : List Int → List Int → List Int
  | [], b => b
  | a, [] => a
  | x :: a, y :: b => if x < y then x :: addL a (y :: b) else if y < x then y :: addL (x :: a) b else x :: addL a b
  termination_by a b => a.length + b.length
theorem addL_mem : ∀ (a b : List Int) (x : Int), x ∈ addL a b ↔ x ∈ a ∨ x ∈ b
  | [], b, z => by simp [addL]
  | x :: a, [], z => by simp [addL]
  | x :: a, y :: b, z => by
    rw [addL]
    split
    · rw [List.mem_cons, addL_mem a (y :: b)]; grind
    · split
      · rw [List.mem_cons, addL_mem (x :: a) b]; grind
      · rw [List.mem_cons, addL_mem a b]; grind
  termination_by a b => a.length + b.length
theorem addL_ss : ∀ {a b : List Int}, SS a → SS b → SS (addL a b)
  | [], b, _, hb => by rw [addL]; exact hb
  | x :: a, [], ha, _ => by rw [addL]; exact ha; simp
  | x :: a, y :: b, ha, hb => by
    have ha' := List.pairwise_cons.1 ha
    have hb' := List.pairwise_cons.1 hb
    rw [addL]
    split
    · refine List.pairwise_cons.2 ⟨fun z hz => ?_, addL_ss ha'.2 hb⟩
      rw [addL_mem] at hz; grind
    · split
      · refine List.pairwise_cons.2 ⟨fun z hz => ?_, addL_ss ha hb'.2⟩
        rw [addL_mem] at hz; grind
      · refine List.pairwise_cons.2 ⟨fun z hz => ?_, addL_ss ha'.2 hb'.2⟩
        rw [addL_mem] at hz; grind
  termination_by a b => a.length + b.length
end Go.Ev.Pl

set_option linter.unusedSimpArgs false
set_option linter.unusedVariables false
namespace Go.Ev.Pl
open Go Go.Ev
theorem w64_id {x : Int} (h0 : -9223372036854775808 ≤ x) (h1 : x ≤ 9223372036854775807) : w64 x = x := wrap64 h0 (by omega)
theorem rx_sizeOf {x y : api_Rx} (h : y ∈ x.Kids) : SizeOf.sizeOf y < SizeOf.sizeOf x := by
  cases x with
  | mk k s lo hi kids =>
    have := List.sizeOf_lt_of_mem h
    simp only [api_Rx.mk.sizeOf_spec]
    simp at this
    omega
theorem rxInd {P : api_Rx → Prop} (h : ∀ x, (∀ y ∈ x.Kids, P y) → P x) (x : api_Rx) : P x :=
  h x fun y hy => rxInd h y
  termination_by SizeOf.sizeOf x
  decreasing_by exact rx_sizeOf hy
mutual
def cata {α : Type} (f : api_Rx → List α → α) : api_Rx → α
  | ⟨k, s, lo, hi, kids⟩ => f ⟨k, s, lo, hi, kids⟩ (cataL f kids)
def cataL {α : Type} (f : api_Rx → List α → α) : List api_Rx → List α
  | [] => []
  | x :: r => cata f x :: cataL f r
end
theorem cataL_map {α : Type} (f : api_Rx → List α → α) : ∀ l, cataL f l = l.map (cata f)
  | [] => rfl
  | x :: r => by rw [cataL, cataL_map f r]; rfl
theorem cata_eq {α : Type} (f : api_Rx → List α → α) (x : api_Rx) : cata f x = f x (x.Kids.map (cata f)) := by
  cases x; rw [cata, cataL_map]
def Wf (x : api_Rx) : Prop := cata (α := Prop) (fun x l => x.Kids.length < 1099511627776 ∧ ∀ p ∈ l, p) x
theorem wf_eq (x : api_Rx) : Wf x ↔ x.Kids.length < 1099511627776 ∧ ∀ y ∈ x.Kids, Wf y := by
  show cata (α := Prop) _ x ↔ _
  rw [cata_eq]
  constructor
  · rintro ⟨h1, h2⟩; exact ⟨h1, fun y hy => h2 _ (List.mem_map.2 ⟨y, hy, rfl⟩)⟩
  · rintro ⟨h1, h2⟩
    refine ⟨h1, fun p hp => ?_⟩
    obtain ⟨y, hy, rfl⟩ := List.mem_map.1 hp
    exact h2 y hy
theorem gd_nat {α : Type} [Inhabited α] {l : List α} {i : Nat} (h : i < l.length) : gd l (i : Int) = l[i] := by
  simp [gd, List.getD, h]
def timesN (x : api_Rx) : Nat := (max 1 (min 1000 (max x.Lo x.Hi))).toNat
def sizeN : api_Rx → Nat := cata fun x l => if x.Kind = 2 then 1 else if 3 ≤ x.Kind ∧ x.Kind ≤ 5 then l.sum * (if x.Kind = 5 then timesN x else 1) else 0
theorem sizeN_eq (x : api_Rx) : sizeN x = if x.Kind = 2 then 1 else if 3 ≤ x.Kind ∧ x.Kind ≤ 5 then (x.Kids.map sizeN).sum * (if x.Kind = 5 then timesN x else 1) else 0 := cata_eq _ x
def sizeZ (x : api_Rx) : Int := min (sizeN x : Int) (1000000 : Int)
theorem sum_take_succ {l : List Nat} {i : Nat} (h : i < l.length) : (l.take (i + 1)).sum = (l.take i).sum + l[i] := by
  rw [List.take_succ_eq_append_getElem h, List.sum_append]; simp
theorem rxSize_ok : ∀ x, Wf x → C_rx_Size x (sizeZ x) := by
  refine rxInd fun x ih hw => ?_
  obtain ⟨hl, hk⟩ := (wf_eq x).1 hw
  refine W_rx_Size x _ ⟨fun h => ?_, fun h => ⟨fun h2 => ?_, fun h2 => ?_⟩⟩
  · have h : x.Kind = 2 := by simpa using h
    simp [sizeZ, sizeN_eq, h]; omega
  · have : x.Kind < 3 ∨ x.Kind > 5 := by simpa using h2
    have h : x.Kind ≠ 2 := by simpa using h
    rw [sizeZ, sizeN_eq, if_neg h, if_neg (by omega)]; omega
  · have h : x.Kind ≠ 2 := by simpa using h
    have h2 : 3 ≤ x.Kind ∧ x.Kind ≤ 5 := by simp at h2; omega
    have hT : (timesN x : Int) = max 1 (min 1000 (max x.Lo x.Hi)) := by simp only [timesN]; omega
    refine ⟨fun n t => ∃ i : Nat, t = i ∧ i ≤ x.Kids.length ∧ n = min (((x.Kids.map sizeN).take i).sum : Int) 1000000, fun n t => (x.Kids.length - t).toNat, ⟨0, rfl, by omega, by simp; omega⟩, ?_⟩
    rintro n t ⟨i, rfl, hi, hn⟩
    refine ⟨fun ht => ?_, fun ht => ?_⟩
    · have ht : i < x.Kids.length := by simpa using ht
      refine ⟨by omega, by omega, sizeZ x.Kids[i], by rw [gd_nat ht]; exact ih _ (List.getElem_mem ht) (hk _ (List.getElem_mem ht)), ?_⟩
      have hs := sum_take_succ (l := x.Kids.map sizeN) (i := i) (by simpa using ht)
      rw [List.getElem_map] at hs
      have hz : sizeZ x.Kids[i] = min (sizeN x.Kids[i] : Int) (1000000 : Int) := rfl
      have hw1 : w64 (n + sizeZ x.Kids[i]) = n + sizeZ x.Kids[i] := w64_id (by omega) (by omega)
      have hw2 : w64 ((i : Int) + 1) = ((i + 1 : Nat) : Int) := w64_id (by omega) (by omega)
      rw [hw1, hw2]
      refine ⟨⟨i + 1, rfl, by omega, ?_⟩, by dsimp only; omega⟩
      rw [hs]; simp; omega
    · have ht : i = x.Kids.length := by have : ¬ i < x.Kids.length := by simpa using ht
                                        omega
      subst ht
      rw [List.take_of_length_le (by simp)] at hn
      refine ⟨fun m => m = n * (if x.Kind = 5 then (timesN x : Int) else 1), fun m hm => ?_, fun h5 => ?_, fun h5 => ?_⟩
      · subst hm
        rw [sizeZ, sizeN_eq, if_neg h, if_pos h2]
        by_cases h5 : x.Kind = 5
        · simp only [if_pos h5]
          have hp : (1 : Int) ≤ timesN x := by omega
          have hp2 : (timesN x : Int) ≤ 1000 := by omega
          generalize (x.Kids.map sizeN).sum = S at hn ⊢
          subst hn
          rw [Int.natCast_mul]
          generalize (timesN x : Int) = T at hp hp2 ⊢
          simp
          rcases Int.le_total (S : Int) 1000000 with hS | hS
          · rw [Int.min_eq_left hS]; omega
          · rw [Int.min_eq_right hS]
            have h1 : (1000000 : Int) * 1 ≤ 1000000 * T := Int.mul_le_mul_of_nonneg_left hp (by omega)
            have h2 : (1000000 : Int) * T ≤ S * T := Int.mul_le_mul_of_nonneg_right hS (by omega)
            omega
        · simp only [if_neg h5]; simp; omega
      · have h5 : x.Kind = 5 := by simpa using h5
        rw [if_pos h5, hT]
        have : ∀ a : Int, 0 ≤ a → a ≤ 1000000 → w64 (a * max 1 (min 1000 (max x.Lo x.Hi))) = a * max 1 (min 1000 (max x.Lo x.Hi)) := fun a h1 h2 => by
          have e1 : 0 ≤ a * max 1 (min 1000 (max x.Lo x.Hi)) := Int.mul_nonneg h1 (by omega)
          have e2 : a * max 1 (min 1000 (max x.Lo x.Hi)) ≤ 1000000 * 1000 := Int.mul_le_mul h2 (by omega) (by omega) (by omega)
          exact w64_id (by omega) (by omega)
        rw [← this n (by omega) (by omega)]
        congr 1; congr 1
        simp; omega
      · have h5 : x.Kind ≠ 5 := by simpa using h5
        rw [if_neg h5]; omega
theorem refSize_ok : ∀ x, Wf x → C_heckleref03_Size x (sizeZ x) := by
  refine rxInd fun x ih hw => ?_
  obtain ⟨hl, hk⟩ := (wf_eq x).1 hw
  refine W_heckleref03_Size x _ ⟨fun h => ?_, fun h => ?_⟩
  · have h : x.Kind = 2 := by simpa using h
    simp [sizeZ, sizeN_eq, h]; omega
  have h : x.Kind ≠ 2 := by simpa using h
  refine ⟨fun b => b = decide (3 ≤ x.Kind ∧ x.Kind ≤ 5), fun b hb => ⟨fun hbt => ?_, fun hbf => ?_⟩, fun h3 => ?_, fun h3 => ⟨fun h4 => ?_, fun h4 => ?_⟩⟩
  · have h2 : 3 ≤ x.Kind ∧ x.Kind ≤ 5 := by rw [hbt] at hb; simpa using hb.symm
    have hT : (timesN x : Int) = max 1 (min 1000 (max x.Lo x.Hi)) := by simp only [timesN]; omega
    have hp : (1 : Int) ≤ timesN x := by omega
    have hp2 : (timesN x : Int) ≤ 1000 := by omega
    refine ⟨fun n t => ∃ i : Nat, t = i ∧ i ≤ x.Kids.length ∧ n = min (((x.Kids.map sizeN).take i).sum : Int) 1000000, fun n t => (x.Kids.length - t).toNat, ⟨0, rfl, by omega, by simp; omega⟩, ?_⟩
    rintro n t ⟨i, rfl, hi, hn⟩
    refine ⟨fun ht => ?_, fun ht => ?_⟩
    · have ht : i < x.Kids.length := by simpa using ht
      refine ⟨by omega, by omega, sizeZ x.Kids[i], by rw [gd_nat ht]; exact ih _ (List.getElem_mem ht) (hk _ (List.getElem_mem ht)), ?_⟩
      have hs := sum_take_succ (l := x.Kids.map sizeN) (i := i) (by simpa using ht)
      rw [List.getElem_map] at hs
      have hz : sizeZ x.Kids[i] = min (sizeN x.Kids[i] : Int) (1000000 : Int) := rfl
      have hw1 : w64 (n + sizeZ x.Kids[i]) = n + sizeZ x.Kids[i] := w64_id (by omega) (by omega)
      have hw2 : w64 ((i : Int) + 1) = ((i + 1 : Nat) : Int) := w64_id (by omega) (by omega)
      rw [hw1, hw2]
      refine ⟨fun hg => ?_, fun hg => ?_⟩
      · have hg : n + sizeZ x.Kids[i] > 1000000 := by simpa using hg
        have hsum : (x.Kids.map sizeN).sum ≥ ((x.Kids.map sizeN).take (i + 1)).sum := by
          conv => lhs; rw [← List.take_append_drop (i + 1) (x.Kids.map sizeN), List.sum_append]
          omega
        rw [sizeZ, sizeN_eq, if_neg h, if_pos h2]
        have : (1000001 : Int) ≤ (((x.Kids.map sizeN).sum * (if x.Kind = 5 then timesN x else 1) : Nat) : Int) := by
          split
          · have h3 : (x.Kids.map sizeN).sum * 1 ≤ (x.Kids.map sizeN).sum * timesN x := Nat.mul_le_mul_left _ (by omega)
            omega
          · omega
        omega
      · have hg : ¬ n + sizeZ x.Kids[i] > 1000000 := by simpa using hg
        exact ⟨⟨i + 1, rfl, by omega, by rw [hs]; simp; omega⟩, by dsimp only; omega⟩
    · have ht : i = x.Kids.length := by have : ¬ i < x.Kids.length := by simpa using ht
                                        omega
      subst ht
      rw [List.take_of_length_le (by simp)] at hn
      refine ⟨fun m => m = n * (if x.Kind = 5 then (timesN x : Int) else 1), fun m hm => ?_, fun h5 => ?_, fun h5 => ?_⟩
      · subst hm
        rw [sizeZ, sizeN_eq, if_neg h, if_pos h2]
        by_cases h5 : x.Kind = 5
        · simp only [if_pos h5]
          generalize (x.Kids.map sizeN).sum = S at hn ⊢
          subst hn
          rw [Int.natCast_mul]
          generalize (timesN x : Int) = T at hp hp2 ⊢
          simp
          rcases Int.le_total (S : Int) 1000000 with hS | hS
          · rw [Int.min_eq_left hS]; omega
          · rw [Int.min_eq_right hS]
            have h1 : (1000000 : Int) * 1 ≤ 1000000 * T := Int.mul_le_mul_of_nonneg_left hp (by omega)
            have h2 : (1000000 : Int) * T ≤ S * T := Int.mul_le_mul_of_nonneg_right hS (by omega)
            omega
        · simp only [if_neg h5]; simp; omega
      · have h5 : x.Kind = 5 := by simpa using h5
        rw [if_pos h5, hT]
        have : ∀ a : Int, 0 ≤ a → a ≤ 1000000 → w64 (a * max 1 (min 1000 (max x.Lo x.Hi))) = a * max 1 (min 1000 (max x.Lo x.Hi)) := fun a h1 h2 => by
          have e1 : 0 ≤ a * max 1 (min 1000 (max x.Lo x.Hi)) := Int.mul_nonneg h1 (by omega)
          have e2 : a * max 1 (min 1000 (max x.Lo x.Hi)) ≤ 1000000 * 1000 := Int.mul_le_mul h2 (by omega) (by omega) (by omega)
          exact w64_id (by omega) (by omega)
        rw [← this n (by omega) (by omega)]
        congr 1; congr 1
        simp; omega
      · have h5 : x.Kind ≠ 5 := by simpa using h5
        rw [if_neg h5]; omega
  · have h2 : ¬ (3 ≤ x.Kind ∧ x.Kind ≤ 5) := by rw [hbf] at hb; simpa using hb.symm
    rw [sizeZ, sizeN_eq, if_neg h, if_neg h2]; omega
  · have h3' : x.Kind = 3 := by simpa using h3
    simp [h3']
  · have h4' : x.Kind = 4 := by simpa using h4
    simp [h4']
  · have h3' : x.Kind ≠ 3 := by simpa using h3
    have h4' : x.Kind ≠ 4 := by simpa using h4
    show decide (x.Kind = 5) = decide (3 ≤ x.Kind ∧ x.Kind ≤ 5)
    rw [decide_eq_decide]; omega
def nodesZ : api_Rx → Int → Int := cata fun x l most => l.foldl (fun m g => if m ≥ 0 then g m else m) (most - 1)
theorem nodesZ_eq (x : api_Rx) (most : Int) : nodesZ x most = x.Kids.foldl (fun m y => if m ≥ 0 then nodesZ y m else m) (most - 1) := by
  unfold nodesZ
  rw [cata_eq, List.foldl_map]
theorem nodesZ_le : ∀ x most, 0 ≤ most → nodesZ x most ≤ most - 1 ∧ -1 ≤ nodesZ x most := by
  refine rxInd fun x ih most hm => ?_
  rw [nodesZ_eq]
  have key : ∀ (l : List api_Rx) (m : Int), (∀ y ∈ l, y ∈ x.Kids) → -1 ≤ m → (l.foldl (fun m y => if m ≥ 0 then nodesZ y m else m) m) ≤ m ∧ -1 ≤ l.foldl (fun m y => if m ≥ 0 then nodesZ y m else m) m := by
    intro l
    induction l with
    | nil => intro m _ h; exact ⟨Int.le_refl _, h⟩
    | cons y r ih2 =>
      intro m hl h
      simp only [List.foldl_cons]
      split
      · rename_i h0
        obtain ⟨h1, h2⟩ := ih y (hl y (List.mem_cons_self ..)) m h0
        obtain ⟨h3, h4⟩ := ih2 _ (fun z hz => hl z (List.mem_cons_of_mem _ hz)) h2
        exact ⟨by omega, h4⟩
      · exact ih2 m (fun z hz => hl z (List.mem_cons_of_mem _ hz)) h
  exact key x.Kids (most - 1) (fun _ h => h) (by omega)
theorem foldl_take_succ {α β : Type} {f : β → α → β} {b : β} {l : List α} {i : Nat} (h : i < l.length) : (l.take (i + 1)).foldl f b = f ((l.take i).foldl f b) l[i] := by
  rw [List.take_succ_eq_append_getElem h, List.foldl_append]; rfl
theorem nodes_pre {x : api_Rx} {most : Int} (hm : 0 ≤ most) (i : Nat) : -1 ≤ (x.Kids.take i).foldl (fun m y => if m ≥ 0 then nodesZ y m else m) (most - 1) ∧ (x.Kids.take i).foldl (fun m y => if m ≥ 0 then nodesZ y m else m) (most - 1) < most := by
  induction i with
  | zero => simp; omega
  | succ i ih =>
    by_cases h : i < x.Kids.length
    · rw [foldl_take_succ h]
      split
      · rename_i h0
        have := nodesZ_le x.Kids[i] _ h0
        omega
      · exact ih
    · rw [List.take_of_length_le (by omega)] at ih ⊢; exact ih
theorem rxNodes_ok : ∀ x, Wf x → ∀ most, 0 ≤ most → most ≤ 1000000 → C_rx_nodes x most (nodesZ x most) := by
  refine rxInd fun x ih hw most hm0 hm1 => ?_
  obtain ⟨hl, hk⟩ := (wf_eq x).1 hw
  rw [nodesZ_eq]
  have hw0 : w64 (most - 1) = most - 1 := w64_id (by omega) (by omega)
  refine W_rx_nodes x most _ ⟨fun m t => ∃ i : Nat, t = i ∧ i ≤ x.Kids.length ∧ m = (x.Kids.take i).foldl (fun m y => if m ≥ 0 then nodesZ y m else m) (most - 1), fun m t => (x.Kids.length - t).toNat, ⟨0, rfl, by omega, by rw [hw0]; rfl⟩, ?_⟩
  rintro m t ⟨i, rfl, hi, hm⟩
  have hb := nodes_pre (x := x) hm0 i
  rw [← hm] at hb
  refine ⟨fun ht => ?_, fun ht => ?_⟩
  · have ht : i < x.Kids.length := by simpa using ht
    have hw2 : w64 ((i : Int) + 1) = ((i + 1 : Nat) : Int) := w64_id (by omega) (by omega)
    have hs := foldl_take_succ (f := fun m y => if m ≥ 0 then nodesZ y m else m) (b := most - 1) ht
    rw [← hm] at hs
    refine ⟨fun m' => m' = if m ≥ 0 then nodesZ x.Kids[i] m else m, fun m' hm' => ?_, by omega, by omega, fun hg => ?_, fun hg => ?_⟩
    · rw [hw2]
      exact ⟨⟨i + 1, rfl, by omega, by rw [hs, hm']⟩, by dsimp only; omega⟩
    · have hg : m ≥ 0 := by simpa using hg
      refine ⟨nodesZ x.Kids[i] m, ?_, by rw [if_pos hg]⟩
      rw [gd_nat ht]
      exact ih _ (List.getElem_mem ht) (hk _ (List.getElem_mem ht)) _ hg (by omega)
    · have hg : ¬ m ≥ 0 := by simpa using hg
      rw [if_neg hg]
  · have ht : i = x.Kids.length := by have : ¬ i < x.Kids.length := by simpa using ht
                                      omega
    subst ht
    rw [hm, List.take_of_length_le (Nat.le_refl _)]
def WfB (x : api_Rx) : Prop := cata (α := Prop) (fun x l => x.Kids.length < 9223372036854775808 ∧ ∀ p ∈ l, p) x
theorem wfB_eq (x : api_Rx) : WfB x ↔ x.Kids.length < 9223372036854775808 ∧ ∀ y ∈ x.Kids, WfB y := by
  unfold WfB
  rw [cata_eq]
  simp only [List.mem_map, forall_exists_index, and_imp, forall_apply_eq_imp_iff₂]
theorem wfB_of_wf : ∀ x, Wf x → WfB x := by
  refine rxInd fun x ih hw => ?_
  obtain ⟨hl, hk⟩ := (wf_eq x).1 hw
  exact (wfB_eq x).2 ⟨by omega, fun y hy => ih y hy (hk y hy)⟩
theorem refNodesB_ok : ∀ x, WfB x → ∀ most, 0 ≤ most → most ≤ 1000000 → C_heckleref03_Nodes x most (nodesZ x most) := by
  refine rxInd fun x ih hw most hm0 hm1 => ?_
  obtain ⟨hl, hk⟩ := (wfB_eq x).1 hw
  rw [nodesZ_eq]
  have hw0 : w64 (most - 1) = most - 1 := w64_id (by omega) (by omega)
  refine W_heckleref03_Nodes x most _ ⟨fun m t => ∃ i : Nat, t = i ∧ i ≤ x.Kids.length ∧ m = (x.Kids.take i).foldl (fun m y => if m ≥ 0 then nodesZ y m else m) (most - 1), fun m t => (x.Kids.length - t).toNat, ⟨0, rfl, by omega, by rw [hw0]; rfl⟩, ?_⟩
  rintro m t ⟨i, rfl, hi, hm⟩
  have hb := nodes_pre (x := x) hm0 i
  rw [← hm] at hb
  have hstay : ∀ (l : List api_Rx) (m : Int), m < 0 → l.foldl (fun m y => if m ≥ 0 then nodesZ y m else m) m = m := by
    intro l
    induction l with
    | nil => intro m _; rfl
    | cons y r ih2 => intro m h; rw [List.foldl_cons, if_neg (by omega)]; exact ih2 m h
  refine ⟨fun ht => ?_, fun ht => ?_⟩
  · simp only [List.length_map, Bool.and_eq_true, decide_eq_true_eq] at ht
    obtain ⟨ht, hg⟩ := ht
    have ht : i < x.Kids.length := by omega
    have hw2 : w64 ((i : Int) + 1) = ((i + 1 : Nat) : Int) := w64_id (by omega) (by omega)
    have hs := foldl_take_succ (f := fun m y => if m ≥ 0 then nodesZ y m else m) (b := most - 1) ht
    rw [← hm, if_pos hg] at hs
    refine ⟨by omega, by omega, nodesZ x.Kids[i] m, ?_, ?_⟩
    · rw [gd_nat ht]
      exact ih _ (List.getElem_mem ht) (hk _ (List.getElem_mem ht)) _ hg (by omega)
    · rw [hw2]
      exact ⟨⟨i + 1, rfl, by omega, hs.symm⟩, by dsimp only; omega⟩
  · simp only [List.length_map, Bool.and_eq_false_iff, decide_eq_false_iff_not] at ht
    rcases Nat.lt_or_ge i x.Kids.length with hlt | hge
    · have hneg : m < 0 := by omega
      have e := List.foldl_append (f := fun m y => if m ≥ 0 then nodesZ y m else m) (b := most - 1) (l := x.Kids.take i) (l' := x.Kids.drop i)
      rw [List.take_append_drop, ← hm, hstay _ _ hneg] at e
      exact e
    · rw [hm, List.take_of_length_le hge]
theorem refNodes_ok (x : api_Rx) (hw : Wf x) (most : Int) (h0 : 0 ≤ most) (h1 : most ≤ 1000000) : C_heckleref03_Nodes x most (nodesZ x most) := refNodesB_ok x (wfB_of_wf x hw) most h0 h1
def noSet (s : arr4_uint64) : Bool := s.e0 == 0 && (s.e1 == 0 && (s.e2 == 0 && (s.e3 == 0 && true)))
def timesB (lo hi : Int) : Bool := decide (0 ≤ lo) && (decide (lo ≤ 20) && (hi == -1 || decide (hi ≥ max 1 lo) && decide (hi ≤ 20)))
def ownB (x : api_Rx) : Bool :=
  if x.Kind = 5 then noSet x.Set && (decide (x.Kids.length = 1) && timesB x.Lo x.Hi)
  else if x.Kind = 1 then noSet x.Set && (x.Lo == 0 && x.Hi == 0 && decide (x.Kids.length = 0))
  else if x.Kind = 2 then !noSet x.Set && (x.Lo == 0 && x.Hi == 0 && decide (x.Kids.length = 0))
  else if x.Kind = 3 ∨ x.Kind = 4 then noSet x.Set && (x.Lo == 0 && x.Hi == 0 && decide (x.Kids.length ≥ 2))
  else false
def oddK (x k : api_Rx) : Bool := k.Kind == x.Kind && x.Kind != 5
def rgt : api_Rx → Int → Bool := cata fun x l deep => decide (deep > 0) && ownB x && (x.Kids.zip l).all fun (k, g) => !oddK x k && g (deep - 1)
theorem rgt_eq (x : api_Rx) (deep : Int) : rgt x deep = (decide (deep > 0) && ownB x && x.Kids.all fun k => !oddK x k && rgt k (deep - 1)) := by
  unfold rgt
  rw [cata_eq]
  congr 1
  rw [List.zip_map_right, List.all_map]
  generalize x.Kids = l
  induction l with
  | nil => rfl
  | cons y r ih => simp only [List.zip_cons_cons, List.all_cons, Function.comp] at ih ⊢; rw [ih]; rfl
def pat (x : api_Rx) : rx_pattern := { Kind := x.Kind, Set := x.Set, Lo := x.Lo, Hi := x.Hi, Kids := x.Kids }
theorem times_ok (x : rx_pattern) : C_rx_pattern_times x (timesB x.Lo x.Hi) := by
  refine W_rx_pattern_times x _ ⟨fun h => ?_, fun h => ?_⟩
  · simp only [Bool.or_eq_true, decide_eq_true_eq] at h
    simp only [timesB, Bool.and_eq_false_iff, decide_eq_false_iff_not]; omega
  · simp only [Bool.or_eq_false_iff, decide_eq_false_iff_not] at h
    have h1 : decide (0 ≤ x.Lo) = true := by simp; omega
    have h2 : decide (x.Lo ≤ 20) = true := by simp; omega
    simp only [timesB, h1, h2, Bool.true_and]
    congr 2
    have : (if x.Lo > 1 then x.Lo else 1) = max 1 x.Lo := by omega
    rw [this]
theorem len0 (l : List api_Rx) : decide (l = []) = (decide ((2 : Int) ≤ (l.length : Int) + 2) && (l.length : Int) + 2 == 2) := by
  cases l with
  | nil => rfl
  | cons a r =>
    have : ((((a :: r).length : Nat) : Int) + 2 == 2) = false := by
      show decide _ = false
      simp only [decide_eq_false_iff_not, List.length_cons]; omega
    rw [this]; simp
theorem own_ok (x : api_Rx) (hl : x.Kids.length < 1099511627776) : C_rx_pattern_own (pat x) (ownB x) := by
  refine W_rx_pattern_own (pat x) _ ⟨fun many => many = (if x.Kind = 1 ∨ x.Kind = 2 then (x.Kids.length : Int) + 2 else x.Kids.length) ∧ (x.Kind = 1 ∨ x.Kind = 2 ∨ x.Kind = 3 ∨ x.Kind = 4), ?_, fun h5 => ?_, fun h5 => ?_⟩
  · rintro many ⟨rfl, hk⟩
    show ownB x = ((!noSet x.Set) == (x.Kind == 2) && (x.Lo == 0 && (x.Hi == 0 && (decide (_ ≥ 2) && (!decide (x.Kind < 3) || _ == 2)))))
    rcases hk with h | h | h | h
    all_goals simp only [ownB, h]
    · cases noSet x.Set <;> cases hlo : (x.Lo == 0) <;> cases hhi : (x.Hi == 0) <;> simp [len0]
    · cases noSet x.Set <;> cases hlo : (x.Lo == 0) <;> cases hhi : (x.Hi == 0) <;> simp [len0]
    · cases noSet x.Set <;> cases hlo : (x.Lo == 0) <;> cases hhi : (x.Hi == 0) <;> simp <;> omega
    · cases noSet x.Set <;> cases hlo : (x.Lo == 0) <;> cases hhi : (x.Hi == 0) <;> simp <;> omega
  · have h5 : x.Kind = 5 := by simpa [pat] using h5
    refine ⟨fun hs => ⟨fun h1 => ⟨_, times_ok (pat x), ?_⟩, fun h1 => ?_⟩, fun hs => ?_⟩
    · have h1 : x.Kids.length = 1 := by simp [pat] at h1; omega
      have hs : noSet x.Set = true := by rw [Bool.not_not] at hs; exact hs
      simp only [ownB, if_pos h5, hs, h1]; rfl
    · have h1 : x.Kids.length ≠ 1 := by simp [pat] at h1; omega
      simp [ownB, if_pos h5, h1]
    · have hs : noSet x.Set = false := by rw [Bool.not_not] at hs; exact hs
      simp [ownB, if_pos h5, hs]
  · have h5 : x.Kind ≠ 5 := by simpa [pat] using h5
    refine ⟨fun b => b = decide (x.Kind = 1 ∨ x.Kind = 2), fun b hb => ⟨fun h => ?_, fun h => ?_⟩, fun h => ?_, fun h => ?_⟩
    · have h12 : x.Kind = 1 ∨ x.Kind = 2 := by rw [h] at hb; simpa using hb.symm
      refine ⟨?_, by omega⟩
      rw [if_pos h12]; exact w64_id (by show _ ≤ (x.Kids.length : Int) + 2; omega) (by show (x.Kids.length : Int) + 2 ≤ _; omega)
    · have h12 : ¬ (x.Kind = 1 ∨ x.Kind = 2) := by rw [h] at hb; simpa using hb.symm
      refine ⟨fun b => b = decide (x.Kind = 3 ∨ x.Kind = 4), fun b' hb' => ⟨fun h' => ?_, fun h' => ?_⟩, fun h' => ?_, fun h' => ?_⟩
      · have h34 : x.Kind = 3 ∨ x.Kind = 4 := by rw [h'] at hb'; simpa using hb'.symm
        exact ⟨by rw [if_neg h12]; rfl, by omega⟩
      · have h34 : ¬ (x.Kind = 3 ∨ x.Kind = 4) := by rw [h'] at hb'; simpa using hb'.symm
        simp only [ownB]; rw [if_neg h5, if_neg (by omega), if_neg (by omega), if_neg h34]
      · have : x.Kind = 3 := by simpa [pat] using h'
        simp [pat, this]
      · have : x.Kind ≠ 3 := by simpa [pat] using h'
        simp [pat, this]; rfl
    · have : x.Kind = 1 := by simpa [pat] using h
      simp [pat, this]
    · have : x.Kind ≠ 1 := by simpa [pat] using h
      simp [pat, this]; rfl
theorem rxRight_ok : ∀ x, Wf x → ∀ deep, -1000 ≤ deep → deep ≤ 1000 → C_rx_pattern_right (pat x) deep (rgt x deep) := by
  refine rxInd fun x ih hw deep hd0 hd1 => ?_
  obtain ⟨hl, hk⟩ := (wf_eq x).1 hw
  have hodd : ∀ k ∈ x.Kids, 0 < deep → C_rx_pattern_right_L1 k (pat x) deep (oddK x k || !rgt k (deep - 1)) (pat x) deep := by
    intro k hkm hpos
    have hw1 : w64 (deep - 1) = deep - 1 := w64_id (by omega) (by omega)
    have hrec : C_rx_pattern_right ({ Kind := api_Rx.Kind k, Set := api_Rx.Set k, Lo := api_Rx.Lo k, Hi := api_Rx.Hi k, Kids := api_Rx.Kids k }) (w64 (deep - 1)) (rgt k (deep - 1)) := by
      rw [hw1]; exact ih k hkm (hk k hkm) _ (by omega) (by omega)
    refine W_rx_pattern_right_L1 k (pat x) deep _ _ _ ⟨fun h1 => ⟨fun h2 => ?_, fun h2 => ⟨_, hrec, ?_, rfl, rfl⟩⟩, fun h1 => ⟨_, hrec, ?_, rfl, rfl⟩⟩
    · have h1 : (k.Kind == x.Kind) = true := h1
      have h2 : (x.Kind != 5) = true := h2
      simp [oddK, h1, h2]
    · have h2 : (x.Kind != 5) = false := h2
      simp [oddK, h2]
    · have h1 : (k.Kind == x.Kind) = false := h1
      simp [oddK, h1]
  have hall : ∀ l : List api_Rx, l.length < 1099511627776 → (∀ k ∈ l, k ∈ x.Kids) → 0 < deep → C_slices_ContainsFunc__api_Rx_api_Rx_at_rx_pattern_right_L1 l (pat x) deep (l.any fun k => oddK x k || !rgt k (deep - 1)) (pat x) deep := by
    intro l hll hlm hpos
    obtain ⟨z, hz, hz2⟩ : ∃ z : Int, (decide (z ≥ 0) = l.any fun k => oddK x k || !rgt k (deep - 1)) ∧ C_slices_IndexFunc__api_Rx_api_Rx_at_rx_pattern_right_L1 l (pat x) deep z (pat x) deep := by
      have hfind : ∀ i : Nat, (∀ (j : Nat) (hj : j < l.length), j < i → (oddK x l[j] || !rgt l[j] (deep - 1)) = false) → (i = l.length → (l.any fun k => oddK x k || !rgt k (deep - 1)) = false) := by
        intro i h e
        subst e
        rw [List.any_eq_false]
        intro k hkm
        obtain ⟨j, hj, rfl⟩ := List.mem_iff_getElem.1 hkm
        rw [h j hj hj]; simp
      cases hany : l.any fun k => oddK x k || !rgt k (deep - 1) with
      | false =>
        refine ⟨-1, by simp, ?_⟩
        refine W_slices_IndexFunc__api_Rx_api_Rx_at_rx_pattern_right_L1 l (pat x) deep _ _ _ ⟨fun a b c d e f g h o t => (⟨a, ⟨b, c, d, e⟩, f, g, h⟩ : rx_pattern) = pat x ∧ o = deep ∧ ∃ i : Nat, t = i ∧ i ≤ l.length, fun _ _ _ _ _ _ _ _ _ t => (l.length - t).toNat, ⟨rfl, rfl, 0, rfl, by omega⟩, ?_⟩
        rintro a b c d e f g h o t ⟨hp, rfl, i, rfl, hi⟩
        refine ⟨fun ht => ?_, fun ht => ⟨rfl, hp.symm, rfl⟩⟩
        have ht : i < l.length := by simpa using ht
        have hw2 : w64 ((i : Int) + 1) = ((i + 1 : Nat) : Int) := w64_id (by omega) (by omega)
        refine ⟨by omega, by omega, _, pat x, o, by rw [gd_nat ht, hp]; exact hodd l[i] (hlm _ (List.getElem_mem ht)) hpos, fun hb => ?_, fun hb => ?_⟩
        · rw [List.any_eq_false] at hany
          exact absurd hb (hany _ (List.getElem_mem ht))
        · rw [hw2]
          exact ⟨⟨rfl, rfl, i + 1, rfl, by omega⟩, by dsimp only; omega⟩
      | true =>
        obtain ⟨k0, hk0, hk1⟩ := List.any_eq_true.1 hany
        have hex : ∃ i : Nat, ∃ hi : i < l.length, (oddK x l[i] || !rgt l[i] (deep - 1)) = true ∧ ∀ (j : Nat) (hj : j < i), (oddK x (l[j]'(by omega)) || !rgt (l[j]'(by omega)) (deep - 1)) = false := by
          obtain ⟨j0, hj0, rfl⟩ := List.mem_iff_getElem.1 hk0
          induction j0 using Nat.strongRecOn with
          | _ j0 ihj =>
            by_cases hex : ∃ j : Nat, ∃ hj : j < j0, (oddK x (l[j]'(by omega)) || !rgt (l[j]'(by omega)) (deep - 1)) = true
            · obtain ⟨j, hj, hj1⟩ := hex
              exact ihj j hj (by omega) (List.getElem_mem _) hj1
            · refine ⟨j0, hj0, hk1, fun j hj => ?_⟩
              cases hb : (oddK x (l[j]'(by omega)) || !rgt (l[j]'(by omega)) (deep - 1)) with
              | false => rfl
              | true => exact absurd ⟨j, hj, hb⟩ hex
        obtain ⟨n, hn, hn1, hn2⟩ := hex
        refine ⟨n, by simp, ?_⟩
        refine W_slices_IndexFunc__api_Rx_api_Rx_at_rx_pattern_right_L1 l (pat x) deep _ _ _ ⟨fun a b c d e f g h o t => (⟨a, ⟨b, c, d, e⟩, f, g, h⟩ : rx_pattern) = pat x ∧ o = deep ∧ ∃ i : Nat, t = i ∧ i ≤ n, fun _ _ _ _ _ _ _ _ _ t => (l.length - t).toNat, ⟨rfl, rfl, 0, rfl, by omega⟩, ?_⟩
        rintro a b c d e f g h o t ⟨hp, rfl, i, rfl, hi⟩
        refine ⟨fun ht => ?_, fun ht => ?_⟩
        · have ht : i < l.length := by simpa using ht
          have hw2 : w64 ((i : Int) + 1) = ((i + 1 : Nat) : Int) := w64_id (by omega) (by omega)
          refine ⟨by omega, by omega, _, pat x, o, by rw [gd_nat ht, hp]; exact hodd l[i] (hlm _ (List.getElem_mem ht)) hpos, fun hb => ⟨?_, rfl, rfl⟩, fun hb => ?_⟩
          · rcases Nat.lt_or_ge i n with hlt | hge
            · rw [hn2 i hlt] at hb; cases hb
            · have : i = n := by omega
              rw [this]
          · rcases Nat.lt_or_ge i n with hlt | hge
            · rw [hw2]
              exact ⟨⟨rfl, rfl, i + 1, rfl, by omega⟩, by dsimp only; omega⟩
            · have : i = n := by omega
              subst this
              rw [hn1] at hb; cases hb
        · have : ¬ i < l.length := by simpa using ht
          omega
    refine W_slices_ContainsFunc__api_Rx_api_Rx_at_rx_pattern_right_L1 l (pat x) deep _ _ _ ⟨z, _, _, hz2, hz.symm, rfl, rfl⟩
  rw [rgt_eq]
  refine W_rx_pattern_right (pat x) deep _ ⟨fun hd => ⟨_, own_ok x hl, fun ho => ⟨_, _, _, hall x.Kids hl (fun _ h => h) (by simpa using hd), ?_⟩, fun ho => ?_⟩, fun hd => ?_⟩
  · rw [hd, ho]
    simp only [Bool.true_and]
    rw [List.any_eq_not_all_not, Bool.not_not]
    congr 1
    funext k
    cases oddK x k <;> cases rgt k (deep - 1) <;> rfl
  · rw [ho]; simp
  · rw [hd]; simp
def rightB (x : api_Rx) : Bool := rgt x 20 && (decide (sizeZ x ≤ 200) && decide (nodesZ x 1000 ≥ 0))
theorem rxRightAll_ok (x : api_Rx) (hw : Wf x) : C_rx_Right x (rightB x) := by
  refine W_rx_Right x _ ⟨_, rxRight_ok x hw 20 (by omega) (by omega), fun h => ⟨_, rxSize_ok x hw, fun h2 => ⟨_, rxNodes_ok x hw 1000 (by omega) (by omega), ?_⟩, fun h2 => ?_⟩, fun h => ?_⟩
  · rw [rightB, h, h2]; rfl
  · rw [rightB, h2]; simp
  · rw [rightB, h]; simp
end Go.Ev.Pl

set_option linter.unusedSimpArgs false
set_option linter.unusedVariables false
namespace Go.Ev.Pl
open Go Go.Ev
theorem noSet_eq (s : arr4_uint64) : (s.e0 == 0 && (s.e1 == 0 && (s.e2 == 0 && (s.e3 == 0 && true)))) = noSet s := rfl
theorem len_zero (l : List api_Rx) : ((l.length : Int) == 0) = decide (l.length = 0) := by
  show decide _ = decide _
  simp only [decide_eq_decide]; omega
theorem refRight_ok : ∀ x, Wf x → ∀ deep, -1000 ≤ deep → deep ≤ 1000 → C_heckleref03_right x deep (rgt x deep) := by
  refine rxInd fun x ih hw deep hd0 hd1 => ?_
  obtain ⟨hl, hk⟩ := (wf_eq x).1 hw
  have hw1 : w64 (deep - 1) = deep - 1 := w64_id (by omega) (by omega)
  rw [rgt_eq]
  refine W_heckleref03_right x deep _ ⟨fun h => ?_, fun h => ?_⟩
  · have : ¬ deep > 0 := by have : deep < 1 := by simpa using h
                            omega
    simp [this]
  have hd : decide (deep > 0) = true := by have : ¬ deep < 1 := by simpa using h
                                           simp; omega
  have hpos : 0 < deep := by simpa using hd
  rw [hd, Bool.true_and]
  simp only [noSet_eq, Bool.not_not]
  refine ⟨fun h1 => ?_, fun h1 => ⟨fun h2 => ?_, fun h2 => ⟨fun h5 => ?_, fun h5 => ?_⟩⟩⟩
  · have h1 : x.Kind = 1 := by simpa using h1
    have : x.Kids.all (fun k => !oddK x k && rgt k (deep - 1)) = true ∨ ¬ x.Kids.length = 0 := by
      cases x.Kids with
      | nil => exact .inl rfl
      | cons a r => right; simp
    simp only [ownB, h1]
    rcases this with h | h
    · rw [h, len_zero]; simp
    · rw [len_zero]; simp [h]
  · have h2 : x.Kind = 2 := by simpa using h2
    have : x.Kids.all (fun k => !oddK x k && rgt k (deep - 1)) = true ∨ ¬ x.Kids.length = 0 := by
      cases x.Kids with
      | nil => exact .inl rfl
      | cons a r => right; simp
    simp only [ownB, h2]
    rcases this with h | h
    · rw [h, len_zero]; simp
    · rw [len_zero]; simp [h]
  · have h5 : x.Kind = 5 := by simpa using h5
    have hmax : (if true = true then if x.Lo > 1 then x.Lo else 1 else if x.Lo < 1 then x.Lo else 1) = max 1 x.Lo := by simp; omega
    have hmax2 : (if x.Lo > 1 then x.Lo else 1) = max 1 x.Lo := by omega
    simp only [eq_self, if_true, hmax2]
    have hown : ownB x = (noSet x.Set && (decide (x.Kids.length = 1) && timesB x.Lo x.Hi)) := by simp only [ownB, if_pos h5]
    refine ⟨fun hs => ⟨fun hlo => ⟨fun hlo2 => ⟨fun hhi => ⟨fun h1 => ⟨fun _ _ _ _ _ => ?_, _, ih _ ?_ (hk _ ?_) _ (by omega) (by omega), ?_⟩, fun h1 => ?_⟩, fun hhi => ?_⟩, fun hlo2 => ?_⟩, fun hlo => ?_⟩, fun hs => ?_⟩
    · have h1' : x.Kids.length = 1 := by (rw [List.length_map] at h1; have : (x.Kids.length : Int) = 1 := by simpa using h1); omega
      omega
    · have h1' : x.Kids.length = 1 := by (rw [List.length_map] at h1; have : (x.Kids.length : Int) = 1 := by simpa using h1); omega
      match hq : x.Kids, h1' with
      | [a], _ => simp
    · have h1' : x.Kids.length = 1 := by (rw [List.length_map] at h1; have : (x.Kids.length : Int) = 1 := by simpa using h1); omega
      match hq : x.Kids, h1' with
      | [a], _ => simp
    · -- the kid's word
      have h1' : x.Kids.length = 1 := by (rw [List.length_map] at h1; have : (x.Kids.length : Int) = 1 := by simpa using h1); omega
      match hq : x.Kids, h1' with
      | [a], _ =>
        have ht : timesB x.Lo x.Hi = true := by
          have a1 : decide (0 ≤ x.Lo) = true := by have : x.Lo ≥ 0 := by simpa using hlo
                                                   simp; omega
          simp only [timesB, a1, hlo2, hhi, Bool.true_and]
        rw [hown, hs, hq, ht, hw1]
        have ho : oddK x a = false := by simp [oddK, h5]
        simp [ho]
    · have h1' : x.Kids.length ≠ 1 := by intro e; rw [List.length_map, e] at h1; simp at h1
      rw [hown]; simp [h1']
    · rw [hown]; simp only [timesB]; rw [hhi]; simp
    · rw [hown]; simp only [timesB]; rw [hlo2]; simp
    · have : decide (0 ≤ x.Lo) = false := by have : ¬ x.Lo ≥ 0 := by simpa using hlo
                                             simp; omega
      rw [hown]; simp only [timesB]; rw [this]; simp
    · rw [hown, hs]; simp
  · have h1 : x.Kind ≠ 1 := by simpa using h1
    have h2 : x.Kind ≠ 2 := by simpa using h2
    have h5 : x.Kind ≠ 5 := by simpa using h5
    have hodd : ∀ k, oddK x k = (k.Kind == x.Kind) := fun k => by simp [oddK, h5]
    refine ⟨fun b => b = decide (x.Kind = 3 ∨ x.Kind = 4), fun b hb => ⟨fun hbt => ⟨fun hg => ?_, fun hg => ?_⟩, fun hbf => ?_⟩, fun h3 => ?_, fun h3 => ?_⟩
    · have h34 : x.Kind = 3 ∨ x.Kind = 4 := by rw [hbt] at hb; simpa using hb.symm
      have : ownB x = false := by
        simp only [ownB, if_neg h5, if_neg h1, if_neg h2, if_pos h34]
        simp only [Bool.or_eq_true, decide_eq_true_eq, Bool.not_eq_true', Bool.and_eq_false_iff] at hg ⊢
        rcases hg with hg | hg | hg
        · exact .inl hg
        · exact .inr (.inl (hg.imp id id))
        · right; right; simp; omega
      rw [this]; simp
    · have h34 : x.Kind = 3 ∨ x.Kind = 4 := by rw [hbt] at hb; simpa using hb.symm
      have hown : ownB x = true := by
        simp only [ownB, if_neg h5, if_neg h1, if_neg h2, if_pos h34]
        simp only [Bool.or_eq_false_iff, decide_eq_false_iff_not, Bool.not_eq_false', Bool.and_eq_true, decide_eq_true_eq] at hg ⊢
        obtain ⟨g1, g2, g3⟩ := hg
        exact ⟨g1, g2, by omega⟩
      rw [hown, Bool.true_and]
      refine ⟨fun t => ∃ i : Nat, t = i ∧ i ≤ x.Kids.length ∧ (x.Kids.take i).all (fun k => !oddK x k && rgt k (deep - 1)) = true, fun t => (x.Kids.length - t).toNat, ⟨0, rfl, by omega, rfl⟩, ?_⟩
      rintro t ⟨i, rfl, hi, hall⟩
      refine ⟨fun ht => ?_, fun ht => ?_⟩
      · have ht : i < x.Kids.length := by simpa using ht
        have hw2 : w64 ((i : Int) + 1) = ((i + 1 : Nat) : Int) := w64_id (by omega) (by omega)
        have hm := List.getElem_mem ht
        have hfail : ∀ {b : Bool}, (!oddK x x.Kids[i] && rgt x.Kids[i] (deep - 1)) = false → (x.Kids.all fun k => !oddK x k && rgt k (deep - 1)) = false := fun h => by
          rw [List.all_eq_false]; exact ⟨_, hm, by rw [h]; simp⟩
        refine ⟨by omega, by omega, fun ho => ?_, fun ho => ⟨fun _ => by omega, fun _ => by omega, _, by rw [gd_nat ht, hw1]; exact ih _ hm (hk _ hm) _ (by omega) (by omega), fun hr => ?_, fun hr => ?_⟩⟩
        · rw [gd_nat ht] at ho
          exact (hfail (b := true) (by rw [hodd, ho]; rfl)).symm ▸ rfl
        · have hr : rgt x.Kids[i] (deep - 1) = false := by simpa using hr
          exact hfail (b := true) (by rw [hr]; simp)
        · have hr : rgt x.Kids[i] (deep - 1) = true := by simpa using hr
          rw [gd_nat ht] at ho
          rw [hw2]
          refine ⟨⟨i + 1, rfl, by omega, ?_⟩, by dsimp only; omega⟩
          rw [List.take_succ_eq_append_getElem ht, List.all_append, hall]
          simp [hodd, ho, hr]
      · have ht : i = x.Kids.length := by have : ¬ i < x.Kids.length := by simpa using ht
                                          omega
        subst ht
        rw [List.take_of_length_le (Nat.le_refl _)] at hall
        exact hall
    · have h34 : ¬ (x.Kind = 3 ∨ x.Kind = 4) := by rw [hbf] at hb; simpa using hb.symm
      have : ownB x = false := by simp only [ownB, if_neg h5, if_neg h1, if_neg h2, if_neg h34]
      rw [this]; simp
    · have : x.Kind = 3 := by simpa using h3
      simp [this]
    · have : x.Kind ≠ 3 := by simpa using h3
      simp [this]; rfl
theorem refRightAll_ok (x : api_Rx) (hw : Wf x) : C_heckleref03_Right x (rightB x) := by
  refine W_heckleref03_Right x _ ⟨_, refRight_ok x hw 20 (by omega) (by omega), fun h => ⟨_, refSize_ok x hw, fun h2 => ⟨_, refNodes_ok x hw 1000 (by omega) (by omega), ?_⟩, fun h2 => ?_⟩, fun h => ?_⟩
  · rw [rightB, h, h2]; rfl
  · rw [rightB, h2]; simp
  · rw [rightB, h]; simp
def nullB : api_Rx → Bool := cata fun x l => if x.Kind = 1 then true else if x.Kind = 3 then l.all id else if x.Kind = 4 then l.any id else if x.Kind = 5 then decide (x.Lo ≤ 0) || l.all id else false
theorem nullB_eq (x : api_Rx) : nullB x = if x.Kind = 1 then true else if x.Kind = 3 then x.Kids.all nullB else if x.Kind = 4 then x.Kids.any nullB else if x.Kind = 5 then decide (x.Lo ≤ 0) || x.Kids.all nullB else false := by
  unfold nullB; rw [cata_eq]; simp only [List.all_map, List.any_map]; rfl
end Go.Ev.Pl

set_option linter.unusedSimpArgs false
set_option linter.unusedVariables false
namespace Go.Ev.Pl
open Go Go.Ev
structure GA where
  n : Nat
  sets : List arr4_uint64
  null : Bool
  first : Nat → Bool
  last : Nat → Bool
  follow : Nat → Nat → Bool
def gEmpty : GA := ⟨0, [], true, fun _ => false, fun _ => false, fun _ _ => false⟩
def gNone : GA := ⟨0, [], false, fun _ => false, fun _ => false, fun _ _ => false⟩
def gByte (s : arr4_uint64) : GA := ⟨1, [s], false, fun i => i == 0, fun i => i == 0, fun _ _ => false⟩
def blk (n : Nat) (p q : Nat → Nat → Bool) (r : Nat → Nat → Bool) (i j : Nat) : Bool :=
  if i < n then (if j < n then p i j else r i (j - n)) else (if j < n then false else q (i - n) (j - n))
def gCat (a b : GA) : GA :=
  ⟨a.n + b.n, a.sets ++ b.sets, a.null && b.null, fun i => if i < a.n then a.first i else a.null && b.first (i - a.n),
    fun i => if i < a.n then b.null && a.last i else b.last (i - a.n), blk a.n a.follow b.follow fun i j => a.last i && b.first j⟩
def gAlt (a b : GA) : GA :=
  ⟨a.n + b.n, a.sets ++ b.sets, a.null || b.null, fun i => if i < a.n then a.first i else b.first (i - a.n),
    fun i => if i < a.n then a.last i else b.last (i - a.n), blk a.n a.follow b.follow fun _ _ => false⟩
def gAgain (a : GA) : GA := { a with follow := fun i j => a.follow i j || a.last i && a.first j }
def gMaybe (a : GA) : GA := { a with null := true }
structure Canon (a : GA) : Prop where
  sets : a.sets.length = a.n
  first : ∀ i, a.n ≤ i → a.first i = false
  last : ∀ i, a.n ≤ i → a.last i = false
  follow : ∀ i j, a.n ≤ i ∨ a.n ≤ j → a.follow i j = false
theorem cat_empty_r {a : GA} (h : Canon a) : gCat a gEmpty = a := by
  obtain ⟨n, sets, null, f, l, fo⟩ := a
  simp only [gCat, gEmpty, GA.mk.injEq, Nat.add_zero, List.append_nil, Bool.and_true, Bool.and_false, true_and]
  refine ⟨?_, ?_, ?_⟩
  · funext i; split
    · rfl
    · rename_i hi; exact (h.first i (by show n ≤ i; omega)).symm
  · funext i; split
    · rfl
    · rename_i hi; exact (h.last i (by show n ≤ i; omega)).symm
  · funext i j
    simp only [blk]
    split <;> split
    · rfl
    · rename_i h1 h2; exact (h.follow i j (by show n ≤ i ∨ n ≤ j; omega)).symm
    · rename_i h1 h2; exact (h.follow i j (by show n ≤ i ∨ n ≤ j; omega)).symm
    · rename_i h1 h2; exact (h.follow i j (by show n ≤ i ∨ n ≤ j; omega)).symm
theorem canon_zero {a : GA} (h : Canon a) (hn : a.n = 0) (hnull : a.null = true) : a = gEmpty := by
  obtain ⟨n, sets, null, f, l, fo⟩ := a
  simp only at hn hnull; subst hn hnull
  have hs : sets = [] := List.length_eq_zero_iff.1 h.sets
  subst hs
  simp only [gEmpty, GA.mk.injEq, true_and]
  exact ⟨funext fun i => h.first i (Nat.zero_le _), funext fun i => h.last i (Nat.zero_le _), funext fun i => funext fun j => h.follow i j (.inl (Nat.zero_le _))⟩
theorem canon_empty : Canon gEmpty := ⟨rfl, fun _ _ => rfl, fun _ _ => rfl, fun _ _ _ => rfl⟩
theorem canon_none : Canon gNone := ⟨rfl, fun _ _ => rfl, fun _ _ => rfl, fun _ _ _ => rfl⟩
theorem canon_byte (s : arr4_uint64) : Canon (gByte s) := ⟨rfl, fun i h => by simp [gByte] at h ⊢; omega, fun i h => by simp [gByte] at h ⊢; omega, fun _ _ _ => rfl⟩
theorem canon_cat {a b : GA} (ha : Canon a) (hb : Canon b) : Canon (gCat a b) := by
  refine ⟨by simp [gCat, ha.sets, hb.sets], fun i h => ?_, fun i h => ?_, fun i j h => ?_⟩
  · simp only [gCat] at h ⊢; rw [if_neg (by omega), hb.first _ (by omega)]; simp
  · simp only [gCat] at h ⊢; rw [if_neg (by omega), hb.last _ (by omega)]
  · simp only [gCat, blk] at h ⊢
    split <;> split
    · omega
    · rw [hb.first _ (by omega)]; simp
    · rfl
    · exact hb.follow _ _ (by omega)
theorem canon_alt {a b : GA} (ha : Canon a) (hb : Canon b) : Canon (gAlt a b) := by
  refine ⟨by simp [gAlt, ha.sets, hb.sets], fun i h => ?_, fun i h => ?_, fun i j h => ?_⟩
  · simp only [gAlt] at h ⊢; rw [if_neg (by omega), hb.first _ (by omega)]
  · simp only [gAlt] at h ⊢; rw [if_neg (by omega), hb.last _ (by omega)]
  · simp only [gAlt, blk] at h ⊢
    split <;> split
    · omega
    · rfl
    · rfl
    · exact hb.follow _ _ (by omega)
theorem canon_again {a : GA} (h : Canon a) : Canon (gAgain a) :=
  ⟨h.sets, h.first, h.last, fun i j hij => by
    simp only [gAgain] at hij ⊢
    rw [h.follow i j hij]
    rcases hij with hi | hj
    · rw [h.last i hi]; rfl
    · rw [h.first j hj]; simp⟩
theorem canon_maybe {a : GA} (h : Canon a) : Canon (gMaybe a) := ⟨h.sets, h.first, h.last, h.follow⟩
def iter (f : GA → GA) : Nat → GA → GA
  | 0, z => z
  | k + 1, z => f (iter f k z)
theorem canon_iter {f : GA → GA} (hf : ∀ a, Canon a → Canon (f a)) : ∀ k {z}, Canon z → Canon (iter f k z)
  | 0, _, h => h
  | k + 1, _, h => hf _ (canon_iter hf k h)
def gRep (a : GA) (lo hi : Int) : GA :=
  if hi < 0 then iter (gCat a) (max lo 1 - 1).toNat (if lo = 0 then gMaybe (gAgain a) else gAgain a)
  else iter (gCat a) lo.toNat (iter (fun o => gMaybe (gCat a o)) (hi - lo).toNat gEmpty)
theorem canon_rep {a : GA} (h : Canon a) (lo hi : Int) : Canon (gRep a lo hi) := by
  unfold gRep
  split
  · refine canon_iter (fun b hb => canon_cat h hb) _ ?_
    split
    · exact canon_maybe (canon_again h)
    · exact canon_again h
  · exact canon_iter (fun b hb => canon_cat h hb) _ (canon_iter (fun b hb => canon_maybe (canon_cat h hb)) _ canon_empty)
def gof : api_Rx → GA := cata fun x l =>
  if x.Kind = 2 then gByte x.Set else if x.Kind = 3 then l.foldl gCat gEmpty else if x.Kind = 4 then l.foldl gAlt gNone
  else if x.Kind = 5 then gRep (l.headD gEmpty) x.Lo x.Hi else gEmpty
theorem gof_eq (x : api_Rx) : gof x = if x.Kind = 2 then gByte x.Set else if x.Kind = 3 then x.Kids.foldl (fun o y => gCat o (gof y)) gEmpty else if x.Kind = 4 then x.Kids.foldl (fun o y => gAlt o (gof y)) gNone
    else if x.Kind = 5 then gRep ((x.Kids.map gof).headD gEmpty) x.Lo x.Hi else gEmpty := by
  unfold gof; rw [cata_eq]; simp only [List.foldl_map]
theorem canon_gof : ∀ x, Canon (gof x) := by
  refine rxInd fun x ih => ?_
  have key : ∀ (f : GA → GA → GA), (∀ a b, Canon a → Canon b → Canon (f a b)) → ∀ (l : List api_Rx) (z : GA), (∀ y ∈ l, y ∈ x.Kids) → Canon z → Canon (l.foldl (fun o y => f o (gof y)) z) := by
    intro f hf l
    induction l with
    | nil => intro z _ h; exact h
    | cons y r ih2 => intro z hl h; exact ih2 _ (fun a ha => hl a (List.mem_cons_of_mem _ ha)) (hf _ _ h (ih y (hl y (List.mem_cons_self ..))))
  rw [gof_eq]
  split
  · exact canon_byte _
  · split
    · exact key gCat (fun a b => canon_cat) _ _ (fun _ h => h) canon_empty
    · split
      · exact key gAlt (fun a b => canon_alt) _ _ (fun _ h => h) canon_none
      · split
        · refine canon_rep ?_ _ _
          cases hq : x.Kids with
          | nil => exact canon_empty
          | cons y r => exact ih y (by rw [hq]; exact List.mem_cons_self ..)
        · exact canon_empty
end Go.Ev.Pl

set_option linter.unusedSimpArgs false
set_option linter.unusedVariables false
namespace Go.Ev.Pl
open Go Go.Ev
def lst (n : Nat) (p : Nat → Bool) (off : Nat) : List Int := ((List.range n).filter p).map fun i => ((i + off : Nat) : Int)
theorem lst_mem {n : Nat} {p : Nat → Bool} {off : Nat} {x : Int} : x ∈ lst n p off ↔ ∃ i, i < n ∧ p i = true ∧ x = ((i + off : Nat) : Int) := by
  simp only [lst, List.mem_map, List.mem_filter, List.mem_range]
  constructor
  · rintro ⟨i, ⟨h1, h2⟩, rfl⟩; exact ⟨i, h1, h2, rfl⟩
  · rintro ⟨i, h1, h2, rfl⟩; exact ⟨i, ⟨h1, h2⟩, rfl⟩
theorem lst_ss (n : Nat) (p : Nat → Bool) (off : Nat) : SS (lst n p off) := by
  unfold lst SS
  rw [List.pairwise_map]
  refine List.Pairwise.filter _ ?_
  exact List.pairwise_lt_range.imp fun h => by omega
theorem lst_len (n : Nat) (p : Nat → Bool) (off : Nat) : (lst n p off).length ≤ n := by
  unfold lst
  rw [List.length_map]
  exact Nat.le_trans (List.length_filter_le _ _) (by simp)
theorem lst_congr {n : Nat} {p q : Nat → Bool} {off : Nat} (h : ∀ i, i < n → p i = q i) : lst n p off = lst n q off := by
  unfold lst
  rw [List.filter_congr fun i hi => h i (List.mem_range.1 hi)]
theorem lst_none (n off : Nat) : lst n (fun _ => false) off = [] := by simp [lst]
theorem lst_left {n m : Nat} {p : Nat → Bool} {off : Nat} {q : Nat → Bool} (h1 : ∀ i, i < n → q i = p i) (h2 : ∀ i, n ≤ i → i < n + m → q i = false) : lst n p off = lst (n + m) q off := by
  refine ss_ext (lst_ss _ _ _) (lst_ss _ _ _) fun x => ?_
  rw [lst_mem, lst_mem]
  constructor
  · rintro ⟨i, hi, hp, rfl⟩; exact ⟨i, by omega, by rw [h1 i hi]; exact hp, rfl⟩
  · rintro ⟨i, hi, hp, rfl⟩
    rcases Nat.lt_or_ge i n with h | h
    · exact ⟨i, h, by rw [← h1 i h]; exact hp, rfl⟩
    · rw [h2 i h hi] at hp; cases hp
theorem lst_right {n m : Nat} {p : Nat → Bool} {off : Nat} {q : Nat → Bool} (h1 : ∀ i, i < n → q i = false) (h2 : ∀ i, i < m → q (n + i) = p i) : lst m p (off + n) = lst (n + m) q off := by
  refine ss_ext (lst_ss _ _ _) (lst_ss _ _ _) fun x => ?_
  rw [lst_mem, lst_mem]
  constructor
  · rintro ⟨i, hi, hp, rfl⟩; exact ⟨n + i, by omega, by rw [h2 i hi]; exact hp, by omega⟩
  · rintro ⟨i, hi, hp, rfl⟩
    rcases Nat.lt_or_ge i n with h | h
    · rw [h1 i h] at hp; cases hp
    · exact ⟨i - n, by omega, by rw [← h2 _ (by omega), show n + (i - n) = i by omega]; exact hp, by omega⟩
theorem lst_both {n m : Nat} {p p' : Nat → Bool} {off : Nat} {q : Nat → Bool} {l : List Int} (hs : SS l) (hm : ∀ x, x ∈ l ↔ x ∈ lst n p off ∨ x ∈ lst m p' (off + n)) (h1 : ∀ i, i < n → q i = p i) (h2 : ∀ i, i < m → q (n + i) = p' i) : l = lst (n + m) q off := by
  refine ss_ext hs (lst_ss _ _ _) fun x => ?_
  rw [hm, lst_mem, lst_mem, lst_mem]
  constructor
  · rintro (⟨i, hi, hp, rfl⟩ | ⟨i, hi, hp, rfl⟩)
    · exact ⟨i, by omega, by rw [h1 i hi]; exact hp, rfl⟩
    · exact ⟨n + i, by omega, by rw [h2 i hi]; exact hp, by omega⟩
  · rintro ⟨i, hi, hp, rfl⟩
    rcases Nat.lt_or_ge i n with h | h
    · exact .inl ⟨i, h, by rw [← h1 i h]; exact hp, rfl⟩
    · exact .inr ⟨i - n, by omega, by rw [← h2 _ (by omega), show n + (i - n) = i by omega]; exact hp, by omega⟩
def flw (g : GA) (off : Nat) : List (List Int) := (List.range g.n).map fun i => lst g.n (g.follow i) off
theorem flw_len (g : GA) (off : Nat) : (flw g off).length = g.n := by simp [flw]
theorem flw_get (g : GA) (off : Nat) {i : Nat} (h : i < g.n) : (flw g off)[i]'(by rw [flw_len]; exact h) = lst g.n (g.follow i) off := by simp [flw]
theorem flw_ext {g : GA} {off : Nat} {l : List (List Int)} (hl : l.length = g.n) (h : ∀ (i : Nat) (hi : i < l.length), l[i] = lst g.n (g.follow i) off) : l = flw g off := by
  apply List.ext_getElem
  · rw [hl, flw_len]
  · intro i h1 h2
    rw [h i h1, flw_get g off (by rw [hl] at h1; exact h1)]
def leadF (F : List (List Int)) (fr to : List Int) : List (List Int) := F.mapIdx fun i f => if (i : Int) ∈ fr then join f to else f
theorem leadF_len (F : List (List Int)) (fr to : List Int) : (leadF F fr to).length = F.length := by simp [leadF]
theorem leadF_get (F : List (List Int)) (fr to : List Int) {i : Nat} (h : i < F.length) : (leadF F fr to)[i]'(by rw [leadF_len]; exact h) = if (i : Int) ∈ fr then join F[i] to else F[i] := by simp [leadF]
theorem lead_cat (F0 : List (List Int)) (a b : GA) : leadF (F0 ++ flw a F0.length ++ flw b (F0.length + a.n)) (lst a.n a.last F0.length) (lst b.n b.first (F0.length + a.n)) = F0 ++ flw (gCat a b) F0.length := by
  apply List.ext_getElem
  · rw [leadF_len]; simp only [List.length_append, flw_len]; simp only [gCat]; omega
  · intro i h1 h2
    rw [leadF_len] at h1
    rw [leadF_get _ _ _ h1]
    simp only [List.length_append, flw_len] at h1
    have hin : (i : Int) ∈ lst a.n a.last F0.length ↔ F0.length ≤ i ∧ i < F0.length + a.n ∧ a.last (i - F0.length) = true := by
      rw [lst_mem]
      constructor
      · rintro ⟨j, hj, hp, e⟩
        have : i = j + F0.length := by omega
        subst this
        exact ⟨by omega, by omega, by rw [Nat.add_sub_cancel]; exact hp⟩
      · rintro ⟨q1, q2, q3⟩
        exact ⟨i - F0.length, by omega, q3, by omega⟩
    rcases Nat.lt_or_ge i F0.length with hi | hi
    · rw [if_neg (by rw [hin]; omega), List.getElem_append_left (by simp only [List.length_append, flw_len]; omega), List.getElem_append_left hi, List.getElem_append_left hi]
    · have hr : (F0 ++ flw (gCat a b) F0.length)[i]'h2 = lst (a.n + b.n) ((gCat a b).follow (i - F0.length)) F0.length := by
        rw [List.getElem_append_right hi, flw_get _ _ (by show _ < a.n + b.n; omega)]; rfl
      rw [hr]
      rcases Nat.lt_or_ge i (F0.length + a.n) with hi2 | hi2
      · have hl : (F0 ++ flw a F0.length ++ flw b (F0.length + a.n))[i]'(by simp only [List.length_append, flw_len]; omega) = lst a.n (a.follow (i - F0.length)) F0.length := by
          rw [List.getElem_append_left (by simp only [List.length_append, flw_len]; omega), List.getElem_append_right hi, flw_get _ _ (by omega)]
        rw [hl]
        by_cases hla : a.last (i - F0.length) = true
        · rw [if_pos (hin.2 ⟨hi, hi2, hla⟩)]
          obtain ⟨j1, j2⟩ := join_spec (lst a.n (a.follow (i - F0.length)) F0.length) (lst b.n b.first (F0.length + a.n))
          refine lst_both j1 j2 (fun j hj => ?_) (fun j hj => ?_)
          · simp only [gCat, blk]; rw [if_pos (by omega), if_pos hj]
          · simp only [gCat, blk]; rw [if_pos (by omega), if_neg (by omega), hla, Nat.add_sub_cancel_left]; rfl
        · rw [if_neg (fun h => hla (hin.1 h).2.2)]
          have hla : a.last (i - F0.length) = false := by simpa using hla
          refine lst_left (fun j hj => ?_) (fun j h1 h2 => ?_)
          · simp only [gCat, blk]; rw [if_pos (by omega), if_pos hj]
          · simp only [gCat, blk]; rw [if_pos (by omega), if_neg (by omega), hla]; rfl
      · rw [if_neg (by rw [hin]; omega)]
        have hl : (F0 ++ flw a F0.length ++ flw b (F0.length + a.n))[i]'(by simp only [List.length_append, flw_len]; omega) = lst b.n (b.follow (i - (F0.length + a.n))) (F0.length + a.n) := by
          rw [List.getElem_append_right (by simp only [List.length_append, flw_len]; omega)]
          simp only [List.length_append, flw_len]
          rw [flw_get _ _ (by omega)]
        rw [hl]
        refine lst_right (fun j hj => ?_) (fun j hj => ?_)
        · simp only [gCat, blk]; rw [if_neg (by omega), if_pos hj]
        · simp only [gCat, blk]; rw [if_neg (by omega), if_neg (by omega), show i - F0.length - a.n = i - (F0.length + a.n) by omega, Nat.add_sub_cancel_left]
theorem lead_again (F0 : List (List Int)) (a : GA) : leadF (F0 ++ flw a F0.length) (lst a.n a.last F0.length) (lst a.n a.first F0.length) = F0 ++ flw (gAgain a) F0.length := by
  apply List.ext_getElem
  · rw [leadF_len]; simp only [List.length_append, flw_len]; rfl
  · intro i h1 h2
    rw [leadF_len] at h1
    rw [leadF_get _ _ _ h1]
    simp only [List.length_append, flw_len] at h1
    have hin : (i : Int) ∈ lst a.n a.last F0.length ↔ F0.length ≤ i ∧ i < F0.length + a.n ∧ a.last (i - F0.length) = true := by
      rw [lst_mem]
      constructor
      · rintro ⟨j, hj, hp, e⟩
        have : i = j + F0.length := by omega
        subst this
        exact ⟨by omega, by omega, by rw [Nat.add_sub_cancel]; exact hp⟩
      · rintro ⟨q1, q2, q3⟩
        exact ⟨i - F0.length, by omega, q3, by omega⟩
    rcases Nat.lt_or_ge i F0.length with hi | hi
    · rw [if_neg (by rw [hin]; omega), List.getElem_append_left hi, List.getElem_append_left hi]
    · have hr : (F0 ++ flw (gAgain a) F0.length)[i]'h2 = lst a.n ((gAgain a).follow (i - F0.length)) F0.length := by
        rw [List.getElem_append_right hi, flw_get _ _ (by show _ < a.n; omega)]; rfl
      have hl : (F0 ++ flw a F0.length)[i]'(by simp only [List.length_append, flw_len]; omega) = lst a.n (a.follow (i - F0.length)) F0.length := by
        rw [List.getElem_append_right hi, flw_get _ _ (by omega)]
      rw [hr, hl]
      by_cases hla : a.last (i - F0.length) = true
      · rw [if_pos (hin.2 ⟨hi, by omega, hla⟩)]
        obtain ⟨j1, j2⟩ := join_spec (lst a.n (a.follow (i - F0.length)) F0.length) (lst a.n a.first F0.length)
        refine ss_ext j1 (lst_ss _ _ _) fun x => ?_
        rw [j2, lst_mem, lst_mem, lst_mem]
        simp only [gAgain, hla, Bool.true_and, Bool.or_eq_true]
        constructor
        · rintro (⟨j, q1, q2, rfl⟩ | ⟨j, q1, q2, rfl⟩)
          · exact ⟨j, q1, .inl q2, rfl⟩
          · exact ⟨j, q1, .inr q2, rfl⟩
        · rintro ⟨j, q1, q2 | q2, rfl⟩
          · exact .inl ⟨j, q1, q2, rfl⟩
          · exact .inr ⟨j, q1, q2, rfl⟩
      · rw [if_neg (fun h => hla (hin.1 h).2.2)]
        have hla : a.last (i - F0.length) = false := by simpa using hla
        exact lst_congr fun j hj => by simp [gAgain, hla]
theorem flw_alt (a b : GA) (off : Nat) : flw a off ++ flw b (off + a.n) = flw (gAlt a b) off := by
  refine flw_ext (by simp [flw_len, gAlt]) fun i hi => ?_
  simp only [List.length_append, flw_len] at hi
  show _ = lst (a.n + b.n) _ off
  rcases Nat.lt_or_ge i a.n with h | h
  · rw [List.getElem_append_left (by rw [flw_len]; exact h), flw_get _ _ h]
    refine lst_left (fun j hj => ?_) (fun j h1 h2 => ?_)
    · simp only [gAlt, blk]; rw [if_pos h, if_pos hj]
    · simp only [gAlt, blk]; rw [if_pos h, if_neg (by omega)]
  · rw [List.getElem_append_right (by rw [flw_len]; exact h)]
    simp only [flw_len]
    rw [flw_get _ _ (by omega)]
    refine lst_right (fun j hj => ?_) (fun j hj => ?_)
    · simp only [gAlt, blk]; rw [if_neg (by omega), if_pos hj]
    · simp only [gAlt, blk]; rw [if_neg (by omega), if_neg (by omega), Nat.add_sub_cancel_left]
def pc (g : GA) (off : Nat) : place_piece := ⟨lst g.n g.first off, lst g.n g.last off, g.null⟩
theorem cat_first (a b : GA) (off : Nat) : (if a.null = true then join (lst a.n a.first off) (lst b.n b.first (off + a.n)) else lst a.n a.first off) = lst (a.n + b.n) (gCat a b).first off := by
  split
  · rename_i h
    obtain ⟨j1, j2⟩ := join_spec (lst a.n a.first off) (lst b.n b.first (off + a.n))
    exact lst_both j1 j2 (fun j hj => by simp only [gCat]; rw [if_pos hj]) (fun j hj => by simp only [gCat]; rw [if_neg (by omega), h, Nat.add_sub_cancel_left]; rfl)
  · rename_i h
    have h : a.null = false := by simpa using h
    exact lst_left (fun j hj => by simp only [gCat]; rw [if_pos hj]) (fun j h1 h2 => by simp only [gCat]; rw [if_neg (by omega), h]; rfl)
theorem cat_last (a b : GA) (off : Nat) : (if b.null = true then join (lst a.n a.last off) (lst b.n b.last (off + a.n)) else lst b.n b.last (off + a.n)) = lst (a.n + b.n) (gCat a b).last off := by
  split
  · rename_i h
    obtain ⟨j1, j2⟩ := join_spec (lst a.n a.last off) (lst b.n b.last (off + a.n))
    exact lst_both j1 j2 (fun j hj => by simp only [gCat]; rw [if_pos hj, h]; rfl) (fun j hj => by simp only [gCat]; rw [if_neg (by omega), Nat.add_sub_cancel_left])
  · rename_i h
    have h : b.null = false := by simpa using h
    exact lst_right (fun j hj => by simp only [gCat]; rw [if_pos hj, h]; rfl) (fun j hj => by simp only [gCat]; rw [if_neg (by omega), Nat.add_sub_cancel_left])
theorem alt_first (a b : GA) (off : Nat) : join (lst a.n a.first off) (lst b.n b.first (off + a.n)) = lst (a.n + b.n) (gAlt a b).first off := by
  obtain ⟨j1, j2⟩ := join_spec (lst a.n a.first off) (lst b.n b.first (off + a.n))
  exact lst_both j1 j2 (fun j hj => by simp only [gAlt]; rw [if_pos hj]) (fun j hj => by simp only [gAlt]; rw [if_neg (by omega), Nat.add_sub_cancel_left])
theorem alt_last (a b : GA) (off : Nat) : join (lst a.n a.last off) (lst b.n b.last (off + a.n)) = lst (a.n + b.n) (gAlt a b).last off := by
  obtain ⟨j1, j2⟩ := join_spec (lst a.n a.last off) (lst b.n b.last (off + a.n))
  exact lst_both j1 j2 (fun j hj => by simp only [gAlt]; rw [if_pos hj]) (fun j hj => by simp only [gAlt]; rw [if_neg (by omega), Nat.add_sub_cancel_left])
end Go.Ev.Pl

set_option linter.unusedSimpArgs false
set_option linter.unusedVariables false
namespace Go.Ev.Pl
open Go Go.Ev
theorem set_eq {α : Type} {l : List α} {i : Nat} {x : α} {m : List α} (hl : m.length = l.length) (h1 : ∀ (j : Nat) (h : j < l.length), j ≠ i → m[j]'(by omega) = l[j]) (h2 : ∀ h : i < l.length, m[i]'(by omega) = x) : l.set i x = m := by
  apply List.ext_getElem
  · simp [hl]
  · intro j a b
    rw [List.getElem_set]
    split
    · rename_i e; subst e; exact (h2 (by simpa using a)).symm
    · rename_i e; exact (h1 j (by simpa using a) (fun h => e h.symm)).symm
theorem flatten_take_succ {α : Type} {L : List (List α)} {i : Nat} (h : i < L.length) : (L.take (i + 1)).flatten = (L.take i).flatten ++ L[i] := by
  rw [List.take_succ_eq_append_getElem h, List.flatten_append]; simp
theorem flatten_take_le {α : Type} (L : List (List α)) (i : Nat) : (L.take i).flatten.length ≤ L.flatten.length := by
  conv => rhs; rw [← List.take_append_drop i L]
  rw [List.flatten_append, List.length_append]; omega
theorem concat_ok (L : List (List Int)) (hL : L.length < 1099511627776) (hT : L.flatten.length < 1000000000) : C_slices_Concat__int_int L L.flatten := by
  refine W_slices_Concat__int_int L _ ⟨fun s t => ∃ i : Nat, t = i ∧ i ≤ L.length ∧ s = (L.take i).flatten.length, fun s t => (L.length - t).toNat, ⟨0, rfl, by omega, by simp⟩, ?_⟩
  rintro s t ⟨i, rfl, hi, rfl⟩
  have hb := flatten_take_le L i
  refine ⟨fun ht => ?_, fun ht => ?_⟩
  · have ht : i < L.length := by simpa using ht
    have hs := congrArg List.length (flatten_take_succ ht)
    rw [List.length_append] at hs
    have hb2 := flatten_take_le L (i + 1)
    have hg : gd L (i : Int) = L[i] := gd_nat ht
    have hw1 : w64 (((L.take i).flatten.length : Int) + (gd L (i : Int)).length) = ((L.take (i + 1)).flatten.length : Int) := by
      rw [hg, hs]; exact (w64_id (by omega) (by omega)).trans (by omega)
    have hw2 : w64 ((i : Int) + 1) = ((i + 1 : Nat) : Int) := w64_id (by omega) (by omega)
    rw [hw1, hw2]
    exact ⟨True, fun _ => ⟨⟨i + 1, rfl, by omega, rfl⟩, by dsimp only; omega⟩, by omega, by omega, fun h => absurd (of_decide_eq_true h) (by omega), fun _ => trivial⟩
  · refine ⟨⟨by omega, by omega⟩, fun l t => ∃ i : Nat, t = i ∧ i ≤ L.length ∧ l = (L.take i).flatten, fun l t => (L.length - t).toNat, ⟨0, rfl, by omega, rfl⟩, ?_⟩
    rintro l t ⟨j, rfl, hj, rfl⟩
    have hb3 := flatten_take_le L j
    refine ⟨fun ht => ?_, fun ht => ?_⟩
    · have ht : j < L.length := by simpa using ht
      have hg : gd L (j : Int) = L[j] := gd_nat ht
      have hs := flatten_take_succ ht
      have hs2 := congrArg List.length hs
      rw [List.length_append] at hs2
      have hb2 := flatten_take_le L (j + 1)
      have hw2 : w64 ((j : Int) + 1) = ((j + 1 : Nat) : Int) := w64_id (by omega) (by omega)
      rw [hw2, hg]
      exact ⟨by omega, by omega, by omega, ⟨j + 1, rfl, by omega, hs.symm⟩, by dsimp only; omega⟩
    · have : j = L.length := by have : ¬ j < L.length := by simpa using ht
                                omega
      subst this
      rw [List.take_of_length_le (Nat.le_refl _)]
theorem join_ok (a b : List Int) (ha : a.length < 100000000) (hb : b.length < 100000000) : C_place_Join_int a b (join a b) := by
  have h := concat_ok [a, b] (by simp) (by simp; omega)
  have e : [a, b].flatten = a ++ b := by simp
  rw [e] at h
  exact W_place_Join_int a b _ ⟨_, h, by simp; omega, sort_len _, by rw [sort_len]; simp; omega, rfl⟩
theorem lead_ok (fr to : List Int) (b : place_builder) (hfr : SS fr) (hin : ∀ x ∈ fr, 0 ≤ x ∧ x < b.follow.length) (hto : to.length < 10000000) (hF : ∀ f ∈ b.follow, f.length < 10000000) (hlen : fr.length < 10000000) : C_place_builder_lead fr to b { sets := b.sets, follow := leadF b.follow fr to } := by
  refine W_place_builder_lead fr to b _ ⟨fun F t => ∃ i : Nat, t = i ∧ i ≤ fr.length ∧ F = leadF b.follow (fr.take i) to, fun F t => (fr.length - t).toNat, ⟨0, rfl, by omega, by simp [leadF]; exact (List.ext_getElem (by simp) (fun j h1 h2 => by simp))⟩, ?_⟩
  rintro F t ⟨i, rfl, hi, rfl⟩
  refine ⟨fun ht => ?_, fun ht => ?_⟩
  · have ht : i < fr.length := by simpa using ht
    have hg : gd fr (i : Int) = fr[i] := gd_nat ht
    rw [hg]
    obtain ⟨q0, q1⟩ := hin _ (List.getElem_mem ht)
    obtain ⟨e, he⟩ : ∃ e : Nat, fr[i] = e := ⟨fr[i].toNat, by omega⟩
    rw [he] at q1 ⊢
    have he2 : e < b.follow.length := by omega
    have hl : (leadF b.follow (fr.take i) to).length = b.follow.length := leadF_len _ _ _
    have hnot : ∀ j : Nat, (hj : j < b.follow.length) → j = e → ¬ ((j : Int) ∈ fr.take i) := by
      rintro j hj rfl hm
      obtain ⟨k, hk, hk2⟩ := List.mem_iff_getElem.1 hm
      simp only [List.length_take] at hk
      rw [List.getElem_take] at hk2
      have := List.pairwise_iff_getElem.1 hfr k i (by omega) ht (by omega)
      omega
    have hge : gd (leadF b.follow (fr.take i) to) (e : Int) = b.follow[e] := by
      rw [gd_nat (by rw [hl]; exact he2), leadF_get _ _ _ he2, if_neg (hnot e he2 rfl)]
    have hw2 : w64 ((i : Int) + 1) = ((i + 1 : Nat) : Int) := w64_id (by omega) (by omega)
    refine ⟨by omega, by omega, by omega, by rw [hl]; omega, by rw [hl]; omega, join b.follow[e] to, ?_, by omega, by rw [hl]; omega, by rw [hl]; omega, ?_⟩
    · rw [hge]; exact join_ok _ _ (by have := hF _ (List.getElem_mem he2); omega) (by omega)
    · rw [hw2]
      refine ⟨⟨i + 1, rfl, by omega, ?_⟩, by dsimp only; omega⟩
      show List.set _ e _ = _
      refine set_eq (by rw [leadF_len, leadF_len]) (fun j hj hne => ?_) (fun hj => ?_)
      · rw [hl] at hj
        rw [leadF_get _ _ _ hj, leadF_get _ _ _ hj, List.take_succ_eq_append_getElem ht, he]
        have : ((j : Int) ∈ fr.take i ++ [(e : Int)]) ↔ (j : Int) ∈ fr.take i := by
          rw [List.mem_append, List.mem_singleton]
          constructor
          · rintro (h | h)
            · exact h
            · exact absurd (by omega) hne
          · exact .inl
        simp only [this]
      · rw [leadF_get _ _ _ he2, List.take_succ_eq_append_getElem ht, he, if_pos (by simp)]
  · have : i = fr.length := by have : ¬ i < fr.length := by simpa using ht
                               omega
    subst this
    rw [List.take_of_length_le (Nat.le_refl _)]
theorem flw_small (g : GA) (off : Nat) (h : g.n < 10000000) : ∀ f ∈ flw g off, f.length < 10000000 := by
  intro f hf
  simp only [flw, List.mem_map, List.mem_range] at hf
  obtain ⟨i, _, rfl⟩ := hf
  have := lst_len g.n (g.follow i) off
  omega
theorem cat_ok (F0 : List (List Int)) (S : List arr4_uint64) (a b : GA) (hF : ∀ f ∈ F0, f.length < 10000000) (hab : a.n + b.n < 1000000) (hF2 : F0.length < 1000000) :
    C_place_builder_cat (pc a F0.length) (pc b (F0.length + a.n)) { sets := S, follow := F0 ++ flw a F0.length ++ flw b (F0.length + a.n) } (pc (gCat a b) F0.length) { sets := S, follow := F0 ++ flw (gCat a b) F0.length } := by
  have hla := lst_len a.n a.last F0.length
  have hlb := lst_len b.n b.first (F0.length + a.n)
  have hlb2 := lst_len b.n b.last (F0.length + a.n)
  have hla2 := lst_len a.n a.first F0.length
  have hlead := lead_ok (lst a.n a.last F0.length) (lst b.n b.first (F0.length + a.n)) { sets := S, follow := F0 ++ flw a F0.length ++ flw b (F0.length + a.n) } (lst_ss _ _ _) (fun x hx => by
    obtain ⟨i, hi, _, rfl⟩ := lst_mem.1 hx
    simp only [List.length_append, flw_len]; omega) (by omega) (fun f hf => by
    rcases List.mem_append.1 hf with hf | hf
    · rcases List.mem_append.1 hf with hf | hf
      · exact hF f hf
      · exact flw_small a _ (by omega) f hf
    · exact flw_small b _ (by omega) f hf) (by omega)
  simp only [lead_cat] at hlead
  refine W_place_builder_cat _ _ _ _ _ ⟨_, hlead, fun l => l = lst (a.n + b.n) (gCat a b).first F0.length, ?_, fun hn => ⟨_, join_ok _ _ (by show (lst _ _ _).length < _; omega) (by show (lst _ _ _).length < _; omega), ?_⟩, fun hn => ?_⟩
  · rintro l rfl
    refine ⟨fun l => l = lst (a.n + b.n) (gCat a b).last F0.length, ?_, fun hn => ⟨_, join_ok _ _ (by show (lst _ _ _).length < _; omega) (by show (lst _ _ _).length < _; omega), ?_⟩, fun hn => ?_⟩
    · rintro l rfl; exact ⟨rfl, rfl⟩
    · have := cat_last a b F0.length
      rw [if_pos (show b.null = true from hn)] at this; exact this
    · have := cat_last a b F0.length
      rw [if_neg (by show ¬ (b.null = true); have : b.null = false := hn; simp [this])] at this; exact this
  · have := cat_first a b F0.length
    rw [if_pos (show a.null = true from hn)] at this; exact this
  · have := cat_first a b F0.length
    rw [if_neg (by show ¬ (a.null = true); have : a.null = false := hn; simp [this])] at this; exact this
end Go.Ev.Pl

set_option linter.unusedSimpArgs false
set_option linter.unusedVariables false
namespace Go.Ev.Pl
open Go Go.Ev
def Rgt (x : api_Rx) : Prop := ∃ d, rgt x d = true
theorem rgt_own {x : api_Rx} (h : Rgt x) : ownB x = true ∧ ∀ k ∈ x.Kids, Rgt k := by
  obtain ⟨d, h⟩ := h
  rw [rgt_eq] at h
  simp only [Bool.and_eq_true, List.all_eq_true] at h
  exact ⟨h.1.2, fun k hk => ⟨d - 1, (h.2 k hk).2⟩⟩
theorem own_rep {x : api_Rx} (h : ownB x = true) (h5 : x.Kind = 5) : (∃ k, x.Kids = [k]) ∧ 0 ≤ x.Lo ∧ x.Lo ≤ 20 ∧ (x.Hi = -1 ∨ 1 ≤ x.Hi ∧ x.Lo ≤ x.Hi ∧ x.Hi ≤ 20) := by
  simp only [ownB, if_pos h5, timesB, Bool.and_eq_true, decide_eq_true_eq, Bool.or_eq_true, beq_iff_eq] at h
  obtain ⟨_, h1, h2, h3, h4⟩ := h
  refine ⟨?_, h2, h3, ?_⟩
  · match hq : x.Kids, h1 with
    | [k], _ => exact ⟨k, rfl⟩
  · rcases h4 with h4 | ⟨h4, h5⟩
    · exact .inl h4
    · exact .inr (by omega)
theorem own_kids {x : api_Rx} (h : ownB x = true) (h34 : x.Kind = 3 ∨ x.Kind = 4) : 2 ≤ x.Kids.length := by
  simp only [ownB] at h
  rw [if_neg (by omega), if_neg (by omega), if_neg (by omega), if_pos h34] at h
  simp only [Bool.and_eq_true, decide_eq_true_eq] at h
  exact h.2.2
theorem own_kind {x : api_Rx} (h : ownB x = true) : x.Kind = 1 ∨ x.Kind = 2 ∨ x.Kind = 3 ∨ x.Kind = 4 ∨ x.Kind = 5 := by
  simp only [ownB] at h
  split at h
  · omega
  · split at h
    · omega
    · split at h
      · omega
      · split at h
        · omega
        · cases h
theorem iter_n {f : GA → GA} {a : GA} (hf : ∀ o, (f o).n = a.n + o.n) : ∀ k z, (iter f k z).n = k * a.n + z.n
  | 0, z => by simp [iter]
  | k + 1, z => by rw [iter, hf, iter_n hf k, Nat.succ_mul]; omega
def cpS (a : GA) (k : Nat) : List arr4_uint64 := (List.replicate k a.sets).flatten
theorem iter_sets {f : GA → GA} {a : GA} (hf : ∀ o, (f o).sets = a.sets ++ o.sets) : ∀ k z, (iter f k z).sets = cpS a k ++ z.sets
  | 0, z => by simp [iter, cpS]
  | k + 1, z => by rw [iter, hf, iter_sets hf k]; simp [cpS, List.replicate_succ]
theorem iter_null (a : GA) : ∀ k z, (iter (gCat a) k z).null = (z.null && (decide (k = 0) || a.null))
  | 0, z => by simp [iter]
  | k + 1, z => by
    rw [iter]
    show (a.null && (iter (gCat a) k z).null) = _
    rw [iter_null a k z]
    cases a.null <;> cases z.null <;> simp
theorem rep_n (a : GA) {lo hi : Int} (h1 : 0 ≤ lo) (h2 : hi = -1 ∨ 1 ≤ hi ∧ lo ≤ hi) : (gRep a lo hi).n = (max 1 (max lo hi)).toNat * a.n := by
  unfold gRep
  split
  · rw [iter_n (f := gCat a) (a := a) (fun _ => rfl)]
    have : (if lo = 0 then gMaybe (gAgain a) else gAgain a).n = a.n := by split <;> rfl
    rw [this, ← Nat.succ_mul]
    congr 1
    omega
  · rw [iter_n (f := gCat a) (a := a) (fun _ => rfl), iter_n (f := fun o => gMaybe (gCat a o)) (a := a) (fun _ => rfl)]
    show _ + (_ + 0) = _
    rw [Nat.add_zero, ← Nat.add_mul]
    congr 1
    omega
theorem rep_sets (a : GA) {lo hi : Int} (h1 : 0 ≤ lo) (h2 : hi = -1 ∨ 1 ≤ hi ∧ lo ≤ hi) : (gRep a lo hi).sets = cpS a (max 1 (max lo hi)).toNat := by
  have key : ∀ j k, cpS a j ++ cpS a k = cpS a (j + k) := fun j k => by
    simp only [cpS]; rw [← List.flatten_append, List.replicate_append_replicate]
  unfold gRep
  split
  · rw [iter_sets (f := gCat a) (a := a) (fun _ => rfl)]
    have : (if lo = 0 then gMaybe (gAgain a) else gAgain a).sets = cpS a 1 := by split <;> simp [cpS, gMaybe, gAgain]
    rw [this, key]
    congr 1
    omega
  · rw [iter_sets (f := gCat a) (a := a) (fun _ => rfl), iter_sets (f := fun o => gMaybe (gCat a o)) (a := a) (fun _ => rfl)]
    show _ ++ (_ ++ []) = _
    rw [List.append_nil, key]
    congr 1
    omega
theorem rep_null (a : GA) {lo hi : Int} (h1 : 0 ≤ lo) (h2 : hi = -1 ∨ 1 ≤ hi ∧ lo ≤ hi) : (gRep a lo hi).null = (decide (lo ≤ 0) || a.null) := by
  unfold gRep
  split
  · rw [iter_null]
    by_cases h : lo = 0
    · subst h; simp [gMaybe, gAgain]; left; rfl
    · have : ¬ lo ≤ 0 := by omega
      simp only [if_neg h, gAgain, this, decide_false, Bool.false_or]
      cases a.null <;> simp
  · rw [iter_null]
    have hin : ∀ k, (iter (fun o => gMaybe (gCat a o)) k gEmpty).null = true := by
      intro k; cases k <;> rfl
    rw [hin, Bool.true_and]
    congr 1
    simp only [decide_eq_decide]; omega
theorem foldl_n {f : GA → GA → GA} (hf : ∀ a b, (f a b).n = a.n + b.n) : ∀ (l : List api_Rx) (z : GA), (l.foldl (fun o y => f o (gof y)) z).n = z.n + (l.map fun y => (gof y).n).sum
  | [], z => by simp
  | y :: r, z => by rw [List.foldl_cons, foldl_n hf r, hf]; simp; omega
theorem gof_n : ∀ x, Rgt x → (gof x).n = sizeN x := by
  refine rxInd fun x ih hr => ?_
  obtain ⟨ho, hk⟩ := rgt_own hr
  have hkn : (x.Kids.map fun y => (gof y).n) = x.Kids.map sizeN := List.map_congr_left fun y hy => ih y hy (hk y hy)
  rw [gof_eq, sizeN_eq]
  rcases own_kind ho with h | h | h | h | h
  · simp [h, gEmpty]
  · simp [h, gByte]
  · simp only [h]
    simp only [show ¬ ((3 : Int) = 2) by omega, if_false, if_true, show (3 : Int) ≤ 3 ∧ (3 : Int) ≤ 5 from ⟨by omega, by omega⟩, show ¬ ((3 : Int) = 5) by omega]
    rw [foldl_n (f := gCat) (fun _ _ => rfl), hkn]
    show 0 + _ = _; simp
  · simp only [h]
    simp only [show ¬ ((4 : Int) = 2) by omega, show ¬ ((4 : Int) = 3) by omega, if_false, if_true, show (3 : Int) ≤ 4 ∧ (4 : Int) ≤ 5 from ⟨by omega, by omega⟩, show ¬ ((4 : Int) = 5) by omega]
    rw [foldl_n (f := gAlt) (fun _ _ => rfl), hkn]
    show 0 + _ = _; simp
  · obtain ⟨⟨k, hq⟩, h1, h2, h3⟩ := own_rep ho h
    simp only [h]
    simp only [show ¬ ((5 : Int) = 2) by omega, show ¬ ((5 : Int) = 3) by omega, show ¬ ((5 : Int) = 4) by omega, if_false, if_true, show (3 : Int) ≤ 5 ∧ (5 : Int) ≤ 5 from ⟨by omega, by omega⟩]
    rw [hq]
    simp only [List.map_cons, List.map_nil, List.headD_cons, List.sum_cons, List.sum_nil, Nat.add_zero]
    rw [rep_n _ h1 (by omega), ih k (by rw [hq]; simp) (hk k (by rw [hq]; simp)), Nat.mul_comm]
    congr 1
    simp only [timesN]; omega
theorem foldl_null_cat : ∀ (l : List api_Rx) (z : GA), (l.foldl (fun o y => gCat o (gof y)) z).null = (z.null && l.all fun y => (gof y).null)
  | [], z => by simp
  | y :: r, z => by rw [List.foldl_cons, foldl_null_cat r]; simp [gCat, Bool.and_assoc]
theorem foldl_null_alt : ∀ (l : List api_Rx) (z : GA), (l.foldl (fun o y => gAlt o (gof y)) z).null = (z.null || l.any fun y => (gof y).null)
  | [], z => by simp
  | y :: r, z => by rw [List.foldl_cons, foldl_null_alt r]; simp [gAlt, Bool.or_assoc]
theorem all_congr' {l : List api_Rx} {p q : api_Rx → Bool} (h : ∀ y ∈ l, p y = q y) : l.all p = l.all q := by
  induction l with
  | nil => rfl
  | cons y r ih => simp only [List.all_cons]; rw [h y (List.mem_cons_self ..), ih fun z hz => h z (List.mem_cons_of_mem _ hz)]
theorem any_congr' {l : List api_Rx} {p q : api_Rx → Bool} (h : ∀ y ∈ l, p y = q y) : l.any p = l.any q := by
  induction l with
  | nil => rfl
  | cons y r ih => simp only [List.any_cons]; rw [h y (List.mem_cons_self ..), ih fun z hz => h z (List.mem_cons_of_mem _ hz)]
theorem gof_null : ∀ x, Rgt x → (gof x).null = nullB x := by
  refine rxInd fun x ih hr => ?_
  obtain ⟨ho, hk⟩ := rgt_own hr
  rw [gof_eq, nullB_eq]
  rcases own_kind ho with h | h | h | h | h
  · simp [h, gEmpty]
  · simp [h, gByte]
  · simp only [h]
    simp only [show ¬ ((3 : Int) = 2) by omega, show ¬ ((3 : Int) = 1) by omega, if_false, if_true]
    rw [foldl_null_cat, all_congr' fun y hy => ih y hy (hk y hy)]; rfl
  · simp only [h]
    simp only [show ¬ ((4 : Int) = 2) by omega, show ¬ ((4 : Int) = 3) by omega, show ¬ ((4 : Int) = 1) by omega, if_false, if_true]
    rw [foldl_null_alt, any_congr' fun y hy => ih y hy (hk y hy)]; rfl
  · obtain ⟨⟨k, hq⟩, h1, h2, h3⟩ := own_rep ho h
    simp only [h]
    simp only [show ¬ ((5 : Int) = 2) by omega, show ¬ ((5 : Int) = 3) by omega, show ¬ ((5 : Int) = 4) by omega, show ¬ ((5 : Int) = 1) by omega, if_false, if_true]
    rw [hq]
    simp only [List.map_cons, List.map_nil, List.headD_cons, List.all_cons, List.all_nil, Bool.and_true]
    rw [rep_null _ h1 (by omega), ih k (by rw [hq]; simp) (hk k (by rw [hq]; simp))]
theorem zero_null : ∀ x, Rgt x → sizeN x = 0 → nullB x = true := by
  refine rxInd fun x ih hr h0 => ?_
  obtain ⟨ho, hk⟩ := rgt_own hr
  rw [sizeN_eq] at h0
  rw [nullB_eq]
  have hsum : (x.Kids.map sizeN).sum = 0 → ∀ y ∈ x.Kids, nullB y = true := fun h y hy => ih y hy (hk y hy) (by
    have := List.sum_eq_zero_iff_forall_eq_nat.1 h (sizeN y) (List.mem_map.2 ⟨y, hy, rfl⟩); exact this)
  rcases own_kind ho with h | h | h | h | h
  · simp [h]
  · simp [h] at h0
  · simp only [h] at h0 ⊢
    simp at h0
    simp only [show ¬ ((3 : Int) = 1) by omega, if_false, if_true, List.all_eq_true]
    exact hsum h0
  · simp only [h] at h0 ⊢
    simp at h0
    have h2 := own_kids ho (.inr h)
    simp only [show ¬ ((4 : Int) = 1) by omega, show ¬ ((4 : Int) = 3) by omega, if_false, if_true]
    have hm : x.Kids[0]'(by omega) ∈ x.Kids := List.getElem_mem _
    exact List.any_eq_true.2 ⟨_, hm, hsum h0 _ hm⟩
  · obtain ⟨⟨k, hq⟩, h1, h2, h3⟩ := own_rep ho h
    simp only [h] at h0 ⊢
    simp only [show ¬ ((5 : Int) = 2) by omega, if_false, if_true, show (3 : Int) ≤ 5 ∧ (5 : Int) ≤ 5 from ⟨by omega, by omega⟩] at h0
    have ht : 1 ≤ timesN x := by simp only [timesN]; omega
    have hs : (x.Kids.map sizeN).sum = 0 := by
      rcases Nat.mul_eq_zero.1 h0 with h | h
      · exact h
      · omega
    simp only [show ¬ ((5 : Int) = 3) by omega, show ¬ ((5 : Int) = 4) by omega, show ¬ ((5 : Int) = 1) by omega, if_false, if_true]
    have : x.Kids.all nullB = true := List.all_eq_true.2 (hsum hs)
    rw [this]; simp
theorem gof_zero {x : api_Rx} (hr : Rgt x) (h0 : sizeN x = 0) : gof x = gEmpty :=
  canon_zero (canon_gof x) ((gof_n x hr).trans h0) ((gof_null x hr).trans (zero_null x hr h0))
end Go.Ev.Pl

set_option linter.unusedSimpArgs false
set_option linter.unusedVariables false
namespace Go.Ev.Pl
open Go Go.Ev
def hF (h : Nat → GA) (m n : Nat) : Nat → List (List Int)
  | 0 => []
  | N + 1 => hF h m n N ++ flw (h N) (m + N * n)
theorem hF_len {h : Nat → GA} {m n : Nat} (hn : ∀ j, (h j).n = n) : ∀ N, (hF h m n N).length = N * n
  | 0 => by simp [hF]
  | N + 1 => by rw [hF, List.length_append, hF_len hn N, flw_len, hn, Nat.succ_mul]
theorem hF_congr {h h' : Nat → GA} {m n : Nat} : ∀ N, (∀ j, j < N → h j = h' j) → hF h m n N = hF h' m n N
  | 0, _ => rfl
  | N + 1, e => by rw [hF, hF, hF_congr N (fun j hj => e j (by omega)), e N (by omega)]
theorem hF_small {h : Nat → GA} {m n : Nat} (hs : ∀ j, (h j).n < 10000000) : ∀ N, ∀ f ∈ hF h m n N, f.length < 10000000
  | 0, f, hf => by simp [hF] at hf
  | N + 1, f, hf => by
    rw [hF, List.mem_append] at hf
    rcases hf with hf | hf
    · exact hF_small hs N f hf
    · exact flw_small _ _ (hs N) f hf
theorem cpS_succ (a : GA) (k : Nat) : cpS a (k + 1) = cpS a k ++ a.sets := by
  simp only [cpS, List.replicate_succ', List.flatten_append]; simp
structure Room (F0 : List (List Int)) (S : List arr4_uint64) (n : Nat) : Prop where
  same : S.length = F0.length
  small : ∀ f ∈ F0, f.length < 10000000
  room : F0.length + n < 1000000
def PieceOk (x : api_Rx) : Prop := ∀ F0 S, Room F0 S (gof x).n → C_place_builder_piece x { sets := S, follow := F0 } (pc (gof x) F0.length) { sets := S ++ (gof x).sets, follow := F0 ++ flw (gof x) F0.length }
theorem copies_ok {k : api_Rx} (hp : PieceOk k) (N : Nat) (hN : N ≤ 1000) (F0 : List (List Int)) (S : List arr4_uint64) (hr : Room F0 S (N * (gof k).n)) :
    C_place_builder_copies k N { sets := S, follow := F0 } ((List.range N).map fun i => pc (gof k) (F0.length + i * (gof k).n)) { sets := S ++ cpS (gof k) N, follow := F0 ++ hF (fun _ => gof k) F0.length (gof k).n N } := by
  have hc := canon_gof k
  refine W_place_builder_copies k N _ _ _ ⟨fun s f o t => ∃ i : Nat, t = i ∧ i ≤ N ∧ s = S ++ cpS (gof k) i ∧ f = F0 ++ hF (fun _ => gof k) F0.length (gof k).n i ∧ o = (List.range i).map fun i => pc (gof k) (F0.length + i * (gof k).n),
    fun _ _ _ t => (N - t).toNat, ⟨0, rfl, by omega, by simp [cpS], by simp [hF], rfl⟩, ?_⟩
  rintro s f o t ⟨i, rfl, hi, rfl, rfl, rfl⟩
  refine ⟨fun ht => ?_, fun ht => ?_⟩
  · have ht : i < N := by simpa using ht
    have hle : (i + 1) * (gof k).n ≤ N * (gof k).n := Nat.mul_le_mul_right _ ht
    rw [Nat.add_mul, Nat.one_mul] at hle
    have hlen : (F0 ++ hF (fun _ => gof k) F0.length (gof k).n i).length = F0.length + i * (gof k).n := by rw [List.length_append, hF_len fun _ => rfl]
    have hroom := hr.room
    have hsl : ∀ j, (cpS (gof k) j).length = j * (gof k).n := fun j => by simp [cpS, hc.sets]
    have := hp (F0 ++ hF (fun _ => gof k) F0.length (gof k).n i) (S ++ cpS (gof k) i) ⟨by rw [hlen, List.length_append, hr.same, hsl], fun f hf => by
      rcases List.mem_append.1 hf with hf | hf
      · exact hr.small f hf
      · exact hF_small (fun _ => by omega) i f hf, by rw [hlen]; omega⟩
    rw [hlen, List.append_assoc, List.append_assoc, ← cpS_succ] at this
    have hw2 : w64 ((i : Int) + 1) = ((i + 1 : Nat) : Int) := w64_id (by omega) (by omega)
    refine ⟨_, _, this, by simp; omega, ?_⟩
    rw [hw2]
    exact ⟨⟨i + 1, rfl, by omega, rfl, rfl, by rw [List.range_succ, List.map_append]; rfl⟩, by dsimp only; omega⟩
  · have : i = N := by have : ¬ i < N := by simpa using ht
                       omega
    subst this
    exact ⟨rfl, rfl⟩
def fromEnd (h : Nat → GA) (mb : Nat → Bool) (N : Nat) : Nat → GA
  | 0 => gEmpty
  | i + 1 => let o := gCat (h (N - 1 - i)) (fromEnd h mb N i); if mb (N - 1 - i) = true then gMaybe o else o
theorem fromEnd_n {h : Nat → GA} {mb : Nat → Bool} {N n : Nat} (hn : ∀ j, (h j).n = n) : ∀ i, (fromEnd h mb N i).n = i * n
  | 0 => by simp [fromEnd, gEmpty]
  | i + 1 => by
    simp only [fromEnd]
    have : (gCat (h (N - 1 - i)) (fromEnd h mb N i)).n = (i + 1) * n := by
      show (h (N - 1 - i)).n + (fromEnd h mb N i).n = _
      rw [hn, fromEnd_n hn i, Nat.succ_mul]; omega
    split
    · exact this
    · exact this
theorem rep_loop {x : api_Rx} {h : Nat → GA} {N n : Nat} {F0 : List (List Int)} {S S' : List arr4_uint64} (hn : ∀ j, (h j).n = n) (hr : Room F0 S (N * n)) (hN : N ≤ 1000) {l : List place_piece} (hl : l = (List.range N).map fun j => pc (h j) (F0.length + j * n))
    {res : place_piece} {fin : place_builder} (hres : res = pc (fromEnd h (fun j => decide (x.Hi ≥ 0) && decide ((j : Int) ≥ x.Lo)) N N) F0.length)
    (hfin : fin = { sets := S', follow := F0 ++ flw (fromEnd h (fun j => decide (x.Hi ≥ 0) && decide ((j : Int) ≥ x.Lo)) N N) F0.length }) :
    (List.length l < 1099511627776 ∧ ∃ (Inv24 : Nat → List arr4_uint64 → List (List Int) → List Int → List Int → Bool → Prop), Inv24 0 S' (F0 ++ hF h F0.length n N) [] [] Bool.true ∧
      (∀ (i : Nat) (y : place_piece), i < List.length l → l[List.length l - 1 - i]? = some y → ∀ (s : List arr4_uint64) (f : List (List Int)) (o1 o2 : List Int) (o3 : Bool), Inv24 i s f o1 o2 o3 →
        (∃ r0_6 : place_piece, ∃ o_4 : place_builder, C_place_builder_cat y { first := o1, last := o2, null := o3 } { sets := s, follow := f } r0_6 o_4 ∧
          (((decide (x.Hi ≥ 0) && decide ((List.length l : Int) - 1 - i ≥ x.Lo)) = true → (∃ r0_7 : place_piece, C_place_maybe r0_6 r0_7 ∧ Inv24 (i + 1) o_4.sets o_4.follow r0_7.first r0_7.last r0_7.null)) ∧
            ((decide (x.Hi ≥ 0) && decide ((List.length l : Int) - 1 - i ≥ x.Lo)) = false → Inv24 (i + 1) o_4.sets o_4.follow r0_6.first r0_6.last r0_6.null)))) ∧
      (∀ (s : List arr4_uint64) (f : List (List Int)) (o1 o2 : List Int) (o3 : Bool), Inv24 (List.length l) s f o1 o2 o3 → (res = { first := o1, last := o2, null := o3 } ∧ fin = { sets := s, follow := f }))) := by
  have hll : l.length = N := by rw [hl]; simp
  obtain ⟨mb, hmb⟩ : ∃ mb : Nat → Bool, mb = fun j : Nat => decide (x.Hi ≥ 0) && decide ((j : Int) ≥ x.Lo) := ⟨_, rfl⟩
  rw [← hmb] at hres hfin
  have hroom := hr.room
  rw [hll]
  refine ⟨by omega, fun i s f o1 o2 o3 => i ≤ N ∧ s = S' ∧ f = F0 ++ hF h F0.length n (N - i) ++ flw (fromEnd h mb N i) (F0.length + (N - i) * n) ∧ (⟨o1, o2, o3⟩ : place_piece) = pc (fromEnd h mb N i) (F0.length + (N - i) * n), ⟨by omega, rfl, by simp [fromEnd, flw, gEmpty], rfl⟩, ?_, ?_⟩
  · rintro i y hi hy s f o1 o2 o3 ⟨_, rfl, rfl, hp⟩
    have hy : y = pc (h (N - 1 - i)) (F0.length + (N - 1 - i) * n) := by
      rw [hl, List.getElem?_map, List.getElem?_range (by omega)] at hy
      simpa using hy.symm
    have e1 : N - i = (N - 1 - i) + 1 := by omega
    have hlen : (F0 ++ hF h F0.length n (N - 1 - i)).length = F0.length + (N - 1 - i) * n := by rw [List.length_append, hF_len hn]
    have hmul : (N - 1 - i) * n + (n + i * n) = N * n := by
      have : N = (N - 1 - i) + (1 + i) := by omega
      conv => rhs; rw [this, Nat.add_mul, Nat.add_mul, Nat.one_mul]
    have hcat := cat_ok (F0 ++ hF h F0.length n (N - 1 - i)) s (h (N - 1 - i)) (fromEnd h mb N i) (fun f hf => by
      rcases List.mem_append.1 hf with hf | hf
      · exact hr.small f hf
      · exact hF_small (fun j => by have := hn j; omega) _ f hf) (by rw [hn, fromEnd_n hn]; omega) (by rw [hlen]; omega)
    rw [hlen, hn] at hcat
    have hpos : F0.length + (N - 1 - i) * n + n = F0.length + (N - i) * n := by rw [e1, Nat.succ_mul]; omega
    rw [hpos] at hcat
    have hfl : F0 ++ hF h F0.length n (N - i) = F0 ++ hF h F0.length n (N - 1 - i) ++ flw (h (N - 1 - i)) (F0.length + (N - 1 - i) * n) := by
      rw [e1, hF, List.append_assoc]
    rw [hfl, hp, hy]
    refine ⟨_, _, hcat, fun hm => ⟨_, W_place_maybe _ _ rfl, ?_⟩, fun hm => ?_⟩
    all_goals have hidx : ((N : Int) - 1 - i) = ((N - 1 - i : Nat) : Int) := by omega
    all_goals rw [hidx] at hm
    all_goals have e2 : N - (i + 1) = N - 1 - i := by omega
    · have hf : fromEnd h mb N (i + 1) = gMaybe (gCat (h (N - 1 - i)) (fromEnd h mb N i)) := by
        simp only [fromEnd]; rw [if_pos]; rw [hmb]; exact hm
      dsimp only; rw [hf, e2]
      exact ⟨by omega, rfl, rfl, rfl⟩
    · have hf : fromEnd h mb N (i + 1) = gCat (h (N - 1 - i)) (fromEnd h mb N i) := by
        simp only [fromEnd]; rw [if_neg]; rw [hmb]; simpa using hm
      dsimp only; rw [hf, e2]
      exact ⟨by omega, rfl, rfl, rfl⟩
  · rintro s f o1 o2 o3 ⟨_, rfl, rfl, hp⟩
    rw [Nat.sub_self, Nat.zero_mul, Nat.add_zero] at hp
    refine ⟨by rw [hres, hp], ?_⟩
    rw [hfin]
    simp [hF]
end Go.Ev.Pl

set_option linter.unusedSimpArgs false
set_option linter.unusedVariables false
namespace Go.Ev.Pl
open Go Go.Ev
theorem fromEnd_neg {g z : GA} {h : Nat → GA} {mb : Nat → Bool} {N : Nat} (hz : Canon z) (hN : 1 ≤ N) (hh : ∀ j, j < N - 1 → h j = g) (hl : h (N - 1) = z) (hm : ∀ j, mb j = false) : ∀ i, i < N → fromEnd h mb N (i + 1) = iter (gCat g) i z
  | 0, hi => by
    simp only [fromEnd, hm]
    rw [if_neg (by simp), Nat.sub_zero, hl, cat_empty_r hz]; rfl
  | i + 1, hi => by
    have ih := fromEnd_neg hz hN hh hl hm i (by omega)
    rw [fromEnd]
    simp only [hm]
    rw [if_neg (by simp), ih, hh _ (by omega)]; rfl
theorem fromEnd_pos {g : GA} {h : Nat → GA} {mb : Nat → Bool} {N L : Nat} (hL : L ≤ N) (hh : ∀ j, h j = g) (hm : ∀ j, j < N → mb j = decide (L ≤ j)) : ∀ i, i ≤ N →
    fromEnd h mb N i = iter (gCat g) (i - (N - L)) (iter (fun o => gMaybe (gCat g o)) (min i (N - L)) gEmpty)
  | 0, _ => by simp [fromEnd, iter]
  | i + 1, hi => by
    have ih := fromEnd_pos hL hh hm i (by omega)
    rw [fromEnd]
    simp only [hh, ih]
    rw [hm _ (by omega)]
    by_cases hc : L ≤ N - 1 - i
    · rw [if_pos (by simpa using hc), show i - (N - L) = 0 by omega, show i + 1 - (N - L) = 0 by omega, show min i (N - L) = i by omega, show min (i + 1) (N - L) = i + 1 by omega]; rfl
    · rw [if_neg (by simpa using hc), show i + 1 - (N - L) = (i - (N - L)) + 1 by omega, show min i (N - L) = N - L by omega, show min (i + 1) (N - L) = N - L by omega]; rfl
theorem flw_again (g : GA) (b : Prop) [Decidable b] (off : Nat) : flw (if b then gMaybe (gAgain g) else gAgain g) off = flw (gAgain g) off := by split <;> rfl
theorem map_range_set {α : Type} {f : Nat → α} {N i : Nat} {v : α} (h : i < N) : ((List.range N).map f).set i v = (List.range N).map fun j => if j = i then v else f j := by
  refine set_eq (by simp) (fun j hj hne => ?_) (fun hj => ?_)
  · simp only [List.getElem_map, List.getElem_range]; rw [if_neg hne]
  · simp only [List.getElem_map, List.getElem_range, if_true]
theorem rep_ok {x : api_Rx} (hr : Rgt x) (h5 : x.Kind = 5) (hw : Wf x) (hp : ∀ k ∈ x.Kids, PieceOk k) (F0 : List (List Int)) (S : List arr4_uint64) (hroom : Room F0 S (gof x).n) :
    C_place_builder_rep x { sets := S, follow := F0 } (pc (gof x) F0.length) { sets := S ++ (gof x).sets, follow := F0 ++ flw (gof x) F0.length } := by
  obtain ⟨ho, hk⟩ := rgt_own hr
  obtain ⟨⟨k, hq⟩, h1, h2, h3⟩ := own_rep ho h5
  have hkm : k ∈ x.Kids := by rw [hq]; simp
  have hgn := gof_n x hr
  have hgof : gof x = gRep (gof k) x.Lo x.Hi := by
    rw [gof_eq, h5, hq]; simp
  refine W_place_builder_rep x _ _ _ ⟨_, rxSize_ok x hw, fun h0 => ?_, fun h0 => ?_⟩
  · have h0 : sizeN x = 0 := by
      have : sizeZ x = 0 := by simpa using h0
      simp only [sizeZ] at this; omega
    rw [gof_zero hr h0]
    exact ⟨rfl, by simp [gEmpty, flw]⟩
  obtain ⟨N, hN⟩ : ∃ N : Nat, N = (max 1 (max x.Lo x.Hi)).toNat := ⟨_, rfl⟩
  have hN1 : 1 ≤ N := by omega
  have hN2 : N ≤ 20 := by omega
  have hNi : (N : Int) = max 1 (max x.Lo x.Hi) := by omega
  have hn : (gof x).n = N * (gof k).n := by rw [hgof, rep_n _ h1 (by omega), hN]
  have hs : (gof x).sets = cpS (gof k) N := by rw [hgof, rep_sets _ h1 (by omega), hN]
  have hroom2 : Room F0 S (N * (gof k).n) := by rw [← hn]; exact hroom
  have hcp := copies_ok (hp k hkm) N (by omega) F0 S hroom2
  have hlen2 : F0.length + N * (gof k).n < 1000000 := hroom2.room
  have hcnt : (if (1 : Int) > if x.Hi > x.Lo then x.Hi else x.Lo then (1 : Int) else if x.Hi > x.Lo then x.Hi else x.Lo) = (N : Int) := by rw [hNi]; split <;> omega
  rw [hcnt, hq]
  simp only [List.length_cons, List.length_nil, List.getD_cons_zero]
  refine ⟨by omega, _, _, hcp, ?_⟩
  rw [← hs]
  by_cases hneg : x.Hi < 0
  · -- from some times on
    obtain ⟨z, hz⟩ : ∃ z : GA, z = if x.Lo = 0 then gMaybe (gAgain (gof k)) else gAgain (gof k) := ⟨_, rfl⟩
    have hzc : Canon z := by rw [hz]; split; exact canon_maybe (canon_again (canon_gof k)); exact canon_again (canon_gof k)
    have hzn : z.n = (gof k).n := by rw [hz]; split <;> rfl
    obtain ⟨h, hh⟩ : ∃ h : Nat → GA, h = fun j => if j = N - 1 then z else gof k := ⟨_, rfl⟩
    have hhn : ∀ j, (h j).n = (gof k).n := fun j => by rw [hh]; dsimp only; split; exact hzn; rfl
    have hfe : fromEnd h (fun j : Nat => decide (x.Hi ≥ 0) && decide ((j : Int) ≥ x.Lo)) N N = gof x := by
      have := fromEnd_neg (mb := fun j : Nat => decide (x.Hi ≥ 0) && decide ((j : Int) ≥ x.Lo)) hzc hN1 (h := h) (g := gof k) (fun j hj => by rw [hh]; dsimp only; rw [if_neg (by omega)]) (by rw [hh]; simp) (fun j => by simp; omega) (N - 1) (by omega)
      rw [show N - 1 + 1 = N by omega] at this
      rw [this, hgof]
      unfold gRep
      rw [if_pos hneg, ← hz]
      congr 1; omega
    obtain ⟨N1, rfl⟩ : ∃ N1, N = N1 + 1 := ⟨N - 1, by omega⟩
    have hF1 : hF h F0.length (gof k).n (N1 + 1) = hF (fun _ => gof k) F0.length (gof k).n N1 ++ flw (gAgain (gof k)) (F0.length + N1 * (gof k).n) := by
      rw [hF, hF_congr N1 (h' := fun _ => gof k) (fun j hj => by rw [hh]; dsimp only; rw [if_neg (by omega)])]
      congr 1
      rw [hh]; dsimp only; rw [if_pos (by omega), hz, flw_again]
    refine ⟨fun s f l => s = S ++ (gof x).sets ∧ f = F0 ++ hF h F0.length (gof k).n (N1 + 1) ∧ l = (List.range (N1 + 1)).map fun j => pc (h j) (F0.length + j * (gof k).n), ?_, fun _ => ?_, fun hc => absurd (of_decide_eq_false hc) (by omega)⟩
    · rintro s f l ⟨rfl, rfl, hl⟩
      exact ⟨backward_60 l, rep_loop (x := x) (h := h) (N := N1 + 1) (S := S) hhn hroom2 (by omega) hl (by rw [hfe]) (by rw [hfe])⟩
    · have hwl : w64 ((((List.range (N1 + 1)).map fun i => pc (gof k) (F0.length + i * (gof k).n)).length : Int) - 1) = (N1 : Int) := by
        rw [List.length_map, List.length_range]; exact (w64_id (by omega) (by omega)).trans (by omega)
      have hgl : gd ((List.range (N1 + 1)).map fun i => pc (gof k) (F0.length + i * (gof k).n)) (N1 : Int) = pc (gof k) (F0.length + N1 * (gof k).n) := by
        rw [gd_nat (by simp)]; simp
      rw [hwl, hgl]
      have hlen : (F0 ++ hF (fun _ => gof k) F0.length (gof k).n N1).length = F0.length + N1 * (gof k).n := by rw [List.length_append, hF_len fun _ => rfl]
      have hmul : (N1 + 1) * (gof k).n = N1 * (gof k).n + (gof k).n := Nat.succ_mul _ _
      have hla := lst_len (gof k).n (gof k).last (F0.length + N1 * (gof k).n)
      have hlf := lst_len (gof k).n (gof k).first (F0.length + N1 * (gof k).n)
      have hlead := lead_ok (lst (gof k).n (gof k).last (F0.length + N1 * (gof k).n)) (lst (gof k).n (gof k).first (F0.length + N1 * (gof k).n)) { sets := S ++ (gof x).sets, follow := F0 ++ hF (fun _ => gof k) F0.length (gof k).n (N1 + 1) } (lst_ss _ _ _) (fun y hy => by
        obtain ⟨i, hi, _, rfl⟩ := lst_mem.1 hy
        simp only [List.length_append, hF_len fun _ => rfl]; omega) (by omega) (fun f hf => by
        rcases List.mem_append.1 hf with hf | hf
        · exact hroom.small f hf
        · exact hF_small (fun _ => by omega) _ f hf) (by omega)
      have hag := lead_again (F0 ++ hF (fun _ => gof k) F0.length (gof k).n N1) (gof k)
      rw [hlen, List.append_assoc, List.append_assoc] at hag
      have hag2 : leadF (F0 ++ hF (fun _ => gof k) F0.length (gof k).n (N1 + 1)) (lst (gof k).n (gof k).last (F0.length + N1 * (gof k).n)) (lst (gof k).n (gof k).first (F0.length + N1 * (gof k).n)) = F0 ++ hF h F0.length (gof k).n (N1 + 1) := by
        rw [hF1]; exact hag
      simp only [hag2] at hlead
      have hset : ∀ b : Bool, b = z.null → List.set ((List.range (N1 + 1)).map fun i => pc (gof k) (F0.length + i * (gof k).n)) (Int.toNat (N1 : Int)) { first := (pc (gof k) (F0.length + N1 * (gof k).n)).first, last := (pc (gof k) (F0.length + N1 * (gof k).n)).last, null := b } = (List.range (N1 + 1)).map fun j => pc (h j) (F0.length + j * (gof k).n) := by
        intro b hb
        rw [Int.toNat_natCast, map_range_set (by omega)]
        refine List.map_congr_left fun j hj => ?_
        rw [hh]; dsimp only
        by_cases e : j = N1
        · subst e
          rw [if_pos rfl, if_pos (by omega)]
          have e1 : z.first = (gof k).first := by rw [hz]; split <;> rfl
          have e2 : z.last = (gof k).last := by rw [hz]; split <;> rfl
          rw [hb]
          simp only [pc, hzn, e1, e2]
        · rw [if_neg e, if_neg (by omega)]
      have hll : ((List.range (N1 + 1)).map fun i => pc (gof k) (F0.length + i * (gof k).n)).length = N1 + 1 := by simp
      rw [hll]
      refine ⟨by omega, by omega, by omega, by omega, _, hlead, by omega, fun hn => ⟨fun _ => by omega, rfl, rfl, hset _ ?_⟩, fun hn => ⟨fun _ => by omega, rfl, rfl, hset _ ?_⟩⟩
      · have hn : (gof k).null = true := hn
        rw [hz]; split <;> simp [gMaybe, gAgain, hn]
      · have hn : (gof k).null = false := hn
        rw [hz]
        by_cases e : x.Lo = 0
        · rw [if_pos e, e]; rfl
        · rw [if_neg e]
          show (x.Lo == 0) = (gof k).null
          rw [hn]; simpa using e
  · -- from some times to others
    have hhi : 1 ≤ x.Hi ∧ x.Lo ≤ x.Hi := by omega
    have hfe : fromEnd (fun _ => gof k) (fun j : Nat => decide (x.Hi ≥ 0) && decide ((j : Int) ≥ x.Lo)) N N = gof x := by
      have := fromEnd_pos (h := fun _ => gof k) (g := gof k) (mb := fun j : Nat => decide (x.Hi ≥ 0) && decide ((j : Int) ≥ x.Lo)) (N := N) (L := x.Lo.toNat) (by omega) (fun _ => rfl) (fun j hj => by
        have : decide (x.Hi ≥ 0) = true := by simp; omega
        simp only [this, Bool.true_and, decide_eq_decide]; omega) N (Nat.le_refl _)
      rw [this, hgof]
      unfold gRep
      rw [if_neg hneg]
      congr 1
      · omega
      · congr 1; omega
    refine ⟨fun s f l => s = S ++ (gof x).sets ∧ f = F0 ++ hF (fun _ => gof k) F0.length (gof k).n N ∧ l = (List.range N).map fun j => pc (gof k) (F0.length + j * (gof k).n), ?_, fun hc => absurd (of_decide_eq_true hc) hneg, fun _ => ⟨rfl, rfl, rfl⟩⟩
    rintro s f l ⟨rfl, rfl, hl⟩
    exact ⟨backward_60 l, rep_loop (x := x) (h := fun _ => gof k) (N := N) (S := S) (fun _ => rfl) hroom2 (by omega) hl (by rw [hfe]) (by rw [hfe])⟩
end Go.Ev.Pl

set_option linter.unusedSimpArgs false
set_option linter.unusedVariables false
namespace Go.Ev.Pl
open Go Go.Ev
theorem pc_first (g : GA) (off : Nat) : (pc g off).first = lst g.n g.first off := rfl
theorem pc_last (g : GA) (off : Nat) : (pc g off).last = lst g.n g.last off := rfl
theorem pc_null (g : GA) (off : Nat) : (pc g off).null = g.null := rfl
theorem pre_n {f : GA → GA → GA} (hf : ∀ a b, (f a b).n = a.n + b.n) {z : GA} (hz : z.n = 0) {l : List api_Rx} {i : Nat} (h : i < l.length) :
    ((l.take i).foldl (fun o y => f o (gof y)) z).n + (gof l[i]).n ≤ (l.foldl (fun o y => f o (gof y)) z).n := by
  have e := foldl_n hf (l.take (i + 1)) z
  rw [foldl_take_succ h, hf] at e
  rw [e, foldl_n hf]
  have : (l.map fun y => (gof y).n).sum = ((l.take (i + 1)).map fun y => (gof y).n).sum + ((l.drop (i + 1)).map fun y => (gof y).n).sum := by
    rw [← List.sum_append, ← List.map_append, List.take_append_drop]
  omega
theorem piece_ok : ∀ x, Wf x → Rgt x → PieceOk x := by
  refine rxInd fun x ih hw hr => ?_
  obtain ⟨hl, hkw⟩ := (wf_eq x).1 hw
  obtain ⟨ho, hk⟩ := rgt_own hr
  intro F0 S hroom
  have hrm := hroom.room
  refine W_place_builder_piece x _ _ _ ⟨fun h => ?_, fun h2 => ⟨fun h => ?_, fun h3 => ⟨fun h => ?_, fun h4 => ⟨fun h => ?_, fun h5 => ?_⟩⟩⟩⟩
  · have h : x.Kind = 2 := by simpa using h
    have hg : gof x = gByte x.Set := by rw [gof_eq, if_pos h]
    rw [hg] at hrm ⊢
    have hrm : F0.length + 1 < 1000000 := hrm
    refine ⟨_, _, W_place_builder_place _ _ _ _ ⟨?_, ?_, rfl, rfl⟩, ?_, ?_⟩
    · have := hroom.same; simp only; omega
    · simp only; omega
    · have : lst 1 (fun i => i == 0) F0.length = [(S.length : Int)] := by
        rw [hroom.same]; simp [lst, List.range_succ]
      simp only [pc, gByte, this]
    · rfl
  · have h : x.Kind = 3 := by simpa using h
    have hg : gof x = x.Kids.foldl (fun o y => gCat o (gof y)) gEmpty := by rw [gof_eq]; simp [h]
    refine ⟨fun s f a b c t => ∃ i : Nat, t = i ∧ i ≤ x.Kids.length ∧ s = S ++ ((x.Kids.take i).foldl (fun o y => gCat o (gof y)) gEmpty).sets ∧ f = F0 ++ flw ((x.Kids.take i).foldl (fun o y => gCat o (gof y)) gEmpty) F0.length ∧ (⟨a, b, c⟩ : place_piece) = pc ((x.Kids.take i).foldl (fun o y => gCat o (gof y)) gEmpty) F0.length,
      fun _ _ _ _ _ t => (x.Kids.length - t).toNat, ⟨0, rfl, by omega, by simp [gEmpty], by simp [gEmpty, flw], rfl⟩, ?_⟩
    rintro s f a b c t ⟨i, rfl, hi, rfl, rfl, hp⟩
    refine ⟨fun ht => ?_, fun ht => ?_⟩
    · have ht : i < x.Kids.length := by simpa using ht
      have hm := List.getElem_mem ht
      obtain ⟨o, ho'⟩ : ∃ o, o = (x.Kids.take i).foldl (fun o y => gCat o (gof y)) gEmpty := ⟨_, rfl⟩
      have hn := pre_n (f := gCat) (fun _ _ => rfl) (z := gEmpty) rfl ht
      rw [← hg, ← ho'] at hn
      have hsucc := foldl_take_succ (f := fun o y => gCat o (gof y)) (b := gEmpty) ht
      rw [← ho'] at hsucc hp ⊢
      have hoc : Canon o := by
        rw [ho']
        have : ∀ (l : List api_Rx) (z : GA), Canon z → Canon (l.foldl (fun o y => gCat o (gof y)) z) := by
          intro l
          induction l with
          | nil => intro z h; exact h
          | cons y r ih2 => intro z h; exact ih2 _ (canon_cat h (canon_gof y))
        exact this _ _ canon_empty
      have hlen : (F0 ++ flw o F0.length).length = F0.length + o.n := by rw [List.length_append, flw_len]
      have hpk := ih _ hm (hkw _ hm) (hk _ hm) (F0 ++ flw o F0.length) (S ++ o.sets) ⟨by rw [hlen, List.length_append, hroom.same, hoc.sets], fun f hf => by
        rcases List.mem_append.1 hf with hf | hf
        · exact hroom.small f hf
        · exact flw_small _ _ (by omega) f hf, by rw [hlen]; omega⟩
      rw [hlen] at hpk
      have hcat := cat_ok F0 ((S ++ o.sets) ++ (gof x.Kids[i]).sets) o (gof x.Kids[i]) hroom.small (by omega) (by omega)
      have hw2 : w64 ((i : Int) + 1) = ((i + 1 : Nat) : Int) := w64_id (by omega) (by omega)
      rw [gd_nat ht, hp]
      refine ⟨by omega, by omega, _, _, hpk, _, _, hcat, ?_⟩
      rw [hw2]
      exact ⟨⟨i + 1, rfl, by omega, by rw [hsucc]; simp [gCat], by rw [hsucc], by rw [hsucc]⟩, by dsimp only; omega⟩
    · have : i = x.Kids.length := by have : ¬ i < x.Kids.length := by simpa using ht
                                     omega
      subst this
      rw [List.take_of_length_le (Nat.le_refl _), ← hg] at hp ⊢
      exact ⟨hp.symm, rfl⟩
  · have h : x.Kind = 4 := by simpa using h
    have hg : gof x = x.Kids.foldl (fun o y => gAlt o (gof y)) gNone := by rw [gof_eq]; simp [h]
    refine ⟨fun s f a b c t => ∃ i : Nat, t = i ∧ i ≤ x.Kids.length ∧ s = S ++ ((x.Kids.take i).foldl (fun o y => gAlt o (gof y)) gNone).sets ∧ f = F0 ++ flw ((x.Kids.take i).foldl (fun o y => gAlt o (gof y)) gNone) F0.length ∧ (⟨a, b, c⟩ : place_piece) = pc ((x.Kids.take i).foldl (fun o y => gAlt o (gof y)) gNone) F0.length,
      fun _ _ _ _ _ t => (x.Kids.length - t).toNat, ⟨0, rfl, by omega, by simp [gNone], by simp [gNone, flw], rfl⟩, ?_⟩
    rintro s f a b c t ⟨i, rfl, hi, rfl, rfl, hp⟩
    refine ⟨fun ht => ?_, fun ht => ?_⟩
    · have ht : i < x.Kids.length := by simpa using ht
      have hm := List.getElem_mem ht
      obtain ⟨o, ho'⟩ : ∃ o, o = (x.Kids.take i).foldl (fun o y => gAlt o (gof y)) gNone := ⟨_, rfl⟩
      have hn := pre_n (f := gAlt) (fun _ _ => rfl) (z := gNone) rfl ht
      rw [← hg, ← ho'] at hn
      have hsucc := foldl_take_succ (f := fun o y => gAlt o (gof y)) (b := gNone) ht
      rw [← ho'] at hsucc hp ⊢
      have hoc : Canon o := by
        rw [ho']
        have : ∀ (l : List api_Rx) (z : GA), Canon z → Canon (l.foldl (fun o y => gAlt o (gof y)) z) := by
          intro l
          induction l with
          | nil => intro z h; exact h
          | cons y r ih2 => intro z h; exact ih2 _ (canon_alt h (canon_gof y))
        exact this _ _ canon_none
      have hlen : (F0 ++ flw o F0.length).length = F0.length + o.n := by rw [List.length_append, flw_len]
      have hpk := ih _ hm (hkw _ hm) (hk _ hm) (F0 ++ flw o F0.length) (S ++ o.sets) ⟨by rw [hlen, List.length_append, hroom.same, hoc.sets], fun f hf => by
        rcases List.mem_append.1 hf with hf | hf
        · exact hroom.small f hf
        · exact flw_small _ _ (by omega) f hf, by rw [hlen]; omega⟩
      rw [hlen] at hpk
      have hw2 : w64 ((i : Int) + 1) = ((i + 1 : Nat) : Int) := w64_id (by omega) (by omega)
      rw [gd_nat ht]
      have hpa : a = lst o.n o.first F0.length := congrArg place_piece.first hp
      have hpb : b = lst o.n o.last F0.length := congrArg place_piece.last hp
      have hpc : c = o.null := congrArg place_piece.null hp
      have l1 := lst_len o.n o.first F0.length
      have l2 := lst_len o.n o.last F0.length
      have l3 := lst_len (gof x.Kids[i]).n (gof x.Kids[i]).first (F0.length + o.n)
      have l4 := lst_len (gof x.Kids[i]).n (gof x.Kids[i]).last (F0.length + o.n)
      refine ⟨by omega, by omega, _, _, hpk, _, join_ok _ _ (by rw [hpa]; omega) (by rw [pc_first]; omega), _, join_ok _ _ (by rw [hpb]; omega) (by rw [pc_last]; omega), ?_⟩
      rw [hw2]
      refine ⟨⟨i + 1, rfl, by omega, by rw [hsucc]; simp [gAlt], ?_, ?_⟩, by dsimp only; omega⟩
      · rw [hsucc, ← flw_alt, ← List.append_assoc]
      · rw [hsucc, hpa, hpb, hpc, pc_first, pc_last, pc_null, alt_first, alt_last]; rfl
    · have : i = x.Kids.length := by have : ¬ i < x.Kids.length := by simpa using ht
                                     omega
      subst this
      rw [List.take_of_length_le (Nat.le_refl _), ← hg] at hp ⊢
      exact ⟨hp.symm, rfl⟩
  · have h : x.Kind = 5 := by simpa using h
    exact ⟨_, _, rep_ok hr h hw (fun k hkm => ih k hkm (hkw k hkm) (hk k hkm)) F0 S hroom, rfl, rfl⟩
  · have h1 : x.Kind = 1 := by
      simp only [beq_eq_false_iff_ne, ne_eq] at h2 h3 h4 h5
      have := own_kind ho; omega
    have hg : gof x = gEmpty := by rw [gof_eq]; simp [h1]
    rw [hg]
    exact ⟨rfl, by simp [gEmpty, flw]⟩
def plc (g : GA) : api_Places := ⟨g.sets, lst g.n g.first 0, lst g.n g.last 0, flw g 0, g.null⟩
def noPl : api_Places := ⟨[], [], [], [], false⟩
theorem size_of_right {x : api_Rx} (h : rightB x = true) : Rgt x ∧ sizeN x ≤ 200 := by
  simp only [rightB, Bool.and_eq_true, decide_eq_true_eq] at h
  refine ⟨⟨20, h.1⟩, ?_⟩
  have := h.2.1
  simp only [sizeZ] at this; omega
theorem placeOf_ok (x : api_Rx) (hw : Wf x) : C_place_Of x (if rightB x = true then plc (gof x) else noPl) (if rightB x = true then 0 else 1) := by
  refine W_place_Of x _ _ ⟨_, rxRightAll_ok x hw, fun h => ?_, fun h => ?_⟩
  · have h : rightB x = false := by simpa using h
    rw [h]; exact ⟨rfl, rfl⟩
  · have h : rightB x = true := by simpa using h
    obtain ⟨hr, hs⟩ := size_of_right h
    have hn := gof_n x hr
    have := piece_ok x hw hr [] [] ⟨rfl, fun f hf => by simp at hf, by simp; omega⟩
    refine ⟨_, _, this, ?_, ?_⟩
    · rw [if_pos h]; simp [plc, pc]
    · rw [if_pos h]
end Go.Ev.Pl

set_option linter.unusedSimpArgs false
set_option linter.unusedVariables false
namespace Go.Ev.Pl
open Go Go.Ev
theorem addL_nil_r : ∀ a, addL a [] = a
  | [] => by rw [addL]
  | x :: a => by rw [addL]; simp
theorem addL_drop_r {a b : List Int} {i k : Nat} (hk : k = b.length) (hi : i < a.length) : addL (a.drop i) (b.drop k) = a[i] :: addL (a.drop (i + 1)) (b.drop k) := by
  subst hk
  rw [List.drop_length, addL_nil_r, addL_nil_r, List.drop_eq_getElem_cons hi]
theorem addL_drop_l {a b : List Int} {i k : Nat} (hi : i = a.length) (hk : k < b.length) : addL (a.drop i) (b.drop k) = b[k] :: addL (a.drop i) (b.drop (k + 1)) := by
  subst hi
  rw [List.drop_length, addL, addL, List.drop_eq_getElem_cons hk]
theorem addL_drop {a b : List Int} {i k : Nat} (hi : i < a.length) (hk : k < b.length) : addL (a.drop i) (b.drop k) = if a[i] < b[k] then a[i] :: addL (a.drop (i + 1)) (b.drop k) else if b[k] < a[i] then b[k] :: addL (a.drop i) (b.drop (k + 1)) else a[i] :: addL (a.drop (i + 1)) (b.drop (k + 1)) := by
  conv => lhs; rw [List.drop_eq_getElem_cons hi, List.drop_eq_getElem_cons hk, addL]
  rw [← List.drop_eq_getElem_cons hi, ← List.drop_eq_getElem_cons hk]
theorem add_ok (a b : List Int) (ha : a.length < 10000000) (hb : b.length < 10000000) : C_heckleref09_Add a b (addL a b) := by
  refine W_heckleref09_Add a b _ ⟨fun o s t => ∃ i k : Nat, s = i ∧ t = k ∧ i ≤ a.length ∧ k ≤ b.length ∧ o.length ≤ i + k ∧ o ++ addL (a.drop i) (b.drop k) = addL a b, fun o s t => (a.length - s).toNat + (b.length - t).toNat, ⟨0, 0, rfl, rfl, by omega, by omega, by simp, rfl⟩, ?_⟩
  rintro o s t ⟨i, k, rfl, rfl, hi, hk, hol, ho⟩
  have hwi : w64 ((i : Int) + 1) = ((i + 1 : Nat) : Int) := w64_id (by omega) (by omega)
  have hwk : w64 ((k : Int) + 1) = ((k + 1 : Nat) : Int) := w64_id (by omega) (by omega)
  simp only [List.length_map]
  refine ⟨fun ht => ?_, fun ht => ?_⟩
  · simp only [Bool.or_eq_true, decide_eq_true_eq] at ht
    have hkb : ((k : Int) == (b.length : Int)) = decide (k = b.length) := by show decide _ = decide _; simp only [decide_eq_decide]; omega
    have hib : ((i : Int) == (a.length : Int)) = decide (i = a.length) := by show decide _ = decide _; simp only [decide_eq_decide]; omega
    have hia : decide ((i : Int) < (a.length : Int)) = decide (i < a.length) := by simp only [decide_eq_decide]; omega
    rw [hkb, hib, hia]
    refine ⟨fun h1 h2 => by omega, fun h1 h2 => by have := of_decide_eq_true h2; omega, fun h1 h2 => by omega, fun h1 h2 => by have := of_decide_eq_false h1; omega, fun h => ?_, fun h => ⟨fun h1 => by omega, fun h1 => ?_, fun h1 => by omega, fun h1 => ?_, fun h2 => ?_, fun h2 => ?_⟩⟩
    · simp only [Bool.or_eq_true, Bool.and_eq_true, decide_eq_true_eq] at h
      have hil : i < a.length := by omega
      rw [gd_nat hil, hwi]
      refine ⟨by omega, by omega, by omega, ⟨i + 1, k, rfl, rfl, by omega, hk, by simp; omega, ?_⟩, by first | omega | (dsimp only; omega)⟩
      rw [← ho, List.append_assoc]
      congr 1
      rcases h with h | ⟨_, h⟩
      · rw [addL_drop_r h hil]; rfl
      · by_cases hkl : k < b.length
        · rw [gd_nat hil, gd_nat hkl] at h
          rw [addL_drop hil hkl, if_pos h]; rfl
        · rw [addL_drop_r (by omega) hil]; rfl
    · simp only [Bool.or_eq_false_iff, decide_eq_false_iff_not] at h; omega
    · have := of_decide_eq_false h1; omega
    · simp only [Bool.or_eq_false_iff, decide_eq_false_iff_not] at h
      have hkl : k < b.length := by omega
      rw [gd_nat hkl, hwk]
      refine ⟨by omega, by omega, by omega, ⟨i, k + 1, rfl, rfl, hi, by omega, by simp; omega, ?_⟩, by first | omega | (dsimp only; omega)⟩
      rw [← ho, List.append_assoc]
      congr 1
      simp only [Bool.or_eq_true, decide_eq_true_eq] at h2
      by_cases hia2 : i = a.length
      · rw [addL_drop_l hia2 hkl]; rfl
      · have hil : i < a.length := by omega
        have h2 : b[k] < a[i] := by
          rcases h2 with h2 | h2
          · exact absurd h2 hia2
          · rw [gd_nat hkl, gd_nat hil] at h2; exact h2
        rw [addL_drop hil hkl, if_neg (by omega), if_pos h2]; rfl
    · simp only [Bool.or_eq_false_iff, decide_eq_false_iff_not, Bool.and_eq_false_iff] at h h2
      have hkl : k < b.length := by omega
      have hil : i < a.length := by omega
      rw [gd_nat hkl, gd_nat hil] at h h2
      rw [gd_nat hil, hwi, hwk]
      refine ⟨by omega, by omega, by omega, ⟨i + 1, k + 1, rfl, rfl, by omega, by omega, by simp; omega, ?_⟩, by first | omega | (dsimp only; omega)⟩
      rw [← ho, List.append_assoc]
      congr 1
      rw [addL_drop hil hkl, if_neg (by rcases h.2 with h | h <;> omega), if_neg h2.2]; rfl
  · simp only [Bool.or_eq_false_iff, decide_eq_false_iff_not] at ht
    have e1 : i = a.length := by omega
    have e2 : k = b.length := by omega
    rw [← ho, e1, e2, List.drop_length, List.drop_length, addL, List.append_nil]
end Go.Ev.Pl

set_option linter.unusedSimpArgs false
set_option linter.unusedVariables false
namespace Go.Ev.Pl
open Go Go.Ev
end Go.Ev.Pl
