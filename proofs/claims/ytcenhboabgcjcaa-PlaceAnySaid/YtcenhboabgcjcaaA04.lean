import Derived.Test.YtcenhboabgcjcaaA03
import Derived.Lib.RowBridge
set_option linter.unusedSimpArgs false
set_option linter.unusedVariables false
namespace Go.Ev
open Go Go.Proofs
set_option maxRecDepth 8000
set_option maxHeartbeats 1000000 in
theorem W_heckleref03_Size (x : api_Rx) (res : Int)
    (h : (((api_Rx.Kind x == (2 : Int)) = true → (res = 1)) ∧ ((api_Rx.Kind x == (2 : Int)) = false → (∃ J3 : Bool → Prop, (∀ (t9 : Bool), J3 t9 → (((t9) = true → (∃ (Inv14 : Int → Int → Prop) (mu15 : Int → Int → Nat), Inv14 0 0 ∧ (∀ (n : Int) (i : Int), Inv14 n i → (((decide (i < (↑(List.length (api_Rx.Kids x)) : Int))) = true → ((0 : Int) ≤ i) ∧ i < ↑(List.length (api_Rx.Kids x)) ∧ (∃ r0_2 : Int, C_heckleref03_Size (gd (api_Rx.Kids x) i) r0_2 ∧ (((decide (w64 (n + r0_2) > (1000000 : Int))) = true → (res = ((1000000 : Int)))) ∧ ((decide (w64 (n + r0_2) > (1000000 : Int))) = false → (Inv14 (w64 (n + r0_2)) (w64 (i + 1)) ∧ mu15 (w64 (n + r0_2)) (w64 (i + 1)) < mu15 n i))))) ∧ ((decide (i < (↑(List.length (api_Rx.Kids x)) : Int))) = false → (∃ J22 : Int → Prop, (∀ (n_1 : Int), J22 n_1 → (res = (if false = true then if (1000000 : Int) > n_1 then (1000000 : Int) else n_1 else if (1000000 : Int) < n_1 then (1000000 : Int) else n_1))) ∧ (((api_Rx.Kind x == (5 : Int)) = true → J22 (w64 (n * if (if false = true then if (if api_Rx.Hi x > api_Rx.Lo x then api_Rx.Hi x else api_Rx.Lo x) > (1000 : Int) then if api_Rx.Hi x > api_Rx.Lo x then api_Rx.Hi x else api_Rx.Lo x else (1000 : Int) else if (if api_Rx.Hi x > api_Rx.Lo x then api_Rx.Hi x else api_Rx.Lo x) < (1000 : Int) then if api_Rx.Hi x > api_Rx.Lo x then api_Rx.Hi x else api_Rx.Lo x else (1000 : Int)) > (1 : Int) then if false = true then if (if api_Rx.Hi x > api_Rx.Lo x then api_Rx.Hi x else api_Rx.Lo x) > (1000 : Int) then if api_Rx.Hi x > api_Rx.Lo x then api_Rx.Hi x else api_Rx.Lo x else (1000 : Int) else if (if api_Rx.Hi x > api_Rx.Lo x then api_Rx.Hi x else api_Rx.Lo x) < (1000 : Int) then if api_Rx.Hi x > api_Rx.Lo x then api_Rx.Hi x else api_Rx.Lo x else (1000 : Int) else (1 : Int)))) ∧ ((api_Rx.Kind x == (5 : Int)) = false → J22 n)))))))) ∧ ((t9) = false → (res = 0)))) ∧ (((api_Rx.Kind x == (3 : Int)) = true → J3 (api_Rx.Kind x == (3 : Int))) ∧ ((api_Rx.Kind x == (3 : Int)) = false → (((api_Rx.Kind x == (4 : Int)) = true → J3 (api_Rx.Kind x == (4 : Int))) ∧ ((api_Rx.Kind x == (4 : Int)) = false → J3 (api_Rx.Kind x == (5 : Int)))))))))) : C_heckleref03_Size x res := by
  unfold C_heckleref03_Size
  have kk := cfOk [] 44
  refine fD (x := bodyOf Try.f12) kk Try.func12 ?_
  refine wkS [1] [(1, av_api_Rx x)] (by kernel_rfl) ?_
  refine sD kk [] [1] [(4, .ptr 5 0), (5, av_api_Rx x)] obN ?_
  refine qD ?_
  refine sD kk [] [] [(19, vi (api_Rx.Kind x))] obN ?_
  refine bD (id := 0) ?_
  refine sD kk [] [] [(22, vB (api_Rx.Kind x == (2 : Int)))] obN ?_
  refine cD (t := 7) (b := api_Rx.Kind x == (2 : Int)) (fun hb0 => ?_) (fun hb0 => ?_)
  · have h := h.1 hb0
    refine sD kk [] [4, 5, 19, 22] [(7, vi 1)] obN ?_
    refine tD ?_
    obtain he0 := h
    subst res
    exact (endD [] (vi 1) []).1
  · have h := h.2 hb0
    obtain ⟨J3, hJ3, h⟩ := h
    refine sjD (fun (q : Bool) => J3 q) (fun (q : Bool) => (fun (t9 : Bool) => ([(4, .ptr 5 0), (5, av_api_Rx x), (28, vB t9)] : Sta)) q) ?_ ?_
    · rintro t9 hj
      have h := hJ3 t9 hj
      refine cD (t := 9) (b := t9) (fun hb4 => ?_) (fun hb4 => ?_)
      · have h := h.1 hb4
        refine sD kk [] [28] [(10, vi 0)] obN ?_
        refine qD ?_
        refine sD kk [] [] [(13, vi 0)] obN ?_
        refine bD (id := 1) ?_
        obtain ⟨Inv14, mu15, h0Inv14, hInv14⟩ := h
        refine loD (fun (q : Int × Int) => (fun (n : Int) (i : Int) => ([(4, .ptr 5 0), (5, av_api_Rx x), (10, vi n), (13, vi i)] : Sta)) q.1 q.2) (fun (q : Int × Int) => Inv14 q.1 q.2) (fun (q : Int × Int) => mu15 q.1 q.2) (0, 0) [] h0Inv14 ?_
        rintro ⟨n, i⟩ hi
        have h := hInv14 n i hi
        refine qD ?_
        refine sDE kk [] [] [(52, vB (decide (i < (↑(List.length (List.map enc_api_Rx (api_Rx.Kids x))) : Int))))] [(52, vB (decide (i < (↑(List.length (api_Rx.Kids x)) : Int))))] obN ?_
        refine cD (t := 17) (b := decide (i < (↑(List.length (api_Rx.Kids x)) : Int))) (fun hb16 => ?_) (fun hb16 => ?_)
        · have h := h.1 hb16
          refine Sem.skip' (by kernel_rfl) Wk.refl ?_
          show Sem _ _ _ _ _
          refine wkD [52] ?_
          refine qD ?_
          refine bD (id := 2) ?_
          obtain ⟨h17, h⟩ := h
          obtain ⟨h18, h⟩ := h
          obtain ⟨r0_2, hc19, h⟩ := h
          refine sD kk [.e (fv_api_Rx (gd (api_Rx.Kids x) i)), .c (vi r0_2) []] [] [(10, vi (w64 (n + r0_2)))] (obC h17 (obC (idx_ok enc_api_Rx (api_Rx.Kids x) i _ (enc_api_Rx_eq _) h17 h18) (obC hc19 obN))) ?_
          refine sD kk [] [] [(88, vB (decide (w64 (n + r0_2) > (1000000 : Int))))] obN ?_
          refine cD (t := 29) (b := decide (w64 (n + r0_2) > (1000000 : Int))) (fun hb20 => ?_) (fun hb20 => ?_)
          · have h := h.1 hb20
            refine sD kk [] [4, 5, 10, 13, 88] [(7, vi ((1000000 : Int)))] obN ?_
            refine tD ?_
            obtain he0 := h
            subst res
            exact (endD [] (vi ((1000000 : Int))) []).1
          · have h := h.2 hb20
            refine Sem.skip' (by kernel_rfl) Wk.refl ?_
            show Sem _ _ _ _ _
            refine wkD [88] ?_
            refine rD kk [] [] [(13, vi (w64 (i + 1)))] obN ?_
            exact lD ((w64 (n + r0_2)), (w64 (i + 1))) [] h
        · have h := h.2 hb16
          refine xD (i := 1) ?_
          show Sem _ _ _ _ _
          refine wkD [13, 52] ?_
          obtain ⟨J22, hJ22, h⟩ := h
          refine sjD (fun (q : Int) => J22 q) (fun (q : Int) => (fun (n_1 : Int) => ([(10, vi n_1)] : Sta)) q) ?_ ?_
          · rintro n_1 hj
            have h := hJ22 n_1 hj
            refine sD kk [] [10] [(7, vi (if false = true then if (1000000 : Int) > n_1 then (1000000 : Int) else n_1 else if (1000000 : Int) < n_1 then (1000000 : Int) else n_1))] obN ?_
            refine tD ?_
            obtain he0 := h
            subst res
            exact (endD [] (vi (if false = true then if (1000000 : Int) > n_1 then (1000000 : Int) else n_1 else if (1000000 : Int) < n_1 then (1000000 : Int) else n_1)) []).1
          · refine sD kk [] [] [(97, vB (api_Rx.Kind x == (5 : Int)))] obN ?_
            refine cD (t := 32) (b := api_Rx.Kind x == (5 : Int)) (fun hb23 => ?_) (fun hb23 => ?_)
            · have h := h.1 hb23
              refine rDE kk [] [4, 5, 97] [(10, vi (w64 (n * if true = true then if (if false = true then if (if true = true then if api_Rx.Hi x > api_Rx.Lo x then api_Rx.Hi x else api_Rx.Lo x else if api_Rx.Hi x < api_Rx.Lo x then api_Rx.Hi x else api_Rx.Lo x) > (1000 : Int) then if true = true then if api_Rx.Hi x > api_Rx.Lo x then api_Rx.Hi x else api_Rx.Lo x else if api_Rx.Hi x < api_Rx.Lo x then api_Rx.Hi x else api_Rx.Lo x else (1000 : Int) else if (if true = true then if api_Rx.Hi x > api_Rx.Lo x then api_Rx.Hi x else api_Rx.Lo x else if api_Rx.Hi x < api_Rx.Lo x then api_Rx.Hi x else api_Rx.Lo x) < (1000 : Int) then if true = true then if api_Rx.Hi x > api_Rx.Lo x then api_Rx.Hi x else api_Rx.Lo x else if api_Rx.Hi x < api_Rx.Lo x then api_Rx.Hi x else api_Rx.Lo x else (1000 : Int)) > (1 : Int) then if false = true then if (if true = true then if api_Rx.Hi x > api_Rx.Lo x then api_Rx.Hi x else api_Rx.Lo x else if api_Rx.Hi x < api_Rx.Lo x then api_Rx.Hi x else api_Rx.Lo x) > (1000 : Int) then if true = true then if api_Rx.Hi x > api_Rx.Lo x then api_Rx.Hi x else api_Rx.Lo x else if api_Rx.Hi x < api_Rx.Lo x then api_Rx.Hi x else api_Rx.Lo x else (1000 : Int) else if (if true = true then if api_Rx.Hi x > api_Rx.Lo x then api_Rx.Hi x else api_Rx.Lo x else if api_Rx.Hi x < api_Rx.Lo x then api_Rx.Hi x else api_Rx.Lo x) < (1000 : Int) then if true = true then if api_Rx.Hi x > api_Rx.Lo x then api_Rx.Hi x else api_Rx.Lo x else if api_Rx.Hi x < api_Rx.Lo x then api_Rx.Hi x else api_Rx.Lo x else (1000 : Int) else (1 : Int) else if (if false = true then if (if true = true then if api_Rx.Hi x > api_Rx.Lo x then api_Rx.Hi x else api_Rx.Lo x else if api_Rx.Hi x < api_Rx.Lo x then api_Rx.Hi x else api_Rx.Lo x) > (1000 : Int) then if true = true then if api_Rx.Hi x > api_Rx.Lo x then api_Rx.Hi x else api_Rx.Lo x else if api_Rx.Hi x < api_Rx.Lo x then api_Rx.Hi x else api_Rx.Lo x else (1000 : Int) else if (if true = true then if api_Rx.Hi x > api_Rx.Lo x then api_Rx.Hi x else api_Rx.Lo x else if api_Rx.Hi x < api_Rx.Lo x then api_Rx.Hi x else api_Rx.Lo x) < (1000 : Int) then if true = true then if api_Rx.Hi x > api_Rx.Lo x then api_Rx.Hi x else api_Rx.Lo x else if api_Rx.Hi x < api_Rx.Lo x then api_Rx.Hi x else api_Rx.Lo x else (1000 : Int)) < (1 : Int) then if false = true then if (if true = true then if api_Rx.Hi x > api_Rx.Lo x then api_Rx.Hi x else api_Rx.Lo x else if api_Rx.Hi x < api_Rx.Lo x then api_Rx.Hi x else api_Rx.Lo x) > (1000 : Int) then if true = true then if api_Rx.Hi x > api_Rx.Lo x then api_Rx.Hi x else api_Rx.Lo x else if api_Rx.Hi x < api_Rx.Lo x then api_Rx.Hi x else api_Rx.Lo x else (1000 : Int) else if (if true = true then if api_Rx.Hi x > api_Rx.Lo x then api_Rx.Hi x else api_Rx.Lo x else if api_Rx.Hi x < api_Rx.Lo x then api_Rx.Hi x else api_Rx.Lo x) < (1000 : Int) then if true = true then if api_Rx.Hi x > api_Rx.Lo x then api_Rx.Hi x else api_Rx.Lo x else if api_Rx.Hi x < api_Rx.Lo x then api_Rx.Hi x else api_Rx.Lo x else (1000 : Int) else (1 : Int))))] [(10, vi (w64 (n * if (if false = true then if (if api_Rx.Hi x > api_Rx.Lo x then api_Rx.Hi x else api_Rx.Lo x) > (1000 : Int) then if api_Rx.Hi x > api_Rx.Lo x then api_Rx.Hi x else api_Rx.Lo x else (1000 : Int) else if (if api_Rx.Hi x > api_Rx.Lo x then api_Rx.Hi x else api_Rx.Lo x) < (1000 : Int) then if api_Rx.Hi x > api_Rx.Lo x then api_Rx.Hi x else api_Rx.Lo x else (1000 : Int)) > (1 : Int) then if false = true then if (if api_Rx.Hi x > api_Rx.Lo x then api_Rx.Hi x else api_Rx.Lo x) > (1000 : Int) then if api_Rx.Hi x > api_Rx.Lo x then api_Rx.Hi x else api_Rx.Lo x else (1000 : Int) else if (if api_Rx.Hi x > api_Rx.Lo x then api_Rx.Hi x else api_Rx.Lo x) < (1000 : Int) then if api_Rx.Hi x > api_Rx.Lo x then api_Rx.Hi x else api_Rx.Lo x else (1000 : Int) else (1 : Int))))] obN ?_
              exact jD (w64 (n * if (if false = true then if (if api_Rx.Hi x > api_Rx.Lo x then api_Rx.Hi x else api_Rx.Lo x) > (1000 : Int) then if api_Rx.Hi x > api_Rx.Lo x then api_Rx.Hi x else api_Rx.Lo x else (1000 : Int) else if (if api_Rx.Hi x > api_Rx.Lo x then api_Rx.Hi x else api_Rx.Lo x) < (1000 : Int) then if api_Rx.Hi x > api_Rx.Lo x then api_Rx.Hi x else api_Rx.Lo x else (1000 : Int)) > (1 : Int) then if false = true then if (if api_Rx.Hi x > api_Rx.Lo x then api_Rx.Hi x else api_Rx.Lo x) > (1000 : Int) then if api_Rx.Hi x > api_Rx.Lo x then api_Rx.Hi x else api_Rx.Lo x else (1000 : Int) else if (if api_Rx.Hi x > api_Rx.Lo x then api_Rx.Hi x else api_Rx.Lo x) < (1000 : Int) then if api_Rx.Hi x > api_Rx.Lo x then api_Rx.Hi x else api_Rx.Lo x else (1000 : Int) else (1 : Int))) [] h
            · have h := h.2 hb23
              refine Sem.skip' (by kernel_rfl) Wk.refl ?_
              exact jD n [] h
      · have h := h.2 hb4
        refine Sem.skip' (by kernel_rfl) Wk.refl ?_
        show Sem _ _ _ _ _
        refine wkD [4, 5, 28] ?_
        refine sD kk [] [] [(7, vi 0)] obN ?_
        refine tD ?_
        obtain he0 := h
        subst res
        exact (endD [] (vi 0) []).1
    · refine sD kk [] [22] [(28, vB (api_Rx.Kind x == (3 : Int)))] obN ?_
      refine cD (t := 9) (b := api_Rx.Kind x == (3 : Int)) (fun hb24 => ?_) (fun hb24 => ?_)
      · have h := h.1 hb24
        refine Sem.skip' (by kernel_rfl) Wk.refl ?_
        exact jD (api_Rx.Kind x == (3 : Int)) [] h
      · have h := h.2 hb24
        refine sD kk [] [] [(28, vB (api_Rx.Kind x == (4 : Int)))] obN ?_
        refine cD (t := 9) (b := api_Rx.Kind x == (4 : Int)) (fun hb25 => ?_) (fun hb25 => ?_)
        · have h := h.1 hb25
          refine Sem.skip' (by kernel_rfl) Wk.refl ?_
          exact jD (api_Rx.Kind x == (4 : Int)) [] h
        · have h := h.2 hb25
          refine rD kk [] [19] [(28, vB (api_Rx.Kind x == (5 : Int)))] obN ?_
          exact jD (api_Rx.Kind x == (5 : Int)) [] h
set_option maxHeartbeats 1000000 in
theorem W_heckleref03_Right (x : api_Rx) (res : Bool)
    (h : (∃ r0 : Bool, C_heckleref03_right x 20 r0 ∧ (((r0) = true → (∃ r0_1 : Int, C_heckleref03_Size x r0_1 ∧ (((decide (r0_1 ≤ (200 : Int))) = true → (∃ r0_2 : Int, C_heckleref03_Nodes x ((1000 : Int)) r0_2 ∧ (res = (decide (r0_2 ≥ (0 : Int)))))) ∧ ((decide (r0_1 ≤ (200 : Int))) = false → (res = false))))) ∧ ((r0) = false → (res = false))))) : C_heckleref03_Right x res := by
  unfold C_heckleref03_Right
  have kk := cfOk [] 15
  refine fD (x := bodyOf Try.f29) kk Try.func29 ?_
  refine wkS [1] [(1, av_api_Rx x)] (by kernel_rfl) ?_
  refine sD kk [] [1] [(4, .ptr 5 0), (5, av_api_Rx x)] obN ?_
  obtain ⟨r0, hc0, h⟩ := h
  rcases Bool.eq_false_or_eq_true (r0) with hb1 | hb1
  · have h := h.1 hb1
    obtain ⟨r0_1, hc2, h⟩ := h
    rcases Bool.eq_false_or_eq_true (decide (r0_1 ≤ (200 : Int))) with hb3 | hb3
    · have h := h.1 hb3
      obtain ⟨r0_2, hc4, h⟩ := h
      refine sD kk [.c (vB r0) [], .b true, .b true, .c (vi r0_1) [], .b true, .b true, .b true, .b true, .c (vi r0_2) [], .b true, .b true] [4, 5] [(7, vB (decide (r0_2 ≥ (0 : Int))))] (obC hc0 (obC (gtt hb1) (obC (gtt hb1) (obC hc2 (obC (gtt hb1) (obC hb1 (obC (gtt hb3) (obC (gtt hb3) (obC hc4 (obC (gtt hb3) (obC hb3 obN))))))))))) ?_
      refine tD ?_
      obtain he0 := h
      subst res
      exact (endD [] (vB (decide (r0_2 ≥ (0 : Int)))) []).1
    · have h := h.2 hb3
      refine sD kk [.c (vB r0) [], .b true, .b true, .c (vi r0_1) [], .b true, .b true, .b false, .b false, .b false, .b false] [4, 5] [(7, vB false)] (obC hc0 (obC (gtt hb1) (obC (gtt hb1) (obC hc2 (obC (gtt hb1) (obC hb1 (obC (gtf hb3) (obC (gtf hb3) (obC (gtf hb3) (obC hb3 obN)))))))))) ?_
      refine tD ?_
      obtain he0 := h
      subst res
      exact (endD [] (vB false) []).1
  · have h := h.2 hb1
    refine sD kk [.c (vB r0) [], .b false, .b false, .b false, .b false, .b false, .b false, .b false, .b false] [4, 5] [(7, vB false)] (obC hc0 (obC (gtf hb1) (obC (gtf hb1) (obC (gtf hb1) (obC hb1 (obC (rfl : false = false) (obC (rfl : false = false) (obC (rfl : false = false) (obC (rfl : false = false) obN))))))))) ?_
    refine tD ?_
    obtain he0 := h
    subst res
    exact (endD [] (vB false) []).1
set_option maxHeartbeats 1000000 in
theorem W_heckleref09_empty (res : api_Places)
    (h : (res = ({ Sets := [], First := [], Last := [], Follow := [], Null := true }))) : C_heckleref09_empty res := by
  unfold C_heckleref09_empty
  have kk := cfOk [] 2
  refine fD (x := bodyOf Try.f46) kk Try.func46 ?_
  refine wkS [] [] (by kernel_rfl) ?_
  refine sDE kk [] [] [(1, .ptr 2 0), (2, .agg [.own 24 ([]), .own 3 ([]), .own 3 ([]), .own 37 ([]), vB false])] [(1, .ptr 2 0), (2, .agg [oL 24 enc_arr4_uint64 ([]), oL 3 enc_i64 ([]), oL 3 enc_i64 ([]), oL 37 encs_i64 ([]), vB false])] obN ?_
  refine sDE kk [] [] [(2, .agg [.own 24 ([]), .own 3 ([]), .own 3 ([]), .own 37 ([]), vB true])] [(2, .agg [oL 24 enc_arr4_uint64 ([]), oL 3 enc_i64 ([]), oL 3 enc_i64 ([]), oL 37 encs_i64 ([]), vB true])] obN ?_
  refine tD ?_
  obtain he0 := h
  subst res
  exact (endD [] (.agg [oL 24 enc_arr4_uint64 ([]), oL 3 enc_i64 ([]), oL 3 enc_i64 ([]), oL 37 encs_i64 ([]), vB true]) []).1
set_option maxHeartbeats 1000000 in
theorem W_heckleref09_moved (l : (List Int)) (by0 : Int) (res : (List Int))
    (h : (∃ (Inv6 : List Int → Int → Prop) (mu7 : List Int → Int → Nat), Inv6 ([]) 0 ∧ (∀ (out : List Int) (i : Int), Inv6 out i → (((decide (i < (↑(List.length l) : Int))) = true → ((0 : Int) ≤ i) ∧ i < ↑(List.length l) ∧ ((List.length out + (1 : Nat)) * (8 : Nat) ≤ (2 : Nat) ^ (47 : Nat)) ∧ (Inv6 (out ++ [w64 (gd l i + by0)]) (w64 (i + 1)) ∧ mu7 (out ++ [w64 (gd l i + by0)]) (w64 (i + 1)) < mu7 out i)) ∧ ((decide (i < (↑(List.length l) : Int))) = false → (res = out)))))) : C_heckleref09_moved l by0 res := by
  unfold C_heckleref09_moved
  have kk := cfOk [22] 23
  refine fD (x := bodyOf Try.f66) kk Try.func66 ?_
  refine wkS [1, 4] [(1, vL enc_i64 l), (4, vi by0)] (by kernel_rfl) ?_
  refine sD kk [] [] [] obN ?_
  refine sDE kk [] [] [(16, .own 3 ([]))] [(16, oL 3 enc_i64 ([]))] obN ?_
  refine qD ?_
  refine sD kk [] [] [(19, vi 0)] obN ?_
  refine bD (id := 0) ?_
  obtain ⟨Inv6, mu7, h0Inv6, hInv6⟩ := h
  refine loD (fun (q : List Int × Int) => (fun (out : List Int) (i : Int) => ([(1, vL enc_i64 l), (4, vi by0), (16, oL 3 enc_i64 out), (19, vi i)] : Sta)) q.1 q.2) (fun (q : List Int × Int) => Inv6 q.1 q.2) (fun (q : List Int × Int) => mu7 q.1 q.2) (([]), 0) [] h0Inv6 ?_
  rintro ⟨out, i⟩ hi
  have h := hInv6 out i hi
  refine qD ?_
  refine sDE kk [] [] [(31, vB (decide (i < (↑(List.length (List.map enc_i64 l)) : Int))))] [(31, vB (decide (i < (↑(List.length l) : Int))))] obN ?_
  refine cD (t := 10) (b := decide (i < (↑(List.length l) : Int))) (fun hb8 => ?_) (fun hb8 => ?_)
  · have h := h.1 hb8
    refine Sem.skip' (by kernel_rfl) Wk.refl ?_
    show Sem _ _ _ _ _
    refine wkD [31] ?_
    refine qD ?_
    refine bD (id := 1) ?_
    obtain ⟨h9, h⟩ := h
    obtain ⟨h10, h⟩ := h
    obtain ⟨h11, h⟩ := h
    refine rDE kk [.e (fi (gd l i))] [] [(16, .own 3 (List.map enc_i64 out ++ List.take (List.length [FV.pv (Value.int IntKind.i64 (w64 (gd l i + by0)))]) (List.drop (0 : Nat) [FV.pv (Value.int IntKind.i64 (w64 (gd l i + by0)))])))] [(16, oL 3 enc_i64 (out ++ [w64 (gd l i + by0)]))] (obC h9 (obC (idx_ok enc_i64 l i _ rfl h9 h10) (obC (show (0 : Nat) = (0 : Nat) ∧ List.length (List.map enc_i64 out) = List.length (List.map enc_i64 out) from by first | decide | rfl | trivial | (simp only [nm] <;> first | decide | rfl | omega)) (obC (show (List.length (List.map enc_i64 out) + List.length (List.take (1 : Nat) (List.drop (0 : Nat) [FV.pv (Value.int IntKind.i64 (w64 (gd l i + by0)))]))) * (8 : Nat) ≤ (2 : Nat) ^ (47 : Nat) from by simpa only [nm] using h11) (obC (show List.all (List.take (1 : Nat) (List.drop (0 : Nat) [FV.pv (Value.int IntKind.i64 (w64 (gd l i + by0)))])) (FV.fits (1 : Nat)) = true from by first | exact fits_i64 _ | rfl | simp [FV.fits, FV.size, FV.cells, FV.one, ]) obN))))) ?_
    show Sem _ _ _ _ _
    refine rD kk [] [] [(19, vi (w64 (i + 1)))] obN ?_
    exact lD ((out ++ [w64 (gd l i + by0)]), (w64 (i + 1))) [] h
  · have h := h.2 hb8
    refine xD (i := 0) ?_
    show Sem _ _ _ _ _
    refine wkD [1, 4, 19, 31] ?_
    refine sD kk [] [16] [(13, oL 3 enc_i64 out)] obN ?_
    refine tD ?_
    obtain he0 := h
    subst res
    exact (endD [] (oL 3 enc_i64 out) []).1
set_option maxHeartbeats 1000000 in
theorem W_heckleref09_both (a : api_Places) (b : api_Places) (res : api_Places)
    (h : (List.length (api_Places.Sets a) * (32 : Nat) ≤ (2 : Nat) ^ (47 : Nat)) ∧ ((List.length (api_Places.Sets a) + List.length (api_Places.Sets b)) * (32 : Nat) ≤ (2 : Nat) ^ (47 : Nat)) ∧ (∃ (Inv8 : List (List Int) → Int → Prop) (mu9 : List (List Int) → Int → Nat), Inv8 ([]) 0 ∧ (∀ (out_Follow : List (List Int)) (i : Int), Inv8 out_Follow i → (((decide (i < (↑(List.length (api_Places.Follow a)) : Int))) = true → ((0 : Int) ≤ i) ∧ i < ↑(List.length (api_Places.Follow a)) ∧ ((List.length out_Follow + (1 : Nat)) * (24 : Nat) ≤ (2 : Nat) ^ (47 : Nat)) ∧ (Inv8 (out_Follow ++ [gd (api_Places.Follow a) i]) (w64 (i + 1)) ∧ mu9 (out_Follow ++ [gd (api_Places.Follow a) i]) (w64 (i + 1)) < mu9 out_Follow i)) ∧ ((decide (i < (↑(List.length (api_Places.Follow a)) : Int))) = false → (∃ (Inv23 : List (List Int) → Int → Prop) (mu24 : List (List Int) → Int → Nat), Inv23 out_Follow 0 ∧ (∀ (out_Follow_1 : List (List Int)) (i_1 : Int), Inv23 out_Follow_1 i_1 → (((decide (i_1 < (↑(List.length (api_Places.Follow b)) : Int))) = true → ((0 : Int) ≤ i_1) ∧ i_1 < ↑(List.length (api_Places.Follow b)) ∧ (∃ r0_2 : List Int, C_heckleref09_moved (gd (api_Places.Follow b) i_1) ((↑(List.length (api_Places.Sets a)) : Int)) r0_2 ∧ ((List.length out_Follow_1 + (1 : Nat)) * (24 : Nat) ≤ (2 : Nat) ^ (47 : Nat)) ∧ (Inv23 (out_Follow_1 ++ [r0_2]) (w64 (i_1 + 1)) ∧ mu24 (out_Follow_1 ++ [r0_2]) (w64 (i_1 + 1)) < mu24 out_Follow_1 i_1))) ∧ ((decide (i_1 < (↑(List.length (api_Places.Follow b)) : Int))) = false → (res = ({ Sets := api_Places.Sets a ++ api_Places.Sets b, First := [], Last := [], Follow := out_Follow_1, Null := false }))))))))))) : C_heckleref09_both a b res := by
  unfold C_heckleref09_both
  have kk := cfOk [55] 56
  refine fD (x := bodyOf Try.f65) kk Try.func65 ?_
  refine wkS [1, 4] [(1, av_api_Places a), (4, av_api_Places b)] (by kernel_rfl) ?_
  refine sDE kk [] [1, 4] [(7, .ptr 8 0), (8, av_api_Places a), (10, .ptr 11 0), (11, av_api_Places b), (13, .ptr 14 0), (14, .agg [.own 24 ([]), .own 3 ([]), .own 3 ([]), .own 37 ([]), vB false])] [(7, .ptr 8 0), (8, av_api_Places a), (10, .ptr 11 0), (11, av_api_Places b), (13, .ptr 14 0), (14, .agg [oL 24 enc_arr4_uint64 ([]), oL 3 enc_i64 ([]), oL 3 enc_i64 ([]), oL 37 encs_i64 ([]), vB false])] obN ?_
  refine sDE kk [] [] [(16, vi ((↑(List.length (List.map enc_arr4_uint64 (api_Places.Sets a))) : Int)))] [(16, vi ((↑(List.length (api_Places.Sets a)) : Int)))] obN ?_
  obtain ⟨h0, h⟩ := h
  obtain ⟨h1, h⟩ := h
  refine sDE kk [] [] [(19, .ptr 20 0), (20, .agg [.f (FV.sl (List.take (List.length (List.map enc_arr4_uint64 (api_Places.Sets a) ++ List.map enc_arr4_uint64 (api_Places.Sets b))) (List.drop (0 : Nat) (List.map enc_arr4_uint64 (api_Places.Sets a) ++ List.map enc_arr4_uint64 (api_Places.Sets b))))), .own 3 ([]), .own 3 ([]), .own 37 ([]), vB false])] [(19, .ptr 20 0), (20, .agg [vL enc_arr4_uint64 (api_Places.Sets a ++ api_Places.Sets b), oL 3 enc_i64 ([]), oL 3 enc_i64 ([]), oL 37 encs_i64 ([]), vB false])] (obC (show ((0 : Nat) + List.length (List.map enc_arr4_uint64 (api_Places.Sets a))) * (32 : Nat) ≤ (2 : Nat) ^ (47 : Nat) from by simpa only [nm] using h0) (obC (show List.all (List.map enc_arr4_uint64 (api_Places.Sets a)) (FV.fits (4 : Nat)) = true from by first | exact fits_arr4_uint64 _ | rfl | simp [FV.fits, FV.size, FV.cells, FV.one, enc_arr4_uint64_eq]) (obC (show (List.length (List.map enc_arr4_uint64 (api_Places.Sets a)) + List.length (List.map enc_arr4_uint64 (api_Places.Sets b))) * (32 : Nat) ≤ (2 : Nat) ^ (47 : Nat) from by simpa only [nm] using h1) (obC (show List.all (List.map enc_arr4_uint64 (api_Places.Sets b)) (FV.fits (4 : Nat)) = true from by first | exact fits_arr4_uint64 _ | rfl | simp [FV.fits, FV.size, FV.cells, FV.one, enc_arr4_uint64_eq]) obN)))) ?_
  refine qD ?_
  refine sD kk [] [] [(22, vi 0)] obN ?_
  refine bD (id := 0) ?_
  obtain ⟨Inv8, mu9, h0Inv8, hInv8⟩ := h
  refine loD (fun (q : List (List Int) × Int) => (fun (out_Follow : List (List Int)) (i : Int) => ([(7, .ptr 8 0), (8, av_api_Places a), (10, .ptr 11 0), (11, av_api_Places b), (13, .ptr 14 0), (14, .agg [oL 24 enc_arr4_uint64 ([]), oL 3 enc_i64 ([]), oL 3 enc_i64 ([]), oL 37 encs_i64 ([]), vB false]), (16, vi ((↑(List.length (api_Places.Sets a)) : Int))), (19, .ptr 20 0), (20, .agg [vL enc_arr4_uint64 (api_Places.Sets a ++ api_Places.Sets b), oL 3 enc_i64 ([]), oL 3 enc_i64 ([]), oL 37 encs_i64 out_Follow, vB false]), (22, vi i)] : Sta)) q.1 q.2) (fun (q : List (List Int) × Int) => Inv8 q.1 q.2) (fun (q : List (List Int) × Int) => mu9 q.1 q.2) (([]), 0) [] h0Inv8 ?_
  rintro ⟨out_Follow, i⟩ hi
  have h := hInv8 out_Follow i hi
  refine qD ?_
  refine sDE kk [] [] [(70, vB (decide (i < (↑(List.length (List.map encs_i64 (api_Places.Follow a))) : Int))))] [(70, vB (decide (i < (↑(List.length (api_Places.Follow a)) : Int))))] obN ?_
  refine cD (t := 23) (b := decide (i < (↑(List.length (api_Places.Follow a)) : Int))) (fun hb10 => ?_) (fun hb10 => ?_)
  · have h := h.1 hb10
    refine Sem.skip' (by kernel_rfl) Wk.refl ?_
    show Sem _ _ _ _ _
    refine wkD [70] ?_
    refine qD ?_
    refine bD (id := 1) ?_
    obtain ⟨h11, h⟩ := h
    obtain ⟨h12, h⟩ := h
    obtain ⟨h13, h⟩ := h
    refine rDE kk [.e (fL enc_i64 (gd (api_Places.Follow a) i))] [] [(20, .agg [vL enc_arr4_uint64 (api_Places.Sets a ++ api_Places.Sets b), oL 3 enc_i64 ([]), oL 3 enc_i64 ([]), .own 37 (List.map encs_i64 out_Follow ++ List.take (List.length [FV.sl (List.map enc_i64 (gd (api_Places.Follow a) i))]) (List.drop (0 : Nat) [FV.sl (List.map enc_i64 (gd (api_Places.Follow a) i))])), vB false])] [(20, .agg [vL enc_arr4_uint64 (api_Places.Sets a ++ api_Places.Sets b), oL 3 enc_i64 ([]), oL 3 enc_i64 ([]), oL 37 encs_i64 (out_Follow ++ [gd (api_Places.Follow a) i]), vB false])] (obC h11 (obC (idx_ok encs_i64 (api_Places.Follow a) i _ rfl h11 h12) (obC (show (0 : Nat) = (0 : Nat) ∧ List.length (List.map encs_i64 out_Follow) = List.length (List.map encs_i64 out_Follow) from by first | decide | rfl | trivial | (simp only [nm] <;> first | decide | rfl | omega)) (obC (show (List.length (List.map encs_i64 out_Follow) + List.length (List.take (1 : Nat) (List.drop (0 : Nat) [FV.sl (List.map enc_i64 (gd (api_Places.Follow a) i))]))) * (24 : Nat) ≤ (2 : Nat) ^ (47 : Nat) from by simpa only [nm] using h13) (obC (show List.all (List.take (1 : Nat) (List.drop (0 : Nat) [FV.sl (List.map enc_i64 (gd (api_Places.Follow a) i))])) (FV.fits (1 : Nat)) = true from by first | exact fits_i64 _ | rfl | simp [FV.fits, FV.size, FV.cells, FV.one, enc_i64]) obN))))) ?_
    show Sem _ _ _ _ _
    refine rD kk [] [] [(22, vi (w64 (i + 1)))] obN ?_
    exact lD ((out_Follow ++ [gd (api_Places.Follow a) i]), (w64 (i + 1))) [] h
  · have h := h.2 hb10
    refine xD (i := 0) ?_
    show Sem _ _ _ _ _
    refine wkD [7, 8, 22, 70] ?_
    refine qD ?_
    refine sD kk [] [] [(25, vi 0)] obN ?_
    refine bD (id := 2) ?_
    obtain ⟨Inv23, mu24, h0Inv23, hInv23⟩ := h
    refine loD (fun (q : List (List Int) × Int) => (fun (out_Follow_1 : List (List Int)) (i_1 : Int) => ([(10, .ptr 11 0), (11, av_api_Places b), (13, .ptr 14 0), (14, .agg [oL 24 enc_arr4_uint64 ([]), oL 3 enc_i64 ([]), oL 3 enc_i64 ([]), oL 37 encs_i64 ([]), vB false]), (16, vi ((↑(List.length (api_Places.Sets a)) : Int))), (19, .ptr 20 0), (20, .agg [vL enc_arr4_uint64 (api_Places.Sets a ++ api_Places.Sets b), oL 3 enc_i64 ([]), oL 3 enc_i64 ([]), oL 37 encs_i64 out_Follow_1, vB false]), (25, vi i_1)] : Sta)) q.1 q.2) (fun (q : List (List Int) × Int) => Inv23 q.1 q.2) (fun (q : List (List Int) × Int) => mu24 q.1 q.2) (out_Follow, 0) [] h0Inv23 ?_
    rintro ⟨out_Follow_1, i_1⟩ hi
    have h := hInv23 out_Follow_1 i_1 hi
    refine qD ?_
    refine sDE kk [] [] [(121, vB (decide (i_1 < (↑(List.length (List.map encs_i64 (api_Places.Follow b))) : Int))))] [(121, vB (decide (i_1 < (↑(List.length (api_Places.Follow b)) : Int))))] obN ?_
    refine cD (t := 40) (b := decide (i_1 < (↑(List.length (api_Places.Follow b)) : Int))) (fun hb25 => ?_) (fun hb25 => ?_)
    · have h := h.1 hb25
      refine Sem.skip' (by kernel_rfl) Wk.refl ?_
      show Sem _ _ _ _ _
      refine wkD [121] ?_
      refine qD ?_
      refine bD (id := 3) ?_
      obtain ⟨h26, h⟩ := h
      obtain ⟨h27, h⟩ := h
      obtain ⟨r0_2, hc28, h⟩ := h
      obtain ⟨h29, h⟩ := h
      refine rDE kk [.e (fL enc_i64 (gd (api_Places.Follow b) i_1)), .c (oL 3 enc_i64 r0_2) []] [] [(20, .agg [vL enc_arr4_uint64 (api_Places.Sets a ++ api_Places.Sets b), oL 3 enc_i64 ([]), oL 3 enc_i64 ([]), .own 37 (List.map encs_i64 out_Follow_1 ++ List.take (List.length [FV.sl (List.take (List.length (List.map enc_i64 r0_2)) (List.drop (0 : Nat) (List.map enc_i64 r0_2)))]) (List.drop (0 : Nat) [FV.sl (List.take (List.length (List.map enc_i64 r0_2)) (List.drop (0 : Nat) (List.map enc_i64 r0_2)))])), vB false])] [(20, .agg [vL enc_arr4_uint64 (api_Places.Sets a ++ api_Places.Sets b), oL 3 enc_i64 ([]), oL 3 enc_i64 ([]), oL 37 encs_i64 (out_Follow_1 ++ [r0_2]), vB false])] (obC h26 (obC (idx_ok encs_i64 (api_Places.Follow b) i_1 _ rfl h26 h27) (obC hc28 (obC (show (0 : Nat) = (0 : Nat) ∧ List.length (List.map encs_i64 out_Follow_1) = List.length (List.map encs_i64 out_Follow_1) from by first | decide | rfl | trivial | (simp only [nm] <;> first | decide | rfl | omega)) (obC (show (List.length (List.map encs_i64 out_Follow_1) + List.length (List.take (1 : Nat) (List.drop (0 : Nat) [FV.sl (List.take (List.length (List.map enc_i64 r0_2)) (List.drop (0 : Nat) (List.map enc_i64 r0_2)))]))) * (24 : Nat) ≤ (2 : Nat) ^ (47 : Nat) from by simpa only [nm] using h29) (obC (show List.all (List.take (1 : Nat) (List.drop (0 : Nat) [FV.sl (List.take (List.length (List.map enc_i64 r0_2)) (List.drop (0 : Nat) (List.map enc_i64 r0_2)))])) (FV.fits (1 : Nat)) = true from by first | exact fits_i64 _ | rfl | simp [FV.fits, FV.size, FV.cells, FV.one, enc_i64]) obN)))))) ?_
      show Sem _ _ _ _ _
      refine rD kk [] [] [(25, vi (w64 (i_1 + 1)))] obN ?_
      exact lD ((out_Follow_1 ++ [r0_2]), (w64 (i_1 + 1))) [] h
    · have h := h.2 hb25
      refine xD (i := 2) ?_
      show Sem _ _ _ _ _
      refine wkD [10, 11, 16, 25, 121] ?_
      refine sD kk [] [19, 20] [(14, .agg [vL enc_arr4_uint64 (api_Places.Sets a ++ api_Places.Sets b), oL 3 enc_i64 ([]), oL 3 enc_i64 ([]), oL 37 encs_i64 out_Follow_1, vB false])] (obC (show (0 : Nat) = (0 : Nat) ∧ (0 : Nat) = List.length (List.map enc_i64 []) from by first | decide | rfl | trivial | (simp only [nm] <;> first | decide | rfl | omega)) (obC (show (0 : Nat) = (0 : Nat) ∧ (0 : Nat) = List.length (List.map enc_i64 []) from by first | decide | rfl | trivial | (simp only [nm] <;> first | decide | rfl | omega)) (obC (show (0 : Nat) = (0 : Nat) ∧ List.length (List.map encs_i64 out_Follow_1) = List.length (List.map encs_i64 out_Follow_1) from by first | decide | rfl | trivial | (simp only [nm] <;> first | decide | rfl | omega)) obN))) ?_
      refine tD ?_
      obtain he0 := h
      subst res
      exact (endD [] (.agg [vL enc_arr4_uint64 (api_Places.Sets a ++ api_Places.Sets b), oL 3 enc_i64 ([]), oL 3 enc_i64 ([]), oL 37 encs_i64 out_Follow_1, vB false]) []).1
set_option maxHeartbeats 1000000 in
theorem W_heckleref09_Add (a : (List Int)) (b : (List Int)) (res : (List Int))
    (h : (∃ (Inv38 : List Int → Int → Int → Prop) (mu39 : List Int → Int → Int → Nat), Inv38 ([]) 0 0 ∧ (∀ (out : List Int) (i : Int) (k : Int), Inv38 out i k → (((decide (i < (↑(List.length (List.map enc_i64 a)) : Int)) || decide (k < (↑(List.length b) : Int))) = true → ((k == (↑(List.length (List.map enc_i64 b)) : Int)) = false → ((decide (i < (↑(List.length (List.map enc_i64 a)) : Int))) = true → ((0 : Int) ≤ i))) ∧ ((k == (↑(List.length (List.map enc_i64 b)) : Int)) = false → ((decide (i < (↑(List.length (List.map enc_i64 a)) : Int))) = true → i < ↑(List.length a))) ∧ ((k == (↑(List.length (List.map enc_i64 b)) : Int)) = false → ((decide (i < (↑(List.length (List.map enc_i64 a)) : Int))) = true → ((0 : Int) ≤ k))) ∧ ((k == (↑(List.length (List.map enc_i64 b)) : Int)) = false → ((decide (i < (↑(List.length (List.map enc_i64 a)) : Int))) = true → k < ↑(List.length b))) ∧ (((k == (↑(List.length (List.map enc_i64 b)) : Int) || decide (i < (↑(List.length (List.map enc_i64 a)) : Int)) && decide (gd a i < gd b k)) = true → ((0 : Int) ≤ i) ∧ i < ↑(List.length a) ∧ ((List.length out + (1 : Nat)) * (8 : Nat) ≤ (2 : Nat) ^ (47 : Nat)) ∧ (Inv38 (out ++ [gd a i]) (w64 (i + 1)) k ∧ mu39 (out ++ [gd a i]) (w64 (i + 1)) k < mu39 out i k)) ∧ ((k == (↑(List.length (List.map enc_i64 b)) : Int) || decide (i < (↑(List.length (List.map enc_i64 a)) : Int)) && decide (gd a i < gd b k)) = false → ((i == (↑(List.length (List.map enc_i64 a)) : Int)) = false → ((0 : Int) ≤ k)) ∧ ((i == (↑(List.length (List.map enc_i64 a)) : Int)) = false → k < ↑(List.length b)) ∧ ((i == (↑(List.length (List.map enc_i64 a)) : Int)) = false → ((0 : Int) ≤ i)) ∧ ((i == (↑(List.length (List.map enc_i64 a)) : Int)) = false → i < ↑(List.length a)) ∧ (((i == (↑(List.length (List.map enc_i64 a)) : Int) || decide (gd b k < gd a i)) = true → ((0 : Int) ≤ k) ∧ k < ↑(List.length b) ∧ ((List.length out + (1 : Nat)) * (8 : Nat) ≤ (2 : Nat) ^ (47 : Nat)) ∧ (Inv38 (out ++ [gd b k]) i (w64 (k + 1)) ∧ mu39 (out ++ [gd b k]) i (w64 (k + 1)) < mu39 out i k)) ∧ ((i == (↑(List.length (List.map enc_i64 a)) : Int) || decide (gd b k < gd a i)) = false → ((0 : Int) ≤ i) ∧ i < ↑(List.length a) ∧ ((List.length out + (1 : Nat)) * (8 : Nat) ≤ (2 : Nat) ^ (47 : Nat)) ∧ (Inv38 (out ++ [gd a i]) (w64 (i + 1)) (w64 (k + 1)) ∧ mu39 (out ++ [gd a i]) (w64 (i + 1)) (w64 (k + 1)) < mu39 out i k)))))) ∧ ((decide (i < (↑(List.length (List.map enc_i64 a)) : Int)) || decide (k < (↑(List.length b) : Int))) = false → (res = out)))))) : C_heckleref09_Add a b res := by
  unfold C_heckleref09_Add
  have kk := cfOk [85] 86
  refine fD (x := bodyOf Try.f17) kk Try.func17 ?_
  refine wkS [1, 4] [(1, vL enc_i64 a), (4, vL enc_i64 b)] (by kernel_rfl) ?_
  refine sD kk [] [] [] obN ?_
  refine sDE kk [] [] [(16, .own 3 ([]))] [(16, oL 3 enc_i64 ([]))] obN ?_
  refine sD kk [] [] [(19, vi 0), (22, vi 0)] obN ?_
  refine qD ?_
  refine bD (id := 0) ?_
  obtain ⟨Inv38, mu39, h0Inv38, hInv38⟩ := h
  refine loD (fun (q : List Int × Int × Int) => (fun (out : List Int) (i : Int) (k : Int) => ([(1, vL enc_i64 a), (4, vL enc_i64 b), (16, oL 3 enc_i64 out), (19, vi i), (22, vi k)] : Sta)) q.1 q.2.1 q.2.2) (fun (q : List Int × Int × Int) => Inv38 q.1 q.2.1 q.2.2) (fun (q : List Int × Int × Int) => mu39 q.1 q.2.1 q.2.2) (([]), 0, 0) [] h0Inv38 ?_
  rintro ⟨out, i, k⟩ hi
  have h := hInv38 out i k hi
  refine qD ?_
  refine sM [] [(52, vB (decide (i < (↑(List.length (List.map enc_i64 a)) : Int)) || decide (k < (↑(List.length b) : Int))))] ?_ (fun hk0 => ?_)
  · refine cD (t := 17) (b := decide (i < (↑(List.length (List.map enc_i64 a)) : Int)) || decide (k < (↑(List.length b) : Int))) (fun hb41 => ?_) (fun hb41 => ?_)
    · have h := h.1 hb41
      refine Sem.skip' (by kernel_rfl) Wk.refl ?_
      show Sem _ _ _ _ _
      refine wkD [52] ?_
      refine bD (id := 1) ?_
      refine bD (id := 2) ?_
      obtain ⟨h44, h45, h46, h47, h⟩ := h
      refine sM [] [(88, vB (k == (↑(List.length (List.map enc_i64 b)) : Int) || decide (i < (↑(List.length (List.map enc_i64 a)) : Int)) && decide (gd a i < gd b k)))] ?_ (fun hk0 => ?_)
      · refine cD (t := 29) (b := k == (↑(List.length (List.map enc_i64 b)) : Int) || decide (i < (↑(List.length (List.map enc_i64 a)) : Int)) && decide (gd a i < gd b k)) (fun hb48 => ?_) (fun hb48 => ?_)
        · have h := h.1 hb48
          obtain ⟨h49, h⟩ := h
          obtain ⟨h50, h⟩ := h
          obtain ⟨h51, h⟩ := h
          refine sDE kk [.e (fi (gd a i))] [88] [(16, .own 3 (List.map enc_i64 out ++ List.take (List.length [FV.pv (Value.int IntKind.i64 (gd a i))]) (List.drop (0 : Nat) [FV.pv (Value.int IntKind.i64 (gd a i))])))] [(16, oL 3 enc_i64 (out ++ [gd a i]))] (obC h49 (obC (idx_ok enc_i64 a i _ rfl h49 h50) (obC (show (0 : Nat) = (0 : Nat) ∧ List.length (List.map enc_i64 out) = List.length (List.map enc_i64 out) from by first | decide | rfl | trivial | (simp only [nm] <;> first | decide | rfl | omega)) (obC (show (List.length (List.map enc_i64 out) + List.length (List.take (1 : Nat) (List.drop (0 : Nat) [FV.pv (Value.int IntKind.i64 (gd a i))]))) * (8 : Nat) ≤ (2 : Nat) ^ (47 : Nat) from by simpa only [nm] using h51) (obC (show List.all (List.take (1 : Nat) (List.drop (0 : Nat) [FV.pv (Value.int IntKind.i64 (gd a i))])) (FV.fits (1 : Nat)) = true from by first | exact fits_i64 _ | rfl | simp [FV.fits, FV.size, FV.cells, FV.one, ]) obN))))) ?_
          refine rD kk [] [] [(19, vi (w64 (i + 1)))] obN ?_
          exact lD ((out ++ [gd a i]), (w64 (i + 1)), k) [] h
        · have h := h.2 hb48
          obtain ⟨h53, h54, h55, h56, h⟩ := h
          refine sM [88] [(181, vB (i == (↑(List.length (List.map enc_i64 a)) : Int) || decide (gd b k < gd a i)))] ?_ (fun hk0 => ?_)
          · refine cD (t := 60) (b := i == (↑(List.length (List.map enc_i64 a)) : Int) || decide (gd b k < gd a i)) (fun hb57 => ?_) (fun hb57 => ?_)
            · have h := h.1 hb57
              obtain ⟨h58, h⟩ := h
              obtain ⟨h59, h⟩ := h
              obtain ⟨h60, h⟩ := h
              refine sDE kk [.e (fi (gd b k))] [181] [(16, .own 3 (List.map enc_i64 out ++ List.take (List.length [FV.pv (Value.int IntKind.i64 (gd b k))]) (List.drop (0 : Nat) [FV.pv (Value.int IntKind.i64 (gd b k))])))] [(16, oL 3 enc_i64 (out ++ [gd b k]))] (obC h58 (obC (idx_ok enc_i64 b k _ rfl h58 h59) (obC (show (0 : Nat) = (0 : Nat) ∧ List.length (List.map enc_i64 out) = List.length (List.map enc_i64 out) from by first | decide | rfl | trivial | (simp only [nm] <;> first | decide | rfl | omega)) (obC (show (List.length (List.map enc_i64 out) + List.length (List.take (1 : Nat) (List.drop (0 : Nat) [FV.pv (Value.int IntKind.i64 (gd b k))]))) * (8 : Nat) ≤ (2 : Nat) ^ (47 : Nat) from by simpa only [nm] using h60) (obC (show List.all (List.take (1 : Nat) (List.drop (0 : Nat) [FV.pv (Value.int IntKind.i64 (gd b k))])) (FV.fits (1 : Nat)) = true from by first | exact fits_i64 _ | rfl | simp [FV.fits, FV.size, FV.cells, FV.one, ]) obN))))) ?_
              refine rD kk [] [] [(22, vi (w64 (k + 1)))] obN ?_
              exact lD ((out ++ [gd b k]), i, (w64 (k + 1))) [] h
            · have h := h.2 hb57
              obtain ⟨h61, h⟩ := h
              obtain ⟨h62, h⟩ := h
              obtain ⟨h63, h⟩ := h
              refine sDE kk [.e (fi (gd a i))] [181] [(16, .own 3 (List.map enc_i64 out ++ List.take (List.length [FV.pv (Value.int IntKind.i64 (gd a i))]) (List.drop (0 : Nat) [FV.pv (Value.int IntKind.i64 (gd a i))])))] [(16, oL 3 enc_i64 (out ++ [gd a i]))] (obC h61 (obC (idx_ok enc_i64 a i _ rfl h61 h62) (obC (show (0 : Nat) = (0 : Nat) ∧ List.length (List.map enc_i64 out) = List.length (List.map enc_i64 out) from by first | decide | rfl | trivial | (simp only [nm] <;> first | decide | rfl | omega)) (obC (show (List.length (List.map enc_i64 out) + List.length (List.take (1 : Nat) (List.drop (0 : Nat) [FV.pv (Value.int IntKind.i64 (gd a i))]))) * (8 : Nat) ≤ (2 : Nat) ^ (47 : Nat) from by simpa only [nm] using h63) (obC (show List.all (List.take (1 : Nat) (List.drop (0 : Nat) [FV.pv (Value.int IntKind.i64 (gd a i))])) (FV.fits (1 : Nat)) = true from by first | exact fits_i64 _ | rfl | simp [FV.fits, FV.size, FV.cells, FV.one, ]) obN))))) ?_
              refine sD kk [] [] [(19, vi (w64 (i + 1)))] obN ?_
              refine rD kk [] [] [(22, vi (w64 (k + 1)))] obN ?_
              exact lD ((out ++ [gd a i]), (w64 (i + 1)), (w64 (k + 1))) [] h
          · rcases Bool.eq_false_or_eq_true (i == (↑(List.length (List.map enc_i64 a)) : Int)) with hb52 | hb52
            · refine sD kk [.b false, .b false, .b false, .b false, .b false, .b false, .b false, .b false, .b false, .b true] [88] [(181, vB true)] (obC (gff hb52) (obC (gff hb52) (obC (gff hb52) (obC (gff hb52) (obC (gff hb52) (obC (gff hb52) (obC (gff hb52) (obC (gff hb52) (obC (gff hb52) (obC hb52 obN)))))))))) ?_
              exact Sem.cast (by try rw [hb52]; kernel_rfl) hk0
            · refine sD kk [.b true, .b true, .b true, .e (fi (gd b k)), .b true, .b true, .b true, .b true, .e (fi (gd a i)), .b true, .b true, .b false] [88] [(181, vB (decide (gd b k < gd a i)))] (obC (gft hb52) (obC (gft hb52) (obC (gft hb52) (obC (h53 hb52) (obC (idx_ok enc_i64 b k _ rfl (h53 hb52) (h54 hb52)) (obC (gft hb52) (obC (gft hb52) (obC (gft hb52) (obC (gft hb52) (obC (h55 hb52) (obC (idx_ok enc_i64 a i _ rfl (h55 hb52) (h56 hb52)) (obC (gft hb52) (obC (gft hb52) (obC hb52 obN)))))))))))))) ?_
              exact Sem.cast (by try rw [hb52]; kernel_rfl) hk0
      · rcases Bool.eq_false_or_eq_true (k == (↑(List.length (List.map enc_i64 b)) : Int)) with hb42 | hb42
        · refine sD kk [.b false, .b false, .b false, .b false, .b false, .b false, .b true] [] [(88, vB true)] (obC (gff hb42) (obC (gff hb42) (obC (gff hb42) (obC (gff hb42) (obC (gff hb42) (obC (gff hb42) (obC hb42 obN))))))) ?_
          exact Sem.cast (by try rw [hb42]; kernel_rfl) hk0
        · rcases Bool.eq_false_or_eq_true (decide (i < (↑(List.length (List.map enc_i64 a)) : Int))) with hb43 | hb43
          · refine sD kk [.b true, .b true, .b true, .b true, .b true, .b true, .b true, .b true, .e (fi (gd a i)), .b true, .b true, .b true, .b true, .e (fi (gd b k)), .b true, .b true, .b true, .b true, .b false] [] [(88, vB (decide (gd a i < gd b k)))] (obC (gft hb42) (obC (gft hb42) (obC (gft hb42) (obC (gft hb42) (obC (gft hb42) (obC (gtt hb43) (obC (gtt hb43) (obC (gtt hb43) (obC ((h44 hb42) hb43) (obC (idx_ok enc_i64 a i _ rfl ((h44 hb42) hb43) ((h45 hb42) hb43)) (obC (gtt hb43) (obC (gtt hb43) (obC (gtt hb43) (obC (gtt hb43) (obC ((h46 hb42) hb43) (obC (idx_ok enc_i64 b k _ rfl ((h46 hb42) hb43) ((h47 hb42) hb43)) (obC (gtt hb43) (obC (gtt hb43) (obC (gft hb42) (obC hb43 (obC hb42 obN))))))))))))))))))))) ?_
            exact Sem.cast (by try rw [hb42]; try rw [hb43]; kernel_rfl) hk0
          · refine sD kk [.b true, .b true, .b true, .b true, .b true, .b false, .b false, .b false, .b false, .b false, .b false, .b false, .b false, .b false, .b true, .b false, .b false] [] [(88, vB false)] (obC (gft hb42) (obC (gft hb42) (obC (gft hb42) (obC (gft hb42) (obC (gft hb42) (obC (gtf hb43) (obC (gtf hb43) (obC (gtf hb43) (obC (gtf hb43) (obC (gtf hb43) (obC (gtf hb43) (obC (gtf hb43) (obC (gtf hb43) (obC (gtf hb43) (obC (gft hb42) (obC hb43 (obC hb42 obN))))))))))))))))) ?_
            exact Sem.cast (by try rw [hb42]; try rw [hb43]; kernel_rfl) hk0
    · have h := h.2 hb41
      refine xD (i := 0) ?_
      show Sem _ _ _ _ _
      refine wkD [1, 4, 19, 22, 52] ?_
      refine sD kk [] [16] [(13, oL 3 enc_i64 out)] obN ?_
      refine tD ?_
      obtain he0 := h
      subst res
      exact (endD [(13, 0)] (vL enc_i64 out) []).1
  · rcases Bool.eq_false_or_eq_true (decide (i < (↑(List.length (List.map enc_i64 a)) : Int))) with hb40 | hb40
    · refine sD kk [.b false, .b false, .b false, .b false, .b true] [] [(52, vB true)] (obC (gff hb40) (obC (gff hb40) (obC (gff hb40) (obC (gff hb40) (obC hb40 obN))))) ?_
      exact Sem.cast (by try rw [hb40]; kernel_rfl) hk0
    · refine sDE kk [.b true, .b true, .b true, .b true, .b false] [] [(52, vB (decide (k < (↑(List.length (List.map enc_i64 b)) : Int))))] [(52, vB (decide (k < (↑(List.length b) : Int))))] (obC (gft hb40) (obC (gft hb40) (obC (gft hb40) (obC (gft hb40) (obC hb40 obN))))) ?_
      exact Sem.cast (by try rw [hb40]; kernel_rfl) hk0
set_option maxHeartbeats 1000000 in
theorem W_heckleref09_cat (a : api_Places) (b : api_Places) (res : api_Places)
    (h : (∃ r0 : api_Places, C_heckleref09_both a b r0 ∧ (∃ r0_1 : List Int, C_heckleref09_moved (api_Places.First b) ((↑(List.length (api_Places.Sets a)) : Int)) r0_1 ∧ (∃ r0_2 : List Int, C_heckleref09_moved (api_Places.Last b) ((↑(List.length (api_Places.Sets a)) : Int)) r0_2 ∧ (∃ (Inv25 : List (List Int) → Int → Prop) (mu26 : List (List Int) → Int → Nat), Inv25 (api_Places.Follow r0) 0 ∧ (∀ (out_Follow : List (List Int)) (i : Int), Inv25 out_Follow i → (((decide (i < (↑(List.length (api_Places.Last a)) : Int))) = true → ((0 : Int) ≤ i) ∧ i < ↑(List.length (api_Places.Last a)) ∧ ((0 : Int) ≤ i) ∧ i < ↑(List.length (api_Places.Last a)) ∧ ((0 : Int) ≤ gd (api_Places.Last a) i) ∧ (Int.toNat (gd (api_Places.Last a) i) < List.length out_Follow) ∧ gd (api_Places.Last a) i < ↑(List.length out_Follow) ∧ (∃ r0_5 : List Int, C_heckleref09_Add (gd out_Follow (gd (api_Places.Last a) i)) r0_1 r0_5 ∧ ((0 : Int) ≤ gd (api_Places.Last a) i) ∧ (Int.toNat (gd (api_Places.Last a) i) < List.length out_Follow) ∧ gd (api_Places.Last a) i < ↑(List.length out_Follow) ∧ (Inv25 (List.set out_Follow (Int.toNat (gd (api_Places.Last a) i)) r0_5) (w64 (i + 1)) ∧ mu26 (List.set out_Follow (Int.toNat (gd (api_Places.Last a) i)) r0_5) (w64 (i + 1)) < mu26 out_Follow i))) ∧ ((decide (i < (↑(List.length (api_Places.Last a)) : Int))) = false → (∃ J41 : List Int → Prop, (∀ (out_First : List Int), J41 out_First → (∃ J44 : List Int → Prop, (∀ (out_Last : List Int), J44 out_Last → (res = ({ Sets := api_Places.Sets r0, First := out_First, Last := out_Last, Follow := out_Follow, Null := api_Places.Null a && api_Places.Null b }))) ∧ (((api_Places.Null b) = true → (∃ r0_8 : List Int, C_heckleref09_Add (api_Places.Last a) r0_2 r0_8 ∧ J44 r0_8)) ∧ ((api_Places.Null b) = false → J44 r0_2)))) ∧ (((api_Places.Null a) = true → (∃ r0_9 : List Int, C_heckleref09_Add (api_Places.First a) r0_1 r0_9 ∧ J41 r0_9)) ∧ ((api_Places.Null a) = false → J41 (api_Places.First a)))))))))))) : C_heckleref09_cat a b res := by
  unfold C_heckleref09_cat
  have kk := cfOk [76] 77
  refine fD (x := bodyOf Try.f47) kk Try.func47 ?_
  refine wkS [1, 4] [(1, av_api_Places a), (4, av_api_Places b)] (by kernel_rfl) ?_
  refine sDE kk [] [1, 4] [(7, .ptr 8 0), (8, av_api_Places a), (10, .ptr 11 0), (11, av_api_Places b), (13, .ptr 14 0), (14, .agg [.own 24 ([]), .own 3 ([]), .own 3 ([]), .own 37 ([]), vB false])] [(7, .ptr 8 0), (8, av_api_Places a), (10, .ptr 11 0), (11, av_api_Places b), (13, .ptr 14 0), (14, .agg [oL 24 enc_arr4_uint64 ([]), oL 3 enc_i64 ([]), oL 3 enc_i64 ([]), oL 37 encs_i64 ([]), vB false])] obN ?_
  refine sDE kk [] [] [(16, vi ((↑(List.length (List.map enc_arr4_uint64 (api_Places.Sets a))) : Int)))] [(16, vi ((↑(List.length (api_Places.Sets a)) : Int)))] obN ?_
  obtain ⟨r0, hc0, h⟩ := h
  refine sD kk [.c (.agg [vL enc_arr4_uint64 (api_Places.Sets r0), oL 3 enc_i64 (api_Places.First r0), oL 3 enc_i64 (api_Places.Last r0), oL 37 encs_i64 (api_Places.Follow r0), vB (api_Places.Null r0)]) []] [] [(19, .ptr 20 0), (20, .agg [vL enc_arr4_uint64 (api_Places.Sets r0), oL 3 enc_i64 (api_Places.First r0), oL 3 enc_i64 (api_Places.Last r0), oL 37 encs_i64 (api_Places.Follow r0), vB (api_Places.Null r0)])] (obC hc0 obN) ?_
  obtain ⟨r0_1, hc1, h⟩ := h
  obtain ⟨r0_2, hc2, h⟩ := h
  refine sD kk [.c (oL 3 enc_i64 r0_1) [], .c (oL 3 enc_i64 r0_2) []] [16] [(22, oL 3 enc_i64 r0_1), (25, oL 3 enc_i64 r0_2)] (obC hc1 (obC hc2 obN)) ?_
  refine qD ?_
  refine sD kk [] [] [(28, vi 0)] obN ?_
  refine bD (id := 0) ?_
  obtain ⟨Inv25, mu26, h0Inv25, hInv25⟩ := h
  refine loD (fun (q : List (List Int) × Int) => (fun (out_Follow : List (List Int)) (i : Int) => ([(7, .ptr 8 0), (8, av_api_Places a), (10, .ptr 11 0), (11, av_api_Places b), (13, .ptr 14 0), (14, .agg [oL 24 enc_arr4_uint64 ([]), oL 3 enc_i64 ([]), oL 3 enc_i64 ([]), oL 37 encs_i64 ([]), vB false]), (19, .ptr 20 0), (20, .agg [vL enc_arr4_uint64 (api_Places.Sets r0), oL 3 enc_i64 (api_Places.First r0), oL 3 enc_i64 (api_Places.Last r0), oL 37 encs_i64 out_Follow, vB (api_Places.Null r0)]), (22, vL enc_i64 r0_1), (25, oL 3 enc_i64 r0_2), (28, vi i)] : Sta)) q.1 q.2) (fun (q : List (List Int) × Int) => Inv25 q.1 q.2) (fun (q : List (List Int) × Int) => mu26 q.1 q.2) ((api_Places.Follow r0), 0) [(22, 0)] h0Inv25 ?_
  rintro ⟨out_Follow, i⟩ hi
  have h := hInv25 out_Follow i hi
  refine qD ?_
  refine sDE kk [] [] [(85, vB (decide (i < (↑(List.length (List.map enc_i64 (api_Places.Last a))) : Int))))] [(85, vB (decide (i < (↑(List.length (api_Places.Last a)) : Int))))] obN ?_
  refine cD (t := 28) (b := decide (i < (↑(List.length (api_Places.Last a)) : Int))) (fun hb27 => ?_) (fun hb27 => ?_)
  · have h := h.1 hb27
    refine Sem.skip' (by kernel_rfl) Wk.refl ?_
    show Sem _ _ _ _ _
    refine wkD [85] ?_
    refine qD ?_
    refine bD (id := 1) ?_
    obtain ⟨h28, h⟩ := h
    obtain ⟨h29, h⟩ := h
    obtain ⟨h30, h⟩ := h
    obtain ⟨h31, h⟩ := h
    obtain ⟨h32, h⟩ := h
    obtain ⟨h33, h⟩ := h
    obtain ⟨h34, h⟩ := h
    obtain ⟨r0_5, hc35, h⟩ := h
    obtain ⟨h36, h⟩ := h
    obtain ⟨h37, h⟩ := h
    obtain ⟨h38, h⟩ := h
    refine rDE kk [.e (fi (gd (api_Places.Last a) i)), .e (fi (gd (api_Places.Last a) i)), .e (fL enc_i64 (gd out_Follow (gd (api_Places.Last a) i))), .c (vL enc_i64 r0_5) [], .e (fL enc_i64 (gd out_Follow (gd (api_Places.Last a) i)))] [] [(20, .agg [vL enc_arr4_uint64 (api_Places.Sets r0), oL 3 enc_i64 (api_Places.First r0), oL 3 enc_i64 (api_Places.Last r0), .own 37 (List.set (List.map encs_i64 out_Follow) ((0 : Nat) + Int.toNat (gd (api_Places.Last a) i)) (FV.sl (List.map enc_i64 r0_5))), vB (api_Places.Null r0)])] [(20, .agg [vL enc_arr4_uint64 (api_Places.Sets r0), oL 3 enc_i64 (api_Places.First r0), oL 3 enc_i64 (api_Places.Last r0), oL 37 encs_i64 (List.set out_Follow (Int.toNat (gd (api_Places.Last a) i)) r0_5), vB (api_Places.Null r0)])] (obC h28 (obC (idx_ok enc_i64 (api_Places.Last a) i _ rfl h28 h29) (obC h30 (obC (idx_ok enc_i64 (api_Places.Last a) i _ rfl h30 h31) (obC h32 (obC (show Int.toNat (gd (api_Places.Last a) i) < List.length (List.map encs_i64 out_Follow) from by simpa only [nm] using h33) (obC (show (List.map encs_i64 out_Follow)[((0 : Nat) + Int.toNat (gd (api_Places.Last a) i) : Nat)]? = some (fL enc_i64 (gd out_Follow (gd (api_Places.Last a) i))) from by have := idx_ok encs_i64 out_Follow (gd (api_Places.Last a) i) _ rfl h32 h34; simpa only [nm, enq, encs_i64] using this) (obC hc35 (obC h36 (obC (show Int.toNat (gd (api_Places.Last a) i) < List.length (List.map encs_i64 out_Follow) from by simpa only [nm] using h37) (obC (show (List.map encs_i64 out_Follow)[((0 : Nat) + Int.toNat (gd (api_Places.Last a) i) : Nat)]? = some (fL enc_i64 (gd out_Follow (gd (api_Places.Last a) i))) from by have := idx_ok encs_i64 out_Follow (gd (api_Places.Last a) i) _ rfl h36 h38; simpa only [nm, enq, encs_i64] using this) obN))))))))))) ?_
    show Sem _ _ _ _ _
    refine rD kk [] [] [(28, vi (w64 (i + 1)))] obN ?_
    exact lD ((List.set out_Follow (Int.toNat (gd (api_Places.Last a) i)) r0_5), (w64 (i + 1))) [] h
  · have h := h.2 hb27
    refine xD (i := 0) ?_
    show Sem _ _ _ _ _
    refine wkD [28, 85] ?_
    refine sDE kk [] [] [(20, .agg [vL enc_arr4_uint64 (api_Places.Sets r0), vL enc_i64 (api_Places.First a), .f (FV.sl (List.take (List.length (List.map enc_i64 r0_2)) (List.drop (0 : Nat) (List.map enc_i64 r0_2)))), oL 37 encs_i64 out_Follow, vB (api_Places.Null r0)]), (25, vL enc_i64 r0_2)] [(20, .agg [vL enc_arr4_uint64 (api_Places.Sets r0), vL enc_i64 (api_Places.First a), vL enc_i64 r0_2, oL 37 encs_i64 out_Follow, vB (api_Places.Null r0)]), (25, vL enc_i64 r0_2)] obN ?_
    obtain ⟨J41, hJ41, h⟩ := h
    refine sjD (fun (q : List Int) => J41 q) (fun (q : List Int) => (fun (out_First : List Int) => ([(7, .ptr 8 0), (8, av_api_Places a), (10, .ptr 11 0), (11, av_api_Places b), (13, .ptr 14 0), (14, .agg [oL 24 enc_arr4_uint64 ([]), oL 3 enc_i64 ([]), oL 3 enc_i64 ([]), oL 37 encs_i64 ([]), vB false]), (19, .ptr 20 0), (20, .agg [vL enc_arr4_uint64 (api_Places.Sets r0), vL enc_i64 out_First, vL enc_i64 r0_2, oL 37 encs_i64 out_Follow, vB (api_Places.Null r0)]), (25, vL enc_i64 r0_2)] : Sta)) q) ?_ ?_
    · rintro out_First hj
      have h := hJ41 out_First hj
      obtain ⟨J44, hJ44, h⟩ := h
      refine sjD (fun (q : List Int) => J44 q) (fun (q : List Int) => (fun (out_Last : List Int) => ([(7, .ptr 8 0), (8, av_api_Places a), (10, .ptr 11 0), (11, av_api_Places b), (13, .ptr 14 0), (14, .agg [oL 24 enc_arr4_uint64 ([]), oL 3 enc_i64 ([]), oL 3 enc_i64 ([]), oL 37 encs_i64 ([]), vB false]), (19, .ptr 20 0), (20, .agg [vL enc_arr4_uint64 (api_Places.Sets r0), vL enc_i64 out_First, vL enc_i64 out_Last, oL 37 encs_i64 out_Follow, vB (api_Places.Null r0)])] : Sta)) q) ?_ ?_
      · rintro out_Last hj
        have h := hJ44 out_Last hj
        refine sM [7, 8, 10, 11] [(20, .agg [vL enc_arr4_uint64 (api_Places.Sets r0), vL enc_i64 out_First, vL enc_i64 out_Last, oL 37 encs_i64 out_Follow, vB (api_Places.Null a && api_Places.Null b)])] ?_ (fun hk0 => ?_)
        · refine sD kk [] [19, 20] [(14, .agg [vL enc_arr4_uint64 (api_Places.Sets r0), vL enc_i64 out_First, vL enc_i64 out_Last, oL 37 encs_i64 out_Follow, vB (api_Places.Null a && api_Places.Null b)])] (obC (show (0 : Nat) = (0 : Nat) ∧ List.length (List.map encs_i64 out_Follow) = List.length (List.map encs_i64 out_Follow) from by first | decide | rfl | trivial | (simp only [nm] <;> first | decide | rfl | omega)) obN) ?_
          refine tD ?_
          obtain he0 := h
          subst res
          exact (endD [] (.agg [vL enc_arr4_uint64 (api_Places.Sets r0), vL enc_i64 out_First, vL enc_i64 out_Last, oL 37 encs_i64 out_Follow, vB (api_Places.Null a && api_Places.Null b)]) []).1
        · rcases Bool.eq_false_or_eq_true (api_Places.Null a) with hb45 | hb45
          · refine sD kk [.b true, .b true, .b true] [7, 8, 10, 11] [(20, .agg [vL enc_arr4_uint64 (api_Places.Sets r0), vL enc_i64 out_First, vL enc_i64 out_Last, oL 37 encs_i64 out_Follow, vB (api_Places.Null b)])] (obC (gtt hb45) (obC (gtt hb45) (obC hb45 obN))) ?_
            exact Sem.cast (by try rw [hb45]; kernel_rfl) hk0
          · refine sD kk [.b false, .b false, .b false] [7, 8, 10, 11] [(20, .agg [vL enc_arr4_uint64 (api_Places.Sets r0), vL enc_i64 out_First, vL enc_i64 out_Last, oL 37 encs_i64 out_Follow, vB false])] (obC (gtf hb45) (obC (gtf hb45) (obC hb45 obN))) ?_
            exact Sem.cast (by try rw [hb45]; kernel_rfl) hk0
      · refine sD kk [] [] [(190, vB (api_Places.Null b))] obN ?_
        refine cD (t := 63) (b := api_Places.Null b) (fun hb46 => ?_) (fun hb46 => ?_)
        · have h := h.1 hb46
          obtain ⟨r0_8, hc47, h⟩ := h
          refine rD kk [.c (vL enc_i64 r0_8) []] [25, 190] [(20, .agg [vL enc_arr4_uint64 (api_Places.Sets r0), vL enc_i64 out_First, vL enc_i64 r0_8, oL 37 encs_i64 out_Follow, vB (api_Places.Null r0)])] (obC hc47 obN) ?_
          exact jD r0_8 [] h
        · have h := h.2 hb46
          refine Sem.skip' (by kernel_rfl) Wk.refl ?_
          exact jD r0_2 [] h
    · refine sD kk [] [] [(169, vB (api_Places.Null a))] obN ?_
      refine cD (t := 56) (b := api_Places.Null a) (fun hb48 => ?_) (fun hb48 => ?_)
      · have h := h.1 hb48
        obtain ⟨r0_9, hc49, h⟩ := h
        refine rD kk [.c (vL enc_i64 r0_9) []] [22, 169] [(20, .agg [vL enc_arr4_uint64 (api_Places.Sets r0), vL enc_i64 r0_9, vL enc_i64 r0_2, oL 37 encs_i64 out_Follow, vB (api_Places.Null r0)])] (obC hc49 obN) ?_
        exact jD r0_9 [] h
      · have h := h.2 hb48
        refine Sem.skip' (by kernel_rfl) Wk.refl ?_
        exact jD (api_Places.First a) [] h
set_option maxHeartbeats 1000000 in
theorem W_heckleref09_alt (a : api_Places) (b : api_Places) (res : api_Places)
    (h : (∃ r0 : api_Places, C_heckleref09_both a b r0 ∧ (∃ r0_1 : List Int, C_heckleref09_moved (api_Places.First b) ((↑(List.length (api_Places.Sets a)) : Int)) r0_1 ∧ (∃ r0_2 : List Int, C_heckleref09_Add (api_Places.First a) r0_1 r0_2 ∧ (∃ r0_3 : List Int, C_heckleref09_moved (api_Places.Last b) ((↑(List.length (api_Places.Sets a)) : Int)) r0_3 ∧ (∃ r0_4 : List Int, C_heckleref09_Add (api_Places.Last a) r0_3 r0_4 ∧ (res = ({ Sets := api_Places.Sets r0, First := r0_2, Last := r0_4, Follow := api_Places.Follow r0, Null := api_Places.Null a || api_Places.Null b })))))))) : C_heckleref09_alt a b res := by
  unfold C_heckleref09_alt
  have kk := cfOk [36] 37
  refine fD (x := bodyOf Try.f48) kk Try.func48 ?_
  refine wkS [1, 4] [(1, av_api_Places a), (4, av_api_Places b)] (by kernel_rfl) ?_
  refine sDE kk [] [1, 4] [(7, .ptr 8 0), (8, av_api_Places a), (10, .ptr 11 0), (11, av_api_Places b), (13, .ptr 14 0), (14, .agg [.own 24 ([]), .own 3 ([]), .own 3 ([]), .own 37 ([]), vB false])] [(7, .ptr 8 0), (8, av_api_Places a), (10, .ptr 11 0), (11, av_api_Places b), (13, .ptr 14 0), (14, .agg [oL 24 enc_arr4_uint64 ([]), oL 3 enc_i64 ([]), oL 3 enc_i64 ([]), oL 37 encs_i64 ([]), vB false])] obN ?_
  refine sDE kk [] [] [(16, vi ((↑(List.length (List.map enc_arr4_uint64 (api_Places.Sets a))) : Int)))] [(16, vi ((↑(List.length (api_Places.Sets a)) : Int)))] obN ?_
  obtain ⟨r0, hc0, h⟩ := h
  refine sD kk [.c (.agg [vL enc_arr4_uint64 (api_Places.Sets r0), oL 3 enc_i64 (api_Places.First r0), oL 3 enc_i64 (api_Places.Last r0), oL 37 encs_i64 (api_Places.Follow r0), vB (api_Places.Null r0)]) []] [] [(19, .ptr 20 0), (20, .agg [vL enc_arr4_uint64 (api_Places.Sets r0), oL 3 enc_i64 (api_Places.First r0), oL 3 enc_i64 (api_Places.Last r0), oL 37 encs_i64 (api_Places.Follow r0), vB (api_Places.Null r0)])] (obC hc0 obN) ?_
  obtain ⟨r0_1, hc1, h⟩ := h
  obtain ⟨r0_2, hc2, h⟩ := h
  refine sD kk [.c (oL 3 enc_i64 r0_1) [], .c (vL enc_i64 r0_2) []] [] [(20, .agg [vL enc_arr4_uint64 (api_Places.Sets r0), vL enc_i64 r0_2, oL 3 enc_i64 (api_Places.Last r0), oL 37 encs_i64 (api_Places.Follow r0), vB (api_Places.Null r0)])] (obC hc1 (obC (Eq.mp (by unfold C_heckleref09_Add; (try simp only [List.drop_zero, List.take_length]); first | done | simp only [nm, enq] : C_heckleref09_Add (api_Places.First a) r0_1 r0_2 = CallE Try.prog 17 [vL enc_i64 (api_Places.First a), .f (FV.sl (List.take (List.length (List.map enc_i64 r0_1)) (List.drop (0 : Nat) (List.map enc_i64 r0_1))))] [] (vL enc_i64 r0_2) []) hc2) obN)) ?_
  obtain ⟨r0_3, hc3, h⟩ := h
  obtain ⟨r0_4, hc4, h⟩ := h
  refine sD kk [.c (oL 3 enc_i64 r0_3) [], .c (vL enc_i64 r0_4) []] [16] [(20, .agg [vL enc_arr4_uint64 (api_Places.Sets r0), vL enc_i64 r0_2, vL enc_i64 r0_4, oL 37 encs_i64 (api_Places.Follow r0), vB (api_Places.Null r0)])] (obC hc3 (obC (Eq.mp (by unfold C_heckleref09_Add; (try simp only [List.drop_zero, List.take_length]); first | done | simp only [nm, enq] : C_heckleref09_Add (api_Places.Last a) r0_3 r0_4 = CallE Try.prog 17 [vL enc_i64 (api_Places.Last a), .f (FV.sl (List.take (List.length (List.map enc_i64 r0_3)) (List.drop (0 : Nat) (List.map enc_i64 r0_3))))] [] (vL enc_i64 r0_4) []) hc4) obN)) ?_
  refine sM [7, 8, 10, 11] [(20, .agg [vL enc_arr4_uint64 (api_Places.Sets r0), vL enc_i64 r0_2, vL enc_i64 r0_4, oL 37 encs_i64 (api_Places.Follow r0), vB (api_Places.Null a || api_Places.Null b)])] ?_ (fun hk0 => ?_)
  · refine sD kk [] [19, 20] [(14, .agg [vL enc_arr4_uint64 (api_Places.Sets r0), vL enc_i64 r0_2, vL enc_i64 r0_4, oL 37 encs_i64 (api_Places.Follow r0), vB (api_Places.Null a || api_Places.Null b)])] (obC (show (0 : Nat) = (0 : Nat) ∧ List.length (List.map encs_i64 (api_Places.Follow r0)) = List.length (List.map encs_i64 (api_Places.Follow r0)) from by first | decide | rfl | trivial | (simp only [nm] <;> first | decide | rfl | omega)) obN) ?_
    refine tD ?_
    obtain he0 := h
    subst res
    exact (endD [] (.agg [vL enc_arr4_uint64 (api_Places.Sets r0), vL enc_i64 r0_2, vL enc_i64 r0_4, oL 37 encs_i64 (api_Places.Follow r0), vB (api_Places.Null a || api_Places.Null b)]) []).1
  · rcases Bool.eq_false_or_eq_true (api_Places.Null a) with hb5 | hb5
    · refine sD kk [.b false, .b false, .b true] [7, 8, 10, 11] [(20, .agg [vL enc_arr4_uint64 (api_Places.Sets r0), vL enc_i64 r0_2, vL enc_i64 r0_4, oL 37 encs_i64 (api_Places.Follow r0), vB true])] (obC (gff hb5) (obC (gff hb5) (obC hb5 obN))) ?_
      exact Sem.cast (by try rw [hb5]; kernel_rfl) hk0
    · refine sD kk [.b true, .b true, .b false] [7, 8, 10, 11] [(20, .agg [vL enc_arr4_uint64 (api_Places.Sets r0), vL enc_i64 r0_2, vL enc_i64 r0_4, oL 37 encs_i64 (api_Places.Follow r0), vB (api_Places.Null b)])] (obC (gft hb5) (obC (gft hb5) (obC hb5 obN))) ?_
      exact Sem.cast (by try rw [hb5]; kernel_rfl) hk0
set_option maxHeartbeats 1000000 in
theorem W_heckleref09_again (a : api_Places) (res : api_Places)
    (h : (∃ r0 : api_Places, C_heckleref09_both a ({ Sets := [], First := [], Last := [], Follow := [], Null := false }) r0 ∧ (∃ (Inv23 : List (List Int) → Int → Prop) (mu24 : List (List Int) → Int → Nat), Inv23 (api_Places.Follow r0) 0 ∧ (∀ (out_Follow : List (List Int)) (i : Int), Inv23 out_Follow i → (((decide (i < (↑(List.length (api_Places.Last a)) : Int))) = true → ((0 : Int) ≤ i) ∧ i < ↑(List.length (api_Places.Last a)) ∧ ((0 : Int) ≤ i) ∧ i < ↑(List.length (api_Places.Last a)) ∧ ((0 : Int) ≤ gd (api_Places.Last a) i) ∧ (Int.toNat (gd (api_Places.Last a) i) < List.length out_Follow) ∧ gd (api_Places.Last a) i < ↑(List.length out_Follow) ∧ (∃ r0_3 : List Int, C_heckleref09_Add (gd out_Follow (gd (api_Places.Last a) i)) (api_Places.First a) r0_3 ∧ ((0 : Int) ≤ gd (api_Places.Last a) i) ∧ (Int.toNat (gd (api_Places.Last a) i) < List.length out_Follow) ∧ gd (api_Places.Last a) i < ↑(List.length out_Follow) ∧ (Inv23 (List.set out_Follow (Int.toNat (gd (api_Places.Last a) i)) r0_3) (w64 (i + 1)) ∧ mu24 (List.set out_Follow (Int.toNat (gd (api_Places.Last a) i)) r0_3) (w64 (i + 1)) < mu24 out_Follow i))) ∧ ((decide (i < (↑(List.length (api_Places.Last a)) : Int))) = false → (res = ({ Sets := api_Places.Sets r0, First := api_Places.First a, Last := api_Places.Last a, Follow := out_Follow, Null := api_Places.Null a })))))))) : C_heckleref09_again a res := by
  unfold C_heckleref09_again
  have kk := cfOk [44] 45
  refine fD (x := bodyOf Try.f49) kk Try.func49 ?_
  refine wkS [1] [(1, av_api_Places a)] (by kernel_rfl) ?_
  refine sDE kk [] [1] [(4, .ptr 5 0), (5, av_api_Places a), (7, .ptr 8 0), (8, .agg [.own 24 ([]), .own 3 ([]), .own 3 ([]), .own 37 ([]), vB false])] [(4, .ptr 5 0), (5, av_api_Places a), (7, .ptr 8 0), (8, .agg [oL 24 enc_arr4_uint64 ([]), oL 3 enc_i64 ([]), oL 3 enc_i64 ([]), oL 37 encs_i64 ([]), vB false])] obN ?_
  obtain ⟨r0, hc0, h⟩ := h
  refine sD kk [.c (.agg [vL enc_arr4_uint64 (api_Places.Sets r0), oL 3 enc_i64 (api_Places.First r0), oL 3 enc_i64 (api_Places.Last r0), oL 37 encs_i64 (api_Places.Follow r0), vB (api_Places.Null r0)]) []] [] [(10, .ptr 11 0), (11, .agg [vL enc_arr4_uint64 (api_Places.Sets r0), oL 3 enc_i64 (api_Places.First r0), oL 3 enc_i64 (api_Places.Last r0), oL 37 encs_i64 (api_Places.Follow r0), vB (api_Places.Null r0)])] (obC (Eq.mp (by unfold C_heckleref09_both; (try simp only [List.drop_zero, List.take_length]); first | done | simp only [nm, enq] : C_heckleref09_both a ({ Sets := [], First := [], Last := [], Follow := [], Null := false }) r0 = CallE Try.prog 65 [.agg [vL enc_arr4_uint64 (api_Places.Sets a), vL enc_i64 (api_Places.First a), vL enc_i64 (api_Places.Last a), vL encs_i64 (api_Places.Follow a), vB (api_Places.Null a)], .agg [.f (FV.sl []), .f (FV.sl []), .f (FV.sl []), .f (FV.sl []), vB false]] [] (.agg [vL enc_arr4_uint64 (api_Places.Sets r0), oL 3 enc_i64 (api_Places.First r0), oL 3 enc_i64 (api_Places.Last r0), oL 37 encs_i64 (api_Places.Follow r0), vB (api_Places.Null r0)]) []) hc0) obN) ?_
  refine qD ?_
  refine sD kk [] [] [(13, vi 0)] obN ?_
  refine bD (id := 0) ?_
  obtain ⟨Inv23, mu24, h0Inv23, hInv23⟩ := h
  refine loD (fun (q : List (List Int) × Int) => (fun (out_Follow : List (List Int)) (i : Int) => ([(4, .ptr 5 0), (5, av_api_Places a), (7, .ptr 8 0), (8, .agg [oL 24 enc_arr4_uint64 ([]), oL 3 enc_i64 ([]), oL 3 enc_i64 ([]), oL 37 encs_i64 ([]), vB false]), (10, .ptr 11 0), (11, .agg [vL enc_arr4_uint64 (api_Places.Sets r0), oL 3 enc_i64 (api_Places.First r0), oL 3 enc_i64 (api_Places.Last r0), oL 37 encs_i64 out_Follow, vB (api_Places.Null r0)]), (13, vi i)] : Sta)) q.1 q.2) (fun (q : List (List Int) × Int) => Inv23 q.1 q.2) (fun (q : List (List Int) × Int) => mu24 q.1 q.2) ((api_Places.Follow r0), 0) [] h0Inv23 ?_
  rintro ⟨out_Follow, i⟩ hi
  have h := hInv23 out_Follow i hi
  refine qD ?_
  refine sDE kk [] [] [(37, vB (decide (i < (↑(List.length (List.map enc_i64 (api_Places.Last a))) : Int))))] [(37, vB (decide (i < (↑(List.length (api_Places.Last a)) : Int))))] obN ?_
  refine cD (t := 12) (b := decide (i < (↑(List.length (api_Places.Last a)) : Int))) (fun hb25 => ?_) (fun hb25 => ?_)
  · have h := h.1 hb25
    refine Sem.skip' (by kernel_rfl) Wk.refl ?_
    show Sem _ _ _ _ _
    refine wkD [37] ?_
    refine qD ?_
    refine bD (id := 1) ?_
    obtain ⟨h26, h⟩ := h
    obtain ⟨h27, h⟩ := h
    obtain ⟨h28, h⟩ := h
    obtain ⟨h29, h⟩ := h
    obtain ⟨h30, h⟩ := h
    obtain ⟨h31, h⟩ := h
    obtain ⟨h32, h⟩ := h
    obtain ⟨r0_3, hc33, h⟩ := h
    obtain ⟨h34, h⟩ := h
    obtain ⟨h35, h⟩ := h
    obtain ⟨h36, h⟩ := h
    refine rDE kk [.e (fi (gd (api_Places.Last a) i)), .e (fi (gd (api_Places.Last a) i)), .e (fL enc_i64 (gd out_Follow (gd (api_Places.Last a) i))), .c (vL enc_i64 r0_3) [], .e (fL enc_i64 (gd out_Follow (gd (api_Places.Last a) i)))] [] [(11, .agg [vL enc_arr4_uint64 (api_Places.Sets r0), oL 3 enc_i64 (api_Places.First r0), oL 3 enc_i64 (api_Places.Last r0), .own 37 (List.set (List.map encs_i64 out_Follow) ((0 : Nat) + Int.toNat (gd (api_Places.Last a) i)) (FV.sl (List.map enc_i64 r0_3))), vB (api_Places.Null r0)])] [(11, .agg [vL enc_arr4_uint64 (api_Places.Sets r0), oL 3 enc_i64 (api_Places.First r0), oL 3 enc_i64 (api_Places.Last r0), oL 37 encs_i64 (List.set out_Follow (Int.toNat (gd (api_Places.Last a) i)) r0_3), vB (api_Places.Null r0)])] (obC h26 (obC (idx_ok enc_i64 (api_Places.Last a) i _ rfl h26 h27) (obC h28 (obC (idx_ok enc_i64 (api_Places.Last a) i _ rfl h28 h29) (obC h30 (obC (show Int.toNat (gd (api_Places.Last a) i) < List.length (List.map encs_i64 out_Follow) from by simpa only [nm] using h31) (obC (show (List.map encs_i64 out_Follow)[((0 : Nat) + Int.toNat (gd (api_Places.Last a) i) : Nat)]? = some (fL enc_i64 (gd out_Follow (gd (api_Places.Last a) i))) from by have := idx_ok encs_i64 out_Follow (gd (api_Places.Last a) i) _ rfl h30 h32; simpa only [nm, enq, encs_i64] using this) (obC hc33 (obC h34 (obC (show Int.toNat (gd (api_Places.Last a) i) < List.length (List.map encs_i64 out_Follow) from by simpa only [nm] using h35) (obC (show (List.map encs_i64 out_Follow)[((0 : Nat) + Int.toNat (gd (api_Places.Last a) i) : Nat)]? = some (fL enc_i64 (gd out_Follow (gd (api_Places.Last a) i))) from by have := idx_ok encs_i64 out_Follow (gd (api_Places.Last a) i) _ rfl h34 h36; simpa only [nm, enq, encs_i64] using this) obN))))))))))) ?_
    show Sem _ _ _ _ _
    refine rD kk [] [] [(13, vi (w64 (i + 1)))] obN ?_
    exact lD ((List.set out_Follow (Int.toNat (gd (api_Places.Last a) i)) r0_3), (w64 (i + 1))) [] h
  · have h := h.2 hb25
    refine xD (i := 0) ?_
    show Sem _ _ _ _ _
    refine wkD [13, 37] ?_
    refine sD kk [] [4, 5] [(11, .agg [vL enc_arr4_uint64 (api_Places.Sets r0), vL enc_i64 (api_Places.First a), vL enc_i64 (api_Places.Last a), oL 37 encs_i64 out_Follow, vB (api_Places.Null a)])] obN ?_
    refine sD kk [] [10, 11] [(8, .agg [vL enc_arr4_uint64 (api_Places.Sets r0), vL enc_i64 (api_Places.First a), vL enc_i64 (api_Places.Last a), oL 37 encs_i64 out_Follow, vB (api_Places.Null a)])] (obC (show (0 : Nat) = (0 : Nat) ∧ List.length (List.map encs_i64 out_Follow) = List.length (List.map encs_i64 out_Follow) from by first | decide | rfl | trivial | (simp only [nm] <;> first | decide | rfl | omega)) obN) ?_
    refine tD ?_
    obtain he0 := h
    subst res
    exact (endD [] (.agg [vL enc_arr4_uint64 (api_Places.Sets r0), vL enc_i64 (api_Places.First a), vL enc_i64 (api_Places.Last a), oL 37 encs_i64 out_Follow, vB (api_Places.Null a)]) []).1
set_option maxHeartbeats 1000000 in
theorem W_heckleref09_maybe (a : api_Places) (res : api_Places)
    (h : (res = ({ Sets := api_Places.Sets a, First := api_Places.First a, Last := api_Places.Last a, Follow := api_Places.Follow a, Null := true }))) : C_heckleref09_maybe a res := by
  unfold C_heckleref09_maybe
  have kk := cfOk [4] 5
  refine fD (x := bodyOf Try.f50) kk Try.func50 ?_
  refine wkS [1] [(1, av_api_Places a)] (by kernel_rfl) ?_
  refine sDE kk [] [1] [(4, .ptr 5 0), (5, av_api_Places a), (7, .ptr 8 0), (8, .agg [.own 24 ([]), .own 3 ([]), .own 3 ([]), .own 37 ([]), vB false])] [(4, .ptr 5 0), (5, av_api_Places a), (7, .ptr 8 0), (8, .agg [oL 24 enc_arr4_uint64 ([]), oL 3 enc_i64 ([]), oL 3 enc_i64 ([]), oL 37 encs_i64 ([]), vB false])] obN ?_
  refine sD kk [] [] [(5, .agg [vL enc_arr4_uint64 (api_Places.Sets a), vL enc_i64 (api_Places.First a), vL enc_i64 (api_Places.Last a), vL encs_i64 (api_Places.Follow a), vB true])] obN ?_
  refine sD kk [] [4, 5] [(8, .agg [vL enc_arr4_uint64 (api_Places.Sets a), vL enc_i64 (api_Places.First a), vL enc_i64 (api_Places.Last a), vL encs_i64 (api_Places.Follow a), vB true])] obN ?_
  refine tD ?_
  obtain he0 := h
  subst res
  exact (endD [] (.agg [vL enc_arr4_uint64 (api_Places.Sets a), vL enc_i64 (api_Places.First a), vL enc_i64 (api_Places.Last a), vL encs_i64 (api_Places.Follow a), vB true]) []).1
set_option maxHeartbeats 1000000 in
theorem W_heckleref09_of (x : api_Rx) (res : api_Places)
    (h : (((api_Rx.Kind x == (2 : Int)) = true → (res = ({ Sets := [api_Rx.Set x], First := [(0 : Int)], Last := [(0 : Int)], Follow := [[]], Null := false }))) ∧ ((api_Rx.Kind x == (2 : Int)) = false → (((api_Rx.Kind x == (3 : Int)) = true → (∃ r0 : api_Places, C_heckleref09_empty r0 ∧ (∃ (Inv12 : List arr4_uint64 → List Int → List Int → List (List Int) → Bool → Int → Prop) (mu13 : List arr4_uint64 → List Int → List Int → List (List Int) → Bool → Int → Nat), Inv12 (api_Places.Sets r0) (api_Places.First r0) (api_Places.Last r0) (api_Places.Follow r0) (api_Places.Null r0) 0 ∧ (∀ (out_Sets : List arr4_uint64) (out_First : List Int) (out_Last : List Int) (out_Follow : List (List Int)) (out_Null : Bool) (i : Int), Inv12 out_Sets out_First out_Last out_Follow out_Null i → (((decide (i < (↑(List.length (api_Rx.Kids x)) : Int))) = true → ((0 : Int) ≤ i) ∧ i < ↑(List.length (api_Rx.Kids x)) ∧ (∃ r0_5 : api_Places, C_heckleref09_of (gd (api_Rx.Kids x) i) r0_5 ∧ (∃ r0_6 : api_Places, C_heckleref09_cat ({ Sets := out_Sets, First := out_First, Last := out_Last, Follow := out_Follow, Null := out_Null }) r0_5 r0_6 ∧ (Inv12 (api_Places.Sets r0_6) (api_Places.First r0_6) (api_Places.Last r0_6) (api_Places.Follow r0_6) (api_Places.Null r0_6) (w64 (i + 1)) ∧ mu13 (api_Places.Sets r0_6) (api_Places.First r0_6) (api_Places.Last r0_6) (api_Places.Follow r0_6) (api_Places.Null r0_6) (w64 (i + 1)) < mu13 out_Sets out_First out_Last out_Follow out_Null i)))) ∧ ((decide (i < (↑(List.length (api_Rx.Kids x)) : Int))) = false → (res = ({ Sets := out_Sets, First := out_First, Last := out_Last, Follow := out_Follow, Null := out_Null })))))))) ∧ ((api_Rx.Kind x == (3 : Int)) = false → (((api_Rx.Kind x == (4 : Int)) = true → (0 : Nat) < List.length (api_Rx.Kids x) ∧ (∃ r0_7 : api_Places, C_heckleref09_of (List.getD (api_Rx.Kids x) (0 : Nat) default) r0_7 ∧ (∃ (Inv31 : List arr4_uint64 → List Int → List Int → List (List Int) → Bool → Int → Prop) (mu32 : List arr4_uint64 → List Int → List Int → List (List Int) → Bool → Int → Nat), Inv31 (api_Places.Sets r0_7) (api_Places.First r0_7) (api_Places.Last r0_7) (api_Places.Follow r0_7) (api_Places.Null r0_7) 1 ∧ (∀ (out_Sets_1 : List arr4_uint64) (out_First_1 : List Int) (out_Last_1 : List Int) (out_Follow_1 : List (List Int)) (out_Null_1 : Bool) (i_1 : Int), Inv31 out_Sets_1 out_First_1 out_Last_1 out_Follow_1 out_Null_1 i_1 → (((decide (i_1 < (↑(List.length (api_Rx.Kids x)) : Int))) = true → ((0 : Int) ≤ i_1) ∧ i_1 < ↑(List.length (api_Rx.Kids x)) ∧ (∃ r0_12 : api_Places, C_heckleref09_of (gd (api_Rx.Kids x) i_1) r0_12 ∧ (∃ r0_13 : api_Places, C_heckleref09_alt ({ Sets := out_Sets_1, First := out_First_1, Last := out_Last_1, Follow := out_Follow_1, Null := out_Null_1 }) r0_12 r0_13 ∧ (Inv31 (api_Places.Sets r0_13) (api_Places.First r0_13) (api_Places.Last r0_13) (api_Places.Follow r0_13) (api_Places.Null r0_13) (w64 (i_1 + 1)) ∧ mu32 (api_Places.Sets r0_13) (api_Places.First r0_13) (api_Places.Last r0_13) (api_Places.Follow r0_13) (api_Places.Null r0_13) (w64 (i_1 + 1)) < mu32 out_Sets_1 out_First_1 out_Last_1 out_Follow_1 out_Null_1 i_1)))) ∧ ((decide (i_1 < (↑(List.length (api_Rx.Kids x)) : Int))) = false → (res = ({ Sets := out_Sets_1, First := out_First_1, Last := out_Last_1, Follow := out_Follow_1, Null := out_Null_1 })))))))) ∧ ((api_Rx.Kind x == (4 : Int)) = false → (((api_Rx.Kind x == (5 : Int)) = true → (0 : Nat) < List.length (api_Rx.Kids x) ∧ (∃ r0_14 : api_Places, C_heckleref09_of (List.getD (api_Rx.Kids x) (0 : Nat) default) r0_14 ∧ (∃ r0_15 : api_Places, C_heckleref09_empty r0_15 ∧ (((decide (api_Rx.Hi x < (0 : Int))) = true → (∃ (Inv47 : List arr4_uint64 → List Int → List Int → List (List Int) → Bool → Int → Prop) (mu48 : List arr4_uint64 → List Int → List Int → List (List Int) → Bool → Int → Nat), Inv47 (api_Places.Sets r0_15) (api_Places.First r0_15) (api_Places.Last r0_15) (api_Places.Follow r0_15) (api_Places.Null r0_15) 1 ∧ (∀ (out_Sets_2 : List arr4_uint64) (out_First_2 : List Int) (out_Last_2 : List Int) (out_Follow_2 : List (List Int)) (out_Null_2 : Bool) (i_2 : Int), Inv47 out_Sets_2 out_First_2 out_Last_2 out_Follow_2 out_Null_2 i_2 → (((decide (i_2 < api_Rx.Lo x)) = true → (∃ r0_18 : api_Places, C_heckleref09_cat ({ Sets := out_Sets_2, First := out_First_2, Last := out_Last_2, Follow := out_Follow_2, Null := out_Null_2 }) r0_14 r0_18 ∧ (Inv47 (api_Places.Sets r0_18) (api_Places.First r0_18) (api_Places.Last r0_18) (api_Places.Follow r0_18) (api_Places.Null r0_18) (w64 (i_2 + 1)) ∧ mu48 (api_Places.Sets r0_18) (api_Places.First r0_18) (api_Places.Last r0_18) (api_Places.Follow r0_18) (api_Places.Null r0_18) (w64 (i_2 + 1)) < mu48 out_Sets_2 out_First_2 out_Last_2 out_Follow_2 out_Null_2 i_2))) ∧ ((decide (i_2 < api_Rx.Lo x)) = false → (∃ r0_19 : api_Places, C_heckleref09_again r0_14 r0_19 ∧ (∃ J54 : List arr4_uint64 → List Int → List Int → List (List Int) → Bool → Prop, (∀ (last_Sets : List arr4_uint64) (last_First : List Int) (last_Last : List Int) (last_Follow : List (List Int)) (last_Null : Bool), J54 last_Sets last_First last_Last last_Follow last_Null → (∃ r0_21 : api_Places, C_heckleref09_cat ({ Sets := out_Sets_2, First := out_First_2, Last := out_Last_2, Follow := out_Follow_2, Null := out_Null_2 }) ({ Sets := last_Sets, First := last_First, Last := last_Last, Follow := last_Follow, Null := last_Null }) r0_21 ∧ (res = r0_21))) ∧ (((api_Rx.Lo x == 0) = true → (∃ r0_22 : api_Places, C_heckleref09_maybe r0_19 r0_22 ∧ J54 (api_Places.Sets r0_22) (api_Places.First r0_22) (api_Places.Last r0_22) (api_Places.Follow r0_22) (api_Places.Null r0_22))) ∧ ((api_Rx.Lo x == 0) = false → J54 (api_Places.Sets r0_19) (api_Places.First r0_19) (api_Places.Last r0_19) (api_Places.Follow r0_19) (api_Places.Null r0_19)))))))))) ∧ ((decide (api_Rx.Hi x < (0 : Int))) = false → (∃ (Inv64 : List arr4_uint64 → List Int → List Int → List (List Int) → Bool → Int → Prop) (mu65 : List arr4_uint64 → List Int → List Int → List (List Int) → Bool → Int → Nat), Inv64 (api_Places.Sets r0_15) (api_Places.First r0_15) (api_Places.Last r0_15) (api_Places.Follow r0_15) (api_Places.Null r0_15) (api_Rx.Lo x) ∧ (∀ (out_Sets_3 : List arr4_uint64) (out_First_3 : List Int) (out_Last_3 : List Int) (out_Follow_3 : List (List Int)) (out_Null_3 : Bool) (i_3 : Int), Inv64 out_Sets_3 out_First_3 out_Last_3 out_Follow_3 out_Null_3 i_3 → (((decide (i_3 < api_Rx.Hi x)) = true → (∃ r0_27 : api_Places, C_heckleref09_cat r0_14 ({ Sets := out_Sets_3, First := out_First_3, Last := out_Last_3, Follow := out_Follow_3, Null := out_Null_3 }) r0_27 ∧ (∃ r0_28 : api_Places, C_heckleref09_maybe r0_27 r0_28 ∧ (Inv64 (api_Places.Sets r0_28) (api_Places.First r0_28) (api_Places.Last r0_28) (api_Places.Follow r0_28) (api_Places.Null r0_28) (w64 (i_3 + 1)) ∧ mu65 (api_Places.Sets r0_28) (api_Places.First r0_28) (api_Places.Last r0_28) (api_Places.Follow r0_28) (api_Places.Null r0_28) (w64 (i_3 + 1)) < mu65 out_Sets_3 out_First_3 out_Last_3 out_Follow_3 out_Null_3 i_3)))) ∧ ((decide (i_3 < api_Rx.Hi x)) = false → (∃ (Inv73 : List arr4_uint64 → List Int → List Int → List (List Int) → Bool → Int → Prop) (mu74 : List arr4_uint64 → List Int → List Int → List (List Int) → Bool → Int → Nat), Inv73 out_Sets_3 out_First_3 out_Last_3 out_Follow_3 out_Null_3 0 ∧ (∀ (out_Sets_4 : List arr4_uint64) (out_First_4 : List Int) (out_Last_4 : List Int) (out_Follow_4 : List (List Int)) (out_Null_4 : Bool) (i_4 : Int), Inv73 out_Sets_4 out_First_4 out_Last_4 out_Follow_4 out_Null_4 i_4 → (((decide (i_4 < api_Rx.Lo x)) = true → (∃ r0_31 : api_Places, C_heckleref09_cat r0_14 ({ Sets := out_Sets_4, First := out_First_4, Last := out_Last_4, Follow := out_Follow_4, Null := out_Null_4 }) r0_31 ∧ (Inv73 (api_Places.Sets r0_31) (api_Places.First r0_31) (api_Places.Last r0_31) (api_Places.Follow r0_31) (api_Places.Null r0_31) (w64 (i_4 + 1)) ∧ mu74 (api_Places.Sets r0_31) (api_Places.First r0_31) (api_Places.Last r0_31) (api_Places.Follow r0_31) (api_Places.Null r0_31) (w64 (i_4 + 1)) < mu74 out_Sets_4 out_First_4 out_Last_4 out_Follow_4 out_Null_4 i_4))) ∧ ((decide (i_4 < api_Rx.Lo x)) = false → (res = ({ Sets := out_Sets_4, First := out_First_4, Last := out_Last_4, Follow := out_Follow_4, Null := out_Null_4 }))))))))))))))) ∧ ((api_Rx.Kind x == (5 : Int)) = false → (∃ r0_32 : api_Places, C_heckleref09_empty r0_32 ∧ (res = r0_32))))))))))) : C_heckleref09_of x res := by
  unfold C_heckleref09_of
  have kk := cfOk [42, 65, 117] 119
  refine fD (x := bodyOf Try.f30) kk Try.func30 ?_
  refine wkS [1] [(1, av_api_Rx x)] (by kernel_rfl) ?_
  refine sDE kk [] [1] [(4, .ptr 5 0), (5, av_api_Rx x), (7, .ptr 8 0), (8, .agg [.own 24 ([]), .own 3 ([]), .own 3 ([]), .own 37 ([]), vB false])] [(4, .ptr 5 0), (5, av_api_Rx x), (7, .ptr 8 0), (8, .agg [oL 24 enc_arr4_uint64 ([]), oL 3 enc_i64 ([]), oL 3 enc_i64 ([]), oL 37 encs_i64 ([]), vB false])] obN ?_
  refine qD ?_
  refine sD kk [] [] [(43, vi (api_Rx.Kind x))] obN ?_
  refine bD (id := 0) ?_
  refine sD kk [] [] [(46, vB (api_Rx.Kind x == (2 : Int)))] obN ?_
  refine cD (t := 15) (b := api_Rx.Kind x == (2 : Int)) (fun hb0 => ?_) (fun hb0 => ?_)
  · have h := h.1 hb0
    refine sDE kk [] [4, 5, 43, 46] [(8, .agg [.f (FV.sl (List.take (List.length [FV.agg [FV.pv (Value.int IntKind.u64 (arr4_uint64.e0 (api_Rx.Set x))), FV.pv (Value.int IntKind.u64 (arr4_uint64.e1 (api_Rx.Set x))), FV.pv (Value.int IntKind.u64 (arr4_uint64.e2 (api_Rx.Set x))), FV.pv (Value.int IntKind.u64 (arr4_uint64.e3 (api_Rx.Set x)))]]) (List.drop (0 : Nat) [FV.agg [FV.pv (Value.int IntKind.u64 (arr4_uint64.e0 (api_Rx.Set x))), FV.pv (Value.int IntKind.u64 (arr4_uint64.e1 (api_Rx.Set x))), FV.pv (Value.int IntKind.u64 (arr4_uint64.e2 (api_Rx.Set x))), FV.pv (Value.int IntKind.u64 (arr4_uint64.e3 (api_Rx.Set x)))]]))), .f (FV.sl (List.take (List.length [FV.pv (Value.int IntKind.i64 (0))]) (List.drop (0 : Nat) [FV.pv (Value.int IntKind.i64 (0))]))), .f (FV.sl (List.take (List.length [FV.pv (Value.int IntKind.i64 (0))]) (List.drop (0 : Nat) [FV.pv (Value.int IntKind.i64 (0))]))), .f (FV.sl (List.take (List.length [FV.sl []]) (List.drop (0 : Nat) [FV.sl []]))), vB false])] [(8, .agg [vL enc_arr4_uint64 ([api_Rx.Set x]), vL enc_i64 ([(0 : Int)]), vL enc_i64 ([(0 : Int)]), vL encs_i64 ([[]]), vB false])] obN ?_
    refine tD ?_
    obtain he0 := h
    subst res
    exact (endD [] (.agg [vL enc_arr4_uint64 ([api_Rx.Set x]), vL enc_i64 ([(0 : Int)]), vL enc_i64 ([(0 : Int)]), vL encs_i64 ([[]]), vB false]) []).1
  · have h := h.2 hb0
    refine sD kk [] [46] [(73, vB (api_Rx.Kind x == (3 : Int)))] obN ?_
    refine cD (t := 24) (b := api_Rx.Kind x == (3 : Int)) (fun hb1 => ?_) (fun hb1 => ?_)
    · have h := h.1 hb1
      obtain ⟨r0, hc2, h⟩ := h
      refine sD kk [.c (ao_api_Places r0) []] [43, 73] [(10, .ptr 11 0), (11, ao_api_Places r0)] (obC hc2 obN) ?_
      refine qD ?_
      refine sD kk [] [] [(13, vi 0)] obN ?_
      refine bD (id := 1) ?_
      obtain ⟨Inv12, mu13, h0Inv12, hInv12⟩ := h
      refine loD (fun (q : List arr4_uint64 × List Int × List Int × List (List Int) × Bool × Int) => (fun (out_Sets : List arr4_uint64) (out_First : List Int) (out_Last : List Int) (out_Follow : List (List Int)) (out_Null : Bool) (i : Int) => ([(4, .ptr 5 0), (5, av_api_Rx x), (7, .ptr 8 0), (8, .agg [oL 24 enc_arr4_uint64 ([]), oL 3 enc_i64 ([]), oL 3 enc_i64 ([]), oL 37 encs_i64 ([]), vB false]), (10, .ptr 11 0), (11, .agg [vL enc_arr4_uint64 out_Sets, vL enc_i64 out_First, vL enc_i64 out_Last, oL 37 encs_i64 out_Follow, vB out_Null]), (13, vi i)] : Sta)) q.1 q.2.1 q.2.2.1 q.2.2.2.1 q.2.2.2.2.1 q.2.2.2.2.2) (fun (q : List arr4_uint64 × List Int × List Int × List (List Int) × Bool × Int) => Inv12 q.1 q.2.1 q.2.2.1 q.2.2.2.1 q.2.2.2.2.1 q.2.2.2.2.2) (fun (q : List arr4_uint64 × List Int × List Int × List (List Int) × Bool × Int) => mu13 q.1 q.2.1 q.2.2.1 q.2.2.2.1 q.2.2.2.2.1 q.2.2.2.2.2) ((api_Places.Sets r0), (api_Places.First r0), (api_Places.Last r0), (api_Places.Follow r0), (api_Places.Null r0), 0) [(11, 0), (11, 1), (11, 2)] h0Inv12 ?_
      rintro ⟨out_Sets, out_First, out_Last, out_Follow, out_Null, i⟩ hi
      have h := hInv12 out_Sets out_First out_Last out_Follow out_Null i hi
      refine qD ?_
      refine sDE kk [] [] [(94, vB (decide (i < (↑(List.length (List.map enc_api_Rx (api_Rx.Kids x))) : Int))))] [(94, vB (decide (i < (↑(List.length (api_Rx.Kids x)) : Int))))] obN ?_
      refine cD (t := 31) (b := decide (i < (↑(List.length (api_Rx.Kids x)) : Int))) (fun hb14 => ?_) (fun hb14 => ?_)
      · have h := h.1 hb14
        refine Sem.skip' (by kernel_rfl) Wk.refl ?_
        show Sem _ _ _ _ _
        refine wkD [94] ?_
        refine qD ?_
        refine bD (id := 2) ?_
        obtain ⟨h15, h⟩ := h
        obtain ⟨h16, h⟩ := h
        obtain ⟨r0_5, hc17, h⟩ := h
        obtain ⟨r0_6, hc18, h⟩ := h
        refine rD kk [.e (fv_api_Rx (gd (api_Rx.Kids x) i)), .c (av_api_Places r0_5) [], .c (.agg [vL enc_arr4_uint64 (api_Places.Sets r0_6), vL enc_i64 (api_Places.First r0_6), vL enc_i64 (api_Places.Last r0_6), oL 37 encs_i64 (api_Places.Follow r0_6), vB (api_Places.Null r0_6)]) []] [] [(11, .agg [vL enc_arr4_uint64 (api_Places.Sets r0_6), vL enc_i64 (api_Places.First r0_6), vL enc_i64 (api_Places.Last r0_6), oL 37 encs_i64 (api_Places.Follow r0_6), vB (api_Places.Null r0_6)])] (obC h15 (obC (idx_ok enc_api_Rx (api_Rx.Kids x) i _ (enc_api_Rx_eq _) h15 h16) (obC hc17 (obC (Eq.mp (by unfold C_heckleref09_cat; (try simp only [List.drop_zero, List.take_length]); first | done | simp only [nm, enq] : C_heckleref09_cat ({ Sets := out_Sets, First := out_First, Last := out_Last, Follow := out_Follow, Null := out_Null }) r0_5 r0_6 = CallE Try.prog 47 [.agg [vL enc_arr4_uint64 out_Sets, vL enc_i64 out_First, vL enc_i64 out_Last, .f (FV.sl (List.take (List.length (List.map encs_i64 out_Follow)) (List.drop (0 : Nat) (List.map encs_i64 out_Follow)))), vB out_Null], .agg [vL enc_arr4_uint64 (api_Places.Sets r0_5), vL enc_i64 (api_Places.First r0_5), vL enc_i64 (api_Places.Last r0_5), vL encs_i64 (api_Places.Follow r0_5), vB (api_Places.Null r0_5)]] [] (.agg [vL enc_arr4_uint64 (api_Places.Sets r0_6), vL enc_i64 (api_Places.First r0_6), vL enc_i64 (api_Places.Last r0_6), oL 37 encs_i64 (api_Places.Follow r0_6), vB (api_Places.Null r0_6)]) []) hc18) obN)))) ?_
        show Sem _ _ _ _ _
        refine rD kk [] [] [(13, vi (w64 (i + 1)))] obN ?_
        exact lD ((api_Places.Sets r0_6), (api_Places.First r0_6), (api_Places.Last r0_6), (api_Places.Follow r0_6), (api_Places.Null r0_6), (w64 (i + 1))) [] h
      · have h := h.2 hb14
        refine xD (i := 1) ?_
        show Sem _ _ _ _ _
        refine wkD [4, 5, 13, 94] ?_
        refine sD kk [] [10, 11] [(8, .agg [vL enc_arr4_uint64 out_Sets, vL enc_i64 out_First, vL enc_i64 out_Last, oL 37 encs_i64 out_Follow, vB out_Null])] (obC (show (0 : Nat) = (0 : Nat) ∧ List.length (List.map encs_i64 out_Follow) = List.length (List.map encs_i64 out_Follow) from by first | decide | rfl | trivial | (simp only [nm] <;> first | decide | rfl | omega)) obN) ?_
        refine tD ?_
        obtain he0 := h
        subst res
        exact (endD [(8, 3)] (.agg [vL enc_arr4_uint64 out_Sets, vL enc_i64 out_First, vL enc_i64 out_Last, vL encs_i64 out_Follow, vB out_Null]) []).1
    · have h := h.2 hb1
      refine sD kk [] [73] [(130, vB (api_Rx.Kind x == (4 : Int)))] obN ?_
      refine cD (t := 43) (b := api_Rx.Kind x == (4 : Int)) (fun hb19 => ?_) (fun hb19 => ?_)
      · have h := h.1 hb19
        obtain ⟨h20, h⟩ := h
        obtain ⟨r0_7, hc21, h⟩ := h
        refine sD kk [.e (fv_api_Rx (List.getD (api_Rx.Kids x) (0 : Nat) default)), .c (av_api_Places r0_7) []] [43, 130] [(16, .ptr 17 0), (17, av_api_Places r0_7)] (obC (show (0 : Int) ≤ (0 : Int) from by first | decide | rfl | trivial | (simp only [nm] <;> first | decide | rfl | omega)) (obC (show (List.map enc_api_Rx (api_Rx.Kids x))[(Int.toNat (0 : Int) : Nat)]? = some (fv_api_Rx (List.getD (api_Rx.Kids x) (0 : Nat) default)) from by have := idx_ok' enc_api_Rx (api_Rx.Kids x) ((0 : Nat)) _ (enc_api_Rx_eq _) h20; simpa only [nm, enq, enc_api_Rx_eq] using this) (obC hc21 obN))) ?_
        refine qD ?_
        refine sD kk [] [] [(19, vi 1)] obN ?_
        refine bD (id := 3) ?_
        obtain ⟨Inv31, mu32, h0Inv31, hInv31⟩ := h
        refine loD (fun (q : List arr4_uint64 × List Int × List Int × List (List Int) × Bool × Int) => (fun (out_Sets_1 : List arr4_uint64) (out_First_1 : List Int) (out_Last_1 : List Int) (out_Follow_1 : List (List Int)) (out_Null_1 : Bool) (i_1 : Int) => ([(4, .ptr 5 0), (5, av_api_Rx x), (7, .ptr 8 0), (8, .agg [oL 24 enc_arr4_uint64 ([]), oL 3 enc_i64 ([]), oL 3 enc_i64 ([]), oL 37 encs_i64 ([]), vB false]), (16, .ptr 17 0), (17, .agg [vL enc_arr4_uint64 out_Sets_1, vL enc_i64 out_First_1, vL enc_i64 out_Last_1, vL encs_i64 out_Follow_1, vB out_Null_1]), (19, vi i_1)] : Sta)) q.1 q.2.1 q.2.2.1 q.2.2.2.1 q.2.2.2.2.1 q.2.2.2.2.2) (fun (q : List arr4_uint64 × List Int × List Int × List (List Int) × Bool × Int) => Inv31 q.1 q.2.1 q.2.2.1 q.2.2.2.1 q.2.2.2.2.1 q.2.2.2.2.2) (fun (q : List arr4_uint64 × List Int × List Int × List (List Int) × Bool × Int) => mu32 q.1 q.2.1 q.2.2.1 q.2.2.2.1 q.2.2.2.2.1 q.2.2.2.2.2) ((api_Places.Sets r0_7), (api_Places.First r0_7), (api_Places.Last r0_7), (api_Places.Follow r0_7), (api_Places.Null r0_7), 1) [] h0Inv31 ?_
        rintro ⟨out_Sets_1, out_First_1, out_Last_1, out_Follow_1, out_Null_1, i_1⟩ hi
        have h := hInv31 out_Sets_1 out_First_1 out_Last_1 out_Follow_1 out_Null_1 i_1 hi
        refine qD ?_
        refine sDE kk [] [] [(163, vB (decide (i_1 < (↑(List.length (List.map enc_api_Rx (api_Rx.Kids x))) : Int))))] [(163, vB (decide (i_1 < (↑(List.length (api_Rx.Kids x)) : Int))))] obN ?_
        refine cD (t := 54) (b := decide (i_1 < (↑(List.length (api_Rx.Kids x)) : Int))) (fun hb33 => ?_) (fun hb33 => ?_)
        · have h := h.1 hb33
          refine Sem.skip' (by kernel_rfl) Wk.refl ?_
          show Sem _ _ _ _ _
          refine wkD [163] ?_
          refine qD ?_
          refine bD (id := 4) ?_
          obtain ⟨h34, h⟩ := h
          obtain ⟨h35, h⟩ := h
          obtain ⟨r0_12, hc36, h⟩ := h
          obtain ⟨r0_13, hc37, h⟩ := h
          refine rD kk [.e (fv_api_Rx (gd (api_Rx.Kids x) i_1)), .c (av_api_Places r0_12) [], .c (.agg [vL enc_arr4_uint64 (api_Places.Sets r0_13), vL enc_i64 (api_Places.First r0_13), vL enc_i64 (api_Places.Last r0_13), oL 37 encs_i64 (api_Places.Follow r0_13), vB (api_Places.Null r0_13)]) []] [] [(17, .agg [vL enc_arr4_uint64 (api_Places.Sets r0_13), vL enc_i64 (api_Places.First r0_13), vL enc_i64 (api_Places.Last r0_13), oL 37 encs_i64 (api_Places.Follow r0_13), vB (api_Places.Null r0_13)])] (obC h34 (obC (idx_ok enc_api_Rx (api_Rx.Kids x) i_1 _ (enc_api_Rx_eq _) h34 h35) (obC hc36 (obC hc37 obN)))) ?_
          show Sem _ _ _ _ _
          refine rD kk [] [] [(19, vi (w64 (i_1 + 1)))] obN ?_
          exact lD ((api_Places.Sets r0_13), (api_Places.First r0_13), (api_Places.Last r0_13), (api_Places.Follow r0_13), (api_Places.Null r0_13), (w64 (i_1 + 1))) [(17, 3)] h
        · have h := h.2 hb33
          refine xD (i := 3) ?_
          show Sem _ _ _ _ _
          refine wkD [4, 5, 19, 163] ?_
          refine sD kk [] [16, 17] [(8, .agg [vL enc_arr4_uint64 out_Sets_1, vL enc_i64 out_First_1, vL enc_i64 out_Last_1, vL encs_i64 out_Follow_1, vB out_Null_1])] obN ?_
          refine tD ?_
          obtain he0 := h
          subst res
          exact (endD [] (.agg [vL enc_arr4_uint64 out_Sets_1, vL enc_i64 out_First_1, vL enc_i64 out_Last_1, vL encs_i64 out_Follow_1, vB out_Null_1]) []).1
      · have h := h.2 hb19
        refine sD kk [] [43, 130] [(199, vB (api_Rx.Kind x == (5 : Int)))] obN ?_
        refine cD (t := 66) (b := api_Rx.Kind x == (5 : Int)) (fun hb38 => ?_) (fun hb38 => ?_)
        · have h := h.1 hb38
          obtain ⟨h39, h⟩ := h
          obtain ⟨r0_14, hc40, h⟩ := h
          refine sD kk [.e (fv_api_Rx (List.getD (api_Rx.Kids x) (0 : Nat) default)), .c (av_api_Places r0_14) []] [199] [(22, .ptr 23 0), (23, av_api_Places r0_14)] (obC (show (0 : Int) ≤ (0 : Int) from by first | decide | rfl | trivial | (simp only [nm] <;> first | decide | rfl | omega)) (obC (show (List.map enc_api_Rx (api_Rx.Kids x))[(Int.toNat (0 : Int) : Nat)]? = some (fv_api_Rx (List.getD (api_Rx.Kids x) (0 : Nat) default)) from by have := idx_ok' enc_api_Rx (api_Rx.Kids x) ((0 : Nat)) _ (enc_api_Rx_eq _) h39; simpa only [nm, enq, enc_api_Rx_eq] using this) (obC hc40 obN))) ?_
          obtain ⟨r0_15, hc41, h⟩ := h
          refine sD kk [.c (ao_api_Places r0_15) []] [] [(25, .ptr 26 0), (26, ao_api_Places r0_15)] (obC hc41 obN) ?_
          refine qD ?_
          refine sD kk [] [] [(229, vB (decide (api_Rx.Hi x < (0 : Int))))] obN ?_
          refine cD (t := 76) (b := decide (api_Rx.Hi x < (0 : Int))) (fun hb42 => ?_) (fun hb42 => ?_)
          · have h := h.1 hb42
            refine qD ?_
            refine sD kk [] [229] [(28, vi 1)] obN ?_
            refine bD (id := 5) ?_
            obtain ⟨Inv47, mu48, h0Inv47, hInv47⟩ := h
            refine loD (fun (q : List arr4_uint64 × List Int × List Int × List (List Int) × Bool × Int) => (fun (out_Sets_2 : List arr4_uint64) (out_First_2 : List Int) (out_Last_2 : List Int) (out_Follow_2 : List (List Int)) (out_Null_2 : Bool) (i_2 : Int) => ([(4, .ptr 5 0), (5, av_api_Rx x), (7, .ptr 8 0), (8, .agg [oL 24 enc_arr4_uint64 ([]), oL 3 enc_i64 ([]), oL 3 enc_i64 ([]), oL 37 encs_i64 ([]), vB false]), (22, .ptr 23 0), (23, av_api_Places r0_14), (25, .ptr 26 0), (26, .agg [vL enc_arr4_uint64 out_Sets_2, vL enc_i64 out_First_2, vL enc_i64 out_Last_2, oL 37 encs_i64 out_Follow_2, vB out_Null_2]), (28, vi i_2)] : Sta)) q.1 q.2.1 q.2.2.1 q.2.2.2.1 q.2.2.2.2.1 q.2.2.2.2.2) (fun (q : List arr4_uint64 × List Int × List Int × List (List Int) × Bool × Int) => Inv47 q.1 q.2.1 q.2.2.1 q.2.2.2.1 q.2.2.2.2.1 q.2.2.2.2.2) (fun (q : List arr4_uint64 × List Int × List Int × List (List Int) × Bool × Int) => mu48 q.1 q.2.1 q.2.2.1 q.2.2.2.1 q.2.2.2.2.1 q.2.2.2.2.2) ((api_Places.Sets r0_15), (api_Places.First r0_15), (api_Places.Last r0_15), (api_Places.Follow r0_15), (api_Places.Null r0_15), 1) [(26, 0), (26, 1), (26, 2)] h0Inv47 ?_
            rintro ⟨out_Sets_2, out_First_2, out_Last_2, out_Follow_2, out_Null_2, i_2⟩ hi
            have h := hInv47 out_Sets_2 out_First_2 out_Last_2 out_Follow_2 out_Null_2 i_2 hi
            refine qD ?_
            refine sD kk [] [] [(241, vB (decide (i_2 < api_Rx.Lo x)))] obN ?_
            refine cD (t := 80) (b := decide (i_2 < api_Rx.Lo x)) (fun hb49 => ?_) (fun hb49 => ?_)
            · have h := h.1 hb49
              refine Sem.skip' (by kernel_rfl) Wk.refl ?_
              show Sem _ _ _ _ _
              refine wkD [241] ?_
              refine qD ?_
              refine bD (id := 6) ?_
              obtain ⟨r0_18, hc50, h⟩ := h
              refine rD kk [.c (.agg [vL enc_arr4_uint64 (api_Places.Sets r0_18), vL enc_i64 (api_Places.First r0_18), vL enc_i64 (api_Places.Last r0_18), oL 37 encs_i64 (api_Places.Follow r0_18), vB (api_Places.Null r0_18)]) []] [] [(26, .agg [vL enc_arr4_uint64 (api_Places.Sets r0_18), vL enc_i64 (api_Places.First r0_18), vL enc_i64 (api_Places.Last r0_18), oL 37 encs_i64 (api_Places.Follow r0_18), vB (api_Places.Null r0_18)])] (obC (Eq.mp (by unfold C_heckleref09_cat; (try simp only [List.drop_zero, List.take_length]); first | done | simp only [nm, enq] : C_heckleref09_cat ({ Sets := out_Sets_2, First := out_First_2, Last := out_Last_2, Follow := out_Follow_2, Null := out_Null_2 }) r0_14 r0_18 = CallE Try.prog 47 [.agg [vL enc_arr4_uint64 out_Sets_2, vL enc_i64 out_First_2, vL enc_i64 out_Last_2, .f (FV.sl (List.take (List.length (List.map encs_i64 out_Follow_2)) (List.drop (0 : Nat) (List.map encs_i64 out_Follow_2)))), vB out_Null_2], .agg [vL enc_arr4_uint64 (api_Places.Sets r0_14), vL enc_i64 (api_Places.First r0_14), vL enc_i64 (api_Places.Last r0_14), vL encs_i64 (api_Places.Follow r0_14), vB (api_Places.Null r0_14)]] [] (.agg [vL enc_arr4_uint64 (api_Places.Sets r0_18), vL enc_i64 (api_Places.First r0_18), vL enc_i64 (api_Places.Last r0_18), oL 37 encs_i64 (api_Places.Follow r0_18), vB (api_Places.Null r0_18)]) []) hc50) obN) ?_
              show Sem _ _ _ _ _
              refine rD kk [] [] [(28, vi (w64 (i_2 + 1)))] obN ?_
              exact lD ((api_Places.Sets r0_18), (api_Places.First r0_18), (api_Places.Last r0_18), (api_Places.Follow r0_18), (api_Places.Null r0_18), (w64 (i_2 + 1))) [] h
            · have h := h.2 hb49
              refine xD (i := 5) ?_
              show Sem _ _ _ _ _
              refine wkD [28, 241] ?_
              obtain ⟨r0_19, hc51, h⟩ := h
              refine sD kk [.c (.agg [vL enc_arr4_uint64 (api_Places.Sets r0_19), vL enc_i64 (api_Places.First r0_19), vL enc_i64 (api_Places.Last r0_19), oL 37 encs_i64 (api_Places.Follow r0_19), vB (api_Places.Null r0_19)]) []] [22, 23] [(31, .ptr 32 0), (32, .agg [vL enc_arr4_uint64 (api_Places.Sets r0_19), vL enc_i64 (api_Places.First r0_19), vL enc_i64 (api_Places.Last r0_19), oL 37 encs_i64 (api_Places.Follow r0_19), vB (api_Places.Null r0_19)])] (obC hc51 obN) ?_
              obtain ⟨J54, hJ54, h⟩ := h
              refine sjD (fun (q : List arr4_uint64 × List Int × List Int × List (List Int) × Bool) => J54 q.1 q.2.1 q.2.2.1 q.2.2.2.1 q.2.2.2.2) (fun (q : List arr4_uint64 × List Int × List Int × List (List Int) × Bool) => (fun (last_Sets : List arr4_uint64) (last_First : List Int) (last_Last : List Int) (last_Follow : List (List Int)) (last_Null : Bool) => ([(7, .ptr 8 0), (8, .agg [oL 24 enc_arr4_uint64 ([]), oL 3 enc_i64 ([]), oL 3 enc_i64 ([]), oL 37 encs_i64 ([]), vB false]), (25, .ptr 26 0), (26, .agg [vL enc_arr4_uint64 out_Sets_2, vL enc_i64 out_First_2, vL enc_i64 out_Last_2, oL 37 encs_i64 out_Follow_2, vB out_Null_2]), (31, .ptr 32 0), (32, .agg [vL enc_arr4_uint64 last_Sets, vL enc_i64 last_First, vL enc_i64 last_Last, vL encs_i64 last_Follow, vB last_Null])] : Sta)) q.1 q.2.1 q.2.2.1 q.2.2.2.1 q.2.2.2.2) ?_ ?_
              · rintro ⟨last_Sets, last_First, last_Last, last_Follow, last_Null⟩ hj
                have h := hJ54 last_Sets last_First last_Last last_Follow last_Null hj
                obtain ⟨r0_21, hc55, h⟩ := h
                refine sD kk [.c (.agg [vL enc_arr4_uint64 (api_Places.Sets r0_21), vL enc_i64 (api_Places.First r0_21), vL enc_i64 (api_Places.Last r0_21), oL 37 encs_i64 (api_Places.Follow r0_21), vB (api_Places.Null r0_21)]) []] [25, 26, 31, 32] [(8, .agg [vL enc_arr4_uint64 (api_Places.Sets r0_21), vL enc_i64 (api_Places.First r0_21), vL enc_i64 (api_Places.Last r0_21), oL 37 encs_i64 (api_Places.Follow r0_21), vB (api_Places.Null r0_21)])] (obC (Eq.mp (by unfold C_heckleref09_cat; (try simp only [List.drop_zero, List.take_length]); first | done | simp only [nm, enq] : C_heckleref09_cat ({ Sets := out_Sets_2, First := out_First_2, Last := out_Last_2, Follow := out_Follow_2, Null := out_Null_2 }) ({ Sets := last_Sets, First := last_First, Last := last_Last, Follow := last_Follow, Null := last_Null }) r0_21 = CallE Try.prog 47 [.agg [vL enc_arr4_uint64 out_Sets_2, vL enc_i64 out_First_2, vL enc_i64 out_Last_2, .f (FV.sl (List.take (List.length (List.map encs_i64 out_Follow_2)) (List.drop (0 : Nat) (List.map encs_i64 out_Follow_2)))), vB out_Null_2], .agg [vL enc_arr4_uint64 last_Sets, vL enc_i64 last_First, vL enc_i64 last_Last, vL encs_i64 last_Follow, vB last_Null]] [] (.agg [vL enc_arr4_uint64 (api_Places.Sets r0_21), vL enc_i64 (api_Places.First r0_21), vL enc_i64 (api_Places.Last r0_21), oL 37 encs_i64 (api_Places.Follow r0_21), vB (api_Places.Null r0_21)]) []) hc55) obN) ?_
                refine tD ?_
                obtain he0 := h
                subst res
                exact (endD [(8, 3)] (av_api_Places r0_21) []).1
              · refine sD kk [] [4, 5] [(271, vB (api_Rx.Lo x == 0))] obN ?_
                refine cD (t := 90) (b := api_Rx.Lo x == 0) (fun hb56 => ?_) (fun hb56 => ?_)
                · have h := h.1 hb56
                  obtain ⟨r0_22, hc57, h⟩ := h
                  refine rD kk [.c (av_api_Places r0_22) []] [271] [(32, av_api_Places r0_22)] (obC (Eq.mp (by unfold C_heckleref09_maybe; (try simp only [List.drop_zero, List.take_length]); first | done | simp only [nm, enq] : C_heckleref09_maybe r0_19 r0_22 = CallE Try.prog 50 [.agg [vL enc_arr4_uint64 (api_Places.Sets r0_19), vL enc_i64 (api_Places.First r0_19), vL enc_i64 (api_Places.Last r0_19), .f (FV.sl (List.take (List.length (List.map encs_i64 (api_Places.Follow r0_19))) (List.drop (0 : Nat) (List.map encs_i64 (api_Places.Follow r0_19))))), vB (api_Places.Null r0_19)]] [] (av_api_Places r0_22) []) hc57) obN) ?_
                  exact jD ((api_Places.Sets r0_22), (api_Places.First r0_22), (api_Places.Last r0_22), (api_Places.Follow r0_22), (api_Places.Null r0_22)) [] h
                · have h := h.2 hb56
                  refine Sem.skip' (by kernel_rfl) Wk.refl ?_
                  exact jD ((api_Places.Sets r0_19), (api_Places.First r0_19), (api_Places.Last r0_19), (api_Places.Follow r0_19), (api_Places.Null r0_19)) [(32, 3)] h
          · have h := h.2 hb42
            refine Sem.skip' (by kernel_rfl) Wk.refl ?_
            show Sem _ _ _ _ _
            refine wkD [229] ?_
            refine qD ?_
            refine sD kk [] [] [(34, vi (api_Rx.Lo x))] obN ?_
            refine bD (id := 7) ?_
            obtain ⟨Inv64, mu65, h0Inv64, hInv64⟩ := h
            refine loD (fun (q : List arr4_uint64 × List Int × List Int × List (List Int) × Bool × Int) => (fun (out_Sets_3 : List arr4_uint64) (out_First_3 : List Int) (out_Last_3 : List Int) (out_Follow_3 : List (List Int)) (out_Null_3 : Bool) (i_3 : Int) => ([(4, .ptr 5 0), (5, av_api_Rx x), (7, .ptr 8 0), (8, .agg [oL 24 enc_arr4_uint64 ([]), oL 3 enc_i64 ([]), oL 3 enc_i64 ([]), oL 37 encs_i64 ([]), vB false]), (22, .ptr 23 0), (23, av_api_Places r0_14), (25, .ptr 26 0), (26, .agg [vL enc_arr4_uint64 out_Sets_3, vL enc_i64 out_First_3, vL enc_i64 out_Last_3, vL encs_i64 out_Follow_3, vB out_Null_3]), (34, vi i_3)] : Sta)) q.1 q.2.1 q.2.2.1 q.2.2.2.1 q.2.2.2.2.1 q.2.2.2.2.2) (fun (q : List arr4_uint64 × List Int × List Int × List (List Int) × Bool × Int) => Inv64 q.1 q.2.1 q.2.2.1 q.2.2.2.1 q.2.2.2.2.1 q.2.2.2.2.2) (fun (q : List arr4_uint64 × List Int × List Int × List (List Int) × Bool × Int) => mu65 q.1 q.2.1 q.2.2.1 q.2.2.2.1 q.2.2.2.2.1 q.2.2.2.2.2) ((api_Places.Sets r0_15), (api_Places.First r0_15), (api_Places.Last r0_15), (api_Places.Follow r0_15), (api_Places.Null r0_15), (api_Rx.Lo x)) [(26, 0), (26, 1), (26, 2), (26, 3)] h0Inv64 ?_
            rintro ⟨out_Sets_3, out_First_3, out_Last_3, out_Follow_3, out_Null_3, i_3⟩ hi
            have h := hInv64 out_Sets_3 out_First_3 out_Last_3 out_Follow_3 out_Null_3 i_3 hi
            refine qD ?_
            refine sD kk [] [] [(304, vB (decide (i_3 < api_Rx.Hi x)))] obN ?_
            refine cD (t := 101) (b := decide (i_3 < api_Rx.Hi x)) (fun hb66 => ?_) (fun hb66 => ?_)
            · have h := h.1 hb66
              refine Sem.skip' (by kernel_rfl) Wk.refl ?_
              show Sem _ _ _ _ _
              refine wkD [304] ?_
              refine qD ?_
              refine bD (id := 8) ?_
              obtain ⟨r0_27, hc67, h⟩ := h
              obtain ⟨r0_28, hc68, h⟩ := h
              refine rD kk [.c (.agg [vL enc_arr4_uint64 (api_Places.Sets r0_27), vL enc_i64 (api_Places.First r0_27), vL enc_i64 (api_Places.Last r0_27), oL 37 encs_i64 (api_Places.Follow r0_27), vB (api_Places.Null r0_27)]) [], .c (av_api_Places r0_28) []] [] [(26, av_api_Places r0_28)] (obC hc67 (obC (Eq.mp (by unfold C_heckleref09_maybe; (try simp only [List.drop_zero, List.take_length]); first | done | simp only [nm, enq] : C_heckleref09_maybe r0_27 r0_28 = CallE Try.prog 50 [.agg [vL enc_arr4_uint64 (api_Places.Sets r0_27), vL enc_i64 (api_Places.First r0_27), vL enc_i64 (api_Places.Last r0_27), .f (FV.sl (List.take (List.length (List.map encs_i64 (api_Places.Follow r0_27))) (List.drop (0 : Nat) (List.map encs_i64 (api_Places.Follow r0_27))))), vB (api_Places.Null r0_27)]] [] (av_api_Places r0_28) []) hc68) obN)) ?_
              show Sem _ _ _ _ _
              refine rD kk [] [] [(34, vi (w64 (i_3 + 1)))] obN ?_
              exact lD ((api_Places.Sets r0_28), (api_Places.First r0_28), (api_Places.Last r0_28), (api_Places.Follow r0_28), (api_Places.Null r0_28), (w64 (i_3 + 1))) [] h
            · have h := h.2 hb66
              refine xD (i := 7) ?_
              show Sem _ _ _ _ _
              refine wkD [34, 304] ?_
              refine qD ?_
              refine sD kk [] [] [(37, vi 0)] obN ?_
              refine bD (id := 9) ?_
              obtain ⟨Inv73, mu74, h0Inv73, hInv73⟩ := h
              refine loD (fun (q : List arr4_uint64 × List Int × List Int × List (List Int) × Bool × Int) => (fun (out_Sets_4 : List arr4_uint64) (out_First_4 : List Int) (out_Last_4 : List Int) (out_Follow_4 : List (List Int)) (out_Null_4 : Bool) (i_4 : Int) => ([(4, .ptr 5 0), (5, av_api_Rx x), (7, .ptr 8 0), (8, .agg [oL 24 enc_arr4_uint64 ([]), oL 3 enc_i64 ([]), oL 3 enc_i64 ([]), oL 37 encs_i64 ([]), vB false]), (22, .ptr 23 0), (23, av_api_Places r0_14), (25, .ptr 26 0), (26, .agg [vL enc_arr4_uint64 out_Sets_4, vL enc_i64 out_First_4, vL enc_i64 out_Last_4, vL encs_i64 out_Follow_4, vB out_Null_4]), (37, vi i_4)] : Sta)) q.1 q.2.1 q.2.2.1 q.2.2.2.1 q.2.2.2.2.1 q.2.2.2.2.2) (fun (q : List arr4_uint64 × List Int × List Int × List (List Int) × Bool × Int) => Inv73 q.1 q.2.1 q.2.2.1 q.2.2.2.1 q.2.2.2.2.1 q.2.2.2.2.2) (fun (q : List arr4_uint64 × List Int × List Int × List (List Int) × Bool × Int) => mu74 q.1 q.2.1 q.2.2.1 q.2.2.2.1 q.2.2.2.2.1 q.2.2.2.2.2) (out_Sets_3, out_First_3, out_Last_3, out_Follow_3, out_Null_3, 0) [] h0Inv73 ?_
              rintro ⟨out_Sets_4, out_First_4, out_Last_4, out_Follow_4, out_Null_4, i_4⟩ hi
              have h := hInv73 out_Sets_4 out_First_4 out_Last_4 out_Follow_4 out_Null_4 i_4 hi
              refine qD ?_
              refine sD kk [] [] [(334, vB (decide (i_4 < api_Rx.Lo x)))] obN ?_
              refine cD (t := 111) (b := decide (i_4 < api_Rx.Lo x)) (fun hb75 => ?_) (fun hb75 => ?_)
              · have h := h.1 hb75
                refine Sem.skip' (by kernel_rfl) Wk.refl ?_
                show Sem _ _ _ _ _
                refine wkD [334] ?_
                refine qD ?_
                refine bD (id := 10) ?_
                obtain ⟨r0_31, hc76, h⟩ := h
                refine rD kk [.c (.agg [vL enc_arr4_uint64 (api_Places.Sets r0_31), vL enc_i64 (api_Places.First r0_31), vL enc_i64 (api_Places.Last r0_31), oL 37 encs_i64 (api_Places.Follow r0_31), vB (api_Places.Null r0_31)]) []] [] [(26, .agg [vL enc_arr4_uint64 (api_Places.Sets r0_31), vL enc_i64 (api_Places.First r0_31), vL enc_i64 (api_Places.Last r0_31), oL 37 encs_i64 (api_Places.Follow r0_31), vB (api_Places.Null r0_31)])] (obC hc76 obN) ?_
                show Sem _ _ _ _ _
                refine rD kk [] [] [(37, vi (w64 (i_4 + 1)))] obN ?_
                exact lD ((api_Places.Sets r0_31), (api_Places.First r0_31), (api_Places.Last r0_31), (api_Places.Follow r0_31), (api_Places.Null r0_31), (w64 (i_4 + 1))) [(26, 3)] h
              · have h := h.2 hb75
                refine xD (i := 9) ?_
                show Sem _ _ _ _ _
                refine wkD [4, 5, 22, 23, 37, 334] ?_
                refine sD kk [] [25, 26] [(8, .agg [vL enc_arr4_uint64 out_Sets_4, vL enc_i64 out_First_4, vL enc_i64 out_Last_4, vL encs_i64 out_Follow_4, vB out_Null_4])] obN ?_
                refine tD ?_
                obtain he0 := h
                subst res
                exact (endD [] (.agg [vL enc_arr4_uint64 out_Sets_4, vL enc_i64 out_First_4, vL enc_i64 out_Last_4, vL encs_i64 out_Follow_4, vB out_Null_4]) []).1
        · have h := h.2 hb38
          refine Sem.skip' (by kernel_rfl) Wk.refl ?_
          show Sem _ _ _ _ _
          refine wkD [4, 5, 199] ?_
          obtain ⟨r0_32, hc77, h⟩ := h
          refine sD kk [.c (ao_api_Places r0_32) []] [] [(8, ao_api_Places r0_32)] (obC hc77 obN) ?_
          refine tD ?_
          obtain he0 := h
          subst res
          exact (endD [(8, 0), (8, 1), (8, 2), (8, 3)] (av_api_Places r0_32) []).1
set_option maxHeartbeats 1000000 in
theorem W_heckleref09_Of (x : api_Rx) (res : api_Places) (res_1 : Int)
    (h : (∃ r0 : Bool, C_heckleref03_Right x r0 ∧ (((!r0) = true → (res = ({ Sets := [], First := [], Last := [], Follow := [], Null := false }) ∧ res_1 = 1)) ∧ ((!r0) = false → (∃ r0_1 : api_Places, C_heckleref09_of x r0_1 ∧ (res = r0_1 ∧ res_1 = 0)))))) : C_heckleref09_Of x res res_1 := by
  unfold C_heckleref09_Of
  have kk := cfOk [] 10
  refine fD (x := bodyOf Try.f21) kk Try.func21 ?_
  refine wkS [1] [(1, av_api_Rx x)] (by kernel_rfl) ?_
  refine sDE kk [] [1] [(4, .ptr 5 0), (5, av_api_Rx x), (7, .ptr 8 0), (8, .agg [.own 24 ([]), .own 3 ([]), .own 3 ([]), .own 37 ([]), vB false])] [(4, .ptr 5 0), (5, av_api_Rx x), (7, .ptr 8 0), (8, .agg [oL 24 enc_arr4_uint64 ([]), oL 3 enc_i64 ([]), oL 3 enc_i64 ([]), oL 37 encs_i64 ([]), vB false])] obN ?_
  refine qD ?_
  obtain ⟨r0, hc0, h⟩ := h
  refine sD kk [.c (vB r0) []] [] [(19, vB (!r0))] (obC hc0 obN) ?_
  refine cD (t := 6) (b := !r0) (fun hb1 => ?_) (fun hb1 => ?_)
  · have h := h.1 hb1
    refine sDE kk [] [4, 5, 19] [(8, .agg [.own 24 ([]), .own 3 ([]), .own 3 ([]), .own 37 ([]), vB false]), (10, vi 1)] [(8, .agg [oL 24 enc_arr4_uint64 ([]), oL 3 enc_i64 ([]), oL 3 enc_i64 ([]), oL 37 encs_i64 ([]), vB false]), (10, vi 1)] obN ?_
    refine tD ?_
    obtain ⟨he0, he1⟩ := h
    subst res res_1
    exact (endD [] (.tup [.agg [.f (FV.sl (List.take (List.length (List.map enc_arr4_uint64 [])) (List.drop (0 : Nat) (List.map enc_arr4_uint64 [])))), .f (FV.sl (List.take (List.length (List.map enc_i64 [])) (List.drop (0 : Nat) (List.map enc_i64 [])))), .f (FV.sl (List.take (List.length (List.map enc_i64 [])) (List.drop (0 : Nat) (List.map enc_i64 [])))), .f (FV.sl (List.take (List.length (List.map encs_i64 [])) (List.drop (0 : Nat) (List.map encs_i64 [])))), vB false], vi 1]) []).1
  · have h := h.2 hb1
    refine Sem.skip' (by kernel_rfl) Wk.refl ?_
    show Sem _ _ _ _ _
    refine wkD [19] ?_
    obtain ⟨r0_1, hc2, h⟩ := h
    refine sD kk [.c (av_api_Places r0_1) []] [4, 5] [(8, av_api_Places r0_1), (10, vi 0)] (obC hc2 obN) ?_
    refine tD ?_
    obtain ⟨he0, he1⟩ := h
    subst res res_1
    exact (endD [] (.tup [av_api_Places r0_1, vi 0]) []).1
set_option maxHeartbeats 1000000 in
theorem W_heckleref09_ints (a : (List Int)) (b : (List Int)) (res : Bool)
    (h : ((((↑(List.length a) : Int) != (↑(List.length b) : Int)) = true → (res = false)) ∧ (((↑(List.length a) : Int) != (↑(List.length b) : Int)) = false → (∃ (Inv11 : Int → Prop) (mu12 : Int → Nat), Inv11 0 ∧ (∀ (i : Int), Inv11 i → (((decide (i < (↑(List.length a) : Int))) = true → ((0 : Int) ≤ i) ∧ i < ↑(List.length a) ∧ ((0 : Int) ≤ i) ∧ i < ↑(List.length b) ∧ (((gd a i != gd b i) = true → (res = false)) ∧ ((gd a i != gd b i) = false → (Inv11 (w64 (i + 1)) ∧ mu12 (w64 (i + 1)) < mu12 i)))) ∧ ((decide (i < (↑(List.length a) : Int))) = false → (res = true)))))))) : C_heckleref09_ints a b res := by
  unfold C_heckleref09_ints
  have kk := cfOk [] 26
  refine fD (x := bodyOf Try.f31) kk Try.func31 ?_
  refine wkS [1, 4] [(1, vL enc_i64 a), (4, vL enc_i64 b)] (by kernel_rfl) ?_
  refine sD kk [] [] [] obN ?_
  refine qD ?_
  refine sDE kk [] [] [(31, vB ((↑(List.length (List.map enc_i64 a)) : Int) != (↑(List.length (List.map enc_i64 b)) : Int)))] [(31, vB ((↑(List.length a) : Int) != (↑(List.length b) : Int)))] obN ?_
  refine cD (t := 10) (b := (↑(List.length a) : Int) != (↑(List.length b) : Int)) (fun hb0 => ?_) (fun hb0 => ?_)
  · have h := h.1 hb0
    refine sD kk [] [1, 4, 31] [(13, vB false)] obN ?_
    refine tD ?_
    obtain he0 := h
    subst res
    exact (endD [] (vB false) []).1
  · have h := h.2 hb0
    refine Sem.skip' (by kernel_rfl) Wk.refl ?_
    show Sem _ _ _ _ _
    refine wkD [31] ?_
    refine qD ?_
    refine sD kk [] [] [(16, vi 0)] obN ?_
    refine bD (id := 0) ?_
    obtain ⟨Inv11, mu12, h0Inv11, hInv11⟩ := h
    refine loD (fun (q : Int) => (fun (i : Int) => ([(1, vL enc_i64 a), (4, vL enc_i64 b), (16, vi i)] : Sta)) q) (fun (q : Int) => Inv11 q) (fun (q : Int) => mu12 q) 0 [] h0Inv11 ?_
    rintro i hi
    have h := hInv11 i hi
    refine qD ?_
    refine sDE kk [] [] [(43, vB (decide (i < (↑(List.length (List.map enc_i64 a)) : Int))))] [(43, vB (decide (i < (↑(List.length a) : Int))))] obN ?_
    refine cD (t := 14) (b := decide (i < (↑(List.length a) : Int))) (fun hb13 => ?_) (fun hb13 => ?_)
    · have h := h.1 hb13
      refine Sem.skip' (by kernel_rfl) Wk.refl ?_
      show Sem _ _ _ _ _
      refine wkD [43] ?_
      refine qD ?_
      refine bD (id := 1) ?_
      obtain ⟨h14, h⟩ := h
      obtain ⟨h15, h⟩ := h
      obtain ⟨h16, h⟩ := h
      obtain ⟨h17, h⟩ := h
      refine sD kk [.e (fi (gd a i)), .e (fi (gd b i))] [] [(76, vB (gd a i != gd b i))] (obC h14 (obC (idx_ok enc_i64 a i _ rfl h14 h15) (obC h16 (obC (idx_ok enc_i64 b i _ rfl h16 h17) obN)))) ?_
      refine cD (t := 25) (b := gd a i != gd b i) (fun hb18 => ?_) (fun hb18 => ?_)
      · have h := h.1 hb18
        refine sD kk [] [1, 4, 16, 76] [(13, vB false)] obN ?_
        refine tD ?_
        obtain he0 := h
        subst res
        exact (endD [] (vB false) []).1
      · have h := h.2 hb18
        refine Sem.skip' (by kernel_rfl) Wk.refl ?_
        show Sem _ _ _ _ _
        refine wkD [76] ?_
        refine rD kk [] [] [(16, vi (w64 (i + 1)))] obN ?_
        exact lD (w64 (i + 1)) [] h
    · have h := h.2 hb13
      refine xD (i := 0) ?_
      show Sem _ _ _ _ _
      refine wkD [1, 4, 16, 43] ?_
      refine sD kk [] [] [(13, vB true)] obN ?_
      refine tD ?_
      obtain he0 := h
      subst res
      exact (endD [] (vB true) []).1
set_option maxHeartbeats 1000000 in
theorem W_heckleref09_Same (a : api_Places) (b : api_Places) (res : Bool)
    (h : ((((↑(List.length (List.map enc_arr4_uint64 (api_Places.Sets a))) : Int) != (↑(List.length (List.map enc_arr4_uint64 (api_Places.Sets b))) : Int)) = true → (res = false)) ∧ (((↑(List.length (List.map enc_arr4_uint64 (api_Places.Sets a))) : Int) != (↑(List.length (List.map enc_arr4_uint64 (api_Places.Sets b))) : Int)) = false → ((((↑(List.length (List.map encs_i64 (api_Places.Follow a))) : Int) != (↑(List.length (List.map encs_i64 (api_Places.Follow b))) : Int)) = true → (res = false)) ∧ (((↑(List.length (List.map encs_i64 (api_Places.Follow a))) : Int) != (↑(List.length (List.map encs_i64 (api_Places.Follow b))) : Int)) = false → (((!api_Places.Null a == api_Places.Null b) = true → (res = false)) ∧ ((!api_Places.Null a == api_Places.Null b) = false → (∃ r0 : Bool, C_heckleref09_ints (api_Places.First a) (api_Places.First b) r0 ∧ (((!r0) = true → (res = false)) ∧ ((!r0) = false → (∃ r0_1 : Bool, C_heckleref09_ints (api_Places.Last a) (api_Places.Last b) r0_1 ∧ (((!r0_1) = true → (res = false)) ∧ ((!r0_1) = false → (∃ (Inv17 : Int → Prop) (mu18 : Int → Nat), Inv17 0 ∧ (∀ (i : Int), Inv17 i → (((decide (i < (↑(List.length (api_Places.Sets a)) : Int))) = true → ((0 : Int) ≤ i) ∧ i < ↑(List.length (api_Places.Sets a)) ∧ ((0 : Int) ≤ i) ∧ i < ↑(List.length (api_Places.Sets b)) ∧ (((!(arr4_uint64.e0 (gd (api_Places.Sets a) i) == arr4_uint64.e0 (gd (api_Places.Sets b) i) && (arr4_uint64.e1 (gd (api_Places.Sets a) i) == arr4_uint64.e1 (gd (api_Places.Sets b) i) && (arr4_uint64.e2 (gd (api_Places.Sets a) i) == arr4_uint64.e2 (gd (api_Places.Sets b) i) && (arr4_uint64.e3 (gd (api_Places.Sets a) i) == arr4_uint64.e3 (gd (api_Places.Sets b) i) && true))))) = true → (res = false)) ∧ ((!(arr4_uint64.e0 (gd (api_Places.Sets a) i) == arr4_uint64.e0 (gd (api_Places.Sets b) i) && (arr4_uint64.e1 (gd (api_Places.Sets a) i) == arr4_uint64.e1 (gd (api_Places.Sets b) i) && (arr4_uint64.e2 (gd (api_Places.Sets a) i) == arr4_uint64.e2 (gd (api_Places.Sets b) i) && (arr4_uint64.e3 (gd (api_Places.Sets a) i) == arr4_uint64.e3 (gd (api_Places.Sets b) i) && true))))) = false → (Inv17 (w64 (i + 1)) ∧ mu18 (w64 (i + 1)) < mu18 i)))) ∧ ((decide (i < (↑(List.length (api_Places.Sets a)) : Int))) = false → (∃ (Inv37 : Int → Prop) (mu38 : Int → Nat), Inv37 0 ∧ (∀ (i_1 : Int), Inv37 i_1 → (((decide (i_1 < (↑(List.length (api_Places.Follow a)) : Int))) = true → ((0 : Int) ≤ i_1) ∧ i_1 < ↑(List.length (api_Places.Follow a)) ∧ ((0 : Int) ≤ i_1) ∧ i_1 < ↑(List.length (api_Places.Follow b)) ∧ (∃ r0_4 : Bool, C_heckleref09_ints (gd (api_Places.Follow a) i_1) (gd (api_Places.Follow b) i_1) r0_4 ∧ (((!r0_4) = true → (res = false)) ∧ ((!r0_4) = false → (Inv37 (w64 (i_1 + 1)) ∧ mu38 (w64 (i_1 + 1)) < mu38 i_1))))) ∧ ((decide (i_1 < (↑(List.length (api_Places.Follow a)) : Int))) = false → (res = true)))))))))))))))))))))) : C_heckleref09_Same a b res := by
  unfold C_heckleref09_Same
  have kk := cfOk [] 83
  refine fD (x := bodyOf Try.f22) kk Try.func22 ?_
  refine wkS [1, 4] [(1, av_api_Places a), (4, av_api_Places b)] (by kernel_rfl) ?_
  refine sD kk [] [1, 4] [(7, .ptr 8 0), (8, av_api_Places a), (10, .ptr 11 0), (11, av_api_Places b)] obN ?_
  refine qD ?_
  rcases Bool.eq_false_or_eq_true ((↑(List.length (List.map enc_arr4_uint64 (api_Places.Sets a))) : Int) != (↑(List.length (List.map enc_arr4_uint64 (api_Places.Sets b))) : Int)) with hb0 | hb0
  · have h := h.1 hb0
    refine sD kk [.b false, .b false, .b false, .b false, .b false, .b false, .b false, .b true, .b false, .b false, .b false, .b false, .b false, .b true, .b false, .b false, .b false, .b false, .b false, .b false, .b true, .b false, .b false, .b false, .b false, .b false, .b false, .b true] [] [(136, vB true)] (obC (gff hb0) (obC (gff hb0) (obC (gff hb0) (obC (gff hb0) (obC (gff hb0) (obC (gff hb0) (obC (gff hb0) (obC hb0 (obC (rfl : false = false) (obC (rfl : false = false) (obC (rfl : false = false) (obC (rfl : false = false) (obC (rfl : false = false) (obC (rfl : true = true) (obC (rfl : false = false) (obC (rfl : false = false) (obC (rfl : false = false) (obC (rfl : false = false) (obC (rfl : false = false) (obC (rfl : false = false) (obC (rfl : true = true) (obC (rfl : false = false) (obC (rfl : false = false) (obC (rfl : false = false) (obC (rfl : false = false) (obC (rfl : false = false) (obC (rfl : false = false) (obC (rfl : true = true) obN)))))))))))))))))))))))))))) ?_
    refine cD (t := 45) (b := true) (fun hb49 => ?_) (fun hb49 => ?_)
    · refine sD kk [] [7, 8, 10, 11, 136] [(13, vB false)] obN ?_
      refine tD ?_
      obtain he0 := h
      subst res
      exact (endD [] (vB false) []).1
    · cases hb49
  · have h := h.2 hb0
    rcases Bool.eq_false_or_eq_true ((↑(List.length (List.map encs_i64 (api_Places.Follow a))) : Int) != (↑(List.length (List.map encs_i64 (api_Places.Follow b))) : Int)) with hb1 | hb1
    · have h := h.1 hb1
      refine sD kk [.b true, .b true, .b true, .b true, .b true, .b true, .b true, .b false, .b false, .b false, .b false, .b false, .b false, .b true, .b false, .b false, .b false, .b false, .b false, .b false, .b true, .b false, .b false, .b false, .b false, .b false, .b false, .b true] [] [(136, vB true)] (obC (gft hb0) (obC (gft hb0) (obC (gft hb0) (obC (gft hb0) (obC (gft hb0) (obC (gft hb0) (obC (gft hb0) (obC hb0 (obC (gff hb1) (obC (gff hb1) (obC (gff hb1) (obC (gff hb1) (obC (gff hb1) (obC hb1 (obC (rfl : false = false) (obC (rfl : false = false) (obC (rfl : false = false) (obC (rfl : false = false) (obC (rfl : false = false) (obC (rfl : false = false) (obC (rfl : true = true) (obC (rfl : false = false) (obC (rfl : false = false) (obC (rfl : false = false) (obC (rfl : false = false) (obC (rfl : false = false) (obC (rfl : false = false) (obC (rfl : true = true) obN)))))))))))))))))))))))))))) ?_
      refine cD (t := 45) (b := true) (fun hb48 => ?_) (fun hb48 => ?_)
      · refine sD kk [] [7, 8, 10, 11, 136] [(13, vB false)] obN ?_
        refine tD ?_
        obtain he0 := h
        subst res
        exact (endD [] (vB false) []).1
      · cases hb48
    · have h := h.2 hb1
      rcases Bool.eq_false_or_eq_true (!api_Places.Null a == api_Places.Null b) with hb2 | hb2
      · have h := h.1 hb2
        refine sD kk [.b true, .b true, .b true, .b true, .b true, .b true, .b true, .b false, .b true, .b true, .b true, .b true, .b true, .b false, .b false, .b false, .b false, .b false, .b false, .b false, .b true, .b false, .b false, .b false, .b false, .b false, .b false, .b true] [] [(136, vB true)] (obC (gft hb0) (obC (gft hb0) (obC (gft hb0) (obC (gft hb0) (obC (gft hb0) (obC (gft hb0) (obC (gft hb0) (obC hb0 (obC (gft hb1) (obC (gft hb1) (obC (gft hb1) (obC (gft hb1) (obC (gft hb1) (obC hb1 (obC (gff hb2) (obC (gff hb2) (obC (gff hb2) (obC (gff hb2) (obC (gff hb2) (obC (gff hb2) (obC hb2 (obC (rfl : false = false) (obC (rfl : false = false) (obC (rfl : false = false) (obC (rfl : false = false) (obC (rfl : false = false) (obC (rfl : false = false) (obC (rfl : true = true) obN)))))))))))))))))))))))))))) ?_
        refine cD (t := 45) (b := true) (fun hb47 => ?_) (fun hb47 => ?_)
        · refine sD kk [] [7, 8, 10, 11, 136] [(13, vB false)] obN ?_
          refine tD ?_
          obtain he0 := h
          subst res
          exact (endD [] (vB false) []).1
        · cases hb47
      · have h := h.2 hb2
        obtain ⟨r0, hc3, h⟩ := h
        rcases Bool.eq_false_or_eq_true (!r0) with hb4 | hb4
        · have h := h.1 hb4
          refine sD kk [.b true, .b true, .b true, .b true, .b true, .b true, .b true, .b false, .b true, .b true, .b true, .b true, .b true, .b false, .b true, .b true, .b true, .b true, .b true, .c (vB r0) [], .b true, .b false, .b false, .b false, .b false, .b false, .b false, .b false, .b true] [] [(136, vB true)] (obC (gft hb0) (obC (gft hb0) (obC (gft hb0) (obC (gft hb0) (obC (gft hb0) (obC (gft hb0) (obC (gft hb0) (obC hb0 (obC (gft hb1) (obC (gft hb1) (obC (gft hb1) (obC (gft hb1) (obC (gft hb1) (obC hb1 (obC (gft hb2) (obC (gft hb2) (obC (gft hb2) (obC (gft hb2) (obC (gft hb2) (obC hc3 (obC (gft hb2) (obC hb2 (obC (gff hb4) (obC (gff hb4) (obC (gff hb4) (obC (gff hb4) (obC (gff hb4) (obC (gff hb4) (obC hb4 obN))))))))))))))))))))))))))))) ?_
          refine cD (t := 45) (b := true) (fun hb46 => ?_) (fun hb46 => ?_)
          · refine sD kk [] [7, 8, 10, 11, 136] [(13, vB false)] obN ?_
            refine tD ?_
            obtain he0 := h
            subst res
            exact (endD [] (vB false) []).1
          · cases hb46
        · have h := h.2 hb4
          obtain ⟨r0_1, hc5, h⟩ := h
          refine sD kk [.b true, .b true, .b true, .b true, .b true, .b true, .b true, .b false, .b true, .b true, .b true, .b true, .b true, .b false, .b true, .b true, .b true, .b true, .b true, .c (vB r0) [], .b true, .b false, .b true, .b true, .b true, .b true, .b true, .c (vB r0_1) [], .b true, .b false] [] [(136, vB (!r0_1))] (obC (gft hb0) (obC (gft hb0) (obC (gft hb0) (obC (gft hb0) (obC (gft hb0) (obC (gft hb0) (obC (gft hb0) (obC hb0 (obC (gft hb1) (obC (gft hb1) (obC (gft hb1) (obC (gft hb1) (obC (gft hb1) (obC hb1 (obC (gft hb2) (obC (gft hb2) (obC (gft hb2) (obC (gft hb2) (obC (gft hb2) (obC hc3 (obC (gft hb2) (obC hb2 (obC (gft hb4) (obC (gft hb4) (obC (gft hb4) (obC (gft hb4) (obC (gft hb4) (obC hc5 (obC (gft hb4) (obC hb4 obN)))))))))))))))))))))))))))))) ?_
          refine cD (t := 45) (b := !r0_1) (fun hb6 => ?_) (fun hb6 => ?_)
          · have h := h.1 hb6
            refine sD kk [] [7, 8, 10, 11, 136] [(13, vB false)] obN ?_
            refine tD ?_
            obtain he0 := h
            subst res
            exact (endD [] (vB false) []).1
          · have h := h.2 hb6
            refine Sem.skip' (by kernel_rfl) Wk.refl ?_
            show Sem _ _ _ _ _
            refine wkD [136] ?_
            refine qD ?_
            refine sD kk [] [] [(16, vi 0)] obN ?_
            refine bD (id := 0) ?_
            obtain ⟨Inv17, mu18, h0Inv17, hInv17⟩ := h
            refine loD (fun (q : Int) => (fun (i : Int) => ([(7, .ptr 8 0), (8, av_api_Places a), (10, .ptr 11 0), (11, av_api_Places b), (16, vi i)] : Sta)) q) (fun (q : Int) => Inv17 q) (fun (q : Int) => mu18 q) 0 [] h0Inv17 ?_
            rintro i hi
            have h := hInv17 i hi
            refine qD ?_
            refine sDE kk [] [] [(151, vB (decide (i < (↑(List.length (List.map enc_arr4_uint64 (api_Places.Sets a))) : Int))))] [(151, vB (decide (i < (↑(List.length (api_Places.Sets a)) : Int))))] obN ?_
            refine cD (t := 50) (b := decide (i < (↑(List.length (api_Places.Sets a)) : Int))) (fun hb19 => ?_) (fun hb19 => ?_)
            · have h := h.1 hb19
              refine Sem.skip' (by kernel_rfl) Wk.refl ?_
              show Sem _ _ _ _ _
              refine wkD [151] ?_
              refine qD ?_
              refine bD (id := 1) ?_
              obtain ⟨h20, h⟩ := h
              obtain ⟨h21, h⟩ := h
              obtain ⟨h22, h⟩ := h
              obtain ⟨h23, h⟩ := h
              refine sD kk [.e (fv_arr4_uint64 (gd (api_Places.Sets a) i)), .e (fv_arr4_uint64 (gd (api_Places.Sets b) i))] [] [(190, vB (!(arr4_uint64.e0 (gd (api_Places.Sets a) i) == arr4_uint64.e0 (gd (api_Places.Sets b) i) && (arr4_uint64.e1 (gd (api_Places.Sets a) i) == arr4_uint64.e1 (gd (api_Places.Sets b) i) && (arr4_uint64.e2 (gd (api_Places.Sets a) i) == arr4_uint64.e2 (gd (api_Places.Sets b) i) && (arr4_uint64.e3 (gd (api_Places.Sets a) i) == arr4_uint64.e3 (gd (api_Places.Sets b) i) && true))))))] (obC h20 (obC (idx_ok enc_arr4_uint64 (api_Places.Sets a) i _ (enc_arr4_uint64_eq _) h20 h21) (obC h22 (obC (idx_ok enc_arr4_uint64 (api_Places.Sets b) i _ (enc_arr4_uint64_eq _) h22 h23) obN)))) ?_
              refine cD (t := 63) (b := !(arr4_uint64.e0 (gd (api_Places.Sets a) i) == arr4_uint64.e0 (gd (api_Places.Sets b) i) && (arr4_uint64.e1 (gd (api_Places.Sets a) i) == arr4_uint64.e1 (gd (api_Places.Sets b) i) && (arr4_uint64.e2 (gd (api_Places.Sets a) i) == arr4_uint64.e2 (gd (api_Places.Sets b) i) && (arr4_uint64.e3 (gd (api_Places.Sets a) i) == arr4_uint64.e3 (gd (api_Places.Sets b) i) && true))))) (fun hb24 => ?_) (fun hb24 => ?_)
              · have h := h.1 hb24
                refine sD kk [] [7, 8, 10, 11, 16, 190] [(13, vB false)] obN ?_
                refine tD ?_
                obtain he0 := h
                subst res
                exact (endD [] (vB false) []).1
              · have h := h.2 hb24
                refine Sem.skip' (by kernel_rfl) Wk.refl ?_
                show Sem _ _ _ _ _
                refine wkD [190] ?_
                refine rD kk [] [] [(16, vi (w64 (i + 1)))] obN ?_
                exact lD (w64 (i + 1)) [] h
            · have h := h.2 hb19
              refine xD (i := 0) ?_
              show Sem _ _ _ _ _
              refine wkD [16, 151] ?_
              refine qD ?_
              refine sD kk [] [] [(19, vi 0)] obN ?_
              refine bD (id := 2) ?_
              obtain ⟨Inv37, mu38, h0Inv37, hInv37⟩ := h
              refine loD (fun (q : Int) => (fun (i_1 : Int) => ([(7, .ptr 8 0), (8, av_api_Places a), (10, .ptr 11 0), (11, av_api_Places b), (19, vi i_1)] : Sta)) q) (fun (q : Int) => Inv37 q) (fun (q : Int) => mu38 q) 0 [] h0Inv37 ?_
              rintro i_1 hi
              have h := hInv37 i_1 hi
              refine qD ?_
              refine sDE kk [] [] [(205, vB (decide (i_1 < (↑(List.length (List.map encs_i64 (api_Places.Follow a))) : Int))))] [(205, vB (decide (i_1 < (↑(List.length (api_Places.Follow a)) : Int))))] obN ?_
              refine cD (t := 68) (b := decide (i_1 < (↑(List.length (api_Places.Follow a)) : Int))) (fun hb39 => ?_) (fun hb39 => ?_)
              · have h := h.1 hb39
                refine Sem.skip' (by kernel_rfl) Wk.refl ?_
                show Sem _ _ _ _ _
                refine wkD [205] ?_
                refine qD ?_
                refine bD (id := 3) ?_
                obtain ⟨h40, h⟩ := h
                obtain ⟨h41, h⟩ := h
                obtain ⟨h42, h⟩ := h
                obtain ⟨h43, h⟩ := h
                obtain ⟨r0_4, hc44, h⟩ := h
                refine sD kk [.e (fL enc_i64 (gd (api_Places.Follow a) i_1)), .e (fL enc_i64 (gd (api_Places.Follow b) i_1)), .c (vB r0_4) []] [] [(247, vB (!r0_4))] (obC h40 (obC (idx_ok encs_i64 (api_Places.Follow a) i_1 _ rfl h40 h41) (obC h42 (obC (idx_ok encs_i64 (api_Places.Follow b) i_1 _ rfl h42 h43) (obC hc44 obN))))) ?_
                refine cD (t := 82) (b := !r0_4) (fun hb45 => ?_) (fun hb45 => ?_)
                · have h := h.1 hb45
                  refine sD kk [] [7, 8, 10, 11, 19, 247] [(13, vB false)] obN ?_
                  refine tD ?_
                  obtain he0 := h
                  subst res
                  exact (endD [] (vB false) []).1
                · have h := h.2 hb45
                  refine Sem.skip' (by kernel_rfl) Wk.refl ?_
                  show Sem _ _ _ _ _
                  refine wkD [247] ?_
                  refine rD kk [] [] [(19, vi (w64 (i_1 + 1)))] obN ?_
                  exact lD (w64 (i_1 + 1)) [] h
              · have h := h.2 hb39
                refine xD (i := 2) ?_
                show Sem _ _ _ _ _
                refine wkD [7, 8, 10, 11, 19, 205] ?_
                refine sD kk [] [] [(13, vB true)] obN ?_
                refine tD ?_
                obtain he0 := h
                subst res
                exact (endD [] (vB true) []).1
set_option maxHeartbeats 1000000 in
theorem W_hecklelaw09_same (x : api_Rx) (res : Bool)
    (h : (∃ r0 : api_Places, ∃ r0_1 : Int, C_place_Of x r0 r0_1 ∧ (∃ r0_2 : api_Places, ∃ r0_3 : Int, C_heckleref09_Of x r0_2 r0_3 ∧ (∃ r0_4 : Bool, C_heckleref09_Same r0 r0_2 r0_4 ∧ (res = (r0_4 && r0_1 == r0_3)))))) : C_hecklelaw09_same x res := by
  unfold C_hecklelaw09_same
  have kk := cfOk [] 25
  refine fD (x := bodyOf Try.f10) kk Try.func10 ?_
  refine wkS [1] [(1, av_api_Rx x)] (by kernel_rfl) ?_
  refine sD kk [] [1] [(4, .ptr 5 0), (5, av_api_Rx x)] obN ?_
  obtain ⟨r0, r0_1, hc0, h⟩ := h
  refine sD kk [.c (.tup [av_api_Places r0, vi r0_1]) []] [] [(10, .ptr 11 0), (11, av_api_Places r0), (13, vi r0_1)] (obC hc0 obN) ?_
  obtain ⟨r0_2, r0_3, hc1, h⟩ := h
  refine sD kk [.c (.tup [av_api_Places r0_2, vi r0_3]) []] [4, 5] [(16, .ptr 17 0), (17, av_api_Places r0_2), (19, vi r0_3)] (obC hc1 obN) ?_
  obtain ⟨r0_4, hc2, h⟩ := h
  refine sM [10, 11, 13, 16, 17, 19] [(7, vB (r0_4 && r0_1 == r0_3))] ?_ (fun hk0 => ?_)
  · refine tD ?_
    obtain he0 := h
    subst res
    exact (endD [] (vB (r0_4 && r0_1 == r0_3)) []).1
  · rcases Bool.eq_false_or_eq_true (r0_4) with hb3 | hb3
    · refine sD kk [.c (vB r0_4) [], .b true, .b true, .b true, .b true] [10, 11, 13, 16, 17, 19] [(7, vB (r0_1 == r0_3))] (obC hc2 (obC (gtt hb3) (obC (gtt hb3) (obC (gtt hb3) (obC hb3 obN))))) ?_
      exact Sem.cast (by try rw [hb3]; kernel_rfl) hk0
    · refine sD kk [.c (vB r0_4) [], .b false, .b false, .b false, .b false] [10, 11, 13, 16, 17, 19] [(7, vB false)] (obC hc2 (obC (gtf hb3) (obC (gtf hb3) (obC (gtf hb3) (obC hb3 obN))))) ?_
      exact Sem.cast (by try rw [hb3]; kernel_rfl) hk0
set_option maxHeartbeats 1000000 in
theorem W_hecklelaw09_PlaceAny (x : api_Rx) (res : Bool)
    (h : (∃ r0 : Bool, C_hecklelaw09_awake r0 ∧ (((r0) = true → (∃ r0_1 : Int, C_heckleref03_Nodes x ((300 : Int)) r0_1 ∧ (((decide (r0_1 < (0 : Int))) = true → (res = true)) ∧ ((decide (r0_1 < (0 : Int))) = false → (∃ r0_2 : Bool, C_hecklelaw09_same x r0_2 ∧ (res = r0_2)))))) ∧ ((r0) = false → (res = false))))) : C_hecklelaw09_PlaceAny x res := by
  unfold C_hecklelaw09_PlaceAny
  have kk := cfOk [] 13
  refine fD (x := bodyOf Try.f3) kk Try.func3 ?_
  refine wkS [1] [(1, av_api_Rx x)] (by kernel_rfl) ?_
  refine sD kk [] [1] [(4, .ptr 5 0), (5, av_api_Rx x)] obN ?_
  obtain ⟨r0, hc0, h⟩ := h
  rcases Bool.eq_false_or_eq_true (r0) with hb1 | hb1
  · have h := h.1 hb1
    obtain ⟨r0_1, hc2, h⟩ := h
    rcases Bool.eq_false_or_eq_true (decide (r0_1 < (0 : Int))) with hb3 | hb3
    · have h := h.1 hb3
      refine sD kk [.c (vB r0) [], .b true, .b true, .c (vi r0_1) [], .b true, .b true, .b false, .b false, .b true, .b true, .b true] [4, 5] [(7, vB true)] (obC hc0 (obC (gtt hb1) (obC (gtt hb1) (obC hc2 (obC (gtt hb1) (obC (gtt hb1) (obC (gff hb3) (obC (gff hb3) (obC (gtt hb1) (obC hb3 (obC hb1 obN))))))))))) ?_
      refine tD ?_
      obtain he0 := h
      subst res
      exact (endD [] (vB true) []).1
    · have h := h.2 hb3
      obtain ⟨r0_2, hc4, h⟩ := h
      refine sD kk [.c (vB r0) [], .b true, .b true, .c (vi r0_1) [], .b true, .b true, .b true, .b true, .c (vB r0_2) [], .b true, .b false, .b true] [4, 5] [(7, vB r0_2)] (obC hc0 (obC (gtt hb1) (obC (gtt hb1) (obC hc2 (obC (gtt hb1) (obC (gtt hb1) (obC (gft hb3) (obC (gft hb3) (obC hc4 (obC (gtt hb1) (obC hb3 (obC hb1 obN)))))))))))) ?_
      refine tD ?_
      obtain he0 := h
      subst res
      exact (endD [] (vB r0_2) []).1
  · have h := h.2 hb1
    refine sD kk [.c (vB r0) [], .b false, .b false, .b false, .b false, .b false, .b false] [4, 5] [(7, vB false)] (obC hc0 (obC (gtf hb1) (obC (gtf hb1) (obC (gtf hb1) (obC (gtf hb1) (obC (gtf hb1) (obC hb1 obN))))))) ?_
    refine tD ?_
    obtain he0 := h
    subst res
    exact (endD [] (vB false) []).1
end Go.Ev

set_option linter.unusedSimpArgs false
set_option linter.unusedVariables false
namespace Go.Ev
open Go Go.Proofs
set_option maxRecDepth 8000
end Go.Ev


set_option linter.unusedSimpArgs false
set_option linter.unusedVariables false
namespace Go.Ev
open Go Go.Proofs
set_option maxRecDepth 8000
theorem ti4 : tiOf Try.prog 4 = some ⟨Try.t4.desc, 1, 1, some (.f (.pv (.bool false)))⟩ := tiOf_eq Try.underlying4 Try.type4 (by kernel_rfl)
theorem ti3 : tiOf Try.prog 3 = some ⟨Try.t3.desc, 1, 8, some (.f (.pv (.int .i64 0)))⟩ := tiOf_eq Try.underlying3 Try.type3 (by kernel_rfl)
theorem ti24 : tiOf Try.prog 24 = some ⟨Try.t23.desc, 4, 32, some (.agg [.f (.pv (.int .u64 0)), .f (.pv (.int .u64 0)), .f (.pv (.int .u64 0)), .f (.pv (.int .u64 0))])⟩ := tiOf_eq Try.underlying24 Try.type24 (by kernel_rfl)
theorem ti22 : tiOf Try.prog 22 = some ⟨Try.t22.desc, 1, 8, some (.f (.pv (.int .u64 0)))⟩ := tiOf_eq Try.underlying22 Try.type22 (by kernel_rfl)
theorem ti27 : tiOf Try.prog 27 = some ⟨Try.t26.desc, 8, 80, some (.agg [.f (.pv (.int .i64 0)), .f (.pv (.int .u64 0)), .f (.pv (.int .u64 0)), .f (.pv (.int .u64 0)), .f (.pv (.int .u64 0)), .f (.pv (.int .i64 0)), .f (.pv (.int .i64 0)), .own 27 []])⟩ := tiOf_eq Try.underlying27 Try.type27 (by kernel_rfl)
theorem ti25 : tiOf Try.prog 25 = some ⟨Try.t25.desc, 1, 24, some (.own 27 [])⟩ := tiOf_eq Try.underlying25 Try.type25 (by kernel_rfl)
def orBit (w : Int) (i : Int) : Int := IntKind.u64.wrap (BitVec.ofInt IntKind.u64.bits w ||| BitVec.ofInt IntKind.u64.bits (IntKind.u64.wrap (1 * 2 ^ min i.toNat IntKind.u64.bits))).toNat
def setAdd (s : arr4_uint64) (i : Int) : arr4_uint64 :=
  if i < 64 then { s with e0 := orBit s.e0 i } else if i < 128 then { s with e1 := orBit s.e1 (i - 64) } else if i < 192 then { s with e2 := orBit s.e2 (i - 128) } else { s with e3 := orBit s.e3 (i - 192) }
noncomputable def cf44 : Cfg := { ti := tiOf Try.prog, mv := fun _ => false, nt := 17, dead := keepC [4, 7, 13], deadL := keepC [] }
theorem divmod64 (q i : Int) (h0 : 0 ≤ i) (h1 : 64 * q ≤ i) (h2 : i < 64 * q + 64) : i.tdiv 64 = q ∧ i.tmod 64 = i - 64 * q := by
  rw [Int.tdiv_eq_ediv_of_nonneg h0, Int.tmod_eq_emod_of_nonneg h0]; omega
set_option maxHeartbeats 4000000 in
theorem add_ok (s : arr4_uint64) (i : Int) (h0 : 0 ≤ i) (h1 : i < 256) : C_heckleref01_add s i (setAdd s i) := by
  unfold C_heckleref01_add
  obtain ⟨a, b, c, d⟩ := s
  refine callE_of (c := cf44) (by rfl) (cfgOk_of rfl) (ipsOk_none rfl rfl) Try.func44 (by rfl) rfl rfl (Nat.le_of_ble_eq_true rfl) (by rfl) (by rfl) ?_
  rw [show Try.f44.results = #[.cell 4 24] from rfl]
  have hw0 : IntKind.i64.wrap 0 = 0 := by rfl
  have hw1 : IntKind.i64.wrap 1 = 1 := by rfl
  have hw2 : IntKind.i64.wrap 2 = 2 := by rfl
  have hw3 : IntKind.i64.wrap 3 = 3 := by rfl
  simp only [entry, av_arr4_uint64, vI, vi, vB, cf44, ti3, ti4, ti22, ti24, ti25, ti27, Try.t3, Try.t4, Try.t22, Try.t23, Try.t25, Try.t26, boxRM, hasO, isFO, List.any_cons, List.any_nil, storeX, mvS, wc_seq, wc_reg, wc_skip, wc_block, wc_exit, wc_ret, wc_cond, condQ_t, condQ_f, seqK_n, seqK_e, seqK_r, seqN_nil, seqN_cons, blockK_n, blockK_e, blockK_r, regN_nil, regN_cons, opsQ_nil, opsQ_cons, goQ_nil, goQ_cons, wq_ret, wq_fail, wq_ask, wq_call, wq_peek, wq_if, askQ_some, peekQ_some, look_none, look_at, leafAt.eq_1, leafAt.eq_2, get, ins, mapv, upd, dropN, Up.app.eq_1, Up.app.eq_2, Up.app.eq_3, Up.app.eq_4, Up.app.eq_5, Up.app.eq_6, AV.map2.eq_1, AV.map2.eq_2, AV.map2.eq_3, AV.map1.eq_1, AV.map1.eq_2, killr.eq_1, killr.eq_2, killr.eq_3, killp.eq_1, killp.eq_2, killp.eq_3, killb, putV, setLeaf.eq_1, setLeaf.eq_2, mapLeaf.eq_1, mapLeaf.eq_2, Ev.frz.eq_1, Ev.frz.eq_2, AV.toLeaf.eq_1, AV.toLeaf.eq_2, AV.toLeaf.eq_3, AV.leaves.eq_1, AV.leaves.eq_2, AV.isLeaf.eq_1, AV.isLeaf.eq_2, AV.isLeaf.eq_3, AV.ok.eq_1, AV.ok.eq_2, AV.ok1.eq_1, AV.ok1.eq_2, AV.isBad.eq_1, AV.isBad.eq_2, guardRM, opRM, rdO.eq_1, rdO.eq_2, rdO.eq_3, rdO.eq_4, rdL, vw.eq_1, vw.eq_2, vw.eq_3, vwL, vwLeaf.eq_1, vwLeaf.eq_2, fin.eq_1, fin.eq_2, finOwn.eq_1, finOwn.eq_2, finAgg.eq_1, finAgg.eq_2, finNew.eq_1, finNew.eq_2, newB.eq_1, newB.eq_2, moveRM.eq_1, moveRM.eq_2, asgRM.eq_1, asgRM.eq_2, asgRM.eq_3, asgRM.eq_4, loadRM, storeRM, stSrc.eq_1, stSrc.eq_2, stSrc.eq_3, stTmp.eq_1, stTmp.eq_2, stTmp.eq_3, stTmp.eq_4, stTmp.eq_5, stTmp.eq_6, stTmp.eq_7, stTmp.eq_8, stRaw, stAny, stNil, stEl, stL, cpoL, cpo1.eq_1, cpo1.eq_2, cp.eq_1, cp.eq_2, cp1.eq_1, cp1.eq_2, cp1.eq_3, cp1.eq_4, cp1.eq_5, cp1.eq_6, cpL, cps, fieldAddrRM, fieldOff, AV.plus.eq_1, AV.plus.eq_2, AV.plus.eq_3, AV.plus.eq_4, seen.eq_1, seen.eq_2, seen.eq_3, partAV, binAV.eq_1, binAV.eq_2, binAV.eq_3, binAV.eq_4, binAV.eq_5, binAV.eq_6, binAV.eq_7, binAV.eq_8, binAV.eq_9, unAV.eq_1, unAV.eq_2, unAV.eq_3, unAV.eq_4, optRM.eq_1, optRM.eq_2, intOp.eq_1, intOp.eq_2, intOp.eq_3, intOp.eq_4, intOp.eq_5, intOp.eq_6, intOp.eq_7, intOp.eq_8, intOp.eq_9, intOp.eq_10, intOp.eq_11, intOp.eq_12, intOp.eq_13, intOp.eq_14, intOp.eq_15, intOp.eq_16, shiftOp.eq_1, shiftOp.eq_2, shiftOp.eq_3, strOp.eq_1, strOp.eq_2, strOp.eq_3, strOp.eq_4, strOp.eq_5, strOp.eq_6, strOp.eq_7, strOp.eq_8, isShift.eq_1, isShift.eq_2, isShift.eq_3, buildRM, placesL, fillRM, fillL, buildSliceRM, elemsRM, lenRM.eq_1, lenRM.eq_2, lenRM.eq_3, lenSRM.eq_1, lenSRM.eq_2, maxAV.eq_1, maxAV.eq_2, maxGo, appendRM, apBase.eq_1, apBase.eq_2, apBase.eq_3, apGo, boOk.eq_1, boOk.eq_2, boUps.eq_1, boUps.eq_2, frzNe.eq_1, frzNe.eq_2, isSrcD.eq_1, isSrcD.eq_2, isSrcD.eq_3, sliceOpRM, callGo, addNew, builtinRM.eq_1, builtinRM.eq_2, builtinRM.eq_3, builtinRM.eq_4, builtinRM.eq_5, constAV.eq_1, constAV.eq_2, constL, constLeaf.eq_1, constLeaf.eq_2, constLeaf.eq_3, constLeaf.eq_4, constLeaf.eq_5, constLeaf.eq_6, constLeaf.eq_7, constLeaf.eq_8, constLeaf.eq_9, constLeaf.eq_10, isAggD.eq_1, isAggD.eq_2, isAggD.eq_3, askL, ofCells, AV.free, AV.refs.eq_1, AV.refs.eq_2, AV.refs1.eq_1, AV.refs1.eq_2, AV.refs0.eq_1, AV.refs0.eq_2, AV.refs0.eq_3, AV.refs0.eq_4, AV.refs0.eq_5, Acc.meets.eq_1, Acc.meets.eq_2, Acc.meets.eq_3, Acc.meets.eq_4, Acc.meets.eq_5, Acc.meets.eq_6, frzOff.eq_1, frzOff.eq_2, tb, xb, ob, endK_r, endK_n, endU.eq_1, endU.eq_2, outsOf, resRM.eq_1, resRM.eq_2, resRM.eq_3, res1.eq_1, res1.eq_2, res1.eq_3, cellR, cellFits.eq_1, cellFits.eq_2, cellFits.eq_3, rdR.eq_1, rdR.eq_2, rdRs, keepC, FV.one.eq_1, FV.one.eq_2, FV.cells.eq_1, FV.cells.eq_2, FV.cells.eq_3, AV.leafF.eq_1, AV.leafF.eq_2, AV.elem.eq_1, AV.elem.eq_2, fLeaves, asAV.eq_1, asAV.eq_2, opsP_nil, opsP_cons, goU_nil, goU_cons, goP_nil, goP_cons, ups_refs_nil, ups_refs_cons, ups_writes_nil, ups_writes_cons, regP_cons, wp_ret, wp_fail, wp_ask', wp_peek, wp_call, wp_if, askP_some, peekP_some, accOf.eq_1, accOf.eq_2, Up.refs.eq_1, Up.refs.eq_2, Up.refs.eq_3, Up.refs.eq_4, Up.refs.eq_5, Up.refs.eq_6, Up.writes.eq_1, Up.writes.eq_2, Up.writes.eq_3, Up.writes.eq_4, Up.writes.eq_5, Up.writes.eq_6, Option.isNone_none, AV.ptrs.eq_1, AV.ptrs.eq_2, AV.ptrs0.eq_1, AV.ptrs0.eq_2, AV.ptrs0.eq_3, frzAll, frzIn, ren1.eq_1, ren1.eq_2, ren0.eq_1, ren0.eq_2, ren0.eq_3, renC.eq_1, renC.eq_2, ren2.eq_1, ren2.eq_2, ren2.eq_3, shut1.eq_1, shut1.eq_2, shut0.eq_1, shut0.eq_2, shut0.eq_3, shut2.eq_1, shut2.eq_2, capIn.eq_1, capIn.eq_2, capIn.eq_3, capIn.eq_4, capIn.eq_5, isOut, sameLens, putsOf, setD.eq_1, setD.eq_2, dIn.eq_1, dIn.eq_2, toOut, back, ipOf.eq_1, ipOf.eq_2, ipRM, ipGo, AV.cap.eq_1, AV.cap.eq_2, AV.cap.eq_3, AV.cap.eq_4, callRM_nil, callRM_cons, gather_nil32, gather_cons32, indexAddrRM, indexRM, fieldRM, convAV, sliceRM, makeSliceRM, implies_true, imp_false, forall_const, Option.map_none, FV.size, Int.reduceEq, Int.reduceNe, Int.reduceLT, Int.reduceLE, Int.reduceGT, Int.reduceGE, Int.reduceAdd, Int.reduceSub, Int.reduceMul, Int.reduceNeg, Int.reduceToNat, Int.reducePow, Int.reduceTDiv, Int.reduceTMod, Int.reduceBEq, Int.reduceBNe, Nat.reducePow, Nat.reduceGT, reduceIte, decide_eq_true_eq, Int.toNat_zero, Nat.zero_mul, Nat.reduceMul, Nat.reduceAdd, Nat.reduceMod, Nat.reduceSub, Nat.reduceDiv, Nat.reduceEqDiff, Nat.reduceLT, Nat.reduceLeDiff, Nat.reduceBEq, Nat.reduceBNe, reduceCtorEq, if_true, if_false, Option.bind_some, Option.bind_none, Option.filter_some, Option.map_some, Option.some.injEq, List.getElem?_cons_zero, List.getElem?_cons_succ, List.getElem?_nil, List.getElem?_toArray, List.nodup_nil, List.nodup_cons, List.mem_cons, List.not_mem_nil, List.idxOf_cons, cond_true, cond_false, List.filterMap_cons, List.filterMap_nil, List.getD_cons_zero, List.getD_cons_succ, Option.getD_some, not_or, or_false, false_or, List.map_cons, List.length_map, Int.toNat_natCast, List.map_nil, List.all_cons, List.all_nil, List.length_cons, List.length_nil, List.nil_append, List.cons_append, List.append_nil, List.flatMap_cons, List.flatMap_nil, List.set_cons_zero, List.set_cons_succ, Bool.and_true, Bool.true_and, Bool.and_false, Bool.false_and, Bool.not_true, Bool.not_false, Bool.true_eq_false, Bool.false_eq_true, and_true, true_and, and_false, false_and, not_true_eq_false, not_false_eq_true, ne_eq, ite_self, List.contains_cons, List.contains_nil, Bool.or_false, Bool.false_or, Bool.or_true, Bool.true_or, Nat.zero_add, List.size_toArray, beq_self_eq_true, decide_true, decide_false, List.drop_succ_cons, List.drop_zero, List.take_succ_cons, List.take_zero]
  refine wc_draw (by rfl) (by rfl) ?_
  have cases4 : i < 64 ∨ (64 ≤ i ∧ i < 128) ∨ (128 ≤ i ∧ i < 192) ∨ 192 ≤ i := by omega
  rcases cases4 with c0 | ⟨c0, c1⟩ | ⟨c0, c1⟩ | c0
  · have e1 : i < 64 := by omega
    obtain ⟨hq, hm⟩ := divmod64 0 i h0 (by omega) (by omega)
    generalize hmm : i.tmod 64 = m at hm
    have hn : ¬ m < 0 := by omega
    simp only [hq, hmm, hn, hw0, cf44, ti3, ti4, ti22, ti24, ti25, ti27, Try.t3, Try.t4, Try.t22, Try.t23, Try.t25, Try.t26, boxRM, hasO, isFO, List.any_cons, List.any_nil, storeX, mvS, wc_seq, wc_reg, wc_skip, wc_block, wc_exit, wc_ret, wc_cond, condQ_t, condQ_f, seqK_n, seqK_e, seqK_r, seqN_nil, seqN_cons, blockK_n, blockK_e, blockK_r, regN_nil, regN_cons, opsQ_nil, opsQ_cons, goQ_nil, goQ_cons, wq_ret, wq_fail, wq_ask, wq_call, wq_peek, wq_if, askQ_some, peekQ_some, look_none, look_at, leafAt.eq_1, leafAt.eq_2, get, ins, mapv, upd, dropN, Up.app.eq_1, Up.app.eq_2, Up.app.eq_3, Up.app.eq_4, Up.app.eq_5, Up.app.eq_6, AV.map2.eq_1, AV.map2.eq_2, AV.map2.eq_3, AV.map1.eq_1, AV.map1.eq_2, killr.eq_1, killr.eq_2, killr.eq_3, killp.eq_1, killp.eq_2, killp.eq_3, killb, putV, setLeaf.eq_1, setLeaf.eq_2, mapLeaf.eq_1, mapLeaf.eq_2, Ev.frz.eq_1, Ev.frz.eq_2, AV.toLeaf.eq_1, AV.toLeaf.eq_2, AV.toLeaf.eq_3, AV.leaves.eq_1, AV.leaves.eq_2, AV.isLeaf.eq_1, AV.isLeaf.eq_2, AV.isLeaf.eq_3, AV.ok.eq_1, AV.ok.eq_2, AV.ok1.eq_1, AV.ok1.eq_2, AV.isBad.eq_1, AV.isBad.eq_2, guardRM, opRM, rdO.eq_1, rdO.eq_2, rdO.eq_3, rdO.eq_4, rdL, vw.eq_1, vw.eq_2, vw.eq_3, vwL, vwLeaf.eq_1, vwLeaf.eq_2, fin.eq_1, fin.eq_2, finOwn.eq_1, finOwn.eq_2, finAgg.eq_1, finAgg.eq_2, finNew.eq_1, finNew.eq_2, newB.eq_1, newB.eq_2, moveRM.eq_1, moveRM.eq_2, asgRM.eq_1, asgRM.eq_2, asgRM.eq_3, asgRM.eq_4, loadRM, storeRM, stSrc.eq_1, stSrc.eq_2, stSrc.eq_3, stTmp.eq_1, stTmp.eq_2, stTmp.eq_3, stTmp.eq_4, stTmp.eq_5, stTmp.eq_6, stTmp.eq_7, stTmp.eq_8, stRaw, stAny, stNil, stEl, stL, cpoL, cpo1.eq_1, cpo1.eq_2, cp.eq_1, cp.eq_2, cp1.eq_1, cp1.eq_2, cp1.eq_3, cp1.eq_4, cp1.eq_5, cp1.eq_6, cpL, cps, fieldAddrRM, fieldOff, AV.plus.eq_1, AV.plus.eq_2, AV.plus.eq_3, AV.plus.eq_4, seen.eq_1, seen.eq_2, seen.eq_3, partAV, binAV.eq_1, binAV.eq_2, binAV.eq_3, binAV.eq_4, binAV.eq_5, binAV.eq_6, binAV.eq_7, binAV.eq_8, binAV.eq_9, unAV.eq_1, unAV.eq_2, unAV.eq_3, unAV.eq_4, optRM.eq_1, optRM.eq_2, intOp.eq_1, intOp.eq_2, intOp.eq_3, intOp.eq_4, intOp.eq_5, intOp.eq_6, intOp.eq_7, intOp.eq_8, intOp.eq_9, intOp.eq_10, intOp.eq_11, intOp.eq_12, intOp.eq_13, intOp.eq_14, intOp.eq_15, intOp.eq_16, shiftOp.eq_1, shiftOp.eq_2, shiftOp.eq_3, strOp.eq_1, strOp.eq_2, strOp.eq_3, strOp.eq_4, strOp.eq_5, strOp.eq_6, strOp.eq_7, strOp.eq_8, isShift.eq_1, isShift.eq_2, isShift.eq_3, buildRM, placesL, fillRM, fillL, buildSliceRM, elemsRM, lenRM.eq_1, lenRM.eq_2, lenRM.eq_3, lenSRM.eq_1, lenSRM.eq_2, maxAV.eq_1, maxAV.eq_2, maxGo, appendRM, apBase.eq_1, apBase.eq_2, apBase.eq_3, apGo, boOk.eq_1, boOk.eq_2, boUps.eq_1, boUps.eq_2, frzNe.eq_1, frzNe.eq_2, isSrcD.eq_1, isSrcD.eq_2, isSrcD.eq_3, sliceOpRM, callGo, addNew, builtinRM.eq_1, builtinRM.eq_2, builtinRM.eq_3, builtinRM.eq_4, builtinRM.eq_5, constAV.eq_1, constAV.eq_2, constL, constLeaf.eq_1, constLeaf.eq_2, constLeaf.eq_3, constLeaf.eq_4, constLeaf.eq_5, constLeaf.eq_6, constLeaf.eq_7, constLeaf.eq_8, constLeaf.eq_9, constLeaf.eq_10, isAggD.eq_1, isAggD.eq_2, isAggD.eq_3, askL, ofCells, AV.free, AV.refs.eq_1, AV.refs.eq_2, AV.refs1.eq_1, AV.refs1.eq_2, AV.refs0.eq_1, AV.refs0.eq_2, AV.refs0.eq_3, AV.refs0.eq_4, AV.refs0.eq_5, Acc.meets.eq_1, Acc.meets.eq_2, Acc.meets.eq_3, Acc.meets.eq_4, Acc.meets.eq_5, Acc.meets.eq_6, frzOff.eq_1, frzOff.eq_2, tb, xb, ob, endK_r, endK_n, endU.eq_1, endU.eq_2, outsOf, resRM.eq_1, resRM.eq_2, resRM.eq_3, res1.eq_1, res1.eq_2, res1.eq_3, cellR, cellFits.eq_1, cellFits.eq_2, cellFits.eq_3, rdR.eq_1, rdR.eq_2, rdRs, keepC, FV.one.eq_1, FV.one.eq_2, FV.cells.eq_1, FV.cells.eq_2, FV.cells.eq_3, AV.leafF.eq_1, AV.leafF.eq_2, AV.elem.eq_1, AV.elem.eq_2, fLeaves, asAV.eq_1, asAV.eq_2, opsP_nil, opsP_cons, goU_nil, goU_cons, goP_nil, goP_cons, ups_refs_nil, ups_refs_cons, ups_writes_nil, ups_writes_cons, regP_cons, wp_ret, wp_fail, wp_ask', wp_peek, wp_call, wp_if, askP_some, peekP_some, accOf.eq_1, accOf.eq_2, Up.refs.eq_1, Up.refs.eq_2, Up.refs.eq_3, Up.refs.eq_4, Up.refs.eq_5, Up.refs.eq_6, Up.writes.eq_1, Up.writes.eq_2, Up.writes.eq_3, Up.writes.eq_4, Up.writes.eq_5, Up.writes.eq_6, Option.isNone_none, AV.ptrs.eq_1, AV.ptrs.eq_2, AV.ptrs0.eq_1, AV.ptrs0.eq_2, AV.ptrs0.eq_3, frzAll, frzIn, ren1.eq_1, ren1.eq_2, ren0.eq_1, ren0.eq_2, ren0.eq_3, renC.eq_1, renC.eq_2, ren2.eq_1, ren2.eq_2, ren2.eq_3, shut1.eq_1, shut1.eq_2, shut0.eq_1, shut0.eq_2, shut0.eq_3, shut2.eq_1, shut2.eq_2, capIn.eq_1, capIn.eq_2, capIn.eq_3, capIn.eq_4, capIn.eq_5, isOut, sameLens, putsOf, setD.eq_1, setD.eq_2, dIn.eq_1, dIn.eq_2, toOut, back, ipOf.eq_1, ipOf.eq_2, ipRM, ipGo, AV.cap.eq_1, AV.cap.eq_2, AV.cap.eq_3, AV.cap.eq_4, callRM_nil, callRM_cons, gather_nil32, gather_cons32, indexAddrRM, indexRM, fieldRM, convAV, sliceRM, makeSliceRM, implies_true, imp_false, forall_const, Option.map_none, FV.size, Int.reduceEq, Int.reduceNe, Int.reduceLT, Int.reduceLE, Int.reduceGT, Int.reduceGE, Int.reduceAdd, Int.reduceSub, Int.reduceMul, Int.reduceNeg, Int.reduceToNat, Int.reducePow, Int.reduceTDiv, Int.reduceTMod, Int.reduceBEq, Int.reduceBNe, Nat.reducePow, Nat.reduceGT, reduceIte, decide_eq_true_eq, Int.toNat_zero, Nat.zero_mul, Nat.reduceMul, Nat.reduceAdd, Nat.reduceMod, Nat.reduceSub, Nat.reduceDiv, Nat.reduceEqDiff, Nat.reduceLT, Nat.reduceLeDiff, Nat.reduceBEq, Nat.reduceBNe, reduceCtorEq, if_true, if_false, Option.bind_some, Option.bind_none, Option.filter_some, Option.map_some, Option.some.injEq, List.getElem?_cons_zero, List.getElem?_cons_succ, List.getElem?_nil, List.getElem?_toArray, List.nodup_nil, List.nodup_cons, List.mem_cons, List.not_mem_nil, List.idxOf_cons, cond_true, cond_false, List.filterMap_cons, List.filterMap_nil, List.getD_cons_zero, List.getD_cons_succ, Option.getD_some, not_or, or_false, false_or, List.map_cons, List.length_map, Int.toNat_natCast, List.map_nil, List.all_cons, List.all_nil, List.length_cons, List.length_nil, List.nil_append, List.cons_append, List.append_nil, List.flatMap_cons, List.flatMap_nil, List.set_cons_zero, List.set_cons_succ, Bool.and_true, Bool.true_and, Bool.and_false, Bool.false_and, Bool.not_true, Bool.not_false, Bool.true_eq_false, Bool.false_eq_true, and_true, true_and, and_false, false_and, not_true_eq_false, not_false_eq_true, ne_eq, ite_self, List.contains_cons, List.contains_nil, Bool.or_false, Bool.false_or, Bool.or_true, Bool.true_or, Nat.zero_add, List.size_toArray, beq_self_eq_true, decide_true, decide_false, List.drop_succ_cons, List.drop_zero, List.take_succ_cons, List.take_zero]
    refine ⟨by decide, by decide, by rfl, ?_⟩
    simp [setAdd, e1, orBit, hm]
  · have e1 : ¬ i < 64 := by omega
    have e2 : i < 128 := by omega
    obtain ⟨hq, hm⟩ := divmod64 1 i h0 (by omega) (by omega)
    generalize hmm : i.tmod 64 = m at hm
    have hn : ¬ m < 0 := by omega
    simp only [hq, hmm, hn, hw1, cf44, ti3, ti4, ti22, ti24, ti25, ti27, Try.t3, Try.t4, Try.t22, Try.t23, Try.t25, Try.t26, boxRM, hasO, isFO, List.any_cons, List.any_nil, storeX, mvS, wc_seq, wc_reg, wc_skip, wc_block, wc_exit, wc_ret, wc_cond, condQ_t, condQ_f, seqK_n, seqK_e, seqK_r, seqN_nil, seqN_cons, blockK_n, blockK_e, blockK_r, regN_nil, regN_cons, opsQ_nil, opsQ_cons, goQ_nil, goQ_cons, wq_ret, wq_fail, wq_ask, wq_call, wq_peek, wq_if, askQ_some, peekQ_some, look_none, look_at, leafAt.eq_1, leafAt.eq_2, get, ins, mapv, upd, dropN, Up.app.eq_1, Up.app.eq_2, Up.app.eq_3, Up.app.eq_4, Up.app.eq_5, Up.app.eq_6, AV.map2.eq_1, AV.map2.eq_2, AV.map2.eq_3, AV.map1.eq_1, AV.map1.eq_2, killr.eq_1, killr.eq_2, killr.eq_3, killp.eq_1, killp.eq_2, killp.eq_3, killb, putV, setLeaf.eq_1, setLeaf.eq_2, mapLeaf.eq_1, mapLeaf.eq_2, Ev.frz.eq_1, Ev.frz.eq_2, AV.toLeaf.eq_1, AV.toLeaf.eq_2, AV.toLeaf.eq_3, AV.leaves.eq_1, AV.leaves.eq_2, AV.isLeaf.eq_1, AV.isLeaf.eq_2, AV.isLeaf.eq_3, AV.ok.eq_1, AV.ok.eq_2, AV.ok1.eq_1, AV.ok1.eq_2, AV.isBad.eq_1, AV.isBad.eq_2, guardRM, opRM, rdO.eq_1, rdO.eq_2, rdO.eq_3, rdO.eq_4, rdL, vw.eq_1, vw.eq_2, vw.eq_3, vwL, vwLeaf.eq_1, vwLeaf.eq_2, fin.eq_1, fin.eq_2, finOwn.eq_1, finOwn.eq_2, finAgg.eq_1, finAgg.eq_2, finNew.eq_1, finNew.eq_2, newB.eq_1, newB.eq_2, moveRM.eq_1, moveRM.eq_2, asgRM.eq_1, asgRM.eq_2, asgRM.eq_3, asgRM.eq_4, loadRM, storeRM, stSrc.eq_1, stSrc.eq_2, stSrc.eq_3, stTmp.eq_1, stTmp.eq_2, stTmp.eq_3, stTmp.eq_4, stTmp.eq_5, stTmp.eq_6, stTmp.eq_7, stTmp.eq_8, stRaw, stAny, stNil, stEl, stL, cpoL, cpo1.eq_1, cpo1.eq_2, cp.eq_1, cp.eq_2, cp1.eq_1, cp1.eq_2, cp1.eq_3, cp1.eq_4, cp1.eq_5, cp1.eq_6, cpL, cps, fieldAddrRM, fieldOff, AV.plus.eq_1, AV.plus.eq_2, AV.plus.eq_3, AV.plus.eq_4, seen.eq_1, seen.eq_2, seen.eq_3, partAV, binAV.eq_1, binAV.eq_2, binAV.eq_3, binAV.eq_4, binAV.eq_5, binAV.eq_6, binAV.eq_7, binAV.eq_8, binAV.eq_9, unAV.eq_1, unAV.eq_2, unAV.eq_3, unAV.eq_4, optRM.eq_1, optRM.eq_2, intOp.eq_1, intOp.eq_2, intOp.eq_3, intOp.eq_4, intOp.eq_5, intOp.eq_6, intOp.eq_7, intOp.eq_8, intOp.eq_9, intOp.eq_10, intOp.eq_11, intOp.eq_12, intOp.eq_13, intOp.eq_14, intOp.eq_15, intOp.eq_16, shiftOp.eq_1, shiftOp.eq_2, shiftOp.eq_3, strOp.eq_1, strOp.eq_2, strOp.eq_3, strOp.eq_4, strOp.eq_5, strOp.eq_6, strOp.eq_7, strOp.eq_8, isShift.eq_1, isShift.eq_2, isShift.eq_3, buildRM, placesL, fillRM, fillL, buildSliceRM, elemsRM, lenRM.eq_1, lenRM.eq_2, lenRM.eq_3, lenSRM.eq_1, lenSRM.eq_2, maxAV.eq_1, maxAV.eq_2, maxGo, appendRM, apBase.eq_1, apBase.eq_2, apBase.eq_3, apGo, boOk.eq_1, boOk.eq_2, boUps.eq_1, boUps.eq_2, frzNe.eq_1, frzNe.eq_2, isSrcD.eq_1, isSrcD.eq_2, isSrcD.eq_3, sliceOpRM, callGo, addNew, builtinRM.eq_1, builtinRM.eq_2, builtinRM.eq_3, builtinRM.eq_4, builtinRM.eq_5, constAV.eq_1, constAV.eq_2, constL, constLeaf.eq_1, constLeaf.eq_2, constLeaf.eq_3, constLeaf.eq_4, constLeaf.eq_5, constLeaf.eq_6, constLeaf.eq_7, constLeaf.eq_8, constLeaf.eq_9, constLeaf.eq_10, isAggD.eq_1, isAggD.eq_2, isAggD.eq_3, askL, ofCells, AV.free, AV.refs.eq_1, AV.refs.eq_2, AV.refs1.eq_1, AV.refs1.eq_2, AV.refs0.eq_1, AV.refs0.eq_2, AV.refs0.eq_3, AV.refs0.eq_4, AV.refs0.eq_5, Acc.meets.eq_1, Acc.meets.eq_2, Acc.meets.eq_3, Acc.meets.eq_4, Acc.meets.eq_5, Acc.meets.eq_6, frzOff.eq_1, frzOff.eq_2, tb, xb, ob, endK_r, endK_n, endU.eq_1, endU.eq_2, outsOf, resRM.eq_1, resRM.eq_2, resRM.eq_3, res1.eq_1, res1.eq_2, res1.eq_3, cellR, cellFits.eq_1, cellFits.eq_2, cellFits.eq_3, rdR.eq_1, rdR.eq_2, rdRs, keepC, FV.one.eq_1, FV.one.eq_2, FV.cells.eq_1, FV.cells.eq_2, FV.cells.eq_3, AV.leafF.eq_1, AV.leafF.eq_2, AV.elem.eq_1, AV.elem.eq_2, fLeaves, asAV.eq_1, asAV.eq_2, opsP_nil, opsP_cons, goU_nil, goU_cons, goP_nil, goP_cons, ups_refs_nil, ups_refs_cons, ups_writes_nil, ups_writes_cons, regP_cons, wp_ret, wp_fail, wp_ask', wp_peek, wp_call, wp_if, askP_some, peekP_some, accOf.eq_1, accOf.eq_2, Up.refs.eq_1, Up.refs.eq_2, Up.refs.eq_3, Up.refs.eq_4, Up.refs.eq_5, Up.refs.eq_6, Up.writes.eq_1, Up.writes.eq_2, Up.writes.eq_3, Up.writes.eq_4, Up.writes.eq_5, Up.writes.eq_6, Option.isNone_none, AV.ptrs.eq_1, AV.ptrs.eq_2, AV.ptrs0.eq_1, AV.ptrs0.eq_2, AV.ptrs0.eq_3, frzAll, frzIn, ren1.eq_1, ren1.eq_2, ren0.eq_1, ren0.eq_2, ren0.eq_3, renC.eq_1, renC.eq_2, ren2.eq_1, ren2.eq_2, ren2.eq_3, shut1.eq_1, shut1.eq_2, shut0.eq_1, shut0.eq_2, shut0.eq_3, shut2.eq_1, shut2.eq_2, capIn.eq_1, capIn.eq_2, capIn.eq_3, capIn.eq_4, capIn.eq_5, isOut, sameLens, putsOf, setD.eq_1, setD.eq_2, dIn.eq_1, dIn.eq_2, toOut, back, ipOf.eq_1, ipOf.eq_2, ipRM, ipGo, AV.cap.eq_1, AV.cap.eq_2, AV.cap.eq_3, AV.cap.eq_4, callRM_nil, callRM_cons, gather_nil32, gather_cons32, indexAddrRM, indexRM, fieldRM, convAV, sliceRM, makeSliceRM, implies_true, imp_false, forall_const, Option.map_none, FV.size, Int.reduceEq, Int.reduceNe, Int.reduceLT, Int.reduceLE, Int.reduceGT, Int.reduceGE, Int.reduceAdd, Int.reduceSub, Int.reduceMul, Int.reduceNeg, Int.reduceToNat, Int.reducePow, Int.reduceTDiv, Int.reduceTMod, Int.reduceBEq, Int.reduceBNe, Nat.reducePow, Nat.reduceGT, reduceIte, decide_eq_true_eq, Int.toNat_zero, Nat.zero_mul, Nat.reduceMul, Nat.reduceAdd, Nat.reduceMod, Nat.reduceSub, Nat.reduceDiv, Nat.reduceEqDiff, Nat.reduceLT, Nat.reduceLeDiff, Nat.reduceBEq, Nat.reduceBNe, reduceCtorEq, if_true, if_false, Option.bind_some, Option.bind_none, Option.filter_some, Option.map_some, Option.some.injEq, List.getElem?_cons_zero, List.getElem?_cons_succ, List.getElem?_nil, List.getElem?_toArray, List.nodup_nil, List.nodup_cons, List.mem_cons, List.not_mem_nil, List.idxOf_cons, cond_true, cond_false, List.filterMap_cons, List.filterMap_nil, List.getD_cons_zero, List.getD_cons_succ, Option.getD_some, not_or, or_false, false_or, List.map_cons, List.length_map, Int.toNat_natCast, List.map_nil, List.all_cons, List.all_nil, List.length_cons, List.length_nil, List.nil_append, List.cons_append, List.append_nil, List.flatMap_cons, List.flatMap_nil, List.set_cons_zero, List.set_cons_succ, Bool.and_true, Bool.true_and, Bool.and_false, Bool.false_and, Bool.not_true, Bool.not_false, Bool.true_eq_false, Bool.false_eq_true, and_true, true_and, and_false, false_and, not_true_eq_false, not_false_eq_true, ne_eq, ite_self, List.contains_cons, List.contains_nil, Bool.or_false, Bool.false_or, Bool.or_true, Bool.true_or, Nat.zero_add, List.size_toArray, beq_self_eq_true, decide_true, decide_false, List.drop_succ_cons, List.drop_zero, List.take_succ_cons, List.take_zero]
    refine ⟨by decide, by decide, by rfl, ?_⟩
    simp [setAdd, e1, e2, orBit, hm]
  · have e1 : ¬ i < 64 := by omega
    have e2 : ¬ i < 128 := by omega
    have e3 : i < 192 := by omega
    obtain ⟨hq, hm⟩ := divmod64 2 i h0 (by omega) (by omega)
    generalize hmm : i.tmod 64 = m at hm
    have hn : ¬ m < 0 := by omega
    simp only [hq, hmm, hn, hw2, cf44, ti3, ti4, ti22, ti24, ti25, ti27, Try.t3, Try.t4, Try.t22, Try.t23, Try.t25, Try.t26, boxRM, hasO, isFO, List.any_cons, List.any_nil, storeX, mvS, wc_seq, wc_reg, wc_skip, wc_block, wc_exit, wc_ret, wc_cond, condQ_t, condQ_f, seqK_n, seqK_e, seqK_r, seqN_nil, seqN_cons, blockK_n, blockK_e, blockK_r, regN_nil, regN_cons, opsQ_nil, opsQ_cons, goQ_nil, goQ_cons, wq_ret, wq_fail, wq_ask, wq_call, wq_peek, wq_if, askQ_some, peekQ_some, look_none, look_at, leafAt.eq_1, leafAt.eq_2, get, ins, mapv, upd, dropN, Up.app.eq_1, Up.app.eq_2, Up.app.eq_3, Up.app.eq_4, Up.app.eq_5, Up.app.eq_6, AV.map2.eq_1, AV.map2.eq_2, AV.map2.eq_3, AV.map1.eq_1, AV.map1.eq_2, killr.eq_1, killr.eq_2, killr.eq_3, killp.eq_1, killp.eq_2, killp.eq_3, killb, putV, setLeaf.eq_1, setLeaf.eq_2, mapLeaf.eq_1, mapLeaf.eq_2, Ev.frz.eq_1, Ev.frz.eq_2, AV.toLeaf.eq_1, AV.toLeaf.eq_2, AV.toLeaf.eq_3, AV.leaves.eq_1, AV.leaves.eq_2, AV.isLeaf.eq_1, AV.isLeaf.eq_2, AV.isLeaf.eq_3, AV.ok.eq_1, AV.ok.eq_2, AV.ok1.eq_1, AV.ok1.eq_2, AV.isBad.eq_1, AV.isBad.eq_2, guardRM, opRM, rdO.eq_1, rdO.eq_2, rdO.eq_3, rdO.eq_4, rdL, vw.eq_1, vw.eq_2, vw.eq_3, vwL, vwLeaf.eq_1, vwLeaf.eq_2, fin.eq_1, fin.eq_2, finOwn.eq_1, finOwn.eq_2, finAgg.eq_1, finAgg.eq_2, finNew.eq_1, finNew.eq_2, newB.eq_1, newB.eq_2, moveRM.eq_1, moveRM.eq_2, asgRM.eq_1, asgRM.eq_2, asgRM.eq_3, asgRM.eq_4, loadRM, storeRM, stSrc.eq_1, stSrc.eq_2, stSrc.eq_3, stTmp.eq_1, stTmp.eq_2, stTmp.eq_3, stTmp.eq_4, stTmp.eq_5, stTmp.eq_6, stTmp.eq_7, stTmp.eq_8, stRaw, stAny, stNil, stEl, stL, cpoL, cpo1.eq_1, cpo1.eq_2, cp.eq_1, cp.eq_2, cp1.eq_1, cp1.eq_2, cp1.eq_3, cp1.eq_4, cp1.eq_5, cp1.eq_6, cpL, cps, fieldAddrRM, fieldOff, AV.plus.eq_1, AV.plus.eq_2, AV.plus.eq_3, AV.plus.eq_4, seen.eq_1, seen.eq_2, seen.eq_3, partAV, binAV.eq_1, binAV.eq_2, binAV.eq_3, binAV.eq_4, binAV.eq_5, binAV.eq_6, binAV.eq_7, binAV.eq_8, binAV.eq_9, unAV.eq_1, unAV.eq_2, unAV.eq_3, unAV.eq_4, optRM.eq_1, optRM.eq_2, intOp.eq_1, intOp.eq_2, intOp.eq_3, intOp.eq_4, intOp.eq_5, intOp.eq_6, intOp.eq_7, intOp.eq_8, intOp.eq_9, intOp.eq_10, intOp.eq_11, intOp.eq_12, intOp.eq_13, intOp.eq_14, intOp.eq_15, intOp.eq_16, shiftOp.eq_1, shiftOp.eq_2, shiftOp.eq_3, strOp.eq_1, strOp.eq_2, strOp.eq_3, strOp.eq_4, strOp.eq_5, strOp.eq_6, strOp.eq_7, strOp.eq_8, isShift.eq_1, isShift.eq_2, isShift.eq_3, buildRM, placesL, fillRM, fillL, buildSliceRM, elemsRM, lenRM.eq_1, lenRM.eq_2, lenRM.eq_3, lenSRM.eq_1, lenSRM.eq_2, maxAV.eq_1, maxAV.eq_2, maxGo, appendRM, apBase.eq_1, apBase.eq_2, apBase.eq_3, apGo, boOk.eq_1, boOk.eq_2, boUps.eq_1, boUps.eq_2, frzNe.eq_1, frzNe.eq_2, isSrcD.eq_1, isSrcD.eq_2, isSrcD.eq_3, sliceOpRM, callGo, addNew, builtinRM.eq_1, builtinRM.eq_2, builtinRM.eq_3, builtinRM.eq_4, builtinRM.eq_5, constAV.eq_1, constAV.eq_2, constL, constLeaf.eq_1, constLeaf.eq_2, constLeaf.eq_3, constLeaf.eq_4, constLeaf.eq_5, constLeaf.eq_6, constLeaf.eq_7, constLeaf.eq_8, constLeaf.eq_9, constLeaf.eq_10, isAggD.eq_1, isAggD.eq_2, isAggD.eq_3, askL, ofCells, AV.free, AV.refs.eq_1, AV.refs.eq_2, AV.refs1.eq_1, AV.refs1.eq_2, AV.refs0.eq_1, AV.refs0.eq_2, AV.refs0.eq_3, AV.refs0.eq_4, AV.refs0.eq_5, Acc.meets.eq_1, Acc.meets.eq_2, Acc.meets.eq_3, Acc.meets.eq_4, Acc.meets.eq_5, Acc.meets.eq_6, frzOff.eq_1, frzOff.eq_2, tb, xb, ob, endK_r, endK_n, endU.eq_1, endU.eq_2, outsOf, resRM.eq_1, resRM.eq_2, resRM.eq_3, res1.eq_1, res1.eq_2, res1.eq_3, cellR, cellFits.eq_1, cellFits.eq_2, cellFits.eq_3, rdR.eq_1, rdR.eq_2, rdRs, keepC, FV.one.eq_1, FV.one.eq_2, FV.cells.eq_1, FV.cells.eq_2, FV.cells.eq_3, AV.leafF.eq_1, AV.leafF.eq_2, AV.elem.eq_1, AV.elem.eq_2, fLeaves, asAV.eq_1, asAV.eq_2, opsP_nil, opsP_cons, goU_nil, goU_cons, goP_nil, goP_cons, ups_refs_nil, ups_refs_cons, ups_writes_nil, ups_writes_cons, regP_cons, wp_ret, wp_fail, wp_ask', wp_peek, wp_call, wp_if, askP_some, peekP_some, accOf.eq_1, accOf.eq_2, Up.refs.eq_1, Up.refs.eq_2, Up.refs.eq_3, Up.refs.eq_4, Up.refs.eq_5, Up.refs.eq_6, Up.writes.eq_1, Up.writes.eq_2, Up.writes.eq_3, Up.writes.eq_4, Up.writes.eq_5, Up.writes.eq_6, Option.isNone_none, AV.ptrs.eq_1, AV.ptrs.eq_2, AV.ptrs0.eq_1, AV.ptrs0.eq_2, AV.ptrs0.eq_3, frzAll, frzIn, ren1.eq_1, ren1.eq_2, ren0.eq_1, ren0.eq_2, ren0.eq_3, renC.eq_1, renC.eq_2, ren2.eq_1, ren2.eq_2, ren2.eq_3, shut1.eq_1, shut1.eq_2, shut0.eq_1, shut0.eq_2, shut0.eq_3, shut2.eq_1, shut2.eq_2, capIn.eq_1, capIn.eq_2, capIn.eq_3, capIn.eq_4, capIn.eq_5, isOut, sameLens, putsOf, setD.eq_1, setD.eq_2, dIn.eq_1, dIn.eq_2, toOut, back, ipOf.eq_1, ipOf.eq_2, ipRM, ipGo, AV.cap.eq_1, AV.cap.eq_2, AV.cap.eq_3, AV.cap.eq_4, callRM_nil, callRM_cons, gather_nil32, gather_cons32, indexAddrRM, indexRM, fieldRM, convAV, sliceRM, makeSliceRM, implies_true, imp_false, forall_const, Option.map_none, FV.size, Int.reduceEq, Int.reduceNe, Int.reduceLT, Int.reduceLE, Int.reduceGT, Int.reduceGE, Int.reduceAdd, Int.reduceSub, Int.reduceMul, Int.reduceNeg, Int.reduceToNat, Int.reducePow, Int.reduceTDiv, Int.reduceTMod, Int.reduceBEq, Int.reduceBNe, Nat.reducePow, Nat.reduceGT, reduceIte, decide_eq_true_eq, Int.toNat_zero, Nat.zero_mul, Nat.reduceMul, Nat.reduceAdd, Nat.reduceMod, Nat.reduceSub, Nat.reduceDiv, Nat.reduceEqDiff, Nat.reduceLT, Nat.reduceLeDiff, Nat.reduceBEq, Nat.reduceBNe, reduceCtorEq, if_true, if_false, Option.bind_some, Option.bind_none, Option.filter_some, Option.map_some, Option.some.injEq, List.getElem?_cons_zero, List.getElem?_cons_succ, List.getElem?_nil, List.getElem?_toArray, List.nodup_nil, List.nodup_cons, List.mem_cons, List.not_mem_nil, List.idxOf_cons, cond_true, cond_false, List.filterMap_cons, List.filterMap_nil, List.getD_cons_zero, List.getD_cons_succ, Option.getD_some, not_or, or_false, false_or, List.map_cons, List.length_map, Int.toNat_natCast, List.map_nil, List.all_cons, List.all_nil, List.length_cons, List.length_nil, List.nil_append, List.cons_append, List.append_nil, List.flatMap_cons, List.flatMap_nil, List.set_cons_zero, List.set_cons_succ, Bool.and_true, Bool.true_and, Bool.and_false, Bool.false_and, Bool.not_true, Bool.not_false, Bool.true_eq_false, Bool.false_eq_true, and_true, true_and, and_false, false_and, not_true_eq_false, not_false_eq_true, ne_eq, ite_self, List.contains_cons, List.contains_nil, Bool.or_false, Bool.false_or, Bool.or_true, Bool.true_or, Nat.zero_add, List.size_toArray, beq_self_eq_true, decide_true, decide_false, List.drop_succ_cons, List.drop_zero, List.take_succ_cons, List.take_zero]
    refine ⟨by decide, by decide, by rfl, ?_⟩
    simp [setAdd, e1, e2, e3, orBit, hm]
  · have e1 : ¬ i < 64 := by omega
    have e2 : ¬ i < 128 := by omega
    have e3 : ¬ i < 192 := by omega
    obtain ⟨hq, hm⟩ := divmod64 3 i h0 (by omega) (by omega)
    generalize hmm : i.tmod 64 = m at hm
    have hn : ¬ m < 0 := by omega
    simp only [hq, hmm, hn, hw3, cf44, ti3, ti4, ti22, ti24, ti25, ti27, Try.t3, Try.t4, Try.t22, Try.t23, Try.t25, Try.t26, boxRM, hasO, isFO, List.any_cons, List.any_nil, storeX, mvS, wc_seq, wc_reg, wc_skip, wc_block, wc_exit, wc_ret, wc_cond, condQ_t, condQ_f, seqK_n, seqK_e, seqK_r, seqN_nil, seqN_cons, blockK_n, blockK_e, blockK_r, regN_nil, regN_cons, opsQ_nil, opsQ_cons, goQ_nil, goQ_cons, wq_ret, wq_fail, wq_ask, wq_call, wq_peek, wq_if, askQ_some, peekQ_some, look_none, look_at, leafAt.eq_1, leafAt.eq_2, get, ins, mapv, upd, dropN, Up.app.eq_1, Up.app.eq_2, Up.app.eq_3, Up.app.eq_4, Up.app.eq_5, Up.app.eq_6, AV.map2.eq_1, AV.map2.eq_2, AV.map2.eq_3, AV.map1.eq_1, AV.map1.eq_2, killr.eq_1, killr.eq_2, killr.eq_3, killp.eq_1, killp.eq_2, killp.eq_3, killb, putV, setLeaf.eq_1, setLeaf.eq_2, mapLeaf.eq_1, mapLeaf.eq_2, Ev.frz.eq_1, Ev.frz.eq_2, AV.toLeaf.eq_1, AV.toLeaf.eq_2, AV.toLeaf.eq_3, AV.leaves.eq_1, AV.leaves.eq_2, AV.isLeaf.eq_1, AV.isLeaf.eq_2, AV.isLeaf.eq_3, AV.ok.eq_1, AV.ok.eq_2, AV.ok1.eq_1, AV.ok1.eq_2, AV.isBad.eq_1, AV.isBad.eq_2, guardRM, opRM, rdO.eq_1, rdO.eq_2, rdO.eq_3, rdO.eq_4, rdL, vw.eq_1, vw.eq_2, vw.eq_3, vwL, vwLeaf.eq_1, vwLeaf.eq_2, fin.eq_1, fin.eq_2, finOwn.eq_1, finOwn.eq_2, finAgg.eq_1, finAgg.eq_2, finNew.eq_1, finNew.eq_2, newB.eq_1, newB.eq_2, moveRM.eq_1, moveRM.eq_2, asgRM.eq_1, asgRM.eq_2, asgRM.eq_3, asgRM.eq_4, loadRM, storeRM, stSrc.eq_1, stSrc.eq_2, stSrc.eq_3, stTmp.eq_1, stTmp.eq_2, stTmp.eq_3, stTmp.eq_4, stTmp.eq_5, stTmp.eq_6, stTmp.eq_7, stTmp.eq_8, stRaw, stAny, stNil, stEl, stL, cpoL, cpo1.eq_1, cpo1.eq_2, cp.eq_1, cp.eq_2, cp1.eq_1, cp1.eq_2, cp1.eq_3, cp1.eq_4, cp1.eq_5, cp1.eq_6, cpL, cps, fieldAddrRM, fieldOff, AV.plus.eq_1, AV.plus.eq_2, AV.plus.eq_3, AV.plus.eq_4, seen.eq_1, seen.eq_2, seen.eq_3, partAV, binAV.eq_1, binAV.eq_2, binAV.eq_3, binAV.eq_4, binAV.eq_5, binAV.eq_6, binAV.eq_7, binAV.eq_8, binAV.eq_9, unAV.eq_1, unAV.eq_2, unAV.eq_3, unAV.eq_4, optRM.eq_1, optRM.eq_2, intOp.eq_1, intOp.eq_2, intOp.eq_3, intOp.eq_4, intOp.eq_5, intOp.eq_6, intOp.eq_7, intOp.eq_8, intOp.eq_9, intOp.eq_10, intOp.eq_11, intOp.eq_12, intOp.eq_13, intOp.eq_14, intOp.eq_15, intOp.eq_16, shiftOp.eq_1, shiftOp.eq_2, shiftOp.eq_3, strOp.eq_1, strOp.eq_2, strOp.eq_3, strOp.eq_4, strOp.eq_5, strOp.eq_6, strOp.eq_7, strOp.eq_8, isShift.eq_1, isShift.eq_2, isShift.eq_3, buildRM, placesL, fillRM, fillL, buildSliceRM, elemsRM, lenRM.eq_1, lenRM.eq_2, lenRM.eq_3, lenSRM.eq_1, lenSRM.eq_2, maxAV.eq_1, maxAV.eq_2, maxGo, appendRM, apBase.eq_1, apBase.eq_2, apBase.eq_3, apGo, boOk.eq_1, boOk.eq_2, boUps.eq_1, boUps.eq_2, frzNe.eq_1, frzNe.eq_2, isSrcD.eq_1, isSrcD.eq_2, isSrcD.eq_3, sliceOpRM, callGo, addNew, builtinRM.eq_1, builtinRM.eq_2, builtinRM.eq_3, builtinRM.eq_4, builtinRM.eq_5, constAV.eq_1, constAV.eq_2, constL, constLeaf.eq_1, constLeaf.eq_2, constLeaf.eq_3, constLeaf.eq_4, constLeaf.eq_5, constLeaf.eq_6, constLeaf.eq_7, constLeaf.eq_8, constLeaf.eq_9, constLeaf.eq_10, isAggD.eq_1, isAggD.eq_2, isAggD.eq_3, askL, ofCells, AV.free, AV.refs.eq_1, AV.refs.eq_2, AV.refs1.eq_1, AV.refs1.eq_2, AV.refs0.eq_1, AV.refs0.eq_2, AV.refs0.eq_3, AV.refs0.eq_4, AV.refs0.eq_5, Acc.meets.eq_1, Acc.meets.eq_2, Acc.meets.eq_3, Acc.meets.eq_4, Acc.meets.eq_5, Acc.meets.eq_6, frzOff.eq_1, frzOff.eq_2, tb, xb, ob, endK_r, endK_n, endU.eq_1, endU.eq_2, outsOf, resRM.eq_1, resRM.eq_2, resRM.eq_3, res1.eq_1, res1.eq_2, res1.eq_3, cellR, cellFits.eq_1, cellFits.eq_2, cellFits.eq_3, rdR.eq_1, rdR.eq_2, rdRs, keepC, FV.one.eq_1, FV.one.eq_2, FV.cells.eq_1, FV.cells.eq_2, FV.cells.eq_3, AV.leafF.eq_1, AV.leafF.eq_2, AV.elem.eq_1, AV.elem.eq_2, fLeaves, asAV.eq_1, asAV.eq_2, opsP_nil, opsP_cons, goU_nil, goU_cons, goP_nil, goP_cons, ups_refs_nil, ups_refs_cons, ups_writes_nil, ups_writes_cons, regP_cons, wp_ret, wp_fail, wp_ask', wp_peek, wp_call, wp_if, askP_some, peekP_some, accOf.eq_1, accOf.eq_2, Up.refs.eq_1, Up.refs.eq_2, Up.refs.eq_3, Up.refs.eq_4, Up.refs.eq_5, Up.refs.eq_6, Up.writes.eq_1, Up.writes.eq_2, Up.writes.eq_3, Up.writes.eq_4, Up.writes.eq_5, Up.writes.eq_6, Option.isNone_none, AV.ptrs.eq_1, AV.ptrs.eq_2, AV.ptrs0.eq_1, AV.ptrs0.eq_2, AV.ptrs0.eq_3, frzAll, frzIn, ren1.eq_1, ren1.eq_2, ren0.eq_1, ren0.eq_2, ren0.eq_3, renC.eq_1, renC.eq_2, ren2.eq_1, ren2.eq_2, ren2.eq_3, shut1.eq_1, shut1.eq_2, shut0.eq_1, shut0.eq_2, shut0.eq_3, shut2.eq_1, shut2.eq_2, capIn.eq_1, capIn.eq_2, capIn.eq_3, capIn.eq_4, capIn.eq_5, isOut, sameLens, putsOf, setD.eq_1, setD.eq_2, dIn.eq_1, dIn.eq_2, toOut, back, ipOf.eq_1, ipOf.eq_2, ipRM, ipGo, AV.cap.eq_1, AV.cap.eq_2, AV.cap.eq_3, AV.cap.eq_4, callRM_nil, callRM_cons, gather_nil32, gather_cons32, indexAddrRM, indexRM, fieldRM, convAV, sliceRM, makeSliceRM, implies_true, imp_false, forall_const, Option.map_none, FV.size, Int.reduceEq, Int.reduceNe, Int.reduceLT, Int.reduceLE, Int.reduceGT, Int.reduceGE, Int.reduceAdd, Int.reduceSub, Int.reduceMul, Int.reduceNeg, Int.reduceToNat, Int.reducePow, Int.reduceTDiv, Int.reduceTMod, Int.reduceBEq, Int.reduceBNe, Nat.reducePow, Nat.reduceGT, reduceIte, decide_eq_true_eq, Int.toNat_zero, Nat.zero_mul, Nat.reduceMul, Nat.reduceAdd, Nat.reduceMod, Nat.reduceSub, Nat.reduceDiv, Nat.reduceEqDiff, Nat.reduceLT, Nat.reduceLeDiff, Nat.reduceBEq, Nat.reduceBNe, reduceCtorEq, if_true, if_false, Option.bind_some, Option.bind_none, Option.filter_some, Option.map_some, Option.some.injEq, List.getElem?_cons_zero, List.getElem?_cons_succ, List.getElem?_nil, List.getElem?_toArray, List.nodup_nil, List.nodup_cons, List.mem_cons, List.not_mem_nil, List.idxOf_cons, cond_true, cond_false, List.filterMap_cons, List.filterMap_nil, List.getD_cons_zero, List.getD_cons_succ, Option.getD_some, not_or, or_false, false_or, List.map_cons, List.length_map, Int.toNat_natCast, List.map_nil, List.all_cons, List.all_nil, List.length_cons, List.length_nil, List.nil_append, List.cons_append, List.append_nil, List.flatMap_cons, List.flatMap_nil, List.set_cons_zero, List.set_cons_succ, Bool.and_true, Bool.true_and, Bool.and_false, Bool.false_and, Bool.not_true, Bool.not_false, Bool.true_eq_false, Bool.false_eq_true, and_true, true_and, and_false, false_and, not_true_eq_false, not_false_eq_true, ne_eq, ite_self, List.contains_cons, List.contains_nil, Bool.or_false, Bool.false_or, Bool.or_true, Bool.true_or, Nat.zero_add, List.size_toArray, beq_self_eq_true, decide_true, decide_false, List.drop_succ_cons, List.drop_zero, List.take_succ_cons, List.take_zero]
    refine ⟨by decide, by decide, by rfl, ?_⟩
    simp [setAdd, e1, e2, e3, orBit, hm]
end Go.Ev

set_option linter.unusedSimpArgs false
set_option linter.unusedVariables false
namespace Go.Ev
open Go Go.Proofs
theorem w64_id {x : Int} (h0 : -9223372036854775808 ≤ x) (h1 : x ≤ 9223372036854775807) : w64 x = x := wrap64 h0 (by omega)
def setTo (p : Int → Bool) : Nat → arr4_uint64
  | 0 => ⟨0, 0, 0, 0⟩
  | n + 1 => if p n then setAdd (setTo p n) n else setTo p n
def mkSet (p : Int → Bool) : arr4_uint64 := setTo p 256
theorem setOf_ok (lo hi : Int) : C_heckleref01_Of lo hi (mkSet fun i => decide (i ≥ lo) && decide (i ≤ hi)) := by
  refine W_heckleref01_Of _ _ _ ⟨fun e0 e1 e2 e3 b => ∃ n : Nat, n ≤ 256 ∧ b = n ∧ arr4_uint64.mk e0 e1 e2 e3 = setTo (fun i => decide (i ≥ lo) && decide (i ≤ hi)) n, fun _ _ _ _ b => (256 - b).toNat, ⟨0, by omega, rfl, rfl⟩, ?_⟩
  rintro e0 e1 e2 e3 b ⟨n, hn, rfl, hs⟩
  refine ⟨fun hb => ?_, fun hb => ?_⟩
  · have hb : n < 256 := by have := of_decide_eq_true hb; omega
    have hw : w64 ((n : Int) + 1) = ((n + 1 : Nat) : Int) := w64_id (by omega) (by omega)
    refine ⟨fun a b c d => arr4_uint64.mk a b c d = setTo (fun i => decide (i ≥ lo) && decide (i ≤ hi)) (n + 1), fun a b c d h => ⟨⟨n + 1, by omega, hw, h⟩, by rw [hw]; show (256 - _ : Int).toNat < (256 - _ : Int).toNat; omega⟩, fun ht => ⟨_, add_ok _ _ (by omega) (by omega), ?_⟩, fun ht => ?_⟩
    · simp only [setTo, ht, if_true, hs]
    · simp only [setTo, ht, hs]; rfl
  · have hb : n = 256 := by have := of_decide_eq_false hb; omega
    subst hb
    exact hs.symm
theorem char9_ok (b : Int) : C_hecklelaw09_char b ⟨2, mkSet fun i => decide (i ≥ b) && decide (i ≤ b), 0, 0, []⟩ := by
  exact W_hecklelaw09_char _ _ ⟨_, setOf_ok _ _, rfl⟩
end Go.Ev

set_option linter.unusedSimpArgs false
set_option linter.unusedVariables false
namespace Go.Ev.Pl
open Go Go.Ev
abbrev SS (l : List Int) : Prop := l.Pairwise (· < ·)
theorem ss_ext : ∀ {a b : List Int}, SS a → SS b → (∀ x, x ∈ a ↔ x ∈ b) → a = b
  | [], [], _, _, _ => rfl
  | [], y :: b, _, _, h => by have := (h y).2 (List.mem_cons_self ..); simp at this
  | x :: a, [], _, _, h => by have := (h x).1 (List.mem_cons_self ..); simp at this
  | x :: a, y :: b, ha, hb, h => by
    have ha := List.pairwise_cons.1 ha
    have hb := List.pairwise_cons.1 hb
    have hxy : x = y := by
      rcases List.mem_cons.1 ((h x).1 (List.mem_cons_self ..)) with e | e
      · exact e
      · rcases List.mem_cons.1 ((h y).2 (List.mem_cons_self ..)) with e' | e'
        · exact e'.symm
        · have := hb.1 x e; have := ha.1 y e'; omega
    subst hxy
    rw [ss_ext ha.2 hb.2]
    intro z
    constructor
    · intro hz
      rcases List.mem_cons.1 ((h z).1 (List.mem_cons_of_mem _ hz)) with e | e
      · subst e; have := ha.1 z hz; omega
      · exact e
    · intro hz
      rcases List.mem_cons.1 ((h z).2 (List.mem_cons_of_mem _ hz)) with e | e
      · subst e; have := hb.1 z hz; omega
      · exact e
def join (a b : List Int) : List Int := compactInts (sortInts (a ++ b))
theorem upTo_spec (zs : List Int) (hs : zs.Pairwise (· ≤ ·)) : ∀ m, m ≤ zs.length → SS (Lib.compactUpTo zs.toArray m) ∧ ∀ x, x ∈ Lib.compactUpTo zs.toArray m ↔ x ∈ zs.take m := by
  intro m
  induction m with
  | zero => intro _; simp [Lib.compactUpTo]
  | succ m ih =>
    intro hm
    obtain ⟨h1, h2⟩ := ih (by omega)
    have hg : zs.toArray[m]! = zs[m]'(by omega) := by simp [getElem!_pos, show m < zs.length by omega]
    have ht : ∀ x, x ∈ zs.take (m + 1) ↔ x ∈ zs.take m ∨ x = zs[m]'(by omega) := by
      intro x; rw [List.take_succ_eq_append_getElem (by omega), List.mem_append, List.mem_singleton]
    have hle : ∀ x ∈ zs.take m, x ≤ zs[m]'(by omega) := by
      intro x hx
      obtain ⟨i, hi, rfl⟩ := List.mem_iff_getElem.1 hx
      simp only [List.length_take] at hi
      rw [List.getElem_take]
      exact List.pairwise_iff_getElem.1 hs i m (by omega) (by omega) (by omega)
    rw [Lib.compactUpTo_succ, hg]
    by_cases hk : Lib.keeps zs.toArray m = true
    · rw [if_pos hk]
      refine ⟨List.pairwise_append.2 ⟨h1, by simp, fun x hx y hy => ?_⟩, fun x => ?_⟩
      · simp at hy; subst hy
        have hx := (h2 x).1 hx
        have h3 := hle x hx
        simp only [Lib.keeps, decide_eq_true_eq] at hk
        rcases hk with rfl | hk
        · simp at hx
        · have hm0 : m ≠ 0 := by rintro rfl; simp at hx
          have hg' : zs.toArray[m - 1]! = zs[m - 1]'(by omega) := by simp [getElem!_pos, show m - 1 < zs.length by omega]
          rw [hg, hg'] at hk
          obtain ⟨i, hi, rfl⟩ := List.mem_iff_getElem.1 hx
          simp only [List.length_take] at hi
          rw [List.getElem_take] at h3 ⊢
          have h5 : zs[i]'(by omega) ≤ zs[m - 1]'(by omega) := by
            by_cases e : i = m - 1
            · subst e; exact Int.le_refl _
            · exact List.pairwise_iff_getElem.1 hs i (m - 1) (by omega) (by omega) (by omega)
          have h6 : zs[m - 1]'(by omega) ≤ zs[m]'(by omega) := List.pairwise_iff_getElem.1 hs (m - 1) m (by omega) (by omega) (by omega)
          have : zs[m - 1]'(by omega) ≠ zs[m]'(by omega) := fun e => hk e.symm
          omega
      · rw [ht]; simp [h2]
    · rw [if_neg hk]
      refine ⟨by simpa using h1, fun x => ?_⟩
      rw [List.append_nil, ht, h2]
      constructor
      · exact .inl
      · rintro (h | rfl)
        · exact h
        · simp only [Lib.keeps, decide_eq_true_eq, not_or, Decidable.not_not] at hk
          obtain ⟨hm0, hk⟩ := hk
          have hg' : zs.toArray[m - 1]! = zs[m - 1]'(by omega) := by simp [getElem!_pos, show m - 1 < zs.length by omega]
          rw [hg, hg'] at hk
          rw [hk]
          refine List.mem_iff_getElem.2 ⟨m - 1, by simp; omega, by rw [List.getElem_take]⟩
theorem sort_spec (l : List Int) : (sortInts l).Pairwise (· ≤ ·) ∧ ∀ x, x ∈ sortInts l ↔ x ∈ l := by
  refine ⟨?_, fun x => by simp [sortInts]⟩
  have := List.pairwise_mergeSort (le := fun x y : Int => decide (x ≤ y)) (fun a b c h1 h2 => by simp at *; omega) (fun a b => by simp; omega) l
  exact this.imp (by simp)
theorem join_spec (a b : List Int) : SS (join a b) ∧ ∀ x, x ∈ join a b ↔ x ∈ a ∨ x ∈ b := by
  obtain ⟨h1, h2⟩ := sort_spec (a ++ b)
  obtain ⟨h3, h4⟩ := upTo_spec _ h1 _ (Nat.le_refl _)
  refine ⟨h3, fun x => ?_⟩
  show x ∈ Lib.compactUpTo _ _ ↔ _
  rw [h4, List.take_length, h2, List.mem_append]
theorem sort_len (l : List Int) : (sortInts l).length = l.length := by simp [sortInts]
def addL : List Int → List Int → List Int
  | [], b => b
  | a, [] => a
  | x :: a, y :: b => if x < y then x :: addL a (y :: b) else if y < x then y :: addL (x :: a) b else x :: addL a b
  termination_by a b => a.length + b.length
theorem addL_mem : ∀ (a b : List Int) (x : Int), x ∈ addL a b ↔ x ∈ a ∨ x ∈ b
  | [], b, z => by simp [addL]
  | x :: a, [], z => by simp [addL]
  | x :: a, y :: b, z => by
    rw [addL]
    split
    · rw [List.mem_cons, addL_mem a (y :: b)]; grind
    · split
      · rw [List.mem_cons, addL_mem (x :: a) b]; grind
      · rw [List.mem_cons, addL_mem a b]; grind
  termination_by a b => a.length + b.length
theorem addL_ss : ∀ {a b : List Int}, SS a → SS b → SS (addL a b)
  | [], b, _, hb => by rw [addL]; exact hb
  | x :: a, [], ha, _ => by rw [addL]; exact ha; simp
  | x :: a, y :: b, ha, hb => by
    have ha' := List.pairwise_cons.1 ha
    have hb' := List.pairwise_cons.1 hb
    rw [addL]
    split
    · refine List.pairwise_cons.2 ⟨fun z hz => ?_, addL_ss ha'.2 hb⟩
      rw [addL_mem] at hz; grind
    · split
      · refine List.pairwise_cons.2 ⟨fun z hz => ?_, addL_ss ha hb'.2⟩
        rw [addL_mem] at hz; grind
      · refine List.pairwise_cons.2 ⟨fun z hz => ?_, addL_ss ha'.2 hb'.2⟩
        rw [addL_mem] at hz; grind
  termination_by a b => a.length + b.length
theorem join_eq {a b : List Int} (ha : SS a) (hb : SS b) : join a b = addL a b :=
  ss_ext (join_spec a b).1 (addL_ss ha hb) fun x => by rw [(join_spec a b).2, addL_mem]
end Go.Ev.Pl

set_option linter.unusedSimpArgs false
set_option linter.unusedVariables false
namespace Go.Ev.Pl
open Go Go.Ev
theorem w64_id {x : Int} (h0 : -9223372036854775808 ≤ x) (h1 : x ≤ 9223372036854775807) : w64 x = x := wrap64 h0 (by omega)
theorem rx_sizeOf {x y : api_Rx} (h : y ∈ x.Kids) : SizeOf.sizeOf y < SizeOf.sizeOf x := by
  cases x with
  | mk k s lo hi kids =>
    have := List.sizeOf_lt_of_mem h
    simp only [api_Rx.mk.sizeOf_spec]
    simp at this
    omega
theorem rxInd {P : api_Rx → Prop} (h : ∀ x, (∀ y ∈ x.Kids, P y) → P x) (x : api_Rx) : P x :=
  h x fun y hy => rxInd h y
  termination_by SizeOf.sizeOf x
  decreasing_by exact rx_sizeOf hy
mutual
def cata {α : Type} (f : api_Rx → List α → α) : api_Rx → α
  | ⟨k, s, lo, hi, kids⟩ => f ⟨k, s, lo, hi, kids⟩ (cataL f kids)
def cataL {α : Type} (f : api_Rx → List α → α) : List api_Rx → List α
  | [] => []
  | x :: r => cata f x :: cataL f r
end
theorem cataL_map {α : Type} (f : api_Rx → List α → α) : ∀ l, cataL f l = l.map (cata f)
  | [] => rfl
  | x :: r => by rw [cataL, cataL_map f r]; rfl
theorem cata_eq {α : Type} (f : api_Rx → List α → α) (x : api_Rx) : cata f x = f x (x.Kids.map (cata f)) := by
  cases x; rw [cata, cataL_map]
def Wf (x : api_Rx) : Prop := cata (α := Prop) (fun x l => x.Kids.length < 1099511627776 ∧ ∀ p ∈ l, p) x
theorem wf_eq (x : api_Rx) : Wf x ↔ x.Kids.length < 1099511627776 ∧ ∀ y ∈ x.Kids, Wf y := by
  show cata (α := Prop) _ x ↔ _
  rw [cata_eq]
  constructor
  · rintro ⟨h1, h2⟩; exact ⟨h1, fun y hy => h2 _ (List.mem_map.2 ⟨y, hy, rfl⟩)⟩
  · rintro ⟨h1, h2⟩
    refine ⟨h1, fun p hp => ?_⟩
    obtain ⟨y, hy, rfl⟩ := List.mem_map.1 hp
    exact h2 y hy
theorem gd_nat {α : Type} [Inhabited α] {l : List α} {i : Nat} (h : i < l.length) : gd l (i : Int) = l[i] := by
  simp [gd, List.getD, h]
def timesN (x : api_Rx) : Nat := (max 1 (min 1000 (max x.Lo x.Hi))).toNat
def sizeN : api_Rx → Nat := cata fun x l => if x.Kind = 2 then 1 else if 3 ≤ x.Kind ∧ x.Kind ≤ 5 then l.sum * (if x.Kind = 5 then timesN x else 1) else 0
theorem sizeN_eq (x : api_Rx) : sizeN x = if x.Kind = 2 then 1 else if 3 ≤ x.Kind ∧ x.Kind ≤ 5 then (x.Kids.map sizeN).sum * (if x.Kind = 5 then timesN x else 1) else 0 := cata_eq _ x
def sizeZ (x : api_Rx) : Int := min (sizeN x : Int) (1000000 : Int)
theorem sum_take_succ {l : List Nat} {i : Nat} (h : i < l.length) : (l.take (i + 1)).sum = (l.take i).sum + l[i] := by
  rw [List.take_succ_eq_append_getElem h, List.sum_append]; simp
theorem rxSize_ok : ∀ x, Wf x → C_rx_Size x (sizeZ x) := by
  refine rxInd fun x ih hw => ?_
  obtain ⟨hl, hk⟩ := (wf_eq x).1 hw
  refine W_rx_Size x _ ⟨fun h => ?_, fun h => ⟨fun h2 => ?_, fun h2 => ?_⟩⟩
  · have h : x.Kind = 2 := by simpa using h
    simp [sizeZ, sizeN_eq, h]; omega
  · have : x.Kind < 3 ∨ x.Kind > 5 := by simpa using h2
    have h : x.Kind ≠ 2 := by simpa using h
    rw [sizeZ, sizeN_eq, if_neg h, if_neg (by omega)]; omega
  · have h : x.Kind ≠ 2 := by simpa using h
    have h2 : 3 ≤ x.Kind ∧ x.Kind ≤ 5 := by simp at h2; omega
    have hT : (timesN x : Int) = max 1 (min 1000 (max x.Lo x.Hi)) := by simp only [timesN]; omega
    refine ⟨fun n t => ∃ i : Nat, t = i ∧ i ≤ x.Kids.length ∧ n = min (((x.Kids.map sizeN).take i).sum : Int) 1000000, fun n t => (x.Kids.length - t).toNat, ⟨0, rfl, by omega, by simp; omega⟩, ?_⟩
    rintro n t ⟨i, rfl, hi, hn⟩
    refine ⟨fun ht => ?_, fun ht => ?_⟩
    · have ht : i < x.Kids.length := by simpa using ht
      refine ⟨by omega, by omega, sizeZ x.Kids[i], by rw [gd_nat ht]; exact ih _ (List.getElem_mem ht) (hk _ (List.getElem_mem ht)), ?_⟩
      have hs := sum_take_succ (l := x.Kids.map sizeN) (i := i) (by simpa using ht)
      rw [List.getElem_map] at hs
      have hz : sizeZ x.Kids[i] = min (sizeN x.Kids[i] : Int) (1000000 : Int) := rfl
      have hw1 : w64 (n + sizeZ x.Kids[i]) = n + sizeZ x.Kids[i] := w64_id (by omega) (by omega)
      have hw2 : w64 ((i : Int) + 1) = ((i + 1 : Nat) : Int) := w64_id (by omega) (by omega)
      rw [hw1, hw2]
      refine ⟨⟨i + 1, rfl, by omega, ?_⟩, by dsimp only; omega⟩
      rw [hs]; simp; omega
    · have ht : i = x.Kids.length := by have : ¬ i < x.Kids.length := by simpa using ht
                                        omega
      subst ht
      rw [List.take_of_length_le (by simp)] at hn
      refine ⟨fun m => m = n * (if x.Kind = 5 then (timesN x : Int) else 1), fun m hm => ?_, fun h5 => ?_, fun h5 => ?_⟩
      · subst hm
        rw [sizeZ, sizeN_eq, if_neg h, if_pos h2]
        by_cases h5 : x.Kind = 5
        · simp only [if_pos h5]
          have hp : (1 : Int) ≤ timesN x := by omega
          have hp2 : (timesN x : Int) ≤ 1000 := by omega
          generalize (x.Kids.map sizeN).sum = S at hn ⊢
          subst hn
          rw [Int.natCast_mul]
          generalize (timesN x : Int) = T at hp hp2 ⊢
          simp
          rcases Int.le_total (S : Int) 1000000 with hS | hS
          · rw [Int.min_eq_left hS]; omega
          · rw [Int.min_eq_right hS]
            have h1 : (1000000 : Int) * 1 ≤ 1000000 * T := Int.mul_le_mul_of_nonneg_left hp (by omega)
            have h2 : (1000000 : Int) * T ≤ S * T := Int.mul_le_mul_of_nonneg_right hS (by omega)
            omega
        · simp only [if_neg h5]; simp; omega
      · have h5 : x.Kind = 5 := by simpa using h5
        rw [if_pos h5, hT]
        have : ∀ a : Int, 0 ≤ a → a ≤ 1000000 → w64 (a * max 1 (min 1000 (max x.Lo x.Hi))) = a * max 1 (min 1000 (max x.Lo x.Hi)) := fun a h1 h2 => by
          have e1 : 0 ≤ a * max 1 (min 1000 (max x.Lo x.Hi)) := Int.mul_nonneg h1 (by omega)
          have e2 : a * max 1 (min 1000 (max x.Lo x.Hi)) ≤ 1000000 * 1000 := Int.mul_le_mul h2 (by omega) (by omega) (by omega)
          exact w64_id (by omega) (by omega)
        rw [← this n (by omega) (by omega)]
        congr 1; congr 1
        simp; omega
      · have h5 : x.Kind ≠ 5 := by simpa using h5
        rw [if_neg h5]; omega
theorem refSize_ok : ∀ x, Wf x → C_heckleref03_Size x (sizeZ x) := by
  refine rxInd fun x ih hw => ?_
  obtain ⟨hl, hk⟩ := (wf_eq x).1 hw
  refine W_heckleref03_Size x _ ⟨fun h => ?_, fun h => ?_⟩
  · have h : x.Kind = 2 := by simpa using h
    simp [sizeZ, sizeN_eq, h]; omega
  have h : x.Kind ≠ 2 := by simpa using h
  refine ⟨fun b => b = decide (3 ≤ x.Kind ∧ x.Kind ≤ 5), fun b hb => ⟨fun hbt => ?_, fun hbf => ?_⟩, fun h3 => ?_, fun h3 => ⟨fun h4 => ?_, fun h4 => ?_⟩⟩
  · have h2 : 3 ≤ x.Kind ∧ x.Kind ≤ 5 := by rw [hbt] at hb; simpa using hb.symm
    have hT : (timesN x : Int) = max 1 (min 1000 (max x.Lo x.Hi)) := by simp only [timesN]; omega
    have hp : (1 : Int) ≤ timesN x := by omega
    have hp2 : (timesN x : Int) ≤ 1000 := by omega
    refine ⟨fun n t => ∃ i : Nat, t = i ∧ i ≤ x.Kids.length ∧ n = min (((x.Kids.map sizeN).take i).sum : Int) 1000000, fun n t => (x.Kids.length - t).toNat, ⟨0, rfl, by omega, by simp; omega⟩, ?_⟩
    rintro n t ⟨i, rfl, hi, hn⟩
    refine ⟨fun ht => ?_, fun ht => ?_⟩
    · have ht : i < x.Kids.length := by simpa using ht
      refine ⟨by omega, by omega, sizeZ x.Kids[i], by rw [gd_nat ht]; exact ih _ (List.getElem_mem ht) (hk _ (List.getElem_mem ht)), ?_⟩
      have hs := sum_take_succ (l := x.Kids.map sizeN) (i := i) (by simpa using ht)
      rw [List.getElem_map] at hs
      have hz : sizeZ x.Kids[i] = min (sizeN x.Kids[i] : Int) (1000000 : Int) := rfl
      have hw1 : w64 (n + sizeZ x.Kids[i]) = n + sizeZ x.Kids[i] := w64_id (by omega) (by omega)
      have hw2 : w64 ((i : Int) + 1) = ((i + 1 : Nat) : Int) := w64_id (by omega) (by omega)
      rw [hw1, hw2]
      refine ⟨fun hg => ?_, fun hg => ?_⟩
      · have hg : n + sizeZ x.Kids[i] > 1000000 := by simpa using hg
        have hsum : (x.Kids.map sizeN).sum ≥ ((x.Kids.map sizeN).take (i + 1)).sum := by
          conv => lhs; rw [← List.take_append_drop (i + 1) (x.Kids.map sizeN), List.sum_append]
          omega
        rw [sizeZ, sizeN_eq, if_neg h, if_pos h2]
        have : (1000001 : Int) ≤ (((x.Kids.map sizeN).sum * (if x.Kind = 5 then timesN x else 1) : Nat) : Int) := by
          split
          · have h3 : (x.Kids.map sizeN).sum * 1 ≤ (x.Kids.map sizeN).sum * timesN x := Nat.mul_le_mul_left _ (by omega)
            omega
          · omega
        omega
      · have hg : ¬ n + sizeZ x.Kids[i] > 1000000 := by simpa using hg
        exact ⟨⟨i + 1, rfl, by omega, by rw [hs]; simp; omega⟩, by dsimp only; omega⟩
    · have ht : i = x.Kids.length := by have : ¬ i < x.Kids.length := by simpa using ht
                                        omega
      subst ht
      rw [List.take_of_length_le (by simp)] at hn
      refine ⟨fun m => m = n * (if x.Kind = 5 then (timesN x : Int) else 1), fun m hm => ?_, fun h5 => ?_, fun h5 => ?_⟩
      · subst hm
        rw [sizeZ, sizeN_eq, if_neg h, if_pos h2]
        by_cases h5 : x.Kind = 5
        · simp only [if_pos h5]
          generalize (x.Kids.map sizeN).sum = S at hn ⊢
          subst hn
          rw [Int.natCast_mul]
          generalize (timesN x : Int) = T at hp hp2 ⊢
          simp
          rcases Int.le_total (S : Int) 1000000 with hS | hS
          · rw [Int.min_eq_left hS]; omega
          · rw [Int.min_eq_right hS]
            have h1 : (1000000 : Int) * 1 ≤ 1000000 * T := Int.mul_le_mul_of_nonneg_left hp (by omega)
            have h2 : (1000000 : Int) * T ≤ S * T := Int.mul_le_mul_of_nonneg_right hS (by omega)
            omega
        · simp only [if_neg h5]; simp; omega
      · have h5 : x.Kind = 5 := by simpa using h5
        rw [if_pos h5, hT]
        have : ∀ a : Int, 0 ≤ a → a ≤ 1000000 → w64 (a * max 1 (min 1000 (max x.Lo x.Hi))) = a * max 1 (min 1000 (max x.Lo x.Hi)) := fun a h1 h2 => by
          have e1 : 0 ≤ a * max 1 (min 1000 (max x.Lo x.Hi)) := Int.mul_nonneg h1 (by omega)
          have e2 : a * max 1 (min 1000 (max x.Lo x.Hi)) ≤ 1000000 * 1000 := Int.mul_le_mul h2 (by omega) (by omega) (by omega)
          exact w64_id (by omega) (by omega)
        rw [← this n (by omega) (by omega)]
        congr 1; congr 1
        simp; omega
      · have h5 : x.Kind ≠ 5 := by simpa using h5
        rw [if_neg h5]; omega
  · have h2 : ¬ (3 ≤ x.Kind ∧ x.Kind ≤ 5) := by rw [hbf] at hb; simpa using hb.symm
    rw [sizeZ, sizeN_eq, if_neg h, if_neg h2]; omega
  · have h3' : x.Kind = 3 := by simpa using h3
    simp [h3']
  · have h4' : x.Kind = 4 := by simpa using h4
    simp [h4']
  · have h3' : x.Kind ≠ 3 := by simpa using h3
    have h4' : x.Kind ≠ 4 := by simpa using h4
    show decide (x.Kind = 5) = decide (3 ≤ x.Kind ∧ x.Kind ≤ 5)
    rw [decide_eq_decide]; omega
def nodesZ : api_Rx → Int → Int := cata fun x l most => l.foldl (fun m g => if m ≥ 0 then g m else m) (most - 1)
theorem nodesZ_eq (x : api_Rx) (most : Int) : nodesZ x most = x.Kids.foldl (fun m y => if m ≥ 0 then nodesZ y m else m) (most - 1) := by
  unfold nodesZ
  rw [cata_eq, List.foldl_map]
theorem nodesZ_le : ∀ x most, 0 ≤ most → nodesZ x most ≤ most - 1 ∧ -1 ≤ nodesZ x most := by
  refine rxInd fun x ih most hm => ?_
  rw [nodesZ_eq]
  have key : ∀ (l : List api_Rx) (m : Int), (∀ y ∈ l, y ∈ x.Kids) → -1 ≤ m → (l.foldl (fun m y => if m ≥ 0 then nodesZ y m else m) m) ≤ m ∧ -1 ≤ l.foldl (fun m y => if m ≥ 0 then nodesZ y m else m) m := by
    intro l
    induction l with
    | nil => intro m _ h; exact ⟨Int.le_refl _, h⟩
    | cons y r ih2 =>
      intro m hl h
      simp only [List.foldl_cons]
      split
      · rename_i h0
        obtain ⟨h1, h2⟩ := ih y (hl y (List.mem_cons_self ..)) m h0
        obtain ⟨h3, h4⟩ := ih2 _ (fun z hz => hl z (List.mem_cons_of_mem _ hz)) h2
        exact ⟨by omega, h4⟩
      · exact ih2 m (fun z hz => hl z (List.mem_cons_of_mem _ hz)) h
  exact key x.Kids (most - 1) (fun _ h => h) (by omega)
theorem foldl_take_succ {α β : Type} {f : β → α → β} {b : β} {l : List α} {i : Nat} (h : i < l.length) : (l.take (i + 1)).foldl f b = f ((l.take i).foldl f b) l[i] := by
  rw [List.take_succ_eq_append_getElem h, List.foldl_append]; rfl
theorem nodes_pre {x : api_Rx} {most : Int} (hm : 0 ≤ most) (i : Nat) : -1 ≤ (x.Kids.take i).foldl (fun m y => if m ≥ 0 then nodesZ y m else m) (most - 1) ∧ (x.Kids.take i).foldl (fun m y => if m ≥ 0 then nodesZ y m else m) (most - 1) < most := by
  induction i with
  | zero => simp; omega
  | succ i ih =>
    by_cases h : i < x.Kids.length
    · rw [foldl_take_succ h]
      split
      · rename_i h0
        have := nodesZ_le x.Kids[i] _ h0
        omega
      · exact ih
    · rw [List.take_of_length_le (by omega)] at ih ⊢; exact ih
theorem rxNodes_ok : ∀ x, Wf x → ∀ most, 0 ≤ most → most ≤ 1000000 → C_rx_nodes x most (nodesZ x most) := by
  refine rxInd fun x ih hw most hm0 hm1 => ?_
  obtain ⟨hl, hk⟩ := (wf_eq x).1 hw
  rw [nodesZ_eq]
  have hw0 : w64 (most - 1) = most - 1 := w64_id (by omega) (by omega)
  refine W_rx_nodes x most _ ⟨fun m t => ∃ i : Nat, t = i ∧ i ≤ x.Kids.length ∧ m = (x.Kids.take i).foldl (fun m y => if m ≥ 0 then nodesZ y m else m) (most - 1), fun m t => (x.Kids.length - t).toNat, ⟨0, rfl, by omega, by rw [hw0]; rfl⟩, ?_⟩
  rintro m t ⟨i, rfl, hi, hm⟩
  have hb := nodes_pre (x := x) hm0 i
  rw [← hm] at hb
  refine ⟨fun ht => ?_, fun ht => ?_⟩
  · have ht : i < x.Kids.length := by simpa using ht
    have hw2 : w64 ((i : Int) + 1) = ((i + 1 : Nat) : Int) := w64_id (by omega) (by omega)
    have hs := foldl_take_succ (f := fun m y => if m ≥ 0 then nodesZ y m else m) (b := most - 1) ht
    rw [← hm] at hs
    refine ⟨fun m' => m' = if m ≥ 0 then nodesZ x.Kids[i] m else m, fun m' hm' => ?_, by omega, by omega, fun hg => ?_, fun hg => ?_⟩
    · rw [hw2]
      exact ⟨⟨i + 1, rfl, by omega, by rw [hs, hm']⟩, by dsimp only; omega⟩
    · have hg : m ≥ 0 := by simpa using hg
      refine ⟨nodesZ x.Kids[i] m, ?_, by rw [if_pos hg]⟩
      rw [gd_nat ht]
      exact ih _ (List.getElem_mem ht) (hk _ (List.getElem_mem ht)) _ hg (by omega)
    · have hg : ¬ m ≥ 0 := by simpa using hg
      rw [if_neg hg]
  · have ht : i = x.Kids.length := by have : ¬ i < x.Kids.length := by simpa using ht
                                      omega
    subst ht
    rw [hm, List.take_of_length_le (Nat.le_refl _)]
def WfB (x : api_Rx) : Prop := cata (α := Prop) (fun x l => x.Kids.length < 9223372036854775808 ∧ ∀ p ∈ l, p) x
theorem wfB_eq (x : api_Rx) : WfB x ↔ x.Kids.length < 9223372036854775808 ∧ ∀ y ∈ x.Kids, WfB y := by
  unfold WfB
  rw [cata_eq]
  simp only [List.mem_map, forall_exists_index, and_imp, forall_apply_eq_imp_iff₂]
theorem wfB_of_wf : ∀ x, Wf x → WfB x := by
  refine rxInd fun x ih hw => ?_
  obtain ⟨hl, hk⟩ := (wf_eq x).1 hw
  exact (wfB_eq x).2 ⟨by omega, fun y hy => ih y hy (hk y hy)⟩
theorem refNodesB_ok : ∀ x, WfB x → ∀ most, 0 ≤ most → most ≤ 1000000 → C_heckleref03_Nodes x most (nodesZ x most) := by
  refine rxInd fun x ih hw most hm0 hm1 => ?_
  obtain ⟨hl, hk⟩ := (wfB_eq x).1 hw
  rw [nodesZ_eq]
  have hw0 : w64 (most - 1) = most - 1 := w64_id (by omega) (by omega)
  refine W_heckleref03_Nodes x most _ ⟨fun m t => ∃ i : Nat, t = i ∧ i ≤ x.Kids.length ∧ m = (x.Kids.take i).foldl (fun m y => if m ≥ 0 then nodesZ y m else m) (most - 1), fun m t => (x.Kids.length - t).toNat, ⟨0, rfl, by omega, by rw [hw0]; rfl⟩, ?_⟩
  rintro m t ⟨i, rfl, hi, hm⟩
  have hb := nodes_pre (x := x) hm0 i
  rw [← hm] at hb
  have hstay : ∀ (l : List api_Rx) (m : Int), m < 0 → l.foldl (fun m y => if m ≥ 0 then nodesZ y m else m) m = m := by
    intro l
    induction l with
    | nil => intro m _; rfl
    | cons y r ih2 => intro m h; rw [List.foldl_cons, if_neg (by omega)]; exact ih2 m h
  refine ⟨fun ht => ?_, fun ht => ?_⟩
  · simp only [List.length_map, Bool.and_eq_true, decide_eq_true_eq] at ht
    obtain ⟨ht, hg⟩ := ht
    have ht : i < x.Kids.length := by omega
    have hw2 : w64 ((i : Int) + 1) = ((i + 1 : Nat) : Int) := w64_id (by omega) (by omega)
    have hs := foldl_take_succ (f := fun m y => if m ≥ 0 then nodesZ y m else m) (b := most - 1) ht
    rw [← hm, if_pos hg] at hs
    refine ⟨by omega, by omega, nodesZ x.Kids[i] m, ?_, ?_⟩
    · rw [gd_nat ht]
      exact ih _ (List.getElem_mem ht) (hk _ (List.getElem_mem ht)) _ hg (by omega)
    · rw [hw2]
      exact ⟨⟨i + 1, rfl, by omega, hs.symm⟩, by dsimp only; omega⟩
  · simp only [List.length_map, Bool.and_eq_false_iff, decide_eq_false_iff_not] at ht
    rcases Nat.lt_or_ge i x.Kids.length with hlt | hge
    · have hneg : m < 0 := by omega
      have e := List.foldl_append (f := fun m y => if m ≥ 0 then nodesZ y m else m) (b := most - 1) (l := x.Kids.take i) (l' := x.Kids.drop i)
      rw [List.take_append_drop, ← hm, hstay _ _ hneg] at e
      exact e
    · rw [hm, List.take_of_length_le hge]
theorem refNodes_ok (x : api_Rx) (hw : Wf x) (most : Int) (h0 : 0 ≤ most) (h1 : most ≤ 1000000) : C_heckleref03_Nodes x most (nodesZ x most) := refNodesB_ok x (wfB_of_wf x hw) most h0 h1
theorem wf_of_nodes : ∀ x most, most ≤ 1000000 → 0 ≤ nodesZ x most → Wf x := by
  refine rxInd fun x ih most hm h => ?_
  rw [nodesZ_eq] at h
  have hstay : ∀ (l : List api_Rx) (m : Int), m < 0 → l.foldl (fun m y => if m ≥ 0 then nodesZ y m else m) m = m := by
    intro l
    induction l with
    | nil => intro m _; rfl
    | cons y r ih2 => intro m h; rw [List.foldl_cons, if_neg (by omega)]; exact ih2 m h
  have key : ∀ (l : List api_Rx) (m : Int), (∀ y ∈ l, y ∈ x.Kids) → m ≤ 1000000 → 0 ≤ l.foldl (fun m y => if m ≥ 0 then nodesZ y m else m) m → (l.length : Int) ≤ m ∧ ∀ y ∈ l, Wf y := by
    intro l
    induction l with
    | nil => intro m _ _ h; exact ⟨by simpa using h, fun y hy => by simp at hy⟩
    | cons y r ih2 =>
      intro m hl hm h
      simp only [List.foldl_cons] at h
      rcases (show m < 0 ∨ m ≥ 0 by omega) with hn | hp
      · rw [if_neg (by omega), hstay _ _ hn] at h; omega
      · rw [if_pos hp] at h
        have hle := (nodesZ_le y m hp).1
        obtain ⟨h1, h2⟩ := ih2 (nodesZ y m) (fun z hz => hl z (List.mem_cons_of_mem _ hz)) (by omega) h
        refine ⟨by rw [List.length_cons]; omega, fun z hz => ?_⟩
        rcases List.mem_cons.1 hz with rfl | hz
        · exact ih z (hl z (List.mem_cons_self ..)) m hm (by omega)
        · exact h2 z hz
  obtain ⟨h1, h2⟩ := key x.Kids (most - 1) (fun _ h => h) (by omega) h
  exact (wf_eq x).2 ⟨by omega, h2⟩
def noSet (s : arr4_uint64) : Bool := s.e0 == 0 && (s.e1 == 0 && (s.e2 == 0 && (s.e3 == 0 && true)))
def timesB (lo hi : Int) : Bool := decide (0 ≤ lo) && (decide (lo ≤ 20) && (hi == -1 || decide (hi ≥ max 1 lo) && decide (hi ≤ 20)))
def ownB (x : api_Rx) : Bool :=
  if x.Kind = 5 then noSet x.Set && (decide (x.Kids.length = 1) && timesB x.Lo x.Hi)
  else if x.Kind = 1 then noSet x.Set && (x.Lo == 0 && x.Hi == 0 && decide (x.Kids.length = 0))
  else if x.Kind = 2 then !noSet x.Set && (x.Lo == 0 && x.Hi == 0 && decide (x.Kids.length = 0))
  else if x.Kind = 3 ∨ x.Kind = 4 then noSet x.Set && (x.Lo == 0 && x.Hi == 0 && decide (x.Kids.length ≥ 2))
  else false
def oddK (x k : api_Rx) : Bool := k.Kind == x.Kind && x.Kind != 5
def rgt : api_Rx → Int → Bool := cata fun x l deep => decide (deep > 0) && ownB x && (x.Kids.zip l).all fun (k, g) => !oddK x k && g (deep - 1)
theorem rgt_eq (x : api_Rx) (deep : Int) : rgt x deep = (decide (deep > 0) && ownB x && x.Kids.all fun k => !oddK x k && rgt k (deep - 1)) := by
  unfold rgt
  rw [cata_eq]
  congr 1
  rw [List.zip_map_right, List.all_map]
  generalize x.Kids = l
  induction l with
  | nil => rfl
  | cons y r ih => simp only [List.zip_cons_cons, List.all_cons, Function.comp] at ih ⊢; rw [ih]; rfl
def pat (x : api_Rx) : rx_pattern := { Kind := x.Kind, Set := x.Set, Lo := x.Lo, Hi := x.Hi, Kids := x.Kids }
theorem times_ok (x : rx_pattern) : C_rx_pattern_times x (timesB x.Lo x.Hi) := by
  refine W_rx_pattern_times x _ ⟨fun h => ?_, fun h => ?_⟩
  · simp only [Bool.or_eq_true, decide_eq_true_eq] at h
    simp only [timesB, Bool.and_eq_false_iff, decide_eq_false_iff_not]; omega
  · simp only [Bool.or_eq_false_iff, decide_eq_false_iff_not] at h
    have h1 : decide (0 ≤ x.Lo) = true := by simp; omega
    have h2 : decide (x.Lo ≤ 20) = true := by simp; omega
    simp only [timesB, h1, h2, Bool.true_and]
    congr 2
    have : (if x.Lo > 1 then x.Lo else 1) = max 1 x.Lo := by omega
    rw [this]
theorem len0 (l : List api_Rx) : decide (l = []) = (decide ((2 : Int) ≤ (l.length : Int) + 2) && (l.length : Int) + 2 == 2) := by
  cases l with
  | nil => rfl
  | cons a r =>
    have : ((((a :: r).length : Nat) : Int) + 2 == 2) = false := by
      show decide _ = false
      simp only [decide_eq_false_iff_not, List.length_cons]; omega
    rw [this]; simp
theorem own_ok (x : api_Rx) (hl : x.Kids.length < 1099511627776) : C_rx_pattern_own (pat x) (ownB x) := by
  refine W_rx_pattern_own (pat x) _ ⟨fun many => many = (if x.Kind = 1 ∨ x.Kind = 2 then (x.Kids.length : Int) + 2 else x.Kids.length) ∧ (x.Kind = 1 ∨ x.Kind = 2 ∨ x.Kind = 3 ∨ x.Kind = 4), ?_, fun h5 => ?_, fun h5 => ?_⟩
  · rintro many ⟨rfl, hk⟩
    show ownB x = ((!noSet x.Set) == (x.Kind == 2) && (x.Lo == 0 && (x.Hi == 0 && (decide (_ ≥ 2) && (!decide (x.Kind < 3) || _ == 2)))))
    rcases hk with h | h | h | h
    all_goals simp only [ownB, h]
    · cases noSet x.Set <;> cases hlo : (x.Lo == 0) <;> cases hhi : (x.Hi == 0) <;> simp [len0]
    · cases noSet x.Set <;> cases hlo : (x.Lo == 0) <;> cases hhi : (x.Hi == 0) <;> simp [len0]
    · cases noSet x.Set <;> cases hlo : (x.Lo == 0) <;> cases hhi : (x.Hi == 0) <;> simp <;> omega
    · cases noSet x.Set <;> cases hlo : (x.Lo == 0) <;> cases hhi : (x.Hi == 0) <;> simp <;> omega
  · have h5 : x.Kind = 5 := by simpa [pat] using h5
    refine ⟨fun hs => ⟨fun h1 => ⟨_, times_ok (pat x), ?_⟩, fun h1 => ?_⟩, fun hs => ?_⟩
    · have h1 : x.Kids.length = 1 := by simp [pat] at h1; omega
      have hs : noSet x.Set = true := by rw [Bool.not_not] at hs; exact hs
      simp only [ownB, if_pos h5, hs, h1]; rfl
    · have h1 : x.Kids.length ≠ 1 := by simp [pat] at h1; omega
      simp [ownB, if_pos h5, h1]
    · have hs : noSet x.Set = false := by rw [Bool.not_not] at hs; exact hs
      simp [ownB, if_pos h5, hs]
  · have h5 : x.Kind ≠ 5 := by simpa [pat] using h5
    refine ⟨fun b => b = decide (x.Kind = 1 ∨ x.Kind = 2), fun b hb => ⟨fun h => ?_, fun h => ?_⟩, fun h => ?_, fun h => ?_⟩
    · have h12 : x.Kind = 1 ∨ x.Kind = 2 := by rw [h] at hb; simpa using hb.symm
      refine ⟨?_, by omega⟩
      rw [if_pos h12]; exact w64_id (by show _ ≤ (x.Kids.length : Int) + 2; omega) (by show (x.Kids.length : Int) + 2 ≤ _; omega)
    · have h12 : ¬ (x.Kind = 1 ∨ x.Kind = 2) := by rw [h] at hb; simpa using hb.symm
      refine ⟨fun b => b = decide (x.Kind = 3 ∨ x.Kind = 4), fun b' hb' => ⟨fun h' => ?_, fun h' => ?_⟩, fun h' => ?_, fun h' => ?_⟩
      · have h34 : x.Kind = 3 ∨ x.Kind = 4 := by rw [h'] at hb'; simpa using hb'.symm
        exact ⟨by rw [if_neg h12]; rfl, by omega⟩
      · have h34 : ¬ (x.Kind = 3 ∨ x.Kind = 4) := by rw [h'] at hb'; simpa using hb'.symm
        simp only [ownB]; rw [if_neg h5, if_neg (by omega), if_neg (by omega), if_neg h34]
      · have : x.Kind = 3 := by simpa [pat] using h'
        simp [pat, this]
      · have : x.Kind ≠ 3 := by simpa [pat] using h'
        simp [pat, this]; rfl
    · have : x.Kind = 1 := by simpa [pat] using h
      simp [pat, this]
    · have : x.Kind ≠ 1 := by simpa [pat] using h
      simp [pat, this]; rfl
theorem rxRight_ok : ∀ x, Wf x → ∀ deep, -1000 ≤ deep → deep ≤ 1000 → C_rx_pattern_right (pat x) deep (rgt x deep) := by
  refine rxInd fun x ih hw deep hd0 hd1 => ?_
  obtain ⟨hl, hk⟩ := (wf_eq x).1 hw
  have hodd : ∀ k ∈ x.Kids, 0 < deep → C_rx_pattern_right_L1 k (pat x) deep (oddK x k || !rgt k (deep - 1)) (pat x) deep := by
    intro k hkm hpos
    have hw1 : w64 (deep - 1) = deep - 1 := w64_id (by omega) (by omega)
    have hrec : C_rx_pattern_right ({ Kind := api_Rx.Kind k, Set := api_Rx.Set k, Lo := api_Rx.Lo k, Hi := api_Rx.Hi k, Kids := api_Rx.Kids k }) (w64 (deep - 1)) (rgt k (deep - 1)) := by
      rw [hw1]; exact ih k hkm (hk k hkm) _ (by omega) (by omega)
    refine W_rx_pattern_right_L1 k (pat x) deep _ _ _ ⟨fun h1 => ⟨fun h2 => ?_, fun h2 => ⟨_, hrec, ?_, rfl, rfl⟩⟩, fun h1 => ⟨_, hrec, ?_, rfl, rfl⟩⟩
    · have h1 : (k.Kind == x.Kind) = true := h1
      have h2 : (x.Kind != 5) = true := h2
      simp [oddK, h1, h2]
    · have h2 : (x.Kind != 5) = false := h2
      simp [oddK, h2]
    · have h1 : (k.Kind == x.Kind) = false := h1
      simp [oddK, h1]
  have hall : ∀ l : List api_Rx, l.length < 1099511627776 → (∀ k ∈ l, k ∈ x.Kids) → 0 < deep → C_slices_ContainsFunc__api_Rx_api_Rx_at_rx_pattern_right_L1 l (pat x) deep (l.any fun k => oddK x k || !rgt k (deep - 1)) (pat x) deep := by
    intro l hll hlm hpos
    obtain ⟨z, hz, hz2⟩ : ∃ z : Int, (decide (z ≥ 0) = l.any fun k => oddK x k || !rgt k (deep - 1)) ∧ C_slices_IndexFunc__api_Rx_api_Rx_at_rx_pattern_right_L1 l (pat x) deep z (pat x) deep := by
      have hfind : ∀ i : Nat, (∀ (j : Nat) (hj : j < l.length), j < i → (oddK x l[j] || !rgt l[j] (deep - 1)) = false) → (i = l.length → (l.any fun k => oddK x k || !rgt k (deep - 1)) = false) := by
        intro i h e
        subst e
        rw [List.any_eq_false]
        intro k hkm
        obtain ⟨j, hj, rfl⟩ := List.mem_iff_getElem.1 hkm
        rw [h j hj hj]; simp
      cases hany : l.any fun k => oddK x k || !rgt k (deep - 1) with
      | false =>
        refine ⟨-1, by simp, ?_⟩
        refine W_slices_IndexFunc__api_Rx_api_Rx_at_rx_pattern_right_L1 l (pat x) deep _ _ _ ⟨fun a b c d e f g h o t => (⟨a, ⟨b, c, d, e⟩, f, g, h⟩ : rx_pattern) = pat x ∧ o = deep ∧ ∃ i : Nat, t = i ∧ i ≤ l.length, fun _ _ _ _ _ _ _ _ _ t => (l.length - t).toNat, ⟨rfl, rfl, 0, rfl, by omega⟩, ?_⟩
        rintro a b c d e f g h o t ⟨hp, rfl, i, rfl, hi⟩
        refine ⟨fun ht => ?_, fun ht => ⟨rfl, hp.symm, rfl⟩⟩
        have ht : i < l.length := by simpa using ht
        have hw2 : w64 ((i : Int) + 1) = ((i + 1 : Nat) : Int) := w64_id (by omega) (by omega)
        refine ⟨by omega, by omega, _, pat x, o, by rw [gd_nat ht, hp]; exact hodd l[i] (hlm _ (List.getElem_mem ht)) hpos, fun hb => ?_, fun hb => ?_⟩
        · rw [List.any_eq_false] at hany
          exact absurd hb (hany _ (List.getElem_mem ht))
        · rw [hw2]
          exact ⟨⟨rfl, rfl, i + 1, rfl, by omega⟩, by dsimp only; omega⟩
      | true =>
        obtain ⟨k0, hk0, hk1⟩ := List.any_eq_true.1 hany
        have hex : ∃ i : Nat, ∃ hi : i < l.length, (oddK x l[i] || !rgt l[i] (deep - 1)) = true ∧ ∀ (j : Nat) (hj : j < i), (oddK x (l[j]'(by omega)) || !rgt (l[j]'(by omega)) (deep - 1)) = false := by
          obtain ⟨j0, hj0, rfl⟩ := List.mem_iff_getElem.1 hk0
          induction j0 using Nat.strongRecOn with
          | _ j0 ihj =>
            by_cases hex : ∃ j : Nat, ∃ hj : j < j0, (oddK x (l[j]'(by omega)) || !rgt (l[j]'(by omega)) (deep - 1)) = true
            · obtain ⟨j, hj, hj1⟩ := hex
              exact ihj j hj (by omega) (List.getElem_mem _) hj1
            · refine ⟨j0, hj0, hk1, fun j hj => ?_⟩
              cases hb : (oddK x (l[j]'(by omega)) || !rgt (l[j]'(by omega)) (deep - 1)) with
              | false => rfl
              | true => exact absurd ⟨j, hj, hb⟩ hex
        obtain ⟨n, hn, hn1, hn2⟩ := hex
        refine ⟨n, by simp, ?_⟩
        refine W_slices_IndexFunc__api_Rx_api_Rx_at_rx_pattern_right_L1 l (pat x) deep _ _ _ ⟨fun a b c d e f g h o t => (⟨a, ⟨b, c, d, e⟩, f, g, h⟩ : rx_pattern) = pat x ∧ o = deep ∧ ∃ i : Nat, t = i ∧ i ≤ n, fun _ _ _ _ _ _ _ _ _ t => (l.length - t).toNat, ⟨rfl, rfl, 0, rfl, by omega⟩, ?_⟩
        rintro a b c d e f g h o t ⟨hp, rfl, i, rfl, hi⟩
        refine ⟨fun ht => ?_, fun ht => ?_⟩
        · have ht : i < l.length := by simpa using ht
          have hw2 : w64 ((i : Int) + 1) = ((i + 1 : Nat) : Int) := w64_id (by omega) (by omega)
          refine ⟨by omega, by omega, _, pat x, o, by rw [gd_nat ht, hp]; exact hodd l[i] (hlm _ (List.getElem_mem ht)) hpos, fun hb => ⟨?_, rfl, rfl⟩, fun hb => ?_⟩
          · rcases Nat.lt_or_ge i n with hlt | hge
            · rw [hn2 i hlt] at hb; cases hb
            · have : i = n := by omega
              rw [this]
          · rcases Nat.lt_or_ge i n with hlt | hge
            · rw [hw2]
              exact ⟨⟨rfl, rfl, i + 1, rfl, by omega⟩, by dsimp only; omega⟩
            · have : i = n := by omega
              subst this
              rw [hn1] at hb; cases hb
        · have : ¬ i < l.length := by simpa using ht
          omega
    refine W_slices_ContainsFunc__api_Rx_api_Rx_at_rx_pattern_right_L1 l (pat x) deep _ _ _ ⟨z, _, _, hz2, hz.symm, rfl, rfl⟩
  rw [rgt_eq]
  refine W_rx_pattern_right (pat x) deep _ ⟨fun hd => ⟨_, own_ok x hl, fun ho => ⟨_, _, _, hall x.Kids hl (fun _ h => h) (by simpa using hd), ?_⟩, fun ho => ?_⟩, fun hd => ?_⟩
  · rw [hd, ho]
    simp only [Bool.true_and]
    rw [List.any_eq_not_all_not, Bool.not_not]
    congr 1
    funext k
    cases oddK x k <;> cases rgt k (deep - 1) <;> rfl
  · rw [ho]; simp
  · rw [hd]; simp
def rightB (x : api_Rx) : Bool := rgt x 20 && (decide (sizeZ x ≤ 200) && decide (nodesZ x 1000 ≥ 0))
theorem rxRightAll_ok (x : api_Rx) (hw : Wf x) : C_rx_Right x (rightB x) := by
  refine W_rx_Right x _ ⟨_, rxRight_ok x hw 20 (by omega) (by omega), fun h => ⟨_, rxSize_ok x hw, fun h2 => ⟨_, rxNodes_ok x hw 1000 (by omega) (by omega), ?_⟩, fun h2 => ?_⟩, fun h => ?_⟩
  · rw [rightB, h, h2]; rfl
  · rw [rightB, h2]; simp
  · rw [rightB, h]; simp
end Go.Ev.Pl

set_option linter.unusedSimpArgs false
set_option linter.unusedVariables false
namespace Go.Ev.Pl
open Go Go.Ev
theorem noSet_eq (s : arr4_uint64) : (s.e0 == 0 && (s.e1 == 0 && (s.e2 == 0 && (s.e3 == 0 && true)))) = noSet s := rfl
theorem len_zero (l : List api_Rx) : ((l.length : Int) == 0) = decide (l.length = 0) := by
  show decide _ = decide _
  simp only [decide_eq_decide]; omega
theorem refRight_ok : ∀ x, Wf x → ∀ deep, -1000 ≤ deep → deep ≤ 1000 → C_heckleref03_right x deep (rgt x deep) := by
  refine rxInd fun x ih hw deep hd0 hd1 => ?_
  obtain ⟨hl, hk⟩ := (wf_eq x).1 hw
  have hw1 : w64 (deep - 1) = deep - 1 := w64_id (by omega) (by omega)
  rw [rgt_eq]
  refine W_heckleref03_right x deep _ ⟨fun h => ?_, fun h => ?_⟩
  · have : ¬ deep > 0 := by have : deep < 1 := by simpa using h
                            omega
    simp [this]
  have hd : decide (deep > 0) = true := by have : ¬ deep < 1 := by simpa using h
                                           simp; omega
  have hpos : 0 < deep := by simpa using hd
  rw [hd, Bool.true_and]
  simp only [noSet_eq, Bool.not_not]
  refine ⟨fun h1 => ?_, fun h1 => ⟨fun h2 => ?_, fun h2 => ⟨fun h5 => ?_, fun h5 => ?_⟩⟩⟩
  · have h1 : x.Kind = 1 := by simpa using h1
    have : x.Kids.all (fun k => !oddK x k && rgt k (deep - 1)) = true ∨ ¬ x.Kids.length = 0 := by
      cases x.Kids with
      | nil => exact .inl rfl
      | cons a r => right; simp
    simp only [ownB, h1]
    rcases this with h | h
    · rw [h, len_zero]; simp
    · rw [len_zero]; simp [h]
  · have h2 : x.Kind = 2 := by simpa using h2
    have : x.Kids.all (fun k => !oddK x k && rgt k (deep - 1)) = true ∨ ¬ x.Kids.length = 0 := by
      cases x.Kids with
      | nil => exact .inl rfl
      | cons a r => right; simp
    simp only [ownB, h2]
    rcases this with h | h
    · rw [h, len_zero]; simp
    · rw [len_zero]; simp [h]
  · have h5 : x.Kind = 5 := by simpa using h5
    have hmax : (if true = true then if x.Lo > 1 then x.Lo else 1 else if x.Lo < 1 then x.Lo else 1) = max 1 x.Lo := by simp; omega
    have hmax2 : (if x.Lo > 1 then x.Lo else 1) = max 1 x.Lo := by omega
    simp only [eq_self, if_true, hmax2]
    have hown : ownB x = (noSet x.Set && (decide (x.Kids.length = 1) && timesB x.Lo x.Hi)) := by simp only [ownB, if_pos h5]
    refine ⟨fun hs => ⟨fun hlo => ⟨fun hlo2 => ⟨fun hhi => ⟨fun h1 => ⟨fun _ _ _ _ _ => ?_, _, ih _ ?_ (hk _ ?_) _ (by omega) (by omega), ?_⟩, fun h1 => ?_⟩, fun hhi => ?_⟩, fun hlo2 => ?_⟩, fun hlo => ?_⟩, fun hs => ?_⟩
    · have h1' : x.Kids.length = 1 := by (rw [List.length_map] at h1; have : (x.Kids.length : Int) = 1 := by simpa using h1); omega
      omega
    · have h1' : x.Kids.length = 1 := by (rw [List.length_map] at h1; have : (x.Kids.length : Int) = 1 := by simpa using h1); omega
      match hq : x.Kids, h1' with
      | [a], _ => simp
    · have h1' : x.Kids.length = 1 := by (rw [List.length_map] at h1; have : (x.Kids.length : Int) = 1 := by simpa using h1); omega
      match hq : x.Kids, h1' with
      | [a], _ => simp
    · -- the kid's word
      have h1' : x.Kids.length = 1 := by (rw [List.length_map] at h1; have : (x.Kids.length : Int) = 1 := by simpa using h1); omega
      match hq : x.Kids, h1' with
      | [a], _ =>
        have ht : timesB x.Lo x.Hi = true := by
          have a1 : decide (0 ≤ x.Lo) = true := by have : x.Lo ≥ 0 := by simpa using hlo
                                                   simp; omega
          simp only [timesB, a1, hlo2, hhi, Bool.true_and]
        rw [hown, hs, hq, ht, hw1]
        have ho : oddK x a = false := by simp [oddK, h5]
        simp [ho]
    · have h1' : x.Kids.length ≠ 1 := by intro e; rw [List.length_map, e] at h1; simp at h1
      rw [hown]; simp [h1']
    · rw [hown]; simp only [timesB]; rw [hhi]; simp
    · rw [hown]; simp only [timesB]; rw [hlo2]; simp
    · have : decide (0 ≤ x.Lo) = false := by have : ¬ x.Lo ≥ 0 := by simpa using hlo
                                             simp; omega
      rw [hown]; simp only [timesB]; rw [this]; simp
    · rw [hown, hs]; simp
  · have h1 : x.Kind ≠ 1 := by simpa using h1
    have h2 : x.Kind ≠ 2 := by simpa using h2
    have h5 : x.Kind ≠ 5 := by simpa using h5
    have hodd : ∀ k, oddK x k = (k.Kind == x.Kind) := fun k => by simp [oddK, h5]
    refine ⟨fun b => b = decide (x.Kind = 3 ∨ x.Kind = 4), fun b hb => ⟨fun hbt => ⟨fun hg => ?_, fun hg => ?_⟩, fun hbf => ?_⟩, fun h3 => ?_, fun h3 => ?_⟩
    · have h34 : x.Kind = 3 ∨ x.Kind = 4 := by rw [hbt] at hb; simpa using hb.symm
      have : ownB x = false := by
        simp only [ownB, if_neg h5, if_neg h1, if_neg h2, if_pos h34]
        simp only [Bool.or_eq_true, decide_eq_true_eq, Bool.not_eq_true', Bool.and_eq_false_iff] at hg ⊢
        rcases hg with hg | hg | hg
        · exact .inl hg
        · exact .inr (.inl (hg.imp id id))
        · right; right; simp; omega
      rw [this]; simp
    · have h34 : x.Kind = 3 ∨ x.Kind = 4 := by rw [hbt] at hb; simpa using hb.symm
      have hown : ownB x = true := by
        simp only [ownB, if_neg h5, if_neg h1, if_neg h2, if_pos h34]
        simp only [Bool.or_eq_false_iff, decide_eq_false_iff_not, Bool.not_eq_false', Bool.and_eq_true, decide_eq_true_eq] at hg ⊢
        obtain ⟨g1, g2, g3⟩ := hg
        exact ⟨g1, g2, by omega⟩
      rw [hown, Bool.true_and]
      refine ⟨fun t => ∃ i : Nat, t = i ∧ i ≤ x.Kids.length ∧ (x.Kids.take i).all (fun k => !oddK x k && rgt k (deep - 1)) = true, fun t => (x.Kids.length - t).toNat, ⟨0, rfl, by omega, rfl⟩, ?_⟩
      rintro t ⟨i, rfl, hi, hall⟩
      refine ⟨fun ht => ?_, fun ht => ?_⟩
      · have ht : i < x.Kids.length := by simpa using ht
        have hw2 : w64 ((i : Int) + 1) = ((i + 1 : Nat) : Int) := w64_id (by omega) (by omega)
        have hm := List.getElem_mem ht
        have hfail : ∀ {b : Bool}, (!oddK x x.Kids[i] && rgt x.Kids[i] (deep - 1)) = false → (x.Kids.all fun k => !oddK x k && rgt k (deep - 1)) = false := fun h => by
          rw [List.all_eq_false]; exact ⟨_, hm, by rw [h]; simp⟩
        refine ⟨by omega, by omega, fun ho => ?_, fun ho => ⟨fun _ => by omega, fun _ => by omega, _, by rw [gd_nat ht, hw1]; exact ih _ hm (hk _ hm) _ (by omega) (by omega), fun hr => ?_, fun hr => ?_⟩⟩
        · rw [gd_nat ht] at ho
          exact (hfail (b := true) (by rw [hodd, ho]; rfl)).symm ▸ rfl
        · have hr : rgt x.Kids[i] (deep - 1) = false := by simpa using hr
          exact hfail (b := true) (by rw [hr]; simp)
        · have hr : rgt x.Kids[i] (deep - 1) = true := by simpa using hr
          rw [gd_nat ht] at ho
          rw [hw2]
          refine ⟨⟨i + 1, rfl, by omega, ?_⟩, by dsimp only; omega⟩
          rw [List.take_succ_eq_append_getElem ht, List.all_append, hall]
          simp [hodd, ho, hr]
      · have ht : i = x.Kids.length := by have : ¬ i < x.Kids.length := by simpa using ht
                                          omega
        subst ht
        rw [List.take_of_length_le (Nat.le_refl _)] at hall
        exact hall
    · have h34 : ¬ (x.Kind = 3 ∨ x.Kind = 4) := by rw [hbf] at hb; simpa using hb.symm
      have : ownB x = false := by simp only [ownB, if_neg h5, if_neg h1, if_neg h2, if_neg h34]
      rw [this]; simp
    · have : x.Kind = 3 := by simpa using h3
      simp [this]
    · have : x.Kind ≠ 3 := by simpa using h3
      simp [this]; rfl
theorem refRightAll_ok (x : api_Rx) (hw : Wf x) : C_heckleref03_Right x (rightB x) := by
  refine W_heckleref03_Right x _ ⟨_, refRight_ok x hw 20 (by omega) (by omega), fun h => ⟨_, refSize_ok x hw, fun h2 => ⟨_, refNodes_ok x hw 1000 (by omega) (by omega), ?_⟩, fun h2 => ?_⟩, fun h => ?_⟩
  · rw [rightB, h, h2]; rfl
  · rw [rightB, h2]; simp
  · rw [rightB, h]; simp
def nullB : api_Rx → Bool := cata fun x l => if x.Kind = 1 then true else if x.Kind = 3 then l.all id else if x.Kind = 4 then l.any id else if x.Kind = 5 then decide (x.Lo ≤ 0) || l.all id else false
theorem nullB_eq (x : api_Rx) : nullB x = if x.Kind = 1 then true else if x.Kind = 3 then x.Kids.all nullB else if x.Kind = 4 then x.Kids.any nullB else if x.Kind = 5 then decide (x.Lo ≤ 0) || x.Kids.all nullB else false := by
  unfold nullB; rw [cata_eq]; simp only [List.all_map, List.any_map]; rfl
end Go.Ev.Pl

set_option linter.unusedSimpArgs false
set_option linter.unusedVariables false
namespace Go.Ev.Pl
open Go Go.Ev
structure GA where
  n : Nat
  sets : List arr4_uint64
  null : Bool
  first : Nat → Bool
  last : Nat → Bool
  follow : Nat → Nat → Bool
def gEmpty : GA := ⟨0, [], true, fun _ => false, fun _ => false, fun _ _ => false⟩
def gNone : GA := ⟨0, [], false, fun _ => false, fun _ => false, fun _ _ => false⟩
def gByte (s : arr4_uint64) : GA := ⟨1, [s], false, fun i => i == 0, fun i => i == 0, fun _ _ => false⟩
def blk (n : Nat) (p q : Nat → Nat → Bool) (r : Nat → Nat → Bool) (i j : Nat) : Bool :=
  if i < n then (if j < n then p i j else r i (j - n)) else (if j < n then false else q (i - n) (j - n))
def gCat (a b : GA) : GA :=
  ⟨a.n + b.n, a.sets ++ b.sets, a.null && b.null, fun i => if i < a.n then a.first i else a.null && b.first (i - a.n),
    fun i => if i < a.n then b.null && a.last i else b.last (i - a.n), blk a.n a.follow b.follow fun i j => a.last i && b.first j⟩
def gAlt (a b : GA) : GA :=
  ⟨a.n + b.n, a.sets ++ b.sets, a.null || b.null, fun i => if i < a.n then a.first i else b.first (i - a.n),
    fun i => if i < a.n then a.last i else b.last (i - a.n), blk a.n a.follow b.follow fun _ _ => false⟩
def gAgain (a : GA) : GA := { a with follow := fun i j => a.follow i j || a.last i && a.first j }
def gMaybe (a : GA) : GA := { a with null := true }
theorem cat_empty_l (a : GA) : gCat gEmpty a = a := by
  cases a; simp [gCat, gEmpty]; funext i j; simp [blk]
theorem alt_none_l (a : GA) : gAlt gNone a = a := by
  cases a; simp [gAlt, gNone]; funext i j; simp [blk]
theorem cat_assoc (a b c : GA) : gCat (gCat a b) c = gCat a (gCat b c) := by
  obtain ⟨an, asx, au, af, al, ao⟩ := a
  obtain ⟨bn, bs, bu, bf, bl, bo⟩ := b
  obtain ⟨cn, cs, cu, cf, cl, co⟩ := c
  simp only [gCat, GA.mk.injEq, List.append_assoc, Nat.add_assoc, true_and, Bool.and_assoc]
  refine ⟨?_, ?_, ?_⟩
  · funext i
    have e : i - (an + bn) = i - an - bn := by omega
    rw [e]
    by_cases h1 : i < an
    · simp [h1, show i < an + bn by omega]
    · by_cases h2 : i < an + bn
      · simp [h1, h2, show i - an < bn by omega]
      · simp [h1, h2, show ¬ i - an < bn by omega]
  · funext i
    have e : i - (an + bn) = i - an - bn := by omega
    rw [e]
    by_cases h1 : i < an
    · simp only [h1, show i < an + bn by omega, if_true]
      cases bu <;> cases cu <;> simp
    · by_cases h2 : i < an + bn
      · simp [h1, h2, show i - an < bn by omega]
      · simp [h1, h2, show ¬ i - an < bn by omega]
  · funext i j
    simp only [blk]
    have e : i - (an + bn) = i - an - bn := by omega
    have e' : j - (an + bn) = j - an - bn := by omega
    rw [e, e']
    by_cases h1 : i < an <;> by_cases h2 : i < an + bn <;> by_cases h3 : j < an <;> by_cases h4 : j < an + bn
    all_goals first | omega | skip
    · simp [h1, h2, h3, h4]
    · simp [h1, h2, h3, h4, show j - an < bn by omega]
    · simp [h1, h2, h3, h4, show ¬ j - an < bn by omega]
      cases bu <;> simp
    · simp [h1, h2, h3, h4, show i - an < bn by omega]
    · simp [h1, h2, h3, h4, show i - an < bn by omega, show j - an < bn by omega]
    · simp [h1, h2, h3, h4, show i - an < bn by omega, show ¬ j - an < bn by omega]
    · simp [h1, h2, h3, h4, show ¬ i - an < bn by omega]
    · simp [h1, h2, h3, h4, show ¬ i - an < bn by omega, show j - an < bn by omega]
    · simp [h1, h2, h3, h4, show ¬ i - an < bn by omega, show ¬ j - an < bn by omega]
structure Canon (a : GA) : Prop where
  sets : a.sets.length = a.n
  first : ∀ i, a.n ≤ i → a.first i = false
  last : ∀ i, a.n ≤ i → a.last i = false
  follow : ∀ i j, a.n ≤ i ∨ a.n ≤ j → a.follow i j = false
theorem cat_empty_r {a : GA} (h : Canon a) : gCat a gEmpty = a := by
  obtain ⟨n, sets, null, f, l, fo⟩ := a
  simp only [gCat, gEmpty, GA.mk.injEq, Nat.add_zero, List.append_nil, Bool.and_true, Bool.and_false, true_and]
  refine ⟨?_, ?_, ?_⟩
  · funext i; split
    · rfl
    · rename_i hi; exact (h.first i (by show n ≤ i; omega)).symm
  · funext i; split
    · rfl
    · rename_i hi; exact (h.last i (by show n ≤ i; omega)).symm
  · funext i j
    simp only [blk]
    split <;> split
    · rfl
    · rename_i h1 h2; exact (h.follow i j (by show n ≤ i ∨ n ≤ j; omega)).symm
    · rename_i h1 h2; exact (h.follow i j (by show n ≤ i ∨ n ≤ j; omega)).symm
    · rename_i h1 h2; exact (h.follow i j (by show n ≤ i ∨ n ≤ j; omega)).symm
theorem canon_zero {a : GA} (h : Canon a) (hn : a.n = 0) (hnull : a.null = true) : a = gEmpty := by
  obtain ⟨n, sets, null, f, l, fo⟩ := a
  simp only at hn hnull; subst hn hnull
  have hs : sets = [] := List.length_eq_zero_iff.1 h.sets
  subst hs
  simp only [gEmpty, GA.mk.injEq, true_and]
  exact ⟨funext fun i => h.first i (Nat.zero_le _), funext fun i => h.last i (Nat.zero_le _), funext fun i => funext fun j => h.follow i j (.inl (Nat.zero_le _))⟩
theorem canon_empty : Canon gEmpty := ⟨rfl, fun _ _ => rfl, fun _ _ => rfl, fun _ _ _ => rfl⟩
theorem canon_none : Canon gNone := ⟨rfl, fun _ _ => rfl, fun _ _ => rfl, fun _ _ _ => rfl⟩
theorem canon_byte (s : arr4_uint64) : Canon (gByte s) := ⟨rfl, fun i h => by simp [gByte] at h ⊢; omega, fun i h => by simp [gByte] at h ⊢; omega, fun _ _ _ => rfl⟩
theorem canon_cat {a b : GA} (ha : Canon a) (hb : Canon b) : Canon (gCat a b) := by
  refine ⟨by simp [gCat, ha.sets, hb.sets], fun i h => ?_, fun i h => ?_, fun i j h => ?_⟩
  · simp only [gCat] at h ⊢; rw [if_neg (by omega), hb.first _ (by omega)]; simp
  · simp only [gCat] at h ⊢; rw [if_neg (by omega), hb.last _ (by omega)]
  · simp only [gCat, blk] at h ⊢
    split <;> split
    · omega
    · rw [hb.first _ (by omega)]; simp
    · rfl
    · exact hb.follow _ _ (by omega)
theorem canon_alt {a b : GA} (ha : Canon a) (hb : Canon b) : Canon (gAlt a b) := by
  refine ⟨by simp [gAlt, ha.sets, hb.sets], fun i h => ?_, fun i h => ?_, fun i j h => ?_⟩
  · simp only [gAlt] at h ⊢; rw [if_neg (by omega), hb.first _ (by omega)]
  · simp only [gAlt] at h ⊢; rw [if_neg (by omega), hb.last _ (by omega)]
  · simp only [gAlt, blk] at h ⊢
    split <;> split
    · omega
    · rfl
    · rfl
    · exact hb.follow _ _ (by omega)
theorem canon_again {a : GA} (h : Canon a) : Canon (gAgain a) :=
  ⟨h.sets, h.first, h.last, fun i j hij => by
    simp only [gAgain] at hij ⊢
    rw [h.follow i j hij]
    rcases hij with hi | hj
    · rw [h.last i hi]; rfl
    · rw [h.first j hj]; simp⟩
theorem canon_maybe {a : GA} (h : Canon a) : Canon (gMaybe a) := ⟨h.sets, h.first, h.last, h.follow⟩
def iter (f : GA → GA) : Nat → GA → GA
  | 0, z => z
  | k + 1, z => f (iter f k z)
theorem iter_in (f : GA → GA) : ∀ k z, iter f (k + 1) z = iter f k (f z)
  | 0, _ => rfl
  | k + 1, z => by rw [iter, iter_in f k]; rfl
def leftp (a : GA) (k : Nat) : GA := iter (fun o => gCat o a) k gEmpty
theorem leftp_cat (a : GA) : ∀ k z, gCat (leftp a k) z = iter (gCat a) k z
  | 0, z => cat_empty_l z
  | k + 1, z => by
    show gCat (gCat (leftp a k) a) z = _
    rw [cat_assoc, leftp_cat a k, ← iter_in]
theorem canon_iter {f : GA → GA} (hf : ∀ a, Canon a → Canon (f a)) : ∀ k {z}, Canon z → Canon (iter f k z)
  | 0, _, h => h
  | k + 1, _, h => hf _ (canon_iter hf k h)
def gRep (a : GA) (lo hi : Int) : GA :=
  if hi < 0 then iter (gCat a) (max lo 1 - 1).toNat (if lo = 0 then gMaybe (gAgain a) else gAgain a)
  else iter (gCat a) lo.toNat (iter (fun o => gMaybe (gCat a o)) (hi - lo).toNat gEmpty)
theorem canon_rep {a : GA} (h : Canon a) (lo hi : Int) : Canon (gRep a lo hi) := by
  unfold gRep
  split
  · refine canon_iter (fun b hb => canon_cat h hb) _ ?_
    split
    · exact canon_maybe (canon_again h)
    · exact canon_again h
  · exact canon_iter (fun b hb => canon_cat h hb) _ (canon_iter (fun b hb => canon_maybe (canon_cat h hb)) _ canon_empty)
def gof : api_Rx → GA := cata fun x l =>
  if x.Kind = 2 then gByte x.Set else if x.Kind = 3 then l.foldl gCat gEmpty else if x.Kind = 4 then l.foldl gAlt gNone
  else if x.Kind = 5 then gRep (l.headD gEmpty) x.Lo x.Hi else gEmpty
theorem gof_eq (x : api_Rx) : gof x = if x.Kind = 2 then gByte x.Set else if x.Kind = 3 then x.Kids.foldl (fun o y => gCat o (gof y)) gEmpty else if x.Kind = 4 then x.Kids.foldl (fun o y => gAlt o (gof y)) gNone
    else if x.Kind = 5 then gRep ((x.Kids.map gof).headD gEmpty) x.Lo x.Hi else gEmpty := by
  unfold gof; rw [cata_eq]; simp only [List.foldl_map]
theorem canon_gof : ∀ x, Canon (gof x) := by
  refine rxInd fun x ih => ?_
  have key : ∀ (f : GA → GA → GA), (∀ a b, Canon a → Canon b → Canon (f a b)) → ∀ (l : List api_Rx) (z : GA), (∀ y ∈ l, y ∈ x.Kids) → Canon z → Canon (l.foldl (fun o y => f o (gof y)) z) := by
    intro f hf l
    induction l with
    | nil => intro z _ h; exact h
    | cons y r ih2 => intro z hl h; exact ih2 _ (fun a ha => hl a (List.mem_cons_of_mem _ ha)) (hf _ _ h (ih y (hl y (List.mem_cons_self ..))))
  rw [gof_eq]
  split
  · exact canon_byte _
  · split
    · exact key gCat (fun a b => canon_cat) _ _ (fun _ h => h) canon_empty
    · split
      · exact key gAlt (fun a b => canon_alt) _ _ (fun _ h => h) canon_none
      · split
        · refine canon_rep ?_ _ _
          cases hq : x.Kids with
          | nil => exact canon_empty
          | cons y r => exact ih y (by rw [hq]; exact List.mem_cons_self ..)
        · exact canon_empty
end Go.Ev.Pl

set_option linter.unusedSimpArgs false
set_option linter.unusedVariables false
namespace Go.Ev.Pl
open Go Go.Ev
def lst (n : Nat) (p : Nat → Bool) (off : Nat) : List Int := ((List.range n).filter p).map fun i => ((i + off : Nat) : Int)
theorem lst_mem {n : Nat} {p : Nat → Bool} {off : Nat} {x : Int} : x ∈ lst n p off ↔ ∃ i, i < n ∧ p i = true ∧ x = ((i + off : Nat) : Int) := by
  simp only [lst, List.mem_map, List.mem_filter, List.mem_range]
  constructor
  · rintro ⟨i, ⟨h1, h2⟩, rfl⟩; exact ⟨i, h1, h2, rfl⟩
  · rintro ⟨i, h1, h2, rfl⟩; exact ⟨i, ⟨h1, h2⟩, rfl⟩
theorem lst_ss (n : Nat) (p : Nat → Bool) (off : Nat) : SS (lst n p off) := by
  unfold lst SS
  rw [List.pairwise_map]
  refine List.Pairwise.filter _ ?_
  exact List.pairwise_lt_range.imp fun h => by omega
theorem lst_len (n : Nat) (p : Nat → Bool) (off : Nat) : (lst n p off).length ≤ n := by
  unfold lst
  rw [List.length_map]
  exact Nat.le_trans (List.length_filter_le _ _) (by simp)
theorem lst_congr {n : Nat} {p q : Nat → Bool} {off : Nat} (h : ∀ i, i < n → p i = q i) : lst n p off = lst n q off := by
  unfold lst
  rw [List.filter_congr fun i hi => h i (List.mem_range.1 hi)]
theorem lst_left {n m : Nat} {p : Nat → Bool} {off : Nat} {q : Nat → Bool} (h1 : ∀ i, i < n → q i = p i) (h2 : ∀ i, n ≤ i → i < n + m → q i = false) : lst n p off = lst (n + m) q off := by
  refine ss_ext (lst_ss _ _ _) (lst_ss _ _ _) fun x => ?_
  rw [lst_mem, lst_mem]
  constructor
  · rintro ⟨i, hi, hp, rfl⟩; exact ⟨i, by omega, by rw [h1 i hi]; exact hp, rfl⟩
  · rintro ⟨i, hi, hp, rfl⟩
    rcases Nat.lt_or_ge i n with h | h
    · exact ⟨i, h, by rw [← h1 i h]; exact hp, rfl⟩
    · rw [h2 i h hi] at hp; cases hp
theorem lst_right {n m : Nat} {p : Nat → Bool} {off : Nat} {q : Nat → Bool} (h1 : ∀ i, i < n → q i = false) (h2 : ∀ i, i < m → q (n + i) = p i) : lst m p (off + n) = lst (n + m) q off := by
  refine ss_ext (lst_ss _ _ _) (lst_ss _ _ _) fun x => ?_
  rw [lst_mem, lst_mem]
  constructor
  · rintro ⟨i, hi, hp, rfl⟩; exact ⟨n + i, by omega, by rw [h2 i hi]; exact hp, by omega⟩
  · rintro ⟨i, hi, hp, rfl⟩
    rcases Nat.lt_or_ge i n with h | h
    · rw [h1 i h] at hp; cases hp
    · exact ⟨i - n, by omega, by rw [← h2 _ (by omega), show n + (i - n) = i by omega]; exact hp, by omega⟩
theorem lst_both {n m : Nat} {p p' : Nat → Bool} {off : Nat} {q : Nat → Bool} {l : List Int} (hs : SS l) (hm : ∀ x, x ∈ l ↔ x ∈ lst n p off ∨ x ∈ lst m p' (off + n)) (h1 : ∀ i, i < n → q i = p i) (h2 : ∀ i, i < m → q (n + i) = p' i) : l = lst (n + m) q off := by
  refine ss_ext hs (lst_ss _ _ _) fun x => ?_
  rw [hm, lst_mem, lst_mem, lst_mem]
  constructor
  · rintro (⟨i, hi, hp, rfl⟩ | ⟨i, hi, hp, rfl⟩)
    · exact ⟨i, by omega, by rw [h1 i hi]; exact hp, rfl⟩
    · exact ⟨n + i, by omega, by rw [h2 i hi]; exact hp, by omega⟩
  · rintro ⟨i, hi, hp, rfl⟩
    rcases Nat.lt_or_ge i n with h | h
    · exact .inl ⟨i, h, by rw [← h1 i h]; exact hp, rfl⟩
    · exact .inr ⟨i - n, by omega, by rw [← h2 _ (by omega), show n + (i - n) = i by omega]; exact hp, by omega⟩
def flw (g : GA) (off : Nat) : List (List Int) := (List.range g.n).map fun i => lst g.n (g.follow i) off
theorem flw_len (g : GA) (off : Nat) : (flw g off).length = g.n := by simp [flw]
theorem flw_get (g : GA) (off : Nat) {i : Nat} (h : i < g.n) : (flw g off)[i]'(by rw [flw_len]; exact h) = lst g.n (g.follow i) off := by simp [flw]
theorem flw_ext {g : GA} {off : Nat} {l : List (List Int)} (hl : l.length = g.n) (h : ∀ (i : Nat) (hi : i < l.length), l[i] = lst g.n (g.follow i) off) : l = flw g off := by
  apply List.ext_getElem
  · rw [hl, flw_len]
  · intro i h1 h2
    rw [h i h1, flw_get g off (by rw [hl] at h1; exact h1)]
def leadF (F : List (List Int)) (fr to : List Int) : List (List Int) := F.mapIdx fun i f => if (i : Int) ∈ fr then join f to else f
theorem leadF_len (F : List (List Int)) (fr to : List Int) : (leadF F fr to).length = F.length := by simp [leadF]
theorem leadF_get (F : List (List Int)) (fr to : List Int) {i : Nat} (h : i < F.length) : (leadF F fr to)[i]'(by rw [leadF_len]; exact h) = if (i : Int) ∈ fr then join F[i] to else F[i] := by simp [leadF]
theorem lead_cat (F0 : List (List Int)) (a b : GA) : leadF (F0 ++ flw a F0.length ++ flw b (F0.length + a.n)) (lst a.n a.last F0.length) (lst b.n b.first (F0.length + a.n)) = F0 ++ flw (gCat a b) F0.length := by
  apply List.ext_getElem
  · rw [leadF_len]; simp only [List.length_append, flw_len]; simp only [gCat]; omega
  · intro i h1 h2
    rw [leadF_len] at h1
    rw [leadF_get _ _ _ h1]
    simp only [List.length_append, flw_len] at h1
    have hin : (i : Int) ∈ lst a.n a.last F0.length ↔ F0.length ≤ i ∧ i < F0.length + a.n ∧ a.last (i - F0.length) = true := by
      rw [lst_mem]
      constructor
      · rintro ⟨j, hj, hp, e⟩
        have : i = j + F0.length := by omega
        subst this
        exact ⟨by omega, by omega, by rw [Nat.add_sub_cancel]; exact hp⟩
      · rintro ⟨q1, q2, q3⟩
        exact ⟨i - F0.length, by omega, q3, by omega⟩
    rcases Nat.lt_or_ge i F0.length with hi | hi
    · rw [if_neg (by rw [hin]; omega), List.getElem_append_left (by simp only [List.length_append, flw_len]; omega), List.getElem_append_left hi, List.getElem_append_left hi]
    · have hr : (F0 ++ flw (gCat a b) F0.length)[i]'h2 = lst (a.n + b.n) ((gCat a b).follow (i - F0.length)) F0.length := by
        rw [List.getElem_append_right hi, flw_get _ _ (by show _ < a.n + b.n; omega)]; rfl
      rw [hr]
      rcases Nat.lt_or_ge i (F0.length + a.n) with hi2 | hi2
      · have hl : (F0 ++ flw a F0.length ++ flw b (F0.length + a.n))[i]'(by simp only [List.length_append, flw_len]; omega) = lst a.n (a.follow (i - F0.length)) F0.length := by
          rw [List.getElem_append_left (by simp only [List.length_append, flw_len]; omega), List.getElem_append_right hi, flw_get _ _ (by omega)]
        rw [hl]
        by_cases hla : a.last (i - F0.length) = true
        · rw [if_pos (hin.2 ⟨hi, hi2, hla⟩)]
          obtain ⟨j1, j2⟩ := join_spec (lst a.n (a.follow (i - F0.length)) F0.length) (lst b.n b.first (F0.length + a.n))
          refine lst_both j1 j2 (fun j hj => ?_) (fun j hj => ?_)
          · simp only [gCat, blk]; rw [if_pos (by omega), if_pos hj]
          · simp only [gCat, blk]; rw [if_pos (by omega), if_neg (by omega), hla, Nat.add_sub_cancel_left]; rfl
        · rw [if_neg (fun h => hla (hin.1 h).2.2)]
          have hla : a.last (i - F0.length) = false := by simpa using hla
          refine lst_left (fun j hj => ?_) (fun j h1 h2 => ?_)
          · simp only [gCat, blk]; rw [if_pos (by omega), if_pos hj]
          · simp only [gCat, blk]; rw [if_pos (by omega), if_neg (by omega), hla]; rfl
      · rw [if_neg (by rw [hin]; omega)]
        have hl : (F0 ++ flw a F0.length ++ flw b (F0.length + a.n))[i]'(by simp only [List.length_append, flw_len]; omega) = lst b.n (b.follow (i - (F0.length + a.n))) (F0.length + a.n) := by
          rw [List.getElem_append_right (by simp only [List.length_append, flw_len]; omega)]
          simp only [List.length_append, flw_len]
          rw [flw_get _ _ (by omega)]
        rw [hl]
        refine lst_right (fun j hj => ?_) (fun j hj => ?_)
        · simp only [gCat, blk]; rw [if_neg (by omega), if_pos hj]
        · simp only [gCat, blk]; rw [if_neg (by omega), if_neg (by omega), show i - F0.length - a.n = i - (F0.length + a.n) by omega, Nat.add_sub_cancel_left]
theorem lead_again (F0 : List (List Int)) (a : GA) : leadF (F0 ++ flw a F0.length) (lst a.n a.last F0.length) (lst a.n a.first F0.length) = F0 ++ flw (gAgain a) F0.length := by
  apply List.ext_getElem
  · rw [leadF_len]; simp only [List.length_append, flw_len]; rfl
  · intro i h1 h2
    rw [leadF_len] at h1
    rw [leadF_get _ _ _ h1]
    simp only [List.length_append, flw_len] at h1
    have hin : (i : Int) ∈ lst a.n a.last F0.length ↔ F0.length ≤ i ∧ i < F0.length + a.n ∧ a.last (i - F0.length) = true := by
      rw [lst_mem]
      constructor
      · rintro ⟨j, hj, hp, e⟩
        have : i = j + F0.length := by omega
        subst this
        exact ⟨by omega, by omega, by rw [Nat.add_sub_cancel]; exact hp⟩
      · rintro ⟨q1, q2, q3⟩
        exact ⟨i - F0.length, by omega, q3, by omega⟩
    rcases Nat.lt_or_ge i F0.length with hi | hi
    · rw [if_neg (by rw [hin]; omega), List.getElem_append_left hi, List.getElem_append_left hi]
    · have hr : (F0 ++ flw (gAgain a) F0.length)[i]'h2 = lst a.n ((gAgain a).follow (i - F0.length)) F0.length := by
        rw [List.getElem_append_right hi, flw_get _ _ (by show _ < a.n; omega)]; rfl
      have hl : (F0 ++ flw a F0.length)[i]'(by simp only [List.length_append, flw_len]; omega) = lst a.n (a.follow (i - F0.length)) F0.length := by
        rw [List.getElem_append_right hi, flw_get _ _ (by omega)]
      rw [hr, hl]
      by_cases hla : a.last (i - F0.length) = true
      · rw [if_pos (hin.2 ⟨hi, by omega, hla⟩)]
        obtain ⟨j1, j2⟩ := join_spec (lst a.n (a.follow (i - F0.length)) F0.length) (lst a.n a.first F0.length)
        refine ss_ext j1 (lst_ss _ _ _) fun x => ?_
        rw [j2, lst_mem, lst_mem, lst_mem]
        simp only [gAgain, hla, Bool.true_and, Bool.or_eq_true]
        constructor
        · rintro (⟨j, q1, q2, rfl⟩ | ⟨j, q1, q2, rfl⟩)
          · exact ⟨j, q1, .inl q2, rfl⟩
          · exact ⟨j, q1, .inr q2, rfl⟩
        · rintro ⟨j, q1, q2 | q2, rfl⟩
          · exact .inl ⟨j, q1, q2, rfl⟩
          · exact .inr ⟨j, q1, q2, rfl⟩
      · rw [if_neg (fun h => hla (hin.1 h).2.2)]
        have hla : a.last (i - F0.length) = false := by simpa using hla
        exact lst_congr fun j hj => by simp [gAgain, hla]
theorem flw_alt (a b : GA) (off : Nat) : flw a off ++ flw b (off + a.n) = flw (gAlt a b) off := by
  refine flw_ext (by simp [flw_len, gAlt]) fun i hi => ?_
  simp only [List.length_append, flw_len] at hi
  show _ = lst (a.n + b.n) _ off
  rcases Nat.lt_or_ge i a.n with h | h
  · rw [List.getElem_append_left (by rw [flw_len]; exact h), flw_get _ _ h]
    refine lst_left (fun j hj => ?_) (fun j h1 h2 => ?_)
    · simp only [gAlt, blk]; rw [if_pos h, if_pos hj]
    · simp only [gAlt, blk]; rw [if_pos h, if_neg (by omega)]
  · rw [List.getElem_append_right (by rw [flw_len]; exact h)]
    simp only [flw_len]
    rw [flw_get _ _ (by omega)]
    refine lst_right (fun j hj => ?_) (fun j hj => ?_)
    · simp only [gAlt, blk]; rw [if_neg (by omega), if_pos hj]
    · simp only [gAlt, blk]; rw [if_neg (by omega), if_neg (by omega), Nat.add_sub_cancel_left]
def pc (g : GA) (off : Nat) : place_piece := ⟨lst g.n g.first off, lst g.n g.last off, g.null⟩
theorem cat_first (a b : GA) (off : Nat) : (if a.null = true then join (lst a.n a.first off) (lst b.n b.first (off + a.n)) else lst a.n a.first off) = lst (a.n + b.n) (gCat a b).first off := by
  split
  · rename_i h
    obtain ⟨j1, j2⟩ := join_spec (lst a.n a.first off) (lst b.n b.first (off + a.n))
    exact lst_both j1 j2 (fun j hj => by simp only [gCat]; rw [if_pos hj]) (fun j hj => by simp only [gCat]; rw [if_neg (by omega), h, Nat.add_sub_cancel_left]; rfl)
  · rename_i h
    have h : a.null = false := by simpa using h
    exact lst_left (fun j hj => by simp only [gCat]; rw [if_pos hj]) (fun j h1 h2 => by simp only [gCat]; rw [if_neg (by omega), h]; rfl)
theorem cat_last (a b : GA) (off : Nat) : (if b.null = true then join (lst a.n a.last off) (lst b.n b.last (off + a.n)) else lst b.n b.last (off + a.n)) = lst (a.n + b.n) (gCat a b).last off := by
  split
  · rename_i h
    obtain ⟨j1, j2⟩ := join_spec (lst a.n a.last off) (lst b.n b.last (off + a.n))
    exact lst_both j1 j2 (fun j hj => by simp only [gCat]; rw [if_pos hj, h]; rfl) (fun j hj => by simp only [gCat]; rw [if_neg (by omega), Nat.add_sub_cancel_left])
  · rename_i h
    have h : b.null = false := by simpa using h
    exact lst_right (fun j hj => by simp only [gCat]; rw [if_pos hj, h]; rfl) (fun j hj => by simp only [gCat]; rw [if_neg (by omega), Nat.add_sub_cancel_left])
theorem alt_first (a b : GA) (off : Nat) : join (lst a.n a.first off) (lst b.n b.first (off + a.n)) = lst (a.n + b.n) (gAlt a b).first off := by
  obtain ⟨j1, j2⟩ := join_spec (lst a.n a.first off) (lst b.n b.first (off + a.n))
  exact lst_both j1 j2 (fun j hj => by simp only [gAlt]; rw [if_pos hj]) (fun j hj => by simp only [gAlt]; rw [if_neg (by omega), Nat.add_sub_cancel_left])
theorem alt_last (a b : GA) (off : Nat) : join (lst a.n a.last off) (lst b.n b.last (off + a.n)) = lst (a.n + b.n) (gAlt a b).last off := by
  obtain ⟨j1, j2⟩ := join_spec (lst a.n a.last off) (lst b.n b.last (off + a.n))
  exact lst_both j1 j2 (fun j hj => by simp only [gAlt]; rw [if_pos hj]) (fun j hj => by simp only [gAlt]; rw [if_neg (by omega), Nat.add_sub_cancel_left])
end Go.Ev.Pl

set_option linter.unusedSimpArgs false
set_option linter.unusedVariables false
namespace Go.Ev.Pl
open Go Go.Ev
theorem set_eq {α : Type} {l : List α} {i : Nat} {x : α} {m : List α} (hl : m.length = l.length) (h1 : ∀ (j : Nat) (h : j < l.length), j ≠ i → m[j]'(by omega) = l[j]) (h2 : ∀ h : i < l.length, m[i]'(by omega) = x) : l.set i x = m := by
  apply List.ext_getElem
  · simp [hl]
  · intro j a b
    rw [List.getElem_set]
    split
    · rename_i e; subst e; exact (h2 (by simpa using a)).symm
    · rename_i e; exact (h1 j (by simpa using a) (fun h => e h.symm)).symm
theorem flatten_take_succ {α : Type} {L : List (List α)} {i : Nat} (h : i < L.length) : (L.take (i + 1)).flatten = (L.take i).flatten ++ L[i] := by
  rw [List.take_succ_eq_append_getElem h, List.flatten_append]; simp
theorem flatten_take_le {α : Type} (L : List (List α)) (i : Nat) : (L.take i).flatten.length ≤ L.flatten.length := by
  conv => rhs; rw [← List.take_append_drop i L]
  rw [List.flatten_append, List.length_append]; omega
theorem concat_ok (L : List (List Int)) (hL : L.length < 1099511627776) (hT : L.flatten.length < 1000000000) : C_slices_Concat__int_int L L.flatten := by
  refine W_slices_Concat__int_int L _ ⟨fun s t => ∃ i : Nat, t = i ∧ i ≤ L.length ∧ s = (L.take i).flatten.length, fun s t => (L.length - t).toNat, ⟨0, rfl, by omega, by simp⟩, ?_⟩
  rintro s t ⟨i, rfl, hi, rfl⟩
  have hb := flatten_take_le L i
  refine ⟨fun ht => ?_, fun ht => ?_⟩
  · have ht : i < L.length := by simpa using ht
    have hs := congrArg List.length (flatten_take_succ ht)
    rw [List.length_append] at hs
    have hb2 := flatten_take_le L (i + 1)
    have hg : gd L (i : Int) = L[i] := gd_nat ht
    have hw1 : w64 (((L.take i).flatten.length : Int) + (gd L (i : Int)).length) = ((L.take (i + 1)).flatten.length : Int) := by
      rw [hg, hs]; exact (w64_id (by omega) (by omega)).trans (by omega)
    have hw2 : w64 ((i : Int) + 1) = ((i + 1 : Nat) : Int) := w64_id (by omega) (by omega)
    rw [hw1, hw2]
    exact ⟨True, fun _ => ⟨⟨i + 1, rfl, by omega, rfl⟩, by dsimp only; omega⟩, by omega, by omega, fun h => absurd (of_decide_eq_true h) (by omega), fun _ => trivial⟩
  · refine ⟨⟨by omega, by omega⟩, fun l t => ∃ i : Nat, t = i ∧ i ≤ L.length ∧ l = (L.take i).flatten, fun l t => (L.length - t).toNat, ⟨0, rfl, by omega, rfl⟩, ?_⟩
    rintro l t ⟨j, rfl, hj, rfl⟩
    have hb3 := flatten_take_le L j
    refine ⟨fun ht => ?_, fun ht => ?_⟩
    · have ht : j < L.length := by simpa using ht
      have hg : gd L (j : Int) = L[j] := gd_nat ht
      have hs := flatten_take_succ ht
      have hs2 := congrArg List.length hs
      rw [List.length_append] at hs2
      have hb2 := flatten_take_le L (j + 1)
      have hw2 : w64 ((j : Int) + 1) = ((j + 1 : Nat) : Int) := w64_id (by omega) (by omega)
      rw [hw2, hg]
      exact ⟨by omega, by omega, by omega, ⟨j + 1, rfl, by omega, hs.symm⟩, by dsimp only; omega⟩
    · have : j = L.length := by have : ¬ j < L.length := by simpa using ht
                                omega
      subst this
      rw [List.take_of_length_le (Nat.le_refl _)]
theorem join_ok (a b : List Int) (ha : a.length < 100000000) (hb : b.length < 100000000) : C_place_Join_int a b (join a b) := by
  have h := concat_ok [a, b] (by simp) (by simp; omega)
  have e : [a, b].flatten = a ++ b := by simp
  rw [e] at h
  exact W_place_Join_int a b _ ⟨_, h, by simp; omega, sort_len _, by rw [sort_len]; simp; omega, rfl⟩
theorem lead_ok (fr to : List Int) (b : place_builder) (hfr : SS fr) (hin : ∀ x ∈ fr, 0 ≤ x ∧ x < b.follow.length) (hto : to.length < 10000000) (hF : ∀ f ∈ b.follow, f.length < 10000000) (hlen : fr.length < 10000000) : C_place_builder_lead fr to b { sets := b.sets, follow := leadF b.follow fr to } := by
  refine W_place_builder_lead fr to b _ ⟨fun F t => ∃ i : Nat, t = i ∧ i ≤ fr.length ∧ F = leadF b.follow (fr.take i) to, fun F t => (fr.length - t).toNat, ⟨0, rfl, by omega, by simp [leadF]; exact (List.ext_getElem (by simp) (fun j h1 h2 => by simp))⟩, ?_⟩
  rintro F t ⟨i, rfl, hi, rfl⟩
  refine ⟨fun ht => ?_, fun ht => ?_⟩
  · have ht : i < fr.length := by simpa using ht
    have hg : gd fr (i : Int) = fr[i] := gd_nat ht
    rw [hg]
    obtain ⟨q0, q1⟩ := hin _ (List.getElem_mem ht)
    obtain ⟨e, he⟩ : ∃ e : Nat, fr[i] = e := ⟨fr[i].toNat, by omega⟩
    rw [he] at q1 ⊢
    have he2 : e < b.follow.length := by omega
    have hl : (leadF b.follow (fr.take i) to).length = b.follow.length := leadF_len _ _ _
    have hnot : ∀ j : Nat, (hj : j < b.follow.length) → j = e → ¬ ((j : Int) ∈ fr.take i) := by
      rintro j hj rfl hm
      obtain ⟨k, hk, hk2⟩ := List.mem_iff_getElem.1 hm
      simp only [List.length_take] at hk
      rw [List.getElem_take] at hk2
      have := List.pairwise_iff_getElem.1 hfr k i (by omega) ht (by omega)
      omega
    have hge : gd (leadF b.follow (fr.take i) to) (e : Int) = b.follow[e] := by
      rw [gd_nat (by rw [hl]; exact he2), leadF_get _ _ _ he2, if_neg (hnot e he2 rfl)]
    have hw2 : w64 ((i : Int) + 1) = ((i + 1 : Nat) : Int) := w64_id (by omega) (by omega)
    refine ⟨by omega, by omega, by omega, by rw [hl]; omega, by rw [hl]; omega, join b.follow[e] to, ?_, by omega, by rw [hl]; omega, by rw [hl]; omega, ?_⟩
    · rw [hge]; exact join_ok _ _ (by have := hF _ (List.getElem_mem he2); omega) (by omega)
    · rw [hw2]
      refine ⟨⟨i + 1, rfl, by omega, ?_⟩, by dsimp only; omega⟩
      show List.set _ e _ = _
      refine set_eq (by rw [leadF_len, leadF_len]) (fun j hj hne => ?_) (fun hj => ?_)
      · rw [hl] at hj
        rw [leadF_get _ _ _ hj, leadF_get _ _ _ hj, List.take_succ_eq_append_getElem ht, he]
        have : ((j : Int) ∈ fr.take i ++ [(e : Int)]) ↔ (j : Int) ∈ fr.take i := by
          rw [List.mem_append, List.mem_singleton]
          constructor
          · rintro (h | h)
            · exact h
            · exact absurd (by omega) hne
          · exact .inl
        simp only [this]
      · rw [leadF_get _ _ _ he2, List.take_succ_eq_append_getElem ht, he, if_pos (by simp)]
  · have : i = fr.length := by have : ¬ i < fr.length := by simpa using ht
                               omega
    subst this
    rw [List.take_of_length_le (Nat.le_refl _)]
theorem flw_small (g : GA) (off : Nat) (h : g.n < 10000000) : ∀ f ∈ flw g off, f.length < 10000000 := by
  intro f hf
  simp only [flw, List.mem_map, List.mem_range] at hf
  obtain ⟨i, _, rfl⟩ := hf
  have := lst_len g.n (g.follow i) off
  omega
theorem cat_ok (F0 : List (List Int)) (S : List arr4_uint64) (a b : GA) (hF : ∀ f ∈ F0, f.length < 10000000) (hab : a.n + b.n < 1000000) (hF2 : F0.length < 1000000) :
    C_place_builder_cat (pc a F0.length) (pc b (F0.length + a.n)) { sets := S, follow := F0 ++ flw a F0.length ++ flw b (F0.length + a.n) } (pc (gCat a b) F0.length) { sets := S, follow := F0 ++ flw (gCat a b) F0.length } := by
  have hla := lst_len a.n a.last F0.length
  have hlb := lst_len b.n b.first (F0.length + a.n)
  have hlb2 := lst_len b.n b.last (F0.length + a.n)
  have hla2 := lst_len a.n a.first F0.length
  have hlead := lead_ok (lst a.n a.last F0.length) (lst b.n b.first (F0.length + a.n)) { sets := S, follow := F0 ++ flw a F0.length ++ flw b (F0.length + a.n) } (lst_ss _ _ _) (fun x hx => by
    obtain ⟨i, hi, _, rfl⟩ := lst_mem.1 hx
    simp only [List.length_append, flw_len]; omega) (by omega) (fun f hf => by
    rcases List.mem_append.1 hf with hf | hf
    · rcases List.mem_append.1 hf with hf | hf
      · exact hF f hf
      · exact flw_small a _ (by omega) f hf
    · exact flw_small b _ (by omega) f hf) (by omega)
  simp only [lead_cat] at hlead
  refine W_place_builder_cat _ _ _ _ _ ⟨_, hlead, fun l => l = lst (a.n + b.n) (gCat a b).first F0.length, ?_, fun hn => ⟨_, join_ok _ _ (by show (lst _ _ _).length < _; omega) (by show (lst _ _ _).length < _; omega), ?_⟩, fun hn => ?_⟩
  · rintro l rfl
    refine ⟨fun l => l = lst (a.n + b.n) (gCat a b).last F0.length, ?_, fun hn => ⟨_, join_ok _ _ (by show (lst _ _ _).length < _; omega) (by show (lst _ _ _).length < _; omega), ?_⟩, fun hn => ?_⟩
    · rintro l rfl; exact ⟨rfl, rfl⟩
    · have := cat_last a b F0.length
      rw [if_pos (show b.null = true from hn)] at this; exact this
    · have := cat_last a b F0.length
      rw [if_neg (by show ¬ (b.null = true); have : b.null = false := hn; simp [this])] at this; exact this
  · have := cat_first a b F0.length
    rw [if_pos (show a.null = true from hn)] at this; exact this
  · have := cat_first a b F0.length
    rw [if_neg (by show ¬ (a.null = true); have : a.null = false := hn; simp [this])] at this; exact this
end Go.Ev.Pl

set_option linter.unusedSimpArgs false
set_option linter.unusedVariables false
namespace Go.Ev.Pl
open Go Go.Ev
def Rgt (x : api_Rx) : Prop := ∃ d, rgt x d = true
theorem rgt_own {x : api_Rx} (h : Rgt x) : ownB x = true ∧ ∀ k ∈ x.Kids, Rgt k := by
  obtain ⟨d, h⟩ := h
  rw [rgt_eq] at h
  simp only [Bool.and_eq_true, List.all_eq_true] at h
  exact ⟨h.1.2, fun k hk => ⟨d - 1, (h.2 k hk).2⟩⟩
theorem own_rep {x : api_Rx} (h : ownB x = true) (h5 : x.Kind = 5) : (∃ k, x.Kids = [k]) ∧ 0 ≤ x.Lo ∧ x.Lo ≤ 20 ∧ (x.Hi = -1 ∨ 1 ≤ x.Hi ∧ x.Lo ≤ x.Hi ∧ x.Hi ≤ 20) := by
  simp only [ownB, if_pos h5, timesB, Bool.and_eq_true, decide_eq_true_eq, Bool.or_eq_true, beq_iff_eq] at h
  obtain ⟨_, h1, h2, h3, h4⟩ := h
  refine ⟨?_, h2, h3, ?_⟩
  · match hq : x.Kids, h1 with
    | [k], _ => exact ⟨k, rfl⟩
  · rcases h4 with h4 | ⟨h4, h5⟩
    · exact .inl h4
    · exact .inr (by omega)
theorem own_kids {x : api_Rx} (h : ownB x = true) (h34 : x.Kind = 3 ∨ x.Kind = 4) : 2 ≤ x.Kids.length := by
  simp only [ownB] at h
  rw [if_neg (by omega), if_neg (by omega), if_neg (by omega), if_pos h34] at h
  simp only [Bool.and_eq_true, decide_eq_true_eq] at h
  exact h.2.2
theorem own_kind {x : api_Rx} (h : ownB x = true) : x.Kind = 1 ∨ x.Kind = 2 ∨ x.Kind = 3 ∨ x.Kind = 4 ∨ x.Kind = 5 := by
  simp only [ownB] at h
  split at h
  · omega
  · split at h
    · omega
    · split at h
      · omega
      · split at h
        · omega
        · cases h
theorem iter_n {f : GA → GA} {a : GA} (hf : ∀ o, (f o).n = a.n + o.n) : ∀ k z, (iter f k z).n = k * a.n + z.n
  | 0, z => by simp [iter]
  | k + 1, z => by rw [iter, hf, iter_n hf k, Nat.succ_mul]; omega
def cpS (a : GA) (k : Nat) : List arr4_uint64 := (List.replicate k a.sets).flatten
theorem iter_sets {f : GA → GA} {a : GA} (hf : ∀ o, (f o).sets = a.sets ++ o.sets) : ∀ k z, (iter f k z).sets = cpS a k ++ z.sets
  | 0, z => by simp [iter, cpS]
  | k + 1, z => by rw [iter, hf, iter_sets hf k]; simp [cpS, List.replicate_succ]
theorem iter_null (a : GA) : ∀ k z, (iter (gCat a) k z).null = (z.null && (decide (k = 0) || a.null))
  | 0, z => by simp [iter]
  | k + 1, z => by
    rw [iter]
    show (a.null && (iter (gCat a) k z).null) = _
    rw [iter_null a k z]
    cases a.null <;> cases z.null <;> simp
theorem rep_n (a : GA) {lo hi : Int} (h1 : 0 ≤ lo) (h2 : hi = -1 ∨ 1 ≤ hi ∧ lo ≤ hi) : (gRep a lo hi).n = (max 1 (max lo hi)).toNat * a.n := by
  unfold gRep
  split
  · rw [iter_n (f := gCat a) (a := a) (fun _ => rfl)]
    have : (if lo = 0 then gMaybe (gAgain a) else gAgain a).n = a.n := by split <;> rfl
    rw [this, ← Nat.succ_mul]
    congr 1
    omega
  · rw [iter_n (f := gCat a) (a := a) (fun _ => rfl), iter_n (f := fun o => gMaybe (gCat a o)) (a := a) (fun _ => rfl)]
    show _ + (_ + 0) = _
    rw [Nat.add_zero, ← Nat.add_mul]
    congr 1
    omega
theorem rep_sets (a : GA) {lo hi : Int} (h1 : 0 ≤ lo) (h2 : hi = -1 ∨ 1 ≤ hi ∧ lo ≤ hi) : (gRep a lo hi).sets = cpS a (max 1 (max lo hi)).toNat := by
  have key : ∀ j k, cpS a j ++ cpS a k = cpS a (j + k) := fun j k => by
    simp only [cpS]; rw [← List.flatten_append, List.replicate_append_replicate]
  unfold gRep
  split
  · rw [iter_sets (f := gCat a) (a := a) (fun _ => rfl)]
    have : (if lo = 0 then gMaybe (gAgain a) else gAgain a).sets = cpS a 1 := by split <;> simp [cpS, gMaybe, gAgain]
    rw [this, key]
    congr 1
    omega
  · rw [iter_sets (f := gCat a) (a := a) (fun _ => rfl), iter_sets (f := fun o => gMaybe (gCat a o)) (a := a) (fun _ => rfl)]
    show _ ++ (_ ++ []) = _
    rw [List.append_nil, key]
    congr 1
    omega
theorem rep_null (a : GA) {lo hi : Int} (h1 : 0 ≤ lo) (h2 : hi = -1 ∨ 1 ≤ hi ∧ lo ≤ hi) : (gRep a lo hi).null = (decide (lo ≤ 0) || a.null) := by
  unfold gRep
  split
  · rw [iter_null]
    by_cases h : lo = 0
    · subst h; simp [gMaybe, gAgain]; left; rfl
    · have : ¬ lo ≤ 0 := by omega
      simp only [if_neg h, gAgain, this, decide_false, Bool.false_or]
      cases a.null <;> simp
  · rw [iter_null]
    have hin : ∀ k, (iter (fun o => gMaybe (gCat a o)) k gEmpty).null = true := by
      intro k; cases k <;> rfl
    rw [hin, Bool.true_and]
    congr 1
    simp only [decide_eq_decide]; omega
theorem foldl_n {f : GA → GA → GA} (hf : ∀ a b, (f a b).n = a.n + b.n) : ∀ (l : List api_Rx) (z : GA), (l.foldl (fun o y => f o (gof y)) z).n = z.n + (l.map fun y => (gof y).n).sum
  | [], z => by simp
  | y :: r, z => by rw [List.foldl_cons, foldl_n hf r, hf]; simp; omega
theorem gof_n : ∀ x, Rgt x → (gof x).n = sizeN x := by
  refine rxInd fun x ih hr => ?_
  obtain ⟨ho, hk⟩ := rgt_own hr
  have hkn : (x.Kids.map fun y => (gof y).n) = x.Kids.map sizeN := List.map_congr_left fun y hy => ih y hy (hk y hy)
  rw [gof_eq, sizeN_eq]
  rcases own_kind ho with h | h | h | h | h
  · simp [h, gEmpty]
  · simp [h, gByte]
  · simp only [h]
    simp only [show ¬ ((3 : Int) = 2) by omega, if_false, if_true, show (3 : Int) ≤ 3 ∧ (3 : Int) ≤ 5 from ⟨by omega, by omega⟩, show ¬ ((3 : Int) = 5) by omega]
    rw [foldl_n (f := gCat) (fun _ _ => rfl), hkn]
    show 0 + _ = _; simp
  · simp only [h]
    simp only [show ¬ ((4 : Int) = 2) by omega, show ¬ ((4 : Int) = 3) by omega, if_false, if_true, show (3 : Int) ≤ 4 ∧ (4 : Int) ≤ 5 from ⟨by omega, by omega⟩, show ¬ ((4 : Int) = 5) by omega]
    rw [foldl_n (f := gAlt) (fun _ _ => rfl), hkn]
    show 0 + _ = _; simp
  · obtain ⟨⟨k, hq⟩, h1, h2, h3⟩ := own_rep ho h
    simp only [h]
    simp only [show ¬ ((5 : Int) = 2) by omega, show ¬ ((5 : Int) = 3) by omega, show ¬ ((5 : Int) = 4) by omega, if_false, if_true, show (3 : Int) ≤ 5 ∧ (5 : Int) ≤ 5 from ⟨by omega, by omega⟩]
    rw [hq]
    simp only [List.map_cons, List.map_nil, List.headD_cons, List.sum_cons, List.sum_nil, Nat.add_zero]
    rw [rep_n _ h1 (by omega), ih k (by rw [hq]; simp) (hk k (by rw [hq]; simp)), Nat.mul_comm]
    congr 1
    simp only [timesN]; omega
theorem foldl_null_cat : ∀ (l : List api_Rx) (z : GA), (l.foldl (fun o y => gCat o (gof y)) z).null = (z.null && l.all fun y => (gof y).null)
  | [], z => by simp
  | y :: r, z => by rw [List.foldl_cons, foldl_null_cat r]; simp [gCat, Bool.and_assoc]
theorem foldl_null_alt : ∀ (l : List api_Rx) (z : GA), (l.foldl (fun o y => gAlt o (gof y)) z).null = (z.null || l.any fun y => (gof y).null)
  | [], z => by simp
  | y :: r, z => by rw [List.foldl_cons, foldl_null_alt r]; simp [gAlt, Bool.or_assoc]
theorem all_congr' {l : List api_Rx} {p q : api_Rx → Bool} (h : ∀ y ∈ l, p y = q y) : l.all p = l.all q := by
  induction l with
  | nil => rfl
  | cons y r ih => simp only [List.all_cons]; rw [h y (List.mem_cons_self ..), ih fun z hz => h z (List.mem_cons_of_mem _ hz)]
theorem any_congr' {l : List api_Rx} {p q : api_Rx → Bool} (h : ∀ y ∈ l, p y = q y) : l.any p = l.any q := by
  induction l with
  | nil => rfl
  | cons y r ih => simp only [List.any_cons]; rw [h y (List.mem_cons_self ..), ih fun z hz => h z (List.mem_cons_of_mem _ hz)]
theorem gof_null : ∀ x, Rgt x → (gof x).null = nullB x := by
  refine rxInd fun x ih hr => ?_
  obtain ⟨ho, hk⟩ := rgt_own hr
  rw [gof_eq, nullB_eq]
  rcases own_kind ho with h | h | h | h | h
  · simp [h, gEmpty]
  · simp [h, gByte]
  · simp only [h]
    simp only [show ¬ ((3 : Int) = 2) by omega, show ¬ ((3 : Int) = 1) by omega, if_false, if_true]
    rw [foldl_null_cat, all_congr' fun y hy => ih y hy (hk y hy)]; rfl
  · simp only [h]
    simp only [show ¬ ((4 : Int) = 2) by omega, show ¬ ((4 : Int) = 3) by omega, show ¬ ((4 : Int) = 1) by omega, if_false, if_true]
    rw [foldl_null_alt, any_congr' fun y hy => ih y hy (hk y hy)]; rfl
  · obtain ⟨⟨k, hq⟩, h1, h2, h3⟩ := own_rep ho h
    simp only [h]
    simp only [show ¬ ((5 : Int) = 2) by omega, show ¬ ((5 : Int) = 3) by omega, show ¬ ((5 : Int) = 4) by omega, show ¬ ((5 : Int) = 1) by omega, if_false, if_true]
    rw [hq]
    simp only [List.map_cons, List.map_nil, List.headD_cons, List.all_cons, List.all_nil, Bool.and_true]
    rw [rep_null _ h1 (by omega), ih k (by rw [hq]; simp) (hk k (by rw [hq]; simp))]
theorem zero_null : ∀ x, Rgt x → sizeN x = 0 → nullB x = true := by
  refine rxInd fun x ih hr h0 => ?_
  obtain ⟨ho, hk⟩ := rgt_own hr
  rw [sizeN_eq] at h0
  rw [nullB_eq]
  have hsum : (x.Kids.map sizeN).sum = 0 → ∀ y ∈ x.Kids, nullB y = true := fun h y hy => ih y hy (hk y hy) (by
    have := List.sum_eq_zero_iff_forall_eq_nat.1 h (sizeN y) (List.mem_map.2 ⟨y, hy, rfl⟩); exact this)
  rcases own_kind ho with h | h | h | h | h
  · simp [h]
  · simp [h] at h0
  · simp only [h] at h0 ⊢
    simp at h0
    simp only [show ¬ ((3 : Int) = 1) by omega, if_false, if_true, List.all_eq_true]
    exact hsum h0
  · simp only [h] at h0 ⊢
    simp at h0
    have h2 := own_kids ho (.inr h)
    simp only [show ¬ ((4 : Int) = 1) by omega, show ¬ ((4 : Int) = 3) by omega, if_false, if_true]
    have hm : x.Kids[0]'(by omega) ∈ x.Kids := List.getElem_mem _
    exact List.any_eq_true.2 ⟨_, hm, hsum h0 _ hm⟩
  · obtain ⟨⟨k, hq⟩, h1, h2, h3⟩ := own_rep ho h
    simp only [h] at h0 ⊢
    simp only [show ¬ ((5 : Int) = 2) by omega, if_false, if_true, show (3 : Int) ≤ 5 ∧ (5 : Int) ≤ 5 from ⟨by omega, by omega⟩] at h0
    have ht : 1 ≤ timesN x := by simp only [timesN]; omega
    have hs : (x.Kids.map sizeN).sum = 0 := by
      rcases Nat.mul_eq_zero.1 h0 with h | h
      · exact h
      · omega
    simp only [show ¬ ((5 : Int) = 3) by omega, show ¬ ((5 : Int) = 4) by omega, show ¬ ((5 : Int) = 1) by omega, if_false, if_true]
    have : x.Kids.all nullB = true := List.all_eq_true.2 (hsum hs)
    rw [this]; simp
theorem gof_zero {x : api_Rx} (hr : Rgt x) (h0 : sizeN x = 0) : gof x = gEmpty :=
  canon_zero (canon_gof x) ((gof_n x hr).trans h0) ((gof_null x hr).trans (zero_null x hr h0))
end Go.Ev.Pl

set_option linter.unusedSimpArgs false
set_option linter.unusedVariables false
namespace Go.Ev.Pl
open Go Go.Ev
def hF (h : Nat → GA) (m n : Nat) : Nat → List (List Int)
  | 0 => []
  | N + 1 => hF h m n N ++ flw (h N) (m + N * n)
theorem hF_len {h : Nat → GA} {m n : Nat} (hn : ∀ j, (h j).n = n) : ∀ N, (hF h m n N).length = N * n
  | 0 => by simp [hF]
  | N + 1 => by rw [hF, List.length_append, hF_len hn N, flw_len, hn, Nat.succ_mul]
theorem hF_congr {h h' : Nat → GA} {m n : Nat} : ∀ N, (∀ j, j < N → h j = h' j) → hF h m n N = hF h' m n N
  | 0, _ => rfl
  | N + 1, e => by rw [hF, hF, hF_congr N (fun j hj => e j (by omega)), e N (by omega)]
theorem hF_small {h : Nat → GA} {m n : Nat} (hs : ∀ j, (h j).n < 10000000) : ∀ N, ∀ f ∈ hF h m n N, f.length < 10000000
  | 0, f, hf => by simp [hF] at hf
  | N + 1, f, hf => by
    rw [hF, List.mem_append] at hf
    rcases hf with hf | hf
    · exact hF_small hs N f hf
    · exact flw_small _ _ (hs N) f hf
theorem cpS_succ (a : GA) (k : Nat) : cpS a (k + 1) = cpS a k ++ a.sets := by
  simp only [cpS, List.replicate_succ', List.flatten_append]; simp
structure Room (F0 : List (List Int)) (S : List arr4_uint64) (n : Nat) : Prop where
  same : S.length = F0.length
  small : ∀ f ∈ F0, f.length < 10000000
  room : F0.length + n < 1000000
def PieceOk (x : api_Rx) : Prop := ∀ F0 S, Room F0 S (gof x).n → C_place_builder_piece x { sets := S, follow := F0 } (pc (gof x) F0.length) { sets := S ++ (gof x).sets, follow := F0 ++ flw (gof x) F0.length }
theorem copies_ok {k : api_Rx} (hp : PieceOk k) (N : Nat) (hN : N ≤ 1000) (F0 : List (List Int)) (S : List arr4_uint64) (hr : Room F0 S (N * (gof k).n)) :
    C_place_builder_copies k N { sets := S, follow := F0 } ((List.range N).map fun i => pc (gof k) (F0.length + i * (gof k).n)) { sets := S ++ cpS (gof k) N, follow := F0 ++ hF (fun _ => gof k) F0.length (gof k).n N } := by
  have hc := canon_gof k
  refine W_place_builder_copies k N _ _ _ ⟨fun s f o t => ∃ i : Nat, t = i ∧ i ≤ N ∧ s = S ++ cpS (gof k) i ∧ f = F0 ++ hF (fun _ => gof k) F0.length (gof k).n i ∧ o = (List.range i).map fun i => pc (gof k) (F0.length + i * (gof k).n),
    fun _ _ _ t => (N - t).toNat, ⟨0, rfl, by omega, by simp [cpS], by simp [hF], rfl⟩, ?_⟩
  rintro s f o t ⟨i, rfl, hi, rfl, rfl, rfl⟩
  refine ⟨fun ht => ?_, fun ht => ?_⟩
  · have ht : i < N := by simpa using ht
    have hle : (i + 1) * (gof k).n ≤ N * (gof k).n := Nat.mul_le_mul_right _ ht
    rw [Nat.add_mul, Nat.one_mul] at hle
    have hlen : (F0 ++ hF (fun _ => gof k) F0.length (gof k).n i).length = F0.length + i * (gof k).n := by rw [List.length_append, hF_len fun _ => rfl]
    have hroom := hr.room
    have hsl : ∀ j, (cpS (gof k) j).length = j * (gof k).n := fun j => by simp [cpS, hc.sets]
    have := hp (F0 ++ hF (fun _ => gof k) F0.length (gof k).n i) (S ++ cpS (gof k) i) ⟨by rw [hlen, List.length_append, hr.same, hsl], fun f hf => by
      rcases List.mem_append.1 hf with hf | hf
      · exact hr.small f hf
      · exact hF_small (fun _ => by omega) i f hf, by rw [hlen]; omega⟩
    rw [hlen, List.append_assoc, List.append_assoc, ← cpS_succ] at this
    have hw2 : w64 ((i : Int) + 1) = ((i + 1 : Nat) : Int) := w64_id (by omega) (by omega)
    refine ⟨_, _, this, by simp; omega, ?_⟩
    rw [hw2]
    exact ⟨⟨i + 1, rfl, by omega, rfl, rfl, by rw [List.range_succ, List.map_append]; rfl⟩, by dsimp only; omega⟩
  · have : i = N := by have : ¬ i < N := by simpa using ht
                       omega
    subst this
    exact ⟨rfl, rfl⟩
def fromEnd (h : Nat → GA) (mb : Nat → Bool) (N : Nat) : Nat → GA
  | 0 => gEmpty
  | i + 1 => let o := gCat (h (N - 1 - i)) (fromEnd h mb N i); if mb (N - 1 - i) = true then gMaybe o else o
theorem fromEnd_n {h : Nat → GA} {mb : Nat → Bool} {N n : Nat} (hn : ∀ j, (h j).n = n) : ∀ i, (fromEnd h mb N i).n = i * n
  | 0 => by simp [fromEnd, gEmpty]
  | i + 1 => by
    simp only [fromEnd]
    have : (gCat (h (N - 1 - i)) (fromEnd h mb N i)).n = (i + 1) * n := by
      show (h (N - 1 - i)).n + (fromEnd h mb N i).n = _
      rw [hn, fromEnd_n hn i, Nat.succ_mul]; omega
    split
    · exact this
    · exact this
theorem rep_loop {x : api_Rx} {h : Nat → GA} {N n : Nat} {F0 : List (List Int)} {S S' : List arr4_uint64} (hn : ∀ j, (h j).n = n) (hr : Room F0 S (N * n)) (hN : N ≤ 1000) {l : List place_piece} (hl : l = (List.range N).map fun j => pc (h j) (F0.length + j * n))
    {res : place_piece} {fin : place_builder} (hres : res = pc (fromEnd h (fun j => decide (x.Hi ≥ 0) && decide ((j : Int) ≥ x.Lo)) N N) F0.length)
    (hfin : fin = { sets := S', follow := F0 ++ flw (fromEnd h (fun j => decide (x.Hi ≥ 0) && decide ((j : Int) ≥ x.Lo)) N N) F0.length }) :
    (List.length l < 1099511627776 ∧ ∃ (Inv24 : Nat → List arr4_uint64 → List (List Int) → List Int → List Int → Bool → Prop), Inv24 0 S' (F0 ++ hF h F0.length n N) [] [] Bool.true ∧
      (∀ (i : Nat) (y : place_piece), i < List.length l → l[List.length l - 1 - i]? = some y → ∀ (s : List arr4_uint64) (f : List (List Int)) (o1 o2 : List Int) (o3 : Bool), Inv24 i s f o1 o2 o3 →
        (∃ r0_6 : place_piece, ∃ o_4 : place_builder, C_place_builder_cat y { first := o1, last := o2, null := o3 } { sets := s, follow := f } r0_6 o_4 ∧
          (((decide (x.Hi ≥ 0) && decide ((List.length l : Int) - 1 - i ≥ x.Lo)) = true → (∃ r0_7 : place_piece, C_place_maybe r0_6 r0_7 ∧ Inv24 (i + 1) o_4.sets o_4.follow r0_7.first r0_7.last r0_7.null)) ∧
            ((decide (x.Hi ≥ 0) && decide ((List.length l : Int) - 1 - i ≥ x.Lo)) = false → Inv24 (i + 1) o_4.sets o_4.follow r0_6.first r0_6.last r0_6.null)))) ∧
      (∀ (s : List arr4_uint64) (f : List (List Int)) (o1 o2 : List Int) (o3 : Bool), Inv24 (List.length l) s f o1 o2 o3 → (res = { first := o1, last := o2, null := o3 } ∧ fin = { sets := s, follow := f }))) := by
  have hll : l.length = N := by rw [hl]; simp
  obtain ⟨mb, hmb⟩ : ∃ mb : Nat → Bool, mb = fun j : Nat => decide (x.Hi ≥ 0) && decide ((j : Int) ≥ x.Lo) := ⟨_, rfl⟩
  rw [← hmb] at hres hfin
  have hroom := hr.room
  rw [hll]
  refine ⟨by omega, fun i s f o1 o2 o3 => i ≤ N ∧ s = S' ∧ f = F0 ++ hF h F0.length n (N - i) ++ flw (fromEnd h mb N i) (F0.length + (N - i) * n) ∧ (⟨o1, o2, o3⟩ : place_piece) = pc (fromEnd h mb N i) (F0.length + (N - i) * n), ⟨by omega, rfl, by simp [fromEnd, flw, gEmpty], rfl⟩, ?_, ?_⟩
  · rintro i y hi hy s f o1 o2 o3 ⟨_, rfl, rfl, hp⟩
    have hy : y = pc (h (N - 1 - i)) (F0.length + (N - 1 - i) * n) := by
      rw [hl, List.getElem?_map, List.getElem?_range (by omega)] at hy
      simpa using hy.symm
    have e1 : N - i = (N - 1 - i) + 1 := by omega
    have hlen : (F0 ++ hF h F0.length n (N - 1 - i)).length = F0.length + (N - 1 - i) * n := by rw [List.length_append, hF_len hn]
    have hmul : (N - 1 - i) * n + (n + i * n) = N * n := by
      have : N = (N - 1 - i) + (1 + i) := by omega
      conv => rhs; rw [this, Nat.add_mul, Nat.add_mul, Nat.one_mul]
    have hcat := cat_ok (F0 ++ hF h F0.length n (N - 1 - i)) s (h (N - 1 - i)) (fromEnd h mb N i) (fun f hf => by
      rcases List.mem_append.1 hf with hf | hf
      · exact hr.small f hf
      · exact hF_small (fun j => by have := hn j; omega) _ f hf) (by rw [hn, fromEnd_n hn]; omega) (by rw [hlen]; omega)
    rw [hlen, hn] at hcat
    have hpos : F0.length + (N - 1 - i) * n + n = F0.length + (N - i) * n := by rw [e1, Nat.succ_mul]; omega
    rw [hpos] at hcat
    have hfl : F0 ++ hF h F0.length n (N - i) = F0 ++ hF h F0.length n (N - 1 - i) ++ flw (h (N - 1 - i)) (F0.length + (N - 1 - i) * n) := by
      rw [e1, hF, List.append_assoc]
    rw [hfl, hp, hy]
    refine ⟨_, _, hcat, fun hm => ⟨_, W_place_maybe _ _ rfl, ?_⟩, fun hm => ?_⟩
    all_goals have hidx : ((N : Int) - 1 - i) = ((N - 1 - i : Nat) : Int) := by omega
    all_goals rw [hidx] at hm
    all_goals have e2 : N - (i + 1) = N - 1 - i := by omega
    · have hf : fromEnd h mb N (i + 1) = gMaybe (gCat (h (N - 1 - i)) (fromEnd h mb N i)) := by
        simp only [fromEnd]; rw [if_pos]; rw [hmb]; exact hm
      dsimp only; rw [hf, e2]
      exact ⟨by omega, rfl, rfl, rfl⟩
    · have hf : fromEnd h mb N (i + 1) = gCat (h (N - 1 - i)) (fromEnd h mb N i) := by
        simp only [fromEnd]; rw [if_neg]; rw [hmb]; simpa using hm
      dsimp only; rw [hf, e2]
      exact ⟨by omega, rfl, rfl, rfl⟩
  · rintro s f o1 o2 o3 ⟨_, rfl, rfl, hp⟩
    rw [Nat.sub_self, Nat.zero_mul, Nat.add_zero] at hp
    refine ⟨by rw [hres, hp], ?_⟩
    rw [hfin]
    simp [hF]
end Go.Ev.Pl

set_option linter.unusedSimpArgs false
set_option linter.unusedVariables false
namespace Go.Ev.Pl
open Go Go.Ev
theorem fromEnd_neg {g z : GA} {h : Nat → GA} {mb : Nat → Bool} {N : Nat} (hz : Canon z) (hN : 1 ≤ N) (hh : ∀ j, j < N - 1 → h j = g) (hl : h (N - 1) = z) (hm : ∀ j, mb j = false) : ∀ i, i < N → fromEnd h mb N (i + 1) = iter (gCat g) i z
  | 0, hi => by
    simp only [fromEnd, hm]
    rw [if_neg (by simp), Nat.sub_zero, hl, cat_empty_r hz]; rfl
  | i + 1, hi => by
    have ih := fromEnd_neg hz hN hh hl hm i (by omega)
    rw [fromEnd]
    simp only [hm]
    rw [if_neg (by simp), ih, hh _ (by omega)]; rfl
theorem fromEnd_pos {g : GA} {h : Nat → GA} {mb : Nat → Bool} {N L : Nat} (hL : L ≤ N) (hh : ∀ j, h j = g) (hm : ∀ j, j < N → mb j = decide (L ≤ j)) : ∀ i, i ≤ N →
    fromEnd h mb N i = iter (gCat g) (i - (N - L)) (iter (fun o => gMaybe (gCat g o)) (min i (N - L)) gEmpty)
  | 0, _ => by simp [fromEnd, iter]
  | i + 1, hi => by
    have ih := fromEnd_pos hL hh hm i (by omega)
    rw [fromEnd]
    simp only [hh, ih]
    rw [hm _ (by omega)]
    by_cases hc : L ≤ N - 1 - i
    · rw [if_pos (by simpa using hc), show i - (N - L) = 0 by omega, show i + 1 - (N - L) = 0 by omega, show min i (N - L) = i by omega, show min (i + 1) (N - L) = i + 1 by omega]; rfl
    · rw [if_neg (by simpa using hc), show i + 1 - (N - L) = (i - (N - L)) + 1 by omega, show min i (N - L) = N - L by omega, show min (i + 1) (N - L) = N - L by omega]; rfl
theorem flw_again (g : GA) (b : Prop) [Decidable b] (off : Nat) : flw (if b then gMaybe (gAgain g) else gAgain g) off = flw (gAgain g) off := by split <;> rfl
theorem map_range_set {α : Type} {f : Nat → α} {N i : Nat} {v : α} (h : i < N) : ((List.range N).map f).set i v = (List.range N).map fun j => if j = i then v else f j := by
  refine set_eq (by simp) (fun j hj hne => ?_) (fun hj => ?_)
  · simp only [List.getElem_map, List.getElem_range]; rw [if_neg hne]
  · simp only [List.getElem_map, List.getElem_range, if_true]
theorem rep_ok {x : api_Rx} (hr : Rgt x) (h5 : x.Kind = 5) (hw : Wf x) (hp : ∀ k ∈ x.Kids, PieceOk k) (F0 : List (List Int)) (S : List arr4_uint64) (hroom : Room F0 S (gof x).n) :
    C_place_builder_rep x { sets := S, follow := F0 } (pc (gof x) F0.length) { sets := S ++ (gof x).sets, follow := F0 ++ flw (gof x) F0.length } := by
  obtain ⟨ho, hk⟩ := rgt_own hr
  obtain ⟨⟨k, hq⟩, h1, h2, h3⟩ := own_rep ho h5
  have hkm : k ∈ x.Kids := by rw [hq]; simp
  have hgn := gof_n x hr
  have hgof : gof x = gRep (gof k) x.Lo x.Hi := by
    rw [gof_eq, h5, hq]; simp
  refine W_place_builder_rep x _ _ _ ⟨_, rxSize_ok x hw, fun h0 => ?_, fun h0 => ?_⟩
  · have h0 : sizeN x = 0 := by
      have : sizeZ x = 0 := by simpa using h0
      simp only [sizeZ] at this; omega
    rw [gof_zero hr h0]
    exact ⟨rfl, by simp [gEmpty, flw]⟩
  obtain ⟨N, hN⟩ : ∃ N : Nat, N = (max 1 (max x.Lo x.Hi)).toNat := ⟨_, rfl⟩
  have hN1 : 1 ≤ N := by omega
  have hN2 : N ≤ 20 := by omega
  have hNi : (N : Int) = max 1 (max x.Lo x.Hi) := by omega
  have hn : (gof x).n = N * (gof k).n := by rw [hgof, rep_n _ h1 (by omega), hN]
  have hs : (gof x).sets = cpS (gof k) N := by rw [hgof, rep_sets _ h1 (by omega), hN]
  have hroom2 : Room F0 S (N * (gof k).n) := by rw [← hn]; exact hroom
  have hcp := copies_ok (hp k hkm) N (by omega) F0 S hroom2
  have hlen2 : F0.length + N * (gof k).n < 1000000 := hroom2.room
  have hcnt : (if (1 : Int) > if x.Hi > x.Lo then x.Hi else x.Lo then (1 : Int) else if x.Hi > x.Lo then x.Hi else x.Lo) = (N : Int) := by rw [hNi]; split <;> omega
  rw [hcnt, hq]
  simp only [List.length_cons, List.length_nil, List.getD_cons_zero]
  refine ⟨by omega, _, _, hcp, ?_⟩
  rw [← hs]
  by_cases hneg : x.Hi < 0
  · -- from some times on
    obtain ⟨z, hz⟩ : ∃ z : GA, z = if x.Lo = 0 then gMaybe (gAgain (gof k)) else gAgain (gof k) := ⟨_, rfl⟩
    have hzc : Canon z := by rw [hz]; split; exact canon_maybe (canon_again (canon_gof k)); exact canon_again (canon_gof k)
    have hzn : z.n = (gof k).n := by rw [hz]; split <;> rfl
    obtain ⟨h, hh⟩ : ∃ h : Nat → GA, h = fun j => if j = N - 1 then z else gof k := ⟨_, rfl⟩
    have hhn : ∀ j, (h j).n = (gof k).n := fun j => by rw [hh]; dsimp only; split; exact hzn; rfl
    have hfe : fromEnd h (fun j : Nat => decide (x.Hi ≥ 0) && decide ((j : Int) ≥ x.Lo)) N N = gof x := by
      have := fromEnd_neg (mb := fun j : Nat => decide (x.Hi ≥ 0) && decide ((j : Int) ≥ x.Lo)) hzc hN1 (h := h) (g := gof k) (fun j hj => by rw [hh]; dsimp only; rw [if_neg (by omega)]) (by rw [hh]; simp) (fun j => by simp; omega) (N - 1) (by omega)
      rw [show N - 1 + 1 = N by omega] at this
      rw [this, hgof]
      unfold gRep
      rw [if_pos hneg, ← hz]
      congr 1; omega
    obtain ⟨N1, rfl⟩ : ∃ N1, N = N1 + 1 := ⟨N - 1, by omega⟩
    have hF1 : hF h F0.length (gof k).n (N1 + 1) = hF (fun _ => gof k) F0.length (gof k).n N1 ++ flw (gAgain (gof k)) (F0.length + N1 * (gof k).n) := by
      rw [hF, hF_congr N1 (h' := fun _ => gof k) (fun j hj => by rw [hh]; dsimp only; rw [if_neg (by omega)])]
      congr 1
      rw [hh]; dsimp only; rw [if_pos (by omega), hz, flw_again]
    refine ⟨fun s f l => s = S ++ (gof x).sets ∧ f = F0 ++ hF h F0.length (gof k).n (N1 + 1) ∧ l = (List.range (N1 + 1)).map fun j => pc (h j) (F0.length + j * (gof k).n), ?_, fun _ => ?_, fun hc => absurd (of_decide_eq_false hc) (by omega)⟩
    · rintro s f l ⟨rfl, rfl, hl⟩
      exact ⟨backward_60 l, rep_loop (x := x) (h := h) (N := N1 + 1) (S := S) hhn hroom2 (by omega) hl (by rw [hfe]) (by rw [hfe])⟩
    · have hwl : w64 ((((List.range (N1 + 1)).map fun i => pc (gof k) (F0.length + i * (gof k).n)).length : Int) - 1) = (N1 : Int) := by
        rw [List.length_map, List.length_range]; exact (w64_id (by omega) (by omega)).trans (by omega)
      have hgl : gd ((List.range (N1 + 1)).map fun i => pc (gof k) (F0.length + i * (gof k).n)) (N1 : Int) = pc (gof k) (F0.length + N1 * (gof k).n) := by
        rw [gd_nat (by simp)]; simp
      rw [hwl, hgl]
      have hlen : (F0 ++ hF (fun _ => gof k) F0.length (gof k).n N1).length = F0.length + N1 * (gof k).n := by rw [List.length_append, hF_len fun _ => rfl]
      have hmul : (N1 + 1) * (gof k).n = N1 * (gof k).n + (gof k).n := Nat.succ_mul _ _
      have hla := lst_len (gof k).n (gof k).last (F0.length + N1 * (gof k).n)
      have hlf := lst_len (gof k).n (gof k).first (F0.length + N1 * (gof k).n)
      have hlead := lead_ok (lst (gof k).n (gof k).last (F0.length + N1 * (gof k).n)) (lst (gof k).n (gof k).first (F0.length + N1 * (gof k).n)) { sets := S ++ (gof x).sets, follow := F0 ++ hF (fun _ => gof k) F0.length (gof k).n (N1 + 1) } (lst_ss _ _ _) (fun y hy => by
        obtain ⟨i, hi, _, rfl⟩ := lst_mem.1 hy
        simp only [List.length_append, hF_len fun _ => rfl]; omega) (by omega) (fun f hf => by
        rcases List.mem_append.1 hf with hf | hf
        · exact hroom.small f hf
        · exact hF_small (fun _ => by omega) _ f hf) (by omega)
      have hag := lead_again (F0 ++ hF (fun _ => gof k) F0.length (gof k).n N1) (gof k)
      rw [hlen, List.append_assoc, List.append_assoc] at hag
      have hag2 : leadF (F0 ++ hF (fun _ => gof k) F0.length (gof k).n (N1 + 1)) (lst (gof k).n (gof k).last (F0.length + N1 * (gof k).n)) (lst (gof k).n (gof k).first (F0.length + N1 * (gof k).n)) = F0 ++ hF h F0.length (gof k).n (N1 + 1) := by
        rw [hF1]; exact hag
      simp only [hag2] at hlead
      have hset : ∀ b : Bool, b = z.null → List.set ((List.range (N1 + 1)).map fun i => pc (gof k) (F0.length + i * (gof k).n)) (Int.toNat (N1 : Int)) { first := (pc (gof k) (F0.length + N1 * (gof k).n)).first, last := (pc (gof k) (F0.length + N1 * (gof k).n)).last, null := b } = (List.range (N1 + 1)).map fun j => pc (h j) (F0.length + j * (gof k).n) := by
        intro b hb
        rw [Int.toNat_natCast, map_range_set (by omega)]
        refine List.map_congr_left fun j hj => ?_
        rw [hh]; dsimp only
        by_cases e : j = N1
        · subst e
          rw [if_pos rfl, if_pos (by omega)]
          have e1 : z.first = (gof k).first := by rw [hz]; split <;> rfl
          have e2 : z.last = (gof k).last := by rw [hz]; split <;> rfl
          rw [hb]
          simp only [pc, hzn, e1, e2]
        · rw [if_neg e, if_neg (by omega)]
      have hll : ((List.range (N1 + 1)).map fun i => pc (gof k) (F0.length + i * (gof k).n)).length = N1 + 1 := by simp
      rw [hll]
      refine ⟨by omega, by omega, by omega, by omega, _, hlead, by omega, fun hn => ⟨fun _ => by omega, rfl, rfl, hset _ ?_⟩, fun hn => ⟨fun _ => by omega, rfl, rfl, hset _ ?_⟩⟩
      · have hn : (gof k).null = true := hn
        rw [hz]; split <;> simp [gMaybe, gAgain, hn]
      · have hn : (gof k).null = false := hn
        rw [hz]
        by_cases e : x.Lo = 0
        · rw [if_pos e, e]; rfl
        · rw [if_neg e]
          show (x.Lo == 0) = (gof k).null
          rw [hn]; simpa using e
  · -- from some times to others
    have hhi : 1 ≤ x.Hi ∧ x.Lo ≤ x.Hi := by omega
    have hfe : fromEnd (fun _ => gof k) (fun j : Nat => decide (x.Hi ≥ 0) && decide ((j : Int) ≥ x.Lo)) N N = gof x := by
      have := fromEnd_pos (h := fun _ => gof k) (g := gof k) (mb := fun j : Nat => decide (x.Hi ≥ 0) && decide ((j : Int) ≥ x.Lo)) (N := N) (L := x.Lo.toNat) (by omega) (fun _ => rfl) (fun j hj => by
        have : decide (x.Hi ≥ 0) = true := by simp; omega
        simp only [this, Bool.true_and, decide_eq_decide]; omega) N (Nat.le_refl _)
      rw [this, hgof]
      unfold gRep
      rw [if_neg hneg]
      congr 1
      · omega
      · congr 1; omega
    refine ⟨fun s f l => s = S ++ (gof x).sets ∧ f = F0 ++ hF (fun _ => gof k) F0.length (gof k).n N ∧ l = (List.range N).map fun j => pc (gof k) (F0.length + j * (gof k).n), ?_, fun hc => absurd (of_decide_eq_true hc) hneg, fun _ => ⟨rfl, rfl, rfl⟩⟩
    rintro s f l ⟨rfl, rfl, hl⟩
    exact ⟨backward_60 l, rep_loop (x := x) (h := fun _ => gof k) (N := N) (S := S) (fun _ => rfl) hroom2 (by omega) hl (by rw [hfe]) (by rw [hfe])⟩
end Go.Ev.Pl

set_option linter.unusedSimpArgs false
set_option linter.unusedVariables false
namespace Go.Ev.Pl
open Go Go.Ev
theorem pc_first (g : GA) (off : Nat) : (pc g off).first = lst g.n g.first off := rfl
theorem pc_last (g : GA) (off : Nat) : (pc g off).last = lst g.n g.last off := rfl
theorem pc_null (g : GA) (off : Nat) : (pc g off).null = g.null := rfl
theorem pre_n {f : GA → GA → GA} (hf : ∀ a b, (f a b).n = a.n + b.n) {z : GA} (hz : z.n = 0) {l : List api_Rx} {i : Nat} (h : i < l.length) :
    ((l.take i).foldl (fun o y => f o (gof y)) z).n + (gof l[i]).n ≤ (l.foldl (fun o y => f o (gof y)) z).n := by
  have e := foldl_n hf (l.take (i + 1)) z
  rw [foldl_take_succ h, hf] at e
  rw [e, foldl_n hf]
  have : (l.map fun y => (gof y).n).sum = ((l.take (i + 1)).map fun y => (gof y).n).sum + ((l.drop (i + 1)).map fun y => (gof y).n).sum := by
    rw [← List.sum_append, ← List.map_append, List.take_append_drop]
  omega
theorem piece_ok : ∀ x, Wf x → Rgt x → PieceOk x := by
  refine rxInd fun x ih hw hr => ?_
  obtain ⟨hl, hkw⟩ := (wf_eq x).1 hw
  obtain ⟨ho, hk⟩ := rgt_own hr
  intro F0 S hroom
  have hrm := hroom.room
  refine W_place_builder_piece x _ _ _ ⟨fun h => ?_, fun h2 => ⟨fun h => ?_, fun h3 => ⟨fun h => ?_, fun h4 => ⟨fun h => ?_, fun h5 => ?_⟩⟩⟩⟩
  · have h : x.Kind = 2 := by simpa using h
    have hg : gof x = gByte x.Set := by rw [gof_eq, if_pos h]
    rw [hg] at hrm ⊢
    have hrm : F0.length + 1 < 1000000 := hrm
    refine ⟨_, _, W_place_builder_place _ _ _ _ ⟨?_, ?_, rfl, rfl⟩, ?_, ?_⟩
    · have := hroom.same; simp only; omega
    · simp only; omega
    · have : lst 1 (fun i => i == 0) F0.length = [(S.length : Int)] := by
        rw [hroom.same]; simp [lst, List.range_succ]
      simp only [pc, gByte, this]
    · rfl
  · have h : x.Kind = 3 := by simpa using h
    have hg : gof x = x.Kids.foldl (fun o y => gCat o (gof y)) gEmpty := by rw [gof_eq]; simp [h]
    refine ⟨fun s f a b c t => ∃ i : Nat, t = i ∧ i ≤ x.Kids.length ∧ s = S ++ ((x.Kids.take i).foldl (fun o y => gCat o (gof y)) gEmpty).sets ∧ f = F0 ++ flw ((x.Kids.take i).foldl (fun o y => gCat o (gof y)) gEmpty) F0.length ∧ (⟨a, b, c⟩ : place_piece) = pc ((x.Kids.take i).foldl (fun o y => gCat o (gof y)) gEmpty) F0.length,
      fun _ _ _ _ _ t => (x.Kids.length - t).toNat, ⟨0, rfl, by omega, by simp [gEmpty], by simp [gEmpty, flw], rfl⟩, ?_⟩
    rintro s f a b c t ⟨i, rfl, hi, rfl, rfl, hp⟩
    refine ⟨fun ht => ?_, fun ht => ?_⟩
    · have ht : i < x.Kids.length := by simpa using ht
      have hm := List.getElem_mem ht
      obtain ⟨o, ho'⟩ : ∃ o, o = (x.Kids.take i).foldl (fun o y => gCat o (gof y)) gEmpty := ⟨_, rfl⟩
      have hn := pre_n (f := gCat) (fun _ _ => rfl) (z := gEmpty) rfl ht
      rw [← hg, ← ho'] at hn
      have hsucc := foldl_take_succ (f := fun o y => gCat o (gof y)) (b := gEmpty) ht
      rw [← ho'] at hsucc hp ⊢
      have hoc : Canon o := by
        rw [ho']
        have : ∀ (l : List api_Rx) (z : GA), Canon z → Canon (l.foldl (fun o y => gCat o (gof y)) z) := by
          intro l
          induction l with
          | nil => intro z h; exact h
          | cons y r ih2 => intro z h; exact ih2 _ (canon_cat h (canon_gof y))
        exact this _ _ canon_empty
      have hlen : (F0 ++ flw o F0.length).length = F0.length + o.n := by rw [List.length_append, flw_len]
      have hpk := ih _ hm (hkw _ hm) (hk _ hm) (F0 ++ flw o F0.length) (S ++ o.sets) ⟨by rw [hlen, List.length_append, hroom.same, hoc.sets], fun f hf => by
        rcases List.mem_append.1 hf with hf | hf
        · exact hroom.small f hf
        · exact flw_small _ _ (by omega) f hf, by rw [hlen]; omega⟩
      rw [hlen] at hpk
      have hcat := cat_ok F0 ((S ++ o.sets) ++ (gof x.Kids[i]).sets) o (gof x.Kids[i]) hroom.small (by omega) (by omega)
      have hw2 : w64 ((i : Int) + 1) = ((i + 1 : Nat) : Int) := w64_id (by omega) (by omega)
      rw [gd_nat ht, hp]
      refine ⟨by omega, by omega, _, _, hpk, _, _, hcat, ?_⟩
      rw [hw2]
      exact ⟨⟨i + 1, rfl, by omega, by rw [hsucc]; simp [gCat], by rw [hsucc], by rw [hsucc]⟩, by dsimp only; omega⟩
    · have : i = x.Kids.length := by have : ¬ i < x.Kids.length := by simpa using ht
                                     omega
      subst this
      rw [List.take_of_length_le (Nat.le_refl _), ← hg] at hp ⊢
      exact ⟨hp.symm, rfl⟩
  · have h : x.Kind = 4 := by simpa using h
    have hg : gof x = x.Kids.foldl (fun o y => gAlt o (gof y)) gNone := by rw [gof_eq]; simp [h]
    refine ⟨fun s f a b c t => ∃ i : Nat, t = i ∧ i ≤ x.Kids.length ∧ s = S ++ ((x.Kids.take i).foldl (fun o y => gAlt o (gof y)) gNone).sets ∧ f = F0 ++ flw ((x.Kids.take i).foldl (fun o y => gAlt o (gof y)) gNone) F0.length ∧ (⟨a, b, c⟩ : place_piece) = pc ((x.Kids.take i).foldl (fun o y => gAlt o (gof y)) gNone) F0.length,
      fun _ _ _ _ _ t => (x.Kids.length - t).toNat, ⟨0, rfl, by omega, by simp [gNone], by simp [gNone, flw], rfl⟩, ?_⟩
    rintro s f a b c t ⟨i, rfl, hi, rfl, rfl, hp⟩
    refine ⟨fun ht => ?_, fun ht => ?_⟩
    · have ht : i < x.Kids.length := by simpa using ht
      have hm := List.getElem_mem ht
      obtain ⟨o, ho'⟩ : ∃ o, o = (x.Kids.take i).foldl (fun o y => gAlt o (gof y)) gNone := ⟨_, rfl⟩
      have hn := pre_n (f := gAlt) (fun _ _ => rfl) (z := gNone) rfl ht
      rw [← hg, ← ho'] at hn
      have hsucc := foldl_take_succ (f := fun o y => gAlt o (gof y)) (b := gNone) ht
      rw [← ho'] at hsucc hp ⊢
      have hoc : Canon o := by
        rw [ho']
        have : ∀ (l : List api_Rx) (z : GA), Canon z → Canon (l.foldl (fun o y => gAlt o (gof y)) z) := by
          intro l
          induction l with
          | nil => intro z h; exact h
          | cons y r ih2 => intro z h; exact ih2 _ (canon_alt h (canon_gof y))
        exact this _ _ canon_none
      have hlen : (F0 ++ flw o F0.length).length = F0.length + o.n := by rw [List.length_append, flw_len]
      have hpk := ih _ hm (hkw _ hm) (hk _ hm) (F0 ++ flw o F0.length) (S ++ o.sets) ⟨by rw [hlen, List.length_append, hroom.same, hoc.sets], fun f hf => by
        rcases List.mem_append.1 hf with hf | hf
        · exact hroom.small f hf
        · exact flw_small _ _ (by omega) f hf, by rw [hlen]; omega⟩
      rw [hlen] at hpk
      have hw2 : w64 ((i : Int) + 1) = ((i + 1 : Nat) : Int) := w64_id (by omega) (by omega)
      rw [gd_nat ht]
      have hpa : a = lst o.n o.first F0.length := congrArg place_piece.first hp
      have hpb : b = lst o.n o.last F0.length := congrArg place_piece.last hp
      have hpc : c = o.null := congrArg place_piece.null hp
      have l1 := lst_len o.n o.first F0.length
      have l2 := lst_len o.n o.last F0.length
      have l3 := lst_len (gof x.Kids[i]).n (gof x.Kids[i]).first (F0.length + o.n)
      have l4 := lst_len (gof x.Kids[i]).n (gof x.Kids[i]).last (F0.length + o.n)
      refine ⟨by omega, by omega, _, _, hpk, _, join_ok _ _ (by rw [hpa]; omega) (by rw [pc_first]; omega), _, join_ok _ _ (by rw [hpb]; omega) (by rw [pc_last]; omega), ?_⟩
      rw [hw2]
      refine ⟨⟨i + 1, rfl, by omega, by rw [hsucc]; simp [gAlt], ?_, ?_⟩, by dsimp only; omega⟩
      · rw [hsucc, ← flw_alt, ← List.append_assoc]
      · rw [hsucc, hpa, hpb, hpc, pc_first, pc_last, pc_null, alt_first, alt_last]; rfl
    · have : i = x.Kids.length := by have : ¬ i < x.Kids.length := by simpa using ht
                                     omega
      subst this
      rw [List.take_of_length_le (Nat.le_refl _), ← hg] at hp ⊢
      exact ⟨hp.symm, rfl⟩
  · have h : x.Kind = 5 := by simpa using h
    exact ⟨_, _, rep_ok hr h hw (fun k hkm => ih k hkm (hkw k hkm) (hk k hkm)) F0 S hroom, rfl, rfl⟩
  · have h1 : x.Kind = 1 := by
      simp only [beq_eq_false_iff_ne, ne_eq] at h2 h3 h4 h5
      have := own_kind ho; omega
    have hg : gof x = gEmpty := by rw [gof_eq]; simp [h1]
    rw [hg]
    exact ⟨rfl, by simp [gEmpty, flw]⟩
def plc (g : GA) : api_Places := ⟨g.sets, lst g.n g.first 0, lst g.n g.last 0, flw g 0, g.null⟩
def noPl : api_Places := ⟨[], [], [], [], false⟩
theorem size_of_right {x : api_Rx} (h : rightB x = true) : Rgt x ∧ sizeN x ≤ 200 := by
  simp only [rightB, Bool.and_eq_true, decide_eq_true_eq] at h
  refine ⟨⟨20, h.1⟩, ?_⟩
  have := h.2.1
  simp only [sizeZ] at this; omega
theorem placeOf_ok (x : api_Rx) (hw : Wf x) : C_place_Of x (if rightB x = true then plc (gof x) else noPl) (if rightB x = true then 0 else 1) := by
  refine W_place_Of x _ _ ⟨_, rxRightAll_ok x hw, fun h => ?_, fun h => ?_⟩
  · have h : rightB x = false := by simpa using h
    rw [h]; exact ⟨rfl, rfl⟩
  · have h : rightB x = true := by simpa using h
    obtain ⟨hr, hs⟩ := size_of_right h
    have hn := gof_n x hr
    have := piece_ok x hw hr [] [] ⟨rfl, fun f hf => by simp at hf, by simp; omega⟩
    refine ⟨_, _, this, ?_, ?_⟩
    · rw [if_pos h]; simp [plc, pc]
    · rw [if_pos h]
end Go.Ev.Pl
