import Derived.Test.YtcenhboabgcjcaaA03
import Derived.Lib.RowBridge
set_option linter.unusedSimpArgs false
set_option linter.unusedVariables false
namespace Go.Ev
open Go Go.Proofs
set_option maxRecDepth 8000
set_option maxHeartbeats 1000000 in
theorem W_heckleref03_Size (x : api_Rx) (res : Int)
    (h : (((api_Rx.Kind x == (2 : Int)) = true → (res = 1)) ∧ ((api_Rx.Kind x == (2 : Int)) = false → (∃ J3 : Bool → Prop, (∀ (t9 : Bool), J3 t9 → (((t9) = true → (∃ (Inv14 : Int → Int → Prop) (mu15 : Int → Int → Nat), Inv14 0 0 ∧ (∀ (n : Int) (i : Int), Inv14 n i → (((decide (i < (↑(List.length (api_Rx.Kids x)) : Int))) = true → ((0 : Int) ≤ i) ∧ i < ↑(List.length (api_Rx.Kids x)) ∧ (∃ r0_2 : Int, C_heckleref03_Size (gd (api_Rx.Kids x) i) r0_2 ∧ (((decide (w64 (n + r0_2) > (1000000 : Int))) = true → (res = ((1000000 : Int)))) ∧ ((decide (w64 (n + r0_2) > (1000000 : Int))) = false → (Inv14 (w64 (n + r0_2)) (w64 (i + 1)) ∧ mu15 (w64 (n + r0_2)) (w64 (i + 1)) < mu15 n i))))) ∧ ((decide (i < (↑(List.length (api_Rx.Kids x)) : Int))) = false → (∃ J22 : Int → Prop, (∀ (n_1 : Int), J22 n_1 → (res = (if false = true then if (1000000 : Int) > n_1 then (1000000 : Int) else n_1 else if (1000000 : Int) < n_1 then (1000000 : Int) else n_1))) ∧ (((api_Rx.Kind x == (5 : Int)) = true → J22 (w64 (n * if (if false = true then if (if api_Rx.Hi x > api_Rx.Lo x then api_Rx.Hi x else api_Rx.Lo x) > (1000 : Int) then if api_Rx.Hi x > api_Rx.Lo x then api_Rx.Hi x else api_Rx.Lo x else (1000 : Int) else if (if api_Rx.Hi x > api_Rx.Lo x then api_Rx.Hi x else api_Rx.Lo x) < (1000 : Int) then if api_Rx.Hi x > api_Rx.Lo x then api_Rx.Hi x else api_Rx.Lo x else (1000 : Int)) > (1 : Int) then if false = true then if (if api_Rx.Hi x > api_Rx.Lo x then api_Rx.Hi x else api_Rx.Lo x) > (1000 : Int) then if api_Rx.Hi x > api_Rx.Lo x then api_Rx.Hi x else api_Rx.Lo x else (1000 : Int) else if (if api_Rx.Hi x > api_Rx.Lo x then api_Rx.Hi x else api_Rx.Lo x) < (1000 : Int) then if api_Rx.Hi x > api_Rx.Lo x then api_Rx.Hi x else api_Rx.Lo x else (1000 : Int) else (1 : Int)))) ∧ ((api_Rx.Kind x == (5 : Int)) = false → J22 n)))))))) ∧ ((t9) = false → (res = 0)))) ∧ (((api_Rx.Kind x == (3 : Int)) = true → J3 (api_Rx.Kind x == (3 : Int))) ∧ ((api_Rx.Kind x == (3 : Int)) = false → (((api_Rx.Kind x == (4 : Int)) = true → J3 (api_Rx.Kind x == (4 : Int))) ∧ ((api_Rx.Kind x == (4 : Int)) = false → J3 (api_Rx.Kind x == (5 : Int)))))))))) : C_heckleref03_Size x res := by
  unfold C_heckleref03_Size
  have kk := cfOk [] 44
  refine fD (x := bodyOf Try.f12) kk Try.func12 ?_
  refine wkS [1] [(1, av_api_Rx x)] (by kernel_rfl) ?_
  refine sD kk [] [1] [(4, .ptr 5 0), (5, av_api_Rx x)] obN ?_
  refine qD ?_
  refine sD kk [] [] [(19, vi (api_Rx.Kind x))] obN ?_
  refine bD (id := 0) ?_
  refine sD kk [] [] [(22, vB (api_Rx.Kind x == (2 : Int)))] obN ?_
  refine cD (t := 7) (b := api_Rx.Kind x == (2 : Int)) (fun hb0 => ?_) (fun hb0 => ?_)
  · have h := h.1 hb0
    refine sD kk [] [4, 5, 19, 22] [(7, vi 1)] obN ?_
    refine tD ?_
    obtain he0 := h
    subst res
    exact (endD [] (vi 1) []).1
  · have h := h.2 hb0
    obtain ⟨J3, hJ3, h⟩ := h
    refine sjD (fun (q : Bool) => J3 q) (fun (q : Bool) => (fun (t9 : Bool) => ([(4, .ptr 5 0), (5, av_api_Rx x), (28, vB t9)] : Sta)) q) ?_ ?_
    · rintro t9 hj
      have h := hJ3 t9 hj
      refine cD (t := 9) (b := t9) (fun hb4 => ?_) (fun hb4 => ?_)
      · have h := h.1 hb4
        refine sD kk [] [28] [(10, vi 0)] obN ?_
        refine qD ?_
        refine sD kk [] [] [(13, vi 0)] obN ?_
        refine bD (id := 1) ?_
        obtain ⟨Inv14, mu15, h0Inv14, hInv14⟩ := h
        refine loD (fun (q : Int × Int) => (fun (n : Int) (i : Int) => ([(4, .ptr 5 0), (5, av_api_Rx x), (10, vi n), (13, vi i)] : Sta)) q.1 q.2) (fun (q : Int × Int) => Inv14 q.1 q.2) (fun (q : Int × Int) => mu15 q.1 q.2) (0, 0) [] h0Inv14 ?_
        rintro ⟨n, i⟩ hi
        have h := hInv14 n i hi
        refine qD ?_
        refine sDE kk [] [] [(52, vB (decide (i < (↑(List.length (List.map enc_api_Rx (api_Rx.Kids x))) : Int))))] [(52, vB (decide (i < (↑(List.length (api_Rx.Kids x)) : Int))))] obN ?_
        refine cD (t := 17) (b := decide (i < (↑(List.length (api_Rx.Kids x)) : Int))) (fun hb16 => ?_) (fun hb16 => ?_)
        · have h := h.1 hb16
          refine Sem.skip' (by kernel_rfl) Wk.refl ?_
          show Sem _ _ _ _ _
          refine wkD [52] ?_
          refine qD ?_
          refine bD (id := 2) ?_
          obtain ⟨h17, h⟩ := h
          obtain ⟨h18, h⟩ := h
          obtain ⟨r0_2, hc19, h⟩ := h
          refine sD kk [.e (fv_api_Rx (gd (api_Rx.Kids x) i)), .c (vi r0_2) []] [] [(10, vi (w64 (n + r0_2)))] (obC h17 (obC (idx_ok enc_api_Rx (api_Rx.Kids x) i _ (enc_api_Rx_eq _) h17 h18) (obC hc19 obN))) ?_
          refine sD kk [] [] [(88, vB (decide (w64 (n + r0_2) > (1000000 : Int))))] obN ?_
          refine cD (t := 29) (b := decide (w64 (n + r0_2) > (1000000 : Int))) (fun hb20 => ?_) (fun hb20 => ?_)
          · have h := h.1 hb20
            refine sD kk [] [4, 5, 10, 13, 88] [(7, vi ((1000000 : Int)))] obN ?_
            refine tD ?_
            obtain he0 := h
            subst res
            exact (endD [] (vi ((1000000 : Int))) []).1
          · have h := h.2 hb20
            refine Sem.skip' (by kernel_rfl) Wk.refl ?_
            show Sem _ _ _ _ _
            refine wkD [88] ?_
            refine rD kk [] [] [(13, vi (w64 (i + 1)))] obN ?_
            exact lD ((w64 (n + r0_2)), (w64 (i + 1))) [] h
        · have h := h.2 hb16
          refine xD (i := 1) ?_
          show Sem _ _ _ _ _
          refine wkD [13, 52] ?_
          obtain ⟨J22, hJ22, h⟩ := h
          refine sjD (fun (q : Int) => J22 q) (fun (q : Int) => (fun (n_1 : Int) => ([(10, vi n_1)] : Sta)) q) ?_ ?_
          · rintro n_1 hj
            have h := hJ22 n_1 hj
            refine sD kk [] [10] [(7, vi (if false = true then if (1000000 : Int) > n_1 then (1000000 : Int) else n_1 else if (1000000 : Int) < n_1 then (1000000 : Int) else n_1))] obN ?_
            refine tD ?_
            obtain he0 := h
            subst res
            exact (endD [] (vi (if false = true then if (1000000 : Int) > n_1 then (1000000 : Int) else n_1 else if (1000000 : Int) < n_1 then (1000000 : Int) else n_1)) []).1
          · refine sD kk [] [] [(97, vB (api_Rx.Kind x == (5 : Int)))] obN ?_
            refine cD (t := 32) (b := api_Rx.Kind x == (5 : Int)) (fun hb23 => ?_) (fun hb23 => ?_)
            · have h := h.1 hb23
              refine rDE kk [] [4, 5, 97] [(10, vi (w64 (n * if true = true then if (if false = true then if (if true = true then if api_Rx.Hi x > api_Rx.Lo x then api_Rx.Hi x else api_Rx.Lo x else if api_Rx.Hi x < api_Rx.Lo x then api_Rx.Hi x else api_Rx.Lo x) > (1000 : Int) then if true = true then if api_Rx.Hi x > api_Rx.Lo x then api_Rx.Hi x else api_Rx.Lo x else if api_Rx.Hi x < api_Rx.Lo x then api_Rx.Hi x else api_Rx.Lo x else (1000 : Int) else if (if true = true then if api_Rx.Hi x > api_Rx.Lo x then api_Rx.Hi x else api_Rx.Lo x else if api_Rx.Hi x < api_Rx.Lo x then api_Rx.Hi x else api_Rx.Lo x) < (1000 : Int) then if true = true then if api_Rx.Hi x > api_Rx.Lo x then api_Rx.Hi x else api_Rx.Lo x else if api_Rx.Hi x < api_Rx.Lo x then api_Rx.Hi x else api_Rx.Lo x else (1000 : Int)) > (1 : Int) then if false = true then if (if true = true then if api_Rx.Hi x > api_Rx.Lo x then api_Rx.Hi x else api_Rx.Lo x else if api_Rx.Hi x < api_Rx.Lo x then api_Rx.Hi x else api_Rx.Lo x) > (1000 : Int) then if true = true then if api_Rx.Hi x > api_Rx.Lo x then api_Rx.Hi x else api_Rx.Lo x else if api_Rx.Hi x < api_Rx.Lo x then api_Rx.Hi x else api_Rx.Lo x else (1000 : Int) else if (if true = true then if api_Rx.Hi x > api_Rx.Lo x then api_Rx.Hi x else api_Rx.Lo x else if api_Rx.Hi x < api_Rx.Lo x then api_Rx.Hi x else api_Rx.Lo x) < (1000 : Int) then if true = true then if api_Rx.Hi x > api_Rx.Lo x then api_Rx.Hi x else api_Rx.Lo x else if api_Rx.Hi x < api_Rx.Lo x then api_Rx.Hi x else api_Rx.Lo x else (1000 : Int) else (1 : Int) else if (if false = true then if (if true = true then if api_Rx.Hi x > api_Rx.Lo x then api_Rx.Hi x else api_Rx.Lo x else if api_Rx.Hi x < api_Rx.Lo x then api_Rx.Hi x else api_Rx.Lo x) > (1000 : Int) then if true = true then if api_Rx.Hi x > api_Rx.Lo x then api_Rx.Hi x else api_Rx.Lo x else if api_Rx.Hi x < api_Rx.Lo x then api_Rx.Hi x else api_Rx.Lo x else (1000 : Int) else if (if true = true then if api_Rx.Hi x > api_Rx.Lo x then api_Rx.Hi x else api_Rx.Lo x else if api_Rx.Hi x < api_Rx.Lo x then api_Rx.Hi x else api_Rx.Lo x) < (1000 : Int) then if true = true then if api_Rx.Hi x > api_Rx.Lo x then api_Rx.Hi x else api_Rx.Lo x else if api_Rx.Hi x < api_Rx.Lo x then api_Rx.Hi x else api_Rx.Lo x else (1000 : Int)) < (1 : Int) then if false = true then if (if true = true then if api_Rx.Hi x > api_Rx.Lo x then api_Rx.Hi x else api_Rx.Lo x else if api_Rx.Hi x < api_Rx.Lo x then api_Rx.Hi x else api_Rx.Lo x) > (1000 : Int) then if true = true then if api_Rx.Hi x > api_Rx.Lo x then api_Rx.Hi x else api_Rx.Lo x else if api_Rx.Hi x < api_Rx.Lo x then api_Rx.Hi x else api_Rx.Lo x else (1000 : Int) else if (if true = true then if api_Rx.Hi x > api_Rx.Lo x then api_Rx.Hi x else api_Rx.Lo x else if api_Rx.Hi x < api_Rx.Lo x then api_Rx.Hi x else api_Rx.Lo x) < (1000 : Int) then if true = true then if api_Rx.Hi x > api_Rx.Lo x then api_Rx.Hi x else api_Rx.Lo x else if api_Rx.Hi x < api_Rx.Lo x then api_Rx.Hi x else api_Rx.Lo x else (1000 : Int) else (1 : Int))))] [(10, vi (w64 (n * if (if false = true then if (if api_Rx.Hi x > api_Rx.Lo x then api_Rx.Hi x else api_Rx.Lo x) > (1000 : Int) then if api_Rx.Hi x > api_Rx.Lo x then api_Rx.Hi x else api_Rx.Lo x else (1000 : Int) else if (if api_Rx.Hi x > api_Rx.Lo x then api_Rx.Hi x else api_Rx.Lo x) < (1000 : Int) then if api_Rx.Hi x > api_Rx.Lo x then api_Rx.Hi x else api_Rx.Lo x else (1000 : Int)) > (1 : Int) then if false = true then if (if api_Rx.Hi x > api_Rx.Lo x then api_Rx.Hi x else api_Rx.Lo x) > (1000 : Int) then if api_Rx.Hi x > api_Rx.Lo x then api_Rx.Hi x else api_Rx.Lo x else (1000 : Int) else if (if api_Rx.Hi x > api_Rx.Lo x then api_Rx.Hi x else api_Rx.Lo x) < (1000 : Int) then if api_Rx.Hi x > api_Rx.Lo x then api_Rx.Hi x else api_Rx.Lo x else (1000 : Int) else (1 : Int))))] obN ?_
              exact jD (w64 (n * if (if false = true then if (if api_Rx.Hi x > api_Rx.Lo x then api_Rx.Hi x else api_Rx.Lo x) > (1000 : Int) then if api_Rx.Hi x > api_Rx.Lo x then api_Rx.Hi x else api_Rx.Lo x else (1000 : Int) else if (if api_Rx.Hi x > api_Rx.Lo x then api_Rx.Hi x else api_Rx.Lo x) < (1000 : Int) then if api_Rx.Hi x > api_Rx.Lo x then api_Rx.Hi x else api_Rx.Lo x else (1000 : Int)) > (1 : Int) then if false = true then if (if api_Rx.Hi x > api_Rx.Lo x then api_Rx.Hi x else api_Rx.Lo x) > (1000 : Int) then if api_Rx.Hi x > api_Rx.Lo x then api_Rx.Hi x else api_Rx.Lo x else (1000 : Int) else if (if api_Rx.Hi x > api_Rx.Lo x then api_Rx.Hi x else api_Rx.Lo x) < (1000 : Int) then if api_Rx.Hi x > api_Rx.Lo x then api_Rx.Hi x else api_Rx.Lo x else (1000 : Int) else (1 : Int))) [] h
            · have h := h.2 hb23
              refine Sem.skip' (by kernel_rfl) Wk.refl ?_
              exact jD n [] h
      · have h := h.2 hb4
        refine Sem.skip' (by kernel_rfl) Wk.refl ?_
        show Sem _ _ _ _ _
        refine wkD [4, 5, 28] ?_
        refine sD kk [] [] [(7, vi 0)] obN ?_
        refine tD ?_
        obtain he0 := h
        subst res
        exact (endD [] (vi 0) []).1
    · refine sD kk [] [22] [(28, vB (api_Rx.Kind x == (3 : Int)))] obN ?_
      refine cD (t := 9) (b := api_Rx.Kind x == (3 : Int)) (fun hb24 => ?_) (fun hb24 => ?_)
      · have h := h.1 hb24
        refine Sem.skip' (by kernel_rfl) Wk.refl ?_
        exact jD (api_Rx.Kind x == (3 : Int)) [] h
      · have h := h.2 hb24
        refine sD kk [] [] [(28, vB (api_Rx.Kind x == (4 : Int)))] obN ?_
        refine cD (t := 9) (b := api_Rx.Kind x == (4 : Int)) (fun hb25 => ?_) (fun hb25 => ?_)
        · have h := h.1 hb25
          refine Sem.skip' (by kernel_rfl) Wk.refl ?_
          exact jD (api_Rx.Kind x == (4 : Int)) [] h
        · have h := h.2 hb25
          refine rD kk [] [19] [(28, vB (api_Rx.Kind x == (5 : Int)))] obN ?_
          exact jD (api_Rx.Kind x == (5 : Int)) [] h
set_option maxHeartbeats 1000000 in
theorem W_heckleref03_Right (x : api_Rx) (res : Bool)
    (h : (∃ r0 : Bool, C_heckleref03_right x 20 r0 ∧ (((r0) = true → (∃ r0_1 : Int, C_heckleref03_Size x r0_1 ∧ (((decide (r0_1 ≤ (200 : Int))) = true → (∃ r0_2 : Int, C_heckleref03_Nodes x ((1000 : Int)) r0_2 ∧ (res = (decide (r0_2 ≥ (0 : Int)))))) ∧ ((decide (r0_1 ≤ (200 : Int))) = false → (res = false))))) ∧ ((r0) = false → (res = false))))) : C_heckleref03_Right x res := by
  unfold C_heckleref03_Right
  have kk := cfOk [] 15
  refine fD (x := bodyOf Try.f29) kk Try.func29 ?_
  refine wkS [1] [(1, av_api_Rx x)] (by kernel_rfl) ?_
  refine sD kk [] [1] [(4, .ptr 5 0), (5, av_api_Rx x)] obN ?_
  obtain ⟨r0, hc0, h⟩ := h
  rcases Bool.eq_false_or_eq_true (r0) with hb1 | hb1
  · have h := h.1 hb1
    obtain ⟨r0_1, hc2, h⟩ := h
    rcases Bool.eq_false_or_eq_true (decide (r0_1 ≤ (200 : Int))) with hb3 | hb3
    · have h := h.1 hb3
      obtain ⟨r0_2, hc4, h⟩ := h
      refine sD kk [.c (vB r0) [], .b true, .b true, .c (vi r0_1) [], .b true, .b true, .b true, .b true, .c (vi r0_2) [], .b true, .b true] [4, 5] [(7, vB (decide (r0_2 ≥ (0 : Int))))] (obC hc0 (obC (gtt hb1) (obC (gtt hb1) (obC hc2 (obC (gtt hb1) (obC hb1 (obC (gtt hb3) (obC (gtt hb3) (obC hc4 (obC (gtt hb3) (obC hb3 obN))))))))))) ?_
      refine tD ?_
      obtain he0 := h
      subst res
      exact (endD [] (vB (decide (r0_2 ≥ (0 : Int)))) []).1
    · have h := h.2 hb3
      refine sD kk [.c (vB r0) [], .b true, .b true, .c (vi r0_1) [], .b true, .b true, .b false, .b false, .b false, .b false] [4, 5] [(7, vB false)] (obC hc0 (obC (gtt hb1) (obC (gtt hb1) (obC hc2 (obC (gtt hb1) (obC hb1 (obC (gtf hb3) (obC (gtf hb3) (obC (gtf hb3) (obC hb3 obN)))))))))) ?_
      refine tD ?_
      obtain he0 := h
      subst res
      exact (endD [] (vB false) []).1
  · have h := h.2 hb1
    refine sD kk [.c (vB r0) [], .b false, .b false, .b false, .b false, .b false, .b false, .b false, .b false] [4, 5] [(7, vB false)] (obC hc0 (obC (gtf hb1) (obC (gtf hb1) (obC (gtf hb1) (obC hb1 (obC (rfl : false = false) (obC (rfl : false = false) (obC (rfl : false = false) (obC (rfl : false = false) obN))))))))) ?_
    refine tD ?_
    obtain he0 := h
    subst res
    exact (endD [] (vB false) []).1
set_option maxHeartbeats 1000000 in
theorem W_heckleref09_empty (res : api_Places)
    (h : (res = ({ Sets := [], First := [], Last := [], Follow := [], Null := true }))) : C_heckleref09_empty res := by
  unfold C_heckleref09_empty
  have kk := cfOk [] 2
  refine fD (x := bodyOf Try.f46) kk Try.func46 ?_
  refine wkS [] [] (by kernel_rfl) ?_
  refine sDE kk [] [] [(1, .ptr 2 0), (2, .agg [.own 24 ([]), .own 3 ([]), .own 3 ([]), .own 37 ([]), vB false])] [(1, .ptr 2 0), (2, .agg [oL 24 enc_arr4_uint64 ([]), oL 3 enc_i64 ([]), oL 3 enc_i64 ([]), oL 37 encs_i64 ([]), vB false])] obN ?_
  refine sDE kk [] [] [(2, .agg [.own 24 ([]), .own 3 ([]), .own 3 ([]), .own 37 ([]), vB true])] [(2, .agg [oL 24 enc_arr4_uint64 ([]), oL 3 enc_i64 ([]), oL 3 enc_i64 ([]), oL 37 encs_i64 ([]), vB true])] obN ?_
  refine tD ?_
  obtain he0 := h
  subst res
  exact (endD [] (.agg [oL 24 enc_arr4_uint64 ([]), oL 3 enc_i64 ([]), oL 3 enc_i64 ([]), oL 37 encs_i64 ([]), vB true]) []).1
set_option maxHeartbeats 1000000 in
theorem W_heckleref09_moved (l : (List Int)) (by0 : Int) (res : (List Int))
    (h : (∃ (Inv6 : List Int → Int → Prop) (mu7 : List Int → Int → Nat), Inv6 ([]) 0 ∧ (∀ (out : List Int) (i : Int), Inv6 out i → (((decide (i < (↑(List.length l) : Int))) = true → ((0 : Int) ≤ i) ∧ i < ↑(List.length l) ∧ ((List.length out + (1 : Nat)) * (8 : Nat) ≤ (2 : Nat) ^ (47 : Nat)) ∧ (Inv6 (out ++ [w64 (gd l i + by0)]) (w64 (i + 1)) ∧ mu7 (out ++ [w64 (gd l i + by0)]) (w64 (i + 1)) < mu7 out i)) ∧ ((decide (i < (↑(List.length l) : Int))) = false → (res = out)))))) : C_heckleref09_moved l by0 res := by
  unfold C_heckleref09_moved
  have kk := cfOk [22] 23
  refine fD (x := bodyOf Try.f66) kk Try.func66 ?_
  refine wkS [1, 4] [(1, vL enc_i64 l), (4, vi by0)] (by kernel_rfl) ?_
  refine sD kk [] [] [] obN ?_
  refine sDE kk [] [] [(16, .own 3 ([]))] [(16, oL 3 enc_i64 ([]))] obN ?_
  refine qD ?_
  refine sD kk [] [] [(19, vi 0)] obN ?_
  refine bD (id := 0) ?_
  obtain ⟨Inv6, mu7, h0Inv6, hInv6⟩ := h
  refine loD (fun (q : List Int × Int) => (fun (out : List Int) (i : Int) => ([(1, vL enc_i64 l), (4, vi by0), (16, oL 3 enc_i64 out), (19, vi i)] : Sta)) q.1 q.2) (fun (q : List Int × Int) => Inv6 q.1 q.2) (fun (q : List Int × Int) => mu7 q.1 q.2) (([]), 0) [] h0Inv6 ?_
  rintro ⟨out, i⟩ hi
  have h := hInv6 out i hi
  refine qD ?_
  refine sDE kk [] [] [(31, vB (decide (i < (↑(List.length (List.map enc_i64 l)) : Int))))] [(31, vB (decide (i < (↑(List.length l) : Int))))] obN ?_
  refine cD (t := 10) (b := decide (i < (↑(List.length l) : Int))) (fun hb8 => ?_) (fun hb8 => ?_)
  · have h := h.1 hb8
    refine Sem.skip' (by kernel_rfl) Wk.refl ?_
    show Sem _ _ _ _ _
    refine wkD [31] ?_
    refine qD ?_
    refine bD (id := 1) ?_
    obtain ⟨h9, h⟩ := h
    obtain ⟨h10, h⟩ := h
    obtain ⟨h11, h⟩ := h
    refine rDE kk [.e (fi (gd l i))] [] [(16, .own 3 (List.map enc_i64 out ++ List.take (List.length [FV.pv (Value.int IntKind.i64 (w64 (gd l i + by0)))]) (List.drop (0 : Nat) [FV.pv (Value.int IntKind.i64 (w64 (gd l i + by0)))])))] [(16, oL 3 enc_i64 (out ++ [w64 (gd l i + by0)]))] (obC h9 (obC (idx_ok enc_i64 l i _ rfl h9 h10) (obC (show (0 : Nat) = (0 : Nat) ∧ List.length (List.map enc_i64 out) = List.length (List.map enc_i64 out) from by first | decide | rfl | trivial | (simp only [nm] <;> first | decide | rfl | omega)) (obC (show (List.length (List.map enc_i64 out) + List.length (List.take (1 : Nat) (List.drop (0 : Nat) [FV.pv (Value.int IntKind.i64 (w64 (gd l i + by0)))]))) * (8 : Nat) ≤ (2 : Nat) ^ (47 : Nat) from by simpa only [nm] using h11) (obC (show List.all (List.take (1 : Nat) (List.drop (0 : Nat) [FV.pv (Value.int IntKind.i64 (w64 (gd l i + by0)))])) (FV.fits (1 : Nat)) = true from by first | exact fits_i64 _ | rfl | simp [FV.fits, FV.size, FV.cells, FV.one, ]) obN))))) ?_
    show Sem _ _ _ _ _
    refine rD kk [] [] [(19, vi (w64 (i + 1)))] obN ?_
    exact lD ((out ++ [w64 (gd l i + by0)]), (w64 (i + 1))) [] h
  · have h := h.2 hb8
    refine xD (i := 0) ?_
    show Sem _ _ _ _ _
    refine wkD [1, 4, 19, 31] ?_
    refine sD kk [] [16] [(13, oL 3 enc_i64 out)] obN ?_
    refine tD ?_
    obtain he0 := h
    subst res
    exact (endD [] (oL 3 enc_i64 out) []).1
set_option maxHeartbeats 1000000 in
theorem W_heckleref09_both (a : api_Places) (b : api_Places) (res : api_Places)
    (h : (List.length (api_Places.Sets a) * (32 : Nat) ≤ (2 : Nat) ^ (47 : Nat)) ∧ ((List.length (api_Places.Sets a) + List.length (api_Places.Sets b)) * (32 : Nat) ≤ (2 : Nat) ^ (47 : Nat)) ∧ (∃ (Inv8 : List (List Int) → Int → Prop) (mu9 : List (List Int) → Int → Nat), Inv8 ([]) 0 ∧ (∀ (out_Follow : List (List Int)) (i : Int), Inv8 out_Follow i → (((decide (i < (↑(List.length (api_Places.Follow a)) : Int))) = true → ((0 : Int) ≤ i) ∧ i < ↑(List.length (api_Places.Follow a)) ∧ ((List.length out_Follow + (1 : Nat)) * (24 : Nat) ≤ (2 : Nat) ^ (47 : Nat)) ∧ (Inv8 (out_Follow ++ [gd (api_Places.Follow a) i]) (w64 (i + 1)) ∧ mu9 (out_Follow ++ [gd (api_Places.Follow a) i]) (w64 (i + 1)) < mu9 out_Follow i)) ∧ ((decide (i < (↑(List.length (api_Places.Follow a)) : Int))) = false → (∃ (Inv23 : List (List Int) → Int → Prop) (mu24 : List (List Int) → Int → Nat), Inv23 out_Follow 0 ∧ (∀ (out_Follow_1 : List (List Int)) (i_1 : Int), Inv23 out_Follow_1 i_1 → (((decide (i_1 < (↑(List.length (api_Places.Follow b)) : Int))) = true → ((0 : Int) ≤ i_1) ∧ i_1 < ↑(List.length (api_Places.Follow b)) ∧ (∃ r0_2 : List Int, C_heckleref09_moved (gd (api_Places.Follow b) i_1) ((↑(List.length (api_Places.Sets a)) : Int)) r0_2 ∧ ((List.length out_Follow_1 + (1 : Nat)) * (24 : Nat) ≤ (2 : Nat) ^ (47 : Nat)) ∧ (Inv23 (out_Follow_1 ++ [r0_2]) (w64 (i_1 + 1)) ∧ mu24 (out_Follow_1 ++ [r0_2]) (w64 (i_1 + 1)) < mu24 out_Follow_1 i_1))) ∧ ((decide (i_1 < (↑(List.length (api_Places.Follow b)) : Int))) = false → (res = ({ Sets := api_Places.Sets a ++ api_Places.Sets b, First := [], Last := [], Follow := out_Follow_1, Null := false }))))))))))) : C_heckleref09_both a b res := by
  unfold C_heckleref09_both
  have kk := cfOk [55] 56
  refine fD (x := bodyOf Try.f65) kk Try.func65 ?_
  refine wkS [1, 4] [(1, av_api_Places a), (4, av_api_Places b)] (by kernel_rfl) ?_
  refine sDE kk [] [1, 4] [(7, .ptr 8 0), (8, av_api_Places a), (10, .ptr 11 0), (11, av_api_Places b), (13, .ptr 14 0), (14, .agg [.own 24 ([]), .own 3 ([]), .own 3 ([]), .own 37 ([]), vB false])] [(7, .ptr 8 0), (8, av_api_Places a), (10, .ptr 11 0), (11, av_api_Places b), (13, .ptr 14 0), (14, .agg [oL 24 enc_arr4_uint64 ([]), oL 3 enc_i64 ([]), oL 3 enc_i64 ([]), oL 37 encs_i64 ([]), vB false])] obN ?_
  refine sDE kk [] [] [(16, vi ((↑(List.length (List.map enc_arr4_uint64 (api_Places.Sets a))) : Int)))] [(16, vi ((↑(List.length (api_Places.Sets a)) : Int)))] obN ?_
  obtain ⟨h0, h⟩ := h
  obtain ⟨h1, h⟩ := h
  refine sDE kk [] [] [(19, .ptr 20 0), (20, .agg [.f (FV.sl (List.take (List.length (List.map enc_arr4_uint64 (api_Places.Sets a) ++ List.map enc_arr4_uint64 (api_Places.Sets b))) (List.drop (0 : Nat) (List.map enc_arr4_uint64 (api_Places.Sets a) ++ List.map enc_arr4_uint64 (api_Places.Sets b))))), .own 3 ([]), .own 3 ([]), .own 37 ([]), vB false])] [(19, .ptr 20 0), (20, .agg [vL enc_arr4_uint64 (api_Places.Sets a ++ api_Places.Sets b), oL 3 enc_i64 ([]), oL 3 enc_i64 ([]), oL 37 encs_i64 ([]), vB false])] (obC (show ((0 : Nat) + List.length (List.map enc_arr4_uint64 (api_Places.Sets a))) * (32 : Nat) ≤ (2 : Nat) ^ (47 : Nat) from by simpa only [nm] using h0) (obC (show List.all (List.map enc_arr4_uint64 (api_Places.Sets a)) (FV.fits (4 : Nat)) = true from by first | exact fits_arr4_uint64 _ | rfl | simp [FV.fits, FV.size, FV.cells, FV.one, enc_arr4_uint64_eq]) (obC (show (List.length (List.map enc_arr4_uint64 (api_Places.Sets a)) + List.length (List.map enc_arr4_uint64 (api_Places.Sets b))) * (32 : Nat) ≤ (2 : Nat) ^ (47 : Nat) from by simpa only [nm] using h1) (obC (show List.all (List.map enc_arr4_uint64 (api_Places.Sets b)) (FV.fits (4 : Nat)) = true from by first | exact fits_arr4_uint64 _ | rfl | simp [FV.fits, FV.size, FV.cells, FV.one, enc_arr4_uint64_eq]) obN)))) ?_
  refine qD ?_
  refine sD kk [] [] [(22, vi 0)] obN ?_
  refine bD (id := 0) ?_
  obtain ⟨Inv8, mu9, h0Inv8, hInv8⟩ := h
  refine loD (fun (q : List (List Int) × Int) => (fun (out_Follow : List (List Int)) (i : Int) => ([(7, .ptr 8 0), (8, av_api_Places a), (10, .ptr 11 0), (11, av_api_Places b), (13, .ptr 14 0), (14, .agg [oL 24 enc_arr4_uint64 ([]), oL 3 enc_i64 ([]), oL 3 enc_i64 ([]), oL 37 encs_i64 ([]), vB false]), (16, vi ((↑(List.length (api_Places.Sets a)) : Int))), (19, .ptr 20 0), (20, .agg [vL enc_arr4_uint64 (api_Places.Sets a ++ api_Places.Sets b), oL 3 enc_i64 ([]), oL 3 enc_i64 ([]), oL 37 encs_i64 out_Follow, vB false]), (22, vi i)] : Sta)) q.1 q.2) (fun (q : List (List Int) × Int) => Inv8 q.1 q.2) (fun (q : List (List Int) × Int) => mu9 q.1 q.2) (([]), 0) [] h0Inv8 ?_
  rintro ⟨out_Follow, i⟩ hi
  have h := hInv8 out_Follow i hi
  refine qD ?_
  refine sDE kk [] [] [(70, vB (decide (i < (↑(List.length (List.map encs_i64 (api_Places.Follow a))) : Int))))] [(70, vB (decide (i < (↑(List.length (api_Places.Follow a)) : Int))))] obN ?_
  refine cD (t := 23) (b := decide (i < (↑(List.length (api_Places.Follow a)) : Int))) (fun hb10 => ?_) (fun hb10 => ?_)
  · have h := h.1 hb10
    refine Sem.skip' (by kernel_rfl) Wk.refl ?_
    show Sem _ _ _ _ _
    refine wkD [70] ?_
    refine qD ?_
    refine bD (id := 1) ?_
    obtain ⟨h11, h⟩ := h
    obtain ⟨h12, h⟩ := h
    obtain ⟨h13, h⟩ := h
    refine rDE kk [.e (fL enc_i64 (gd (api_Places.Follow a) i))] [] [(20, .agg [vL enc_arr4_uint64 (api_Places.Sets a ++ api_Places.Sets b), oL 3 enc_i64 ([]), oL 3 enc_i64 ([]), .own 37 (List.map encs_i64 out_Follow ++ List.take (List.length [FV.sl (List.map enc_i64 (gd (api_Places.Follow a) i))]) (List.drop (0 : Nat) [FV.sl (List.map enc_i64 (gd (api_Places.Follow a) i))])), vB false])] [(20, .agg [vL enc_arr4_uint64 (api_Places.Sets a ++ api_Places.Sets b), oL 3 enc_i64 ([]), oL 3 enc_i64 ([]), oL 37 encs_i64 (out_Follow ++ [gd (api_Places.Follow a) i]), vB false])] (obC h11 (obC (idx_ok encs_i64 (api_Places.Follow a) i _ rfl h11 h12) (obC (show (0 : Nat) = (0 : Nat) ∧ List.length (List.map encs_i64 out_Follow) = List.length (List.map encs_i64 out_Follow) from by first | decide | rfl | trivial | (simp only [nm] <;> first | decide | rfl | omega)) (obC (show (List.length (List.map encs_i64 out_Follow) + List.length (List.take (1 : Nat) (List.drop (0 : Nat) [FV.sl (List.map enc_i64 (gd (api_Places.Follow a) i))]))) * (24 : Nat) ≤ (2 : Nat) ^ (47 : Nat) from by simpa only [nm] using h13) (obC (show List.all (List.take (1 : Nat) (List.drop (0 : Nat) [FV.sl (List.map enc_i64 (gd (api_Places.Follow a) i))])) (FV.fits (1 : Nat)) = true from by first | exact fits_i64 _ | rfl | simp [FV.fits, FV.size, FV.cells, FV.one, enc_i64]) obN))))) ?_
    show Sem _ _ _ _ _
    refine rD kk [] [] [(22, vi (w64 (i + 1)))] obN ?_
    exact lD ((out_Follow ++ [gd (api_Places.Follow a) i]), (w64 (i + 1))) [] h
  · have h := h.2 hb10
    refine xD (i := 0) ?_
    show Sem _ _ _ _ _
    refine wkD [7, 8, 22, 70] ?_
    refine qD ?_
    refine sD kk [] [] [(25, vi 0)] obN ?_
    refine bD (id := 2) ?_
    obtain ⟨Inv23, mu24, h0Inv23, hInv23⟩ := h
    refine loD (fun (q : List (List Int) × Int) => (fun (out_Follow_1 : List (List Int)) (i_1 : Int) => ([(10, .ptr 11 0), (11, av_api_Places b), (13, .ptr 14 0), (14, .agg [oL 24 enc_arr4_uint64 ([]), oL 3 enc_i64 ([]), oL 3 enc_i64 ([]), oL 37 encs_i64 ([]), vB false]), (16, vi ((↑(List.length (api_Places.Sets a)) : Int))), (19, .ptr 20 0), (20, .agg [vL enc_arr4_uint64 (api_Places.Sets a ++ api_Places.Sets b), oL 3 enc_i64 ([]), oL 3 enc_i64 ([]), oL 37 encs_i64 out_Follow_1, vB false]), (25, vi i_1)] : Sta)) q.1 q.2) (fun (q : List (List Int) × Int) => Inv23 q.1 q.2) (fun (q : List (List Int) × Int) => mu24 q.1 q.2) (out_Follow, 0) [] h0Inv23 ?_
    rintro ⟨out_Follow_1, i_1⟩ hi
    have h := hInv23 out_Follow_1 i_1 hi
    refine qD ?_
    refine sDE kk [] [] [(121, vB (decide (i_1 < (↑(List.length (List.map encs_i64 (api_Places.Follow b))) : Int))))] [(121, vB (decide (i_1 < (↑(List.length (api_Places.Follow b)) : Int))))] obN ?_
    refine cD (t := 40) (b := decide (i_1 < (↑(List.length (api_Places.Follow b)) : Int))) (fun hb25 => ?_) (fun hb25 => ?_)
    · have h := h.1 hb25
      refine Sem.skip' (by kernel_rfl) Wk.refl ?_
      show Sem _ _ _ _ _
      refine wkD [121] ?_
      refine qD ?_
      refine bD (id := 3) ?_
      obtain ⟨h26, h⟩ := h
      obtain ⟨h27, h⟩ := h
      obtain ⟨r0_2, hc28, h⟩ := h
      obtain ⟨h29, h⟩ := h
      refine rDE kk [.e (fL enc_i64 (gd (api_Places.Follow b) i_1)), .c (oL 3 enc_i64 r0_2) []] [] [(20, .agg [vL enc_arr4_uint64 (api_Places.Sets a ++ api_Places.Sets b), oL 3 enc_i64 ([]), oL 3 enc_i64 ([]), .own 37 (List.map encs_i64 out_Follow_1 ++ List.take (List.length [FV.sl (List.take (List.length (List.map enc_i64 r0_2)) (List.drop (0 : Nat) (List.map enc_i64 r0_2)))]) (List.drop (0 : Nat) [FV.sl (List.take (List.length (List.map enc_i64 r0_2)) (List.drop (0 : Nat) (List.map enc_i64 r0_2)))])), vB false])] [(20, .agg [vL enc_arr4_uint64 (api_Places.Sets a ++ api_Places.Sets b), oL 3 enc_i64 ([]), oL 3 enc_i64 ([]), oL 37 encs_i64 (out_Follow_1 ++ [r0_2]), vB false])] (obC h26 (obC (idx_ok encs_i64 (api_Places.Follow b) i_1 _ rfl h26 h27) (obC hc28 (obC (show (0 : Nat) = (0 : Nat) ∧ List.length (List.map encs_i64 out_Follow_1) = List.length (List.map encs_i64 out_Follow_1) from by first | decide | rfl | trivial | (simp only [nm] <;> first | decide | rfl | omega)) (obC (show (List.length (List.map encs_i64 out_Follow_1) + List.length (List.take (1 : Nat) (List.drop (0 : Nat) [FV.sl (List.take (List.length (List.map enc_i64 r0_2)) (List.drop (0 : Nat) (List.map enc_i64 r0_2)))]))) * (24 : Nat) ≤ (2 : Nat) ^ (47 : Nat) from by simpa only [nm] using h29) (obC (show List.all (List.take (1 : Nat) (List.drop (0 : Nat) [FV.sl (List.take (List.length (List.map enc_i64 r0_2)) (List.drop (0 : Nat) (List.map enc_i64 r0_2)))])) (FV.fits (1 : Nat)) = true from by first | exact fits_i64 _ | rfl | simp [FV.fits, FV.size, FV.cells, FV.one, enc_i64]) obN)))))) ?_
      show Sem _ _ _ _ _
      refine rD kk [] [] [(25, vi (w64 (i_1 + 1)))] obN ?_
      exact lD ((out_Follow_1 ++ [r0_2]), (w64 (i_1 + 1))) [] h
    · have h := h.2 hb25
      refine xD (i := 2) ?_
      show Sem _ _ _ _ _
      refine wkD [10, 11, 16, 25, 121] ?_
      refine sD kk [] [19, 20] [(14, .agg [vL enc_arr4_uint64 (api_Places.Sets a ++ api_Places.Sets b), oL 3 enc_i64 ([]), oL 3 enc_i64 ([]), oL 37 encs_i64 out_Follow_1, vB false])] (obC (show (0 : Nat) = (0 : Nat) ∧ (0 : Nat) = List.length (List.map enc_i64 []) from by first | decide | rfl | trivial | (simp only [nm] <;> first | decide | rfl | omega)) (obC (show (0 : Nat) = (0 : Nat) ∧ (0 : Nat) = List.length (List.map enc_i64 []) from by first | decide | rfl | trivial | (simp only [nm] <;> first | decide | rfl | omega)) (obC (show (0 : Nat) = (0 : Nat) ∧ List.length (List.map encs_i64 out_Follow_1) = List.length (List.map encs_i64 out_Follow_1) from by first | decide | rfl | trivial | (simp only [nm] <;> first | decide | rfl | omega)) obN))) ?_
      refine tD ?_
      obtain he0 := h
      subst res
      exact (endD [] (.agg [vL enc_arr4_uint64 (api_Places.Sets a ++ api_Places.Sets b), oL 3 enc_i64 ([]), oL 3 enc_i64 ([]), oL 37 encs_i64 out_Follow_1, vB false]) []).1
set_option maxHeartbeats 1000000 in
theorem W_heckleref09_Add (a : (List Int)) (b : (List Int)) (res : (List Int))
    (h : (∃ (Inv38 : List Int → Int → Int → Prop) (mu39 : List Int → Int → Int → Nat), Inv38 ([]) 0 0 ∧ (∀ (out : List Int) (i : Int) (k : Int), Inv38 out i k → (((decide (i < (↑(List.length (List.map enc_i64 a)) : Int)) || decide (k < (↑(List.length b) : Int))) = true → ((k == (↑(List.length (List.map enc_i64 b)) : Int)) = false → ((decide (i < (↑(List.length (List.map enc_i64 a)) : Int))) = true → ((0 : Int) ≤ i))) ∧ ((k == (↑(List.length (List.map enc_i64 b)) : Int)) = false → ((decide (i < (↑(List.length (List.map enc_i64 a)) : Int))) = true → i < ↑(List.length a))) ∧ ((k == (↑(List.length (List.map enc_i64 b)) : Int)) = false → ((decide (i < (↑(List.length (List.map enc_i64 a)) : Int))) = true → ((0 : Int) ≤ k))) ∧ ((k == (↑(List.length (List.map enc_i64 b)) : Int)) = false → ((decide (i < (↑(List.length (List.map enc_i64 a)) : Int))) = true → k < ↑(List.length b))) ∧ (((k == (↑(List.length (List.map enc_i64 b)) : Int) || decide (i < (↑(List.length (List.map enc_i64 a)) : Int)) && decide (gd a i < gd b k)) = true → ((0 : Int) ≤ i) ∧ i < ↑(List.length a) ∧ ((List.length out + (1 : Nat)) * (8 : Nat) ≤ (2 : Nat) ^ (47 : Nat)) ∧ (Inv38 (out ++ [gd a i]) (w64 (i + 1)) k ∧ mu39 (out ++ [gd a i]) (w64 (i + 1)) k < mu39 out i k)) ∧ ((k == (↑(List.length (List.map enc_i64 b)) : Int) || decide (i < (↑(List.length (List.map enc_i64 a)) : Int)) && decide (gd a i < gd b k)) = false → ((i == (↑(List.length (List.map enc_i64 a)) : Int)) = false → ((0 : Int) ≤ k)) ∧ ((i == (↑(List.length (List.map enc_i64 a)) : Int)) = false → k < ↑(List.length b)) ∧ ((i == (↑(List.length (List.map enc_i64 a)) : Int)) = false → ((0 : Int) ≤ i)) ∧ ((i == (↑(List.length (List.map enc_i64 a)) : Int)) = false → i < ↑(List.length a)) ∧ (((i == (↑(List.length (List.map enc_i64 a)) : Int) || decide (gd b k < gd a i)) = true → ((0 : Int) ≤ k) ∧ k < ↑(List.length b) ∧ ((List.length out + (1 : Nat)) * (8 : Nat) ≤ (2 : Nat) ^ (47 : Nat)) ∧ (Inv38 (out ++ [gd b k]) i (w64 (k + 1)) ∧ mu39 (out ++ [gd b k]) i (w64 (k + 1)) < mu39 out i k)) ∧ ((i == (↑(List.length (List.map enc_i64 a)) : Int) || decide (gd b k < gd a i)) = false → ((0 : Int) ≤ i) ∧ i < ↑(List.length a) ∧ ((List.length out + (1 : Nat)) * (8 : Nat) ≤ (2 : Nat) ^ (47 : Nat)) ∧ (Inv38 (out ++ [gd a i]) (w64 (i + 1)) (w64 (k + 1)) ∧ mu39 (out ++ [gd a i]) (w64 (i + 1)) (w64 (k + 1)) < mu39 out i k)))))) ∧ ((decide (i < (↑(List.length (List.map enc_i64 a)) : Int)) || decide (k < (↑(List.length b) : Int))) = false → (res = out)))))) : C_heckleref09_Add a b res := by
  unfold C_heckleref09_Add
  have kk := cfOk [85] 86
  refine fD (x := bodyOf Try.f17) kk Try.func17 ?_
  refine wkS [1, 4] [(1, vL enc_i64 a), (4, vL enc_i64 b)] (by kernel_rfl) ?_
  refine sD kk [] [] [] obN ?_
  refine sDE kk [] [] [(16, .own 3 ([]))] [(16, oL 3 enc_i64 ([]))] obN ?_
  refine sD kk [] [] [(19, vi 0), (22, vi 0)] obN ?_
  refine qD ?_
  refine bD (id := 0) ?_
  obtain ⟨Inv38, mu39, h0Inv38, hInv38⟩ := h
  refine loD (fun (q : List Int × Int × Int) => (fun (out : List Int) (i : Int) (k : Int) => ([(1, vL enc_i64 a), (4, vL enc_i64 b), (16, oL 3 enc_i64 out), (19, vi i), (22, vi k)] : Sta)) q.1 q.2.1 q.2.2) (fun (q : List Int × Int × Int) => Inv38 q.1 q.2.1 q.2.2) (fun (q : List Int × Int × Int) => mu39 q.1 q.2.1 q.2.2) (([]), 0, 0) [] h0Inv38 ?_
  rintro ⟨out, i, k⟩ hi
  have h := hInv38 out i k hi
  refine qD ?_
  refine sM [] [(52, vB (decide (i < (↑(List.length (List.map enc_i64 a)) : Int)) || decide (k < (↑(List.length b) : Int))))] ?_ (fun hk0 => ?_)
  · refine cD (t := 17) (b := decide (i < (↑(List.length (List.map enc_i64 a)) : Int)) || decide (k < (↑(List.length b) : Int))) (fun hb41 => ?_) (fun hb41 => ?_)
    · have h := h.1 hb41
      refine Sem.skip' (by kernel_rfl) Wk.refl ?_
      show Sem _ _ _ _ _
      refine wkD [52] ?_
      refine bD (id := 1) ?_
      refine bD (id := 2) ?_
      obtain ⟨h44, h45, h46, h47, h⟩ := h
      refine sM [] [(88, vB (k == (↑(List.length (List.map enc_i64 b)) : Int) || decide (i < (↑(List.length (List.map enc_i64 a)) : Int)) && decide (gd a i < gd b k)))] ?_ (fun hk0 => ?_)
      · refine cD (t := 29) (b := k == (↑(List.length (List.map enc_i64 b)) : Int) || decide (i < (↑(List.length (List.map enc_i64 a)) : Int)) && decide (gd a i < gd b k)) (fun hb48 => ?_) (fun hb48 => ?_)
        · have h := h.1 hb48
          obtain ⟨h49, h⟩ := h
          obtain ⟨h50, h⟩ := h
          obtain ⟨h51, h⟩ := h
          refine sDE kk [.e (fi (gd a i))] [88] [(16, .own 3 (List.map enc_i64 out ++ List.take (List.length [FV.pv (Value.int IntKind.i64 (gd a i))]) (List.drop (0 : Nat) [FV.pv (Value.int IntKind.i64 (gd a i))])))] [(16, oL 3 enc_i64 (out ++ [gd a i]))] (obC h49 (obC (idx_ok enc_i64 a i _ rfl h49 h50) (obC (show (0 : Nat) = (0 : Nat) ∧ List.length (List.map enc_i64 out) = List.length (List.map enc_i64 out) from by first | decide | rfl | trivial | (simp only [nm] <;> first | decide | rfl | omega)) (obC (show (List.length (List.map enc_i64 out) + List.length (List.take (1 : Nat) (List.drop (0 : Nat) [FV.pv (Value.int IntKind.i64 (gd a i))]))) * (8 : Nat) ≤ (2 : Nat) ^ (47 : Nat) from by simpa only [nm] using h51) (obC (show List.all (List.take (1 : Nat) (List.drop (0 : Nat) [FV.pv (Value.int IntKind.i64 (gd a i))])) (FV.fits (1 : Nat)) = true from by first | exact fits_i64 _ | rfl | simp [FV.fits, FV.size, FV.cells, FV.one, ]) obN))))) ?_
          refine rD kk [] [] [(19, vi (w64 (i + 1)))] obN ?_
          exact lD ((out ++ [gd a i]), (w64 (i + 1)), k) [] h
        · have h := h.2 hb48
          obtain ⟨h53, h54, h55, h56, h⟩ := h
          refine sM [88] [(181, vB (i == (↑(List.length (List.map enc_i64 a)) : Int) || decide (gd b k < gd a i)))] ?_ (fun hk0 => ?_)
          · refine cD (t := 60) (b := i == (↑(List.length (List.map enc_i64 a)) : Int) || decide (gd b k < gd a i)) (fun hb57 => ?_) (fun hb57 => ?_)
            · have h := h.1 hb57
              obtain ⟨h58, h⟩ := h
              obtain ⟨h59, h⟩ := h
              obtain ⟨h60, h⟩ := h
              refine sDE kk [.e (fi (gd b k))] [181] [(16, .own 3 (List.map enc_i64 out ++ List.take (List.length [FV.pv (Value.int IntKind.i64 (gd b k))]) (List.drop (0 : Nat) [FV.pv (Value.int IntKind.i64 (gd b k))])))] [(16, oL 3 enc_i64 (out ++ [gd b k]))] (obC h58 (obC (idx_ok enc_i64 b k _ rfl h58 h59) (obC (show (0 : Nat) = (0 : Nat) ∧ List.length (List.map enc_i64 out) = List.length (List.map enc_i64 out) from by first | decide | rfl | trivial | (simp only [nm] <;> first | decide | rfl | omega)) (obC (show (List.length (List.map enc_i64 out) + List.length (List.take (1 : Nat) (List.drop (0 : Nat) [FV.pv (Value.int IntKind.i64 (gd b k))]))) * (8 : Nat) ≤ (2 : Nat) ^ (47 : Nat) from by simpa only [nm] using h60) (obC (show List.all (List.take (1 : Nat) (List.drop (0 : Nat) [FV.pv (Value.int IntKind.i64 (gd b k))])) (FV.fits (1 : Nat)) = true from by first | exact fits_i64 _ | rfl | simp [FV.fits, FV.size, FV.cells, FV.one, ]) obN))))) ?_
              refine rD kk [] [] [(22, vi (w64 (k + 1)))] obN ?_
              exact lD ((out ++ [gd b k]), i, (w64 (k + 1))) [] h
            · have h := h.2 hb57
              obtain ⟨h61, h⟩ := h
              obtain ⟨h62, h⟩ := h
              obtain ⟨h63, h⟩ := h
              refine sDE kk [.e (fi (gd a i))] [181] [(16, .own 3 (List.map enc_i64 out ++ List.take (List.length [FV.pv (Value.int IntKind.i64 (gd a i))]) (List.drop (0 : Nat) [FV.pv (Value.int IntKind.i64 (gd a i))])))] [(16, oL 3 enc_i64 (out ++ [gd a i]))] (obC h61 (obC (idx_ok enc_i64 a i _ rfl h61 h62) (obC (show (0 : Nat) = (0 : Nat) ∧ List.length (List.map enc_i64 out) = List.length (List.map enc_i64 out) from by first | decide | rfl | trivial | (simp only [nm] <;> first | decide | rfl | omega)) (obC (show (List.length (List.map enc_i64 out) + List.length (List.take (1 : Nat) (List.drop (0 : Nat) [FV.pv (Value.int IntKind.i64 (gd a i))]))) * (8 : Nat) ≤ (2 : Nat) ^ (47 : Nat) from by simpa only [nm] using h63) (obC (show List.all (List.take (1 : Nat) (List.drop (0 : Nat) [FV.pv (Value.int IntKind.i64 (gd a i))])) (FV.fits (1 : Nat)) = true from by first | exact fits_i64 _ | rfl | simp [FV.fits, FV.size, FV.cells, FV.one, ]) obN))))) ?_
              refine sD kk [] [] [(19, vi (w64 (i + 1)))] obN ?_
              refine rD kk [] [] [(22, vi (w64 (k + 1)))] obN ?_
              exact lD ((out ++ [gd a i]), (w64 (i + 1)), (w64 (k + 1))) [] h
          · rcases Bool.eq_false_or_eq_true (i == (↑(List.length (List.map enc_i64 a)) : Int)) with hb52 | hb52
            · refine sD kk [.b false, .b false, .b false, .b false, .b false, .b false, .b false, .b false, .b false, .b true] [88] [(181, vB true)] (obC (gff hb52) (obC (gff hb52) (obC (gff hb52) (obC (gff hb52) (obC (gff hb52) (obC (gff hb52) (obC (gff hb52) (obC (gff hb52) (obC (gff hb52) (obC hb52 obN)))))))))) ?_
              exact Sem.cast (by try rw [hb52]; kernel_rfl) hk0
            · refine sD kk [.b true, .b true, .b true, .e (fi (gd b k)), .b true, .b true, .b true, .b true, .e (fi (gd a i)), .b true, .b true, .b false] [88] [(181, vB (decide (gd b k < gd a i)))] (obC (gft hb52) (obC (gft hb52) (obC (gft hb52) (obC (h53 hb52) (obC (idx_ok enc_i64 b k _ rfl (h53 hb52) (h54 hb52)) (obC (gft hb52) (obC (gft hb52) (obC (gft hb52) (obC (gft hb52) (obC (h55 hb52) (obC (idx_ok enc_i64 a i _ rfl (h55 hb52) (h56 hb52)) (obC (gft hb52) (obC (gft hb52) (obC hb52 obN)))))))))))))) ?_
              exact Sem.cast (by try rw [hb52]; kernel_rfl) hk0
      · rcases Bool.eq_false_or_eq_true (k == (↑(List.length (List.map enc_i64 b)) : Int)) with hb42 | hb42
        · refine sD kk [.b false, .b false, .b false, .b false, .b false, .b false, .b true] [] [(88, vB true)] (obC (gff hb42) (obC (gff hb42) (obC (gff hb42) (obC (gff hb42) (obC (gff hb42) (obC (gff hb42) (obC hb42 obN))))))) ?_
          exact Sem.cast (by try rw [hb42]; kernel_rfl) hk0
        · rcases Bool.eq_false_or_eq_true (decide (i < (↑(List.length (List.map enc_i64 a)) : Int))) with hb43 | hb43
          · refine sD kk [.b true, .b true, .b true, .b true, .b true, .b true, .b true, .b true, .e (fi (gd a i)), .b true, .b true, .b true, .b true, .e (fi (gd b k)), .b true, .b true, .b true, .b true, .b false] [] [(88, vB (decide (gd a i < gd b k)))] (obC (gft hb42) (obC (gft hb42) (obC (gft hb42) (obC (gft hb42) (obC (gft hb42) (obC (gtt hb43) (obC (gtt hb43) (obC (gtt hb43) (obC ((h44 hb42) hb43) (obC (idx_ok enc_i64 a i _ rfl ((h44 hb42) hb43) ((h45 hb42) hb43)) (obC (gtt hb43) (obC (gtt hb43) (obC (gtt hb43) (obC (gtt hb43) (obC ((h46 hb42) hb43) (obC (idx_ok enc_i64 b k _ rfl ((h46 hb42) hb43) ((h47 hb42) hb43)) (obC (gtt hb43) (obC (gtt hb43) (obC (gft hb42) (obC hb43 (obC hb42 obN))))))))))))))))))))) ?_
            exact Sem.cast (by try rw [hb42]; try rw [hb43]; kernel_rfl) hk0
          · refine sD kk [.b true, .b true, .b true, .b true, .b true, .b false, .b false, .b false, .b false, .b false, .b false, .b false, .b false, .b false, .b true, .b false, .b false] [] [(88, vB false)] (obC (gft hb42) (obC (gft hb42) (obC (gft hb42) (obC (gft hb42) (obC (gft hb42) (obC (gtf hb43) (obC (gtf hb43) (obC (gtf hb43) (obC (gtf hb43) (obC (gtf hb43) (obC (gtf hb43) (obC (gtf hb43) (obC (gtf hb43) (obC (gtf hb43) (obC (gft hb42) (obC hb43 (obC hb42 obN))))))))))))))))) ?_
            exact Sem.cast (by try rw [hb42]; try rw [hb43]; kernel_rfl) hk0
    · have h := h.2 hb41
      refine xD (i := 0) ?_
      show Sem _ _ _ _ _
      refine wkD [1, 4, 19, 22, 52] ?_
      refine sD kk [] [16] [(13, oL 3 enc_i64 out)] obN ?_
      refine tD ?_
      obtain he0 := h
      subst res
      exact (endD [(13, 0)] (vL enc_i64 out) []).1
  · rcases Bool.eq_false_or_eq_true (decide (i < (↑(List.length (List.map enc_i64 a)) : Int))) with hb40 | hb40
    · refine sD kk [.b false, .b false, .b false, .b false, .b true] [] [(52, vB true)] (obC (gff hb40) (obC (gff hb40) (obC (gff hb40) (obC (gff hb40) (obC hb40 obN))))) ?_
      exact Sem.cast (by try rw [hb40]; kernel_rfl) hk0
    · refine sDE kk [.b true, .b true, .b true, .b true, .b false] [] [(52, vB (decide (k < (↑(List.length (List.map enc_i64 b)) : Int))))] [(52, vB (decide (k < (↑(List.length b) : Int))))] (obC (gft hb40) (obC (gft hb40) (obC (gft hb40) (obC (gft hb40) (obC hb40 obN))))) ?_
      exact Sem.cast (by try rw [hb40]; kernel_rfl) hk0
set_option maxHeartbeats 1000000 in
theorem W_heckleref09_cat (a : api_Places) (b : api_Places) (res : api_Places)
    (h : (∃ r0 : api_Places, C_heckleref09_both a b r0 ∧ (∃ r0_1 : List Int, C_heckleref09_moved (api_Places.First b) ((↑(List.length (api_Places.Sets a)) : Int)) r0_1 ∧ (∃ r0_2 : List Int, C_heckleref09_moved (api_Places.Last b) ((↑(List.length (api_Places.Sets a)) : Int)) r0_2 ∧ (∃ (Inv25 : List (List Int) → Int → Prop) (mu26 : List (List Int) → Int → Nat), Inv25 (api_Places.Follow r0) 0 ∧ (∀ (out_Follow : List (List Int)) (i : Int), Inv25 out_Follow i → (((decide (i < (↑(List.length (api_Places.Last a)) : Int))) = true → ((0 : Int) ≤ i) ∧ i < ↑(List.length (api_Places.Last a)) ∧ ((0 : Int) ≤ i) ∧ i < ↑(List.length (api_Places.Last a)) ∧ ((0 : Int) ≤ gd (api_Places.Last a) i) ∧ (Int.toNat (gd (api_Places.Last a) i) < List.length out_Follow) ∧ gd (api_Places.Last a) i < ↑(List.length out_Follow) ∧ (∃ r0_5 : List Int, C_heckleref09_Add (gd out_Follow (gd (api_Places.Last a) i)) r0_1 r0_5 ∧ ((0 : Int) ≤ gd (api_Places.Last a) i) ∧ (Int.toNat (gd (api_Places.Last a) i) < List.length out_Follow) ∧ gd (api_Places.Last a) i < ↑(List.length out_Follow) ∧ (Inv25 (List.set out_Follow (Int.toNat (gd (api_Places.Last a) i)) r0_5) (w64 (i + 1)) ∧ mu26 (List.set out_Follow (Int.toNat (gd (api_Places.Last a) i)) r0_5) (w64 (i + 1)) < mu26 out_Follow i))) ∧ ((decide (i < (↑(List.length (api_Places.Last a)) : Int))) = false → (∃ J41 : List Int → Prop, (∀ (out_First : List Int), J41 out_First → (∃ J44 : List Int → Prop, (∀ (out_Last : List Int), J44 out_Last → (res = ({ Sets := api_Places.Sets r0, First := out_First, Last := out_Last, Follow := out_Follow, Null := api_Places.Null a && api_Places.Null b }))) ∧ (((api_Places.Null b) = true → (∃ r0_8 : List Int, C_heckleref09_Add (api_Places.Last a) r0_2 r0_8 ∧ J44 r0_8)) ∧ ((api_Places.Null b) = false → J44 r0_2)))) ∧ (((api_Places.Null a) = true → (∃ r0_9 : List Int, C_heckleref09_Add (api_Places.First a) r0_1 r0_9 ∧ J41 r0_9)) ∧ ((api_Places.Null a) = false → J41 (api_Places.First a)))))))))))) : C_heckleref09_cat a b res := by
  unfold C_heckleref09_cat
  have kk := cfOk [76] 77
  refine fD (x := bodyOf Try.f47) kk Try.func47 ?_
  refine wkS [1, 4] [(1, av_api_Places a), (4, av_api_Places b)] (by kernel_rfl) ?_
  refine sDE kk [] [1, 4] [(7, .ptr 8 0), (8, av_api_Places a), (10, .ptr 11 0), (11, av_api_Places b), (13, .ptr 14 0), (14, .agg [.own 24 ([]), .own 3 ([]), .own 3 ([]), .own 37 ([]), vB false])] [(7, .ptr 8 0), (8, av_api_Places a), (10, .ptr 11 0), (11, av_api_Places b), (13, .ptr 14 0), (14, .agg [oL 24 enc_arr4_uint64 ([]), oL 3 enc_i64 ([]), oL 3 enc_i64 ([]), oL 37 encs_i64 ([]), vB false])] obN ?_
  refine sDE kk [] [] [(16, vi ((↑(List.length (List.map enc_arr4_uint64 (api_Places.Sets a))) : Int)))] [(16, vi ((↑(List.length (api_Places.Sets a)) : Int)))] obN ?_
  obtain ⟨r0, hc0, h⟩ := h
  refine sD kk [.c (.agg [vL enc_arr4_uint64 (api_Places.Sets r0), oL 3 enc_i64 (api_Places.First r0), oL 3 enc_i64 (api_Places.Last r0), oL 37 encs_i64 (api_Places.Follow r0), vB (api_Places.Null r0)]) []] [] [(19, .ptr 20 0), (20, .agg [vL enc_arr4_uint64 (api_Places.Sets r0), oL 3 enc_i64 (api_Places.First r0), oL 3 enc_i64 (api_Places.Last r0), oL 37 encs_i64 (api_Places.Follow r0), vB (api_Places.Null r0)])] (obC hc0 obN) ?_
  obtain ⟨r0_1, hc1, h⟩ := h
  obtain ⟨r0_2, hc2, h⟩ := h
  refine sD kk [.c (oL 3 enc_i64 r0_1) [], .c (oL 3 enc_i64 r0_2) []] [16] [(22, oL 3 enc_i64 r0_1), (25, oL 3 enc_i64 r0_2)] (obC hc1 (obC hc2 obN)) ?_
  refine qD ?_
  refine sD kk [] [] [(28, vi 0)] obN ?_
  refine bD (id := 0) ?_
  obtain ⟨Inv25, mu26, h0Inv25, hInv25⟩ := h
  refine loD (fun (q : List (List Int) × Int) => (fun (out_Follow : List (List Int)) (i : Int) => ([(7, .ptr 8 0), (8, av_api_Places a), (10, .ptr 11 0), (11, av_api_Places b), (13, .ptr 14 0), (14, .agg [oL 24 enc_arr4_uint64 ([]), oL 3 enc_i64 ([]), oL 3 enc_i64 ([]), oL 37 encs_i64 ([]), vB false]), (19, .ptr 20 0), (20, .agg [vL enc_arr4_uint64 (api_Places.Sets r0), oL 3 enc_i64 (api_Places.First r0), oL 3 enc_i64 (api_Places.Last r0), oL 37 encs_i64 out_Follow, vB (api_Places.Null r0)]), (22, vL enc_i64 r0_1), (25, oL 3 enc_i64 r0_2), (28, vi i)] : Sta)) q.1 q.2) (fun (q : List (List Int) × Int) => Inv25 q.1 q.2) (fun (q : List (List Int) × Int) => mu26 q.1 q.2) ((api_Places.Follow r0), 0) [(22, 0)] h0Inv25 ?_
  rintro ⟨out_Follow, i⟩ hi
  have h := hInv25 out_Follow i hi
  refine qD ?_
  refine sDE kk [] [] [(85, vB (decide (i < (↑(List.length (List.map enc_i64 (api_Places.Last a))) : Int))))] [(85, vB (decide (i < (↑(List.length (api_Places.Last a)) : Int))))] obN ?_
  refine cD (t := 28) (b := decide (i < (↑(List.length (api_Places.Last a)) : Int))) (fun hb27 => ?_) (fun hb27 => ?_)
  · have h := h.1 hb27
    refine Sem.skip' (by kernel_rfl) Wk.refl ?_
    show Sem _ _ _ _ _
    refine wkD [85] ?_
    refine qD ?_
    refine bD (id := 1) ?_
    obtain ⟨h28, h⟩ := h
    obtain ⟨h29, h⟩ := h
    obtain ⟨h30, h⟩ := h
    obtain ⟨h31, h⟩ := h
    obtain ⟨h32, h⟩ := h
    obtain ⟨h33, h⟩ := h
    obtain ⟨h34, h⟩ := h
    obtain ⟨r0_5, hc35, h⟩ := h
    obtain ⟨h36, h⟩ := h
    obtain ⟨h37, h⟩ := h
    obtain ⟨h38, h⟩ := h
    refine rDE kk [.e (fi (gd (api_Places.Last a) i)), .e (fi (gd (api_Places.Last a) i)), .e (fL enc_i64 (gd out_Follow (gd (api_Places.Last a) i))), .c (vL enc_i64 r0_5) [], .e (fL enc_i64 (gd out_Follow (gd (api_Places.Last a) i)))] [] [(20, .agg [vL enc_arr4_uint64 (api_Places.Sets r0), oL 3 enc_i64 (api_Places.First r0), oL 3 enc_i64 (api_Places.Last r0), .own 37 (List.set (List.map encs_i64 out_Follow) ((0 : Nat) + Int.toNat (gd (api_Places.Last a) i)) (FV.sl (List.map enc_i64 r0_5))), vB (api_Places.Null r0)])] [(20, .agg [vL enc_arr4_uint64 (api_Places.Sets r0), oL 3 enc_i64 (api_Places.First r0), oL 3 enc_i64 (api_Places.Last r0), oL 37 encs_i64 (List.set out_Follow (Int.toNat (gd (api_Places.Last a) i)) r0_5), vB (api_Places.Null r0)])] (obC h28 (obC (idx_ok enc_i64 (api_Places.Last a) i _ rfl h28 h29) (obC h30 (obC (idx_ok enc_i64 (api_Places.Last a) i _ rfl h30 h31) (obC h32 (obC (show Int.toNat (gd (api_Places.Last a) i) < List.length (List.map encs_i64 out_Follow) from by simpa only [nm] using h33) (obC (show (List.map encs_i64 out_Follow)[((0 : Nat) + Int.toNat (gd (api_Places.Last a) i) : Nat)]? = some (fL enc_i64 (gd out_Follow (gd (api_Places.Last a) i))) from by have := idx_ok encs_i64 out_Follow (gd (api_Places.Last a) i) _ rfl h32 h34; simpa only [nm, enq, encs_i64] using this) (obC hc35 (obC h36 (obC (show Int.toNat (gd (api_Places.Last a) i) < List.length (List.map encs_i64 out_Follow) from by simpa only [nm] using h37) (obC (show (List.map encs_i64 out_Follow)[((0 : Nat) + Int.toNat (gd (api_Places.Last a) i) : Nat)]? = some (fL enc_i64 (gd out_Follow (gd (api_Places.Last a) i))) from by have := idx_ok encs_i64 out_Follow (gd (api_Places.Last a) i) _ rfl h36 h38; simpa only [nm, enq, encs_i64] using this) obN))))))))))) ?_
    show Sem _ _ _ _ _
    refine rD kk [] [] [(28, vi (w64 (i + 1)))] obN ?_
    exact lD ((List.set out_Follow (Int.toNat (gd (api_Places.Last a) i)) r0_5), (w64 (i + 1))) [] h
  · have h := h.2 hb27
    refine xD (i := 0) ?_
    show Sem _ _ _ _ _
    refine wkD [28, 85] ?_
    refine sDE kk [] [] [(20, .agg [vL enc_arr4_uint64 (api_Places.Sets r0), vL enc_i64 (api_Places.First a), .f (FV.sl (List.take (List.length (List.map enc_i64 r0_2)) (List.drop (0 : Nat) (List.map enc_i64 r0_2)))), oL 37 encs_i64 out_Follow, vB (api_Places.Null r0)]), (25, vL enc_i64 r0_2)] [(20, .agg [vL enc_arr4_uint64 (api_Places.Sets r0), vL enc_i64 (api_Places.First a), vL enc_i64 r0_2, oL 37 encs_i64 out_Follow, vB (api_Places.Null r0)]), (25, vL enc_i64 r0_2)] obN ?_
    obtain ⟨J41, hJ41, h⟩ := h
    refine sjD (fun (q : List Int) => J41 q) (fun (q : List Int) => (fun (out_First : List Int) => ([(7, .ptr 8 0), (8, av_api_Places a), (10, .ptr 11 0), (11, av_api_Places b), (13, .ptr 14 0), (14, .agg [oL 24 enc_arr4_uint64 ([]), oL 3 enc_i64 ([]), oL 3 enc_i64 ([]), oL 37 encs_i64 ([]), vB false]), (19, .ptr 20 0), (20, .agg [vL enc_arr4_uint64 (api_Places.Sets r0), vL enc_i64 out_First, vL enc_i64 r0_2, oL 37 encs_i64 out_Follow, vB (api_Places.Null r0)]), (25, vL enc_i64 r0_2)] : Sta)) q) ?_ ?_
    · rintro out_First hj
      have h := hJ41 out_First hj
      obtain ⟨J44, hJ44, h⟩ := h
      refine sjD (fun (q : List Int) => J44 q) (fun (q : List Int) => (fun (out_Last : List Int) => ([(7, .ptr 8 0), (8, av_api_Places a), (10, .ptr 11 0), (11, av_api_Places b), (13, .ptr 14 0), (14, .agg [oL 24 enc_arr4_uint64 ([]), oL 3 enc_i64 ([]), oL 3 enc_i64 ([]), oL 37 encs_i64 ([]), vB false]), (19, .ptr 20 0), (20, .agg [vL enc_arr4_uint64 (api_Places.Sets r0), vL enc_i64 out_First, vL enc_i64 out_Last, oL 37 encs_i64 out_Follow, vB (api_Places.Null r0)])] : Sta)) q) ?_ ?_
      · rintro out_Last hj
        have h := hJ44 out_Last hj
        refine sM [7, 8, 10, 11] [(20, .agg [vL enc_arr4_uint64 (api_Places.Sets r0), vL enc_i64 out_First, vL enc_i64 out_Last, oL 37 encs_i64 out_Follow, vB (api_Places.Null a && api_Places.Null b)])] ?_ (fun hk0 => ?_)
        · refine sD kk [] [19, 20] [(14, .agg [vL enc_arr4_uint64 (api_Places.Sets r0), vL enc_i64 out_First, vL enc_i64 out_Last, oL 37 encs_i64 out_Follow, vB (api_Places.Null a && api_Places.Null b)])] (obC (show (0 : Nat) = (0 : Nat) ∧ List.length (List.map encs_i64 out_Follow) = List.length (List.map encs_i64 out_Follow) from by first | decide | rfl | trivial | (simp only [nm] <;> first | decide | rfl | omega)) obN) ?_
          refine tD ?_
          obtain he0 := h
          subst res
          exact (endD [] (.agg [vL enc_arr4_uint64 (api_Places.Sets r0), vL enc_i64 out_First, vL enc_i64 out_Last, oL 37 encs_i64 out_Follow, vB (api_Places.Null a && api_Places.Null b)]) []).1
        · rcases Bool.eq_false_or_eq_true (api_Places.Null a) with hb45 | hb45
          · refine sD kk [.b true, .b true, .b true] [7, 8, 10, 11] [(20, .agg [vL enc_arr4_uint64 (api_Places.Sets r0), vL enc_i64 out_First, vL enc_i64 out_Last, oL 37 encs_i64 out_Follow, vB (api_Places.Null b)])] (obC (gtt hb45) (obC (gtt hb45) (obC hb45 obN))) ?_
            exact Sem.cast (by try rw [hb45]; kernel_rfl) hk0
          · refine sD kk [.b false, .b false, .b false] [7, 8, 10, 11] [(20, .agg [vL enc_arr4_uint64 (api_Places.Sets r0), vL enc_i64 out_First, vL enc_i64 out_Last, oL 37 encs_i64 out_Follow, vB false])] (obC (gtf hb45) (obC (gtf hb45) (obC hb45 obN))) ?_
            exact Sem.cast (by try rw [hb45]; kernel_rfl) hk0
      · refine sD kk [] [] [(190, vB (api_Places.Null b))] obN ?_
        refine cD (t := 63) (b := api_Places.Null b) (fun hb46 => ?_) (fun hb46 => ?_)
        · have h := h.1 hb46
          obtain ⟨r0_8, hc47, h⟩ := h
          refine rD kk [.c (vL enc_i64 r0_8) []] [25, 190] [(20, .agg [vL enc_arr4_uint64 (api_Places.Sets r0), vL enc_i64 out_First, vL enc_i64 r0_8, oL 37 encs_i64 out_Follow, vB (api_Places.Null r0)])] (obC hc47 obN) ?_
          exact jD r0_8 [] h
        · have h := h.2 hb46
          refine Sem.skip' (by kernel_rfl) Wk.refl ?_
          exact jD r0_2 [] h
    · refine sD kk [] [] [(169, vB (api_Places.Null a))] obN ?_
      refine cD (t := 56) (b := api_Places.Null a) (fun hb48 => ?_) (fun hb48 => ?_)
      · have h := h.1 hb48
        obtain ⟨r0_9, hc49, h⟩ := h
        refine rD kk [.c (vL enc_i64 r0_9) []] [22, 169] [(20, .agg [vL enc_arr4_uint64 (api_Places.Sets r0), vL enc_i64 r0_9, vL enc_i64 r0_2, oL 37 encs_i64 out_Follow, vB (api_Places.Null r0)])] (obC hc49 obN) ?_
        exact jD r0_9 [] h
      · have h := h.2 hb48
        refine Sem.skip' (by kernel_rfl) Wk.refl ?_
        exact jD (api_Places.First a) [] h
set_option maxHeartbeats 1000000 in
theorem W_heckleref09_alt (a : api_Places) (b : api_Places) (res : api_Places)
    (h : (∃ r0 : api_Places, C_heckleref09_both a b r0 ∧ (∃ r0_1 : List Int, C_heckleref09_moved (api_Places.First b) ((↑(List.length (api_Places.Sets a)) : Int)) r0_1 ∧ (∃ r0_2 : List Int, C_heckleref09_Add (api_Places.First a) r0_1 r0_2 ∧ (∃ r0_3 : List Int, C_heckleref09_moved (api_Places.Last b) ((↑(List.length (api_Places.Sets a)) : Int)) r0_3 ∧ (∃ r0_4 : List Int, C_heckleref09_Add (api_Places.Last a) r0_3 r0_4 ∧ (res = ({ Sets := api_Places.Sets r0, First := r0_2, Last := r0_4, Follow := api_Places.Follow r0, Null := api_Places.Null a || api_Places.Null b })))))))) : C_heckleref09_alt a b res := by
  unfold C_heckleref09_alt
  have kk := cfOk [36] 37
  refine fD (x := bodyOf Try.f48) kk Try.func48 ?_
  refine wkS [1, 4] [(1, av_api_Places a), (4, av_api_Places b)] (by kernel_rfl) ?_
  refine sDE kk [] [1, 4] [(7, .ptr 8 0), (8, av_api_Places a), (10, .ptr 11 0), (11, av_api_Places b), (13, .ptr 14 0), (14, .agg [.own 24 ([]), .own 3 ([]), .own 3 ([]), .own 37 ([]), vB false])] [(7, .ptr 8 0), (8, av_api_Places a), (10, .ptr 11 0), (11, av_api_Places b), (13, .ptr 14 0), (14, .agg [oL 24 enc_arr4_uint64 ([]), oL 3 enc_i64 ([]), oL 3 enc_i64 ([]), oL 37 encs_i64 ([]), vB false])] obN ?_
  refine sDE kk [] [] [(16, vi ((↑(List.length (List.map enc_arr4_uint64 (api_Places.Sets a))) : Int)))] [(16, vi ((↑(List.length (api_Places.Sets a)) : Int)))] obN ?_
  obtain ⟨r0, hc0, h⟩ := h
  refine sD kk [.c (.agg [vL enc_arr4_uint64 (api_Places.Sets r0), oL 3 enc_i64 (api_Places.First r0), oL 3 enc_i64 (api_Places.Last r0), oL 37 encs_i64 (api_Places.Follow r0), vB (api_Places.Null r0)]) []] [] [(19, .ptr 20 0), (20, .agg [vL enc_arr4_uint64 (api_Places.Sets r0), oL 3 enc_i64 (api_Places.First r0), oL 3 enc_i64 (api_Places.Last r0), oL 37 encs_i64 (api_Places.Follow r0), vB (api_Places.Null r0)])] (obC hc0 obN) ?_
  obtain ⟨r0_1, hc1, h⟩ := h
  obtain ⟨r0_2, hc2, h⟩ := h
  refine sD kk [.c (oL 3 enc_i64 r0_1) [], .c (vL enc_i64 r0_2) []] [] [(20, .agg [vL enc_arr4_uint64 (api_Places.Sets r0), vL enc_i64 r0_2, oL 3 enc_i64 (api_Places.Last r0), oL 37 encs_i64 (api_Places.Follow r0), vB (api_Places.Null r0)])] (obC hc1 (obC (Eq.mp (by unfold C_heckleref09_Add; (try simp only [List.drop_zero, List.take_length]); first | done | simp only [nm, enq] : C_heckleref09_Add (api_Places.First a) r0_1 r0_2 = CallE Try.prog 17 [vL enc_i64 (api_Places.First a), .f (FV.sl (List.take (List.length (List.map enc_i64 r0_1)) (List.drop (0 : Nat) (List.map enc_i64 r0_1))))] [] (vL enc_i64 r0_2) []) hc2) obN)) ?_
  obtain ⟨r0_3, hc3, h⟩ := h
  obtain ⟨r0_4, hc4, h⟩ := h
  refine sD kk [.c (oL 3 enc_i64 r0_3) [], .c (vL enc_i64 r0_4) []] [16] [(20, .agg [vL enc_arr4_uint64 (api_Places.Sets r0), vL enc_i64 r0_2, vL enc_i64 r0_4, oL 37 encs_i64 (api_Places.Follow r0), vB (api_Places.Null r0)])] (obC hc3 (obC (Eq.mp (by unfold C_heckleref09_Add; (try simp only [List.drop_zero, List.take_length]); first | done | simp only [nm, enq] : C_heckleref09_Add (api_Places.Last a) r0_3 r0_4 = CallE Try.prog 17 [vL enc_i64 (api_Places.Last a), .f (FV.sl (List.take (List.length (List.map enc_i64 r0_3)) (List.drop (0 : Nat) (List.map enc_i64 r0_3))))] [] (vL enc_i64 r0_4) []) hc4) obN)) ?_
  refine sM [7, 8, 10, 11] [(20, .agg [vL enc_arr4_uint64 (api_Places.Sets r0), vL enc_i64 r0_2, vL enc_i64 r0_4, oL 37 encs_i64 (api_Places.Follow r0), vB (api_Places.Null a || api_Places.Null b)])] ?_ (fun hk0 => ?_)
  · refine sD kk [] [19, 20] [(14, .agg [vL enc_arr4_uint64 (api_Places.Sets r0), vL enc_i64 r0_2, vL enc_i64 r0_4, oL 37 encs_i64 (api_Places.Follow r0), vB (api_Places.Null a || api_Places.Null b)])] (obC (show (0 : Nat) = (0 : Nat) ∧ List.length (List.map encs_i64 (api_Places.Follow r0)) = List.length (List.map encs_i64 (api_Places.Follow r0)) from by first | decide | rfl | trivial | (simp only [nm] <;> first | decide | rfl | omega)) obN) ?_
    refine tD ?_
    obtain he0 := h
    subst res
    exact (endD [] (.agg [vL enc_arr4_uint64 (api_Places.Sets r0), vL enc_i64 r0_2, vL enc_i64 r0_4, oL 37 encs_i64 (api_Places.Follow r0), vB (api_Places.Null a || api_Places.Null b)]) []).1
  · rcases Bool.eq_false_or_eq_true (api_Places.Null a) with hb5 | hb5
    · refine sD kk [.b false, .b false, .b true] [7, 8, 10, 11] [(20, .agg [vL enc_arr4_uint64 (api_Places.Sets r0), vL enc_i64 r0_2, vL enc_i64 r0_4, oL 37 encs_i64 (api_Places.Follow r0), vB true])] (obC (gff hb5) (obC (gff hb5) (obC hb5 obN))) ?_
      exact Sem.cast (by try rw [hb5]; kernel_rfl) hk0
    · refine sD kk [.b true, .b true, .b false] [7, 8, 10, 11] [(20, .agg [vL enc_arr4_uint64 (api_Places.Sets r0), vL enc_i64 r0_2, vL enc_i64 r0_4, oL 37 encs_i64 (api_Places.Follow r0), vB (api_Places.Null b)])] (obC (gft hb5) (obC (gft hb5) (obC hb5 obN))) ?_
      exact Sem.cast (by try rw [hb5]; kernel_rfl) hk0
set_option maxHeartbeats 1000000 in
theorem W_heckleref09_again (a : api_Places) (res : api_Places)
    (h : (∃ r0 : api_Places, C_heckleref09_both a ({ Sets := [], First := [], Last := [], Follow := [], Null := false }) r0 ∧ (∃ (Inv23 : List (List Int) → Int → Prop) (mu24 : List (List Int) → Int → Nat), Inv23 (api_Places.Follow r0) 0 ∧ (∀ (out_Follow : List (List Int)) (i : Int), Inv23 out_Follow i → (((decide (i < (↑(List.length (api_Places.Last a)) : Int))) = true → ((0 : Int) ≤ i) ∧ i < ↑(List.length (api_Places.Last a)) ∧ ((0 : Int) ≤ i) ∧ i < ↑(List.length (api_Places.Last a)) ∧ ((0 : Int) ≤ gd (api_Places.Last a) i) ∧ (Int.toNat (gd (api_Places.Last a) i) < List.length out_Follow) ∧ gd (api_Places.Last a) i < ↑(List.length out_Follow) ∧ (∃ r0_3 : List Int, C_heckleref09_Add (gd out_Follow (gd (api_Places.Last a) i)) (api_Places.First a) r0_3 ∧ ((0 : Int) ≤ gd (api_Places.Last a) i) ∧ (Int.toNat (gd (api_Places.Last a) i) < List.length out_Follow) ∧ gd (api_Places.Last a) i < ↑(List.length out_Follow) ∧ (Inv23 (List.set out_Follow (Int.toNat (gd (api_Places.Last a) i)) r0_3) (w64 (i + 1)) ∧ mu24 (List.set out_Follow (Int.toNat (gd (api_Places.Last a) i)) r0_3) (w64 (i + 1)) < mu24 out_Follow i))) ∧ ((decide (i < (↑(List.length (api_Places.Last a)) : Int))) = false → (res = ({ Sets := api_Places.Sets r0, First := api_Places.First a, Last := api_Places.Last a, Follow := out_Follow, Null := api_Places.Null a })))))))) : C_heckleref09_again a res := by
  unfold C_heckleref09_again
  have kk := cfOk [44] 45
  refine fD (x := bodyOf Try.f49) kk Try.func49 ?_
  refine wkS [1] [(1, av_api_Places a)] (by kernel_rfl) ?_
  refine sDE kk [] [1] [(4, .ptr 5 0), (5, av_api_Places a), (7, .ptr 8 0), (8, .agg [.own 24 ([]), .own 3 ([]), .own 3 ([]), .own 37 ([]), vB false])] [(4, .ptr 5 0), (5, av_api_Places a), (7, .ptr 8 0), (8, .agg [oL 24 enc_arr4_uint64 ([]), oL 3 enc_i64 ([]), oL 3 enc_i64 ([]), oL 37 encs_i64 ([]), vB false])] obN ?_
  obtain ⟨r0, hc0, h⟩ := h
  refine sD kk [.c (.agg [vL enc_arr4_uint64 (api_Places.Sets r0), oL 3 enc_i64 (api_Places.First r0), oL 3 enc_i64 (api_Places.Last r0), oL 37 encs_i64 (api_Places.Follow r0), vB (api_Places.Null r0)]) []] [] [(10, .ptr 11 0), (11, .agg [vL enc_arr4_uint64 (api_Places.Sets r0), oL 3 enc_i64 (api_Places.First r0), oL 3 enc_i64 (api_Places.Last r0), oL 37 encs_i64 (api_Places.Follow r0), vB (api_Places.Null r0)])] (obC (Eq.mp (by unfold C_heckleref09_both; (try simp only [List.drop_zero, List.take_length]); first | done | simp only [nm, enq] : C_heckleref09_both a ({ Sets := [], First := [], Last := [], Follow := [], Null := false }) r0 = CallE Try.prog 65 [.agg [vL enc_arr4_uint64 (api_Places.Sets a), vL enc_i64 (api_Places.First a), vL enc_i64 (api_Places.Last a), vL encs_i64 (api_Places.Follow a), vB (api_Places.Null a)], .agg [.f (FV.sl []), .f (FV.sl []), .f (FV.sl []), .f (FV.sl []), vB false]] [] (.agg [vL enc_arr4_uint64 (api_Places.Sets r0), oL 3 enc_i64 (api_Places.First r0), oL 3 enc_i64 (api_Places.Last r0), oL 37 encs_i64 (api_Places.Follow r0), vB (api_Places.Null r0)]) []) hc0) obN) ?_
  refine qD ?_
  refine sD kk [] [] [(13, vi 0)] obN ?_
  refine bD (id := 0) ?_
  obtain ⟨Inv23, mu24, h0Inv23, hInv23⟩ := h
  refine loD (fun (q : List (List Int) × Int) => (fun (out_Follow : List (List Int)) (i : Int) => ([(4, .ptr 5 0), (5, av_api_Places a), (7, .ptr 8 0), (8, .agg [oL 24 enc_arr4_uint64 ([]), oL 3 enc_i64 ([]), oL 3 enc_i64 ([]), oL 37 encs_i64 ([]), vB false]), (10, .ptr 11 0), (11, .agg [vL enc_arr4_uint64 (api_Places.Sets r0), oL 3 enc_i64 (api_Places.First r0), oL 3 enc_i64 (api_Places.Last r0), oL 37 encs_i64 out_Follow, vB (api_Places.Null r0)]), (13, vi i)] : Sta)) q.1 q.2) (fun (q : List (List Int) × Int) => Inv23 q.1 q.2) (fun (q : List (List Int) × Int) => mu24 q.1 q.2) ((api_Places.Follow r0), 0) [] h0Inv23 ?_
  rintro ⟨out_Follow, i⟩ hi
  have h := hInv23 out_Follow i hi
  refine qD ?_
  refine sDE kk [] [] [(37, vB (decide (i < (↑(List.length (List.map enc_i64 (api_Places.Last a))) : Int))))] [(37, vB (decide (i < (↑(List.length (api_Places.Last a)) : Int))))] obN ?_
  refine cD (t := 12) (b := decide (i < (↑(List.length (api_Places.Last a)) : Int))) (fun hb25 => ?_) (fun hb25 => ?_)
  · have h := h.1 hb25
    refine Sem.skip' (by kernel_rfl) Wk.refl ?_
    show Sem _ _ _ _ _
    refine wkD [37] ?_
    refine qD ?_
    refine bD (id := 1) ?_
    obtain ⟨h26, h⟩ := h
    obtain ⟨h27, h⟩ := h
    obtain ⟨h28, h⟩ := h
    obtain ⟨h29, h⟩ := h
    obtain ⟨h30, h⟩ := h
    obtain ⟨h31, h⟩ := h
    obtain ⟨h32, h⟩ := h
    obtain ⟨r0_3, hc33, h⟩ := h
    obtain ⟨h34, h⟩ := h
    obtain ⟨h35, h⟩ := h
    obtain ⟨h36, h⟩ := h
    refine rDE kk [.e (fi (gd (api_Places.Last a) i)), .e (fi (gd (api_Places.Last a) i)), .e (fL enc_i64 (gd out_Follow (gd (api_Places.Last a) i))), .c (vL enc_i64 r0_3) [], .e (fL enc_i64 (gd out_Follow (gd (api_Places.Last a) i)))] [] [(11, .agg [vL enc_arr4_uint64 (api_Places.Sets r0), oL 3 enc_i64 (api_Places.First r0), oL 3 enc_i64 (api_Places.Last r0), .own 37 (List.set (List.map encs_i64 out_Follow) ((0 : Nat) + Int.toNat (gd (api_Places.Last a) i)) (FV.sl (List.map enc_i64 r0_3))), vB (api_Places.Null r0)])] [(11, .agg [vL enc_arr4_uint64 (api_Places.Sets r0), oL 3 enc_i64 (api_Places.First r0), oL 3 enc_i64 (api_Places.Last r0), oL 37 encs_i64 (List.set out_Follow (Int.toNat (gd (api_Places.Last a) i)) r0_3), vB (api_Places.Null r0)])] (obC h26 (obC (idx_ok enc_i64 (api_Places.Last a) i _ rfl h26 h27) (obC h28 (obC (idx_ok enc_i64 (api_Places.Last a) i _ rfl h28 h29) (obC h30 (obC (show Int.toNat (gd (api_Places.Last a) i) < List.length (List.map encs_i64 out_Follow) from by simpa only [nm] using h31) (obC (show (List.map encs_i64 out_Follow)[((0 : Nat) + Int.toNat (gd (api_Places.Last a) i) : Nat)]? = some (fL enc_i64 (gd out_Follow (gd (api_Places.Last a) i))) from by have := idx_ok encs_i64 out_Follow (gd (api_Places.Last a) i) _ rfl h30 h32; simpa only [nm, enq, encs_i64] using this) (obC hc33 (obC h34 (obC (show Int.toNat (gd (api_Places.Last a) i) < List.length (List.map encs_i64 out_Follow) from by simpa only [nm] using h35) (obC (show (List.map encs_i64 out_Follow)[((0 : Nat) + Int.toNat (gd (api_Places.Last a) i) : Nat)]? = some (fL enc_i64 (gd out_Follow (gd (api_Places.Last a) i))) from by have := idx_ok encs_i64 out_Follow (gd (api_Places.Last a) i) _ rfl h34 h36; simpa only [nm, enq, encs_i64] using this) obN))))))))))) ?_
    show Sem _ _ _ _ _
    refine rD kk [] [] [(13, vi (w64 (i + 1)))] obN ?_
    exact lD ((List.set out_Follow (Int.toNat (gd (api_Places.Last a) i)) r0_3), (w64 (i + 1))) [] h
  · have h := h.2 hb25
    refine xD (i := 0) ?_
    show Sem _ _ _ _ _
    refine wkD [13, 37] ?_
    refine sD kk [] [4, 5] [(11, .agg [vL enc_arr4_uint64 (api_Places.Sets r0), vL enc_i64 (api_Places.First a), vL enc_i64 (api_Places.Last a), oL 37 encs_i64 out_Follow, vB (api_Places.Null a)])] obN ?_
    refine sD kk [] [10, 11] [(8, .agg [vL enc_arr4_uint64 (api_Places.Sets r0), vL enc_i64 (api_Places.First a), vL enc_i64 (api_Places.Last a), oL 37 encs_i64 out_Follow, vB (api_Places.Null a)])] (obC (show (0 : Nat) = (0 : Nat) ∧ List.length (List.map encs_i64 out_Follow) = List.length (List.map encs_i64 out_Follow) from by first | decide | rfl | trivial | (simp only [nm] <;> first | decide | rfl | omega)) obN) ?_
    refine tD ?_
    obtain he0 := h
    subst res
    exact (endD [] (.agg [vL enc_arr4_uint64 (api_Places.Sets r0), vL enc_i64 (api_Places.First a), vL enc_i64 (api_Places.Last a), oL 37 encs_i64 out_Follow, vB (api_Places.Null a)]) []).1
set_option maxHeartbeats 1000000 in
theorem W_heckleref09_maybe (a : api_Places) (res : api_Places)
    (h : (res = ({ Sets := api_Places.Sets a, First := api_Places.First a, Last := api_Places.Last a, Follow := api_Places.Follow a, Null := true }))) : C_heckleref09_maybe a res := by
  unfold C_heckleref09_maybe
  have kk := cfOk [4] 5
  refine fD (x := bodyOf Try.f50) kk Try.func50 ?_
  refine wkS [1] [(1, av_api_Places a)] (by kernel_rfl) ?_
  refine sDE kk [] [1] [(4, .ptr 5 0), (5, av_api_Places a), (7, .ptr 8 0), (8, .agg [.own 24 ([]), .own 3 ([]), .own 3 ([]), .own 37 ([]), vB false])] [(4, .ptr 5 0), (5, av_api_Places a), (7, .ptr 8 0), (8, .agg [oL 24 enc_arr4_uint64 ([]), oL 3 enc_i64 ([]), oL 3 enc_i64 ([]), oL 37 encs_i64 ([]), vB false])] obN ?_
  refine sD kk [] [] [(5, .agg [vL enc_arr4_uint64 (api_Places.Sets a), vL enc_i64 (api_Places.First a), vL enc_i64 (api_Places.Last a), vL encs_i64 (api_Places.Follow a), vB true])] obN ?_
  refine sD kk [] [4, 5] [(8, .agg [vL enc_arr4_uint64 (api_Places.Sets a), vL enc_i64 (api_Places.First a), vL enc_i64 (api_Places.Last a), vL encs_i64 (api_Places.Follow a), vB true])] obN ?_
  refine tD ?_
  obtain he0 := h
  subst res
  exact (endD [] (.agg [vL enc_arr4_uint64 (api_Places.Sets a), vL enc_i64 (api_Places.First a), vL enc_i64 (api_Places.Last a), vL encs_i64 (api_Places.Follow a), vB true]) []).1
set_option maxHeartbeats 1000000 in
theorem W_heckleref09_of (x : api_Rx) (res : api_Places)
    (h : (((api_Rx.Kind x == (2 : Int)) = true → (res = ({ Sets := [api_Rx.Set x], First := [(0 : Int)], Last := [(0 : Int)], Follow := [[]], Null := false }))) ∧ ((api_Rx.Kind x == (2 : Int)) = false → (((api_Rx.Kind x == (3 : Int)) = true → (∃ r0 : api_Places, C_heckleref09_empty r0 ∧ (∃ (Inv12 : List arr4_uint64 → List Int → List Int → List (List Int) → Bool → Int → Prop) (mu13 : List arr4_uint64 → List Int → List Int → List (List Int) → Bool → Int → Nat), Inv12 (api_Places.Sets r0) (api_Places.First r0) (api_Places.Last r0) (api_Places.Follow r0) (api_Places.Null r0) 0 ∧ (∀ (out_Sets : List arr4_uint64) (out_First : List Int) (out_Last : List Int) (out_Follow : List (List Int)) (out_Null : Bool) (i : Int), Inv12 out_Sets out_First out_Last out_Follow out_Null i → (((decide (i < (↑(List.length (api_Rx.Kids x)) : Int))) = true → ((0 : Int) ≤ i) ∧ i < ↑(List.length (api_Rx.Kids x)) ∧ (∃ r0_5 : api_Places, C_heckleref09_of (gd (api_Rx.Kids x) i) r0_5 ∧ (∃ r0_6 : api_Places, C_heckleref09_cat ({ Sets := out_Sets, First := out_First, Last := out_Last, Follow := out_Follow, Null := out_Null }) r0_5 r0_6 ∧ (Inv12 (api_Places.Sets r0_6) (api_Places.First r0_6) (api_Places.Last r0_6) (api_Places.Follow r0_6) (api_Places.Null r0_6) (w64 (i + 1)) ∧ mu13 (api_Places.Sets r0_6) (api_Places.First r0_6) (api_Places.Last r0_6) (api_Places.Follow r0_6) (api_Places.Null r0_6) (w64 (i + 1)) < mu13 out_Sets out_First out_Last out_Follow out_Null i)))) ∧ ((decide (i < (↑(List.length (api_Rx.Kids x)) : Int))) = false → (res = ({ Sets := out_Sets, First := out_First, Last := out_Last, Follow := out_Follow, Null := out_Null })))))))) ∧ ((api_Rx.Kind x == (3 : Int)) = false → (((api_Rx.Kind x == (4 : Int)) = true → (0 : Nat) < List.length (api_Rx.Kids x) ∧ (∃ r0_7 : api_Places, C_heckleref09_of (List.getD (api_Rx.Kids x) (0 : Nat) default) r0_7 ∧ (∃ (Inv31 : List arr4_uint64 → List Int → List Int → List (List Int) → Bool → Int → Prop) (mu32 : List arr4_uint64 → List Int → List Int → List (List Int) → Bool → Int → Nat), Inv31 (api_Places.Sets r0_7) (api_Places.First r0_7) (api_Places.Last r0_7) (api_Places.Follow r0_7) (api_Places.Null r0_7) 1 ∧ (∀ (out_Sets_1 : List arr4_uint64) (out_First_1 : List Int) (out_Last_1 : List Int) (out_Follow_1 : List (List Int)) (out_Null_1 : Bool) (i_1 : Int), Inv31 out_Sets_1 out_First_1 out_Last_1 out_Follow_1 out_Null_1 i_1 → (((decide (i_1 < (↑(List.length (api_Rx.Kids x)) : Int))) = true → ((0 : Int) ≤ i_1) ∧ i_1 < ↑(List.length (api_Rx.Kids x)) ∧ (∃ r0_12 : api_Places, C_heckleref09_of (gd (api_Rx.Kids x) i_1) r0_12 ∧ (∃ r0_13 : api_Places, C_heckleref09_alt ({ Sets := out_Sets_1, First := out_First_1, Last := out_Last_1, Follow := out_Follow_1, Null := out_Null_1 }) r0_12 r0_13 ∧ (Inv31 (api_Places.Sets r0_13) (api_Places.First r0_13) (api_Places.Last r0_13) (api_Places.Follow r0_13) (api_Places.Null r0_13) (w64 (i_1 + 1)) ∧ mu32 (api_Places.Sets r0_13) (api_Places.First r0_13) (api_Places.Last r0_13) (api_Places.Follow r0_13) (api_Places.Null r0_13) (w64 (i_1 + 1)) < mu32 out_Sets_1 out_First_1 out_Last_1 out_Follow_1 out_Null_1 i_1)))) ∧ ((decide (i_1 < (↑(List.length (api_Rx.Kids x)) : Int))) = false → (res = ({ Sets := out_Sets_1, First := out_First_1, Last := out_Last_1, Follow := out_Follow_1, Null := out_Null_1 })))))))) ∧ ((api_Rx.Kind x == (4 : Int)) = false → (((api_Rx.Kind x == (5 : Int)) = true → (0 : Nat) < List.length (api_Rx.Kids x) ∧ (∃ r0_14 : api_Places, C_heckleref09_of (List.getD (api_Rx.Kids x) (0 : Nat) default) r0_14 ∧ (∃ r0_15 : api_Places, C_heckleref09_empty r0_15 ∧ (((decide (api_Rx.Hi x < (0 : Int))) = true → (∃ (Inv47 : List arr4_uint64 → List Int → List Int → List (List Int) → Bool → Int → Prop) (mu48 : List arr4_uint64 → List Int → List Int → List (List Int) → Bool → Int → Nat), Inv47 (api_Places.Sets r0_15) (api_Places.First r0_15) (api_Places.Last r0_15) (api_Places.Follow r0_15) (api_Places.Null r0_15) 1 ∧ (∀ (out_Sets_2 : List arr4_uint64) (out_First_2 : List Int) (out_Last_2 : List Int) (out_Follow_2 : List (List Int)) (out_Null_2 : Bool) (i_2 : Int), Inv47 out_Sets_2 out_First_2 out_Last_2 out_Follow_2 out_Null_2 i_2 → (((decide (i_2 < api_Rx.Lo x)) = true → (∃ r0_18 : api_Places, C_heckleref09_cat ({ Sets := out_Sets_2, First := out_First_2, Last := out_Last_2, Follow := out_Follow_2, Null := out_Null_2 }) r0_14 r0_18 ∧ (Inv47 (api_Places.Sets r0_18) (api_Places.First r0_18) (api_Places.Last r0_18) (api_Places.Follow r0_18) (api_Places.Null r0_18) (w64 (i_2 + 1)) ∧ mu48 (api_Places.Sets r0_18) (api_Places.First r0_18) (api_Places.Last r0_18) (api_Places.Follow r0_18) (api_Places.Null r0_18) (w64 (i_2 + 1)) < mu48 out_Sets_2 out_First_2 out_Last_2 out_Follow_2 out_Null_2 i_2))) ∧ ((decide (i_2 < api_Rx.Lo x)) = false → (∃ r0_19 : api_Places, C_heckleref09_again r0_14 r0_19 ∧ (∃ J54 : List arr4_uint64 → List Int → List Int → List (List Int) → Bool → Prop, (∀ (last_Sets : List arr4_uint64) (last_First : List Int) (last_Last : List Int) (last_Follow : List (List Int)) (last_Null : Bool), J54 last_Sets last_First last_Last last_Follow last_Null → (∃ r0_21 : api_Places, C_heckleref09_cat ({ Sets := out_Sets_2, First := out_First_2, Last := out_Last_2, Follow := out_Follow_2, Null := out_Null_2 }) ({ Sets := last_Sets, First := last_First, Last := last_Last, Follow := last_Follow, Null := last_Null }) r0_21 ∧ (res = r0_21))) ∧ (((api_Rx.Lo x == 0) = true → (∃ r0_22 : api_Places, C_heckleref09_maybe r0_19 r0_22 ∧ J54 (api_Places.Sets r0_22) (api_Places.First r0_22) (api_Places.Last r0_22) (api_Places.Follow r0_22) (api_Places.Null r0_22))) ∧ ((api_Rx.Lo x == 0) = false → J54 (api_Places.Sets r0_19) (api_Places.First r0_19) (api_Places.Last r0_19) (api_Places.Follow r0_19) (api_Places.Null r0_19)))))))))) ∧ ((decide (api_Rx.Hi x < (0 : Int))) = false → (∃ (Inv64 : List arr4_uint64 → List Int → List Int → List (List Int) → Bool → Int → Prop) (mu65 : List arr4_uint64 → List Int → List Int → List (List Int) → Bool → Int → Nat), Inv64 (api_Places.Sets r0_15) (api_Places.First r0_15) (api_Places.Last r0_15) (api_Places.Follow r0_15) (api_Places.Null r0_15) (api_Rx.Lo x) ∧ (∀ (out_Sets_3 : List arr4_uint64) (out_First_3 : List Int) (out_Last_3 : List Int) (out_Follow_3 : List (List Int)) (out_Null_3 : Bool) (i_3 : Int), Inv64 out_Sets_3 out_First_3 out_Last_3 out_Follow_3 out_Null_3 i_3 → (((decide (i_3 < api_Rx.Hi x)) = true → (∃ r0_27 : api_Places, C_heckleref09_cat r0_14 ({ Sets := out_Sets_3, First := out_First_3, Last := out_Last_3, Follow := out_Follow_3, Null := out_Null_3 }) r0_27 ∧ (∃ r0_28 : api_Places, C_heckleref09_maybe r0_27 r0_28 ∧ (Inv64 (api_Places.Sets r0_28) (api_Places.First r0_28) (api_Places.Last r0_28) (api_Places.Follow r0_28) (api_Places.Null r0_28) (w64 (i_3 + 1)) ∧ mu65 (api_Places.Sets r0_28) (api_Places.First r0_28) (api_Places.Last r0_28) (api_Places.Follow r0_28) (api_Places.Null r0_28) (w64 (i_3 + 1)) < mu65 out_Sets_3 out_First_3 out_Last_3 out_Follow_3 out_Null_3 i_3)))) ∧ ((decide (i_3 < api_Rx.Hi x)) = false → (∃ (Inv73 : List arr4_uint64 → List Int → List Int → List (List Int) → Bool → Int → Prop) (mu74 : List arr4_uint64 → List Int → List Int → List (List Int) → Bool → Int → Nat), Inv73 out_Sets_3 out_First_3 out_Last_3 out_Follow_3 out_Null_3 0 ∧ (∀ (out_Sets_4 : List arr4_uint64) (out_First_4 : List Int) (out_Last_4 : List Int) (out_Follow_4 : List (List Int)) (out_Null_4 : Bool) (i_4 : Int), Inv73 out_Sets_4 out_First_4 out_Last_4 out_Follow_4 out_Null_4 i_4 → (((decide (i_4 < api_Rx.Lo x)) = true → (∃ r0_31 : api_Places, C_heckleref09_cat r0_14 ({ Sets := out_Sets_4, First := out_First_4, Last := out_Last_4, Follow := out_Follow_4, Null := out_Null_4 }) r0_31 ∧ (Inv73 (api_Places.Sets r0_31) (api_Places.First r0_31) (api_Places.Last r0_31) (api_Places.Follow r0_31) (api_Places.Null r0_31) (w64 (i_4 + 1)) ∧ mu74 (api_Places.Sets r0_31) (api_Places.First r0_31) (api_Places.Last r0_31) (api_Places.Follow r0_31) (api_Places.Null r0_31) (w64 (i_4 + 1)) < mu74 out_Sets_4 out_First_4 out_Last_4 out_Follow_4 out_Null_4 i_4))) ∧ ((decide (i_4 < api_Rx.Lo x)) = false → (res = ({ Sets := out_Sets_4, First := out_First_4, Last := out_Last_4, Follow := out_Follow_4, Null := out_Null_4 }))))))))))))))) ∧ ((api_Rx.Kind x == (5 : Int)) = false → (∃ r0_32 : api_Places, C_heckleref09_empty r0_32 ∧ (res = r0_32))))))))))) : C_heckleref09_of x res := by
  unfold C_heckleref09_of
  have kk := cfOk [42, 65, 117] 119
  refine fD (x := bodyOf Try.f30) kk Try.func30 ?_
  refine wkS [1] [(1, av_api_Rx x)] (by kernel_rfl) ?_
  refine sDE kk [] [1] [(4, .ptr 5 0), (5, av_api_Rx x), (7, .ptr 8 0), (8, .agg [.own 24 ([]), .own 3 ([]), .own 3 ([]), .own 37 ([]), vB false])] [(4, .ptr 5 0), (5, av_api_Rx x), (7, .ptr 8 0), (8, .agg [oL 24 enc_arr4_uint64 ([]), oL 3 enc_i64 ([]), oL 3 enc_i64 ([]), oL 37 encs_i64 ([]), vB false])] obN ?_
  refine qD ?_
  refine sD kk [] [] [(43, vi (api_Rx.Kind x))] obN ?_
  refine bD (id := 0) ?_
  refine sD kk [] [] [(46, vB (api_Rx.Kind x == (2 : Int)))] obN ?_
  refine cD (t := 15) (b := api_Rx.Kind x == (2 : Int)) (fun hb0 => ?_) (fun hb0 => ?_)
  · have h := h.1 hb0
    refine sDE kk [] [4, 5, 43, 46] [(8, .agg [.f (FV.sl (List.take (List.length [FV.agg [FV.pv (Value.int IntKind.u64 (arr4_uint64.e0 (api_Rx.Set x))), FV.pv (Value.int IntKind.u64 (arr4_uint64.e1 (api_Rx.Set x))), FV.pv (Value.int IntKind.u64 (arr4_uint64.e2 (api_Rx.Set x))), FV.pv (Value.int IntKind.u64 (arr4_uint64.e3 (api_Rx.Set x)))]]) (List.drop (0 : Nat) [FV.agg [FV.pv (Value.int IntKind.u64 (arr4_uint64.e0 (api_Rx.Set x))), FV.pv (Value.int IntKind.u64 (arr4_uint64.e1 (api_Rx.Set x))), FV.pv (Value.int IntKind.u64 (arr4_uint64.e2 (api_Rx.Set x))), FV.pv (Value.int IntKind.u64 (arr4_uint64.e3 (api_Rx.Set x)))]]))), .f (FV.sl (List.take (List.length [FV.pv (Value.int IntKind.i64 (0))]) (List.drop (0 : Nat) [FV.pv (Value.int IntKind.i64 (0))]))), .f (FV.sl (List.take (List.length [FV.pv (Value.int IntKind.i64 (0))]) (List.drop (0 : Nat) [FV.pv (Value.int IntKind.i64 (0))]))), .f (FV.sl (List.take (List.length [FV.sl []]) (List.drop (0 : Nat) [FV.sl []]))), vB false])] [(8, .agg [vL enc_arr4_uint64 ([api_Rx.Set x]), vL enc_i64 ([(0 : Int)]), vL enc_i64 ([(0 : Int)]), vL encs_i64 ([[]]), vB false])] obN ?_
    refine tD ?_
    obtain he0 := h
    subst res
    exact (endD [] (.agg [vL enc_arr4_uint64 ([api_Rx.Set x]), vL enc_i64 ([(0 : Int)]), vL enc_i64 ([(0 : Int)]), vL encs_i64 ([[]]), vB false]) []).1
  · have h := h.2 hb0
    refine sD kk [] [46] [(73, vB (api_Rx.Kind x == (3 : Int)))] obN ?_
    refine cD (t := 24) (b := api_Rx.Kind x == (3 : Int)) (fun hb1 => ?_) (fun hb1 => ?_)
    · have h := h.1 hb1
      obtain ⟨r0, hc2, h⟩ := h
      refine sD kk [.c (ao_api_Places r0) []] [43, 73] [(10, .ptr 11 0), (11, ao_api_Places r0)] (obC hc2 obN) ?_
      refine qD ?_
      refine sD kk [] [] [(13, vi 0)] obN ?_
      refine bD (id := 1) ?_
      obtain ⟨Inv12, mu13, h0Inv12, hInv12⟩ := h
      refine loD (fun (q : List arr4_uint64 × List Int × List Int × List (List Int) × Bool × Int) => (fun (out_Sets : List arr4_uint64) (out_First : List Int) (out_Last : List Int) (out_Follow : List (List Int)) (out_Null : Bool) (i : Int) => ([(4, .ptr 5 0), (5, av_api_Rx x), (7, .ptr 8 0), (8, .agg [oL 24 enc_arr4_uint64 ([]), oL 3 enc_i64 ([]), oL 3 enc_i64 ([]), oL 37 encs_i64 ([]), vB false]), (10, .ptr 11 0), (11, .agg [vL enc_arr4_uint64 out_Sets, vL enc_i64 out_First, vL enc_i64 out_Last, oL 37 encs_i64 out_Follow, vB out_Null]), (13, vi i)] : Sta)) q.1 q.2.1 q.2.2.1 q.2.2.2.1 q.2.2.2.2.1 q.2.2.2.2.2) (fun (q : List arr4_uint64 × List Int × List Int × List (List Int) × Bool × Int) => Inv12 q.1 q.2.1 q.2.2.1 q.2.2.2.1 q.2.2.2.2.1 q.2.2.2.2.2) (fun (q : List arr4_uint64 × List Int × List Int × List (List Int) × Bool × Int) => mu13 q.1 q.2.1 q.2.2.1 q.2.2.2.1 q.2.2.2.2.1 q.2.2.2.2.2) ((api_Places.Sets r0), (api_Places.First r0), (api_Places.Last r0), (api_Places.Follow r0), (api_Places.Null r0), 0) [(11, 0), (11, 1), (11, 2)] h0Inv12 ?_
      rintro ⟨out_Sets, out_First, out_Last, out_Follow, out_Null, i⟩ hi
      have h := hInv12 out_Sets out_First out_Last out_Follow out_Null i hi
      refine qD ?_
      refine sDE kk [] [] [(94, vB (decide (i < (↑(List.length (List.map enc_api_Rx (api_Rx.Kids x))) : Int))))] [(94, vB (decide (i < (↑(List.length (api_Rx.Kids x)) : Int))))] obN ?_
      refine cD (t := 31) (b := decide (i < (↑(List.length (api_Rx.Kids x)) : Int))) (fun hb14 => ?_) (fun hb14 => ?_)
      · have h := h.1 hb14
        refine Sem.skip' (by kernel_rfl) Wk.refl ?_
        show Sem _ _ _ _ _
        refine wkD [94] ?_
        refine qD ?_
        refine bD (id := 2) ?_
        obtain ⟨h15, h⟩ := h
        obtain ⟨h16, h⟩ := h
        obtain ⟨r0_5, hc17, h⟩ := h
        obtain ⟨r0_6, hc18, h⟩ := h
        refine rD kk [.e (fv_api_Rx (gd (api_Rx.Kids x) i)), .c (av_api_Places r0_5) [], .c (.agg [vL enc_arr4_uint64 (api_Places.Sets r0_6), vL enc_i64 (api_Places.First r0_6), vL enc_i64 (api_Places.Last r0_6), oL 37 encs_i64 (api_Places.Follow r0_6), vB (api_Places.Null r0_6)]) []] [] [(11, .agg [vL enc_arr4_uint64 (api_Places.Sets r0_6), vL enc_i64 (api_Places.First r0_6), vL enc_i64 (api_Places.Last r0_6), oL 37 encs_i64 (api_Places.Follow r0_6), vB (api_Places.Null r0_6)])] (obC h15 (obC (idx_ok enc_api_Rx (api_Rx.Kids x) i _ (enc_api_Rx_eq _) h15 h16) (obC hc17 (obC (Eq.mp (by unfold C_heckleref09_cat; (try simp only [List.drop_zero, List.take_length]); first | done | simp only [nm, enq] : C_heckleref09_cat ({ Sets := out_Sets, First := out_First, Last := out_Last, Follow := out_Follow, Null := out_Null }) r0_5 r0_6 = CallE Try.prog 47 [.agg [vL enc_arr4_uint64 out_Sets, vL enc_i64 out_First, vL enc_i64 out_Last, .f (FV.sl (List.take (List.length (List.map encs_i64 out_Follow)) (List.drop (0 : Nat) (List.map encs_i64 out_Follow)))), vB out_Null], .agg [vL enc_arr4_uint64 (api_Places.Sets r0_5), vL enc_i64 (api_Places.First r0_5), vL enc_i64 (api_Places.Last r0_5), vL encs_i64 (api_Places.Follow r0_5), vB (api_Places.Null r0_5)]] [] (.agg [vL enc_arr4_uint64 (api_Places.Sets r0_6), vL enc_i64 (api_Places.First r0_6), vL enc_i64 (api_Places.Last r0_6), oL 37 encs_i64 (api_Places.Follow r0_6), vB (api_Places.Null r0_6)]) []) hc18) obN)))) ?_
        show Sem _ _ _ _ _
        refine rD kk [] [] [(13, vi (w64 (i + 1)))] obN ?_
        exact lD ((api_Places.Sets r0_6), (api_Places.First r0_6), (api_Places.Last r0_6), (api_Places.Follow r0_6), (api_Places.Null r0_6), (w64 (i + 1))) [] h
      · have h := h.2 hb14
        refine xD (i := 1) ?_
        show Sem _ _ _ _ _
        refine wkD [4, 5, 13, 94] ?_
        refine sD kk [] [10, 11] [(8, .agg [vL enc_arr4_uint64 out_Sets, vL enc_i64 out_First, vL enc_i64 out_Last, oL 37 encs_i64 out_Follow, vB out_Null])] (obC (show (0 : Nat) = (0 : Nat) ∧ List.length (List.map encs_i64 out_Follow) = List.length (List.map encs_i64 out_Follow) from by first | decide | rfl | trivial | (simp only [nm] <;> first | decide | rfl | omega)) obN) ?_
        refine tD ?_
        obtain he0 := h
        subst res
        exact (endD [(8, 3)] (.agg [vL enc_arr4_uint64 out_Sets, vL enc_i64 out_First, vL enc_i64 out_Last, vL encs_i64 out_Follow, vB out_Null]) []).1
    · have h := h.2 hb1
      refine sD kk [] [73] [(130, vB (api_Rx.Kind x == (4 : Int)))] obN ?_
      refine cD (t := 43) (b := api_Rx.Kind x == (4 : Int)) (fun hb19 => ?_) (fun hb19 => ?_)
      · have h := h.1 hb19
        obtain ⟨h20, h⟩ := h
        obtain ⟨r0_7, hc21, h⟩ := h
        refine sD kk [.e (fv_api_Rx (List.getD (api_Rx.Kids x) (0 : Nat) default)), .c (av_api_Places r0_7) []] [43, 130] [(16, .ptr 17 0), (17, av_api_Places r0_7)] (obC (show (0 : Int) ≤ (0 : Int) from by first | decide | rfl | trivial | (simp only [nm] <;> first | decide | rfl | omega)) (obC (show (List.map enc_api_Rx (api_Rx.Kids x))[(Int.toNat (0 : Int) : Nat)]? = some (fv_api_Rx (List.getD (api_Rx.Kids x) (0 : Nat) default)) from by have := idx_ok' enc_api_Rx (api_Rx.Kids x) ((0 : Nat)) _ (enc_api_Rx_eq _) h20; simpa only [nm, enq, enc_api_Rx_eq] using this) (obC hc21 obN))) ?_
        refine qD ?_
        refine sD kk [] [] [(19, vi 1)] obN ?_
        refine bD (id := 3) ?_
        obtain ⟨Inv31, mu32, h0Inv31, hInv31⟩ := h
        refine loD (fun (q : List arr4_uint64 × List Int × List Int × List (List Int) × Bool × Int) => (fun (out_Sets_1 : List arr4_uint64) (out_First_1 : List Int) (out_Last_1 : List Int) (out_Follow_1 : List (List Int)) (out_Null_1 : Bool) (i_1 : Int) => ([(4, .ptr 5 0), (5, av_api_Rx x), (7, .ptr 8 0), (8, .agg [oL 24 enc_arr4_uint64 ([]), oL 3 enc_i64 ([]), oL 3 enc_i64 ([]), oL 37 encs_i64 ([]), vB false]), (16, .ptr 17 0), (17, .agg [vL enc_arr4_uint64 out_Sets_1, vL enc_i64 out_First_1, vL enc_i64 out_Last_1, vL encs_i64 out_Follow_1, vB out_Null_1]), (19, vi i_1)] : Sta)) q.1 q.2.1 q.2.2.1 q.2.2.2.1 q.2.2.2.2.1 q.2.2.2.2.2) (fun (q : List arr4_uint64 × List Int × List Int × List (List Int) × Bool × Int) => Inv31 q.1 q.2.1 q.2.2.1 q.2.2.2.1 q.2.2.2.2.1 q.2.2.2.2.2) (fun (q : List arr4_uint64 × List Int × List Int × List (List Int) × Bool × Int) => mu32 q.1 q.2.1 q.2.2.1 q.2.2.2.1 q.2.2.2.2.1 q.2.2.2.2.2) ((api_Places.Sets r0_7), (api_Places.First r0_7), (api_Places.Last r0_7), (api_Places.Follow r0_7), (api_Places.Null r0_7), 1) [] h0Inv31 ?_
        rintro ⟨out_Sets_1, out_First_1, out_Last_1, out_Follow_1, out_Null_1, i_1⟩ hi
        have h := hInv31 out_Sets_1 out_First_1 out_Last_1 out_Follow_1 out_Null_1 i_1 hi
        refine qD ?_
        refine sDE kk [] [] [(163, vB (decide (i_1 < (↑(List.length (List.map enc_api_Rx (api_Rx.Kids x))) : Int))))] [(163, vB (decide (i_1 < (↑(List.length (api_Rx.Kids x)) : Int))))] obN ?_
        refine cD (t := 54) (b := decide (i_1 < (↑(List.length (api_Rx.Kids x)) : Int))) (fun hb33 => ?_) (fun hb33 => ?_)
        · have h := h.1 hb33
          refine Sem.skip' (by kernel_rfl) Wk.refl ?_
          show Sem _ _ _ _ _
          refine wkD [163] ?_
          refine qD ?_
          refine bD (id := 4) ?_
          obtain ⟨h34, h⟩ := h
          obtain ⟨h35, h⟩ := h
          obtain ⟨r0_12, hc36, h⟩ := h
          obtain ⟨r0_13, hc37, h⟩ := h
          refine rD kk [.e (fv_api_Rx (gd (api_Rx.Kids x) i_1)), .c (av_api_Places r0_12) [], .c (.agg [vL enc_arr4_uint64 (api_Places.Sets r0_13), vL enc_i64 (api_Places.First r0_13), vL enc_i64 (api_Places.Last r0_13), oL 37 encs_i64 (api_Places.Follow r0_13), vB (api_Places.Null r0_13)]) []] [] [(17, .agg [vL enc_arr4_uint64 (api_Places.Sets r0_13), vL enc_i64 (api_Places.First r0_13), vL enc_i64 (api_Places.Last r0_13), oL 37 encs_i64 (api_Places.Follow r0_13), vB (api_Places.Null r0_13)])] (obC h34 (obC (idx_ok enc_api_Rx (api_Rx.Kids x) i_1 _ (enc_api_Rx_eq _) h34 h35) (obC hc36 (obC hc37 obN)))) ?_
          show Sem _ _ _ _ _
          refine rD kk [] [] [(19, vi (w64 (i_1 + 1)))] obN ?_
          exact lD ((api_Places.Sets r0_13), (api_Places.First r0_13), (api_Places.Last r0_13), (api_Places.Follow r0_13), (api_Places.Null r0_13), (w64 (i_1 + 1))) [(17, 3)] h
        · have h := h.2 hb33
          refine xD (i := 3) ?_
          show Sem _ _ _ _ _
          refine wkD [4, 5, 19, 163] ?_
          refine sD kk [] [16, 17] [(8, .agg [vL enc_arr4_uint64 out_Sets_1, vL enc_i64 out_First_1, vL enc_i64 out_Last_1, vL encs_i64 out_Follow_1, vB out_Null_1])] obN ?_
          refine tD ?_
          obtain he0 := h
          subst res
          exact (endD [] (.agg [vL enc_arr4_uint64 out_Sets_1, vL enc_i64 out_First_1, vL enc_i64 out_Last_1, vL encs_i64 out_Follow_1, vB out_Null_1]) []).1
      · have h := h.2 hb19
        refine sD kk [] [43, 130] [(199, vB (api_Rx.Kind x == (5 : Int)))] obN ?_
        refine cD (t := 66) (b := api_Rx.Kind x == (5 : Int)) (fun hb38 => ?_) (fun hb38 => ?_)
        · have h := h.1 hb38
          obtain ⟨h39, h⟩ := h
          obtain ⟨r0_14, hc40, h⟩ := h
          refine sD kk [.e (fv_api_Rx (List.getD (api_Rx.Kids x) (0 : Nat) default)), .c (av_api_Places r0_14) []] [199] [(22, .ptr 23 0), (23, av_api_Places r0_14)] (obC (show (0 : Int) ≤ (0 : Int) from by first | decide | rfl | trivial | (simp only [nm] <;> first | decide | rfl | omega)) (obC (show (List.map enc_api_Rx (api_Rx.Kids x))[(Int.toNat (0 : Int) : Nat)]? = some (fv_api_Rx (List.getD (api_Rx.Kids x) (0 : Nat) default)) from by have := idx_ok' enc_api_Rx (api_Rx.Kids x) ((0 : Nat)) _ (enc_api_Rx_eq _) h39; simpa only [nm, enq, enc_api_Rx_eq] using this) (obC hc40 obN))) ?_
          obtain ⟨r0_15, hc41, h⟩ := h
          refine sD kk [.c (ao_api_Places r0_15) []] [] [(25, .ptr 26 0), (26, ao_api_Places r0_15)] (obC hc41 obN) ?_
          refine qD ?_
          refine sD kk [] [] [(229, vB (decide (api_Rx.Hi x < (0 : Int))))] obN ?_
          refine cD (t := 76) (b := decide (api_Rx.Hi x < (0 : Int))) (fun hb42 => ?_) (fun hb42 => ?_)
          · have h := h.1 hb42
            refine qD ?_
            refine sD kk [] [229] [(28, vi 1)] obN ?_
            refine bD (id := 5) ?_
            obtain ⟨Inv47, mu48, h0Inv47, hInv47⟩ := h
            refine loD (fun (q : List arr4_uint64 × List Int × List Int × List (List Int) × Bool × Int) => (fun (out_Sets_2 : List arr4_uint64) (out_First_2 : List Int) (out_Last_2 : List Int) (out_Follow_2 : List (List Int)) (out_Null_2 : Bool) (i_2 : Int) => ([(4, .ptr 5 0), (5, av_api_Rx x), (7, .ptr 8 0), (8, .agg [oL 24 enc_arr4_uint64 ([]), oL 3 enc_i64 ([]), oL 3 enc_i64 ([]), oL 37 encs_i64 ([]), vB false]), (22, .ptr 23 0), (23, av_api_Places r0_14), (25, .ptr 26 0), (26, .agg [vL enc_arr4_uint64 out_Sets_2, vL enc_i64 out_First_2, vL enc_i64 out_Last_2, oL 37 encs_i64 out_Follow_2, vB out_Null_2]), (28, vi i_2)] : Sta)) q.1 q.2.1 q.2.2.1 q.2.2.2.1 q.2.2.2.2.1 q.2.2.2.2.2) (fun (q : List arr4_uint64 × List Int × List Int × List (List Int) × Bool × Int) => Inv47 q.1 q.2.1 q.2.2.1 q.2.2.2.1 q.2.2.2.2.1 q.2.2.2.2.2) (fun (q : List arr4_uint64 × List Int × List Int × List (List Int) × Bool × Int) => mu48 q.1 q.2.1 q.2.2.1 q.2.2.2.1 q.2.2.2.2.1 q.2.2.2.2.2) ((api_Places.Sets r0_15), (api_Places.First r0_15), (api_Places.Last r0_15), (api_Places.Follow r0_15), (api_Places.Null r0_15), 1) [(26, 0), (26, 1), (26, 2)] h0Inv47 ?_
            rintro ⟨out_Sets_2, out_First_2, out_Last_2, out_Follow_2, out_Null_2, i_2⟩ hi
            have h := hInv47 out_Sets_2 out_First_2 out_Last_2 out_Follow_2 out_Null_2 i_2 hi
            refine qD ?_
            refine sD kk [] [] [(241, vB (decide (i_2 < api_Rx.Lo x)))] obN ?_
            refine cD (t := 80) (b := decide (i_2 < api_Rx.Lo x)) (fun hb49 => ?_) (fun hb49 => ?_)
            · have h := h.1 hb49
              refine Sem.skip' (by kernel_rfl) Wk.refl ?_
              show Sem _ _ _ _ _
              refine wkD [241] ?_
              refine qD ?_
              refine bD (id := 6) ?_
              obtain ⟨r0_18, hc50, h⟩ := h
              refine rD kk [.c (.agg [vL enc_arr4_uint64 (api_Places.Sets r0_18), vL enc_i64 (api_Places.First r0_18), vL enc_i64 (api_Places.Last r0_18), oL 37 encs_i64 (api_Places.Follow r0_18), vB (api_Places.Null r0_18)]) []] [] [(26, .agg [vL enc_arr4_uint64 (api_Places.Sets r0_18), vL enc_i64 (api_Places.First r0_18), vL enc_i64 (api_Places.Last r0_18), oL 37 encs_i64 (api_Places.Follow r0_18), vB (api_Places.Null r0_18)])] (obC (Eq.mp (by unfold C_heckleref09_cat; (try simp only [List.drop_zero, List.take_length]); first | done | simp only [nm, enq] : C_heckleref09_cat ({ Sets := out_Sets_2, First := out_First_2, Last := out_Last_2, Follow := out_Follow_2, Null := out_Null_2 }) r0_14 r0_18 = CallE Try.prog 47 [.agg [vL enc_arr4_uint64 out_Sets_2, vL enc_i64 out_First_2, vL enc_i64 out_Last_2, .f (FV.sl (List.take (List.length (List.map encs_i64 out_Follow_2)) (List.drop (0 : Nat) (List.map encs_i64 out_Follow_2)))), vB out_Null_2], .agg [vL enc_arr4_uint64 (api_Places.Sets r0_14), vL enc_i64 (api_Places.First r0_14), vL enc_i64 (api_Places.Last r0_14), vL encs_i64 (api_Places.Follow r0_14), vB (api_Places.Null r0_14)]] [] (.agg [vL enc_arr4_uint64 (api_Places.Sets r0_18), vL enc_i64 (api_Places.First r0_18), vL enc_i64 (api_Places.Last r0_18), oL 37 encs_i64 (api_Places.Follow r0_18), vB (api_Places.Null r0_18)]) []) hc50) obN) ?_
              show Sem _ _ _ _ _
              refine rD kk [] [] [(28, vi (w64 (i_2 + 1)))] obN ?_
              exact lD ((api_Places.Sets r0_18), (api_Places.First r0_18), (api_Places.Last r0_18), (api_Places.Follow r0_18), (api_Places.Null r0_18), (w64 (i_2 + 1))) [] h
            · have h := h.2 hb49
              refine xD (i := 5) ?_
              show Sem _ _ _ _ _
              refine wkD [28, 241] ?_
              obtain ⟨r0_19, hc51, h⟩ := h
              refine sD kk [.c (.agg [vL enc_arr4_uint64 (api_Places.Sets r0_19), vL enc_i64 (api_Places.First r0_19), vL enc_i64 (api_Places.Last r0_19), oL 37 encs_i64 (api_Places.Follow r0_19), vB (api_Places.Null r0_19)]) []] [22, 23] [(31, .ptr 32 0), (32, .agg [vL enc_arr4_uint64 (api_Places.Sets r0_19), vL enc_i64 (api_Places.First r0_19), vL enc_i64 (api_Places.Last r0_19), oL 37 encs_i64 (api_Places.Follow r0_19), vB (api_Places.Null r0_19)])] (obC hc51 obN) ?_
              obtain ⟨J54, hJ54, h⟩ := h
              refine sjD (fun (q : List arr4_uint64 × List Int × List Int × List (List Int) × Bool) => J54 q.1 q.2.1 q.2.2.1 q.2.2.2.1 q.2.2.2.2) (fun (q : List arr4_uint64 × List Int × List Int × List (List Int) × Bool) => (fun (last_Sets : List arr4_uint64) (last_First : List Int) (last_Last : List Int) (last_Follow : List (List Int)) (last_Null : Bool) => ([(7, .ptr 8 0), (8, .agg [oL 24 enc_arr4_uint64 ([]), oL 3 enc_i64 ([]), oL 3 enc_i64 ([]), oL 37 encs_i64 ([]), vB false]), (25, .ptr 26 0), (26, .agg [vL enc_arr4_uint64 out_Sets_2, vL enc_i64 out_First_2, vL enc_i64 out_Last_2, oL 37 encs_i64 out_Follow_2, vB out_Null_2]), (31, .ptr 32 0), (32, .agg [vL enc_arr4_uint64 last_Sets, vL enc_i64 last_First, vL enc_i64 last_Last, vL encs_i64 last_Follow, vB last_Null])] : Sta)) q.1 q.2.1 q.2.2.1 q.2.2.2.1 q.2.2.2.2) ?_ ?_
              · rintro ⟨last_Sets, last_First, last_Last, last_Follow, last_Null⟩ hj
                have h := hJ54 last_Sets last_First last_Last last_Follow last_Null hj
                obtain ⟨r0_21, hc55, h⟩ := h
                refine sD kk [.c (.agg [vL enc_arr4_uint64 (api_Places.Sets r0_21), vL enc_i64 (api_Places.First r0_21), vL enc_i64 (api_Places.Last r0_21), oL 37 encs_i64 (api_Places.Follow r0_21), vB (api_Places.Null r0_21)]) []] [25, 26, 31, 32] [(8, .agg [vL enc_arr4_uint64 (api_Places.Sets r0_21), vL enc_i64 (api_Places.First r0_21), vL enc_i64 (api_Places.Last r0_21), oL 37 encs_i64 (api_Places.Follow r0_21), vB (api_Places.Null r0_21)])] (obC (Eq.mp (by unfold C_heckleref09_cat; (try simp only [List.drop_zero, List.take_length]); first | done | simp only [nm, enq] : C_heckleref09_cat ({ Sets := out_Sets_2, First := out_First_2, Last := out_Last_2, Follow := out_Follow_2, Null := out_Null_2 }) ({ Sets := last_Sets, First := last_First, Last := last_Last, Follow := last_Follow, Null := last_Null }) r0_21 = CallE Try.prog 47 [.agg [vL enc_arr4_uint64 out_Sets_2, vL enc_i64 out_First_2, vL enc_i64 out_Last_2, .f (FV.sl (List.take (List.length (List.map encs_i64 out_Follow_2)) (List.drop (0 : Nat) (List.map encs_i64 out_Follow_2)))), vB out_Null_2], .agg [vL enc_arr4_uint64 last_Sets, vL enc_i64 last_First, vL enc_i64 last_Last, vL encs_i64 last_Follow, vB last_Null]] [] (.agg [vL enc_arr4_uint64 (api_Places.Sets r0_21), vL enc_i64 (api_Places.First r0_21), vL enc_i64 (api_Places.Last r0_21), oL 37 encs_i64 (api_Places.Follow r0_21), vB (api_Places.Null r0_21)]) []) hc55) obN) ?_
                refine tD ?_
                obtain he0 := h
                subst res
                exact (endD [(8, 3)] (av_api_Places r0_21) []).1
              · refine sD kk [] [4, 5] [(271, vB (api_Rx.Lo x == 0))] obN ?_
                refine cD (t := 90) (b := api_Rx.Lo x == 0) (fun hb56 => ?_) (fun hb56 => ?_)
                · have h := h.1 hb56
                  obtain ⟨r0_22, hc57, h⟩ := h
                  refine rD kk [.c (av_api_Places r0_22) []] [271] [(32, av_api_Places r0_22)] (obC (Eq.mp (by unfold C_heckleref09_maybe; (try simp only [List.drop_zero, List.take_length]); first | done | simp only [nm, enq] : C_heckleref09_maybe r0_19 r0_22 = CallE Try.prog 50 [.agg [vL enc_arr4_uint64 (api_Places.Sets r0_19), vL enc_i64 (api_Places.First r0_19), vL enc_i64 (api_Places.Last r0_19), .f (FV.sl (List.take (List.length (List.map encs_i64 (api_Places.Follow r0_19))) (List.drop (0 : Nat) (List.map encs_i64 (api_Places.Follow r0_19))))), vB (api_Places.Null r0_19)]] [] (av_api_Places r0_22) []) hc57) obN) ?_
                  exact jD ((api_Places.Sets r0_22), (api_Places.First r0_22), (api_Places.Last r0_22), (api_Places.Follow r0_22), (api_Places.Null r0_22)) [] h
                · have h := h.2 hb56
                  refine Sem.skip' (by kernel_rfl) Wk.refl ?_
                  exact jD ((api_Places.Sets r0_19), (api_Places.First r0_19), (api_Places.Last r0_19), (api_Places.Follow r0_19), (api_Places.Null r0_19)) [(32, 3)] h
          · have h := h.2 hb42
            refine Sem.skip' (by kernel_rfl) Wk.refl ?_
            show Sem _ _ _ _ _
            refine wkD [229] ?_
            refine qD ?_
            refine sD kk [] [] [(34, vi (api_Rx.Lo x))] obN ?_
            refine bD (id := 7) ?_
            obtain ⟨Inv64, mu65, h0Inv64, hInv64⟩ := h
            refine loD (fun (q : List arr4_uint64 × List Int × List Int × List (List Int) × Bool × Int) => (fun (out_Sets_3 : List arr4_uint64) (out_First_3 : List Int) (out_Last_3 : List Int) (out_Follow_3 : List (List Int)) (out_Null_3 : Bool) (i_3 : Int) => ([(4, .ptr 5 0), (5, av_api_Rx x), (7, .ptr 8 0), (8, .agg [oL 24 enc_arr4_uint64 ([]), oL 3 enc_i64 ([]), oL 3 enc_i64 ([]), oL 37 encs_i64 ([]), vB false]), (22, .ptr 23 0), (23, av_api_Places r0_14), (25, .ptr 26 0), (26, .agg [vL enc_arr4_uint64 out_Sets_3, vL enc_i64 out_First_3, vL enc_i64 out_Last_3, vL encs_i64 out_Follow_3, vB out_Null_3]), (34, vi i_3)] : Sta)) q.1 q.2.1 q.2.2.1 q.2.2.2.1 q.2.2.2.2.1 q.2.2.2.2.2) (fun (q : List arr4_uint64 × List Int × List Int × List (List Int) × Bool × Int) => Inv64 q.1 q.2.1 q.2.2.1 q.2.2.2.1 q.2.2.2.2.1 q.2.2.2.2.2) (fun (q : List arr4_uint64 × List Int × List Int × List (List Int) × Bool × Int) => mu65 q.1 q.2.1 q.2.2.1 q.2.2.2.1 q.2.2.2.2.1 q.2.2.2.2.2) ((api_Places.Sets r0_15), (api_Places.First r0_15), (api_Places.Last r0_15), (api_Places.Follow r0_15), (api_Places.Null r0_15), (api_Rx.Lo x)) [(26, 0), (26, 1), (26, 2), (26, 3)] h0Inv64 ?_
            rintro ⟨out_Sets_3, out_First_3, out_Last_3, out_Follow_3, out_Null_3, i_3⟩ hi
            have h := hInv64 out_Sets_3 out_First_3 out_Last_3 out_Follow_3 out_Null_3 i_3 hi
            refine qD ?_
            refine sD kk [] [] [(304, vB (decide (i_3 < api_Rx.Hi x)))] obN ?_
            refine cD (t := 101) (b := decide (i_3 < api_Rx.Hi x)) (fun hb66 => ?_) (fun hb66 => ?_)
            · have h := h.1 hb66
              refine Sem.skip' (by kernel_rfl) Wk.refl ?_
              show Sem _ _ _ _ _
              refine wkD [304] ?_
              refine qD ?_
              refine bD (id := 8) ?_
              obtain ⟨r0_27, hc67, h⟩ := h
              obtain ⟨r0_28, hc68, h⟩ := h
              refine rD kk [.c (.agg [vL enc_arr4_uint64 (api_Places.Sets r0_27), vL enc_i64 (api_Places.First r0_27), vL enc_i64 (api_Places.Last r0_27), oL 37 encs_i64 (api_Places.Follow r0_27), vB (api_Places.Null r0_27)]) [], .c (av_api_Places r0_28) []] [] [(26, av_api_Places r0_28)] (obC hc67 (obC (Eq.mp (by unfold C_heckleref09_maybe; (try simp only [List.drop_zero, List.take_length]); first | done | simp only [nm, enq] : C_heckleref09_maybe r0_27 r0_28 = CallE Try.prog 50 [.agg [vL enc_arr4_uint64 (api_Places.Sets r0_27), vL enc_i64 (api_Places.First r0_27), vL enc_i64 (api_Places.Last r0_27), .f (FV.sl (List.take (List.length (List.map encs_i64 (api_Places.Follow r0_27))) (List.drop (0 : Nat) (List.map encs_i64 (api_Places.Follow r0_27))))), vB (api_Places.Null r0_27)]] [] (av_api_Places r0_28) []) hc68) obN)) ?_
              show Sem _ _ _ _ _
              refine rD kk [] [] [(34, vi (w64 (i_3 + 1)))] obN ?_
              exact lD ((api_Places.Sets r0_28), (api_Places.First r0_28), (api_Places.Last r0_28), (api_Places.Follow r0_28), (api_Places.Null r0_28), (w64 (i_3 + 1))) [] h
            · have h := h.2 hb66
              refine xD (i := 7) ?_
              show Sem _ _ _ _ _
              refine wkD [34, 304] ?_
              refine qD ?_
              refine sD kk [] [] [(37, vi 0)] obN ?_
              refine bD (id := 9) ?_
              obtain ⟨Inv73, mu74, h0Inv73, hInv73⟩ := h
              refine loD (fun (q : List arr4_uint64 × List Int × List Int × List (List Int) × Bool × Int) => (fun (out_Sets_4 : List arr4_uint64) (out_First_4 : List Int) (out_Last_4 : List Int) (out_Follow_4 : List (List Int)) (out_Null_4 : Bool) (i_4 : Int) => ([(4, .ptr 5 0), (5, av_api_Rx x), (7, .ptr 8 0), (8, .agg [oL 24 enc_arr4_uint64 ([]), oL 3 enc_i64 ([]), oL 3 enc_i64 ([]), oL 37 encs_i64 ([]), vB false]), (22, .ptr 23 0), (23, av_api_Places r0_14), (25, .ptr 26 0), (26, .agg [vL enc_arr4_uint64 out_Sets_4, vL enc_i64 out_First_4, vL enc_i64 out_Last_4, vL encs_i64 out_Follow_4, vB out_Null_4]), (37, vi i_4)] : Sta)) q.1 q.2.1 q.2.2.1 q.2.2.2.1 q.2.2.2.2.1 q.2.2.2.2.2) (fun (q : List arr4_uint64 × List Int × List Int × List (List Int) × Bool × Int) => Inv73 q.1 q.2.1 q.2.2.1 q.2.2.2.1 q.2.2.2.2.1 q.2.2.2.2.2) (fun (q : List arr4_uint64 × List Int × List Int × List (List Int) × Bool × Int) => mu74 q.1 q.2.1 q.2.2.1 q.2.2.2.1 q.2.2.2.2.1 q.2.2.2.2.2) (out_Sets_3, out_First_3, out_Last_3, out_Follow_3, out_Null_3, 0) [] h0Inv73 ?_
              rintro ⟨out_Sets_4, out_First_4, out_Last_4, out_Follow_4, out_Null_4, i_4⟩ hi
              have h := hInv73 out_Sets_4 out_First_4 out_Last_4 out_Follow_4 out_Null_4 i_4 hi
              refine qD ?_
              refine sD kk [] [] [(334, vB (decide (i_4 < api_Rx.Lo x)))] obN ?_
              refine cD (t := 111) (b := decide (i_4 < api_Rx.Lo x)) (fun hb75 => ?_) (fun hb75 => ?_)
              · have h := h.1 hb75
                refine Sem.skip' (by kernel_rfl) Wk.refl ?_
                show Sem _ _ _ _ _
                refine wkD [334] ?_
                refine qD ?_
                refine bD (id := 10) ?_
                obtain ⟨r0_31, hc76, h⟩ := h
                refine rD kk [.c (.agg [vL enc_arr4_uint64 (api_Places.Sets r0_31), vL enc_i64 (api_Places.First r0_31), vL enc_i64 (api_Places.Last r0_31), oL 37 encs_i64 (api_Places.Follow r0_31), vB (api_Places.Null r0_31)]) []] [] [(26, .agg [vL enc_arr4_uint64 (api_Places.Sets r0_31), vL enc_i64 (api_Places.First r0_31), vL enc_i64 (api_Places.Last r0_31), oL 37 encs_i64 (api_Places.Follow r0_31), vB (api_Places.Null r0_31)])] (obC hc76 obN) ?_
                show Sem _ _ _ _ _
                refine rD kk [] [] [(37, vi (w64 (i_4 + 1)))] obN ?_
                exact lD ((api_Places.Sets r0_31), (api_Places.First r0_31), (api_Places.Last r0_31), (api_Places.Follow r0_31), (api_Places.Null r0_31), (w64 (i_4 + 1))) [(26, 3)] h
              · have h := h.2 hb75
                refine xD (i := 9) ?_
                show Sem _ _ _ _ _
                refine wkD [4, 5, 22, 23, 37, 334] ?_
                refine sD kk [] [25, 26] [(8, .agg [vL enc_arr4_uint64 out_Sets_4, vL enc_i64 out_First_4, vL enc_i64 out_Last_4, vL encs_i64 out_Follow_4, vB out_Null_4])] obN ?_
                refine tD ?_
                obtain he0 := h
                subst res
                exact (endD [] (.agg [vL enc_arr4_uint64 out_Sets_4, vL enc_i64 out_First_4, vL enc_i64 out_Last_4, vL encs_i64 out_Follow_4, vB out_Null_4]) []).1
        · have h := h.2 hb38
          refine Sem.skip' (by kernel_rfl) Wk.refl ?_
          show Sem _ _ _ _ _
          refine wkD [4, 5, 199] ?_
          obtain ⟨r0_32, hc77, h⟩ := h
          refine sD kk [.c (ao_api_Places r0_32) []] [] [(8, ao_api_Places r0_32)] (obC hc77 obN) ?_
          refine tD ?_
          obtain he0 := h
          subst res
          exact (endD [(8, 0), (8, 1), (8, 2), (8, 3)] (av_api_Places r0_32) []).1
set_option maxHeartbeats 1000000 in
theorem W_heckleref09_Of (x : api_Rx) (res : api_Places) (res_1 : Int)
    (h : (∃ r0 : Bool, C_heckleref03_Right x r0 ∧ (((!r0) = true → (res = ({ Sets := [], First := [], Last := [], Follow := [], Null := false }) ∧ res_1 = 1)) ∧ ((!r0) = false → (∃ r0_1 : api_Places, C_heckleref09_of x r0_1 ∧ (res = r0_1 ∧ res_1 = 0)))))) : C_heckleref09_Of x res res_1 := by
  unfold C_heckleref09_Of
  have kk := cfOk [] 10
  refine fD (x := bodyOf Try.f21) kk Try.func21 ?_
  refine wkS [1] [(1, av_api_Rx x)] (by kernel_rfl) ?_
  refine sDE kk [] [1] [(4, .ptr 5 0), (5, av_api_Rx x), (7, .ptr 8 0), (8, .agg [.own 24 ([]), .own 3 ([]), .own 3 ([]), .own 37 ([]), vB false])] [(4, .ptr 5 0), (5, av_api_Rx x), (7, .ptr 8 0), (8, .agg [oL 24 enc_arr4_uint64 ([]), oL 3 enc_i64 ([]), oL 3 enc_i64 ([]), oL 37 encs_i64 ([]), vB false])] obN ?_
  refine qD ?_
  obtain ⟨r0, hc0, h⟩ := h
  refine sD kk [.c (vB r0) []] [] [(19, vB (!r0))] (obC hc0 obN) ?_
  refine cD (t := 6) (b := !r0) (fun hb1 => ?_) (fun hb1 => ?_)
  · have h := h.1 hb1
    refine sDE kk [] [4, 5, 19] [(8, .agg [.own 24 ([]), .own 3 ([]), .own 3 ([]), .own 37 ([]), vB false]), (10, vi 1)] [(8, .agg [oL 24 enc_arr4_uint64 ([]), oL 3 enc_i64 ([]), oL 3 enc_i64 ([]), oL 37 encs_i64 ([]), vB false]), (10, vi 1)] obN ?_
    refine tD ?_
    obtain ⟨he0, he1⟩ := h
    subst res res_1
    exact (endD [] (.tup [.agg [.f (FV.sl (List.take (List.length (List.map enc_arr4_uint64 [])) (List.drop (0 : Nat) (List.map enc_arr4_uint64 [])))), .f (FV.sl (List.take (List.length (List.map enc_i64 [])) (List.drop (0 : Nat) (List.map enc_i64 [])))), .f (FV.sl (List.take (List.length (List.map enc_i64 [])) (List.drop (0 : Nat) (List.map enc_i64 [])))), .f (FV.sl (List.take (List.length (List.map encs_i64 [])) (List.drop (0 : Nat) (List.map encs_i64 [])))), vB false], vi 1]) []).1
  · have h := h.2 hb1
    refine Sem.skip' (by kernel_rfl) Wk.refl ?_
    show Sem _ _ _ _ _
    refine wkD [19] ?_
    obtain ⟨r0_1, hc2, h⟩ := h
    refine sD kk [.c (av_api_Places r0_1) []] [4, 5] [(8, av_api_Places r0_1), (10, vi 0)] (obC hc2 obN) ?_
    refine tD ?_
    obtain ⟨he0, he1⟩ := h
    subst res res_1
    exact (endD [] (.tup [av_api_Places r0_1, vi 0]) []).1
set_option maxHeartbeats 1000000 in
theorem W_heckleref09_ints (a : (List Int)) (b : (List Int)) (res : Bool)
    (h : ((((↑(List.length a) : Int) != (↑(List.length b) : Int)) = true → (res = false)) ∧ (((↑(List.length a) : Int) != (↑(List.length b) : Int)) = false → (∃ (Inv11 : Int → Prop) (mu12 : Int → Nat), Inv11 0 ∧ (∀ (i : Int), Inv11 i → (((decide (i < (↑(List.length a) : Int))) = true → ((0 : Int) ≤ i) ∧ i < ↑(List.length a) ∧ ((0 : Int) ≤ i) ∧ i < ↑(List.length b) ∧ (((gd a i != gd b i) = true → (res = false)) ∧ ((gd a i != gd b i) = false → (Inv11 (w64 (i + 1)) ∧ mu12 (w64 (i + 1)) < mu12 i)))) ∧ ((decide (i < (↑(List.length a) : Int))) = false → (res = true)))))))) : C_heckleref09_ints a b res := by
  unfold C_heckleref09_ints
  have kk := cfOk [] 26
  refine fD (x := bodyOf Try.f31) kk Try.func31 ?_
  refine wkS [1, 4] [(1, vL enc_i64 a), (4, vL enc_i64 b)] (by kernel_rfl) ?_
  refine sD kk [] [] [] obN ?_
  refine qD ?_
  refine sDE kk [] [] [(31, vB ((↑(List.length (List.map enc_i64 a)) : Int) != (↑(List.length (List.map enc_i64 b)) : Int)))] [(31, vB ((↑(List.length a) : Int) != (↑(List.length b) : Int)))] obN ?_
  refine cD (t := 10) (b := (↑(List.length a) : Int) != (↑(List.length b) : Int)) (fun hb0 => ?_) (fun hb0 => ?_)
  · have h := h.1 hb0
    refine sD kk [] [1, 4, 31] [(13, vB false)] obN ?_
    refine tD ?_
    obtain he0 := h
    subst res
    exact (endD [] (vB false) []).1
  · have h := h.2 hb0
    refine Sem.skip' (by kernel_rfl) Wk.refl ?_
    show Sem _ _ _ _ _
    refine wkD [31] ?_
    refine qD ?_
    refine sD kk [] [] [(16, vi 0)] obN ?_
    refine bD (id := 0) ?_
    obtain ⟨Inv11, mu12, h0Inv11, hInv11⟩ := h
    refine loD (fun (q : Int) => (fun (i : Int) => ([(1, vL enc_i64 a), (4, vL enc_i64 b), (16, vi i)] : Sta)) q) (fun (q : Int) => Inv11 q) (fun (q : Int) => mu12 q) 0 [] h0Inv11 ?_
    rintro i hi
    have h := hInv11 i hi
    refine qD ?_
    refine sDE kk [] [] [(43, vB (decide (i < (↑(List.length (List.map enc_i64 a)) : Int))))] [(43, vB (decide (i < (↑(List.length a) : Int))))] obN ?_
    refine cD (t := 14) (b := decide (i < (↑(List.length a) : Int))) (fun hb13 => ?_) (fun hb13 => ?_)
    · have h := h.1 hb13
      refine Sem.skip' (by kernel_rfl) Wk.refl ?_
      show Sem _ _ _ _ _
      refine wkD [43] ?_
      refine qD ?_
      refine bD (id := 1) ?_
      obtain ⟨h14, h⟩ := h
      obtain ⟨h15, h⟩ := h
      obtain ⟨h16, h⟩ := h
      obtain ⟨h17, h⟩ := h
      refine sD kk [.e (fi (gd a i)), .e (fi (gd b i))] [] [(76, vB (gd a i != gd b i))] (obC h14 (obC (idx_ok enc_i64 a i _ rfl h14 h15) (obC h16 (obC (idx_ok enc_i64 b i _ rfl h16 h17) obN)))) ?_
      refine cD (t := 25) (b := gd a i != gd b i) (fun hb18 => ?_) (fun hb18 => ?_)
      · have h := h.1 hb18
        refine sD kk [] [1, 4, 16, 76] [(13, vB false)] obN ?_
        refine tD ?_
        obtain he0 := h
        subst res
        exact (endD [] (vB false) []).1
      · have h := h.2 hb18
        refine Sem.skip' (by kernel_rfl) Wk.refl ?_
        show Sem _ _ _ _ _
        refine wkD [76] ?_
        refine rD kk [] [] [(16, vi (w64 (i + 1)))] obN ?_
        exact lD (w64 (i + 1)) [] h
    · have h := h.2 hb13
      refine xD (i := 0) ?_
      show Sem _ _ _ _ _
      refine wkD [1, 4, 16, 43] ?_
      refine sD kk [] [] [(13, vB true)] obN ?_
      refine tD ?_
      obtain he0 := h
      subst res
      exact (endD [] (vB true) []).1
set_option maxHeartbeats 1000000 in
theorem W_heckleref09_Same (a : api_Places) (b : api_Places) (res : Bool)
    (h : ((((↑(List.length (List.map enc_arr4_uint64 (api_Places.Sets a))) : Int) != (↑(List.length (List.map enc_arr4_uint64 (api_Places.Sets b))) : Int)) = true → (res = false)) ∧ (((↑(List.length (List.map enc_arr4_uint64 (api_Places.Sets a))) : Int) != (↑(List.length (List.map enc_arr4_uint64 (api_Places.Sets b))) : Int)) = false → ((((↑(List.length (List.map encs_i64 (api_Places.Follow a))) : Int) != (↑(List.length (List.map encs_i64 (api_Places.Follow b))) : Int)) = true → (res = false)) ∧ (((↑(List.length (List.map encs_i64 (api_Places.Follow a))) : Int) != (↑(List.length (List.map encs_i64 (api_Places.Follow b))) : Int)) = false → (((!api_Places.Null a == api_Places.Null b) = true → (res = false)) ∧ ((!api_Places.Null a == api_Places.Null b) = false → (∃ r0 : Bool, C_heckleref09_ints (api_Places.First a) (api_Places.First b) r0 ∧ (((!r0) = true → (res = false)) ∧ ((!r0) = false → (∃ r0_1 : Bool, C_heckleref09_ints (api_Places.Last a) (api_Places.Last b) r0_1 ∧ (((!r0_1) = true → (res = false)) ∧ ((!r0_1) = false → (∃ (Inv17 : Int → Prop) (mu18 : Int → Nat), Inv17 0 ∧ (∀ (i : Int), Inv17 i → (((decide (i < (↑(List.length (api_Places.Sets a)) : Int))) = true → ((0 : Int) ≤ i) ∧ i < ↑(List.length (api_Places.Sets a)) ∧ ((0 : Int) ≤ i) ∧ i < ↑(List.length (api_Places.Sets b)) ∧ (((!(arr4_uint64.e0 (gd (api_Places.Sets a) i) == arr4_uint64.e0 (gd (api_Places.Sets b) i) && (arr4_uint64.e1 (gd (api_Places.Sets a) i) == arr4_uint64.e1 (gd (api_Places.Sets b) i) && (arr4_uint64.e2 (gd (api_Places.Sets a) i) == arr4_uint64.e2 (gd (api_Places.Sets b) i) && (arr4_uint64.e3 (gd (api_Places.Sets a) i) == arr4_uint64.e3 (gd (api_Places.Sets b) i) && true))))) = true → (res = false)) ∧ ((!(arr4_uint64.e0 (gd (api_Places.Sets a) i) == arr4_uint64.e0 (gd (api_Places.Sets b) i) && (arr4_uint64.e1 (gd (api_Places.Sets a) i) == arr4_uint64.e1 (gd (api_Places.Sets b) i) && (arr4_uint64.e2 (gd (api_Places.Sets a) i) == arr4_uint64.e2 (gd (api_Places.Sets b) i) && (arr4_uint64.e3 (gd (api_Places.Sets a) i) == arr4_uint64.e3 (gd (api_Places.Sets b) i) && true))))) = false → (Inv17 (w64 (i + 1)) ∧ mu18 (w64 (i + 1)) < mu18 i)))) ∧ ((decide (i < (↑(List.length (api_Places.Sets a)) : Int))) = false → (∃ (Inv37 : Int → Prop) (mu38 : Int → Nat), Inv37 0 ∧ (∀ (i_1 : Int), Inv37 i_1 → (((decide (i_1 < (↑(List.length (api_Places.Follow a)) : Int))) = true → ((0 : Int) ≤ i_1) ∧ i_1 < ↑(List.length (api_Places.Follow a)) ∧ ((0 : Int) ≤ i_1) ∧ i_1 < ↑(List.length (api_Places.Follow b)) ∧ (∃ r0_4 : Bool, C_heckleref09_ints (gd (api_Places.Follow a) i_1) (gd (api_Places.Follow b) i_1) r0_4 ∧ (((!r0_4) = true → (res = false)) ∧ ((!r0_4) = false → (Inv37 (w64 (i_1 + 1)) ∧ mu38 (w64 (i_1 + 1)) < mu38 i_1))))) ∧ ((decide (i_1 < (↑(List.length (api_Places.Follow a)) : Int))) = false → (res = true)))))))))))))))))))))) : C_heckleref09_Same a b res := by
  unfold C_heckleref09_Same
  have kk := cfOk [] 83
  refine fD (x := bodyOf Try.f22) kk Try.func22 ?_
  refine wkS [1, 4] [(1, av_api_Places a), (4, av_api_Places b)] (by kernel_rfl) ?_
  refine sD kk [] [1, 4] [(7, .ptr 8 0), (8, av_api_Places a), (10, .ptr 11 0), (11, av_api_Places b)] obN ?_
  refine qD ?_
  rcases Bool.eq_false_or_eq_true ((↑(List.length (List.map enc_arr4_uint64 (api_Places.Sets a))) : Int) != (↑(List.length (List.map enc_arr4_uint64 (api_Places.Sets b))) : Int)) with hb0 | hb0
  · have h := h.1 hb0
    refine sD kk [.b false, .b false, .b false, .b false, .b false, .b false, .b false, .b true, .b false, .b false, .b false, .b false, .b false, .b true, .b false, .b false, .b false, .b false, .b false, .b false, .b true, .b false, .b false, .b false, .b false, .b false, .b false, .b true] [] [(136, vB true)] (obC (gff hb0) (obC (gff hb0) (obC (gff hb0) (obC (gff hb0) (obC (gff hb0) (obC (gff hb0) (obC (gff hb0) (obC hb0 (obC (rfl : false = false) (obC (rfl : false = false) (obC (rfl : false = false) (obC (rfl : false = false) (obC (rfl : false = false) (obC (rfl : true = true) (obC (rfl : false = false) (obC (rfl : false = false) (obC (rfl : false = false) (obC (rfl : false = false) (obC (rfl : false = false) (obC (rfl : false = false) (obC (rfl : true = true) (obC (rfl : false = false) (obC (rfl : false = false) (obC (rfl : false = false) (obC (rfl : false = false) (obC (rfl : false = false) (obC (rfl : false = false) (obC (rfl : true = true) obN)))))))))))))))))))))))))))) ?_
    refine cD (t := 45) (b := true) (fun hb49 => ?_) (fun hb49 => ?_)
    · refine sD kk [] [7, 8, 10, 11, 136] [(13, vB false)] obN ?_
      refine tD ?_
      obtain he0 := h
      subst res
      exact (endD [] (vB false) []).1
    · cases hb49
  · have h := h.2 hb0
    rcases Bool.eq_false_or_eq_true ((↑(List.length (List.map encs_i64 (api_Places.Follow a))) : Int) != (↑(List.length (List.map encs_i64 (api_Places.Follow b))) : Int)) with hb1 | hb1
    · have h := h.1 hb1
      refine sD kk [.b true, .b true, .b true, .b true, .b true, .b true, .b true, .b false, .b false, .b false, .b false, .b false, .b false, .b true, .b false, .b false, .b false, .b false, .b false, .b false, .b true, .b false, .b false, .b false, .b false, .b false, .b false, .b true] [] [(136, vB true)] (obC (gft hb0) (obC (gft hb0) (obC (gft hb0) (obC (gft hb0) (obC (gft hb0) (obC (gft hb0) (obC (gft hb0) (obC hb0 (obC (gff hb1) (obC (gff hb1) (obC (gff hb1) (obC (gff hb1) (obC (gff hb1) (obC hb1 (obC (rfl : false = false) (obC (rfl : false = false) (obC (rfl : false = false) (obC (rfl : false = false) (obC (rfl : false = false) (obC (rfl : false = false) (obC (rfl : true = true) (obC (rfl : false = false) (obC (rfl : false = false) (obC (rfl : false = false) (obC (rfl : false = false) (obC (rfl : false = false) (obC (rfl : false = false) (obC (rfl : true = true) obN)))))))))))))))))))))))))))) ?_
      refine cD (t := 45) (b := true) (fun hb48 => ?_) (fun hb48 => ?_)
      · refine sD kk [] [7, 8, 10, 11, 136] [(13, vB false)] obN ?_
        refine tD ?_
        obtain he0 := h
        subst res
        exact (endD [] (vB false) []).1
      · cases hb48
    · have h := h.2 hb1
      rcases Bool.eq_false_or_eq_true (!api_Places.Null a == api_Places.Null b) with hb2 | hb2
      · have h := h.1 hb2
        refine sD kk [.b true, .b true, .b true, .b true, .b true, .b true, .b true, .b false, .b true, .b true, .b true, .b true, .b true, .b false, .b false, .b false, .b false, .b false, .b false, .b false, .b true, .b false, .b false, .b false, .b false, .b false, .b false, .b true] [] [(136, vB true)] (obC (gft hb0) (obC (gft hb0) (obC (gft hb0) (obC (gft hb0) (obC (gft hb0) (obC (gft hb0) (obC (gft hb0) (obC hb0 (obC (gft hb1) (obC (gft hb1) (obC (gft hb1) (obC (gft hb1) (obC (gft hb1) (obC hb1 (obC (gff hb2) (obC (gff hb2) (obC (gff hb2) (obC (gff hb2) (obC (gff hb2) (obC (gff hb2) (obC hb2 (obC (rfl : false = false) (obC (rfl : false = false) (obC (rfl : false = false) (obC (rfl : false = false) (obC (rfl : false = false) (obC (rfl : false = false) (obC (rfl : true = true) obN)))))))))))))))))))))))))))) ?_
        refine cD (t := 45) (b := true) (fun hb47 => ?_) (fun hb47 => ?_)
        · refine sD kk [] [7, 8, 10, 11, 136] [(13, vB false)] obN ?_
          refine tD ?_
          obtain he0 := h
          subst res
          exact (endD [] (vB false) []).1
        · cases hb47
      · have h := h.2 hb2
        obtain ⟨r0, hc3, h⟩ := h
        rcases Bool.eq_false_or_eq_true (!r0) with hb4 | hb4
        · have h := h.1 hb4
          refine sD kk [.b true, .b true, .b true, .b true, .b true, .b true, .b true, .b false, .b true, .b true, .b true, .b true, .b true, .b false, .b true, .b true, .b true, .b true, .b true, .c (vB r0) [], .b true, .b false, .b false, .b false, .b false, .b false, .b false, .b false, .b true] [] [(136, vB true)] (obC (gft hb0) (obC (gft hb0) (obC (gft hb0) (obC (gft hb0) (obC (gft hb0) (obC (gft hb0) (obC (gft hb0) (obC hb0 (obC (gft hb1) (obC (gft hb1) (obC (gft hb1) (obC (gft hb1) (obC (gft hb1) (obC hb1 (obC (gft hb2) (obC (gft hb2) (obC (gft hb2) (obC (gft hb2) (obC (gft hb2) (obC hc3 (obC (gft hb2) (obC hb2 (obC (gff hb4) (obC (gff hb4) (obC (gff hb4) (obC (gff hb4) (obC (gff hb4) (obC (gff hb4) (obC hb4 obN))))))))))))))))))))))))))))) ?_
          refine cD (t := 45) (b := true) (fun hb46 => ?_) (fun hb46 => ?_)
          · refine sD kk [] [7, 8, 10, 11, 136] [(13, vB false)] obN ?_
            refine tD ?_
            obtain he0 := h
            subst res
            exact (endD [] (vB false) []).1
          · cases hb46
        · have h := h.2 hb4
          obtain ⟨r0_1, hc5, h⟩ := h
          refine sD kk [.b true, .b true, .b true, .b true, .b true, .b true, .b true, .b false, .b true, .b true, .b true, .b true, .b true, .b false, .b true, .b true, .b true, .b true, .b true, .c (vB r0) [], .b true, .b false, .b true, .b true, .b true, .b true, .b true, .c (vB r0_1) [], .b true, .b false] [] [(136, vB (!r0_1))] (obC (gft hb0) (obC (gft hb0) (obC (gft hb0) (obC (gft hb0) (obC (gft hb0) (obC (gft hb0) (obC (gft hb0) (obC hb0 (obC (gft hb1) (obC (gft hb1) (obC (gft hb1) (obC (gft hb1) (obC (gft hb1) (obC hb1 (obC (gft hb2) (obC (gft hb2) (obC (gft hb2) (obC (gft hb2) (obC (gft hb2) (obC hc3 (obC (gft hb2) (obC hb2 (obC (gft hb4) (obC (gft hb4) (obC (gft hb4) (obC (gft hb4) (obC (gft hb4) (obC hc5 (obC (gft hb4) (obC hb4 obN)))))))))))))))))))))))))))))) ?_
          refine cD (t := 45) (b := !r0_1) (fun hb6 => ?_) (fun hb6 => ?_)
          · have h := h.1 hb6
            refine sD kk [] [7, 8, 10, 11, 136] [(13, vB false)] obN ?_
            refine tD ?_
            obtain he0 := h
            subst res
            exact (endD [] (vB false) []).1
          · have h := h.2 hb6
            refine Sem.skip' (by kernel_rfl) Wk.refl ?_
            show Sem _ _ _ _ _
            refine wkD [136] ?_
            refine qD ?_
            refine sD kk [] [] [(16, vi 0)] obN ?_
            refine bD (id := 0) ?_
            obtain ⟨Inv17, mu18, h0Inv17, hInv17⟩ := h
            refine loD (fun (q : Int) => (fun (i : Int) => ([(7, .ptr 8 0), (8, av_api_Places a), (10, .ptr 11 0), (11, av_api_Places b), (16, vi i)] : Sta)) q) (fun (q : Int) => Inv17 q) (fun (q : Int) => mu18 q) 0 [] h0Inv17 ?_
            rintro i hi
            have h := hInv17 i hi
            refine qD ?_
            refine sDE kk [] [] [(151, vB (decide (i < (↑(List.length (List.map enc_arr4_uint64 (api_Places.Sets a))) : Int))))] [(151, vB (decide (i < (↑(List.length (api_Places.Sets a)) : Int))))] obN ?_
            refine cD (t := 50) (b := decide (i < (↑(List.length (api_Places.Sets a)) : Int))) (fun hb19 => ?_) (fun hb19 => ?_)
            · have h := h.1 hb19
              refine Sem.skip' (by kernel_rfl) Wk.refl ?_
              show Sem _ _ _ _ _
              refine wkD [151] ?_
              refine qD ?_
              refine bD (id := 1) ?_
              obtain ⟨h20, h⟩ := h
              obtain ⟨h21, h⟩ := h
              obtain ⟨h22, h⟩ := h
              obtain ⟨h23, h⟩ := h
              refine sD kk [.e (fv_arr4_uint64 (gd (api_Places.Sets a) i)), .e (fv_arr4_uint64 (gd (api_Places.Sets b) i))] [] [(190, vB (!(arr4_uint64.e0 (gd (api_Places.Sets a) i) == arr4_uint64.e0 (gd (api_Places.Sets b) i) && (arr4_uint64.e1 (gd (api_Places.Sets a) i) == arr4_uint64.e1 (gd (api_Places.Sets b) i) && (arr4_uint64.e2 (gd (api_Places.Sets a) i) == arr4_uint64.e2 (gd (api_Places.Sets b) i) && (arr4_uint64.e3 (gd (api_Places.Sets a) i) == arr4_uint64.e3 (gd (api_Places.Sets b) i) && true))))))] (obC h20 (obC (idx_ok enc_arr4_uint64 (api_Places.Sets a) i _ (enc_arr4_uint64_eq _) h20 h21) (obC h22 (obC (idx_ok enc_arr4_uint64 (api_Places.Sets b) i _ (enc_arr4_uint64_eq _) h22 h23) obN)))) ?_
              refine cD (t := 63) (b := !(arr4_uint64.e0 (gd (api_Places.Sets a) i) == arr4_uint64.e0 (gd (api_Places.Sets b) i) && (arr4_uint64.e1 (gd (api_Places.Sets a) i) == arr4_uint64.e1 (gd (api_Places.Sets b) i) && (arr4_uint64.e2 (gd (api_Places.Sets a) i) == arr4_uint64.e2 (gd (api_Places.Sets b) i) && (arr4_uint64.e3 (gd (api_Places.Sets a) i) == arr4_uint64.e3 (gd (api_Places.Sets b) i) && true))))) (fun hb24 => ?_) (fun hb24 => ?_)
              · have h := h.1 hb24
                refine sD kk [] [7, 8, 10, 11, 16, 190] [(13, vB false)] obN ?_
                refine tD ?_
                obtain he0 := h
                subst res
                exact (endD [] (vB false) []).1
              · have h := h.2 hb24
                refine Sem.skip' (by kernel_rfl) Wk.refl ?_
                show Sem _ _ _ _ _
                refine wkD [190] ?_
                refine rD kk [] [] [(16, vi (w64 (i + 1)))] obN ?_
                exact lD (w64 (i + 1)) [] h
            · have h := h.2 hb19
              refine xD (i := 0) ?_
              show Sem _ _ _ _ _
              refine wkD [16, 151] ?_
              refine qD ?_
              refine sD kk [] [] [(19, vi 0)] obN ?_
              refine bD (id := 2) ?_
              obtain ⟨Inv37, mu38, h0Inv37, hInv37⟩ := h
              refine loD (fun (q : Int) => (fun (i_1 : Int) => ([(7, .ptr 8 0), (8, av_api_Places a), (10, .ptr 11 0), (11, av_api_Places b), (19, vi i_1)] : Sta)) q) (fun (q : Int) => Inv37 q) (fun (q : Int) => mu38 q) 0 [] h0Inv37 ?_
              rintro i_1 hi
              have h := hInv37 i_1 hi
              refine qD ?_
              refine sDE kk [] [] [(205, vB (decide (i_1 < (↑(List.length (List.map encs_i64 (api_Places.Follow a))) : Int))))] [(205, vB (decide (i_1 < (↑(List.length (api_Places.Follow a)) : Int))))] obN ?_
              refine cD (t := 68) (b := decide (i_1 < (↑(List.length (api_Places.Follow a)) : Int))) (fun hb39 => ?_) (fun hb39 => ?_)
              · have h := h.1 hb39
                refine Sem.skip' (by kernel_rfl) Wk.refl ?_
                show Sem _ _ _ _ _
                refine wkD [205] ?_
                refine qD ?_
                refine bD (id := 3) ?_
                obtain ⟨h40, h⟩ := h
                obtain ⟨h41, h⟩ := h
                obtain ⟨h42, h⟩ := h
                obtain ⟨h43, h⟩ := h
                obtain ⟨r0_4, hc44, h⟩ := h
                refine sD kk [.e (fL enc_i64 (gd (api_Places.Follow a) i_1)), .e (fL enc_i64 (gd (api_Places.Follow b) i_1)), .c (vB r0_4) []] [] [(247, vB (!r0_4))] (obC h40 (obC (idx_ok encs_i64 (api_Places.Follow a) i_1 _ rfl h40 h41) (obC h42 (obC (idx_ok encs_i64 (api_Places.Follow b) i_1 _ rfl h42 h43) (obC hc44 obN))))) ?_
                refine cD (t := 82) (b := !r0_4) (fun hb45 => ?_) (fun hb45 => ?_)
                · have h := h.1 hb45
                  refine sD kk [] [7, 8, 10, 11, 19, 247] [(13, vB false)] obN ?_
                  refine tD ?_
                  obtain he0 := h
                  subst res
                  exact (endD [] (vB false) []).1
                · have h := h.2 hb45
                  refine Sem.skip' (by kernel_rfl) Wk.refl ?_
                  show Sem _ _ _ _ _
                  refine wkD [247] ?_
                  refine rD kk [] [] [(19, vi (w64 (i_1 + 1)))] obN ?_
                  exact lD (w64 (i_1 + 1)) [] h
              · have h := h.2 hb39
                refine xD (i := 2) ?_
                show Sem _ _ _ _ _
                refine wkD [7, 8, 10, 11, 19, 205] ?_
                refine sD kk [] [] [(13, vB true)] obN ?_
                refine tD ?_
                obtain he0 := h
                subst res
                exact (endD [] (vB true) []).1
set_option maxHeartbeats 1000000 in
theorem W_hecklelaw09_same (x : api_Rx) (res : Bool)
    (h : (∃ r0 : api_Places, ∃ r0_1 : Int, C_place_Of x r0 r0_1 ∧ (∃ r0_2 : api_Places, ∃ r0_3 : Int, C_heckleref09_Of x r0_2 r0_3 ∧ (∃ r0_4 : Bool, C_heckleref09_Same r0 r0_2 r0_4 ∧ (res = (r0_4 && r0_1 == r0_3)))))) : C_hecklelaw09_same x res := by
  unfold C_hecklelaw09_same
  have kk := cfOk [] 25
  refine fD (x := bodyOf Try.f10) kk Try.func10 ?_
  refine wkS [1] [(1, av_api_Rx x)] (by kernel_rfl) ?_
  refine sD kk [] [1] [(4, .ptr 5 0), (5, av_api_Rx x)] obN ?_
  obtain ⟨r0, r0_1, hc0, h⟩ := h
  refine sD kk [.c (.tup [av_api_Places r0, vi r0_1]) []] [] [(10, .ptr 11 0), (11, av_api_Places r0), (13, vi r0_1)] (obC hc0 obN) ?_
  obtain ⟨r0_2, r0_3, hc1, h⟩ := h
  refine sD kk [.c (.tup [av_api_Places r0_2, vi r0_3]) []] [4, 5] [(16, .ptr 17 0), (17, av_api_Places r0_2), (19, vi r0_3)] (obC hc1 obN) ?_
  obtain ⟨r0_4, hc2, h⟩ := h
  refine sM [10, 11, 13, 16, 17, 19] [(7, vB (r0_4 && r0_1 == r0_3))] ?_ (fun hk0 => ?_)
  · refine tD ?_
    obtain he0 := h
    subst res
    exact (endD [] (vB (r0_4 && r0_1 == r0_3)) []).1
  · rcases Bool.eq_false_or_eq_true (r0_4) with hb3 | hb3
    · refine sD kk [.c (vB r0_4) [], .b true, .b true, .b true, .b true] [10, 11, 13, 16, 17, 19] [(7, vB (r0_1 == r0_3))] (obC hc2 (obC (gtt hb3) (obC (gtt hb3) (obC (gtt hb3) (obC hb3 obN))))) ?_
      exact Sem.cast (by try rw [hb3]; kernel_rfl) hk0
    · refine sD kk [.c (vB r0_4) [], .b false, .b false, .b false, .b false] [10, 11, 13, 16, 17, 19] [(7, vB false)] (obC hc2 (obC (gtf hb3) (obC (gtf hb3) (obC (gtf hb3) (obC hb3 obN))))) ?_
      exact Sem.cast (by try rw [hb3]; kernel_rfl) hk0
set_option maxHeartbeats 1000000 in
theorem W_hecklelaw03_Maker_Pick (n : Int) (m : hecklelaw03_Maker) (res : Int) (fin : hecklelaw03_Maker)
    (h : (((decide (w64 (hecklelaw03_Maker.At m + 1) > (↑(List.length (hecklelaw03_Maker.L m)) : Int))) = true → (res = 0 ∧ fin = ({ L := hecklelaw03_Maker.L m, At := w64 (hecklelaw03_Maker.At m + 1) }))) ∧ ((decide (w64 (hecklelaw03_Maker.At m + 1) > (↑(List.length (hecklelaw03_Maker.L m)) : Int))) = false → ((0 : Int) ≤ w64 (w64 (hecklelaw03_Maker.At m + 1) - 1)) ∧ w64 (w64 (hecklelaw03_Maker.At m + 1) - 1) < ↑(List.length (hecklelaw03_Maker.L m)) ∧ (n ≠ (0 : Int)) ∧ (res = (Int.tmod (w64 (gd (hecklelaw03_Maker.L m) (w64 (w64 (hecklelaw03_Maker.At m + 1) - 1)))) n) ∧ fin = ({ L := hecklelaw03_Maker.L m, At := w64 (hecklelaw03_Maker.At m + 1) }))))) : C_hecklelaw03_Maker_Pick n m res fin := by
  unfold C_hecklelaw03_Maker_Pick
  have kk := cfOk [] 36
  refine fD (x := bodyOf Try.f32) kk Try.func32 ?_
  refine wkS [1, 3, 4] [(1, .ptr 3 0), (3, av_hecklelaw03_Maker m), (4, vi n)] (by kernel_rfl) ?_
  refine sD kk [] [] [] obN ?_
  refine sD kk [] [] [(3, .agg [vL enc_u8 (hecklelaw03_Maker.L m), vi (w64 (hecklelaw03_Maker.At m + 1))])] obN ?_
  refine qD ?_
  refine sDE kk [] [] [(64, vB (decide (w64 (hecklelaw03_Maker.At m + 1) > (↑(List.length (List.map enc_u8 (hecklelaw03_Maker.L m))) : Int))))] [(64, vB (decide (w64 (hecklelaw03_Maker.At m + 1) > (↑(List.length (hecklelaw03_Maker.L m)) : Int))))] obN ?_
  refine cD (t := 21) (b := decide (w64 (hecklelaw03_Maker.At m + 1) > (↑(List.length (hecklelaw03_Maker.L m)) : Int))) (fun hb0 => ?_) (fun hb0 => ?_)
  · have h := h.1 hb0
    refine sD kk [] [1, 4, 64] [(13, vi 0)] obN ?_
    refine tD ?_
    obtain ⟨he0, he1⟩ := h
    subst res fin
    exact (endD [] (vi 0) [.agg [vL enc_u8 (hecklelaw03_Maker.L m), vi (w64 (hecklelaw03_Maker.At m + 1))]]).1
  · have h := h.2 hb0
    refine Sem.skip' (by kernel_rfl) Wk.refl ?_
    show Sem _ _ _ _ _
    refine wkD [64] ?_
    obtain ⟨h1, h⟩ := h
    obtain ⟨h2, h⟩ := h
    obtain ⟨h3, h⟩ := h
    refine sD kk [.e (.pv (.int .u8 (gd (hecklelaw03_Maker.L m) (w64 (w64 (hecklelaw03_Maker.At m + 1) - 1)))))] [1, 4] [(13, vi (Int.tmod (w64 (gd (hecklelaw03_Maker.L m) (w64 (w64 (hecklelaw03_Maker.At m + 1) - 1)))) n))] (obC h1 (obC (idx_ok enc_u8 (hecklelaw03_Maker.L m) (w64 (w64 (hecklelaw03_Maker.At m + 1) - 1)) _ rfl h1 h2) (obC h3 obN))) ?_
    refine tD ?_
    obtain ⟨he0, he1⟩ := h
    subst res fin
    exact (endD [] (vi (Int.tmod (w64 (gd (hecklelaw03_Maker.L m) (w64 (w64 (hecklelaw03_Maker.At m + 1) - 1)))) n)) [.agg [vL enc_u8 (hecklelaw03_Maker.L m), vi (w64 (hecklelaw03_Maker.At m + 1))]]).1
set_option maxHeartbeats 1000000 in
theorem W_heckleref01_Not (a : arr4_uint64) (res : arr4_uint64)
    (h : (∃ (Inv16 : Int → Int → Int → Int → Int → Prop) (mu17 : Int → Int → Int → Int → Int → Nat), Inv16 0 0 0 0 0 ∧ (∀ (s_e0_1 : Int) (s_e1_1 : Int) (s_e2_1 : Int) (s_e3_1 : Int) (i : Int), Inv16 s_e0_1 s_e1_1 s_e2_1 s_e3_1 i → (((decide (i < (256 : Int))) = true → (∃ J22 : Int → Int → Int → Int → Prop, (∀ (s_e0_3 : Int) (s_e1_3 : Int) (s_e2_3 : Int) (s_e3_3 : Int), J22 s_e0_3 s_e1_3 s_e2_3 s_e3_3 → (Inv16 s_e0_3 s_e1_3 s_e2_3 s_e3_3 (w64 (i + 1)) ∧ mu17 s_e0_3 s_e1_3 s_e2_3 s_e3_3 (w64 (i + 1)) < mu17 s_e0_1 s_e1_1 s_e2_1 s_e3_1 i)) ∧ (∃ r0_10 : Bool, C_heckleref01_Has a i r0_10 ∧ (((!r0_10) = true → (∃ r0_11 : arr4_uint64, C_heckleref01_add ({ e0 := s_e0_1, e1 := s_e1_1, e2 := s_e2_1, e3 := s_e3_1 }) i r0_11 ∧ J22 (arr4_uint64.e0 r0_11) (arr4_uint64.e1 r0_11) (arr4_uint64.e2 r0_11) (arr4_uint64.e3 r0_11))) ∧ ((!r0_10) = false → J22 s_e0_1 s_e1_1 s_e2_1 s_e3_1))))) ∧ ((decide (i < (256 : Int))) = false → (res = ({ e0 := s_e0_1, e1 := s_e1_1, e2 := s_e2_1, e3 := s_e3_1 }))))))) : C_heckleref01_Not a res := by
  unfold C_heckleref01_Not
  have kk := cfOk [16] 17
  refine fD (x := bodyOf Try.f51) kk Try.func51 ?_
  refine wkS [1] [(1, av_arr4_uint64 a)] (by kernel_rfl) ?_
  refine sD kk [] [1] [(4, .ptr 5 0), (5, av_arr4_uint64 a), (7, .ptr 8 0), (8, .agg [vI .u64 0, vI .u64 0, vI .u64 0, vI .u64 0])] obN ?_
  refine sD kk [] [] [(10, .ptr 11 0), (11, .agg [vI .u64 0, vI .u64 0, vI .u64 0, vI .u64 0])] obN ?_
  refine qD ?_
  refine sD kk [] [] [(13, vi 0)] obN ?_
  refine bD (id := 0) ?_
  obtain ⟨Inv16, mu17, h0Inv16, hInv16⟩ := h
  refine loD (fun (q : Int × Int × Int × Int × Int) => (fun (s_e0_1 : Int) (s_e1_1 : Int) (s_e2_1 : Int) (s_e3_1 : Int) (i : Int) => ([(4, .ptr 5 0), (5, av_arr4_uint64 a), (7, .ptr 8 0), (8, .agg [vI .u64 0, vI .u64 0, vI .u64 0, vI .u64 0]), (10, .ptr 11 0), (11, .agg [vI .u64 s_e0_1, vI .u64 s_e1_1, vI .u64 s_e2_1, vI .u64 s_e3_1]), (13, vi i)] : Sta)) q.1 q.2.1 q.2.2.1 q.2.2.2.1 q.2.2.2.2) (fun (q : Int × Int × Int × Int × Int) => Inv16 q.1 q.2.1 q.2.2.1 q.2.2.2.1 q.2.2.2.2) (fun (q : Int × Int × Int × Int × Int) => mu17 q.1 q.2.1 q.2.2.1 q.2.2.2.1 q.2.2.2.2) (0, 0, 0, 0, 0) [] h0Inv16 ?_
  rintro ⟨s_e0_1, s_e1_1, s_e2_1, s_e3_1, i⟩ hi
  have h := hInv16 s_e0_1 s_e1_1 s_e2_1 s_e3_1 i hi
  refine qD ?_
  refine sD kk [] [] [(19, vB (decide (i < (256 : Int))))] obN ?_
  refine cD (t := 6) (b := decide (i < (256 : Int))) (fun hb18 => ?_) (fun hb18 => ?_)
  · have h := h.1 hb18
    refine Sem.skip' (by kernel_rfl) Wk.refl ?_
    show Sem _ _ _ _ _
    refine wkD [19] ?_
    obtain ⟨J22, hJ22, h⟩ := h
    refine sjD (fun (q : Int × Int × Int × Int) => J22 q.1 q.2.1 q.2.2.1 q.2.2.2) (fun (q : Int × Int × Int × Int) => (fun (s_e0_3 : Int) (s_e1_3 : Int) (s_e2_3 : Int) (s_e3_3 : Int) => ([(4, .ptr 5 0), (5, av_arr4_uint64 a), (7, .ptr 8 0), (8, .agg [vI .u64 0, vI .u64 0, vI .u64 0, vI .u64 0]), (10, .ptr 11 0), (11, .agg [vI .u64 s_e0_3, vI .u64 s_e1_3, vI .u64 s_e2_3, vI .u64 s_e3_3]), (13, vi i)] : Sta)) q.1 q.2.1 q.2.2.1 q.2.2.2) ?_ ?_
    · rintro ⟨s_e0_3, s_e1_3, s_e2_3, s_e3_3⟩ hj
      have h := hJ22 s_e0_3 s_e1_3 s_e2_3 s_e3_3 hj
      refine rD kk [] [] [(13, vi (w64 (i + 1)))] obN ?_
      exact lD (s_e0_3, s_e1_3, s_e2_3, s_e3_3, (w64 (i + 1))) [] h
    · refine bD (id := 1) ?_
      obtain ⟨r0_10, hc23, h⟩ := h
      refine sD kk [.c (vB r0_10) []] [] [(37, vB (!r0_10))] (obC hc23 obN) ?_
      refine cD (t := 12) (b := !r0_10) (fun hb24 => ?_) (fun hb24 => ?_)
      · have h := h.1 hb24
        obtain ⟨r0_11, hc25, h⟩ := h
        refine rD kk [.c (av_arr4_uint64 r0_11) []] [37] [(11, av_arr4_uint64 r0_11)] (obC hc25 obN) ?_
        exact jD ((arr4_uint64.e0 r0_11), (arr4_uint64.e1 r0_11), (arr4_uint64.e2 r0_11), (arr4_uint64.e3 r0_11)) [] h
      · have h := h.2 hb24
        refine Sem.skip' (by kernel_rfl) Wk.refl ?_
        exact jD (s_e0_1, s_e1_1, s_e2_1, s_e3_1) [] h
  · have h := h.2 hb18
    refine xD (i := 0) ?_
    show Sem _ _ _ _ _
    refine wkD [4, 5, 13, 19] ?_
    refine sD kk [] [10, 11] [(8, .agg [vI .u64 s_e0_1, vI .u64 s_e1_1, vI .u64 s_e2_1, vI .u64 s_e3_1])] obN ?_
    refine tD ?_
    obtain he0 := h
    subst res
    exact (endD [] (.agg [vI .u64 s_e0_1, vI .u64 s_e1_1, vI .u64 s_e2_1, vI .u64 s_e3_1]) []).1
set_option maxHeartbeats 1000000 in
theorem W_hecklelaw03_char (b : Int) (res : api_Rx)
    (h : (∃ r0 : arr4_uint64, C_heckleref01_Of b b r0 ∧ (res = ({ Kind := (2 : Int), Set := r0, Lo := (0 : Int), Hi := (0 : Int), Kids := [] })))) : C_hecklelaw03_char b res := by
  unfold C_hecklelaw03_char
  have kk := cfOk [] 7
  refine fD (x := bodyOf Try.f24) kk Try.func24 ?_
  refine wkS [1] [(1, vi b)] (by kernel_rfl) ?_
  refine sDE kk [] [] [(7, .ptr 8 0), (8, .agg [vi 0, vI .u64 0, vI .u64 0, vI .u64 0, vI .u64 0, vi 0, vi 0, .own 27 ([])])] [(7, .ptr 8 0), (8, .agg [vi 0, vI .u64 0, vI .u64 0, vI .u64 0, vI .u64 0, vi 0, vi 0, oL 27 enc_api_Rx ([])])] obN ?_
  obtain ⟨r0, hc0, h⟩ := h
  refine sDE kk [.c (av_arr4_uint64 r0) []] [1] [(8, .agg [vi 2, vI .u64 (arr4_uint64.e0 r0), vI .u64 (arr4_uint64.e1 r0), vI .u64 (arr4_uint64.e2 r0), vI .u64 (arr4_uint64.e3 r0), vi 0, vi 0, .own 27 ([])])] [(8, .agg [vi 2, vI .u64 (arr4_uint64.e0 r0), vI .u64 (arr4_uint64.e1 r0), vI .u64 (arr4_uint64.e2 r0), vI .u64 (arr4_uint64.e3 r0), vi 0, vi 0, oL 27 enc_api_Rx ([])])] (obC hc0 obN) ?_
  refine tD ?_
  obtain he0 := h
  subst res
  exact (endD [] (.agg [vi 2, vI .u64 (arr4_uint64.e0 r0), vI .u64 (arr4_uint64.e1 r0), vI .u64 (arr4_uint64.e2 r0), vI .u64 (arr4_uint64.e3 r0), vi 0, vi 0, oL 27 enc_api_Rx ([])]) []).1
set_option maxHeartbeats 1000000 in
theorem W_hecklelaw03_Maker_leaf (m : hecklelaw03_Maker) (res : api_Rx) (fin : hecklelaw03_Maker)
    (h : (∃ r0 : Int, ∃ o : hecklelaw03_Maker, C_hecklelaw03_Maker_Pick 8 m r0 o ∧ (((r0 == 0) = true → (res = ({ Kind := (1 : Int), Set := { e0 := (0 : Int), e1 := (0 : Int), e2 := (0 : Int), e3 := (0 : Int) }, Lo := (0 : Int), Hi := (0 : Int), Kids := [] }) ∧ fin = o)) ∧ ((r0 == 0) = false → (((r0 == 1) = true → (∃ r0_1 : arr4_uint64, C_heckleref01_Of ((97 : Int)) ((99 : Int)) r0_1 ∧ (res = ({ Kind := (2 : Int), Set := r0_1, Lo := (0 : Int), Hi := (0 : Int), Kids := [] }) ∧ fin = o))) ∧ ((r0 == 1) = false → (((r0 == (2 : Int)) = true → (∃ r0_2 : arr4_uint64, C_heckleref01_Of ((97 : Int)) ((97 : Int)) r0_2 ∧ (∃ r0_3 : arr4_uint64, C_heckleref01_Not r0_2 r0_3 ∧ (res = ({ Kind := (2 : Int), Set := r0_3, Lo := (0 : Int), Hi := (0 : Int), Kids := [] }) ∧ fin = o)))) ∧ ((r0 == (2 : Int)) = false → (((r0 == (3 : Int)) = true → (∃ r0_4 : Int, ∃ o_1 : hecklelaw03_Maker, C_hecklelaw03_Maker_Pick ((6 : Int)) o r0_4 o_1 ∧ ((0 : Int) ≤ r0_4) ∧ (Int.toNat r0_4 < (6 : Nat)) ∧ r0_4 < ↑(List.length ([(10 : Int), (45 : Int), (90 : Int), (0 : Int), (255 : Int), (48 : Int)])) ∧ (∃ r0_5 : api_Rx, C_hecklelaw03_char (gd [(10 : Int), (45 : Int), (90 : Int), (0 : Int), (255 : Int), (48 : Int)] r0_4) r0_5 ∧ (res = r0_5 ∧ fin = o_1)))) ∧ ((r0 == (3 : Int)) = false → (∃ r0_6 : Int, ∃ o_2 : hecklelaw03_Maker, C_hecklelaw03_Maker_Pick 3 o r0_6 o_2 ∧ (∃ r0_7 : api_Rx, C_hecklelaw03_char (w64 ((97 : Int) + r0_6)) r0_7 ∧ (res = r0_7 ∧ fin = o_2))))))))))))) : C_hecklelaw03_Maker_leaf m res fin := by
  unfold C_hecklelaw03_Maker_leaf
  have kk := cfOk [] 29
  refine fD (x := bodyOf Try.f33) kk Try.func33 ?_
  refine wkS [1, 3] [(1, .ptr 3 0), (3, av_hecklelaw03_Maker m)] (by kernel_rfl) ?_
  refine sDE kk [] [] [(7, .ptr 8 0), (8, .agg [vi 0, vI .u64 0, vI .u64 0, vI .u64 0, vI .u64 0, vi 0, vi 0, .own 27 ([])])] [(7, .ptr 8 0), (8, .agg [vi 0, vI .u64 0, vI .u64 0, vI .u64 0, vI .u64 0, vi 0, vi 0, oL 27 enc_api_Rx ([])])] obN ?_
  refine qD ?_
  obtain ⟨r0, o, hc0, h⟩ := h
  refine sD kk [.c (vi r0) [av_hecklelaw03_Maker o]] [] [(3, av_hecklelaw03_Maker o), (13, vi r0)] (obC hc0 obN) ?_
  refine bD (id := 0) ?_
  refine sD kk [] [] [(16, vB (r0 == 0))] obN ?_
  refine cD (t := 5) (b := r0 == 0) (fun hb1 => ?_) (fun hb1 => ?_)
  · have h := h.1 hb1
    refine sDE kk [] [1, 13, 16] [(8, .agg [vi 1, vI .u64 0, vI .u64 0, vI .u64 0, vI .u64 0, vi 0, vi 0, .own 27 ([])])] [(8, .agg [vi 1, vI .u64 0, vI .u64 0, vI .u64 0, vI .u64 0, vi 0, vi 0, oL 27 enc_api_Rx ([])])] obN ?_
    refine tD ?_
    obtain ⟨he0, he1⟩ := h
    subst res fin
    exact (endD [] (.agg [vi 1, vI .u64 0, vI .u64 0, vI .u64 0, vI .u64 0, vi 0, vi 0, oL 27 enc_api_Rx ([])]) [av_hecklelaw03_Maker o]).1
  · have h := h.2 hb1
    refine sD kk [] [16] [(25, vB (r0 == 1))] obN ?_
    refine cD (t := 8) (b := r0 == 1) (fun hb2 => ?_) (fun hb2 => ?_)
    · have h := h.1 hb2
      obtain ⟨r0_1, hc3, h⟩ := h
      refine sDE kk [.c (av_arr4_uint64 r0_1) []] [1, 13, 25] [(8, .agg [vi 2, vI .u64 (arr4_uint64.e0 r0_1), vI .u64 (arr4_uint64.e1 r0_1), vI .u64 (arr4_uint64.e2 r0_1), vI .u64 (arr4_uint64.e3 r0_1), vi 0, vi 0, .own 27 ([])])] [(8, .agg [vi 2, vI .u64 (arr4_uint64.e0 r0_1), vI .u64 (arr4_uint64.e1 r0_1), vI .u64 (arr4_uint64.e2 r0_1), vI .u64 (arr4_uint64.e3 r0_1), vi 0, vi 0, oL 27 enc_api_Rx ([])])] (obC hc3 obN) ?_
      refine tD ?_
      obtain ⟨he0, he1⟩ := h
      subst res fin
      exact (endD [] (.agg [vi 2, vI .u64 (arr4_uint64.e0 r0_1), vI .u64 (arr4_uint64.e1 r0_1), vI .u64 (arr4_uint64.e2 r0_1), vI .u64 (arr4_uint64.e3 r0_1), vi 0, vi 0, oL 27 enc_api_Rx ([])]) [av_hecklelaw03_Maker o]).1
    · have h := h.2 hb2
      refine sD kk [] [25] [(37, vB (r0 == (2 : Int)))] obN ?_
      refine cD (t := 12) (b := r0 == (2 : Int)) (fun hb4 => ?_) (fun hb4 => ?_)
      · have h := h.1 hb4
        obtain ⟨r0_2, hc5, h⟩ := h
        obtain ⟨r0_3, hc6, h⟩ := h
        refine sDE kk [.c (av_arr4_uint64 r0_2) [], .c (av_arr4_uint64 r0_3) []] [1, 13, 37] [(8, .agg [vi 2, vI .u64 (arr4_uint64.e0 r0_3), vI .u64 (arr4_uint64.e1 r0_3), vI .u64 (arr4_uint64.e2 r0_3), vI .u64 (arr4_uint64.e3 r0_3), vi 0, vi 0, .own 27 ([])])] [(8, .agg [vi 2, vI .u64 (arr4_uint64.e0 r0_3), vI .u64 (arr4_uint64.e1 r0_3), vI .u64 (arr4_uint64.e2 r0_3), vI .u64 (arr4_uint64.e3 r0_3), vi 0, vi 0, oL 27 enc_api_Rx ([])])] (obC hc5 (obC hc6 obN)) ?_
        refine tD ?_
        obtain ⟨he0, he1⟩ := h
        subst res fin
        exact (endD [] (.agg [vi 2, vI .u64 (arr4_uint64.e0 r0_3), vI .u64 (arr4_uint64.e1 r0_3), vI .u64 (arr4_uint64.e2 r0_3), vI .u64 (arr4_uint64.e3 r0_3), vi 0, vi 0, oL 27 enc_api_Rx ([])]) [av_hecklelaw03_Maker o]).1
      · have h := h.2 hb4
        refine sD kk [] [13, 37] [(52, vB (r0 == (3 : Int)))] obN ?_
        refine cD (t := 17) (b := r0 == (3 : Int)) (fun hb7 => ?_) (fun hb7 => ?_)
        · have h := h.1 hb7
          obtain ⟨r0_4, o_1, hc8, h⟩ := h
          obtain ⟨h9, h⟩ := h
          obtain ⟨h10, h⟩ := h
          obtain ⟨h11, h⟩ := h
          obtain ⟨r0_5, hc12, h⟩ := h
          refine sD kk [.c (vi r0_4) [av_hecklelaw03_Maker o_1], .e (fi (gd [(10 : Int), (45 : Int), (90 : Int), (0 : Int), (255 : Int), (48 : Int)] r0_4)), .c (ao_api_Rx r0_5) []] [1, 52] [(3, av_hecklelaw03_Maker o_1), (8, ao_api_Rx r0_5)] (obC hc8 (obC h9 (obC h10 (obC (show ([FV.pv (Value.int IntKind.i64 (10)), FV.pv (Value.int IntKind.i64 (45 : Int)), FV.pv (Value.int IntKind.i64 (90 : Int)), FV.pv (Value.int IntKind.i64 (0)), FV.pv (Value.int IntKind.i64 (255 : Int)), FV.pv (Value.int IntKind.i64 (48 : Int))])[((0 : Nat) + Int.toNat r0_4 : Nat)]? = some (fi (gd [(10 : Int), (45 : Int), (90 : Int), (0 : Int), (255 : Int), (48 : Int)] r0_4)) from by have := idx_ok enc_i64 ([(10 : Int), (45 : Int), (90 : Int), (0 : Int), (255 : Int), (48 : Int)]) r0_4 _ rfl h9 h11; simpa only [nm, enq, enc_i64] using this) (obC hc12 obN))))) ?_
          refine tD ?_
          obtain ⟨he0, he1⟩ := h
          subst res fin
          exact (endD [] (ao_api_Rx r0_5) [av_hecklelaw03_Maker o_1]).1
        · have h := h.2 hb7
          refine Sem.skip' (by kernel_rfl) Wk.refl ?_
          show Sem _ _ _ _ _
          refine wkD [52] ?_
          obtain ⟨r0_6, o_2, hc13, h⟩ := h
          obtain ⟨r0_7, hc14, h⟩ := h
          refine sD kk [.c (vi r0_6) [av_hecklelaw03_Maker o_2], .c (ao_api_Rx r0_7) []] [1] [(3, av_hecklelaw03_Maker o_2), (8, ao_api_Rx r0_7)] (obC hc13 (obC hc14 obN)) ?_
          refine tD ?_
          obtain ⟨he0, he1⟩ := h
          subst res fin
          exact (endD [] (ao_api_Rx r0_7) [av_hecklelaw03_Maker o_2]).1
set_option maxHeartbeats 1000000 in
theorem W_hecklelaw03_joined (kind : Int) (l : (List api_Rx)) (res : api_Rx)
    (h : (∃ (Inv32 : List api_Rx → Int → Prop) (mu33 : List api_Rx → Int → Nat), Inv32 ([]) 0 ∧ (∀ (x_Kids_1 : List api_Rx) (i : Int), Inv32 x_Kids_1 i → (((decide (i < (↑(List.length l) : Int))) = true → (∃ J44 : List api_Rx → Prop, (∀ (x_Kids_3 : List api_Rx), J44 x_Kids_3 → (Inv32 x_Kids_3 (w64 (i + 1)) ∧ mu33 x_Kids_3 (w64 (i + 1)) < mu33 x_Kids_1 i)) ∧ ((0 : Int) ≤ i) ∧ i < ↑(List.length l) ∧ (((api_Rx.Kind (gd l i) == kind) = true → ((0 : Int) ≤ i) ∧ i < ↑(List.length l) ∧ ((List.length x_Kids_1 + List.length (api_Rx.Kids (gd l i))) * (80 : Nat) ≤ (2 : Nat) ^ (47 : Nat)) ∧ J44 (x_Kids_1 ++ api_Rx.Kids (gd l i))) ∧ ((api_Rx.Kind (gd l i) == kind) = false → ((0 : Int) ≤ i) ∧ i < ↑(List.length l) ∧ ((List.length x_Kids_1 + (1 : Nat)) * (80 : Nat) ≤ (2 : Nat) ^ (47 : Nat)) ∧ J44 (x_Kids_1 ++ [gd l i]))))) ∧ ((decide (i < (↑(List.length l) : Int))) = false → (res = ({ Kind := kind, Set := { e0 := (0 : Int), e1 := (0 : Int), e2 := (0 : Int), e3 := (0 : Int) }, Lo := (0 : Int), Hi := (0 : Int), Kids := x_Kids_1 }))))))) : C_hecklelaw03_joined kind l res := by
  unfold C_hecklelaw03_joined
  have kk := cfOk [40] 41
  refine fD (x := bodyOf Try.f34) kk Try.func34 ?_
  refine wkS [1, 4] [(1, vi kind), (4, vL enc_api_Rx l)] (by kernel_rfl) ?_
  refine sDE kk [] [] [(13, .ptr 14 0), (14, .agg [vi 0, vI .u64 0, vI .u64 0, vI .u64 0, vI .u64 0, vi 0, vi 0, .own 27 ([])])] [(13, .ptr 14 0), (14, .agg [vi 0, vI .u64 0, vI .u64 0, vI .u64 0, vI .u64 0, vi 0, vi 0, oL 27 enc_api_Rx ([])])] obN ?_
  refine sDE kk [] [] [(16, .ptr 17 0), (17, .agg [vi kind, vI .u64 0, vI .u64 0, vI .u64 0, vI .u64 0, vi 0, vi 0, .own 27 ([])])] [(16, .ptr 17 0), (17, .agg [vi kind, vI .u64 0, vI .u64 0, vI .u64 0, vI .u64 0, vi 0, vi 0, oL 27 enc_api_Rx ([])])] obN ?_
  refine qD ?_
  refine sD kk [] [] [(19, vi 0)] obN ?_
  refine bD (id := 0) ?_
  obtain ⟨Inv32, mu33, h0Inv32, hInv32⟩ := h
  refine loD (fun (q : List api_Rx × Int) => (fun (x_Kids_1 : List api_Rx) (i : Int) => ([(1, vi kind), (4, vL enc_api_Rx l), (13, .ptr 14 0), (14, .agg [vi 0, vI .u64 0, vI .u64 0, vI .u64 0, vI .u64 0, vi 0, vi 0, oL 27 enc_api_Rx ([])]), (16, .ptr 17 0), (17, .agg [vi kind, vI .u64 0, vI .u64 0, vI .u64 0, vI .u64 0, vi 0, vi 0, oL 27 enc_api_Rx x_Kids_1]), (19, vi i)] : Sta)) q.1 q.2) (fun (q : List api_Rx × Int) => Inv32 q.1 q.2) (fun (q : List api_Rx × Int) => mu33 q.1 q.2) (([]), 0) [] h0Inv32 ?_
  rintro ⟨x_Kids_1, i⟩ hi
  have h := hInv32 x_Kids_1 i hi
  refine qD ?_
  refine sDE kk [] [] [(37, vB (decide (i < (↑(List.length (List.map enc_api_Rx l)) : Int))))] [(37, vB (decide (i < (↑(List.length l) : Int))))] obN ?_
  refine cD (t := 12) (b := decide (i < (↑(List.length l) : Int))) (fun hb34 => ?_) (fun hb34 => ?_)
  · have h := h.1 hb34
    refine Sem.skip' (by kernel_rfl) Wk.refl ?_
    show Sem _ _ _ _ _
    refine wkD [37] ?_
    obtain ⟨J44, hJ44, h⟩ := h
    refine sjD (fun (q : List api_Rx) => J44 q) (fun (q : List api_Rx) => (fun (x_Kids_3 : List api_Rx) => ([(1, vi kind), (4, vL enc_api_Rx l), (13, .ptr 14 0), (14, .agg [vi 0, vI .u64 0, vI .u64 0, vI .u64 0, vI .u64 0, vi 0, vi 0, oL 27 enc_api_Rx ([])]), (16, .ptr 17 0), (17, .agg [vi kind, vI .u64 0, vI .u64 0, vI .u64 0, vI .u64 0, vi 0, vi 0, oL 27 enc_api_Rx x_Kids_3]), (19, vi i)] : Sta)) q) ?_ ?_
    · rintro x_Kids_3 hj
      have h := hJ44 x_Kids_3 hj
      refine rD kk [] [] [(19, vi (w64 (i + 1)))] obN ?_
      exact lD (x_Kids_3, (w64 (i + 1))) [] h
    · refine bD (id := 1) ?_
      obtain ⟨h45, h⟩ := h
      obtain ⟨h46, h⟩ := h
      refine sD kk [.e (fv_api_Rx (gd l i))] [] [(64, vB (api_Rx.Kind (gd l i) == kind))] (obC h45 (obC (idx_ok enc_api_Rx l i _ (enc_api_Rx_eq _) h45 h46) obN)) ?_
      refine cD (t := 21) (b := api_Rx.Kind (gd l i) == kind) (fun hb47 => ?_) (fun hb47 => ?_)
      · have h := h.1 hb47
        obtain ⟨h48, h⟩ := h
        obtain ⟨h49, h⟩ := h
        obtain ⟨h50, h⟩ := h
        refine rDE kk [.e (fv_api_Rx (gd l i))] [64] [(17, .agg [vi kind, vI .u64 0, vI .u64 0, vI .u64 0, vI .u64 0, vi 0, vi 0, .own 27 (List.map enc_api_Rx x_Kids_1 ++ List.map enc_api_Rx (api_Rx.Kids (gd l i)))])] [(17, .agg [vi kind, vI .u64 0, vI .u64 0, vI .u64 0, vI .u64 0, vi 0, vi 0, oL 27 enc_api_Rx (x_Kids_1 ++ api_Rx.Kids (gd l i))])] (obC h48 (obC (idx_ok enc_api_Rx l i _ (enc_api_Rx_eq _) h48 h49) (obC (show (0 : Nat) = (0 : Nat) ∧ List.length (List.map enc_api_Rx x_Kids_1) = List.length (List.map enc_api_Rx x_Kids_1) from by first | decide | rfl | trivial | (simp only [nm] <;> first | decide | rfl | omega)) (obC (show (List.length (List.map enc_api_Rx x_Kids_1) + List.length (List.map enc_api_Rx (api_Rx.Kids (gd l i)))) * (80 : Nat) ≤ (2 : Nat) ^ (47 : Nat) from by simpa only [nm] using h50) (obC (show List.all (List.map enc_api_Rx (api_Rx.Kids (gd l i))) (FV.fits (8 : Nat)) = true from by first | exact fits_api_Rx _ | rfl | simp [FV.fits, FV.size, FV.cells, FV.one, enc_api_Rx_eq]) obN))))) ?_
        exact jD (x_Kids_1 ++ api_Rx.Kids (gd l i)) [] h
      · have h := h.2 hb47
        obtain ⟨h51, h⟩ := h
        obtain ⟨h52, h⟩ := h
        obtain ⟨h53, h⟩ := h
        refine rDE kk [.e (fv_api_Rx (gd l i))] [64] [(17, .agg [vi kind, vI .u64 0, vI .u64 0, vI .u64 0, vI .u64 0, vi 0, vi 0, .own 27 (List.map enc_api_Rx x_Kids_1 ++ List.take (List.length [FV.agg [FV.pv (Value.int IntKind.i64 (api_Rx.Kind (gd l i))), FV.pv (Value.int IntKind.u64 (arr4_uint64.e0 (api_Rx.Set (gd l i)))), FV.pv (Value.int IntKind.u64 (arr4_uint64.e1 (api_Rx.Set (gd l i)))), FV.pv (Value.int IntKind.u64 (arr4_uint64.e2 (api_Rx.Set (gd l i)))), FV.pv (Value.int IntKind.u64 (arr4_uint64.e3 (api_Rx.Set (gd l i)))), FV.pv (Value.int IntKind.i64 (api_Rx.Lo (gd l i))), FV.pv (Value.int IntKind.i64 (api_Rx.Hi (gd l i))), FV.sl (List.map enc_api_Rx (api_Rx.Kids (gd l i)))]]) (List.drop (0 : Nat) [FV.agg [FV.pv (Value.int IntKind.i64 (api_Rx.Kind (gd l i))), FV.pv (Value.int IntKind.u64 (arr4_uint64.e0 (api_Rx.Set (gd l i)))), FV.pv (Value.int IntKind.u64 (arr4_uint64.e1 (api_Rx.Set (gd l i)))), FV.pv (Value.int IntKind.u64 (arr4_uint64.e2 (api_Rx.Set (gd l i)))), FV.pv (Value.int IntKind.u64 (arr4_uint64.e3 (api_Rx.Set (gd l i)))), FV.pv (Value.int IntKind.i64 (api_Rx.Lo (gd l i))), FV.pv (Value.int IntKind.i64 (api_Rx.Hi (gd l i))), FV.sl (List.map enc_api_Rx (api_Rx.Kids (gd l i)))]]))])] [(17, .agg [vi kind, vI .u64 0, vI .u64 0, vI .u64 0, vI .u64 0, vi 0, vi 0, oL 27 enc_api_Rx (x_Kids_1 ++ [gd l i])])] (obC h51 (obC (idx_ok enc_api_Rx l i _ (enc_api_Rx_eq _) h51 h52) (obC (show (0 : Nat) = (0 : Nat) ∧ List.length (List.map enc_api_Rx x_Kids_1) = List.length (List.map enc_api_Rx x_Kids_1) from by first | decide | rfl | trivial | (simp only [nm] <;> first | decide | rfl | omega)) (obC (show (List.length (List.map enc_api_Rx x_Kids_1) + List.length (List.take (1 : Nat) (List.drop (0 : Nat) [FV.agg [FV.pv (Value.int IntKind.i64 (api_Rx.Kind (gd l i))), FV.pv (Value.int IntKind.u64 (arr4_uint64.e0 (api_Rx.Set (gd l i)))), FV.pv (Value.int IntKind.u64 (arr4_uint64.e1 (api_Rx.Set (gd l i)))), FV.pv (Value.int IntKind.u64 (arr4_uint64.e2 (api_Rx.Set (gd l i)))), FV.pv (Value.int IntKind.u64 (arr4_uint64.e3 (api_Rx.Set (gd l i)))), FV.pv (Value.int IntKind.i64 (api_Rx.Lo (gd l i))), FV.pv (Value.int IntKind.i64 (api_Rx.Hi (gd l i))), FV.sl (List.map enc_api_Rx (api_Rx.Kids (gd l i)))]]))) * (80 : Nat) ≤ (2 : Nat) ^ (47 : Nat) from by simpa only [nm] using h53) (obC (show List.all (List.take (1 : Nat) (List.drop (0 : Nat) [FV.agg [FV.pv (Value.int IntKind.i64 (api_Rx.Kind (gd l i))), FV.pv (Value.int IntKind.u64 (arr4_uint64.e0 (api_Rx.Set (gd l i)))), FV.pv (Value.int IntKind.u64 (arr4_uint64.e1 (api_Rx.Set (gd l i)))), FV.pv (Value.int IntKind.u64 (arr4_uint64.e2 (api_Rx.Set (gd l i)))), FV.pv (Value.int IntKind.u64 (arr4_uint64.e3 (api_Rx.Set (gd l i)))), FV.pv (Value.int IntKind.i64 (api_Rx.Lo (gd l i))), FV.pv (Value.int IntKind.i64 (api_Rx.Hi (gd l i))), FV.sl (List.map enc_api_Rx (api_Rx.Kids (gd l i)))]])) (FV.fits (8 : Nat)) = true from by first | exact fits_i64 _ | rfl | simp [FV.fits, FV.size, FV.cells, FV.one, enc_api_Rx_eq]) obN))))) ?_
        exact jD (x_Kids_1 ++ [gd l i]) [] h
  · have h := h.2 hb34
    refine xD (i := 0) ?_
    show Sem _ _ _ _ _
    refine wkD [1, 4, 19, 37] ?_
    refine sD kk [] [16, 17] [(14, .agg [vi kind, vI .u64 0, vI .u64 0, vI .u64 0, vI .u64 0, vi 0, vi 0, oL 27 enc_api_Rx x_Kids_1])] (obC (show (0 : Nat) = (0 : Nat) ∧ List.length (List.map enc_api_Rx x_Kids_1) = List.length (List.map enc_api_Rx x_Kids_1) from by first | decide | rfl | trivial | (simp only [nm] <;> first | decide | rfl | omega)) obN) ?_
    refine tD ?_
    obtain he0 := h
    subst res
    exact (endD [] (.agg [vi kind, vI .u64 0, vI .u64 0, vI .u64 0, vI .u64 0, vi 0, vi 0, oL 27 enc_api_Rx x_Kids_1]) []).1
set_option maxHeartbeats 1000000 in
theorem W_hecklelaw03_Maker_Rx (deep : Int) (m : hecklelaw03_Maker) (res : api_Rx) (fin : hecklelaw03_Maker)
    (h : (∃ r0 : Int, ∃ o : hecklelaw03_Maker, C_hecklelaw03_Maker_Pick 8 m r0 o ∧ (((decide (deep < (1 : Int)) || (decide (r0 < (2 : Int)) || decide (hecklelaw03_Maker.At o ≥ (↑(List.length (hecklelaw03_Maker.L o)) : Int)))) = true → (∃ r0_1 : api_Rx, ∃ o_1 : hecklelaw03_Maker, C_hecklelaw03_Maker_leaf o r0_1 o_1 ∧ (res = r0_1 ∧ fin = o_1))) ∧ ((decide (deep < (1 : Int)) || (decide (r0 < (2 : Int)) || decide (hecklelaw03_Maker.At o ≥ (↑(List.length (hecklelaw03_Maker.L o)) : Int)))) = false → (((decide (r0 < (5 : Int))) = true → (∃ r0_2 : api_Rx, ∃ o_2 : hecklelaw03_Maker, C_hecklelaw03_Maker_Rx (w64 (deep - 1)) o r0_2 o_2 ∧ (∃ r0_3 : api_Rx, ∃ o_3 : hecklelaw03_Maker, C_hecklelaw03_Maker_Rx (w64 (deep - 1)) o_2 r0_3 o_3 ∧ (∃ r0_4 : api_Rx, C_hecklelaw03_joined 3 ([r0_2, r0_3]) r0_4 ∧ (res = r0_4 ∧ fin = o_3))))) ∧ ((decide (r0 < (5 : Int))) = false → (((r0 == (5 : Int)) = true → (∃ r0_5 : api_Rx, ∃ o_4 : hecklelaw03_Maker, C_hecklelaw03_Maker_Rx (w64 (deep - 1)) o r0_5 o_4 ∧ (∃ r0_6 : api_Rx, ∃ o_5 : hecklelaw03_Maker, C_hecklelaw03_Maker_Rx (w64 (deep - 1)) o_4 r0_6 o_5 ∧ (∃ r0_7 : api_Rx, C_hecklelaw03_joined 4 ([r0_5, r0_6]) r0_7 ∧ (res = r0_7 ∧ fin = o_5))))) ∧ ((r0 == (5 : Int)) = false → (∃ r0_8 : Int, ∃ o_6 : hecklelaw03_Maker, C_hecklelaw03_Maker_Pick 3 o r0_8 o_6 ∧ (∃ J17 : List Int → Int → Int → Prop, (∀ (o0_L : List Int) (o0_At : Int) (x_Hi : Int), J17 o0_L o0_At x_Hi → (∃ r0_11 : api_Rx, ∃ o_9 : hecklelaw03_Maker, C_hecklelaw03_Maker_Rx (w64 (deep - 2)) ({ L := o0_L, At := o0_At }) r0_11 o_9 ∧ (res = ({ Kind := (5 : Int), Set := { e0 := (0 : Int), e1 := (0 : Int), e2 := (0 : Int), e3 := (0 : Int) }, Lo := r0_8, Hi := x_Hi, Kids := [r0_11] }) ∧ fin = o_9))) ∧ (∃ r0_12 : Int, ∃ o_10 : hecklelaw03_Maker, C_hecklelaw03_Maker_Pick 2 o_6 r0_12 o_10 ∧ (((r0_12 == 1) = true → (∃ r0_13 : Int, ∃ o_11 : hecklelaw03_Maker, C_hecklelaw03_Maker_Pick 2 o_10 r0_13 o_11 ∧ J17 (hecklelaw03_Maker.L o_11) (hecklelaw03_Maker.At o_11) (w64 ((if r0_8 > (1 : Int) then r0_8 else (1 : Int)) + r0_13)))) ∧ ((r0_12 == 1) = false → J17 (hecklelaw03_Maker.L o_10) (hecklelaw03_Maker.At o_10) (-1)))))))))))))) : C_hecklelaw03_Maker_Rx deep m res fin := by
  unfold C_hecklelaw03_Maker_Rx
  have kk := cfOk [74] 75
  refine fD (x := bodyOf Try.f23) kk Try.func23 ?_
  refine wkS [1, 3, 4] [(1, .ptr 3 0), (3, av_hecklelaw03_Maker m), (4, vi deep)] (by kernel_rfl) ?_
  refine sDE kk [] [] [(13, .ptr 14 0), (14, .agg [vi 0, vI .u64 0, vI .u64 0, vI .u64 0, vI .u64 0, vi 0, vi 0, .own 27 ([])])] [(13, .ptr 14 0), (14, .agg [vi 0, vI .u64 0, vI .u64 0, vI .u64 0, vI .u64 0, vi 0, vi 0, oL 27 enc_api_Rx ([])])] obN ?_
  obtain ⟨r0, o, hc0, h⟩ := h
  refine sD kk [.c (vi r0) [av_hecklelaw03_Maker o]] [] [(3, av_hecklelaw03_Maker o), (16, vi r0)] (obC hc0 obN) ?_
  refine qD ?_
  refine sM [] [(79, vB (decide (deep < (1 : Int)) || (decide (r0 < (2 : Int)) || decide (hecklelaw03_Maker.At o ≥ (↑(List.length (hecklelaw03_Maker.L o)) : Int)))))] ?_ (fun hk0 => ?_)
  · refine cD (t := 26) (b := decide (deep < (1 : Int)) || (decide (r0 < (2 : Int)) || decide (hecklelaw03_Maker.At o ≥ (↑(List.length (hecklelaw03_Maker.L o)) : Int)))) (fun hb3 => ?_) (fun hb3 => ?_)
    · have h := h.1 hb3
      obtain ⟨r0_1, o_1, hc4, h⟩ := h
      refine sD kk [.c (ao_api_Rx r0_1) [av_hecklelaw03_Maker o_1]] [1, 4, 16, 79] [(3, av_hecklelaw03_Maker o_1), (14, ao_api_Rx r0_1)] (obC hc4 obN) ?_
      refine tD ?_
      obtain ⟨he0, he1⟩ := h
      subst res fin
      exact (endD [] (ao_api_Rx r0_1) [av_hecklelaw03_Maker o_1]).1
    · have h := h.2 hb3
      refine Sem.skip' (by kernel_rfl) Wk.refl ?_
      show Sem _ _ _ _ _
      refine wkD [79] ?_
      refine qD ?_
      refine bD (id := 0) ?_
      refine sD kk [] [] [(88, vB (decide (r0 < (5 : Int))))] obN ?_
      refine cD (t := 29) (b := decide (r0 < (5 : Int))) (fun hb5 => ?_) (fun hb5 => ?_)
      · have h := h.1 hb5
        obtain ⟨r0_2, o_2, hc6, h⟩ := h
        obtain ⟨r0_3, o_3, hc7, h⟩ := h
        obtain ⟨r0_4, hc8, h⟩ := h
        refine sD kk [.c (ao_api_Rx r0_2) [av_hecklelaw03_Maker o_2], .c (ao_api_Rx r0_3) [av_hecklelaw03_Maker o_3], .c (ao_api_Rx r0_4) []] [1, 4, 16, 88] [(3, av_hecklelaw03_Maker o_3), (14, ao_api_Rx r0_4)] (obC hc6 (obC hc7 (obC (Eq.mp (by unfold C_hecklelaw03_joined; (try simp only [List.drop_zero, List.take_length]); first | done | simp only [nm, enq] : C_hecklelaw03_joined 3 ([r0_2, r0_3]) r0_4 = CallE Try.prog 34 [vi 3, .f (FV.sl (List.take (List.length [FV.agg [FV.pv (Value.int IntKind.i64 (api_Rx.Kind r0_2)), FV.pv (Value.int IntKind.u64 (arr4_uint64.e0 (api_Rx.Set r0_2))), FV.pv (Value.int IntKind.u64 (arr4_uint64.e1 (api_Rx.Set r0_2))), FV.pv (Value.int IntKind.u64 (arr4_uint64.e2 (api_Rx.Set r0_2))), FV.pv (Value.int IntKind.u64 (arr4_uint64.e3 (api_Rx.Set r0_2))), FV.pv (Value.int IntKind.i64 (api_Rx.Lo r0_2)), FV.pv (Value.int IntKind.i64 (api_Rx.Hi r0_2)), FV.sl (List.take (List.length (List.map enc_api_Rx (api_Rx.Kids r0_2))) (List.drop (0 : Nat) (List.map enc_api_Rx (api_Rx.Kids r0_2))))], FV.agg [FV.pv (Value.int IntKind.i64 (api_Rx.Kind r0_3)), FV.pv (Value.int IntKind.u64 (arr4_uint64.e0 (api_Rx.Set r0_3))), FV.pv (Value.int IntKind.u64 (arr4_uint64.e1 (api_Rx.Set r0_3))), FV.pv (Value.int IntKind.u64 (arr4_uint64.e2 (api_Rx.Set r0_3))), FV.pv (Value.int IntKind.u64 (arr4_uint64.e3 (api_Rx.Set r0_3))), FV.pv (Value.int IntKind.i64 (api_Rx.Lo r0_3)), FV.pv (Value.int IntKind.i64 (api_Rx.Hi r0_3)), FV.sl (List.take (List.length (List.map enc_api_Rx (api_Rx.Kids r0_3))) (List.drop (0 : Nat) (List.map enc_api_Rx (api_Rx.Kids r0_3))))]]) (List.drop (0 : Nat) [FV.agg [FV.pv (Value.int IntKind.i64 (api_Rx.Kind r0_2)), FV.pv (Value.int IntKind.u64 (arr4_uint64.e0 (api_Rx.Set r0_2))), FV.pv (Value.int IntKind.u64 (arr4_uint64.e1 (api_Rx.Set r0_2))), FV.pv (Value.int IntKind.u64 (arr4_uint64.e2 (api_Rx.Set r0_2))), FV.pv (Value.int IntKind.u64 (arr4_uint64.e3 (api_Rx.Set r0_2))), FV.pv (Value.int IntKind.i64 (api_Rx.Lo r0_2)), FV.pv (Value.int IntKind.i64 (api_Rx.Hi r0_2)), FV.sl (List.take (List.length (List.map enc_api_Rx (api_Rx.Kids r0_2))) (List.drop (0 : Nat) (List.map enc_api_Rx (api_Rx.Kids r0_2))))], FV.agg [FV.pv (Value.int IntKind.i64 (api_Rx.Kind r0_3)), FV.pv (Value.int IntKind.u64 (arr4_uint64.e0 (api_Rx.Set r0_3))), FV.pv (Value.int IntKind.u64 (arr4_uint64.e1 (api_Rx.Set r0_3))), FV.pv (Value.int IntKind.u64 (arr4_uint64.e2 (api_Rx.Set r0_3))), FV.pv (Value.int IntKind.u64 (arr4_uint64.e3 (api_Rx.Set r0_3))), FV.pv (Value.int IntKind.i64 (api_Rx.Lo r0_3)), FV.pv (Value.int IntKind.i64 (api_Rx.Hi r0_3)), FV.sl (List.take (List.length (List.map enc_api_Rx (api_Rx.Kids r0_3))) (List.drop (0 : Nat) (List.map enc_api_Rx (api_Rx.Kids r0_3))))]])))] [] (ao_api_Rx r0_4) []) hc8) obN))) ?_
        refine tD ?_
        obtain ⟨he0, he1⟩ := h
        subst res fin
        exact (endD [] (ao_api_Rx r0_4) [av_hecklelaw03_Maker o_3]).1
      · have h := h.2 hb5
        refine sD kk [] [16, 88] [(127, vB (r0 == (5 : Int)))] obN ?_
        refine cD (t := 42) (b := r0 == (5 : Int)) (fun hb9 => ?_) (fun hb9 => ?_)
        · have h := h.1 hb9
          obtain ⟨r0_5, o_4, hc10, h⟩ := h
          obtain ⟨r0_6, o_5, hc11, h⟩ := h
          obtain ⟨r0_7, hc12, h⟩ := h
          refine sD kk [.c (ao_api_Rx r0_5) [av_hecklelaw03_Maker o_4], .c (ao_api_Rx r0_6) [av_hecklelaw03_Maker o_5], .c (ao_api_Rx r0_7) []] [1, 4, 127] [(3, av_hecklelaw03_Maker o_5), (14, ao_api_Rx r0_7)] (obC hc10 (obC hc11 (obC (Eq.mp (by unfold C_hecklelaw03_joined; (try simp only [List.drop_zero, List.take_length]); first | done | simp only [nm, enq] : C_hecklelaw03_joined 4 ([r0_5, r0_6]) r0_7 = CallE Try.prog 34 [vi 4, .f (FV.sl (List.take (List.length [FV.agg [FV.pv (Value.int IntKind.i64 (api_Rx.Kind r0_5)), FV.pv (Value.int IntKind.u64 (arr4_uint64.e0 (api_Rx.Set r0_5))), FV.pv (Value.int IntKind.u64 (arr4_uint64.e1 (api_Rx.Set r0_5))), FV.pv (Value.int IntKind.u64 (arr4_uint64.e2 (api_Rx.Set r0_5))), FV.pv (Value.int IntKind.u64 (arr4_uint64.e3 (api_Rx.Set r0_5))), FV.pv (Value.int IntKind.i64 (api_Rx.Lo r0_5)), FV.pv (Value.int IntKind.i64 (api_Rx.Hi r0_5)), FV.sl (List.take (List.length (List.map enc_api_Rx (api_Rx.Kids r0_5))) (List.drop (0 : Nat) (List.map enc_api_Rx (api_Rx.Kids r0_5))))], FV.agg [FV.pv (Value.int IntKind.i64 (api_Rx.Kind r0_6)), FV.pv (Value.int IntKind.u64 (arr4_uint64.e0 (api_Rx.Set r0_6))), FV.pv (Value.int IntKind.u64 (arr4_uint64.e1 (api_Rx.Set r0_6))), FV.pv (Value.int IntKind.u64 (arr4_uint64.e2 (api_Rx.Set r0_6))), FV.pv (Value.int IntKind.u64 (arr4_uint64.e3 (api_Rx.Set r0_6))), FV.pv (Value.int IntKind.i64 (api_Rx.Lo r0_6)), FV.pv (Value.int IntKind.i64 (api_Rx.Hi r0_6)), FV.sl (List.take (List.length (List.map enc_api_Rx (api_Rx.Kids r0_6))) (List.drop (0 : Nat) (List.map enc_api_Rx (api_Rx.Kids r0_6))))]]) (List.drop (0 : Nat) [FV.agg [FV.pv (Value.int IntKind.i64 (api_Rx.Kind r0_5)), FV.pv (Value.int IntKind.u64 (arr4_uint64.e0 (api_Rx.Set r0_5))), FV.pv (Value.int IntKind.u64 (arr4_uint64.e1 (api_Rx.Set r0_5))), FV.pv (Value.int IntKind.u64 (arr4_uint64.e2 (api_Rx.Set r0_5))), FV.pv (Value.int IntKind.u64 (arr4_uint64.e3 (api_Rx.Set r0_5))), FV.pv (Value.int IntKind.i64 (api_Rx.Lo r0_5)), FV.pv (Value.int IntKind.i64 (api_Rx.Hi r0_5)), FV.sl (List.take (List.length (List.map enc_api_Rx (api_Rx.Kids r0_5))) (List.drop (0 : Nat) (List.map enc_api_Rx (api_Rx.Kids r0_5))))], FV.agg [FV.pv (Value.int IntKind.i64 (api_Rx.Kind r0_6)), FV.pv (Value.int IntKind.u64 (arr4_uint64.e0 (api_Rx.Set r0_6))), FV.pv (Value.int IntKind.u64 (arr4_uint64.e1 (api_Rx.Set r0_6))), FV.pv (Value.int IntKind.u64 (arr4_uint64.e2 (api_Rx.Set r0_6))), FV.pv (Value.int IntKind.u64 (arr4_uint64.e3 (api_Rx.Set r0_6))), FV.pv (Value.int IntKind.i64 (api_Rx.Lo r0_6)), FV.pv (Value.int IntKind.i64 (api_Rx.Hi r0_6)), FV.sl (List.take (List.length (List.map enc_api_Rx (api_Rx.Kids r0_6))) (List.drop (0 : Nat) (List.map enc_api_Rx (api_Rx.Kids r0_6))))]])))] [] (ao_api_Rx r0_7) []) hc12) obN))) ?_
          refine tD ?_
          obtain ⟨he0, he1⟩ := h
          subst res fin
          exact (endD [] (ao_api_Rx r0_7) [av_hecklelaw03_Maker o_5]).1
        · have h := h.2 hb9
          refine Sem.skip' (by kernel_rfl) Wk.refl ?_
          show Sem _ _ _ _ _
          refine wkD [127] ?_
          obtain ⟨r0_8, o_6, hc13, h⟩ := h
          refine sDE kk [.c (vi r0_8) [av_hecklelaw03_Maker o_6]] [] [(3, av_hecklelaw03_Maker o_6), (19, .ptr 20 0), (20, .agg [vi 5, vI .u64 0, vI .u64 0, vI .u64 0, vI .u64 0, vi r0_8, vi (-1), .own 27 ([])])] [(3, av_hecklelaw03_Maker o_6), (19, .ptr 20 0), (20, .agg [vi 5, vI .u64 0, vI .u64 0, vI .u64 0, vI .u64 0, vi r0_8, vi (-1), oL 27 enc_api_Rx ([])])] (obC hc13 obN) ?_
          obtain ⟨J17, hJ17, h⟩ := h
          refine sjD (fun (q : List Int × Int × Int) => J17 q.1 q.2.1 q.2.2) (fun (q : List Int × Int × Int) => (fun (o0_L : List Int) (o0_At : Int) (x_Hi : Int) => ([(1, .ptr 3 0), (3, .agg [vL enc_u8 o0_L, vi o0_At]), (4, vi deep), (13, .ptr 14 0), (14, .agg [vi 0, vI .u64 0, vI .u64 0, vI .u64 0, vI .u64 0, vi 0, vi 0, oL 27 enc_api_Rx ([])]), (19, .ptr 20 0), (20, .agg [vi 5, vI .u64 0, vI .u64 0, vI .u64 0, vI .u64 0, vi r0_8, vi x_Hi, oL 27 enc_api_Rx ([])])] : Sta)) q.1 q.2.1 q.2.2) ?_ ?_
          · rintro ⟨o0_L, o0_At, x_Hi⟩ hj
            have h := hJ17 o0_L o0_At x_Hi hj
            obtain ⟨r0_11, o_9, hc18, h⟩ := h
            refine sDE kk [.c (ao_api_Rx r0_11) [av_hecklelaw03_Maker o_9]] [1, 4] [(3, av_hecklelaw03_Maker o_9), (20, .agg [vi 5, vI .u64 0, vI .u64 0, vI .u64 0, vI .u64 0, vi r0_8, vi x_Hi, .own 27 ([FV.agg [FV.pv (Value.int IntKind.i64 (api_Rx.Kind r0_11)), FV.pv (Value.int IntKind.u64 (arr4_uint64.e0 (api_Rx.Set r0_11))), FV.pv (Value.int IntKind.u64 (arr4_uint64.e1 (api_Rx.Set r0_11))), FV.pv (Value.int IntKind.u64 (arr4_uint64.e2 (api_Rx.Set r0_11))), FV.pv (Value.int IntKind.u64 (arr4_uint64.e3 (api_Rx.Set r0_11))), FV.pv (Value.int IntKind.i64 (api_Rx.Lo r0_11)), FV.pv (Value.int IntKind.i64 (api_Rx.Hi r0_11)), FV.sl (List.take (List.length (List.map enc_api_Rx (api_Rx.Kids r0_11))) (List.drop (0 : Nat) (List.map enc_api_Rx (api_Rx.Kids r0_11))))]])])] [(3, av_hecklelaw03_Maker o_9), (20, .agg [vi 5, vI .u64 0, vI .u64 0, vI .u64 0, vI .u64 0, vi r0_8, vi x_Hi, oL 27 enc_api_Rx ([r0_11])])] (obC hc18 obN) ?_
            refine sD kk [] [19, 20] [(14, .agg [vi 5, vI .u64 0, vI .u64 0, vI .u64 0, vI .u64 0, vi r0_8, vi x_Hi, oL 27 enc_api_Rx ([r0_11])])] (obC (show (0 : Nat) = (0 : Nat) ∧ (1 : Nat) = List.length (List.map enc_api_Rx [r0_11]) from by first | decide | rfl | trivial | (simp only [nm] <;> first | decide | rfl | omega)) obN) ?_
            refine tD ?_
            obtain ⟨he0, he1⟩ := h
            subst res fin
            exact (endD [] (.agg [vi 5, vI .u64 0, vI .u64 0, vI .u64 0, vI .u64 0, vi r0_8, vi x_Hi, oL 27 enc_api_Rx ([r0_11])]) [av_hecklelaw03_Maker o_9]).1
          · obtain ⟨r0_12, o_10, hc19, h⟩ := h
            refine sD kk [.c (vi r0_12) [av_hecklelaw03_Maker o_10]] [] [(3, av_hecklelaw03_Maker o_10), (181, vB (r0_12 == 1))] (obC hc19 obN) ?_
            refine cD (t := 60) (b := r0_12 == 1) (fun hb20 => ?_) (fun hb20 => ?_)
            · have h := h.1 hb20
              obtain ⟨r0_13, o_11, hc21, h⟩ := h
              refine rDE kk [.c (vi r0_13) [av_hecklelaw03_Maker o_11]] [181] [(3, av_hecklelaw03_Maker o_11), (20, .agg [vi 5, vI .u64 0, vI .u64 0, vI .u64 0, vI .u64 0, vi r0_8, vi (w64 ((if true = true then if r0_8 > (1 : Int) then r0_8 else (1 : Int) else if r0_8 < (1 : Int) then r0_8 else (1 : Int)) + r0_13)), oL 27 enc_api_Rx ([])])] [(3, av_hecklelaw03_Maker o_11), (20, .agg [vi 5, vI .u64 0, vI .u64 0, vI .u64 0, vI .u64 0, vi r0_8, vi (w64 ((if r0_8 > (1 : Int) then r0_8 else (1 : Int)) + r0_13)), oL 27 enc_api_Rx ([])])] (obC hc21 obN) ?_
              exact jD ((hecklelaw03_Maker.L o_11), (hecklelaw03_Maker.At o_11), (w64 ((if r0_8 > (1 : Int) then r0_8 else (1 : Int)) + r0_13))) [] h
            · have h := h.2 hb20
              refine Sem.skip' (by kernel_rfl) Wk.refl ?_
              exact jD ((hecklelaw03_Maker.L o_10), (hecklelaw03_Maker.At o_10), (-1)) [] h
  · rcases Bool.eq_false_or_eq_true (decide (deep < (1 : Int))) with hb1 | hb1
    · refine sD kk [.b false, .b false, .b true, .b false, .b false, .b false, .b false, .b false, .b false, .b false, .b false, .b false, .b false, .b true] [] [(79, vB true)] (obC (gff hb1) (obC (gff hb1) (obC hb1 (obC (rfl : false = false) (obC (rfl : false = false) (obC (rfl : false = false) (obC (rfl : false = false) (obC (rfl : false = false) (obC (rfl : false = false) (obC (rfl : false = false) (obC (rfl : false = false) (obC (rfl : false = false) (obC (rfl : false = false) (obC (rfl : true = true) obN)))))))))))))) ?_
      exact Sem.cast (by try rw [hb1]; kernel_rfl) hk0
    · rcases Bool.eq_false_or_eq_true (decide (r0 < (2 : Int))) with hb2 | hb2
      · refine sD kk [.b true, .b true, .b false, .b false, .b false, .b false, .b false, .b false, .b false, .b false, .b false, .b false, .b false, .b true] [] [(79, vB true)] (obC (gft hb1) (obC (gft hb1) (obC hb1 (obC (gff hb2) (obC (gff hb2) (obC (gff hb2) (obC (gff hb2) (obC (gff hb2) (obC (gff hb2) (obC (gff hb2) (obC (gff hb2) (obC (gff hb2) (obC (gff hb2) (obC hb2 obN)))))))))))))) ?_
        exact Sem.cast (by try rw [hb1]; try rw [hb2]; kernel_rfl) hk0
      · refine sDE kk [.b true, .b true, .b false, .b true, .b true, .b true, .b true, .b true, .b true, .b true, .b true, .b true, .b true, .b false] [] [(79, vB (decide (hecklelaw03_Maker.At o ≥ (↑(List.length (List.map enc_u8 (hecklelaw03_Maker.L o))) : Int))))] [(79, vB (decide (hecklelaw03_Maker.At o ≥ (↑(List.length (hecklelaw03_Maker.L o)) : Int))))] (obC (gft hb1) (obC (gft hb1) (obC hb1 (obC (gft hb2) (obC (gft hb2) (obC (gft hb2) (obC (gft hb2) (obC (gft hb2) (obC (gft hb2) (obC (gft hb2) (obC (gft hb2) (obC (gft hb2) (obC (gft hb2) (obC hb2 obN)))))))))))))) ?_
        exact Sem.cast (by try rw [hb1]; try rw [hb2]; kernel_rfl) hk0
set_option maxHeartbeats 1000000 in
theorem W_hecklelaw03_Made (l : (List Int)) (res : api_Rx)
    (h : (∃ J2 : List Int → Prop, (∀ (l_1 : List Int), J2 l_1 → (∃ r0 : api_Rx, ∃ o : hecklelaw03_Maker, C_hecklelaw03_Maker_Rx 4 ({ L := l_1, At := (0 : Int) }) r0 o ∧ (∃ r0_1 : Int, C_heckleref03_Size r0 r0_1 ∧ (((decide (r0_1 > (40 : Int))) = true → (∃ r0_2 : api_Rx, C_hecklelaw03_char ((97 : Int)) r0_2 ∧ (res = r0_2))) ∧ ((decide (r0_1 > (40 : Int))) = false → (res = r0)))))) ∧ (((decide ((↑(List.length l) : Int) > (30 : Int))) = true → ((0 : Int) ≤ (30 : Int) ∧ Int.toNat (30 : Int) ≤ List.length l ∧ List.all (List.map enc_u8 l) (FV.fits (1 : Nat)) = true) ∧ J2 (List.take (Int.toNat (30 : Int)) l)) ∧ ((decide ((↑(List.length l) : Int) > (30 : Int))) = false → J2 l)))) : C_hecklelaw03_Made l res := by
  unfold C_hecklelaw03_Made
  have kk := cfOk [19] 20
  refine fD (x := bodyOf Try.f11) kk Try.func11 ?_
  refine wkS [1] [(1, vL enc_u8 l)] (by kernel_rfl) ?_
  refine sDE kk [] [] [(7, .ptr 8 0), (8, .agg [vi 0, vI .u64 0, vI .u64 0, vI .u64 0, vI .u64 0, vi 0, vi 0, .own 27 ([])])] [(7, .ptr 8 0), (8, .agg [vi 0, vI .u64 0, vI .u64 0, vI .u64 0, vI .u64 0, vi 0, vi 0, oL 27 enc_api_Rx ([])])] obN ?_
  obtain ⟨J2, hJ2, h⟩ := h
  refine sjD (fun (q : List Int) => J2 q) (fun (q : List Int) => (fun (l_1 : List Int) => ([(1, vL enc_u8 l_1), (7, .ptr 8 0), (8, .agg [vi 0, vI .u64 0, vI .u64 0, vI .u64 0, vI .u64 0, vi 0, vi 0, oL 27 enc_api_Rx ([])])] : Sta)) q) ?_ ?_
  · rintro l_1 hj
    have h := hJ2 l_1 hj
    refine sD kk [] [1] [(10, .ptr 38 0), (38, .agg [vL enc_u8 l_1, vi 0])] obN ?_
    obtain ⟨r0, o, hc3, h⟩ := h
    refine sD kk [.c (ao_api_Rx r0) [av_hecklelaw03_Maker o]] [10, 38] [(13, .ptr 14 0), (14, ao_api_Rx r0)] (obC hc3 obN) ?_
    refine qD ?_
    obtain ⟨r0_1, hc4, h⟩ := h
    refine sD kk [.c (vi r0_1) []] [] [(14, av_api_Rx r0), (52, vB (decide (r0_1 > (40 : Int))))] (obC (Eq.mp (by unfold C_heckleref03_Size; (try simp only [List.drop_zero, List.take_length]); first | done | simp only [nm, enq] : C_heckleref03_Size r0 r0_1 = CallE Try.prog 12 [.agg [vi (api_Rx.Kind r0), vI .u64 (arr4_uint64.e0 (api_Rx.Set r0)), vI .u64 (arr4_uint64.e1 (api_Rx.Set r0)), vI .u64 (arr4_uint64.e2 (api_Rx.Set r0)), vI .u64 (arr4_uint64.e3 (api_Rx.Set r0)), vi (api_Rx.Lo r0), vi (api_Rx.Hi r0), .f (FV.sl (List.take (List.length (List.map enc_api_Rx (api_Rx.Kids r0))) (List.drop (0 : Nat) (List.map enc_api_Rx (api_Rx.Kids r0)))))]] [] (vi r0_1) []) hc4) obN) ?_
    refine cD (t := 17) (b := decide (r0_1 > (40 : Int))) (fun hb5 => ?_) (fun hb5 => ?_)
    · have h := h.1 hb5
      obtain ⟨r0_2, hc6, h⟩ := h
      refine sD kk [.c (ao_api_Rx r0_2) []] [13, 14, 52] [(8, ao_api_Rx r0_2)] (obC hc6 obN) ?_
      refine tD ?_
      obtain he0 := h
      subst res
      exact (endD [(8, 7)] (av_api_Rx r0_2) []).1
    · have h := h.2 hb5
      refine Sem.skip' (by kernel_rfl) Wk.refl ?_
      show Sem _ _ _ _ _
      refine wkD [52] ?_
      refine sD kk [] [13, 14] [(8, av_api_Rx r0)] obN ?_
      refine tD ?_
      obtain he0 := h
      subst res
      exact (endD [] (av_api_Rx r0) []).1
  · refine sDE kk [] [] [(22, vB (decide ((↑(List.length (List.map enc_u8 l)) : Int) > (30 : Int))))] [(22, vB (decide ((↑(List.length l) : Int) > (30 : Int))))] obN ?_
    refine cD (t := 7) (b := decide ((↑(List.length l) : Int) > (30 : Int))) (fun hb7 => ?_) (fun hb7 => ?_)
    · have h := h.1 hb7
      obtain ⟨h8, h⟩ := h
      refine rDE kk [] [22] [(1, .f (FV.sl (List.take (Int.toNat (30 : Int) - (0 : Nat)) (List.drop (0 : Nat) (List.map enc_u8 l)))))] [(1, vL enc_u8 (List.take (Int.toNat (30 : Int)) l))] (obC (show True ∧ (0 : Int) ≤ (30 : Int) ∧ (0 : Nat) ≤ Int.toNat (30 : Int) ∧ Int.toNat (30 : Int) ≤ List.length (List.map enc_u8 l) ∧ List.all (List.map enc_u8 l) (FV.fits (1 : Nat)) = true from by simpa only [nm] using h8) obN) ?_
      exact jD (List.take (Int.toNat (30 : Int)) l) [] h
    · have h := h.2 hb7
      refine Sem.skip' (by kernel_rfl) Wk.refl ?_
      exact jD l [] h
set_option maxHeartbeats 1000000 in
theorem W_hecklelaw09_PlaceMade (l : (List Int)) (res : Bool)
    (h : (∃ r0 : Bool, C_hecklelaw09_awake r0 ∧ (((r0) = true → (∃ r0_1 : api_Rx, C_hecklelaw03_Made l r0_1 ∧ (∃ r0_2 : Bool, C_hecklelaw09_same r0_1 r0_2 ∧ (res = r0_2)))) ∧ ((r0) = false → (res = false))))) : C_hecklelaw09_PlaceMade l res := by
  unfold C_hecklelaw09_PlaceMade
  have kk := cfOk [] 9
  refine fD (x := bodyOf Try.f4) kk Try.func4 ?_
  refine wkS [1] [(1, vL enc_u8 l)] (by kernel_rfl) ?_
  refine sD kk [] [] [] obN ?_
  obtain ⟨r0, hc0, h⟩ := h
  rcases Bool.eq_false_or_eq_true (r0) with hb1 | hb1
  · have h := h.1 hb1
    obtain ⟨r0_1, hc2, h⟩ := h
    obtain ⟨r0_2, hc3, h⟩ := h
    refine sD kk [.c (vB r0) [], .b true, .b true, .c (av_api_Rx r0_1) [], .b true, .c (vB r0_2) [], .b true] [1] [(7, vB r0_2)] (obC hc0 (obC (gtt hb1) (obC (gtt hb1) (obC hc2 (obC (gtt hb1) (obC hc3 (obC hb1 obN))))))) ?_
    refine tD ?_
    obtain he0 := h
    subst res
    exact (endD [] (vB r0_2) []).1
  · have h := h.2 hb1
    refine sD kk [.c (vB r0) [], .b false, .b false, .b false, .b false] [1] [(7, vB false)] (obC hc0 (obC (gtf hb1) (obC (gtf hb1) (obC (gtf hb1) (obC hb1 obN))))) ?_
    refine tD ?_
    obtain he0 := h
    subst res
    exact (endD [] (vB false) []).1
end Go.Ev

set_option linter.unusedSimpArgs false
set_option linter.unusedVariables false
namespace Go.Ev
open Go Go.Proofs
set_option maxRecDepth 8000
end Go.Ev


set_option linter.unusedSimpArgs false
set_option linter.unusedVariables false
namespace Go.Ev
open Go Go.Proofs
set_option maxRecDepth 8000
theorem ti4 : tiOf Try.prog 4 = some ⟨Try.t4.desc, 1, 1, some (.f (.pv (.bool false)))⟩ := tiOf_eq Try.underlying4 Try.type4 (by kernel_rfl)
theorem ti3 : tiOf Try.prog 3 = some ⟨Try.t3.desc, 1, 8, some (.f (.pv (.int .i64 0)))⟩ := tiOf_eq Try.underlying3 Try.type3 (by kernel_rfl)
theorem ti24 : tiOf Try.prog 24 = some ⟨Try.t23.desc, 4, 32, some (.agg [.f (.pv (.int .u64 0)), .f (.pv (.int .u64 0)), .f (.pv (.int .u64 0)), .f (.pv (.int .u64 0))])⟩ := tiOf_eq Try.underlying24 Try.type24 (by kernel_rfl)
theorem ti22 : tiOf Try.prog 22 = some ⟨Try.t22.desc, 1, 8, some (.f (.pv (.int .u64 0)))⟩ := tiOf_eq Try.underlying22 Try.type22 (by kernel_rfl)
theorem ti27 : tiOf Try.prog 27 = some ⟨Try.t26.desc, 8, 80, some (.agg [.f (.pv (.int .i64 0)), .f (.pv (.int .u64 0)), .f (.pv (.int .u64 0)), .f (.pv (.int .u64 0)), .f (.pv (.int .u64 0)), .f (.pv (.int .i64 0)), .f (.pv (.int .i64 0)), .own 27 []])⟩ := tiOf_eq Try.underlying27 Try.type27 (by kernel_rfl)
theorem ti25 : tiOf Try.prog 25 = some ⟨Try.t25.desc, 1, 24, some (.own 27 [])⟩ := tiOf_eq Try.underlying25 Try.type25 (by kernel_rfl)
def orBit (w : Int) (i : Int) : Int := IntKind.u64.wrap (BitVec.ofInt IntKind.u64.bits w ||| BitVec.ofInt IntKind.u64.bits (IntKind.u64.wrap (1 * 2 ^ min i.toNat IntKind.u64.bits))).toNat
def setAdd (s : arr4_uint64) (i : Int) : arr4_uint64 :=
  if i < 64 then { s with e0 := orBit s.e0 i } else if i < 128 then { s with e1 := orBit s.e1 (i - 64) } else if i < 192 then { s with e2 := orBit s.e2 (i - 128) } else { s with e3 := orBit s.e3 (i - 192) }
noncomputable def cf44 : Cfg := { ti := tiOf Try.prog, mv := fun _ => false, nt := 17, dead := keepC [4, 7, 13], deadL := keepC [] }
theorem divmod64 (q i : Int) (h0 : 0 ≤ i) (h1 : 64 * q ≤ i) (h2 : i < 64 * q + 64) : i.tdiv 64 = q ∧ i.tmod 64 = i - 64 * q := by
  rw [Int.tdiv_eq_ediv_of_nonneg h0, Int.tmod_eq_emod_of_nonneg h0]; omega
set_option maxHeartbeats 4000000 in
theorem add_ok (s : arr4_uint64) (i : Int) (h0 : 0 ≤ i) (h1 : i < 256) : C_heckleref01_add s i (setAdd s i) := by
  unfold C_heckleref01_add
  obtain ⟨a, b, c, d⟩ := s
  refine callE_of (c := cf44) (by rfl) (cfgOk_of rfl) (ipsOk_none rfl rfl) Try.func44 (by rfl) rfl rfl (Nat.le_of_ble_eq_true rfl) (by rfl) (by rfl) ?_
  rw [show Try.f44.results = #[.cell 4 24] from rfl]
  have hw0 : IntKind.i64.wrap 0 = 0 := by rfl
  have hw1 : IntKind.i64.wrap 1 = 1 := by rfl
  have hw2 : IntKind.i64.wrap 2 = 2 := by rfl
  have hw3 : IntKind.i64.wrap 3 = 3 := by rfl
  simp only [entry, av_arr4_uint64, vI, vi, vB, cf44, ti3, ti4, ti22, ti24, ti25, ti27, Try.t3, Try.t4, Try.t22, Try.t23, Try.t25, Try.t26, boxRM, hasO, isFO, List.any_cons, List.any_nil, storeX, mvS, wc_seq, wc_reg, wc_skip, wc_block, wc_exit, wc_ret, wc_cond, condQ_t, condQ_f, seqK_n, seqK_e, seqK_r, seqN_nil, seqN_cons, blockK_n, blockK_e, blockK_r, regN_nil, regN_cons, opsQ_nil, opsQ_cons, goQ_nil, goQ_cons, wq_ret, wq_fail, wq_ask, wq_call, wq_peek, wq_if, askQ_some, peekQ_some, look_none, look_at, leafAt.eq_1, leafAt.eq_2, get, ins, mapv, upd, dropN, Up.app.eq_1, Up.app.eq_2, Up.app.eq_3, Up.app.eq_4, Up.app.eq_5, Up.app.eq_6, AV.map2.eq_1, AV.map2.eq_2, AV.map2.eq_3, AV.map1.eq_1, AV.map1.eq_2, killr.eq_1, killr.eq_2, killr.eq_3, killp.eq_1, killp.eq_2, killp.eq_3, killb, putV, setLeaf.eq_1, setLeaf.eq_2, mapLeaf.eq_1, mapLeaf.eq_2, Ev.frz.eq_1, Ev.frz.eq_2, AV.toLeaf.eq_1, AV.toLeaf.eq_2, AV.toLeaf.eq_3, AV.leaves.eq_1, AV.leaves.eq_2, AV.isLeaf.eq_1, AV.isLeaf.eq_2, AV.isLeaf.eq_3, AV.ok.eq_1, AV.ok.eq_2, AV.ok1.eq_1, AV.ok1.eq_2, AV.isBad.eq_1, AV.isBad.eq_2, guardRM, opRM, rdO.eq_1, rdO.eq_2, rdO.eq_3, rdO.eq_4, rdL, vw.eq_1, vw.eq_2, vw.eq_3, vwL, vwLeaf.eq_1, vwLeaf.eq_2, fin.eq_1, fin.eq_2, finOwn.eq_1, finOwn.eq_2, finAgg.eq_1, finAgg.eq_2, finNew.eq_1, finNew.eq_2, newB.eq_1, newB.eq_2, moveRM.eq_1, moveRM.eq_2, asgRM.eq_1, asgRM.eq_2, asgRM.eq_3, asgRM.eq_4, loadRM, storeRM, stSrc.eq_1, stSrc.eq_2, stSrc.eq_3, stTmp.eq_1, stTmp.eq_2, stTmp.eq_3, stTmp.eq_4, stTmp.eq_5, stTmp.eq_6, stTmp.eq_7, stTmp.eq_8, stRaw, stAny, stNil, stEl, stL, cpoL, cpo1.eq_1, cpo1.eq_2, cp.eq_1, cp.eq_2, cp1.eq_1, cp1.eq_2, cp1.eq_3, cp1.eq_4, cp1.eq_5, cp1.eq_6, cpL, cps, fieldAddrRM, fieldOff, AV.plus.eq_1, AV.plus.eq_2, AV.plus.eq_3, AV.plus.eq_4, seen.eq_1, seen.eq_2, seen.eq_3, partAV, binAV.eq_1, binAV.eq_2, binAV.eq_3, binAV.eq_4, binAV.eq_5, binAV.eq_6, binAV.eq_7, binAV.eq_8, binAV.eq_9, unAV.eq_1, unAV.eq_2, unAV.eq_3, unAV.eq_4, optRM.eq_1, optRM.eq_2, intOp.eq_1, intOp.eq_2, intOp.eq_3, intOp.eq_4, intOp.eq_5, intOp.eq_6, intOp.eq_7, intOp.eq_8, intOp.eq_9, intOp.eq_10, intOp.eq_11, intOp.eq_12, intOp.eq_13, intOp.eq_14, intOp.eq_15, intOp.eq_16, shiftOp.eq_1, shiftOp.eq_2, shiftOp.eq_3, strOp.eq_1, strOp.eq_2, strOp.eq_3, strOp.eq_4, strOp.eq_5, strOp.eq_6, strOp.eq_7, strOp.eq_8, isShift.eq_1, isShift.eq_2, isShift.eq_3, buildRM, placesL, fillRM, fillL, buildSliceRM, elemsRM, lenRM.eq_1, lenRM.eq_2, lenRM.eq_3, lenSRM.eq_1, lenSRM.eq_2, maxAV.eq_1, maxAV.eq_2, maxGo, appendRM, apBase.eq_1, apBase.eq_2, apBase.eq_3, apGo, boOk.eq_1, boOk.eq_2, boUps.eq_1, boUps.eq_2, frzNe.eq_1, frzNe.eq_2, isSrcD.eq_1, isSrcD.eq_2, isSrcD.eq_3, sliceOpRM, callGo, addNew, builtinRM.eq_1, builtinRM.eq_2, builtinRM.eq_3, builtinRM.eq_4, builtinRM.eq_5, constAV.eq_1, constAV.eq_2, constL, constLeaf.eq_1, constLeaf.eq_2, constLeaf.eq_3, constLeaf.eq_4, constLeaf.eq_5, constLeaf.eq_6, constLeaf.eq_7, constLeaf.eq_8, constLeaf.eq_9, constLeaf.eq_10, isAggD.eq_1, isAggD.eq_2, isAggD.eq_3, askL, ofCells, AV.free, AV.refs.eq_1, AV.refs.eq_2, AV.refs1.eq_1, AV.refs1.eq_2, AV.refs0.eq_1, AV.refs0.eq_2, AV.refs0.eq_3, AV.refs0.eq_4, AV.refs0.eq_5, Acc.meets.eq_1, Acc.meets.eq_2, Acc.meets.eq_3, Acc.meets.eq_4, Acc.meets.eq_5, Acc.meets.eq_6, frzOff.eq_1, frzOff.eq_2, tb, xb, ob, endK_r, endK_n, endU.eq_1, endU.eq_2, outsOf, resRM.eq_1, resRM.eq_2, resRM.eq_3, res1.eq_1, res1.eq_2, res1.eq_3, cellR, cellFits.eq_1, cellFits.eq_2, cellFits.eq_3, rdR.eq_1, rdR.eq_2, rdRs, keepC, FV.one.eq_1, FV.one.eq_2, FV.cells.eq_1, FV.cells.eq_2, FV.cells.eq_3, AV.leafF.eq_1, AV.leafF.eq_2, AV.elem.eq_1, AV.elem.eq_2, fLeaves, asAV.eq_1, asAV.eq_2, opsP_nil, opsP_cons, goU_nil, goU_cons, goP_nil, goP_cons, ups_refs_nil, ups_refs_cons, ups_writes_nil, ups_writes_cons, regP_cons, wp_ret, wp_fail, wp_ask', wp_peek, wp_call, wp_if, askP_some, peekP_some, accOf.eq_1, accOf.eq_2, Up.refs.eq_1, Up.refs.eq_2, Up.refs.eq_3, Up.refs.eq_4, Up.refs.eq_5, Up.refs.eq_6, Up.writes.eq_1, Up.writes.eq_2, Up.writes.eq_3, Up.writes.eq_4, Up.writes.eq_5, Up.writes.eq_6, Option.isNone_none, AV.ptrs.eq_1, AV.ptrs.eq_2, AV.ptrs0.eq_1, AV.ptrs0.eq_2, AV.ptrs0.eq_3, frzAll, frzIn, ren1.eq_1, ren1.eq_2, ren0.eq_1, ren0.eq_2, ren0.eq_3, renC.eq_1, renC.eq_2, ren2.eq_1, ren2.eq_2, ren2.eq_3, shut1.eq_1, shut1.eq_2, shut0.eq_1, shut0.eq_2, shut0.eq_3, shut2.eq_1, shut2.eq_2, capIn.eq_1, capIn.eq_2, capIn.eq_3, capIn.eq_4, capIn.eq_5, isOut, sameLens, putsOf, setD.eq_1, setD.eq_2, dIn.eq_1, dIn.eq_2, toOut, back, ipOf.eq_1, ipOf.eq_2, ipRM, ipGo, AV.cap.eq_1, AV.cap.eq_2, AV.cap.eq_3, AV.cap.eq_4, callRM_nil, callRM_cons, gather_nil32, gather_cons32, indexAddrRM, indexRM, fieldRM, convAV, sliceRM, makeSliceRM, implies_true, imp_false, forall_const, Option.map_none, FV.size, Int.reduceEq, Int.reduceNe, Int.reduceLT, Int.reduceLE, Int.reduceGT, Int.reduceGE, Int.reduceAdd, Int.reduceSub, Int.reduceMul, Int.reduceNeg, Int.reduceToNat, Int.reducePow, Int.reduceTDiv, Int.reduceTMod, Int.reduceBEq, Int.reduceBNe, Nat.reducePow, Nat.reduceGT, reduceIte, decide_eq_true_eq, Int.toNat_zero, Nat.zero_mul, Nat.reduceMul, Nat.reduceAdd, Nat.reduceMod, Nat.reduceSub, Nat.reduceDiv, Nat.reduceEqDiff, Nat.reduceLT, Nat.reduceLeDiff, Nat.reduceBEq, Nat.reduceBNe, reduceCtorEq, if_true, if_false, Option.bind_some, Option.bind_none, Option.filter_some, Option.map_some, Option.some.injEq, List.getElem?_cons_zero, List.getElem?_cons_succ, List.getElem?_nil, List.getElem?_toArray, List.nodup_nil, List.nodup_cons, List.mem_cons, List.not_mem_nil, List.idxOf_cons, cond_true, cond_false, List.filterMap_cons, List.filterMap_nil, List.getD_cons_zero, List.getD_cons_succ, Option.getD_some, not_or, or_false, false_or, List.map_cons, List.length_map, Int.toNat_natCast, List.map_nil, List.all_cons, List.all_nil, List.length_cons, List.length_nil, List.nil_append, List.cons_append, List.append_nil, List.flatMap_cons, List.flatMap_nil, List.set_cons_zero, List.set_cons_succ, Bool.and_true, Bool.true_and, Bool.and_false, Bool.false_and, Bool.not_true, Bool.not_false, Bool.true_eq_false, Bool.false_eq_true, and_true, true_and, and_false, false_and, not_true_eq_false, not_false_eq_true, ne_eq, ite_self, List.contains_cons, List.contains_nil, Bool.or_false, Bool.false_or, Bool.or_true, Bool.true_or, Nat.zero_add, List.size_toArray, beq_self_eq_true, decide_true, decide_false, List.drop_succ_cons, List.drop_zero, List.take_succ_cons, List.take_zero]
  refine wc_draw (by rfl) (by rfl) ?_
  have cases4 : i < 64 ∨ (64 ≤ i ∧ i < 128) ∨ (128 ≤ i ∧ i < 192) ∨ 192 ≤ i := by omega
  rcases cases4 with c0 | ⟨c0, c1⟩ | ⟨c0, c1⟩ | c0
  · have e1 : i < 64 := by omega
    obtain ⟨hq, hm⟩ := divmod64 0 i h0 (by omega) (by omega)
    generalize hmm : i.tmod 64 = m at hm
    have hn : ¬ m < 0 := by omega
    simp only [hq, hmm, hn, hw0, cf44, ti3, ti4, ti22, ti24, ti25, ti27, Try.t3, Try.t4, Try.t22, Try.t23, Try.t25, Try.t26, boxRM, hasO, isFO, List.any_cons, List.any_nil, storeX, mvS, wc_seq, wc_reg, wc_skip, wc_block, wc_exit, wc_ret, wc_cond, condQ_t, condQ_f, seqK_n, seqK_e, seqK_r, seqN_nil, seqN_cons, blockK_n, blockK_e, blockK_r, regN_nil, regN_cons, opsQ_nil, opsQ_cons, goQ_nil, goQ_cons, wq_ret, wq_fail, wq_ask, wq_call, wq_peek, wq_if, askQ_some, peekQ_some, look_none, look_at, leafAt.eq_1, leafAt.eq_2, get, ins, mapv, upd, dropN, Up.app.eq_1, Up.app.eq_2, Up.app.eq_3, Up.app.eq_4, Up.app.eq_5, Up.app.eq_6, AV.map2.eq_1, AV.map2.eq_2, AV.map2.eq_3, AV.map1.eq_1, AV.map1.eq_2, killr.eq_1, killr.eq_2, killr.eq_3, killp.eq_1, killp.eq_2, killp.eq_3, killb, putV, setLeaf.eq_1, setLeaf.eq_2, mapLeaf.eq_1, mapLeaf.eq_2, Ev.frz.eq_1, Ev.frz.eq_2, AV.toLeaf.eq_1, AV.toLeaf.eq_2, AV.toLeaf.eq_3, AV.leaves.eq_1, AV.leaves.eq_2, AV.isLeaf.eq_1, AV.isLeaf.eq_2, AV.isLeaf.eq_3, AV.ok.eq_1, AV.ok.eq_2, AV.ok1.eq_1, AV.ok1.eq_2, AV.isBad.eq_1, AV.isBad.eq_2, guardRM, opRM, rdO.eq_1, rdO.eq_2, rdO.eq_3, rdO.eq_4, rdL, vw.eq_1, vw.eq_2, vw.eq_3, vwL, vwLeaf.eq_1, vwLeaf.eq_2, fin.eq_1, fin.eq_2, finOwn.eq_1, finOwn.eq_2, finAgg.eq_1, finAgg.eq_2, finNew.eq_1, finNew.eq_2, newB.eq_1, newB.eq_2, moveRM.eq_1, moveRM.eq_2, asgRM.eq_1, asgRM.eq_2, asgRM.eq_3, asgRM.eq_4, loadRM, storeRM, stSrc.eq_1, stSrc.eq_2, stSrc.eq_3, stTmp.eq_1, stTmp.eq_2, stTmp.eq_3, stTmp.eq_4, stTmp.eq_5, stTmp.eq_6, stTmp.eq_7, stTmp.eq_8, stRaw, stAny, stNil, stEl, stL, cpoL, cpo1.eq_1, cpo1.eq_2, cp.eq_1, cp.eq_2, cp1.eq_1, cp1.eq_2, cp1.eq_3, cp1.eq_4, cp1.eq_5, cp1.eq_6, cpL, cps, fieldAddrRM, fieldOff, AV.plus.eq_1, AV.plus.eq_2, AV.plus.eq_3, AV.plus.eq_4, seen.eq_1, seen.eq_2, seen.eq_3, partAV, binAV.eq_1, binAV.eq_2, binAV.eq_3, binAV.eq_4, binAV.eq_5, binAV.eq_6, binAV.eq_7, binAV.eq_8, binAV.eq_9, unAV.eq_1, unAV.eq_2, unAV.eq_3, unAV.eq_4, optRM.eq_1, optRM.eq_2, intOp.eq_1, intOp.eq_2, intOp.eq_3, intOp.eq_4, intOp.eq_5, intOp.eq_6, intOp.eq_7, intOp.eq_8, intOp.eq_9, intOp.eq_10, intOp.eq_11, intOp.eq_12, intOp.eq_13, intOp.eq_14, intOp.eq_15, intOp.eq_16, shiftOp.eq_1, shiftOp.eq_2, shiftOp.eq_3, strOp.eq_1, strOp.eq_2, strOp.eq_3, strOp.eq_4, strOp.eq_5, strOp.eq_6, strOp.eq_7, strOp.eq_8, isShift.eq_1, isShift.eq_2, isShift.eq_3, buildRM, placesL, fillRM, fillL, buildSliceRM, elemsRM, lenRM.eq_1, lenRM.eq_2, lenRM.eq_3, lenSRM.eq_1, lenSRM.eq_2, maxAV.eq_1, maxAV.eq_2, maxGo, appendRM, apBase.eq_1, apBase.eq_2, apBase.eq_3, apGo, boOk.eq_1, boOk.eq_2, boUps.eq_1, boUps.eq_2, frzNe.eq_1, frzNe.eq_2, isSrcD.eq_1, isSrcD.eq_2, isSrcD.eq_3, sliceOpRM, callGo, addNew, builtinRM.eq_1, builtinRM.eq_2, builtinRM.eq_3, builtinRM.eq_4, builtinRM.eq_5, constAV.eq_1, constAV.eq_2, constL, constLeaf.eq_1, constLeaf.eq_2, constLeaf.eq_3, constLeaf.eq_4, constLeaf.eq_5, constLeaf.eq_6, constLeaf.eq_7, constLeaf.eq_8, constLeaf.eq_9, constLeaf.eq_10, isAggD.eq_1, isAggD.eq_2, isAggD.eq_3, askL, ofCells, AV.free, AV.refs.eq_1, AV.refs.eq_2, AV.refs1.eq_1, AV.refs1.eq_2, AV.refs0.eq_1, AV.refs0.eq_2, AV.refs0.eq_3, AV.refs0.eq_4, AV.refs0.eq_5, Acc.meets.eq_1, Acc.meets.eq_2, Acc.meets.eq_3, Acc.meets.eq_4, Acc.meets.eq_5, Acc.meets.eq_6, frzOff.eq_1, frzOff.eq_2, tb, xb, ob, endK_r, endK_n, endU.eq_1, endU.eq_2, outsOf, resRM.eq_1, resRM.eq_2, resRM.eq_3, res1.eq_1, res1.eq_2, res1.eq_3, cellR, cellFits.eq_1, cellFits.eq_2, cellFits.eq_3, rdR.eq_1, rdR.eq_2, rdRs, keepC, FV.one.eq_1, FV.one.eq_2, FV.cells.eq_1, FV.cells.eq_2, FV.cells.eq_3, AV.leafF.eq_1, AV.leafF.eq_2, AV.elem.eq_1, AV.elem.eq_2, fLeaves, asAV.eq_1, asAV.eq_2, opsP_nil, opsP_cons, goU_nil, goU_cons, goP_nil, goP_cons, ups_refs_nil, ups_refs_cons, ups_writes_nil, ups_writes_cons, regP_cons, wp_ret, wp_fail, wp_ask', wp_peek, wp_call, wp_if, askP_some, peekP_some, accOf.eq_1, accOf.eq_2, Up.refs.eq_1, Up.refs.eq_2, Up.refs.eq_3, Up.refs.eq_4, Up.refs.eq_5, Up.refs.eq_6, Up.writes.eq_1, Up.writes.eq_2, Up.writes.eq_3, Up.writes.eq_4, Up.writes.eq_5, Up.writes.eq_6, Option.isNone_none, AV.ptrs.eq_1, AV.ptrs.eq_2, AV.ptrs0.eq_1, AV.ptrs0.eq_2, AV.ptrs0.eq_3, frzAll, frzIn, ren1.eq_1, ren1.eq_2, ren0.eq_1, ren0.eq_2, ren0.eq_3, renC.eq_1, renC.eq_2, ren2.eq_1, ren2.eq_2, ren2.eq_3, shut1.eq_1, shut1.eq_2, shut0.eq_1, shut0.eq_2, shut0.eq_3, shut2.eq_1, shut2.eq_2, capIn.eq_1, capIn.eq_2, capIn.eq_3, capIn.eq_4, capIn.eq_5, isOut, sameLens, putsOf, setD.eq_1, setD.eq_2, dIn.eq_1, dIn.eq_2, toOut, back, ipOf.eq_1, ipOf.eq_2, ipRM, ipGo, AV.cap.eq_1, AV.cap.eq_2, AV.cap.eq_3, AV.cap.eq_4, callRM_nil, callRM_cons, gather_nil32, gather_cons32, indexAddrRM, indexRM, fieldRM, convAV, sliceRM, makeSliceRM, implies_true, imp_false, forall_const, Option.map_none, FV.size, Int.reduceEq, Int.reduceNe, Int.reduceLT, Int.reduceLE, Int.reduceGT, Int.reduceGE, Int.reduceAdd, Int.reduceSub, Int.reduceMul, Int.reduceNeg, Int.reduceToNat, Int.reducePow, Int.reduceTDiv, Int.reduceTMod, Int.reduceBEq, Int.reduceBNe, Nat.reducePow, Nat.reduceGT, reduceIte, decide_eq_true_eq, Int.toNat_zero, Nat.zero_mul, Nat.reduceMul, Nat.reduceAdd, Nat.reduceMod, Nat.reduceSub, Nat.reduceDiv, Nat.reduceEqDiff, Nat.reduceLT, Nat.reduceLeDiff, Nat.reduceBEq, Nat.reduceBNe, reduceCtorEq, if_true, if_false, Option.bind_some, Option.bind_none, Option.filter_some, Option.map_some, Option.some.injEq, List.getElem?_cons_zero, List.getElem?_cons_succ, List.getElem?_nil, List.getElem?_toArray, List.nodup_nil, List.nodup_cons, List.mem_cons, List.not_mem_nil, List.idxOf_cons, cond_true, cond_false, List.filterMap_cons, List.filterMap_nil, List.getD_cons_zero, List.getD_cons_succ, Option.getD_some, not_or, or_false, false_or, List.map_cons, List.length_map, Int.toNat_natCast, List.map_nil, List.all_cons, List.all_nil, List.length_cons, List.length_nil, List.nil_append, List.cons_append, List.append_nil, List.flatMap_cons, List.flatMap_nil, List.set_cons_zero, List.set_cons_succ, Bool.and_true, Bool.true_and, Bool.and_false, Bool.false_and, Bool.not_true, Bool.not_false, Bool.true_eq_false, Bool.false_eq_true, and_true, true_and, and_false, false_and, not_true_eq_false, not_false_eq_true, ne_eq, ite_self, List.contains_cons, List.contains_nil, Bool.or_false, Bool.false_or, Bool.or_true, Bool.true_or, Nat.zero_add, List.size_toArray, beq_self_eq_true, decide_true, decide_false, List.drop_succ_cons, List.drop_zero, List.take_succ_cons, List.take_zero]
    refine ⟨by decide, by decide, by rfl, ?_⟩
    simp [setAdd, e1, orBit, hm]
  · have e1 : ¬ i < 64 := by omega
    have e2 : i < 128 := by omega
    obtain ⟨hq, hm⟩ := divmod64 1 i h0 (by omega) (by omega)
    generalize hmm : i.tmod 64 = m at hm
    have hn : ¬ m < 0 := by omega
    simp only [hq, hmm, hn, hw1, cf44, ti3, ti4, ti22, ti24, ti25, ti27, Try.t3, Try.t4, Try.t22, Try.t23, Try.t25, Try.t26, boxRM, hasO, isFO, List.any_cons, List.any_nil, storeX, mvS, wc_seq, wc_reg, wc_skip, wc_block, wc_exit, wc_ret, wc_cond, condQ_t, condQ_f, seqK_n, seqK_e, seqK_r, seqN_nil, seqN_cons, blockK_n, blockK_e, blockK_r, regN_nil, regN_cons, opsQ_nil, opsQ_cons, goQ_nil, goQ_cons, wq_ret, wq_fail, wq_ask, wq_call, wq_peek, wq_if, askQ_some, peekQ_some, look_none, look_at, leafAt.eq_1, leafAt.eq_2, get, ins, mapv, upd, dropN, Up.app.eq_1, Up.app.eq_2, Up.app.eq_3, Up.app.eq_4, Up.app.eq_5, Up.app.eq_6, AV.map2.eq_1, AV.map2.eq_2, AV.map2.eq_3, AV.map1.eq_1, AV.map1.eq_2, killr.eq_1, killr.eq_2, killr.eq_3, killp.eq_1, killp.eq_2, killp.eq_3, killb, putV, setLeaf.eq_1, setLeaf.eq_2, mapLeaf.eq_1, mapLeaf.eq_2, Ev.frz.eq_1, Ev.frz.eq_2, AV.toLeaf.eq_1, AV.toLeaf.eq_2, AV.toLeaf.eq_3, AV.leaves.eq_1, AV.leaves.eq_2, AV.isLeaf.eq_1, AV.isLeaf.eq_2, AV.isLeaf.eq_3, AV.ok.eq_1, AV.ok.eq_2, AV.ok1.eq_1, AV.ok1.eq_2, AV.isBad.eq_1, AV.isBad.eq_2, guardRM, opRM, rdO.eq_1, rdO.eq_2, rdO.eq_3, rdO.eq_4, rdL, vw.eq_1, vw.eq_2, vw.eq_3, vwL, vwLeaf.eq_1, vwLeaf.eq_2, fin.eq_1, fin.eq_2, finOwn.eq_1, finOwn.eq_2, finAgg.eq_1, finAgg.eq_2, finNew.eq_1, finNew.eq_2, newB.eq_1, newB.eq_2, moveRM.eq_1, moveRM.eq_2, asgRM.eq_1, asgRM.eq_2, asgRM.eq_3, asgRM.eq_4, loadRM, storeRM, stSrc.eq_1, stSrc.eq_2, stSrc.eq_3, stTmp.eq_1, stTmp.eq_2, stTmp.eq_3, stTmp.eq_4, stTmp.eq_5, stTmp.eq_6, stTmp.eq_7, stTmp.eq_8, stRaw, stAny, stNil, stEl, stL, cpoL, cpo1.eq_1, cpo1.eq_2, cp.eq_1, cp.eq_2, cp1.eq_1, cp1.eq_2, cp1.eq_3, cp1.eq_4, cp1.eq_5, cp1.eq_6, cpL, cps, fieldAddrRM, fieldOff, AV.plus.eq_1, AV.plus.eq_2, AV.plus.eq_3, AV.plus.eq_4, seen.eq_1, seen.eq_2, seen.eq_3, partAV, binAV.eq_1, binAV.eq_2, binAV.eq_3, binAV.eq_4, binAV.eq_5, binAV.eq_6, binAV.eq_7, binAV.eq_8, binAV.eq_9, unAV.eq_1, unAV.eq_2, unAV.eq_3, unAV.eq_4, optRM.eq_1, optRM.eq_2, intOp.eq_1, intOp.eq_2, intOp.eq_3, intOp.eq_4, intOp.eq_5, intOp.eq_6, intOp.eq_7, intOp.eq_8, intOp.eq_9, intOp.eq_10, intOp.eq_11, intOp.eq_12, intOp.eq_13, intOp.eq_14, intOp.eq_15, intOp.eq_16, shiftOp.eq_1, shiftOp.eq_2, shiftOp.eq_3, strOp.eq_1, strOp.eq_2, strOp.eq_3, strOp.eq_4, strOp.eq_5, strOp.eq_6, strOp.eq_7, strOp.eq_8, isShift.eq_1, isShift.eq_2, isShift.eq_3, buildRM, placesL, fillRM, fillL, buildSliceRM, elemsRM, lenRM.eq_1, lenRM.eq_2, lenRM.eq_3, lenSRM.eq_1, lenSRM.eq_2, maxAV.eq_1, maxAV.eq_2, maxGo, appendRM, apBase.eq_1, apBase.eq_2, apBase.eq_3, apGo, boOk.eq_1, boOk.eq_2, boUps.eq_1, boUps.eq_2, frzNe.eq_1, frzNe.eq_2, isSrcD.eq_1, isSrcD.eq_2, isSrcD.eq_3, sliceOpRM, callGo, addNew, builtinRM.eq_1, builtinRM.eq_2, builtinRM.eq_3, builtinRM.eq_4, builtinRM.eq_5, constAV.eq_1, constAV.eq_2, constL, constLeaf.eq_1, constLeaf.eq_2, constLeaf.eq_3, constLeaf.eq_4, constLeaf.eq_5, constLeaf.eq_6, constLeaf.eq_7, constLeaf.eq_8, constLeaf.eq_9, constLeaf.eq_10, isAggD.eq_1, isAggD.eq_2, isAggD.eq_3, askL, ofCells, AV.free, AV.refs.eq_1, AV.refs.eq_2, AV.refs1.eq_1, AV.refs1.eq_2, AV.refs0.eq_1, AV.refs0.eq_2, AV.refs0.eq_3, AV.refs0.eq_4, AV.refs0.eq_5, Acc.meets.eq_1, Acc.meets.eq_2, Acc.meets.eq_3, Acc.meets.eq_4, Acc.meets.eq_5, Acc.meets.eq_6, frzOff.eq_1, frzOff.eq_2, tb, xb, ob, endK_r, endK_n, endU.eq_1, endU.eq_2, outsOf, resRM.eq_1, resRM.eq_2, resRM.eq_3, res1.eq_1, res1.eq_2, res1.eq_3, cellR, cellFits.eq_1, cellFits.eq_2, cellFits.eq_3, rdR.eq_1, rdR.eq_2, rdRs, keepC, FV.one.eq_1, FV.one.eq_2, FV.cells.eq_1, FV.cells.eq_2, FV.cells.eq_3, AV.leafF.eq_1, AV.leafF.eq_2, AV.elem.eq_1, AV.elem.eq_2, fLeaves, asAV.eq_1, asAV.eq_2, opsP_nil, opsP_cons, goU_nil, goU_cons, goP_nil, goP_cons, ups_refs_nil, ups_refs_cons, ups_writes_nil, ups_writes_cons, regP_cons, wp_ret, wp_fail, wp_ask', wp_peek, wp_call, wp_if, askP_some, peekP_some, accOf.eq_1, accOf.eq_2, Up.refs.eq_1, Up.refs.eq_2, Up.refs.eq_3, Up.refs.eq_4, Up.refs.eq_5, Up.refs.eq_6, Up.writes.eq_1, Up.writes.eq_2, Up.writes.eq_3, Up.writes.eq_4, Up.writes.eq_5, Up.writes.eq_6, Option.isNone_none, AV.ptrs.eq_1, AV.ptrs.eq_2, AV.ptrs0.eq_1, AV.ptrs0.eq_2, AV.ptrs0.eq_3, frzAll, frzIn, ren1.eq_1, ren1.eq_2, ren0.eq_1, ren0.eq_2, ren0.eq_3, renC.eq_1, renC.eq_2, ren2.eq_1, ren2.eq_2, ren2.eq_3, shut1.eq_1, shut1.eq_2, shut0.eq_1, shut0.eq_2, shut0.eq_3, shut2.eq_1, shut2.eq_2, capIn.eq_1, capIn.eq_2, capIn.eq_3, capIn.eq_4, capIn.eq_5, isOut, sameLens, putsOf, setD.eq_1, setD.eq_2, dIn.eq_1, dIn.eq_2, toOut, back, ipOf.eq_1, ipOf.eq_2, ipRM, ipGo, AV.cap.eq_1, AV.cap.eq_2, AV.cap.eq_3, AV.cap.eq_4, callRM_nil, callRM_cons, gather_nil32, gather_cons32, indexAddrRM, indexRM, fieldRM, convAV, sliceRM, makeSliceRM, implies_true, imp_false, forall_const, Option.map_none, FV.size, Int.reduceEq, Int.reduceNe, Int.reduceLT, Int.reduceLE, Int.reduceGT, Int.reduceGE, Int.reduceAdd, Int.reduceSub, Int.reduceMul, Int.reduceNeg, Int.reduceToNat, Int.reducePow, Int.reduceTDiv, Int.reduceTMod, Int.reduceBEq, Int.reduceBNe, Nat.reducePow, Nat.reduceGT, reduceIte, decide_eq_true_eq, Int.toNat_zero, Nat.zero_mul, Nat.reduceMul, Nat.reduceAdd, Nat.reduceMod, Nat.reduceSub, Nat.reduceDiv, Nat.reduceEqDiff, Nat.reduceLT, Nat.reduceLeDiff, Nat.reduceBEq, Nat.reduceBNe, reduceCtorEq, if_true, if_false, Option.bind_some, Option.bind_none, Option.filter_some, Option.map_some, Option.some.injEq, List.getElem?_cons_zero, List.getElem?_cons_succ, List.getElem?_nil, List.getElem?_toArray, List.nodup_nil, List.nodup_cons, List.mem_cons, List.not_mem_nil, List.idxOf_cons, cond_true, cond_false, List.filterMap_cons, List.filterMap_nil, List.getD_cons_zero, List.getD_cons_succ, Option.getD_some, not_or, or_false, false_or, List.map_cons, List.length_map, Int.toNat_natCast, List.map_nil, List.all_cons, List.all_nil, List.length_cons, List.length_nil, List.nil_append, List.cons_append, List.append_nil, List.flatMap_cons, List.flatMap_nil, List.set_cons_zero, List.set_cons_succ, Bool.and_true, Bool.true_and, Bool.and_false, Bool.false_and, Bool.not_true, Bool.not_false, Bool.true_eq_false, Bool.false_eq_true, and_true, true_and, and_false, false_and, not_true_eq_false, not_false_eq_true, ne_eq, ite_self, List.contains_cons, List.contains_nil, Bool.or_false, Bool.false_or, Bool.or_true, Bool.true_or, Nat.zero_add, List.size_toArray, beq_self_eq_true, decide_true, decide_false, List.drop_succ_cons, List.drop_zero, List.take_succ_cons, List.take_zero]
    refine ⟨by decide, by decide, by rfl, ?_⟩
    simp [setAdd, e1, e2, orBit, hm]
  · have e1 : ¬ i < 64 := by omega
    have e2 : ¬ i < 128 := by omega
    have e3 : i < 192 := by omega
    obtain ⟨hq, hm⟩ := divmod64 2 i h0 (by omega) (by omega)
    generalize hmm : i.tmod 64 = m at hm
    have hn : ¬ m < 0 := by omega
    simp only [hq, hmm, hn, hw2, cf44, ti3, ti4, ti22, ti24, ti25, ti27, Try.t3, Try.t4, Try.t22, Try.t23, Try.t25, Try.t26, boxRM, hasO, isFO, List.any_cons, List.any_nil, storeX, mvS, wc_seq, wc_reg, wc_skip, wc_block, wc_exit, wc_ret, wc_cond, condQ_t, condQ_f, seqK_n, seqK_e, seqK_r, seqN_nil, seqN_cons, blockK_n, blockK_e, blockK_r, regN_nil, regN_cons, opsQ_nil, opsQ_cons, goQ_nil, goQ_cons, wq_ret, wq_fail, wq_ask, wq_call, wq_peek, wq_if, askQ_some, peekQ_some, look_none, look_at, leafAt.eq_1, leafAt.eq_2, get, ins, mapv, upd, dropN, Up.app.eq_1, Up.app.eq_2, Up.app.eq_3, Up.app.eq_4, Up.app.eq_5, Up.app.eq_6, AV.map2.eq_1, AV.map2.eq_2, AV.map2.eq_3, AV.map1.eq_1, AV.map1.eq_2, killr.eq_1, killr.eq_2, killr.eq_3, killp.eq_1, killp.eq_2, killp.eq_3, killb, putV, setLeaf.eq_1, setLeaf.eq_2, mapLeaf.eq_1, mapLeaf.eq_2, Ev.frz.eq_1, Ev.frz.eq_2, AV.toLeaf.eq_1, AV.toLeaf.eq_2, AV.toLeaf.eq_3, AV.leaves.eq_1, AV.leaves.eq_2, AV.isLeaf.eq_1, AV.isLeaf.eq_2, AV.isLeaf.eq_3, AV.ok.eq_1, AV.ok.eq_2, AV.ok1.eq_1, AV.ok1.eq_2, AV.isBad.eq_1, AV.isBad.eq_2, guardRM, opRM, rdO.eq_1, rdO.eq_2, rdO.eq_3, rdO.eq_4, rdL, vw.eq_1, vw.eq_2, vw.eq_3, vwL, vwLeaf.eq_1, vwLeaf.eq_2, fin.eq_1, fin.eq_2, finOwn.eq_1, finOwn.eq_2, finAgg.eq_1, finAgg.eq_2, finNew.eq_1, finNew.eq_2, newB.eq_1, newB.eq_2, moveRM.eq_1, moveRM.eq_2, asgRM.eq_1, asgRM.eq_2, asgRM.eq_3, asgRM.eq_4, loadRM, storeRM, stSrc.eq_1, stSrc.eq_2, stSrc.eq_3, stTmp.eq_1, stTmp.eq_2, stTmp.eq_3, stTmp.eq_4, stTmp.eq_5, stTmp.eq_6, stTmp.eq_7, stTmp.eq_8, stRaw, stAny, stNil, stEl, stL, cpoL, cpo1.eq_1, cpo1.eq_2, cp.eq_1, cp.eq_2, cp1.eq_1, cp1.eq_2, cp1.eq_3, cp1.eq_4, cp1.eq_5, cp1.eq_6, cpL, cps, fieldAddrRM, fieldOff, AV.plus.eq_1, AV.plus.eq_2, AV.plus.eq_3, AV.plus.eq_4, seen.eq_1, seen.eq_2, seen.eq_3, partAV, binAV.eq_1, binAV.eq_2, binAV.eq_3, binAV.eq_4, binAV.eq_5, binAV.eq_6, binAV.eq_7, binAV.eq_8, binAV.eq_9, unAV.eq_1, unAV.eq_2, unAV.eq_3, unAV.eq_4, optRM.eq_1, optRM.eq_2, intOp.eq_1, intOp.eq_2, intOp.eq_3, intOp.eq_4, intOp.eq_5, intOp.eq_6, intOp.eq_7, intOp.eq_8, intOp.eq_9, intOp.eq_10, intOp.eq_11, intOp.eq_12, intOp.eq_13, intOp.eq_14, intOp.eq_15, intOp.eq_16, shiftOp.eq_1, shiftOp.eq_2, shiftOp.eq_3, strOp.eq_1, strOp.eq_2, strOp.eq_3, strOp.eq_4, strOp.eq_5, strOp.eq_6, strOp.eq_7, strOp.eq_8, isShift.eq_1, isShift.eq_2, isShift.eq_3, buildRM, placesL, fillRM, fillL, buildSliceRM, elemsRM, lenRM.eq_1, lenRM.eq_2, lenRM.eq_3, lenSRM.eq_1, lenSRM.eq_2, maxAV.eq_1, maxAV.eq_2, maxGo, appendRM, apBase.eq_1, apBase.eq_2, apBase.eq_3, apGo, boOk.eq_1, boOk.eq_2, boUps.eq_1, boUps.eq_2, frzNe.eq_1, frzNe.eq_2, isSrcD.eq_1, isSrcD.eq_2, isSrcD.eq_3, sliceOpRM, callGo, addNew, builtinRM.eq_1, builtinRM.eq_2, builtinRM.eq_3, builtinRM.eq_4, builtinRM.eq_5, constAV.eq_1, constAV.eq_2, constL, constLeaf.eq_1, constLeaf.eq_2, constLeaf.eq_3, constLeaf.eq_4, constLeaf.eq_5, constLeaf.eq_6, constLeaf.eq_7, constLeaf.eq_8, constLeaf.eq_9, constLeaf.eq_10, isAggD.eq_1, isAggD.eq_2, isAggD.eq_3, askL, ofCells, AV.free, AV.refs.eq_1, AV.refs.eq_2, AV.refs1.eq_1, AV.refs1.eq_2, AV.refs0.eq_1, AV.refs0.eq_2, AV.refs0.eq_3, AV.refs0.eq_4, AV.refs0.eq_5, Acc.meets.eq_1, Acc.meets.eq_2, Acc.meets.eq_3, Acc.meets.eq_4, Acc.meets.eq_5, Acc.meets.eq_6, frzOff.eq_1, frzOff.eq_2, tb, xb, ob, endK_r, endK_n, endU.eq_1, endU.eq_2, outsOf, resRM.eq_1, resRM.eq_2, resRM.eq_3, res1.eq_1, res1.eq_2, res1.eq_3, cellR, cellFits.eq_1, cellFits.eq_2, cellFits.eq_3, rdR.eq_1, rdR.eq_2, rdRs, keepC, FV.one.eq_1, FV.one.eq_2, FV.cells.eq_1, FV.cells.eq_2, FV.cells.eq_3, AV.leafF.eq_1, AV.leafF.eq_2, AV.elem.eq_1, AV.elem.eq_2, fLeaves, asAV.eq_1, asAV.eq_2, opsP_nil, opsP_cons, goU_nil, goU_cons, goP_nil, goP_cons, ups_refs_nil, ups_refs_cons, ups_writes_nil, ups_writes_cons, regP_cons, wp_ret, wp_fail, wp_ask', wp_peek, wp_call, wp_if, askP_some, peekP_some, accOf.eq_1, accOf.eq_2, Up.refs.eq_1, Up.refs.eq_2, Up.refs.eq_3, Up.refs.eq_4, Up.refs.eq_5, Up.refs.eq_6, Up.writes.eq_1, Up.writes.eq_2, Up.writes.eq_3, Up.writes.eq_4, Up.writes.eq_5, Up.writes.eq_6, Option.isNone_none, AV.ptrs.eq_1, AV.ptrs.eq_2, AV.ptrs0.eq_1, AV.ptrs0.eq_2, AV.ptrs0.eq_3, frzAll, frzIn, ren1.eq_1, ren1.eq_2, ren0.eq_1, ren0.eq_2, ren0.eq_3, renC.eq_1, renC.eq_2, ren2.eq_1, ren2.eq_2, ren2.eq_3, shut1.eq_1, shut1.eq_2, shut0.eq_1, shut0.eq_2, shut0.eq_3, shut2.eq_1, shut2.eq_2, capIn.eq_1, capIn.eq_2, capIn.eq_3, capIn.eq_4, capIn.eq_5, isOut, sameLens, putsOf, setD.eq_1, setD.eq_2, dIn.eq_1, dIn.eq_2, toOut, back, ipOf.eq_1, ipOf.eq_2, ipRM, ipGo, AV.cap.eq_1, AV.cap.eq_2, AV.cap.eq_3, AV.cap.eq_4, callRM_nil, callRM_cons, gather_nil32, gather_cons32, indexAddrRM, indexRM, fieldRM, convAV, sliceRM, makeSliceRM, implies_true, imp_false, forall_const, Option.map_none, FV.size, Int.reduceEq, Int.reduceNe, Int.reduceLT, Int.reduceLE, Int.reduceGT, Int.reduceGE, Int.reduceAdd, Int.reduceSub, Int.reduceMul, Int.reduceNeg, Int.reduceToNat, Int.reducePow, Int.reduceTDiv, Int.reduceTMod, Int.reduceBEq, Int.reduceBNe, Nat.reducePow, Nat.reduceGT, reduceIte, decide_eq_true_eq, Int.toNat_zero, Nat.zero_mul, Nat.reduceMul, Nat.reduceAdd, Nat.reduceMod, Nat.reduceSub, Nat.reduceDiv, Nat.reduceEqDiff, Nat.reduceLT, Nat.reduceLeDiff, Nat.reduceBEq, Nat.reduceBNe, reduceCtorEq, if_true, if_false, Option.bind_some, Option.bind_none, Option.filter_some, Option.map_some, Option.some.injEq, List.getElem?_cons_zero, List.getElem?_cons_succ, List.getElem?_nil, List.getElem?_toArray, List.nodup_nil, List.nodup_cons, List.mem_cons, List.not_mem_nil, List.idxOf_cons, cond_true, cond_false, List.filterMap_cons, List.filterMap_nil, List.getD_cons_zero, List.getD_cons_succ, Option.getD_some, not_or, or_false, false_or, List.map_cons, List.length_map, Int.toNat_natCast, List.map_nil, List.all_cons, List.all_nil, List.length_cons, List.length_nil, List.nil_append, List.cons_append, List.append_nil, List.flatMap_cons, List.flatMap_nil, List.set_cons_zero, List.set_cons_succ, Bool.and_true, Bool.true_and, Bool.and_false, Bool.false_and, Bool.not_true, Bool.not_false, Bool.true_eq_false, Bool.false_eq_true, and_true, true_and, and_false, false_and, not_true_eq_false, not_false_eq_true, ne_eq, ite_self, List.contains_cons, List.contains_nil, Bool.or_false, Bool.false_or, Bool.or_true, Bool.true_or, Nat.zero_add, List.size_toArray, beq_self_eq_true, decide_true, decide_false, List.drop_succ_cons, List.drop_zero, List.take_succ_cons, List.take_zero]
    refine ⟨by decide, by decide, by rfl, ?_⟩
    simp [setAdd, e1, e2, e3, orBit, hm]
  · have e1 : ¬ i < 64 := by omega
    have e2 : ¬ i < 128 := by omega
    have e3 : ¬ i < 192 := by omega
    obtain ⟨hq, hm⟩ := divmod64 3 i h0 (by omega) (by omega)
    generalize hmm : i.tmod 64 = m at hm
    have hn : ¬ m < 0 := by omega
    simp only [hq, hmm, hn, hw3, cf44, ti3, ti4, ti22, ti24, ti25, ti27, Try.t3, Try.t4, Try.t22, Try.t23, Try.t25, Try.t26, boxRM, hasO, isFO, List.any_cons, List.any_nil, storeX, mvS, wc_seq, wc_reg, wc_skip, wc_block, wc_exit, wc_ret, wc_cond, condQ_t, condQ_f, seqK_n, seqK_e, seqK_r, seqN_nil, seqN_cons, blockK_n, blockK_e, blockK_r, regN_nil, regN_cons, opsQ_nil, opsQ_cons, goQ_nil, goQ_cons, wq_ret, wq_fail, wq_ask, wq_call, wq_peek, wq_if, askQ_some, peekQ_some, look_none, look_at, leafAt.eq_1, leafAt.eq_2, get, ins, mapv, upd, dropN, Up.app.eq_1, Up.app.eq_2, Up.app.eq_3, Up.app.eq_4, Up.app.eq_5, Up.app.eq_6, AV.map2.eq_1, AV.map2.eq_2, AV.map2.eq_3, AV.map1.eq_1, AV.map1.eq_2, killr.eq_1, killr.eq_2, killr.eq_3, killp.eq_1, killp.eq_2, killp.eq_3, killb, putV, setLeaf.eq_1, setLeaf.eq_2, mapLeaf.eq_1, mapLeaf.eq_2, Ev.frz.eq_1, Ev.frz.eq_2, AV.toLeaf.eq_1, AV.toLeaf.eq_2, AV.toLeaf.eq_3, AV.leaves.eq_1, AV.leaves.eq_2, AV.isLeaf.eq_1, AV.isLeaf.eq_2, AV.isLeaf.eq_3, AV.ok.eq_1, AV.ok.eq_2, AV.ok1.eq_1, AV.ok1.eq_2, AV.isBad.eq_1, AV.isBad.eq_2, guardRM, opRM, rdO.eq_1, rdO.eq_2, rdO.eq_3, rdO.eq_4, rdL, vw.eq_1, vw.eq_2, vw.eq_3, vwL, vwLeaf.eq_1, vwLeaf.eq_2, fin.eq_1, fin.eq_2, finOwn.eq_1, finOwn.eq_2, finAgg.eq_1, finAgg.eq_2, finNew.eq_1, finNew.eq_2, newB.eq_1, newB.eq_2, moveRM.eq_1, moveRM.eq_2, asgRM.eq_1, asgRM.eq_2, asgRM.eq_3, asgRM.eq_4, loadRM, storeRM, stSrc.eq_1, stSrc.eq_2, stSrc.eq_3, stTmp.eq_1, stTmp.eq_2, stTmp.eq_3, stTmp.eq_4, stTmp.eq_5, stTmp.eq_6, stTmp.eq_7, stTmp.eq_8, stRaw, stAny, stNil, stEl, stL, cpoL, cpo1.eq_1, cpo1.eq_2, cp.eq_1, cp.eq_2, cp1.eq_1, cp1.eq_2, cp1.eq_3, cp1.eq_4, cp1.eq_5, cp1.eq_6, cpL, cps, fieldAddrRM, fieldOff, AV.plus.eq_1, AV.plus.eq_2, AV.plus.eq_3, AV.plus.eq_4, seen.eq_1, seen.eq_2, seen.eq_3, partAV, binAV.eq_1, binAV.eq_2, binAV.eq_3, binAV.eq_4, binAV.eq_5, binAV.eq_6, binAV.eq_7, binAV.eq_8, binAV.eq_9, unAV.eq_1, unAV.eq_2, unAV.eq_3, unAV.eq_4, optRM.eq_1, optRM.eq_2, intOp.eq_1, intOp.eq_2, intOp.eq_3, intOp.eq_4, intOp.eq_5, intOp.eq_6, intOp.eq_7, intOp.eq_8, intOp.eq_9, intOp.eq_10, intOp.eq_11, intOp.eq_12, intOp.eq_13, intOp.eq_14, intOp.eq_15, intOp.eq_16, shiftOp.eq_1, shiftOp.eq_2, shiftOp.eq_3, strOp.eq_1, strOp.eq_2, strOp.eq_3, strOp.eq_4, strOp.eq_5, strOp.eq_6, strOp.eq_7, strOp.eq_8, isShift.eq_1, isShift.eq_2, isShift.eq_3, buildRM, placesL, fillRM, fillL, buildSliceRM, elemsRM, lenRM.eq_1, lenRM.eq_2, lenRM.eq_3, lenSRM.eq_1, lenSRM.eq_2, maxAV.eq_1, maxAV.eq_2, maxGo, appendRM, apBase.eq_1, apBase.eq_2, apBase.eq_3, apGo, boOk.eq_1, boOk.eq_2, boUps.eq_1, boUps.eq_2, frzNe.eq_1, frzNe.eq_2, isSrcD.eq_1, isSrcD.eq_2, isSrcD.eq_3, sliceOpRM, callGo, addNew, builtinRM.eq_1, builtinRM.eq_2, builtinRM.eq_3, builtinRM.eq_4, builtinRM.eq_5, constAV.eq_1, constAV.eq_2, constL, constLeaf.eq_1, constLeaf.eq_2, constLeaf.eq_3, constLeaf.eq_4, constLeaf.eq_5, constLeaf.eq_6, constLeaf.eq_7, constLeaf.eq_8, constLeaf.eq_9, constLeaf.eq_10, isAggD.eq_1, isAggD.eq_2, isAggD.eq_3, askL, ofCells, AV.free, AV.refs.eq_1, AV.refs.eq_2, AV.refs1.eq_1, AV.refs1.eq_2, AV.refs0.eq_1, AV.refs0.eq_2, AV.refs0.eq_3, AV.refs0.eq_4, AV.refs0.eq_5, Acc.meets.eq_1, Acc.meets.eq_2, Acc.meets.eq_3, Acc.meets.eq_4, Acc.meets.eq_5, Acc.meets.eq_6, frzOff.eq_1, frzOff.eq_2, tb, xb, ob, endK_r, endK_n, endU.eq_1, endU.eq_2, outsOf, resRM.eq_1, resRM.eq_2, resRM.eq_3, res1.eq_1, res1.eq_2, res1.eq_3, cellR, cellFits.eq_1, cellFits.eq_2, cellFits.eq_3, rdR.eq_1, rdR.eq_2, rdRs, keepC, FV.one.eq_1, FV.one.eq_2, FV.cells.eq_1, FV.cells.eq_2, FV.cells.eq_3, AV.leafF.eq_1, AV.leafF.eq_2, AV.elem.eq_1, AV.elem.eq_2, fLeaves, asAV.eq_1, asAV.eq_2, opsP_nil, opsP_cons, goU_nil, goU_cons, goP_nil, goP_cons, ups_refs_nil, ups_refs_cons, ups_writes_nil, ups_writes_cons, regP_cons, wp_ret, wp_fail, wp_ask', wp_peek, wp_call, wp_if, askP_some, peekP_some, accOf.eq_1, accOf.eq_2, Up.refs.eq_1, Up.refs.eq_2, Up.refs.eq_3, Up.refs.eq_4, Up.refs.eq_5, Up.refs.eq_6, Up.writes.eq_1, Up.writes.eq_2, Up.writes.eq_3, Up.writes.eq_4, Up.writes.eq_5, Up.writes.eq_6, Option.isNone_none, AV.ptrs.eq_1, AV.ptrs.eq_2, AV.ptrs0.eq_1, AV.ptrs0.eq_2, AV.ptrs0.eq_3, frzAll, frzIn, ren1.eq_1, ren1.eq_2, ren0.eq_1, ren0.eq_2, ren0.eq_3, renC.eq_1, renC.eq_2, ren2.eq_1, ren2.eq_2, ren2.eq_3, shut1.eq_1, shut1.eq_2, shut0.eq_1, shut0.eq_2, shut0.eq_3, shut2.eq_1, shut2.eq_2, capIn.eq_1, capIn.eq_2, capIn.eq_3, capIn.eq_4, capIn.eq_5, isOut, sameLens, putsOf, setD.eq_1, setD.eq_2, dIn.eq_1, dIn.eq_2, toOut, back, ipOf.eq_1, ipOf.eq_2, ipRM, ipGo, AV.cap.eq_1, AV.cap.eq_2, AV.cap.eq_3, AV.cap.eq_4, callRM_nil, callRM_cons, gather_nil32, gather_cons32, indexAddrRM, indexRM, fieldRM, convAV, sliceRM, makeSliceRM, implies_true, imp_false, forall_const, Option.map_none, FV.size, Int.reduceEq, Int.reduceNe, Int.reduceLT, Int.reduceLE, Int.reduceGT, Int.reduceGE, Int.reduceAdd, Int.reduceSub, Int.reduceMul, Int.reduceNeg, Int.reduceToNat, Int.reducePow, Int.reduceTDiv, Int.reduceTMod, Int.reduceBEq, Int.reduceBNe, Nat.reducePow, Nat.reduceGT, reduceIte, decide_eq_true_eq, Int.toNat_zero, Nat.zero_mul, Nat.reduceMul, Nat.reduceAdd, Nat.reduceMod, Nat.reduceSub, Nat.reduceDiv, Nat.reduceEqDiff, Nat.reduceLT, Nat.reduceLeDiff, Nat.reduceBEq, Nat.reduceBNe, reduceCtorEq, if_true, if_false, Option.bind_some, Option.bind_none, Option.filter_some, Option.map_some, Option.some.injEq, List.getElem?_cons_zero, List.getElem?_cons_succ, List.getElem?_nil, List.getElem?_toArray, List.nodup_nil, List.nodup_cons, List.mem_cons, List.not_mem_nil, List.idxOf_cons, cond_true, cond_false, List.filterMap_cons, List.filterMap_nil, List.getD_cons_zero, List.getD_cons_succ, Option.getD_some, not_or, or_false, false_or, List.map_cons, List.length_map, Int.toNat_natCast, List.map_nil, List.all_cons, List.all_nil, List.length_cons, List.length_nil, List.nil_append, List.cons_append, List.append_nil, List.flatMap_cons, List.flatMap_nil, List.set_cons_zero, List.set_cons_succ, Bool.and_true, Bool.true_and, Bool.and_false, Bool.false_and, Bool.not_true, Bool.not_false, Bool.true_eq_false, Bool.false_eq_true, and_true, true_and, and_false, false_and, not_true_eq_false, not_false_eq_true, ne_eq, ite_self, List.contains_cons, List.contains_nil, Bool.or_false, Bool.false_or, Bool.or_true, Bool.true_or, Nat.zero_add, List.size_toArray, beq_self_eq_true, decide_true, decide_false, List.drop_succ_cons, List.drop_zero, List.take_succ_cons, List.take_zero]
    refine ⟨by decide, by decide, by rfl, ?_⟩
    simp [setAdd, e1, e2, e3, orBit, hm]
def bitOf (w : Int) (i : Int) : Bool := IntKind.u64.wrap (BitVec.ofInt IntKind.u64.bits (w.fdiv (2 ^ min i.toNat IntKind.u64.bits)) &&& BitVec.ofInt IntKind.u64.bits 1).toNat == 1
def setHas (s : arr4_uint64) (i : Int) : Bool :=
  if i < 0 then false else if i < 64 then bitOf s.e0 i else if i < 128 then bitOf s.e1 (i - 64) else if i < 192 then bitOf s.e2 (i - 128) else if i < 256 then bitOf s.e3 (i - 192) else false
noncomputable def cf16 : Cfg := { ti := tiOf Try.prog, mv := fun _ => false, nt := 22, dead := keepC [4, 7, 13], deadL := keepC [] }
set_option maxHeartbeats 4000000 in
theorem has_ok (s : arr4_uint64) (i : Int) : C_heckleref01_Has s i (setHas s i) := by
  unfold C_heckleref01_Has
  obtain ⟨a, b, c, d⟩ := s
  refine callE_of (c := cf16) (by rfl) (cfgOk_of rfl) (ipsOk_none rfl rfl) Try.func16 (by rfl) rfl rfl (Nat.le_of_ble_eq_true rfl) (by rfl) (by rfl) ?_
  rw [show Try.f16.results = #[.tmp 4] from rfl]
  have hw0 : IntKind.i64.wrap 0 = 0 := by rfl
  have hw1 : IntKind.i64.wrap 1 = 1 := by rfl
  have hw2 : IntKind.i64.wrap 2 = 2 := by rfl
  have hw3 : IntKind.i64.wrap 3 = 3 := by rfl
  by_cases g0 : i < 0
  · have g : ¬ i ≥ 0 := by omega
    simp only [entry, av_arr4_uint64, vI, vi, vB, g, cf16, ti3, ti4, ti22, ti24, ti25, ti27, Try.t3, Try.t4, Try.t22, Try.t23, Try.t25, Try.t26, boxRM, hasO, isFO, List.any_cons, List.any_nil, storeX, mvS, wc_seq, wc_reg, wc_skip, wc_block, wc_exit, wc_ret, wc_cond, condQ_t, condQ_f, seqK_n, seqK_e, seqK_r, seqN_nil, seqN_cons, blockK_n, blockK_e, blockK_r, regN_nil, regN_cons, opsQ_nil, opsQ_cons, goQ_nil, goQ_cons, wq_ret, wq_fail, wq_ask, wq_call, wq_peek, wq_if, askQ_some, peekQ_some, look_none, look_at, leafAt.eq_1, leafAt.eq_2, get, ins, mapv, upd, dropN, Up.app.eq_1, Up.app.eq_2, Up.app.eq_3, Up.app.eq_4, Up.app.eq_5, Up.app.eq_6, AV.map2.eq_1, AV.map2.eq_2, AV.map2.eq_3, AV.map1.eq_1, AV.map1.eq_2, killr.eq_1, killr.eq_2, killr.eq_3, killp.eq_1, killp.eq_2, killp.eq_3, killb, putV, setLeaf.eq_1, setLeaf.eq_2, mapLeaf.eq_1, mapLeaf.eq_2, Ev.frz.eq_1, Ev.frz.eq_2, AV.toLeaf.eq_1, AV.toLeaf.eq_2, AV.toLeaf.eq_3, AV.leaves.eq_1, AV.leaves.eq_2, AV.isLeaf.eq_1, AV.isLeaf.eq_2, AV.isLeaf.eq_3, AV.ok.eq_1, AV.ok.eq_2, AV.ok1.eq_1, AV.ok1.eq_2, AV.isBad.eq_1, AV.isBad.eq_2, guardRM, opRM, rdO.eq_1, rdO.eq_2, rdO.eq_3, rdO.eq_4, rdL, vw.eq_1, vw.eq_2, vw.eq_3, vwL, vwLeaf.eq_1, vwLeaf.eq_2, fin.eq_1, fin.eq_2, finOwn.eq_1, finOwn.eq_2, finAgg.eq_1, finAgg.eq_2, finNew.eq_1, finNew.eq_2, newB.eq_1, newB.eq_2, moveRM.eq_1, moveRM.eq_2, asgRM.eq_1, asgRM.eq_2, asgRM.eq_3, asgRM.eq_4, loadRM, storeRM, stSrc.eq_1, stSrc.eq_2, stSrc.eq_3, stTmp.eq_1, stTmp.eq_2, stTmp.eq_3, stTmp.eq_4, stTmp.eq_5, stTmp.eq_6, stTmp.eq_7, stTmp.eq_8, stRaw, stAny, stNil, stEl, stL, cpoL, cpo1.eq_1, cpo1.eq_2, cp.eq_1, cp.eq_2, cp1.eq_1, cp1.eq_2, cp1.eq_3, cp1.eq_4, cp1.eq_5, cp1.eq_6, cpL, cps, fieldAddrRM, fieldOff, AV.plus.eq_1, AV.plus.eq_2, AV.plus.eq_3, AV.plus.eq_4, seen.eq_1, seen.eq_2, seen.eq_3, partAV, binAV.eq_1, binAV.eq_2, binAV.eq_3, binAV.eq_4, binAV.eq_5, binAV.eq_6, binAV.eq_7, binAV.eq_8, binAV.eq_9, unAV.eq_1, unAV.eq_2, unAV.eq_3, unAV.eq_4, optRM.eq_1, optRM.eq_2, intOp.eq_1, intOp.eq_2, intOp.eq_3, intOp.eq_4, intOp.eq_5, intOp.eq_6, intOp.eq_7, intOp.eq_8, intOp.eq_9, intOp.eq_10, intOp.eq_11, intOp.eq_12, intOp.eq_13, intOp.eq_14, intOp.eq_15, intOp.eq_16, shiftOp.eq_1, shiftOp.eq_2, shiftOp.eq_3, strOp.eq_1, strOp.eq_2, strOp.eq_3, strOp.eq_4, strOp.eq_5, strOp.eq_6, strOp.eq_7, strOp.eq_8, isShift.eq_1, isShift.eq_2, isShift.eq_3, buildRM, placesL, fillRM, fillL, buildSliceRM, elemsRM, lenRM.eq_1, lenRM.eq_2, lenRM.eq_3, lenSRM.eq_1, lenSRM.eq_2, maxAV.eq_1, maxAV.eq_2, maxGo, appendRM, apBase.eq_1, apBase.eq_2, apBase.eq_3, apGo, boOk.eq_1, boOk.eq_2, boUps.eq_1, boUps.eq_2, frzNe.eq_1, frzNe.eq_2, isSrcD.eq_1, isSrcD.eq_2, isSrcD.eq_3, sliceOpRM, callGo, addNew, builtinRM.eq_1, builtinRM.eq_2, builtinRM.eq_3, builtinRM.eq_4, builtinRM.eq_5, constAV.eq_1, constAV.eq_2, constL, constLeaf.eq_1, constLeaf.eq_2, constLeaf.eq_3, constLeaf.eq_4, constLeaf.eq_5, constLeaf.eq_6, constLeaf.eq_7, constLeaf.eq_8, constLeaf.eq_9, constLeaf.eq_10, isAggD.eq_1, isAggD.eq_2, isAggD.eq_3, askL, ofCells, AV.free, AV.refs.eq_1, AV.refs.eq_2, AV.refs1.eq_1, AV.refs1.eq_2, AV.refs0.eq_1, AV.refs0.eq_2, AV.refs0.eq_3, AV.refs0.eq_4, AV.refs0.eq_5, Acc.meets.eq_1, Acc.meets.eq_2, Acc.meets.eq_3, Acc.meets.eq_4, Acc.meets.eq_5, Acc.meets.eq_6, frzOff.eq_1, frzOff.eq_2, tb, xb, ob, endK_r, endK_n, endU.eq_1, endU.eq_2, outsOf, resRM.eq_1, resRM.eq_2, resRM.eq_3, res1.eq_1, res1.eq_2, res1.eq_3, cellR, cellFits.eq_1, cellFits.eq_2, cellFits.eq_3, rdR.eq_1, rdR.eq_2, rdRs, keepC, FV.one.eq_1, FV.one.eq_2, FV.cells.eq_1, FV.cells.eq_2, FV.cells.eq_3, AV.leafF.eq_1, AV.leafF.eq_2, AV.elem.eq_1, AV.elem.eq_2, fLeaves, asAV.eq_1, asAV.eq_2, opsP_nil, opsP_cons, goU_nil, goU_cons, goP_nil, goP_cons, ups_refs_nil, ups_refs_cons, ups_writes_nil, ups_writes_cons, regP_cons, wp_ret, wp_fail, wp_ask', wp_peek, wp_call, wp_if, askP_some, peekP_some, accOf.eq_1, accOf.eq_2, Up.refs.eq_1, Up.refs.eq_2, Up.refs.eq_3, Up.refs.eq_4, Up.refs.eq_5, Up.refs.eq_6, Up.writes.eq_1, Up.writes.eq_2, Up.writes.eq_3, Up.writes.eq_4, Up.writes.eq_5, Up.writes.eq_6, Option.isNone_none, AV.ptrs.eq_1, AV.ptrs.eq_2, AV.ptrs0.eq_1, AV.ptrs0.eq_2, AV.ptrs0.eq_3, frzAll, frzIn, ren1.eq_1, ren1.eq_2, ren0.eq_1, ren0.eq_2, ren0.eq_3, renC.eq_1, renC.eq_2, ren2.eq_1, ren2.eq_2, ren2.eq_3, shut1.eq_1, shut1.eq_2, shut0.eq_1, shut0.eq_2, shut0.eq_3, shut2.eq_1, shut2.eq_2, capIn.eq_1, capIn.eq_2, capIn.eq_3, capIn.eq_4, capIn.eq_5, isOut, sameLens, putsOf, setD.eq_1, setD.eq_2, dIn.eq_1, dIn.eq_2, toOut, back, ipOf.eq_1, ipOf.eq_2, ipRM, ipGo, AV.cap.eq_1, AV.cap.eq_2, AV.cap.eq_3, AV.cap.eq_4, callRM_nil, callRM_cons, gather_nil32, gather_cons32, indexAddrRM, indexRM, fieldRM, convAV, sliceRM, makeSliceRM, implies_true, imp_false, forall_const, Option.map_none, FV.size, Int.reduceEq, Int.reduceNe, Int.reduceLT, Int.reduceLE, Int.reduceGT, Int.reduceGE, Int.reduceAdd, Int.reduceSub, Int.reduceMul, Int.reduceNeg, Int.reduceToNat, Int.reducePow, Int.reduceTDiv, Int.reduceTMod, Int.reduceBEq, Int.reduceBNe, Nat.reducePow, Nat.reduceGT, reduceIte, decide_eq_true_eq, Int.toNat_zero, Nat.zero_mul, Nat.reduceMul, Nat.reduceAdd, Nat.reduceMod, Nat.reduceSub, Nat.reduceDiv, Nat.reduceEqDiff, Nat.reduceLT, Nat.reduceLeDiff, Nat.reduceBEq, Nat.reduceBNe, reduceCtorEq, if_true, if_false, Option.bind_some, Option.bind_none, Option.filter_some, Option.map_some, Option.some.injEq, List.getElem?_cons_zero, List.getElem?_cons_succ, List.getElem?_nil, List.getElem?_toArray, List.nodup_nil, List.nodup_cons, List.mem_cons, List.not_mem_nil, List.idxOf_cons, cond_true, cond_false, List.filterMap_cons, List.filterMap_nil, List.getD_cons_zero, List.getD_cons_succ, Option.getD_some, not_or, or_false, false_or, List.map_cons, List.length_map, Int.toNat_natCast, List.map_nil, List.all_cons, List.all_nil, List.length_cons, List.length_nil, List.nil_append, List.cons_append, List.append_nil, List.flatMap_cons, List.flatMap_nil, List.set_cons_zero, List.set_cons_succ, Bool.and_true, Bool.true_and, Bool.and_false, Bool.false_and, Bool.not_true, Bool.not_false, Bool.true_eq_false, Bool.false_eq_true, and_true, true_and, and_false, false_and, not_true_eq_false, not_false_eq_true, ne_eq, ite_self, List.contains_cons, List.contains_nil, Bool.or_false, Bool.false_or, Bool.or_true, Bool.true_or, Nat.zero_add, List.size_toArray, beq_self_eq_true, decide_true, decide_false, List.drop_succ_cons, List.drop_zero, List.take_succ_cons, List.take_zero]
    simp [setHas, g0]
  have g : i ≥ 0 := by omega
  by_cases g1 : i < 256
  · have cases4 : i < 64 ∨ (64 ≤ i ∧ i < 128) ∨ (128 ≤ i ∧ i < 192) ∨ 192 ≤ i := by omega
    rcases cases4 with c0 | ⟨c0, c1⟩ | ⟨c0, c1⟩ | c0
    · obtain ⟨hq, hm⟩ := divmod64 0 i g (by omega) (by omega)
      generalize hmm : i.tmod 64 = m at hm
      have hn : ¬ m < 0 := by omega
      have e1 : i < 64 := by omega
      simp only [entry, av_arr4_uint64, vI, vi, vB, g, g1, hq, hmm, hn, hw0, cf16, ti3, ti4, ti22, ti24, ti25, ti27, Try.t3, Try.t4, Try.t22, Try.t23, Try.t25, Try.t26, boxRM, hasO, isFO, List.any_cons, List.any_nil, storeX, mvS, wc_seq, wc_reg, wc_skip, wc_block, wc_exit, wc_ret, wc_cond, condQ_t, condQ_f, seqK_n, seqK_e, seqK_r, seqN_nil, seqN_cons, blockK_n, blockK_e, blockK_r, regN_nil, regN_cons, opsQ_nil, opsQ_cons, goQ_nil, goQ_cons, wq_ret, wq_fail, wq_ask, wq_call, wq_peek, wq_if, askQ_some, peekQ_some, look_none, look_at, leafAt.eq_1, leafAt.eq_2, get, ins, mapv, upd, dropN, Up.app.eq_1, Up.app.eq_2, Up.app.eq_3, Up.app.eq_4, Up.app.eq_5, Up.app.eq_6, AV.map2.eq_1, AV.map2.eq_2, AV.map2.eq_3, AV.map1.eq_1, AV.map1.eq_2, killr.eq_1, killr.eq_2, killr.eq_3, killp.eq_1, killp.eq_2, killp.eq_3, killb, putV, setLeaf.eq_1, setLeaf.eq_2, mapLeaf.eq_1, mapLeaf.eq_2, Ev.frz.eq_1, Ev.frz.eq_2, AV.toLeaf.eq_1, AV.toLeaf.eq_2, AV.toLeaf.eq_3, AV.leaves.eq_1, AV.leaves.eq_2, AV.isLeaf.eq_1, AV.isLeaf.eq_2, AV.isLeaf.eq_3, AV.ok.eq_1, AV.ok.eq_2, AV.ok1.eq_1, AV.ok1.eq_2, AV.isBad.eq_1, AV.isBad.eq_2, guardRM, opRM, rdO.eq_1, rdO.eq_2, rdO.eq_3, rdO.eq_4, rdL, vw.eq_1, vw.eq_2, vw.eq_3, vwL, vwLeaf.eq_1, vwLeaf.eq_2, fin.eq_1, fin.eq_2, finOwn.eq_1, finOwn.eq_2, finAgg.eq_1, finAgg.eq_2, finNew.eq_1, finNew.eq_2, newB.eq_1, newB.eq_2, moveRM.eq_1, moveRM.eq_2, asgRM.eq_1, asgRM.eq_2, asgRM.eq_3, asgRM.eq_4, loadRM, storeRM, stSrc.eq_1, stSrc.eq_2, stSrc.eq_3, stTmp.eq_1, stTmp.eq_2, stTmp.eq_3, stTmp.eq_4, stTmp.eq_5, stTmp.eq_6, stTmp.eq_7, stTmp.eq_8, stRaw, stAny, stNil, stEl, stL, cpoL, cpo1.eq_1, cpo1.eq_2, cp.eq_1, cp.eq_2, cp1.eq_1, cp1.eq_2, cp1.eq_3, cp1.eq_4, cp1.eq_5, cp1.eq_6, cpL, cps, fieldAddrRM, fieldOff, AV.plus.eq_1, AV.plus.eq_2, AV.plus.eq_3, AV.plus.eq_4, seen.eq_1, seen.eq_2, seen.eq_3, partAV, binAV.eq_1, binAV.eq_2, binAV.eq_3, binAV.eq_4, binAV.eq_5, binAV.eq_6, binAV.eq_7, binAV.eq_8, binAV.eq_9, unAV.eq_1, unAV.eq_2, unAV.eq_3, unAV.eq_4, optRM.eq_1, optRM.eq_2, intOp.eq_1, intOp.eq_2, intOp.eq_3, intOp.eq_4, intOp.eq_5, intOp.eq_6, intOp.eq_7, intOp.eq_8, intOp.eq_9, intOp.eq_10, intOp.eq_11, intOp.eq_12, intOp.eq_13, intOp.eq_14, intOp.eq_15, intOp.eq_16, shiftOp.eq_1, shiftOp.eq_2, shiftOp.eq_3, strOp.eq_1, strOp.eq_2, strOp.eq_3, strOp.eq_4, strOp.eq_5, strOp.eq_6, strOp.eq_7, strOp.eq_8, isShift.eq_1, isShift.eq_2, isShift.eq_3, buildRM, placesL, fillRM, fillL, buildSliceRM, elemsRM, lenRM.eq_1, lenRM.eq_2, lenRM.eq_3, lenSRM.eq_1, lenSRM.eq_2, maxAV.eq_1, maxAV.eq_2, maxGo, appendRM, apBase.eq_1, apBase.eq_2, apBase.eq_3, apGo, boOk.eq_1, boOk.eq_2, boUps.eq_1, boUps.eq_2, frzNe.eq_1, frzNe.eq_2, isSrcD.eq_1, isSrcD.eq_2, isSrcD.eq_3, sliceOpRM, callGo, addNew, builtinRM.eq_1, builtinRM.eq_2, builtinRM.eq_3, builtinRM.eq_4, builtinRM.eq_5, constAV.eq_1, constAV.eq_2, constL, constLeaf.eq_1, constLeaf.eq_2, constLeaf.eq_3, constLeaf.eq_4, constLeaf.eq_5, constLeaf.eq_6, constLeaf.eq_7, constLeaf.eq_8, constLeaf.eq_9, constLeaf.eq_10, isAggD.eq_1, isAggD.eq_2, isAggD.eq_3, askL, ofCells, AV.free, AV.refs.eq_1, AV.refs.eq_2, AV.refs1.eq_1, AV.refs1.eq_2, AV.refs0.eq_1, AV.refs0.eq_2, AV.refs0.eq_3, AV.refs0.eq_4, AV.refs0.eq_5, Acc.meets.eq_1, Acc.meets.eq_2, Acc.meets.eq_3, Acc.meets.eq_4, Acc.meets.eq_5, Acc.meets.eq_6, frzOff.eq_1, frzOff.eq_2, tb, xb, ob, endK_r, endK_n, endU.eq_1, endU.eq_2, outsOf, resRM.eq_1, resRM.eq_2, resRM.eq_3, res1.eq_1, res1.eq_2, res1.eq_3, cellR, cellFits.eq_1, cellFits.eq_2, cellFits.eq_3, rdR.eq_1, rdR.eq_2, rdRs, keepC, FV.one.eq_1, FV.one.eq_2, FV.cells.eq_1, FV.cells.eq_2, FV.cells.eq_3, AV.leafF.eq_1, AV.leafF.eq_2, AV.elem.eq_1, AV.elem.eq_2, fLeaves, asAV.eq_1, asAV.eq_2, opsP_nil, opsP_cons, goU_nil, goU_cons, goP_nil, goP_cons, ups_refs_nil, ups_refs_cons, ups_writes_nil, ups_writes_cons, regP_cons, wp_ret, wp_fail, wp_ask', wp_peek, wp_call, wp_if, askP_some, peekP_some, accOf.eq_1, accOf.eq_2, Up.refs.eq_1, Up.refs.eq_2, Up.refs.eq_3, Up.refs.eq_4, Up.refs.eq_5, Up.refs.eq_6, Up.writes.eq_1, Up.writes.eq_2, Up.writes.eq_3, Up.writes.eq_4, Up.writes.eq_5, Up.writes.eq_6, Option.isNone_none, AV.ptrs.eq_1, AV.ptrs.eq_2, AV.ptrs0.eq_1, AV.ptrs0.eq_2, AV.ptrs0.eq_3, frzAll, frzIn, ren1.eq_1, ren1.eq_2, ren0.eq_1, ren0.eq_2, ren0.eq_3, renC.eq_1, renC.eq_2, ren2.eq_1, ren2.eq_2, ren2.eq_3, shut1.eq_1, shut1.eq_2, shut0.eq_1, shut0.eq_2, shut0.eq_3, shut2.eq_1, shut2.eq_2, capIn.eq_1, capIn.eq_2, capIn.eq_3, capIn.eq_4, capIn.eq_5, isOut, sameLens, putsOf, setD.eq_1, setD.eq_2, dIn.eq_1, dIn.eq_2, toOut, back, ipOf.eq_1, ipOf.eq_2, ipRM, ipGo, AV.cap.eq_1, AV.cap.eq_2, AV.cap.eq_3, AV.cap.eq_4, callRM_nil, callRM_cons, gather_nil32, gather_cons32, indexAddrRM, indexRM, fieldRM, convAV, sliceRM, makeSliceRM, implies_true, imp_false, forall_const, Option.map_none, FV.size, Int.reduceEq, Int.reduceNe, Int.reduceLT, Int.reduceLE, Int.reduceGT, Int.reduceGE, Int.reduceAdd, Int.reduceSub, Int.reduceMul, Int.reduceNeg, Int.reduceToNat, Int.reducePow, Int.reduceTDiv, Int.reduceTMod, Int.reduceBEq, Int.reduceBNe, Nat.reducePow, Nat.reduceGT, reduceIte, decide_eq_true_eq, Int.toNat_zero, Nat.zero_mul, Nat.reduceMul, Nat.reduceAdd, Nat.reduceMod, Nat.reduceSub, Nat.reduceDiv, Nat.reduceEqDiff, Nat.reduceLT, Nat.reduceLeDiff, Nat.reduceBEq, Nat.reduceBNe, reduceCtorEq, if_true, if_false, Option.bind_some, Option.bind_none, Option.filter_some, Option.map_some, Option.some.injEq, List.getElem?_cons_zero, List.getElem?_cons_succ, List.getElem?_nil, List.getElem?_toArray, List.nodup_nil, List.nodup_cons, List.mem_cons, List.not_mem_nil, List.idxOf_cons, cond_true, cond_false, List.filterMap_cons, List.filterMap_nil, List.getD_cons_zero, List.getD_cons_succ, Option.getD_some, not_or, or_false, false_or, List.map_cons, List.length_map, Int.toNat_natCast, List.map_nil, List.all_cons, List.all_nil, List.length_cons, List.length_nil, List.nil_append, List.cons_append, List.append_nil, List.flatMap_cons, List.flatMap_nil, List.set_cons_zero, List.set_cons_succ, Bool.and_true, Bool.true_and, Bool.and_false, Bool.false_and, Bool.not_true, Bool.not_false, Bool.true_eq_false, Bool.false_eq_true, and_true, true_and, and_false, false_and, not_true_eq_false, not_false_eq_true, ne_eq, ite_self, List.contains_cons, List.contains_nil, Bool.or_false, Bool.false_or, Bool.or_true, Bool.true_or, Nat.zero_add, List.size_toArray, beq_self_eq_true, decide_true, decide_false, List.drop_succ_cons, List.drop_zero, List.take_succ_cons, List.take_zero]
      refine ⟨by decide, ?_⟩
      simp [setHas, g0, g1, e1, bitOf, hm]
    · obtain ⟨hq, hm⟩ := divmod64 1 i g (by omega) (by omega)
      generalize hmm : i.tmod 64 = m at hm
      have hn : ¬ m < 0 := by omega
      have e1 : ¬ i < 64 := by omega
      have e2 : i < 128 := by omega
      simp only [entry, av_arr4_uint64, vI, vi, vB, g, g1, hq, hmm, hn, hw1, cf16, ti3, ti4, ti22, ti24, ti25, ti27, Try.t3, Try.t4, Try.t22, Try.t23, Try.t25, Try.t26, boxRM, hasO, isFO, List.any_cons, List.any_nil, storeX, mvS, wc_seq, wc_reg, wc_skip, wc_block, wc_exit, wc_ret, wc_cond, condQ_t, condQ_f, seqK_n, seqK_e, seqK_r, seqN_nil, seqN_cons, blockK_n, blockK_e, blockK_r, regN_nil, regN_cons, opsQ_nil, opsQ_cons, goQ_nil, goQ_cons, wq_ret, wq_fail, wq_ask, wq_call, wq_peek, wq_if, askQ_some, peekQ_some, look_none, look_at, leafAt.eq_1, leafAt.eq_2, get, ins, mapv, upd, dropN, Up.app.eq_1, Up.app.eq_2, Up.app.eq_3, Up.app.eq_4, Up.app.eq_5, Up.app.eq_6, AV.map2.eq_1, AV.map2.eq_2, AV.map2.eq_3, AV.map1.eq_1, AV.map1.eq_2, killr.eq_1, killr.eq_2, killr.eq_3, killp.eq_1, killp.eq_2, killp.eq_3, killb, putV, setLeaf.eq_1, setLeaf.eq_2, mapLeaf.eq_1, mapLeaf.eq_2, Ev.frz.eq_1, Ev.frz.eq_2, AV.toLeaf.eq_1, AV.toLeaf.eq_2, AV.toLeaf.eq_3, AV.leaves.eq_1, AV.leaves.eq_2, AV.isLeaf.eq_1, AV.isLeaf.eq_2, AV.isLeaf.eq_3, AV.ok.eq_1, AV.ok.eq_2, AV.ok1.eq_1, AV.ok1.eq_2, AV.isBad.eq_1, AV.isBad.eq_2, guardRM, opRM, rdO.eq_1, rdO.eq_2, rdO.eq_3, rdO.eq_4, rdL, vw.eq_1, vw.eq_2, vw.eq_3, vwL, vwLeaf.eq_1, vwLeaf.eq_2, fin.eq_1, fin.eq_2, finOwn.eq_1, finOwn.eq_2, finAgg.eq_1, finAgg.eq_2, finNew.eq_1, finNew.eq_2, newB.eq_1, newB.eq_2, moveRM.eq_1, moveRM.eq_2, asgRM.eq_1, asgRM.eq_2, asgRM.eq_3, asgRM.eq_4, loadRM, storeRM, stSrc.eq_1, stSrc.eq_2, stSrc.eq_3, stTmp.eq_1, stTmp.eq_2, stTmp.eq_3, stTmp.eq_4, stTmp.eq_5, stTmp.eq_6, stTmp.eq_7, stTmp.eq_8, stRaw, stAny, stNil, stEl, stL, cpoL, cpo1.eq_1, cpo1.eq_2, cp.eq_1, cp.eq_2, cp1.eq_1, cp1.eq_2, cp1.eq_3, cp1.eq_4, cp1.eq_5, cp1.eq_6, cpL, cps, fieldAddrRM, fieldOff, AV.plus.eq_1, AV.plus.eq_2, AV.plus.eq_3, AV.plus.eq_4, seen.eq_1, seen.eq_2, seen.eq_3, partAV, binAV.eq_1, binAV.eq_2, binAV.eq_3, binAV.eq_4, binAV.eq_5, binAV.eq_6, binAV.eq_7, binAV.eq_8, binAV.eq_9, unAV.eq_1, unAV.eq_2, unAV.eq_3, unAV.eq_4, optRM.eq_1, optRM.eq_2, intOp.eq_1, intOp.eq_2, intOp.eq_3, intOp.eq_4, intOp.eq_5, intOp.eq_6, intOp.eq_7, intOp.eq_8, intOp.eq_9, intOp.eq_10, intOp.eq_11, intOp.eq_12, intOp.eq_13, intOp.eq_14, intOp.eq_15, intOp.eq_16, shiftOp.eq_1, shiftOp.eq_2, shiftOp.eq_3, strOp.eq_1, strOp.eq_2, strOp.eq_3, strOp.eq_4, strOp.eq_5, strOp.eq_6, strOp.eq_7, strOp.eq_8, isShift.eq_1, isShift.eq_2, isShift.eq_3, buildRM, placesL, fillRM, fillL, buildSliceRM, elemsRM, lenRM.eq_1, lenRM.eq_2, lenRM.eq_3, lenSRM.eq_1, lenSRM.eq_2, maxAV.eq_1, maxAV.eq_2, maxGo, appendRM, apBase.eq_1, apBase.eq_2, apBase.eq_3, apGo, boOk.eq_1, boOk.eq_2, boUps.eq_1, boUps.eq_2, frzNe.eq_1, frzNe.eq_2, isSrcD.eq_1, isSrcD.eq_2, isSrcD.eq_3, sliceOpRM, callGo, addNew, builtinRM.eq_1, builtinRM.eq_2, builtinRM.eq_3, builtinRM.eq_4, builtinRM.eq_5, constAV.eq_1, constAV.eq_2, constL, constLeaf.eq_1, constLeaf.eq_2, constLeaf.eq_3, constLeaf.eq_4, constLeaf.eq_5, constLeaf.eq_6, constLeaf.eq_7, constLeaf.eq_8, constLeaf.eq_9, constLeaf.eq_10, isAggD.eq_1, isAggD.eq_2, isAggD.eq_3, askL, ofCells, AV.free, AV.refs.eq_1, AV.refs.eq_2, AV.refs1.eq_1, AV.refs1.eq_2, AV.refs0.eq_1, AV.refs0.eq_2, AV.refs0.eq_3, AV.refs0.eq_4, AV.refs0.eq_5, Acc.meets.eq_1, Acc.meets.eq_2, Acc.meets.eq_3, Acc.meets.eq_4, Acc.meets.eq_5, Acc.meets.eq_6, frzOff.eq_1, frzOff.eq_2, tb, xb, ob, endK_r, endK_n, endU.eq_1, endU.eq_2, outsOf, resRM.eq_1, resRM.eq_2, resRM.eq_3, res1.eq_1, res1.eq_2, res1.eq_3, cellR, cellFits.eq_1, cellFits.eq_2, cellFits.eq_3, rdR.eq_1, rdR.eq_2, rdRs, keepC, FV.one.eq_1, FV.one.eq_2, FV.cells.eq_1, FV.cells.eq_2, FV.cells.eq_3, AV.leafF.eq_1, AV.leafF.eq_2, AV.elem.eq_1, AV.elem.eq_2, fLeaves, asAV.eq_1, asAV.eq_2, opsP_nil, opsP_cons, goU_nil, goU_cons, goP_nil, goP_cons, ups_refs_nil, ups_refs_cons, ups_writes_nil, ups_writes_cons, regP_cons, wp_ret, wp_fail, wp_ask', wp_peek, wp_call, wp_if, askP_some, peekP_some, accOf.eq_1, accOf.eq_2, Up.refs.eq_1, Up.refs.eq_2, Up.refs.eq_3, Up.refs.eq_4, Up.refs.eq_5, Up.refs.eq_6, Up.writes.eq_1, Up.writes.eq_2, Up.writes.eq_3, Up.writes.eq_4, Up.writes.eq_5, Up.writes.eq_6, Option.isNone_none, AV.ptrs.eq_1, AV.ptrs.eq_2, AV.ptrs0.eq_1, AV.ptrs0.eq_2, AV.ptrs0.eq_3, frzAll, frzIn, ren1.eq_1, ren1.eq_2, ren0.eq_1, ren0.eq_2, ren0.eq_3, renC.eq_1, renC.eq_2, ren2.eq_1, ren2.eq_2, ren2.eq_3, shut1.eq_1, shut1.eq_2, shut0.eq_1, shut0.eq_2, shut0.eq_3, shut2.eq_1, shut2.eq_2, capIn.eq_1, capIn.eq_2, capIn.eq_3, capIn.eq_4, capIn.eq_5, isOut, sameLens, putsOf, setD.eq_1, setD.eq_2, dIn.eq_1, dIn.eq_2, toOut, back, ipOf.eq_1, ipOf.eq_2, ipRM, ipGo, AV.cap.eq_1, AV.cap.eq_2, AV.cap.eq_3, AV.cap.eq_4, callRM_nil, callRM_cons, gather_nil32, gather_cons32, indexAddrRM, indexRM, fieldRM, convAV, sliceRM, makeSliceRM, implies_true, imp_false, forall_const, Option.map_none, FV.size, Int.reduceEq, Int.reduceNe, Int.reduceLT, Int.reduceLE, Int.reduceGT, Int.reduceGE, Int.reduceAdd, Int.reduceSub, Int.reduceMul, Int.reduceNeg, Int.reduceToNat, Int.reducePow, Int.reduceTDiv, Int.reduceTMod, Int.reduceBEq, Int.reduceBNe, Nat.reducePow, Nat.reduceGT, reduceIte, decide_eq_true_eq, Int.toNat_zero, Nat.zero_mul, Nat.reduceMul, Nat.reduceAdd, Nat.reduceMod, Nat.reduceSub, Nat.reduceDiv, Nat.reduceEqDiff, Nat.reduceLT, Nat.reduceLeDiff, Nat.reduceBEq, Nat.reduceBNe, reduceCtorEq, if_true, if_false, Option.bind_some, Option.bind_none, Option.filter_some, Option.map_some, Option.some.injEq, List.getElem?_cons_zero, List.getElem?_cons_succ, List.getElem?_nil, List.getElem?_toArray, List.nodup_nil, List.nodup_cons, List.mem_cons, List.not_mem_nil, List.idxOf_cons, cond_true, cond_false, List.filterMap_cons, List.filterMap_nil, List.getD_cons_zero, List.getD_cons_succ, Option.getD_some, not_or, or_false, false_or, List.map_cons, List.length_map, Int.toNat_natCast, List.map_nil, List.all_cons, List.all_nil, List.length_cons, List.length_nil, List.nil_append, List.cons_append, List.append_nil, List.flatMap_cons, List.flatMap_nil, List.set_cons_zero, List.set_cons_succ, Bool.and_true, Bool.true_and, Bool.and_false, Bool.false_and, Bool.not_true, Bool.not_false, Bool.true_eq_false, Bool.false_eq_true, and_true, true_and, and_false, false_and, not_true_eq_false, not_false_eq_true, ne_eq, ite_self, List.contains_cons, List.contains_nil, Bool.or_false, Bool.false_or, Bool.or_true, Bool.true_or, Nat.zero_add, List.size_toArray, beq_self_eq_true, decide_true, decide_false, List.drop_succ_cons, List.drop_zero, List.take_succ_cons, List.take_zero]
      refine ⟨by decide, ?_⟩
      simp [setHas, g0, g1, e1, e2, bitOf, hm]
    · obtain ⟨hq, hm⟩ := divmod64 2 i g (by omega) (by omega)
      generalize hmm : i.tmod 64 = m at hm
      have hn : ¬ m < 0 := by omega
      have e1 : ¬ i < 64 := by omega
      have e2 : ¬ i < 128 := by omega
      have e3 : i < 192 := by omega
      simp only [entry, av_arr4_uint64, vI, vi, vB, g, g1, hq, hmm, hn, hw2, cf16, ti3, ti4, ti22, ti24, ti25, ti27, Try.t3, Try.t4, Try.t22, Try.t23, Try.t25, Try.t26, boxRM, hasO, isFO, List.any_cons, List.any_nil, storeX, mvS, wc_seq, wc_reg, wc_skip, wc_block, wc_exit, wc_ret, wc_cond, condQ_t, condQ_f, seqK_n, seqK_e, seqK_r, seqN_nil, seqN_cons, blockK_n, blockK_e, blockK_r, regN_nil, regN_cons, opsQ_nil, opsQ_cons, goQ_nil, goQ_cons, wq_ret, wq_fail, wq_ask, wq_call, wq_peek, wq_if, askQ_some, peekQ_some, look_none, look_at, leafAt.eq_1, leafAt.eq_2, get, ins, mapv, upd, dropN, Up.app.eq_1, Up.app.eq_2, Up.app.eq_3, Up.app.eq_4, Up.app.eq_5, Up.app.eq_6, AV.map2.eq_1, AV.map2.eq_2, AV.map2.eq_3, AV.map1.eq_1, AV.map1.eq_2, killr.eq_1, killr.eq_2, killr.eq_3, killp.eq_1, killp.eq_2, killp.eq_3, killb, putV, setLeaf.eq_1, setLeaf.eq_2, mapLeaf.eq_1, mapLeaf.eq_2, Ev.frz.eq_1, Ev.frz.eq_2, AV.toLeaf.eq_1, AV.toLeaf.eq_2, AV.toLeaf.eq_3, AV.leaves.eq_1, AV.leaves.eq_2, AV.isLeaf.eq_1, AV.isLeaf.eq_2, AV.isLeaf.eq_3, AV.ok.eq_1, AV.ok.eq_2, AV.ok1.eq_1, AV.ok1.eq_2, AV.isBad.eq_1, AV.isBad.eq_2, guardRM, opRM, rdO.eq_1, rdO.eq_2, rdO.eq_3, rdO.eq_4, rdL, vw.eq_1, vw.eq_2, vw.eq_3, vwL, vwLeaf.eq_1, vwLeaf.eq_2, fin.eq_1, fin.eq_2, finOwn.eq_1, finOwn.eq_2, finAgg.eq_1, finAgg.eq_2, finNew.eq_1, finNew.eq_2, newB.eq_1, newB.eq_2, moveRM.eq_1, moveRM.eq_2, asgRM.eq_1, asgRM.eq_2, asgRM.eq_3, asgRM.eq_4, loadRM, storeRM, stSrc.eq_1, stSrc.eq_2, stSrc.eq_3, stTmp.eq_1, stTmp.eq_2, stTmp.eq_3, stTmp.eq_4, stTmp.eq_5, stTmp.eq_6, stTmp.eq_7, stTmp.eq_8, stRaw, stAny, stNil, stEl, stL, cpoL, cpo1.eq_1, cpo1.eq_2, cp.eq_1, cp.eq_2, cp1.eq_1, cp1.eq_2, cp1.eq_3, cp1.eq_4, cp1.eq_5, cp1.eq_6, cpL, cps, fieldAddrRM, fieldOff, AV.plus.eq_1, AV.plus.eq_2, AV.plus.eq_3, AV.plus.eq_4, seen.eq_1, seen.eq_2, seen.eq_3, partAV, binAV.eq_1, binAV.eq_2, binAV.eq_3, binAV.eq_4, binAV.eq_5, binAV.eq_6, binAV.eq_7, binAV.eq_8, binAV.eq_9, unAV.eq_1, unAV.eq_2, unAV.eq_3, unAV.eq_4, optRM.eq_1, optRM.eq_2, intOp.eq_1, intOp.eq_2, intOp.eq_3, intOp.eq_4, intOp.eq_5, intOp.eq_6, intOp.eq_7, intOp.eq_8, intOp.eq_9, intOp.eq_10, intOp.eq_11, intOp.eq_12, intOp.eq_13, intOp.eq_14, intOp.eq_15, intOp.eq_16, shiftOp.eq_1, shiftOp.eq_2, shiftOp.eq_3, strOp.eq_1, strOp.eq_2, strOp.eq_3, strOp.eq_4, strOp.eq_5, strOp.eq_6, strOp.eq_7, strOp.eq_8, isShift.eq_1, isShift.eq_2, isShift.eq_3, buildRM, placesL, fillRM, fillL, buildSliceRM, elemsRM, lenRM.eq_1, lenRM.eq_2, lenRM.eq_3, lenSRM.eq_1, lenSRM.eq_2, maxAV.eq_1, maxAV.eq_2, maxGo, appendRM, apBase.eq_1, apBase.eq_2, apBase.eq_3, apGo, boOk.eq_1, boOk.eq_2, boUps.eq_1, boUps.eq_2, frzNe.eq_1, frzNe.eq_2, isSrcD.eq_1, isSrcD.eq_2, isSrcD.eq_3, sliceOpRM, callGo, addNew, builtinRM.eq_1, builtinRM.eq_2, builtinRM.eq_3, builtinRM.eq_4, builtinRM.eq_5, constAV.eq_1, constAV.eq_2, constL, constLeaf.eq_1, constLeaf.eq_2, constLeaf.eq_3, constLeaf.eq_4, constLeaf.eq_5, constLeaf.eq_6, constLeaf.eq_7, constLeaf.eq_8, constLeaf.eq_9, constLeaf.eq_10, isAggD.eq_1, isAggD.eq_2, isAggD.eq_3, askL, ofCells, AV.free, AV.refs.eq_1, AV.refs.eq_2, AV.refs1.eq_1, AV.refs1.eq_2, AV.refs0.eq_1, AV.refs0.eq_2, AV.refs0.eq_3, AV.refs0.eq_4, AV.refs0.eq_5, Acc.meets.eq_1, Acc.meets.eq_2, Acc.meets.eq_3, Acc.meets.eq_4, Acc.meets.eq_5, Acc.meets.eq_6, frzOff.eq_1, frzOff.eq_2, tb, xb, ob, endK_r, endK_n, endU.eq_1, endU.eq_2, outsOf, resRM.eq_1, resRM.eq_2, resRM.eq_3, res1.eq_1, res1.eq_2, res1.eq_3, cellR, cellFits.eq_1, cellFits.eq_2, cellFits.eq_3, rdR.eq_1, rdR.eq_2, rdRs, keepC, FV.one.eq_1, FV.one.eq_2, FV.cells.eq_1, FV.cells.eq_2, FV.cells.eq_3, AV.leafF.eq_1, AV.leafF.eq_2, AV.elem.eq_1, AV.elem.eq_2, fLeaves, asAV.eq_1, asAV.eq_2, opsP_nil, opsP_cons, goU_nil, goU_cons, goP_nil, goP_cons, ups_refs_nil, ups_refs_cons, ups_writes_nil, ups_writes_cons, regP_cons, wp_ret, wp_fail, wp_ask', wp_peek, wp_call, wp_if, askP_some, peekP_some, accOf.eq_1, accOf.eq_2, Up.refs.eq_1, Up.refs.eq_2, Up.refs.eq_3, Up.refs.eq_4, Up.refs.eq_5, Up.refs.eq_6, Up.writes.eq_1, Up.writes.eq_2, Up.writes.eq_3, Up.writes.eq_4, Up.writes.eq_5, Up.writes.eq_6, Option.isNone_none, AV.ptrs.eq_1, AV.ptrs.eq_2, AV.ptrs0.eq_1, AV.ptrs0.eq_2, AV.ptrs0.eq_3, frzAll, frzIn, ren1.eq_1, ren1.eq_2, ren0.eq_1, ren0.eq_2, ren0.eq_3, renC.eq_1, renC.eq_2, ren2.eq_1, ren2.eq_2, ren2.eq_3, shut1.eq_1, shut1.eq_2, shut0.eq_1, shut0.eq_2, shut0.eq_3, shut2.eq_1, shut2.eq_2, capIn.eq_1, capIn.eq_2, capIn.eq_3, capIn.eq_4, capIn.eq_5, isOut, sameLens, putsOf, setD.eq_1, setD.eq_2, dIn.eq_1, dIn.eq_2, toOut, back, ipOf.eq_1, ipOf.eq_2, ipRM, ipGo, AV.cap.eq_1, AV.cap.eq_2, AV.cap.eq_3, AV.cap.eq_4, callRM_nil, callRM_cons, gather_nil32, gather_cons32, indexAddrRM, indexRM, fieldRM, convAV, sliceRM, makeSliceRM, implies_true, imp_false, forall_const, Option.map_none, FV.size, Int.reduceEq, Int.reduceNe, Int.reduceLT, Int.reduceLE, Int.reduceGT, Int.reduceGE, Int.reduceAdd, Int.reduceSub, Int.reduceMul, Int.reduceNeg, Int.reduceToNat, Int.reducePow, Int.reduceTDiv, Int.reduceTMod, Int.reduceBEq, Int.reduceBNe, Nat.reducePow, Nat.reduceGT, reduceIte, decide_eq_true_eq, Int.toNat_zero, Nat.zero_mul, Nat.reduceMul, Nat.reduceAdd, Nat.reduceMod, Nat.reduceSub, Nat.reduceDiv, Nat.reduceEqDiff, Nat.reduceLT, Nat.reduceLeDiff, Nat.reduceBEq, Nat.reduceBNe, reduceCtorEq, if_true, if_false, Option.bind_some, Option.bind_none, Option.filter_some, Option.map_some, Option.some.injEq, List.getElem?_cons_zero, List.getElem?_cons_succ, List.getElem?_nil, List.getElem?_toArray, List.nodup_nil, List.nodup_cons, List.mem_cons, List.not_mem_nil, List.idxOf_cons, cond_true, cond_false, List.filterMap_cons, List.filterMap_nil, List.getD_cons_zero, List.getD_cons_succ, Option.getD_some, not_or, or_false, false_or, List.map_cons, List.length_map, Int.toNat_natCast, List.map_nil, List.all_cons, List.all_nil, List.length_cons, List.length_nil, List.nil_append, List.cons_append, List.append_nil, List.flatMap_cons, List.flatMap_nil, List.set_cons_zero, List.set_cons_succ, Bool.and_true, Bool.true_and, Bool.and_false, Bool.false_and, Bool.not_true, Bool.not_false, Bool.true_eq_false, Bool.false_eq_true, and_true, true_and, and_false, false_and, not_true_eq_false, not_false_eq_true, ne_eq, ite_self, List.contains_cons, List.contains_nil, Bool.or_false, Bool.false_or, Bool.or_true, Bool.true_or, Nat.zero_add, List.size_toArray, beq_self_eq_true, decide_true, decide_false, List.drop_succ_cons, List.drop_zero, List.take_succ_cons, List.take_zero]
      refine ⟨by decide, ?_⟩
      simp [setHas, g0, g1, e1, e2, e3, bitOf, hm]
    · obtain ⟨hq, hm⟩ := divmod64 3 i g (by omega) (by omega)
      generalize hmm : i.tmod 64 = m at hm
      have hn : ¬ m < 0 := by omega
      have e1 : ¬ i < 64 := by omega
      have e2 : ¬ i < 128 := by omega
      have e3 : ¬ i < 192 := by omega
      simp only [entry, av_arr4_uint64, vI, vi, vB, g, g1, hq, hmm, hn, hw3, cf16, ti3, ti4, ti22, ti24, ti25, ti27, Try.t3, Try.t4, Try.t22, Try.t23, Try.t25, Try.t26, boxRM, hasO, isFO, List.any_cons, List.any_nil, storeX, mvS, wc_seq, wc_reg, wc_skip, wc_block, wc_exit, wc_ret, wc_cond, condQ_t, condQ_f, seqK_n, seqK_e, seqK_r, seqN_nil, seqN_cons, blockK_n, blockK_e, blockK_r, regN_nil, regN_cons, opsQ_nil, opsQ_cons, goQ_nil, goQ_cons, wq_ret, wq_fail, wq_ask, wq_call, wq_peek, wq_if, askQ_some, peekQ_some, look_none, look_at, leafAt.eq_1, leafAt.eq_2, get, ins, mapv, upd, dropN, Up.app.eq_1, Up.app.eq_2, Up.app.eq_3, Up.app.eq_4, Up.app.eq_5, Up.app.eq_6, AV.map2.eq_1, AV.map2.eq_2, AV.map2.eq_3, AV.map1.eq_1, AV.map1.eq_2, killr.eq_1, killr.eq_2, killr.eq_3, killp.eq_1, killp.eq_2, killp.eq_3, killb, putV, setLeaf.eq_1, setLeaf.eq_2, mapLeaf.eq_1, mapLeaf.eq_2, Ev.frz.eq_1, Ev.frz.eq_2, AV.toLeaf.eq_1, AV.toLeaf.eq_2, AV.toLeaf.eq_3, AV.leaves.eq_1, AV.leaves.eq_2, AV.isLeaf.eq_1, AV.isLeaf.eq_2, AV.isLeaf.eq_3, AV.ok.eq_1, AV.ok.eq_2, AV.ok1.eq_1, AV.ok1.eq_2, AV.isBad.eq_1, AV.isBad.eq_2, guardRM, opRM, rdO.eq_1, rdO.eq_2, rdO.eq_3, rdO.eq_4, rdL, vw.eq_1, vw.eq_2, vw.eq_3, vwL, vwLeaf.eq_1, vwLeaf.eq_2, fin.eq_1, fin.eq_2, finOwn.eq_1, finOwn.eq_2, finAgg.eq_1, finAgg.eq_2, finNew.eq_1, finNew.eq_2, newB.eq_1, newB.eq_2, moveRM.eq_1, moveRM.eq_2, asgRM.eq_1, asgRM.eq_2, asgRM.eq_3, asgRM.eq_4, loadRM, storeRM, stSrc.eq_1, stSrc.eq_2, stSrc.eq_3, stTmp.eq_1, stTmp.eq_2, stTmp.eq_3, stTmp.eq_4, stTmp.eq_5, stTmp.eq_6, stTmp.eq_7, stTmp.eq_8, stRaw, stAny, stNil, stEl, stL, cpoL, cpo1.eq_1, cpo1.eq_2, cp.eq_1, cp.eq_2, cp1.eq_1, cp1.eq_2, cp1.eq_3, cp1.eq_4, cp1.eq_5, cp1.eq_6, cpL, cps, fieldAddrRM, fieldOff, AV.plus.eq_1, AV.plus.eq_2, AV.plus.eq_3, AV.plus.eq_4, seen.eq_1, seen.eq_2, seen.eq_3, partAV, binAV.eq_1, binAV.eq_2, binAV.eq_3, binAV.eq_4, binAV.eq_5, binAV.eq_6, binAV.eq_7, binAV.eq_8, binAV.eq_9, unAV.eq_1, unAV.eq_2, unAV.eq_3, unAV.eq_4, optRM.eq_1, optRM.eq_2, intOp.eq_1, intOp.eq_2, intOp.eq_3, intOp.eq_4, intOp.eq_5, intOp.eq_6, intOp.eq_7, intOp.eq_8, intOp.eq_9, intOp.eq_10, intOp.eq_11, intOp.eq_12, intOp.eq_13, intOp.eq_14, intOp.eq_15, intOp.eq_16, shiftOp.eq_1, shiftOp.eq_2, shiftOp.eq_3, strOp.eq_1, strOp.eq_2, strOp.eq_3, strOp.eq_4, strOp.eq_5, strOp.eq_6, strOp.eq_7, strOp.eq_8, isShift.eq_1, isShift.eq_2, isShift.eq_3, buildRM, placesL, fillRM, fillL, buildSliceRM, elemsRM, lenRM.eq_1, lenRM.eq_2, lenRM.eq_3, lenSRM.eq_1, lenSRM.eq_2, maxAV.eq_1, maxAV.eq_2, maxGo, appendRM, apBase.eq_1, apBase.eq_2, apBase.eq_3, apGo, boOk.eq_1, boOk.eq_2, boUps.eq_1, boUps.eq_2, frzNe.eq_1, frzNe.eq_2, isSrcD.eq_1, isSrcD.eq_2, isSrcD.eq_3, sliceOpRM, callGo, addNew, builtinRM.eq_1, builtinRM.eq_2, builtinRM.eq_3, builtinRM.eq_4, builtinRM.eq_5, constAV.eq_1, constAV.eq_2, constL, constLeaf.eq_1, constLeaf.eq_2, constLeaf.eq_3, constLeaf.eq_4, constLeaf.eq_5, constLeaf.eq_6, constLeaf.eq_7, constLeaf.eq_8, constLeaf.eq_9, constLeaf.eq_10, isAggD.eq_1, isAggD.eq_2, isAggD.eq_3, askL, ofCells, AV.free, AV.refs.eq_1, AV.refs.eq_2, AV.refs1.eq_1, AV.refs1.eq_2, AV.refs0.eq_1, AV.refs0.eq_2, AV.refs0.eq_3, AV.refs0.eq_4, AV.refs0.eq_5, Acc.meets.eq_1, Acc.meets.eq_2, Acc.meets.eq_3, Acc.meets.eq_4, Acc.meets.eq_5, Acc.meets.eq_6, frzOff.eq_1, frzOff.eq_2, tb, xb, ob, endK_r, endK_n, endU.eq_1, endU.eq_2, outsOf, resRM.eq_1, resRM.eq_2, resRM.eq_3, res1.eq_1, res1.eq_2, res1.eq_3, cellR, cellFits.eq_1, cellFits.eq_2, cellFits.eq_3, rdR.eq_1, rdR.eq_2, rdRs, keepC, FV.one.eq_1, FV.one.eq_2, FV.cells.eq_1, FV.cells.eq_2, FV.cells.eq_3, AV.leafF.eq_1, AV.leafF.eq_2, AV.elem.eq_1, AV.elem.eq_2, fLeaves, asAV.eq_1, asAV.eq_2, opsP_nil, opsP_cons, goU_nil, goU_cons, goP_nil, goP_cons, ups_refs_nil, ups_refs_cons, ups_writes_nil, ups_writes_cons, regP_cons, wp_ret, wp_fail, wp_ask', wp_peek, wp_call, wp_if, askP_some, peekP_some, accOf.eq_1, accOf.eq_2, Up.refs.eq_1, Up.refs.eq_2, Up.refs.eq_3, Up.refs.eq_4, Up.refs.eq_5, Up.refs.eq_6, Up.writes.eq_1, Up.writes.eq_2, Up.writes.eq_3, Up.writes.eq_4, Up.writes.eq_5, Up.writes.eq_6, Option.isNone_none, AV.ptrs.eq_1, AV.ptrs.eq_2, AV.ptrs0.eq_1, AV.ptrs0.eq_2, AV.ptrs0.eq_3, frzAll, frzIn, ren1.eq_1, ren1.eq_2, ren0.eq_1, ren0.eq_2, ren0.eq_3, renC.eq_1, renC.eq_2, ren2.eq_1, ren2.eq_2, ren2.eq_3, shut1.eq_1, shut1.eq_2, shut0.eq_1, shut0.eq_2, shut0.eq_3, shut2.eq_1, shut2.eq_2, capIn.eq_1, capIn.eq_2, capIn.eq_3, capIn.eq_4, capIn.eq_5, isOut, sameLens, putsOf, setD.eq_1, setD.eq_2, dIn.eq_1, dIn.eq_2, toOut, back, ipOf.eq_1, ipOf.eq_2, ipRM, ipGo, AV.cap.eq_1, AV.cap.eq_2, AV.cap.eq_3, AV.cap.eq_4, callRM_nil, callRM_cons, gather_nil32, gather_cons32, indexAddrRM, indexRM, fieldRM, convAV, sliceRM, makeSliceRM, implies_true, imp_false, forall_const, Option.map_none, FV.size, Int.reduceEq, Int.reduceNe, Int.reduceLT, Int.reduceLE, Int.reduceGT, Int.reduceGE, Int.reduceAdd, Int.reduceSub, Int.reduceMul, Int.reduceNeg, Int.reduceToNat, Int.reducePow, Int.reduceTDiv, Int.reduceTMod, Int.reduceBEq, Int.reduceBNe, Nat.reducePow, Nat.reduceGT, reduceIte, decide_eq_true_eq, Int.toNat_zero, Nat.zero_mul, Nat.reduceMul, Nat.reduceAdd, Nat.reduceMod, Nat.reduceSub, Nat.reduceDiv, Nat.reduceEqDiff, Nat.reduceLT, Nat.reduceLeDiff, Nat.reduceBEq, Nat.reduceBNe, reduceCtorEq, if_true, if_false, Option.bind_some, Option.bind_none, Option.filter_some, Option.map_some, Option.some.injEq, List.getElem?_cons_zero, List.getElem?_cons_succ, List.getElem?_nil, List.getElem?_toArray, List.nodup_nil, List.nodup_cons, List.mem_cons, List.not_mem_nil, List.idxOf_cons, cond_true, cond_false, List.filterMap_cons, List.filterMap_nil, List.getD_cons_zero, List.getD_cons_succ, Option.getD_some, not_or, or_false, false_or, List.map_cons, List.length_map, Int.toNat_natCast, List.map_nil, List.all_cons, List.all_nil, List.length_cons, List.length_nil, List.nil_append, List.cons_append, List.append_nil, List.flatMap_cons, List.flatMap_nil, List.set_cons_zero, List.set_cons_succ, Bool.and_true, Bool.true_and, Bool.and_false, Bool.false_and, Bool.not_true, Bool.not_false, Bool.true_eq_false, Bool.false_eq_true, and_true, true_and, and_false, false_and, not_true_eq_false, not_false_eq_true, ne_eq, ite_self, List.contains_cons, List.contains_nil, Bool.or_false, Bool.false_or, Bool.or_true, Bool.true_or, Nat.zero_add, List.size_toArray, beq_self_eq_true, decide_true, decide_false, List.drop_succ_cons, List.drop_zero, List.take_succ_cons, List.take_zero]
      refine ⟨by decide, ?_⟩
      simp [setHas, g0, g1, e1, e2, e3, bitOf, hm]
  · have e1 : ¬ i < 64 := by omega
    have e2 : ¬ i < 128 := by omega
    have e3 : ¬ i < 192 := by omega
    simp only [entry, av_arr4_uint64, vI, vi, vB, g, g1, cf16, ti3, ti4, ti22, ti24, ti25, ti27, Try.t3, Try.t4, Try.t22, Try.t23, Try.t25, Try.t26, boxRM, hasO, isFO, List.any_cons, List.any_nil, storeX, mvS, wc_seq, wc_reg, wc_skip, wc_block, wc_exit, wc_ret, wc_cond, condQ_t, condQ_f, seqK_n, seqK_e, seqK_r, seqN_nil, seqN_cons, blockK_n, blockK_e, blockK_r, regN_nil, regN_cons, opsQ_nil, opsQ_cons, goQ_nil, goQ_cons, wq_ret, wq_fail, wq_ask, wq_call, wq_peek, wq_if, askQ_some, peekQ_some, look_none, look_at, leafAt.eq_1, leafAt.eq_2, get, ins, mapv, upd, dropN, Up.app.eq_1, Up.app.eq_2, Up.app.eq_3, Up.app.eq_4, Up.app.eq_5, Up.app.eq_6, AV.map2.eq_1, AV.map2.eq_2, AV.map2.eq_3, AV.map1.eq_1, AV.map1.eq_2, killr.eq_1, killr.eq_2, killr.eq_3, killp.eq_1, killp.eq_2, killp.eq_3, killb, putV, setLeaf.eq_1, setLeaf.eq_2, mapLeaf.eq_1, mapLeaf.eq_2, Ev.frz.eq_1, Ev.frz.eq_2, AV.toLeaf.eq_1, AV.toLeaf.eq_2, AV.toLeaf.eq_3, AV.leaves.eq_1, AV.leaves.eq_2, AV.isLeaf.eq_1, AV.isLeaf.eq_2, AV.isLeaf.eq_3, AV.ok.eq_1, AV.ok.eq_2, AV.ok1.eq_1, AV.ok1.eq_2, AV.isBad.eq_1, AV.isBad.eq_2, guardRM, opRM, rdO.eq_1, rdO.eq_2, rdO.eq_3, rdO.eq_4, rdL, vw.eq_1, vw.eq_2, vw.eq_3, vwL, vwLeaf.eq_1, vwLeaf.eq_2, fin.eq_1, fin.eq_2, finOwn.eq_1, finOwn.eq_2, finAgg.eq_1, finAgg.eq_2, finNew.eq_1, finNew.eq_2, newB.eq_1, newB.eq_2, moveRM.eq_1, moveRM.eq_2, asgRM.eq_1, asgRM.eq_2, asgRM.eq_3, asgRM.eq_4, loadRM, storeRM, stSrc.eq_1, stSrc.eq_2, stSrc.eq_3, stTmp.eq_1, stTmp.eq_2, stTmp.eq_3, stTmp.eq_4, stTmp.eq_5, stTmp.eq_6, stTmp.eq_7, stTmp.eq_8, stRaw, stAny, stNil, stEl, stL, cpoL, cpo1.eq_1, cpo1.eq_2, cp.eq_1, cp.eq_2, cp1.eq_1, cp1.eq_2, cp1.eq_3, cp1.eq_4, cp1.eq_5, cp1.eq_6, cpL, cps, fieldAddrRM, fieldOff, AV.plus.eq_1, AV.plus.eq_2, AV.plus.eq_3, AV.plus.eq_4, seen.eq_1, seen.eq_2, seen.eq_3, partAV, binAV.eq_1, binAV.eq_2, binAV.eq_3, binAV.eq_4, binAV.eq_5, binAV.eq_6, binAV.eq_7, binAV.eq_8, binAV.eq_9, unAV.eq_1, unAV.eq_2, unAV.eq_3, unAV.eq_4, optRM.eq_1, optRM.eq_2, intOp.eq_1, intOp.eq_2, intOp.eq_3, intOp.eq_4, intOp.eq_5, intOp.eq_6, intOp.eq_7, intOp.eq_8, intOp.eq_9, intOp.eq_10, intOp.eq_11, intOp.eq_12, intOp.eq_13, intOp.eq_14, intOp.eq_15, intOp.eq_16, shiftOp.eq_1, shiftOp.eq_2, shiftOp.eq_3, strOp.eq_1, strOp.eq_2, strOp.eq_3, strOp.eq_4, strOp.eq_5, strOp.eq_6, strOp.eq_7, strOp.eq_8, isShift.eq_1, isShift.eq_2, isShift.eq_3, buildRM, placesL, fillRM, fillL, buildSliceRM, elemsRM, lenRM.eq_1, lenRM.eq_2, lenRM.eq_3, lenSRM.eq_1, lenSRM.eq_2, maxAV.eq_1, maxAV.eq_2, maxGo, appendRM, apBase.eq_1, apBase.eq_2, apBase.eq_3, apGo, boOk.eq_1, boOk.eq_2, boUps.eq_1, boUps.eq_2, frzNe.eq_1, frzNe.eq_2, isSrcD.eq_1, isSrcD.eq_2, isSrcD.eq_3, sliceOpRM, callGo, addNew, builtinRM.eq_1, builtinRM.eq_2, builtinRM.eq_3, builtinRM.eq_4, builtinRM.eq_5, constAV.eq_1, constAV.eq_2, constL, constLeaf.eq_1, constLeaf.eq_2, constLeaf.eq_3, constLeaf.eq_4, constLeaf.eq_5, constLeaf.eq_6, constLeaf.eq_7, constLeaf.eq_8, constLeaf.eq_9, constLeaf.eq_10, isAggD.eq_1, isAggD.eq_2, isAggD.eq_3, askL, ofCells, AV.free, AV.refs.eq_1, AV.refs.eq_2, AV.refs1.eq_1, AV.refs1.eq_2, AV.refs0.eq_1, AV.refs0.eq_2, AV.refs0.eq_3, AV.refs0.eq_4, AV.refs0.eq_5, Acc.meets.eq_1, Acc.meets.eq_2, Acc.meets.eq_3, Acc.meets.eq_4, Acc.meets.eq_5, Acc.meets.eq_6, frzOff.eq_1, frzOff.eq_2, tb, xb, ob, endK_r, endK_n, endU.eq_1, endU.eq_2, outsOf, resRM.eq_1, resRM.eq_2, resRM.eq_3, res1.eq_1, res1.eq_2, res1.eq_3, cellR, cellFits.eq_1, cellFits.eq_2, cellFits.eq_3, rdR.eq_1, rdR.eq_2, rdRs, keepC, FV.one.eq_1, FV.one.eq_2, FV.cells.eq_1, FV.cells.eq_2, FV.cells.eq_3, AV.leafF.eq_1, AV.leafF.eq_2, AV.elem.eq_1, AV.elem.eq_2, fLeaves, asAV.eq_1, asAV.eq_2, opsP_nil, opsP_cons, goU_nil, goU_cons, goP_nil, goP_cons, ups_refs_nil, ups_refs_cons, ups_writes_nil, ups_writes_cons, regP_cons, wp_ret, wp_fail, wp_ask', wp_peek, wp_call, wp_if, askP_some, peekP_some, accOf.eq_1, accOf.eq_2, Up.refs.eq_1, Up.refs.eq_2, Up.refs.eq_3, Up.refs.eq_4, Up.refs.eq_5, Up.refs.eq_6, Up.writes.eq_1, Up.writes.eq_2, Up.writes.eq_3, Up.writes.eq_4, Up.writes.eq_5, Up.writes.eq_6, Option.isNone_none, AV.ptrs.eq_1, AV.ptrs.eq_2, AV.ptrs0.eq_1, AV.ptrs0.eq_2, AV.ptrs0.eq_3, frzAll, frzIn, ren1.eq_1, ren1.eq_2, ren0.eq_1, ren0.eq_2, ren0.eq_3, renC.eq_1, renC.eq_2, ren2.eq_1, ren2.eq_2, ren2.eq_3, shut1.eq_1, shut1.eq_2, shut0.eq_1, shut0.eq_2, shut0.eq_3, shut2.eq_1, shut2.eq_2, capIn.eq_1, capIn.eq_2, capIn.eq_3, capIn.eq_4, capIn.eq_5, isOut, sameLens, putsOf, setD.eq_1, setD.eq_2, dIn.eq_1, dIn.eq_2, toOut, back, ipOf.eq_1, ipOf.eq_2, ipRM, ipGo, AV.cap.eq_1, AV.cap.eq_2, AV.cap.eq_3, AV.cap.eq_4, callRM_nil, callRM_cons, gather_nil32, gather_cons32, indexAddrRM, indexRM, fieldRM, convAV, sliceRM, makeSliceRM, implies_true, imp_false, forall_const, Option.map_none, FV.size, Int.reduceEq, Int.reduceNe, Int.reduceLT, Int.reduceLE, Int.reduceGT, Int.reduceGE, Int.reduceAdd, Int.reduceSub, Int.reduceMul, Int.reduceNeg, Int.reduceToNat, Int.reducePow, Int.reduceTDiv, Int.reduceTMod, Int.reduceBEq, Int.reduceBNe, Nat.reducePow, Nat.reduceGT, reduceIte, decide_eq_true_eq, Int.toNat_zero, Nat.zero_mul, Nat.reduceMul, Nat.reduceAdd, Nat.reduceMod, Nat.reduceSub, Nat.reduceDiv, Nat.reduceEqDiff, Nat.reduceLT, Nat.reduceLeDiff, Nat.reduceBEq, Nat.reduceBNe, reduceCtorEq, if_true, if_false, Option.bind_some, Option.bind_none, Option.filter_some, Option.map_some, Option.some.injEq, List.getElem?_cons_zero, List.getElem?_cons_succ, List.getElem?_nil, List.getElem?_toArray, List.nodup_nil, List.nodup_cons, List.mem_cons, List.not_mem_nil, List.idxOf_cons, cond_true, cond_false, List.filterMap_cons, List.filterMap_nil, List.getD_cons_zero, List.getD_cons_succ, Option.getD_some, not_or, or_false, false_or, List.map_cons, List.length_map, Int.toNat_natCast, List.map_nil, List.all_cons, List.all_nil, List.length_cons, List.length_nil, List.nil_append, List.cons_append, List.append_nil, List.flatMap_cons, List.flatMap_nil, List.set_cons_zero, List.set_cons_succ, Bool.and_true, Bool.true_and, Bool.and_false, Bool.false_and, Bool.not_true, Bool.not_false, Bool.true_eq_false, Bool.false_eq_true, and_true, true_and, and_false, false_and, not_true_eq_false, not_false_eq_true, ne_eq, ite_self, List.contains_cons, List.contains_nil, Bool.or_false, Bool.false_or, Bool.or_true, Bool.true_or, Nat.zero_add, List.size_toArray, beq_self_eq_true, decide_true, decide_false, List.drop_succ_cons, List.drop_zero, List.take_succ_cons, List.take_zero]
    simp [setHas, g0, g1, e1, e2, e3]
end Go.Ev

set_option linter.unusedSimpArgs false
set_option linter.unusedVariables false
namespace Go.Ev
open Go Go.Proofs
theorem w64_id {x : Int} (h0 : -9223372036854775808 ≤ x) (h1 : x ≤ 9223372036854775807) : w64 x = x := wrap64 h0 (by omega)
def setTo (p : Int → Bool) : Nat → arr4_uint64
  | 0 => ⟨0, 0, 0, 0⟩
  | n + 1 => if p n then setAdd (setTo p n) n else setTo p n
def mkSet (p : Int → Bool) : arr4_uint64 := setTo p 256
theorem setOf_ok (lo hi : Int) : C_heckleref01_Of lo hi (mkSet fun i => decide (i ≥ lo) && decide (i ≤ hi)) := by
  refine W_heckleref01_Of _ _ _ ⟨fun e0 e1 e2 e3 b => ∃ n : Nat, n ≤ 256 ∧ b = n ∧ arr4_uint64.mk e0 e1 e2 e3 = setTo (fun i => decide (i ≥ lo) && decide (i ≤ hi)) n, fun _ _ _ _ b => (256 - b).toNat, ⟨0, by omega, rfl, rfl⟩, ?_⟩
  rintro e0 e1 e2 e3 b ⟨n, hn, rfl, hs⟩
  refine ⟨fun hb => ?_, fun hb => ?_⟩
  · have hb : n < 256 := by have := of_decide_eq_true hb; omega
    have hw : w64 ((n : Int) + 1) = ((n + 1 : Nat) : Int) := w64_id (by omega) (by omega)
    refine ⟨fun a b c d => arr4_uint64.mk a b c d = setTo (fun i => decide (i ≥ lo) && decide (i ≤ hi)) (n + 1), fun a b c d h => ⟨⟨n + 1, by omega, hw, h⟩, by rw [hw]; show (256 - _ : Int).toNat < (256 - _ : Int).toNat; omega⟩, fun ht => ⟨_, add_ok _ _ (by omega) (by omega), ?_⟩, fun ht => ?_⟩
    · simp only [setTo, ht, if_true, hs]
    · simp only [setTo, ht, hs]; rfl
  · have hb : n = 256 := by have := of_decide_eq_false hb; omega
    subst hb
    exact hs.symm
theorem setNot_ok (s : arr4_uint64) : C_heckleref01_Not s (mkSet fun i => !setHas s i) := by
  refine W_heckleref01_Not _ _ ⟨fun e0 e1 e2 e3 b => ∃ n : Nat, n ≤ 256 ∧ b = n ∧ arr4_uint64.mk e0 e1 e2 e3 = setTo (fun i => !setHas s i) n, fun _ _ _ _ b => (256 - b).toNat, ⟨0, by omega, rfl, rfl⟩, ?_⟩
  rintro e0 e1 e2 e3 b ⟨n, hn, rfl, hs⟩
  refine ⟨fun hb => ?_, fun hb => ?_⟩
  · have hb : n < 256 := by have := of_decide_eq_true hb; omega
    have hw : w64 ((n : Int) + 1) = ((n + 1 : Nat) : Int) := w64_id (by omega) (by omega)
    refine ⟨fun a b c d => arr4_uint64.mk a b c d = setTo (fun i => !setHas s i) (n + 1), fun a b c d h => ⟨⟨n + 1, by omega, hw, h⟩, by rw [hw]; show (256 - _ : Int).toNat < (256 - _ : Int).toNat; omega⟩, _, has_ok _ _, fun ht => ⟨_, add_ok _ _ (by omega) (by omega), ?_⟩, fun ht => ?_⟩
    · simp only [setTo, ht, if_true, hs]
    · simp only [setTo, ht, hs]; rfl
  · have hb : n = 256 := by have := of_decide_eq_false hb; omega
    subst hb
    exact hs.symm
theorem char9_ok (b : Int) : C_hecklelaw09_char b ⟨2, mkSet fun i => decide (i ≥ b) && decide (i ≤ b), 0, 0, []⟩ := by
  exact W_hecklelaw09_char _ _ ⟨_, setOf_ok _ _, rfl⟩
theorem char3_ok (b : Int) : C_hecklelaw03_char b ⟨2, mkSet fun i => decide (i ≥ b) && decide (i ≤ b), 0, 0, []⟩ := by
  exact W_hecklelaw03_char _ _ ⟨_, setOf_ok _ _, rfl⟩
end Go.Ev

set_option linter.unusedSimpArgs false
set_option linter.unusedVariables false
namespace Go.Ev.Pl
open Go Go.Ev
abbrev SS (l : List Int) : Prop := l.Pairwise (· < ·)
theorem ss_ext : ∀ {a b : List Int}, SS a → SS b → (∀ x, x ∈ a ↔ x ∈ b) → a = b
  | [], [], _, _, _ => rfl
  | [], y :: b, _, _, h => by have := (h y).2 (List.mem_cons_self ..); simp at this
  | x :: a, [], _, _, h => by have := (h x).1 (List.mem_cons_self ..); simp at this
  | x :: a, y :: b, ha, hb, h => by
    have ha := List.pairwise_cons.1 ha
    have hb := List.pairwise_cons.1 hb
    have hxy : x = y := by
      rcases List.mem_cons.1 ((h x).1 (List.mem_cons_self ..)) with e | e
      · exact e
      · rcases List.mem_cons.1 ((h y).2 (List.mem_cons_self ..)) with e' | e'
        · exact e'.symm
        · have := hb.1 x e; have := ha.1 y e'; omega
    subst hxy
    rw [ss_ext ha.2 hb.2]
    intro z
    constructor
    · intro hz
      rcases List.mem_cons.1 ((h z).1 (List.mem_cons_of_mem _ hz)) with e | e
      · subst e; have := ha.1 z hz; omega
      · exact e
    · intro hz
      rcases List.mem_cons.1 ((h z).2 (List.mem_cons_of_mem _ hz)) with e | e
      · subst e; have := hb.1 z hz; omega
      · exact e
def join (a b : List Int) : List Int := compactInts (sortInts (a ++ b))
theorem upTo_spec (zs : List Int) (hs : zs.Pairwise (· ≤ ·)) : ∀ m, m ≤ zs.length → SS (Lib.compactUpTo zs.toArray m) ∧ ∀ x, x ∈ Lib.compactUpTo zs.toArray m ↔ x ∈ zs.take m := by
  intro m
  induction m with
  | zero => intro _; simp [Lib.compactUpTo]
  | succ m ih =>
    intro hm
    obtain ⟨h1, h2⟩ := ih (by omega)
    have hg : zs.toArray[m]! = zs[m]'(by omega) := by simp [getElem!_pos, show m < zs.length by omega]
    have ht : ∀ x, x ∈ zs.take (m + 1) ↔ x ∈ zs.take m ∨ x = zs[m]'(by omega) := by
      intro x; rw [List.take_succ_eq_append_getElem (by omega), List.mem_append, List.mem_singleton]
    have hle : ∀ x ∈ zs.take m, x ≤ zs[m]'(by omega) := by
      intro x hx
      obtain ⟨i, hi, rfl⟩ := List.mem_iff_getElem.1 hx
      simp only [List.length_take] at hi
      rw [List.getElem_take]
      exact List.pairwise_iff_getElem.1 hs i m (by omega) (by omega) (by omega)
    rw [Lib.compactUpTo_succ, hg]
    by_cases hk : Lib.keeps zs.toArray m = true
    · rw [if_pos hk]
      refine ⟨List.pairwise_append.2 ⟨h1, by simp, fun x hx y hy => ?_⟩, fun x => ?_⟩
      · simp at hy; subst hy
        have hx := (h2 x).1 hx
        have h3 := hle x hx
        simp only [Lib.keeps, decide_eq_true_eq] at hk
        rcases hk with rfl | hk
        · simp at hx
        · have hm0 : m ≠ 0 := by rintro rfl; simp at hx
          have hg' : zs.toArray[m - 1]! = zs[m - 1]'(by omega) := by simp [getElem!_pos, show m - 1 < zs.length by omega]
          rw [hg, hg'] at hk
          obtain ⟨i, hi, rfl⟩ := List.mem_iff_getElem.1 hx
          simp only [List.length_take] at hi
          rw [List.getElem_take] at h3 ⊢
          have h5 : zs[i]'(by omega) ≤ zs[m - 1]'(by omega) := by
            by_cases e : i = m - 1
            · subst e; exact Int.le_refl _
            · exact List.pairwise_iff_getElem.1 hs i (m - 1) (by omega) (by omega) (by omega)
          have h6 : zs[m - 1]'(by omega) ≤ zs[m]'(by omega) := List.pairwise_iff_getElem.1 hs (m - 1) m (by omega) (by omega) (by omega)
          have : zs[m - 1]'(by omega) ≠ zs[m]'(by omega) := fun e => hk e.symm
          omega
      · rw [ht]; simp [h2]
    · rw [if_neg hk]
      refine ⟨by simpa using h1, fun x => ?_⟩
      rw [List.append_nil, ht, h2]
      constructor
      · exact .inl
      · rintro (h | rfl)
        · exact h
        · simp only [Lib.keeps, decide_eq_true_eq, not_or, Decidable.not_not] at hk
          obtain ⟨hm0, hk⟩ := hk
          have hg' : zs.toArray[m - 1]! = zs[m - 1]'(by omega) := by simp [getElem!_pos, show m - 1 < zs.length by omega]
          rw [hg, hg'] at hk
          rw [hk]
          refine List.mem_iff_getElem.2 ⟨m - 1, by simp; omega, by rw [List.getElem_take]⟩
theorem sort_spec (l : List Int) : (sortInts l).Pairwise (· ≤ ·) ∧ ∀ x, x ∈ sortInts l ↔ x ∈ l := by
  refine ⟨?_, fun x => by simp [sortInts]⟩
  have := List.pairwise_mergeSort (le := fun x y : Int => decide (x ≤ y)) (fun a b c h1 h2 => by simp at *; omega) (fun a b => by simp; omega) l
  exact this.imp (by simp)
theorem join_spec (a b : List Int) : SS (join a b) ∧ ∀ x, x ∈ join a b ↔ x ∈ a ∨ x ∈ b := by
  obtain ⟨h1, h2⟩ := sort_spec (a ++ b)
  obtain ⟨h3, h4⟩ := upTo_spec _ h1 _ (Nat.le_refl _)
  refine ⟨h3, fun x => ?_⟩
  show x ∈ Lib.compactUpTo _ _ ↔ _
  rw [h4, List.take_length, h2, List.mem_append]
theorem sort_len (l : List Int) : (sortInts l).length = l.length := by simp [sortInts]
def addL : List Int → List Int → List Int
  | [], b => b
  | a, [] => a
  | x :: a, y :: b => if x < y then x :: addL a (y :: b) else if y < x then y :: addL (x :: a) b else x :: addL a b
  termination_by a b => a.length + b.length
theorem addL_mem : ∀ (a b : List Int) (x : Int), x ∈ addL a b ↔ x ∈ a ∨ x ∈ b
  | [], b, z => by simp [addL]
  | x :: a, [], z => by simp [addL]
  | x :: a, y :: b, z => by
    rw [addL]
    split
    · rw [List.mem_cons, addL_mem a (y :: b)]; grind
    · split
      · rw [List.mem_cons, addL_mem (x :: a) b]; grind
      · rw [List.mem_cons, addL_mem a b]; grind
  termination_by a b => a.length + b.length
theorem addL_ss : ∀ {a b : List Int}, SS a → SS b → SS (addL a b)
  | [], b, _, hb => by rw [addL]; exact hb
  | x :: a, [], ha, _ => by rw [addL]; exact ha; simp
  | x :: a, y :: b, ha, hb => by
    have ha' := List.pairwise_cons.1 ha
    have hb' := List.pairwise_cons.1 hb
    rw [addL]
    split
    · refine List.pairwise_cons.2 ⟨fun z hz => ?_, addL_ss ha'.2 hb⟩
      rw [addL_mem] at hz; grind
    · split
      · refine List.pairwise_cons.2 ⟨fun z hz => ?_, addL_ss ha hb'.2⟩
        rw [addL_mem] at hz; grind
      · refine List.pairwise_cons.2 ⟨fun z hz => ?_, addL_ss ha'.2 hb'.2⟩
        rw [addL_mem] at hz; grind
  termination_by a b => a.length + b.length
theorem join_eq {a b : List Int} (ha : SS a) (hb : SS b) : join a b = addL a b :=
  ss_ext (join_spec a b).1 (addL_ss ha hb) fun x => by rw [(join_spec a b).2, addL_mem]
end Go.Ev.Pl
