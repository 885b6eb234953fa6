import Derived.Test.YtkeiahjelpjegaaA04
import Derived.Lib.RowBridge
set_option linter.unusedSimpArgs false
set_option linter.unusedVariables false
namespace Go.Ev
open Go Go.Proofs
set_option maxRecDepth 8000
set_option maxHeartbeats 1000000 in
theorem W_auto_Right (a:api_Auto) (res:Bool)
 (h:(((decide ((↑(List.length (api_Auto.Sets a)):Int) > (600:Int)) || ((↑(List.length (List.map enc_i64 (api_Auto.Owner a))):Int) != (↑(List.length (api_Auto.Sets a)):Int) || ((↑(List.length (List.map encs_i64 (api_Auto.Follow a))):Int) != (↑(List.length (api_Auto.Sets a)):Int) || ((↑(List.length (List.map enc_bool (api_Auto.Ends a))):Int) != (↑(List.length (api_Auto.Sets a)):Int) || decide ((↑(List.length (api_Auto.Starts a)):Int) > (16:Int))))))=true→(res=false))∧((decide ((↑(List.length (api_Auto.Sets a)):Int) > (600:Int)) || ((↑(List.length (List.map enc_i64 (api_Auto.Owner a))):Int) != (↑(List.length (api_Auto.Sets a)):Int) || ((↑(List.length (List.map encs_i64 (api_Auto.Follow a))):Int) != (↑(List.length (api_Auto.Sets a)):Int) || ((↑(List.length (List.map enc_bool (api_Auto.Ends a))):Int) != (↑(List.length (api_Auto.Sets a)):Int) || decide ((↑(List.length (api_Auto.Starts a)):Int) > (16:Int))))))=false→(∃ r0:Bool,C_slices_ContainsFunc__int_int_at_auto_Right_L1 (api_Auto.Owner a) r0∧(((r0)=true→(res=false))∧((r0)=false→(∃ r0_1:Bool,C_slices_Contains__api_Set_api_Set (api_Auto.Sets a) ({ e0:=(0:Int),e1:=(0:Int),e2:=(0:Int),e3:=(0:Int) }) r0_1∧(((r0_1)=true→(res=false))∧((r0_1)=false→(C_auto_lists a∧((List.length (api_Auto.Follow a) < 1099511627776∧List.length (api_Auto.Starts a) < 1099511627776)∧∃ (Inv12:Nat→Prop) (Stp14:Prop),Inv12 0∧(∀ (i:Nat) (y:(List Int)),i < (List.length (api_Auto.Follow a)+List.length (api_Auto.Starts a))→y=List.getD (api_Auto.Follow a++api_Auto.Starts a) i []→Inv12 i→(∃ r0_3:Bool,C_auto_places y ((↑(List.length (api_Auto.Sets a)):Int)) r0_3∧(((!r0_3)=true→Stp14)∧((!r0_3)=false→Inv12 (i+1)))))∧(Inv12 ((List.length (api_Auto.Follow a)+List.length (api_Auto.Starts a)))→(res=true))∧(Stp14→(res=false))))))))))))):C_auto_Right a res:=by
 unfold C_auto_Right
 have kk:=cfOk [] 55
 refine fD (x:=bodyOf Try.f21) kk Try.func21 ?_
 refine wkS [1] [(1,av_api_Auto a)] (by kernel_rfl) ?_
 refine sD kk [] [1] [(4,.ptr 8 0),(7,.ptr 14 0),(8,av_api_Auto a),(14,vB false)] obN ?_
 refine sDE kk [] [] [(10,.ptr 20 0),(20,vi ((↑(List.length (List.map enc_arr4_uint64 (api_Auto.Sets a))):Int)))] [(10,.ptr 20 0),(20,vi ((↑(List.length (api_Auto.Sets a)):Int)))] obN ?_
 refine sD kk [] [] [(13,.clo 44 [])] obN ?_
 refine qD ?_
 refine sM [] [(112,vB (decide ((↑(List.length (api_Auto.Sets a)):Int) > (600:Int)) || ((↑(List.length (List.map enc_i64 (api_Auto.Owner a))):Int) != (↑(List.length (api_Auto.Sets a)):Int) || ((↑(List.length (List.map encs_i64 (api_Auto.Follow a))):Int) != (↑(List.length (api_Auto.Sets a)):Int) || ((↑(List.length (List.map enc_bool (api_Auto.Ends a))):Int) != (↑(List.length (api_Auto.Sets a)):Int) || decide ((↑(List.length (api_Auto.Starts a)):Int) > (16:Int)))))))] ?_ (fun hk0=>?_)
 ·refine cD (t:=37) (b:=decide ((↑(List.length (api_Auto.Sets a)):Int) > (600:Int)) || ((↑(List.length (List.map enc_i64 (api_Auto.Owner a))):Int) != (↑(List.length (api_Auto.Sets a)):Int) || ((↑(List.length (List.map encs_i64 (api_Auto.Follow a))):Int) != (↑(List.length (api_Auto.Sets a)):Int) || ((↑(List.length (List.map enc_bool (api_Auto.Ends a))):Int) != (↑(List.length (api_Auto.Sets a)):Int) || decide ((↑(List.length (api_Auto.Starts a)):Int) > (16:Int)))))) (fun hb4=>?_) (fun hb4=>?_)
  ·have h:=h.1 hb4
   refine sD kk [] [4,8,10,13,20,112] [] obN ?_
   refine tD ?_
   obtain he0:=h
   subst res
   exact (endD [] (vB false) []).1
  ·have h:=h.2 hb4
   refine Sem.skip' (by kernel_rfl) Wk.refl ?_
   show Sem _ _ _ _ _
   refine wkD [112] ?_
   refine qD ?_
   obtain ⟨r0,hc5,h⟩:=h
   rcases Bool.eq_false_or_eq_true (r0) with hb6 | hb6
   ·have h:=h.1 hb6
    refine sD kk [.c (vB r0) [],bF,bF,bF,bF,bT] [13] [(142,vB true)] (obC hc5 (obC (gff hb6) (obC (gff hb6) (obC (gff hb6) (obC (gff hb6) (obC hb6 obN)))))) ?_
    refine cD (t:=47) (b:=true) (fun hb17=>?_) (fun hb17=>?_)
    ·refine sD kk [] [4,8,10,20,142] [] obN ?_
     refine tD ?_
     obtain he0:=h
     subst res
     exact (endD [] (vB false) []).1
    ·cases hb17
   ·have h:=h.2 hb6
    obtain ⟨r0_1,hc7,h⟩:=h
    refine sD kk [.c (vB r0) [],bT,bT,bT,bT,.c (vB r0_1) [],bF] [13] [(142,vB r0_1)] (obC hc5 (obC (gft hb6) (obC (gft hb6) (obC (gft hb6) (obC (gft hb6) (obC hc7 (obC hb6 obN))))))) ?_
    refine cD (t:=47) (b:=r0_1) (fun hb8=>?_) (fun hb8=>?_)
    ·have h:=h.1 hb8
     refine sD kk [] [4,8,10,20,142] [] obN ?_
     refine tD ?_
     obtain he0:=h
     subst res
     exact (endD [] (vB false) []).1
    ·have h:=h.2 hb8
     refine Sem.skip' (by kernel_rfl) Wk.refl ?_
     show Sem _ _ _ _ _
     refine wkD [142] ?_
     refine qD ?_
     obtain ⟨hc9,h⟩:=h
     refine sD kk [.c (.clo 78 [.fp (fv_api_Auto a) 0]) []] [4,8] [(148,.clo 78 [.fp (fv_api_Auto a) 0])] (obC hc9 obN) ?_
     refine bD (id:=0) ?_
     obtain ⟨hl13,Inv12,Stp14,h0Inv12,hRInv12,hDInv12,hSInv12⟩:=h
     refine Sem.rangeG (σ:=Unit) (c:=(cf [] 55)) (by rfl) (tg:=49) (ps:=[50]) (by kernel_rfl) (by kernel_rfl) (lists_it2 a hl13) (fun i _=>⟨rfl,fun y hy=>⟨1,by rw [List.mem_singleton.1 hy];rfl⟩⟩) [(7,.ptr 14 0),(10,.ptr 20 0)] [14,20] (fun (_:Unit)=>([vB false,vi ((↑(List.length (api_Auto.Sets a)):Int))]:List AV)) (fun (i:Nat) (q:Unit)=>Inv12 i ) (fun (q:Unit)=>Stp14 ) () ((wkE (G':=[(7,.ptr 14 0),(10,.ptr 20 0),(14,vB false),(20,vi ((↑(List.length (api_Auto.Sets a)):Int)))]) [] [7,10,14,20] (by kernel_rfl)).trans (Wk.pick [7,10,14,20] (by kernel_rfl))) h0Inv12 (by rfl) (fun q=>by rfl) (by rfl) (by decide) (fun q q'=>by rfl) (by decide) (by decide) ?_ ?_ ?_
     ·rintro i _ hi hinv
      obtain ⟨y,hy⟩:∃ y:(List Int),y=List.getD (api_Auto.Follow a++api_Auto.Starts a) i []:=⟨_,rfl⟩
      have h:=hRInv12 i y hi hy hinv
      refine Sem.weak (Wk.pick [3,6,7,10,151] (G':=[(3,vB false),(6,vi ((↑(List.length (api_Auto.Sets a)):Int))),(7,.ptr 3 0),(10,.ptr 6 0),(151,vL enc_i64 y)]) (by rw [hy];kernel_rfl)) ?_
      show Sem _ (cfr [] 55) (sq1 (sq1 (sq2 (sq1 (sq2 (sq2 (sq2 (sq2 (sq2 (bodyOf Try.f21)))))))))) _ _
      have kr:=cfrOk [] 55
      refine rD kr [] [151] [(16,vL enc_i64 y)] obN ?_
      refine ⟨rfl,?_⟩
      show Sem _ (cfr [] 55) (sq2 (sq1 (sq2 (sq1 (sq2 (sq2 (sq2 (sq2 (sq2 (bodyOf Try.f21)))))))))) _ _
      refine bD (id:=1) ?_
      obtain ⟨r0_3,hc15,h⟩:=h
      refine sD kr [.c (vB r0_3) []] [10,16] [(163,vB (!r0_3))] (obC hc15 obN) ?_
      refine cD (t:=54) (b:=!r0_3) (fun hb16=>?_) (fun hb16=>?_)
      ·have h:=h.1 hb16
       refine sD kr [] [163] [] obN ?_
       refine tD ?_
       exact rndSr (wkE [] [3,6] (by rfl)) (by kernel_rfl) ⟨(),rfl,h⟩
      ·have h:=h.2 hb16
       refine Sem.skip' (by kernel_rfl) Wk.refl ?_
       exact rndSn (wkE [] [3,6] (by rfl)) (by kernel_rfl) ⟨(),rfl,h⟩
     ·rintro _ hinv
      have h:=hDInv12 hinv
      refine ⟨[(7,.ptr 14 0),(14,vB false)],Wk.pick [7,14] (by kernel_rfl),?_⟩
      show Sem _ _ _ _ _
      refine sD kk [] [] [(14,vB true)] obN ?_
      refine tD ?_
      obtain he0:=h
      subst res
      exact (endD [] (vB true) []).1
     ·rintro _ hinv
      have h:=hSInv12 hinv
      refine ⟨[(7,.ptr 14 0),(14,vB false)],Wk.pick [7,14] (by kernel_rfl),?_⟩
      obtain he0:=h
      subst res
      exact (endD [] (vB false) []).1
 ·rcases Bool.eq_false_or_eq_true (decide ((↑(List.length (api_Auto.Sets a)):Int) > (600:Int))) with hb0 | hb0
  ·refine sD kk [bF,bF,bF,bF,bF,bT,bF,bF,bF,bF,bF,bT,bF,bF,bF,bF,bF,bT,bF,bF,bF,bF,bT] [] [(112,vB true)] (obC (gff hb0) (obC (gff hb0) (obC (gff hb0) (obC (gff hb0) (obC (gff hb0) (obC hb0 (oF (oF (oF (oF (oF (oT (oF (oF (oF (oF (oF (oT (oF (oF (oF (oF (oT obN))))))))))))))))))))))) ?_
   exact Sem.cast (by try rw [hb0];kernel_rfl) hk0
  ·rcases Bool.eq_false_or_eq_true ((↑(List.length (List.map enc_i64 (api_Auto.Owner a))):Int) != (↑(List.length (api_Auto.Sets a)):Int)) with hb1 | hb1
   ·refine sD kk [bT,bT,bT,bT,bT,bF,bF,bF,bF,bF,bF,bT,bF,bF,bF,bF,bF,bT,bF,bF,bF,bF,bT] [] [(112,vB true)] (obC (gft hb0) (obC (gft hb0) (obC (gft hb0) (obC (gft hb0) (obC (gft hb0) (obC hb0 (obC (gff hb1) (obC (gff hb1) (obC (gff hb1) (obC (gff hb1) (obC (gff hb1) (obC hb1 (oF (oF (oF (oF (oF (oT (oF (oF (oF (oF (oT obN))))))))))))))))))))))) ?_
    exact Sem.cast (by try rw [hb0];try rw [hb1];kernel_rfl) hk0
   ·rcases Bool.eq_false_or_eq_true ((↑(List.length (List.map encs_i64 (api_Auto.Follow a))):Int) != (↑(List.length (api_Auto.Sets a)):Int)) with hb2 | hb2
    ·refine sD kk [bT,bT,bT,bT,bT,bF,bT,bT,bT,bT,bT,bF,bF,bF,bF,bF,bF,bT,bF,bF,bF,bF,bT] [] [(112,vB true)] (obC (gft hb0) (obC (gft hb0) (obC (gft hb0) (obC (gft hb0) (obC (gft hb0) (obC hb0 (obC (gft hb1) (obC (gft hb1) (obC (gft hb1) (obC (gft hb1) (obC (gft hb1) (obC hb1 (obC (gff hb2) (obC (gff hb2) (obC (gff hb2) (obC (gff hb2) (obC (gff hb2) (obC hb2 (oF (oF (oF (oF (oT obN))))))))))))))))))))))) ?_
     exact Sem.cast (by try rw [hb0];try rw [hb1];try rw [hb2];kernel_rfl) hk0
    ·rcases Bool.eq_false_or_eq_true ((↑(List.length (List.map enc_bool (api_Auto.Ends a))):Int) != (↑(List.length (api_Auto.Sets a)):Int)) with hb3 | hb3
     ·refine sD kk [bT,bT,bT,bT,bT,bF,bT,bT,bT,bT,bT,bF,bT,bT,bT,bT,bT,bF,bF,bF,bF,bF,bT] [] [(112,vB true)] (obC (gft hb0) (obC (gft hb0) (obC (gft hb0) (obC (gft hb0) (obC (gft hb0) (obC hb0 (obC (gft hb1) (obC (gft hb1) (obC (gft hb1) (obC (gft hb1) (obC (gft hb1) (obC hb1 (obC (gft hb2) (obC (gft hb2) (obC (gft hb2) (obC (gft hb2) (obC (gft hb2) (obC hb2 (obC (gff hb3) (obC (gff hb3) (obC (gff hb3) (obC (gff hb3) (obC hb3 obN))))))))))))))))))))))) ?_
      exact Sem.cast (by try rw [hb0];try rw [hb1];try rw [hb2];try rw [hb3];kernel_rfl) hk0
     ·refine sDE kk [bT,bT,bT,bT,bT,bF,bT,bT,bT,bT,bT,bF,bT,bT,bT,bT,bT,bF,bT,bT,bT,bT,bF] [] [(112,vB (decide ((↑(List.length (List.map encs_i64 (api_Auto.Starts a))):Int) > (16:Int))))] [(112,vB (decide ((↑(List.length (api_Auto.Starts a)):Int) > (16:Int))))] (obC (gft hb0) (obC (gft hb0) (obC (gft hb0) (obC (gft hb0) (obC (gft hb0) (obC hb0 (obC (gft hb1) (obC (gft hb1) (obC (gft hb1) (obC (gft hb1) (obC (gft hb1) (obC hb1 (obC (gft hb2) (obC (gft hb2) (obC (gft hb2) (obC (gft hb2) (obC (gft hb2) (obC hb2 (obC (gft hb3) (obC (gft hb3) (obC (gft hb3) (obC (gft hb3) (obC hb3 obN))))))))))))))))))))))) ?_
      exact Sem.cast (by try rw [hb0];try rw [hb1];try rw [hb2];try rw [hb3];kernel_rfl) hk0
set_option maxHeartbeats 1000000 in
theorem W_heckleref10_Right (a:api_Auto) (res:Bool)
 (h:(((decide ((↑(List.length (api_Auto.Sets a)):Int) > (600:Int)) || ((↑(List.length (List.map enc_i64 (api_Auto.Owner a))):Int) != (↑(List.length (api_Auto.Sets a)):Int) || ((↑(List.length (List.map encs_i64 (api_Auto.Follow a))):Int) != (↑(List.length (api_Auto.Sets a)):Int) || ((↑(List.length (List.map enc_bool (api_Auto.Ends a))):Int) != (↑(List.length (api_Auto.Sets a)):Int) || decide ((↑(List.length (api_Auto.Starts a)):Int) > (16:Int))))))=true→(res=false))∧((decide ((↑(List.length (api_Auto.Sets a)):Int) > (600:Int)) || ((↑(List.length (List.map enc_i64 (api_Auto.Owner a))):Int) != (↑(List.length (api_Auto.Sets a)):Int) || ((↑(List.length (List.map encs_i64 (api_Auto.Follow a))):Int) != (↑(List.length (api_Auto.Sets a)):Int) || ((↑(List.length (List.map enc_bool (api_Auto.Ends a))):Int) != (↑(List.length (api_Auto.Sets a)):Int) || decide ((↑(List.length (api_Auto.Starts a)):Int) > (16:Int))))))=false→(∃ (Inv22:Int→Prop) (mu23:Int→Nat),Inv22 0∧(∀ (i:Int),Inv22 i→(((decide (i < (↑(List.length (api_Auto.Sets a)):Int)))=true→((0:Int)≤i)∧i < ↑(List.length (api_Auto.Owner a))∧((decide (gd (api_Auto.Owner a) i < (0:Int)))=false→((0:Int)≤i))∧((decide (gd (api_Auto.Owner a) i < (0:Int)))=false→i < ↑(List.length (api_Auto.Owner a)))∧((decide (gd (api_Auto.Owner a) i < (0:Int)))=false→((decide (gd (api_Auto.Owner a) i≥(40:Int)))=false→((0:Int)≤i)))∧((decide (gd (api_Auto.Owner a) i < (0:Int)))=false→((decide (gd (api_Auto.Owner a) i≥(40:Int)))=false→i < ↑(List.length (api_Auto.Sets a))))∧(((decide (gd (api_Auto.Owner a) i < (0:Int)) || (decide (gd (api_Auto.Owner a) i≥(40:Int)) || arr4_uint64.e0 (gd (api_Auto.Sets a) i) == 0 && (arr4_uint64.e1 (gd (api_Auto.Sets a) i) == 0 && (arr4_uint64.e2 (gd (api_Auto.Sets a) i) == 0 && (arr4_uint64.e3 (gd (api_Auto.Sets a) i) == 0 && true)))))=true→(res=false))∧((decide (gd (api_Auto.Owner a) i < (0:Int)) || (decide (gd (api_Auto.Owner a) i≥(40:Int)) || arr4_uint64.e0 (gd (api_Auto.Sets a) i) == 0 && (arr4_uint64.e1 (gd (api_Auto.Sets a) i) == 0 && (arr4_uint64.e2 (gd (api_Auto.Sets a) i) == 0 && (arr4_uint64.e3 (gd (api_Auto.Sets a) i) == 0 && true)))))=false→(Inv22 (w64 (i+1))∧mu23 (w64 (i+1)) < mu23 i))))∧((decide (i < (↑(List.length (api_Auto.Sets a)):Int)))=false→(∃ (Inv124:Int→Prop) (mu125:Int→Nat),Inv124 0∧(∀ (i_1:Int),Inv124 i_1→(((decide (i_1 < w64 ((↑(List.length (api_Auto.Sets a)):Int)+(↑(List.length (api_Auto.Starts a)):Int))))=true→(∃ J132:List Int→Prop,(∀ (l_2:List Int),J132 l_2→(∃ (Inv152:Int→Prop) (mu153:Int→Nat),Inv152 0∧(∀ (k_2:Int),Inv152 k_2→(((decide (k_2 < (↑(List.length l_2):Int)))=true→((0:Int)≤k_2)∧k_2 < ↑(List.length l_2)∧((decide (gd l_2 k_2 < (0:Int)))=false→((0:Int)≤k_2))∧((decide (gd l_2 k_2 < (0:Int)))=false→k_2 < ↑(List.length l_2))∧((decide (gd l_2 k_2 < (0:Int)))=false→((decide (gd l_2 k_2≥(↑(List.length (api_Auto.Sets a)):Int)))=false→((decide (k_2 > (0:Int)))=true→((0:Int)≤k_2))))∧((decide (gd l_2 k_2 < (0:Int)))=false→((decide (gd l_2 k_2≥(↑(List.length (api_Auto.Sets a)):Int)))=false→((decide (k_2 > (0:Int)))=true→k_2 < ↑(List.length l_2))))∧((decide (gd l_2 k_2 < (0:Int)))=false→((decide (gd l_2 k_2≥(↑(List.length (api_Auto.Sets a)):Int)))=false→((decide (k_2 > (0:Int)))=true→((0:Int)≤w64 (k_2 - 1)))))∧((decide (gd l_2 k_2 < (0:Int)))=false→((decide (gd l_2 k_2≥(↑(List.length (api_Auto.Sets a)):Int)))=false→((decide (k_2 > (0:Int)))=true→w64 (k_2 - 1) < ↑(List.length l_2))))∧(((decide (gd l_2 k_2 < (0:Int)) || (decide (gd l_2 k_2≥(↑(List.length (api_Auto.Sets a)):Int)) || decide (k_2 > (0:Int)) && decide (gd l_2 k_2≤gd l_2 (w64 (k_2 - 1)))))=true→(res=false))∧((decide (gd l_2 k_2 < (0:Int)) || (decide (gd l_2 k_2≥(↑(List.length (api_Auto.Sets a)):Int)) || decide (k_2 > (0:Int)) && decide (gd l_2 k_2≤gd l_2 (w64 (k_2 - 1)))))=false→(Inv152 (w64 (k_2+1))∧mu153 (w64 (k_2+1)) < mu153 k_2))))∧((decide (k_2 < (↑(List.length l_2):Int)))=false→(Inv124 (w64 (i_1+1))∧mu125 (w64 (i_1+1)) < mu125 i_1))))))∧(((decide (i_1 < (↑(List.length (api_Auto.Sets a)):Int)))=true→((0:Int)≤i_1)∧i_1 < ↑(List.length (api_Auto.Follow a))∧J132 (gd (api_Auto.Follow a) i_1))∧((decide (i_1 < (↑(List.length (api_Auto.Sets a)):Int)))=false→((0:Int)≤w64 (i_1 - (↑(List.length (api_Auto.Sets a)):Int)))∧w64 (i_1 - (↑(List.length (api_Auto.Sets a)):Int)) < ↑(List.length (api_Auto.Starts a))∧J132 (gd (api_Auto.Starts a) (w64 (i_1 - (↑(List.length (api_Auto.Sets a)):Int))))))))∧((decide (i_1 < w64 ((↑(List.length (api_Auto.Sets a)):Int)+(↑(List.length (api_Auto.Starts a)):Int))))=false→(res=true)))))))))))):C_heckleref10_Right a res:=by
 unfold C_heckleref10_Right
 have kk:=cfOk [] 128
 refine fD (x:=bodyOf Try.f22) kk Try.func22 ?_
 refine wkS [1] [(1,av_api_Auto a)] (by kernel_rfl) ?_
 refine sD kk [] [1] [(4,.ptr 8 0),(8,av_api_Auto a)] obN ?_
 refine sDE kk [] [] [(10,vi ((↑(List.length (List.map enc_arr4_uint64 (api_Auto.Sets a))):Int)))] [(10,vi ((↑(List.length (api_Auto.Sets a)):Int)))] obN ?_
 refine qD ?_
 refine sM [] [(118,vB (decide ((↑(List.length (api_Auto.Sets a)):Int) > (600:Int)) || ((↑(List.length (List.map enc_i64 (api_Auto.Owner a))):Int) != (↑(List.length (api_Auto.Sets a)):Int) || ((↑(List.length (List.map encs_i64 (api_Auto.Follow a))):Int) != (↑(List.length (api_Auto.Sets a)):Int) || ((↑(List.length (List.map enc_bool (api_Auto.Ends a))):Int) != (↑(List.length (api_Auto.Sets a)):Int) || decide ((↑(List.length (api_Auto.Starts a)):Int) > (16:Int)))))))] ?_ (fun hk0=>?_)
 ·refine cD (t:=39) (b:=decide ((↑(List.length (api_Auto.Sets a)):Int) > (600:Int)) || ((↑(List.length (List.map enc_i64 (api_Auto.Owner a))):Int) != (↑(List.length (api_Auto.Sets a)):Int) || ((↑(List.length (List.map encs_i64 (api_Auto.Follow a))):Int) != (↑(List.length (api_Auto.Sets a)):Int) || ((↑(List.length (List.map enc_bool (api_Auto.Ends a))):Int) != (↑(List.length (api_Auto.Sets a)):Int) || decide ((↑(List.length (api_Auto.Starts a)):Int) > (16:Int)))))) (fun hb4=>?_) (fun hb4=>?_)
  ·have h:=h.1 hb4
   refine sD kk [] [4,8,10,118] [(7,vB false)] obN ?_
   refine tD ?_
   obtain he0:=h
   subst res
   exact (endD [] (vB false) []).1
  ·have h:=h.2 hb4
   refine Sem.skip' (by kernel_rfl) Wk.refl ?_
   show Sem _ _ _ _ _
   refine wkD [118] ?_
   refine qD ?_
   refine sD kk [] [] [(13,vi 0)] obN ?_
   refine bD (id:=0) ?_
   obtain ⟨Inv22,mu23,h0Inv22,hInv22⟩:=h
   refine loD (fun (q:Int)=>(fun (i:Int)=>([(4,.ptr 8 0),(8,av_api_Auto a),(10,vi ((↑(List.length (api_Auto.Sets a)):Int))),(13,vi i)]:Sta)) q) (fun (q:Int)=>Inv22 q) (fun (q:Int)=>mu23 q) 0 [] h0Inv22 ?_
   rintro i hi
   have h:=hInv22 i hi
   refine qD ?_
   refine sD kk [] [] [(127,vB (decide (i < (↑(List.length (api_Auto.Sets a)):Int))))] obN ?_
   refine cD (t:=42) (b:=decide (i < (↑(List.length (api_Auto.Sets a)):Int))) (fun hb24=>?_) (fun hb24=>?_)
   ·have h:=h.1 hb24
    refine Sem.skip' (by kernel_rfl) Wk.refl ?_
    show Sem _ _ _ _ _
    refine wkD [127] ?_
    refine qD ?_
    refine bD (id:=1) ?_
    obtain ⟨h25,h⟩:=h
    obtain ⟨h26,h⟩:=h
    obtain ⟨h28,h29,h31,h32,h⟩:=h
    refine sM [] [(202,vB (decide (gd (api_Auto.Owner a) i < (0:Int)) || (decide (gd (api_Auto.Owner a) i≥(40:Int)) || arr4_uint64.e0 (gd (api_Auto.Sets a) i) == 0 && (arr4_uint64.e1 (gd (api_Auto.Sets a) i) == 0 && (arr4_uint64.e2 (gd (api_Auto.Sets a) i) == 0 && (arr4_uint64.e3 (gd (api_Auto.Sets a) i) == 0 && true))))))] ?_ (fun hk0=>?_)
    ·refine cD (t:=67) (b:=decide (gd (api_Auto.Owner a) i < (0:Int)) || (decide (gd (api_Auto.Owner a) i≥(40:Int)) || arr4_uint64.e0 (gd (api_Auto.Sets a) i) == 0 && (arr4_uint64.e1 (gd (api_Auto.Sets a) i) == 0 && (arr4_uint64.e2 (gd (api_Auto.Sets a) i) == 0 && (arr4_uint64.e3 (gd (api_Auto.Sets a) i) == 0 && true))))) (fun hb33=>?_) (fun hb33=>?_)
     ·have h:=h.1 hb33
      refine sD kk [] [4,8,10,13,202] [(7,vB false)] obN ?_
      refine tD ?_
      obtain he0:=h
      subst res
      exact (endD [] (vB false) []).1
     ·have h:=h.2 hb33
      refine Sem.skip' (by kernel_rfl) Wk.refl ?_
      show Sem _ _ _ _ _
      refine wkD [202] ?_
      refine rD kk [] [] [(13,vi (w64 (i+1)))] obN ?_
      exact lD (w64 (i+1)) [] h
    ·rcases Bool.eq_false_or_eq_true (decide (gd (api_Auto.Owner a) i < (0:Int))) with hb27 | hb27
     ·refine sD kk [.e (fi (gd (api_Auto.Owner a) i)),bF,bF,bF,bF,bF,bF,bT,bF,bF,bF,bF,bF,bF,bF,bT] [] [(202,vB true)] (obC h25 (obC (idx_ok enc_i64 (api_Auto.Owner a) i _ rfl h25 h26) (obC (gff hb27) (obC (gff hb27) (obC (gff hb27) (obC (gff hb27) (obC (gff hb27) (obC (gff hb27) (obC hb27 (oF (oF (oF (oF (oF (oF (oF (oT obN))))))))))))))))) ?_
      exact Sem.cast (by try rw [hb27];kernel_rfl) hk0
     ·rcases Bool.eq_false_or_eq_true (decide (gd (api_Auto.Owner a) i≥(40:Int))) with hb30 | hb30
      ·refine sD kk [.e (fi (gd (api_Auto.Owner a) i)),bT,bT,bT,bT,.e (fi (gd (api_Auto.Owner a) i)),bT,bT,bF,bF,bF,bF,bF,bF,bF,bF,bT] [] [(202,vB true)] (obC h25 (obC (idx_ok enc_i64 (api_Auto.Owner a) i _ rfl h25 h26) (obC (gft hb27) (obC (gft hb27) (obC (gft hb27) (obC (gft hb27) (obC (h28 hb27) (obC (idx_ok enc_i64 (api_Auto.Owner a) i _ rfl (h28 hb27) (h29 hb27)) (obC (gft hb27) (obC (gft hb27) (obC hb27 (obC (gff hb30) (obC (gff hb30) (obC (gff hb30) (obC (gff hb30) (obC (gff hb30) (obC (gff hb30) (obC (gff hb30) (obC hb30 obN))))))))))))))))))) ?_
       exact Sem.cast (by try rw [hb27];try rw [hb30];kernel_rfl) hk0
      ·refine sD kk [.e (fi (gd (api_Auto.Owner a) i)),bT,bT,bT,bT,.e (fi (gd (api_Auto.Owner a) i)),bT,bT,bF,bT,bT,bT,bT,.e (fv_arr4_uint64 (gd (api_Auto.Sets a) i)),bT,bT,bT,bF] [] [(202,vB (arr4_uint64.e0 (gd (api_Auto.Sets a) i) == 0 && (arr4_uint64.e1 (gd (api_Auto.Sets a) i) == 0 && (arr4_uint64.e2 (gd (api_Auto.Sets a) i) == 0 && (arr4_uint64.e3 (gd (api_Auto.Sets a) i) == 0 && true)))))] (obC h25 (obC (idx_ok enc_i64 (api_Auto.Owner a) i _ rfl h25 h26) (obC (gft hb27) (obC (gft hb27) (obC (gft hb27) (obC (gft hb27) (obC (h28 hb27) (obC (idx_ok enc_i64 (api_Auto.Owner a) i _ rfl (h28 hb27) (h29 hb27)) (obC (gft hb27) (obC (gft hb27) (obC hb27 (obC (gft hb30) (obC (gft hb30) (obC (gft hb30) (obC (gft hb30) (obC ((h31 hb27) hb30) (obC (idx_ok enc_arr4_uint64 (api_Auto.Sets a) i _ (enc_arr4_uint64_eq _) ((h31 hb27) hb30) ((h32 hb27) hb30)) (obC (gft hb30) (obC (gft hb30) (obC (gft hb30) (obC hb30 obN))))))))))))))))))))) ?_
       exact Sem.cast (by try rw [hb27];try rw [hb30];kernel_rfl) hk0
   ·have h:=h.2 hb24
    refine xD (i:=0) ?_
    show Sem _ _ _ _ _
    refine wkD [13,127] ?_
    refine qD ?_
    refine sD kk [] [] [(16,vi 0)] obN ?_
    refine bD (id:=2) ?_
    obtain ⟨Inv124,mu125,h0Inv124,hInv124⟩:=h
    refine loD (fun (q:Int)=>(fun (i_1:Int)=>([(4,.ptr 8 0),(8,av_api_Auto a),(10,vi ((↑(List.length (api_Auto.Sets a)):Int))),(16,vi i_1)]:Sta)) q) (fun (q:Int)=>Inv124 q) (fun (q:Int)=>mu125 q) 0 [] h0Inv124 ?_
    rintro i_1 hi
    have h:=hInv124 i_1 hi
    refine qD ?_
    refine sDE kk [] [] [(223,vB (decide (i_1 < w64 ((↑(List.length (api_Auto.Sets a)):Int)+(↑(List.length (List.map encs_i64 (api_Auto.Starts a))):Int)))))] [(223,vB (decide (i_1 < w64 ((↑(List.length (api_Auto.Sets a)):Int)+(↑(List.length (api_Auto.Starts a)):Int)))))] obN ?_
    refine cD (t:=74) (b:=decide (i_1 < w64 ((↑(List.length (api_Auto.Sets a)):Int)+(↑(List.length (api_Auto.Starts a)):Int)))) (fun hb126=>?_) (fun hb126=>?_)
    ·have h:=h.1 hb126
     refine Sem.skip' (by kernel_rfl) Wk.refl ?_
     show Sem _ _ _ _ _
     refine wkD [223] ?_
     refine qD ?_
     refine bD (id:=3) ?_
     refine sD kk [] [] [] obN ?_
     obtain ⟨J132,hJ132,h⟩:=h
     refine sjD (fun (q:List Int)=>J132 q) (fun (q:List Int)=>(fun (l_2:List Int)=>([(4,.ptr 8 0),(8,av_api_Auto a),(10,vi ((↑(List.length (api_Auto.Sets a)):Int))),(16,vi i_1),(19,vL enc_i64 l_2)]:Sta)) q) ?_ ?_
     ·rintro l_2 hj
      have h:=hJ132 l_2 hj
      refine sD kk [] [] [(22,vi 0)] obN ?_
      refine bD (id:=4) ?_
      obtain ⟨Inv152,mu153,h0Inv152,hInv152⟩:=h
      refine loD (fun (q:Int)=>(fun (k_2:Int)=>([(4,.ptr 8 0),(8,av_api_Auto a),(10,vi ((↑(List.length (api_Auto.Sets a)):Int))),(16,vi i_1),(19,vL enc_i64 l_2),(22,vi k_2)]:Sta)) q) (fun (q:Int)=>Inv152 q) (fun (q:Int)=>mu153 q) 0 [] h0Inv152 ?_
      rintro k_2 hi
      have h:=hInv152 k_2 hi
      refine qD ?_
      refine sDE kk [] [] [(289,vB (decide (k_2 < (↑(List.length (List.map enc_i64 l_2)):Int))))] [(289,vB (decide (k_2 < (↑(List.length l_2):Int))))] obN ?_
      refine cD (t:=96) (b:=decide (k_2 < (↑(List.length l_2):Int))) (fun hb154=>?_) (fun hb154=>?_)
      ·have h:=h.1 hb154
       refine Sem.skip' (by kernel_rfl) Wk.refl ?_
       show Sem _ _ _ _ _
       refine wkD [289] ?_
       refine qD ?_
       refine bD (id:=5) ?_
       obtain ⟨h155,h⟩:=h
       obtain ⟨h156,h⟩:=h
       obtain ⟨h158,h159,h162,h163,h164,h165,h⟩:=h
       refine sM [] [(382,vB (decide (gd l_2 k_2 < (0:Int)) || (decide (gd l_2 k_2≥(↑(List.length (api_Auto.Sets a)):Int)) || decide (k_2 > (0:Int)) && decide (gd l_2 k_2≤gd l_2 (w64 (k_2 - 1))))))] ?_ (fun hk0=>?_)
       ·refine cD (t:=127) (b:=decide (gd l_2 k_2 < (0:Int)) || (decide (gd l_2 k_2≥(↑(List.length (api_Auto.Sets a)):Int)) || decide (k_2 > (0:Int)) && decide (gd l_2 k_2≤gd l_2 (w64 (k_2 - 1))))) (fun hb166=>?_) (fun hb166=>?_)
        ·have h:=h.1 hb166
         refine sD kk [] [4,8,10,16,19,22,382] [(7,vB false)] obN ?_
         refine tD ?_
         obtain he0:=h
         subst res
         exact (endD [] (vB false) []).1
        ·have h:=h.2 hb166
         refine Sem.skip' (by kernel_rfl) Wk.refl ?_
         show Sem _ _ _ _ _
         refine wkD [382] ?_
         refine rD kk [] [] [(22,vi (w64 (k_2+1)))] obN ?_
         exact lD (w64 (k_2+1)) [] h
       ·rcases Bool.eq_false_or_eq_true (decide (gd l_2 k_2 < (0:Int))) with hb157 | hb157
        ·refine sD kk [.e (fi (gd l_2 k_2)),bF,bF,bF,bF,bF,bF,bT,bF,bF,bF,bF,bT] [] [(382,vB true)] (obC h155 (obC (idx_ok enc_i64 l_2 k_2 _ rfl h155 h156) (obC (gff hb157) (obC (gff hb157) (obC (gff hb157) (obC (gff hb157) (obC (gff hb157) (obC (gff hb157) (obC hb157 (oF (oF (oF (oF (oT obN)))))))))))))) ?_
         exact Sem.cast (by try rw [hb157];kernel_rfl) hk0
        ·rcases Bool.eq_false_or_eq_true (decide (gd l_2 k_2≥(↑(List.length (api_Auto.Sets a)):Int))) with hb160 | hb160
         ·refine sD kk [.e (fi (gd l_2 k_2)),bT,bT,bT,.e (fi (gd l_2 k_2)),bT,bT,bT,bF,bF,bF,bF,bF,bT] [] [(382,vB true)] (obC h155 (obC (idx_ok enc_i64 l_2 k_2 _ rfl h155 h156) (obC (gft hb157) (obC (gft hb157) (obC (gft hb157) (obC (h158 hb157) (obC (idx_ok enc_i64 l_2 k_2 _ rfl (h158 hb157) (h159 hb157)) (obC (gft hb157) (obC (gft hb157) (obC (gft hb157) (obC hb157 (obC (gff hb160) (obC (gff hb160) (obC (gff hb160) (obC (gff hb160) (obC hb160 obN)))))))))))))))) ?_
          exact Sem.cast (by try rw [hb157];try rw [hb160];kernel_rfl) hk0
         ·rcases Bool.eq_false_or_eq_true (decide (k_2 > (0:Int))) with hb161 | hb161
          ·refine sD kk [.e (fi (gd l_2 k_2)),bT,bT,bT,.e (fi (gd l_2 k_2)),bT,bT,bT,bF,bT,bT,bT,bT,bT,bT,.e (fi (gd l_2 k_2)),bT,bT,bT,bT,bT,.e (fi (gd l_2 (w64 (k_2 - 1)))),bT,bT,bT,bT,bF] [] [(382,vB (decide (gd l_2 k_2≤gd l_2 (w64 (k_2 - 1)))))] (obC h155 (obC (idx_ok enc_i64 l_2 k_2 _ rfl h155 h156) (obC (gft hb157) (obC (gft hb157) (obC (gft hb157) (obC (h158 hb157) (obC (idx_ok enc_i64 l_2 k_2 _ rfl (h158 hb157) (h159 hb157)) (obC (gft hb157) (obC (gft hb157) (obC (gft hb157) (obC hb157 (obC (gft hb160) (obC (gft hb160) (obC (gft hb160) (obC (gtt hb161) (obC (gtt hb161) (obC (gtt hb161) (obC (((h162 hb157) hb160) hb161) (obC (idx_ok enc_i64 l_2 k_2 _ rfl (((h162 hb157) hb160) hb161) (((h163 hb157) hb160) hb161)) (obC (gtt hb161) (obC (gtt hb161) (obC (gtt hb161) (obC (gtt hb161) (obC (gtt hb161) (obC (((h164 hb157) hb160) hb161) (obC (idx_ok enc_i64 l_2 (w64 (k_2 - 1)) _ rfl (((h164 hb157) hb160) hb161) (((h165 hb157) hb160) hb161)) (obC (gtt hb161) (obC (gtt hb161) (obC (gft hb160) (obC hb161 (obC hb160 obN))))))))))))))))))))))))))))))) ?_
           exact Sem.cast (by try rw [hb157];try rw [hb160];try rw [hb161];kernel_rfl) hk0
          ·refine sD kk [.e (fi (gd l_2 k_2)),bT,bT,bT,.e (fi (gd l_2 k_2)),bT,bT,bT,bF,bT,bT,bT,bF,bF,bF,bF,bF,bF,bF,bF,bF,bF,bT,bF,bF] [] [(382,vB false)] (obC h155 (obC (idx_ok enc_i64 l_2 k_2 _ rfl h155 h156) (obC (gft hb157) (obC (gft hb157) (obC (gft hb157) (obC (h158 hb157) (obC (idx_ok enc_i64 l_2 k_2 _ rfl (h158 hb157) (h159 hb157)) (obC (gft hb157) (obC (gft hb157) (obC (gft hb157) (obC hb157 (obC (gft hb160) (obC (gft hb160) (obC (gft hb160) (obC (gtf hb161) (obC (gtf hb161) (obC (gtf hb161) (obC (gtf hb161) (obC (gtf hb161) (obC (gtf hb161) (obC (gtf hb161) (obC (gtf hb161) (obC (gtf hb161) (obC (gtf hb161) (obC (gft hb160) (obC hb161 (obC hb160 obN))))))))))))))))))))))))))) ?_
           exact Sem.cast (by try rw [hb157];try rw [hb160];try rw [hb161];kernel_rfl) hk0
      ·have h:=h.2 hb154
       refine xD (i:=4) ?_
       show Sem _ _ _ _ _
       refine wkD [19,22,289] ?_
       refine rD kk [] [] [(16,vi (w64 (i_1+1)))] obN ?_
       exact lD (w64 (i_1+1)) [] h
     ·refine sD kk [] [] [(241,vB (decide (i_1 < (↑(List.length (api_Auto.Sets a)):Int))))] obN ?_
      refine cD (t:=80) (b:=decide (i_1 < (↑(List.length (api_Auto.Sets a)):Int))) (fun hb167=>?_) (fun hb167=>?_)
      ·have h:=h.1 hb167
       obtain ⟨h168,h⟩:=h
       obtain ⟨h169,h⟩:=h
       refine rD kk [.e (fL enc_i64 (gd (api_Auto.Follow a) i_1))] [241] [(19,vL enc_i64 (gd (api_Auto.Follow a) i_1))] (obC h168 (obC (idx_ok encs_i64 (api_Auto.Follow a) i_1 _ rfl h168 h169) obN)) ?_
       exact jD (gd (api_Auto.Follow a) i_1) [] h
      ·have h:=h.2 hb167
       obtain ⟨h170,h⟩:=h
       obtain ⟨h171,h⟩:=h
       refine rD kk [.e (fL enc_i64 (gd (api_Auto.Starts a) (w64 (i_1 - (↑(List.length (api_Auto.Sets a)):Int)))))] [241] [(19,vL enc_i64 (gd (api_Auto.Starts a) (w64 (i_1 - (↑(List.length (api_Auto.Sets a)):Int)))))] (obC h170 (obC (idx_ok encs_i64 (api_Auto.Starts a) (w64 (i_1 - (↑(List.length (api_Auto.Sets a)):Int))) _ rfl h170 h171) obN)) ?_
       exact jD (gd (api_Auto.Starts a) (w64 (i_1 - (↑(List.length (api_Auto.Sets a)):Int)))) [] h
    ·have h:=h.2 hb126
     refine xD (i:=2) ?_
     show Sem _ _ _ _ _
     refine wkD [4,8,10,16,223] ?_
     refine sD kk [] [] [(7,vB true)] obN ?_
     refine tD ?_
     obtain he0:=h
     subst res
     exact (endD [] (vB true) []).1
 ·rcases Bool.eq_false_or_eq_true (decide ((↑(List.length (api_Auto.Sets a)):Int) > (600:Int))) with hb0 | hb0
  ·refine sD kk [bF,bF,bF,bF,bF,bT,bF,bF,bF,bF,bF,bT,bF,bF,bF,bF,bF,bT,bF,bF,bF,bF,bT] [] [(118,vB true)] (obC (gff hb0) (obC (gff hb0) (obC (gff hb0) (obC (gff hb0) (obC (gff hb0) (obC hb0 (oF (oF (oF (oF (oF (oT (oF (oF (oF (oF (oF (oT (oF (oF (oF (oF (oT obN))))))))))))))))))))))) ?_
   exact Sem.cast (by try rw [hb0];kernel_rfl) hk0
  ·rcases Bool.eq_false_or_eq_true ((↑(List.length (List.map enc_i64 (api_Auto.Owner a))):Int) != (↑(List.length (api_Auto.Sets a)):Int)) with hb1 | hb1
   ·refine sD kk [bT,bT,bT,bT,bT,bF,bF,bF,bF,bF,bF,bT,bF,bF,bF,bF,bF,bT,bF,bF,bF,bF,bT] [] [(118,vB true)] (obC (gft hb0) (obC (gft hb0) (obC (gft hb0) (obC (gft hb0) (obC (gft hb0) (obC hb0 (obC (gff hb1) (obC (gff hb1) (obC (gff hb1) (obC (gff hb1) (obC (gff hb1) (obC hb1 (oF (oF (oF (oF (oF (oT (oF (oF (oF (oF (oT obN))))))))))))))))))))))) ?_
    exact Sem.cast (by try rw [hb0];try rw [hb1];kernel_rfl) hk0
   ·rcases Bool.eq_false_or_eq_true ((↑(List.length (List.map encs_i64 (api_Auto.Follow a))):Int) != (↑(List.length (api_Auto.Sets a)):Int)) with hb2 | hb2
    ·refine sD kk [bT,bT,bT,bT,bT,bF,bT,bT,bT,bT,bT,bF,bF,bF,bF,bF,bF,bT,bF,bF,bF,bF,bT] [] [(118,vB true)] (obC (gft hb0) (obC (gft hb0) (obC (gft hb0) (obC (gft hb0) (obC (gft hb0) (obC hb0 (obC (gft hb1) (obC (gft hb1) (obC (gft hb1) (obC (gft hb1) (obC (gft hb1) (obC hb1 (obC (gff hb2) (obC (gff hb2) (obC (gff hb2) (obC (gff hb2) (obC (gff hb2) (obC hb2 (oF (oF (oF (oF (oT obN))))))))))))))))))))))) ?_
     exact Sem.cast (by try rw [hb0];try rw [hb1];try rw [hb2];kernel_rfl) hk0
    ·rcases Bool.eq_false_or_eq_true ((↑(List.length (List.map enc_bool (api_Auto.Ends a))):Int) != (↑(List.length (api_Auto.Sets a)):Int)) with hb3 | hb3
     ·refine sD kk [bT,bT,bT,bT,bT,bF,bT,bT,bT,bT,bT,bF,bT,bT,bT,bT,bT,bF,bF,bF,bF,bF,bT] [] [(118,vB true)] (obC (gft hb0) (obC (gft hb0) (obC (gft hb0) (obC (gft hb0) (obC (gft hb0) (obC hb0 (obC (gft hb1) (obC (gft hb1) (obC (gft hb1) (obC (gft hb1) (obC (gft hb1) (obC hb1 (obC (gft hb2) (obC (gft hb2) (obC (gft hb2) (obC (gft hb2) (obC (gft hb2) (obC hb2 (obC (gff hb3) (obC (gff hb3) (obC (gff hb3) (obC (gff hb3) (obC hb3 obN))))))))))))))))))))))) ?_
      exact Sem.cast (by try rw [hb0];try rw [hb1];try rw [hb2];try rw [hb3];kernel_rfl) hk0
     ·refine sDE kk [bT,bT,bT,bT,bT,bF,bT,bT,bT,bT,bT,bF,bT,bT,bT,bT,bT,bF,bT,bT,bT,bT,bF] [] [(118,vB (decide ((↑(List.length (List.map encs_i64 (api_Auto.Starts a))):Int) > (16:Int))))] [(118,vB (decide ((↑(List.length (api_Auto.Starts a)):Int) > (16:Int))))] (obC (gft hb0) (obC (gft hb0) (obC (gft hb0) (obC (gft hb0) (obC (gft hb0) (obC hb0 (obC (gft hb1) (obC (gft hb1) (obC (gft hb1) (obC (gft hb1) (obC (gft hb1) (obC hb1 (obC (gft hb2) (obC (gft hb2) (obC (gft hb2) (obC (gft hb2) (obC (gft hb2) (obC hb2 (obC (gft hb3) (obC (gft hb3) (obC (gft hb3) (obC (gft hb3) (obC hb3 obN))))))))))))))))))))))) ?_
      exact Sem.cast (by try rw [hb0];try rw [hb1];try rw [hb2];try rw [hb3];kernel_rfl) hk0
set_option maxHeartbeats 1000000 in
theorem W_hecklelaw10_AutoEnds (l:(List Int)) (res:Bool)
 (h:(∃ r0:Bool,C_hecklelaw10_awake r0∧(((!r0)=true→(res=false))∧((!r0)=false→(∃ r0_1:api_Spec,C_hecklelaw06_Made l false r0_1∧(∃ r0_2:api_Auto,∃ r0_3:Int,C_auto_Build r0_1 r0_2 r0_3∧(((r0_3 != (0:Int))=true→(res=false))∧((r0_3 != (0:Int))=false→((((↑(List.length (List.map encs_i64 (api_Auto.Starts r0_2))):Int) != w64 ((2:Int) * (↑(List.length (List.map enc_api_Cond (api_Spec.Conds r0_1))):Int)))=true→(res=false))∧(((↑(List.length (List.map encs_i64 (api_Auto.Starts r0_2))):Int) != w64 ((2:Int) * (↑(List.length (List.map enc_api_Cond (api_Spec.Conds r0_1))):Int)))=false→(∃ r0_4:Bool,C_heckleref10_Right r0_2 r0_4∧(((!r0_4)=true→(res=false))∧((!r0_4)=false→((0:Int)≤(↑(List.length (api_Spec.Rules r0_1)):Int)∧(↑(List.length (api_Spec.Rules r0_1)):Int)≤(↑(List.length (api_Spec.Rules r0_1)):Int)∧(↑(List.length (api_Spec.Rules r0_1)):Int) < (2:Int) ^ (40:Nat)∧(↑(8:Nat):Int) * (↑(List.length (api_Spec.Rules r0_1)):Int)≤(2:Int) ^ (47:Nat))∧(∃ (Inv103:List Int→Int→Prop) (mu104:List Int→Int→Nat),Inv103 (List.replicate (List.length (api_Spec.Rules r0_1)) (0:Int)) 0∧(∀ (many:List Int) (i:Int),Inv103 many i→(((decide (i < (↑(List.length (api_Auto.Sets r0_2)):Int)))=true→((0:Int)≤i)∧i < ↑(List.length (api_Auto.Owner r0_2))∧((decide (gd (api_Auto.Owner r0_2) i≥(↑(List.length (List.map enc_api_Rule (api_Spec.Rules r0_1))):Int)))=false→((decide (i > (0:Int)))=true→((0:Int)≤i)))∧((decide (gd (api_Auto.Owner r0_2) i≥(↑(List.length (List.map enc_api_Rule (api_Spec.Rules r0_1))):Int)))=false→((decide (i > (0:Int)))=true→i < ↑(List.length (api_Auto.Owner r0_2))))∧((decide (gd (api_Auto.Owner r0_2) i≥(↑(List.length (List.map enc_api_Rule (api_Spec.Rules r0_1))):Int)))=false→((decide (i > (0:Int)))=true→((0:Int)≤w64 (i - 1))))∧((decide (gd (api_Auto.Owner r0_2) i≥(↑(List.length (List.map enc_api_Rule (api_Spec.Rules r0_1))):Int)))=false→((decide (i > (0:Int)))=true→w64 (i - 1) < ↑(List.length (api_Auto.Owner r0_2))))∧(((decide (gd (api_Auto.Owner r0_2) i≥(↑(List.length (List.map enc_api_Rule (api_Spec.Rules r0_1))):Int)) || decide (i > (0:Int)) && decide (gd (api_Auto.Owner r0_2) i < gd (api_Auto.Owner r0_2) (w64 (i - 1))))=true→(res=false))∧((decide (gd (api_Auto.Owner r0_2) i≥(↑(List.length (List.map enc_api_Rule (api_Spec.Rules r0_1))):Int)) || decide (i > (0:Int)) && decide (gd (api_Auto.Owner r0_2) i < gd (api_Auto.Owner r0_2) (w64 (i - 1))))=false→((0:Int)≤i)∧i < ↑(List.length (api_Auto.Owner r0_2))∧((0:Int)≤gd (api_Auto.Owner r0_2) i)∧(Int.toNat (gd (api_Auto.Owner r0_2) i) < List.length many)∧gd (api_Auto.Owner r0_2) i < ↑(List.length many)∧((0:Int)≤gd (api_Auto.Owner r0_2) i)∧(Int.toNat (gd (api_Auto.Owner r0_2) i) < List.length many)∧gd (api_Auto.Owner r0_2) i < ↑(List.length many)∧(∃ (Inv146:Int→Prop) (mu147:Int→Nat),Inv146 0∧(∀ (k_2:Int),Inv146 k_2→((0:Int)≤i)∧i < ↑(List.length (api_Auto.Follow r0_2))∧(((decide (k_2 < (↑(List.length (gd (api_Auto.Follow r0_2) i)):Int)))=true→((0:Int)≤i)∧i < ↑(List.length (api_Auto.Follow r0_2))∧((0:Int)≤k_2)∧k_2 < ↑(List.length (gd (api_Auto.Follow r0_2) i))∧((0:Int)≤gd (gd (api_Auto.Follow r0_2) i) k_2)∧gd (gd (api_Auto.Follow r0_2) i) k_2 < ↑(List.length (api_Auto.Owner r0_2))∧((0:Int)≤i)∧i < ↑(List.length (api_Auto.Owner r0_2))∧(((gd (api_Auto.Owner r0_2) (gd (gd (api_Auto.Follow r0_2) i) k_2) != gd (api_Auto.Owner r0_2) i)=true→(res=false))∧((gd (api_Auto.Owner r0_2) (gd (gd (api_Auto.Follow r0_2) i) k_2) != gd (api_Auto.Owner r0_2) i)=false→(Inv146 (w64 (k_2+1))∧mu147 (w64 (k_2+1)) < mu147 k_2))))∧((decide (k_2 < (↑(List.length (gd (api_Auto.Follow r0_2) i)):Int)))=false→(Inv103 (List.set many (Int.toNat (gd (api_Auto.Owner r0_2) i)) (w64 (gd many (gd (api_Auto.Owner r0_2) i)+1))) (w64 (i+1))∧mu104 (List.set many (Int.toNat (gd (api_Auto.Owner r0_2) i)) (w64 (gd many (gd (api_Auto.Owner r0_2) i)+1))) (w64 (i+1)) < mu104 many i))))))))∧((decide (i < (↑(List.length (api_Auto.Sets r0_2)):Int)))=false→(∃ (Inv179:Int→Prop) (mu180:Int→Nat),Inv179 0∧(∀ (i_1:Int),Inv179 i_1→(((decide (i_1 < (↑(List.length (api_Spec.Rules r0_1)):Int)))=true→((0:Int)≤i_1)∧(Int.toNat i_1 < List.length many)∧i_1 < ↑(List.length many)∧((0:Int)≤i_1)∧i_1 < ↑(List.length (api_Spec.Rules r0_1))∧(∃ r0_9:Int,C_heckleref03_Size (api_Rule.Rx (gd (api_Spec.Rules r0_1) i_1)) r0_9∧((0:Int)≤i_1)∧i_1 < ↑(List.length (api_Spec.Rules r0_1))∧(∃ r0_10:Int,C_heckleref03_Size (api_Rule.Trail (gd (api_Spec.Rules r0_1) i_1)) r0_10∧(((gd many i_1 != w64 (r0_9+r0_10))=true→(res=false))∧((gd many i_1 != w64 (r0_9+r0_10))=false→(Inv179 (w64 (i_1+1))∧mu180 (w64 (i_1+1)) < mu180 i_1))))))∧((decide (i_1 < (↑(List.length (api_Spec.Rules r0_1)):Int)))=false→(res=r0)))))))))))))))))))))):C_hecklelaw10_AutoEnds l res:=by
 unfold C_hecklelaw10_AutoEnds
 have kk:=cfOk [141] 142
 refine fD (x:=bodyOf Try.f7) kk Try.func7 ?_
 refine wkS [1] [(1,vL enc_u8 l)] (by kernel_rfl) ?_
 refine sD kk [] [] [] obN ?_
 obtain ⟨r0,hc0,h⟩:=h
 refine sD kk [.c (vB r0) []] [] [(10,vB r0)] (obC hc0 obN) ?_
 refine qD ?_
 refine sD kk [] [] [(40,vB (!r0))] obN ?_
 refine cD (t:=13) (b:=!r0) (fun hb1=>?_) (fun hb1=>?_)
 ·have h:=h.1 hb1
  refine sD kk [] [1,10,40] [(7,vB false)] obN ?_
  refine tD ?_
  obtain he0:=h
  subst res
  exact (endD [] (vB false) []).1
 ·have h:=h.2 hb1
  refine Sem.skip' (by kernel_rfl) Wk.refl ?_
  show Sem _ _ _ _ _
  refine wkD [40] ?_
  obtain ⟨r0_1,hc2,h⟩:=h
  refine sD kk [.c (.agg [vL enc_api_Cond (api_Spec.Conds r0_1),vB (api_Spec.Default r0_1),oL 38 enc_api_Rule (api_Spec.Rules r0_1)]) []] [1] [(13,.ptr 26 0),(26,.agg [vL enc_api_Cond (api_Spec.Conds r0_1),vB (api_Spec.Default r0_1),oL 38 enc_api_Rule (api_Spec.Rules r0_1)])] (obC hc2 obN) ?_
  obtain ⟨r0_2,r0_3,hc3,h⟩:=h
  refine sD kk [.c (.tup [av_api_Auto r0_2,vi r0_3]) []] [] [(16,.ptr 32 0),(19,vi r0_3),(26,av_api_Spec r0_1),(32,av_api_Auto r0_2)] (obC (Eq.mp (by unfold C_auto_Build;(try simp only [List.drop_zero,List.take_length]);first | done | simp only [nm,enq]:C_auto_Build r0_1 r0_2 r0_3=CallE Try.prog 25 [.agg [vL enc_api_Cond (api_Spec.Conds r0_1),vB (api_Spec.Default r0_1),.f (FV.sl (List.take (List.length (List.map enc_api_Rule (api_Spec.Rules r0_1))) (List.drop (0:Nat) (List.map enc_api_Rule (api_Spec.Rules r0_1)))))]] [] (.tup [av_api_Auto r0_2,vi r0_3]) []) hc3) obN) ?_
  refine qD ?_
  rcases Bool.eq_false_or_eq_true (r0_3 != (0:Int)) with hb4 | hb4
  ·have h:=h.1 hb4
   refine sD kk [bF,bF,bF,bF,bF,bF,bF,bF,bT,bF,bF,bF,bT] [19] [(112,vB true)] (obC (gff hb4) (obC (gff hb4) (obC (gff hb4) (obC (gff hb4) (obC (gff hb4) (obC (gff hb4) (obC (gff hb4) (obC (gff hb4) (obC hb4 (oF (oF (oF (oT obN))))))))))))) ?_
   refine cD (t:=37) (b:=true) (fun hb193=>?_) (fun hb193=>?_)
   ·refine sD kk [] [10,13,16,26,32,112] [(7,vB false)] obN ?_
    refine tD ?_
    obtain he0:=h
    subst res
    exact (endD [] (vB false) []).1
   ·cases hb193
  ·have h:=h.2 hb4
   rcases Bool.eq_false_or_eq_true ((↑(List.length (List.map encs_i64 (api_Auto.Starts r0_2))):Int) != w64 ((2:Int) * (↑(List.length (List.map enc_api_Cond (api_Spec.Conds r0_1))):Int))) with hb5 | hb5
   ·have h:=h.1 hb5
    refine sD kk [bT,bT,bT,bT,bT,bT,bT,bT,bF,bF,bF,bF,bT] [19] [(112,vB true)] (obC (gft hb4) (obC (gft hb4) (obC (gft hb4) (obC (gft hb4) (obC (gft hb4) (obC (gft hb4) (obC (gft hb4) (obC (gft hb4) (obC hb4 (obC (gff hb5) (obC (gff hb5) (obC (gff hb5) (obC hb5 obN))))))))))))) ?_
    refine cD (t:=37) (b:=true) (fun hb192=>?_) (fun hb192=>?_)
    ·refine sD kk [] [10,13,16,26,32,112] [(7,vB false)] obN ?_
     refine tD ?_
     obtain he0:=h
     subst res
     exact (endD [] (vB false) []).1
    ·cases hb192
   ·have h:=h.2 hb5
    obtain ⟨r0_4,hc6,h⟩:=h
    refine sD kk [bT,bT,bT,bT,bT,bT,bT,bT,bF,bT,bT,.c (vB r0_4) [],bT,bF] [19] [(112,vB (!r0_4))] (obC (gft hb4) (obC (gft hb4) (obC (gft hb4) (obC (gft hb4) (obC (gft hb4) (obC (gft hb4) (obC (gft hb4) (obC (gft hb4) (obC hb4 (obC (gft hb5) (obC (gft hb5) (obC hc6 (obC (gft hb5) (obC hb5 obN)))))))))))))) ?_
    refine cD (t:=37) (b:=!r0_4) (fun hb7=>?_) (fun hb7=>?_)
    ·have h:=h.1 hb7
     refine sD kk [] [10,13,16,26,32,112] [(7,vB false)] obN ?_
     refine tD ?_
     obtain he0:=h
     subst res
     exact (endD [] (vB false) []).1
    ·have h:=h.2 hb7
     refine Sem.skip' (by kernel_rfl) Wk.refl ?_
     show Sem _ _ _ _ _
     refine wkD [112] ?_
     obtain ⟨h8,h⟩:=h
     refine sDE kk [] [] [(22,.own 3 (List.replicate (Int.toNat (↑(List.length (List.map enc_api_Rule (api_Spec.Rules r0_1))):Int)) (FV.pv (Value.int IntKind.i64 (0)))))] [(22,oL 3 enc_i64 (List.replicate (List.length (api_Spec.Rules r0_1)) (0:Int)))] (obC (show (0:Int)≤(↑(List.length (List.map enc_api_Rule (api_Spec.Rules r0_1))):Int)∧(↑(List.length (List.map enc_api_Rule (api_Spec.Rules r0_1))):Int)≤(↑(List.length (List.map enc_api_Rule (api_Spec.Rules r0_1))):Int)∧(↑(List.length (List.map enc_api_Rule (api_Spec.Rules r0_1))):Int) < (2:Int) ^ (40:Nat)∧(↑(8:Nat):Int) * (↑(List.length (List.map enc_api_Rule (api_Spec.Rules r0_1))):Int)≤(2:Int) ^ (47:Nat) from by simpa only [nm] using h8) obN) ?_
     refine qD ?_
     refine sD kk [] [] [(25,vi 0)] obN ?_
     refine bD (id:=0) ?_
     obtain ⟨Inv103,mu104,h0Inv103,hInv103⟩:=h
     refine loD (fun (q:List Int×Int)=>(fun (many:List Int) (i:Int)=>([(10,vB r0),(13,.ptr 26 0),(16,.ptr 32 0),(22,oL 3 enc_i64 many),(25,vi i),(26,av_api_Spec r0_1),(32,av_api_Auto r0_2)]:Sta)) q.1 q.2) (fun (q:List Int×Int)=>Inv103 q.1 q.2) (fun (q:List Int×Int)=>mu104 q.1 q.2) ((List.replicate (List.length (api_Spec.Rules r0_1)) (0:Int)),0) [] h0Inv103 ?_
     rintro ⟨many,i⟩ hi
     have h:=hInv103 many i hi
     refine qD ?_
     refine sDE kk [] [] [(139,vB (decide (i < (↑(List.length (List.map enc_arr4_uint64 (api_Auto.Sets r0_2))):Int))))] [(139,vB (decide (i < (↑(List.length (api_Auto.Sets r0_2)):Int))))] obN ?_
     refine cD (t:=46) (b:=decide (i < (↑(List.length (api_Auto.Sets r0_2)):Int))) (fun hb105=>?_) (fun hb105=>?_)
     ·have h:=h.1 hb105
      refine Sem.skip' (by kernel_rfl) Wk.refl ?_
      show Sem _ _ _ _ _
      refine wkD [139] ?_
      refine qD ?_
      refine bD (id:=1) ?_
      refine qD ?_
      obtain ⟨h106,h⟩:=h
      obtain ⟨h107,h⟩:=h
      obtain ⟨h110,h111,h112,h113,h⟩:=h
      refine sM [] [(226,vB (decide (gd (api_Auto.Owner r0_2) i≥(↑(List.length (List.map enc_api_Rule (api_Spec.Rules r0_1))):Int)) || decide (i > (0:Int)) && decide (gd (api_Auto.Owner r0_2) i < gd (api_Auto.Owner r0_2) (w64 (i - 1)))))] ?_ (fun hk0=>?_)
      ·refine cD (t:=75) (b:=decide (gd (api_Auto.Owner r0_2) i≥(↑(List.length (List.map enc_api_Rule (api_Spec.Rules r0_1))):Int)) || decide (i > (0:Int)) && decide (gd (api_Auto.Owner r0_2) i < gd (api_Auto.Owner r0_2) (w64 (i - 1)))) (fun hb114=>?_) (fun hb114=>?_)
       ·have h:=h.1 hb114
        refine sD kk [] [10,13,16,22,25,26,32,226] [(7,vB false)] obN ?_
        refine tD ?_
        obtain he0:=h
        subst res
        exact (endD [] (vB false) []).1
       ·have h:=h.2 hb114
        refine Sem.skip' (by kernel_rfl) Wk.refl ?_
        show Sem _ _ _ _ _
        refine wkD [226] ?_
        obtain ⟨h115,h⟩:=h
        obtain ⟨h116,h⟩:=h
        obtain ⟨h117,h⟩:=h
        obtain ⟨h118,h⟩:=h
        obtain ⟨h119,h⟩:=h
        obtain ⟨h120,h⟩:=h
        obtain ⟨h121,h⟩:=h
        obtain ⟨h122,h⟩:=h
        refine sDE kk [.e (fi (gd (api_Auto.Owner r0_2) i)),.e (fi (gd many (gd (api_Auto.Owner r0_2) i))),.e (fi (gd many (gd (api_Auto.Owner r0_2) i)))] [] [(22,.own 3 (List.set (List.map enc_i64 many) ((0:Nat)+Int.toNat (gd (api_Auto.Owner r0_2) i)) (FV.pv (Value.int IntKind.i64 (w64 (gd many (gd (api_Auto.Owner r0_2) i)+1))))))] [(22,oL 3 enc_i64 (List.set many (Int.toNat (gd (api_Auto.Owner r0_2) i)) (w64 (gd many (gd (api_Auto.Owner r0_2) i)+1))))] (obC h115 (obC (idx_ok enc_i64 (api_Auto.Owner r0_2) i _ rfl h115 h116) (obC h117 (obC (show Int.toNat (gd (api_Auto.Owner r0_2) i) < List.length (List.map enc_i64 many) from by simpa only [nm] using h118) (obC (show (List.map enc_i64 many)[((0:Nat)+Int.toNat (gd (api_Auto.Owner r0_2) i):Nat)]?=some (fi (gd many (gd (api_Auto.Owner r0_2) i))) from by have:=idx_ok enc_i64 many (gd (api_Auto.Owner r0_2) i) _ rfl h117 h119;simpa only [nm,enq,enc_i64] using this) (obC h120 (obC (show Int.toNat (gd (api_Auto.Owner r0_2) i) < List.length (List.map enc_i64 many) from by simpa only [nm] using h121) (obC (show (List.map enc_i64 many)[((0:Nat)+Int.toNat (gd (api_Auto.Owner r0_2) i):Nat)]?=some (fi (gd many (gd (api_Auto.Owner r0_2) i))) from by have:=idx_ok enc_i64 many (gd (api_Auto.Owner r0_2) i) _ rfl h120 h122;simpa only [nm,enq,enc_i64] using this) obN)))))))) ?_
        refine sD kk [] [] [(28,vi 0)] obN ?_
        refine bD (id:=2) ?_
        obtain ⟨Inv146,mu147,h0Inv146,hInv146⟩:=h
        refine loD (fun (q:Int)=>(fun (k_2:Int)=>([(10,vB r0),(13,.ptr 26 0),(16,.ptr 32 0),(22,oL 3 enc_i64 (List.set many (Int.toNat (gd (api_Auto.Owner r0_2) i)) (w64 (gd many (gd (api_Auto.Owner r0_2) i)+1)))),(25,vi i),(26,av_api_Spec r0_1),(28,vi k_2),(32,av_api_Auto r0_2)]:Sta)) q) (fun (q:Int)=>Inv146 q) (fun (q:Int)=>mu147 q) 0 [] h0Inv146 ?_
        rintro k_2 hi
        have h:=hInv146 k_2 hi
        refine qD ?_
        obtain ⟨h148,h⟩:=h
        obtain ⟨h149,h⟩:=h
        refine sDE kk [.e (fL enc_i64 (gd (api_Auto.Follow r0_2) i))] [] [(280,vB (decide (k_2 < (↑(List.length (List.map enc_i64 (gd (api_Auto.Follow r0_2) i))):Int))))] [(280,vB (decide (k_2 < (↑(List.length (gd (api_Auto.Follow r0_2) i)):Int))))] (obC h148 (obC (idx_ok encs_i64 (api_Auto.Follow r0_2) i _ rfl h148 h149) obN)) ?_
        refine cD (t:=93) (b:=decide (k_2 < (↑(List.length (gd (api_Auto.Follow r0_2) i)):Int))) (fun hb150=>?_) (fun hb150=>?_)
        ·have h:=h.1 hb150
         refine Sem.skip' (by kernel_rfl) Wk.refl ?_
         show Sem _ _ _ _ _
         refine wkD [280] ?_
         refine qD ?_
         refine bD (id:=3) ?_
         obtain ⟨h151,h⟩:=h
         obtain ⟨h152,h⟩:=h
         obtain ⟨h153,h⟩:=h
         obtain ⟨h154,h⟩:=h
         obtain ⟨h155,h⟩:=h
         obtain ⟨h156,h⟩:=h
         obtain ⟨h157,h⟩:=h
         obtain ⟨h158,h⟩:=h
         refine sD kk [.e (fL enc_i64 (gd (api_Auto.Follow r0_2) i)),.e (fi (gd (gd (api_Auto.Follow r0_2) i) k_2)),.e (fi (gd (api_Auto.Owner r0_2) (gd (gd (api_Auto.Follow r0_2) i) k_2))),.e (fi (gd (api_Auto.Owner r0_2) i))] [] [(340,vB (gd (api_Auto.Owner r0_2) (gd (gd (api_Auto.Follow r0_2) i) k_2) != gd (api_Auto.Owner r0_2) i))] (obC h151 (obC (idx_ok encs_i64 (api_Auto.Follow r0_2) i _ rfl h151 h152) (obC h153 (obC (idx_ok enc_i64 (gd (api_Auto.Follow r0_2) i) k_2 _ rfl h153 h154) (obC h155 (obC (idx_ok enc_i64 (api_Auto.Owner r0_2) (gd (gd (api_Auto.Follow r0_2) i) k_2) _ rfl h155 h156) (obC h157 (obC (idx_ok enc_i64 (api_Auto.Owner r0_2) i _ rfl h157 h158) obN)))))))) ?_
         refine cD (t:=113) (b:=gd (api_Auto.Owner r0_2) (gd (gd (api_Auto.Follow r0_2) i) k_2) != gd (api_Auto.Owner r0_2) i) (fun hb159=>?_) (fun hb159=>?_)
         ·have h:=h.1 hb159
          refine sD kk [] [10,13,16,22,25,26,28,32,340] [(7,vB false)] obN ?_
          refine tD ?_
          obtain he0:=h
          subst res
          exact (endD [] (vB false) []).1
         ·have h:=h.2 hb159
          refine Sem.skip' (by kernel_rfl) Wk.refl ?_
          show Sem _ _ _ _ _
          refine wkD [340] ?_
          refine rD kk [] [] [(28,vi (w64 (k_2+1)))] obN ?_
          exact lD (w64 (k_2+1)) [] h
        ·have h:=h.2 hb150
         refine xD (i:=2) ?_
         show Sem _ _ _ _ _
         refine wkD [28,280] ?_
         refine rD kk [] [] [(25,vi (w64 (i+1)))] obN ?_
         exact lD ((List.set many (Int.toNat (gd (api_Auto.Owner r0_2) i)) (w64 (gd many (gd (api_Auto.Owner r0_2) i)+1))),(w64 (i+1))) [] h
      ·rcases Bool.eq_false_or_eq_true (decide (gd (api_Auto.Owner r0_2) i≥(↑(List.length (List.map enc_api_Rule (api_Spec.Rules r0_1))):Int))) with hb108 | hb108
       ·refine sD kk [.e (fi (gd (api_Auto.Owner r0_2) i)),bF,bF,bF,bF,bT] [] [(226,vB true)] (obC h106 (obC (idx_ok enc_i64 (api_Auto.Owner r0_2) i _ rfl h106 h107) (obC (gff hb108) (obC (gff hb108) (obC (gff hb108) (obC (gff hb108) (obC hb108 obN))))))) ?_
        exact Sem.cast (by try rw [hb108];kernel_rfl) hk0
       ·rcases Bool.eq_false_or_eq_true (decide (i > (0:Int))) with hb109 | hb109
        ·refine sD kk [.e (fi (gd (api_Auto.Owner r0_2) i)),bT,bT,bT,bT,bT,bT,bT,.e (fi (gd (api_Auto.Owner r0_2) i)),bT,bT,bT,bT,bT,bT,.e (fi (gd (api_Auto.Owner r0_2) (w64 (i - 1)))),bT,bT,bT,bT,bF] [] [(226,vB (decide (gd (api_Auto.Owner r0_2) i < gd (api_Auto.Owner r0_2) (w64 (i - 1)))))] (obC h106 (obC (idx_ok enc_i64 (api_Auto.Owner r0_2) i _ rfl h106 h107) (obC (gft hb108) (obC (gft hb108) (obC (gft hb108) (obC (gtt hb109) (obC (gtt hb109) (obC (gtt hb109) (obC (gtt hb109) (obC ((h110 hb108) hb109) (obC (idx_ok enc_i64 (api_Auto.Owner r0_2) i _ rfl ((h110 hb108) hb109) ((h111 hb108) hb109)) (obC (gtt hb109) (obC (gtt hb109) (obC (gtt hb109) (obC (gtt hb109) (obC (gtt hb109) (obC (gtt hb109) (obC ((h112 hb108) hb109) (obC (idx_ok enc_i64 (api_Auto.Owner r0_2) (w64 (i - 1)) _ rfl ((h112 hb108) hb109) ((h113 hb108) hb109)) (obC (gtt hb109) (obC (gtt hb109) (obC (gft hb108) (obC hb109 (obC hb108 obN)))))))))))))))))))))))) ?_
         exact Sem.cast (by try rw [hb108];try rw [hb109];kernel_rfl) hk0
        ·refine sD kk [.e (fi (gd (api_Auto.Owner r0_2) i)),bT,bT,bT,bF,bF,bF,bF,bF,bF,bF,bF,bF,bF,bF,bF,bT,bF,bF] [] [(226,vB false)] (obC h106 (obC (idx_ok enc_i64 (api_Auto.Owner r0_2) i _ rfl h106 h107) (obC (gft hb108) (obC (gft hb108) (obC (gft hb108) (obC (gtf hb109) (obC (gtf hb109) (obC (gtf hb109) (obC (gtf hb109) (obC (gtf hb109) (obC (gtf hb109) (obC (gtf hb109) (obC (gtf hb109) (obC (gtf hb109) (obC (gtf hb109) (obC (gtf hb109) (obC (gtf hb109) (obC (gft hb108) (obC hb109 (obC hb108 obN)))))))))))))))))))) ?_
         exact Sem.cast (by try rw [hb108];try rw [hb109];kernel_rfl) hk0
     ·have h:=h.2 hb105
      refine xD (i:=0) ?_
      show Sem _ _ _ _ _
      refine wkD [16,25,32,139] ?_
      refine qD ?_
      refine sD kk [] [] [(31,vi 0)] obN ?_
      refine bD (id:=4) ?_
      obtain ⟨Inv179,mu180,h0Inv179,hInv179⟩:=h
      refine loD (fun (q:Int)=>(fun (i_1:Int)=>([(10,vB r0),(13,.ptr 26 0),(22,oL 3 enc_i64 many),(26,av_api_Spec r0_1),(31,vi i_1)]:Sta)) q) (fun (q:Int)=>Inv179 q) (fun (q:Int)=>mu180 q) 0 [] h0Inv179 ?_
      rintro i_1 hi
      have h:=hInv179 i_1 hi
      refine qD ?_
      refine sDE kk [] [] [(355,vB (decide (i_1 < (↑(List.length (List.map enc_api_Rule (api_Spec.Rules r0_1))):Int))))] [(355,vB (decide (i_1 < (↑(List.length (api_Spec.Rules r0_1)):Int))))] obN ?_
      refine cD (t:=118) (b:=decide (i_1 < (↑(List.length (api_Spec.Rules r0_1)):Int))) (fun hb181=>?_) (fun hb181=>?_)
      ·have h:=h.1 hb181
       refine Sem.skip' (by kernel_rfl) Wk.refl ?_
       show Sem _ _ _ _ _
       refine wkD [355] ?_
       refine qD ?_
       refine bD (id:=5) ?_
       obtain ⟨h182,h⟩:=h
       obtain ⟨h183,h⟩:=h
       obtain ⟨h184,h⟩:=h
       obtain ⟨h185,h⟩:=h
       obtain ⟨h186,h⟩:=h
       obtain ⟨r0_9,hc187,h⟩:=h
       obtain ⟨h188,h⟩:=h
       obtain ⟨h189,h⟩:=h
       obtain ⟨r0_10,hc190,h⟩:=h
       refine sD kk [.e (fi (gd many i_1)),.e (fv_api_Rule (gd (api_Spec.Rules r0_1) i_1)),.c (vi r0_9) [],.e (fv_api_Rule (gd (api_Spec.Rules r0_1) i_1)),.c (vi r0_10) []] [] [(421,vB (gd many i_1 != w64 (r0_9+r0_10)))] (obC h182 (obC (show Int.toNat i_1 < List.length (List.map enc_i64 many) from by simpa only [nm] using h183) (obC (show (List.map enc_i64 many)[((0:Nat)+Int.toNat i_1:Nat)]?=some (fi (gd many i_1)) from by have:=idx_ok enc_i64 many i_1 _ rfl h182 h184;simpa only [nm,enq,enc_i64] using this) (obC h185 (obC (idx_ok enc_api_Rule (api_Spec.Rules r0_1) i_1 _ (enc_api_Rule_eq _) h185 h186) (obC hc187 (obC h188 (obC (idx_ok enc_api_Rule (api_Spec.Rules r0_1) i_1 _ (enc_api_Rule_eq _) h188 h189) (obC hc190 obN))))))))) ?_
       refine cD (t:=140) (b:=gd many i_1 != w64 (r0_9+r0_10)) (fun hb191=>?_) (fun hb191=>?_)
       ·have h:=h.1 hb191
        refine sD kk [] [10,13,22,26,31,421] [(7,vB false)] obN ?_
        refine tD ?_
        obtain he0:=h
        subst res
        exact (endD [] (vB false) []).1
       ·have h:=h.2 hb191
        refine Sem.skip' (by kernel_rfl) Wk.refl ?_
        show Sem _ _ _ _ _
        refine wkD [421] ?_
        refine rD kk [] [] [(31,vi (w64 (i_1+1)))] obN ?_
        exact lD (w64 (i_1+1)) [] h
      ·have h:=h.2 hb181
       refine xD (i:=4) ?_
       show Sem _ _ _ _ _
       refine wkD [13,22,26,31,355] ?_
       refine sD kk [] [10] [(7,vB r0)] obN ?_
       refine tD ?_
       obtain he0:=h
       subst res
       exact (endD [] (vB r0) []).1
end Go.Ev
set_option linter.unusedSimpArgs false
set_option linter.unusedVariables false
namespace Go.Ev
open Go Go.Proofs
def orBit (w:Int) (i:Int):Int:=IntKind.u64.wrap (BitVec.ofInt IntKind.u64.bits w ||| BitVec.ofInt IntKind.u64.bits (IntKind.u64.wrap (1 * 2 ^ min i.toNat IntKind.u64.bits))).toNat
def setAdd (s:arr4_uint64) (i:Int):arr4_uint64:=
 if i < 64 then { s with e0:=orBit s.e0 i } else if i < 128 then { s with e1:=orBit s.e1 (i - 64) } else if i < 192 then { s with e2:=orBit s.e2 (i - 128) } else { s with e3:=orBit s.e3 (i - 192) }
theorem w64_id0 {n:Int} (h0:-2 ^ 63≤n) (h1:n < 2 ^ 63):w64 n=n:=wrap64 (by omega) (by omega)
theorem quot64 (i:Int) (h0:0≤i) (h1:i < 256):w64 (Int.tdiv i 64)=i / 64∧i.tmod 64=i - 64 * (i / 64)∧0≤i.tmod 64:=by
 rw [Int.tdiv_eq_ediv_of_nonneg h0,Int.tmod_eq_emod_of_nonneg h0]
 exact ⟨w64_id0 (by omega) (by omega),by omega,by omega⟩
theorem add_ok (s:arr4_uint64) (i:Int) (h0:0≤i) (h1:i < 256):C_heckleref01_add s i (setAdd s i):=by
 obtain ⟨q,m,hm⟩:=quot64 i h0 h1
 refine W_heckleref01_add s i _ ?_
 rw [q,m]
 refine ⟨by omega,fun h=>⟨fun _=>by omega,?_⟩,fun h=>⟨fun _=>by omega,?_⟩,fun h=>⟨fun _=>by omega,?_⟩,fun h=>⟨fun _=>by omega,?_⟩⟩
 all_goals
  have h:=of_decide_eq_true h
  rw [h]
 ·simp [setAdd,show i < 64 by omega,orBit]
 ·simp [setAdd,show ¬ i < 64 by omega,show i < 128 by omega,orBit]
 ·simp [setAdd,show ¬ i < 64 by omega,show ¬ i < 128 by omega,show i < 192 by omega,orBit]
 ·simp [setAdd,show ¬ i < 64 by omega,show ¬ i < 128 by omega,show ¬ i < 192 by omega,orBit]
def bitOf (w:Int) (i:Int):Bool:=IntKind.u64.wrap (BitVec.ofInt IntKind.u64.bits (w.fdiv (2 ^ min i.toNat IntKind.u64.bits)) &&& BitVec.ofInt IntKind.u64.bits 1).toNat == 1
def setHas (s:arr4_uint64) (i:Int):Bool:=
 if i < 0 then false else if i < 64 then bitOf s.e0 i else if i < 128 then bitOf s.e1 (i - 64) else if i < 192 then bitOf s.e2 (i - 128) else if i < 256 then bitOf s.e3 (i - 192) else false
theorem has_ok (s:arr4_uint64) (i:Int):C_heckleref01_Has s i (setHas s i):=by
 refine W_heckleref01_Has s i _ ⟨fun g=>⟨fun g1=>?_,fun g1=>?_⟩,fun g=>?_⟩
 ·have g:=of_decide_eq_true g
  have g1:=of_decide_eq_true g1
  obtain ⟨q,m,hm⟩:=quot64 i g g1
  rw [q,m]
  refine ⟨by omega,fun h=>⟨fun _ _ _=>by omega,?_⟩,fun h=>⟨fun _ _ _=>by omega,?_⟩,fun h=>⟨fun _ _ _=>by omega,?_⟩,fun h=>⟨fun _ _ _=>by omega,?_⟩⟩
  all_goals
   have h:=of_decide_eq_true h
   rw [h]
  ·simp [setHas,show ¬ i < 0 by omega,show i < 64 by omega,bitOf]
  ·simp [setHas,show ¬ i < 0 by omega,show ¬ i < 64 by omega,show i < 128 by omega,bitOf]
  ·simp [setHas,show ¬ i < 0 by omega,show ¬ i < 64 by omega,show ¬ i < 128 by omega,show i < 192 by omega,bitOf]
  ·simp [setHas,show ¬ i < 0 by omega,show ¬ i < 64 by omega,show ¬ i < 128 by omega,show ¬ i < 192 by omega,show i < 256 by omega,bitOf]
 ·have g:=of_decide_eq_true g
  have g1:=of_decide_eq_false g1
  simp [setHas,show ¬ i < 0 by omega,show ¬ i < 64 by omega,show ¬ i < 128 by omega,show ¬ i < 192 by omega,show ¬ i < 256 by omega]
 ·have g:=of_decide_eq_false g
  simp [setHas,show i < 0 by omega]
end Go.Ev
set_option linter.unusedSimpArgs false
set_option linter.unusedVariables false
namespace Go.Ev
open Go Go.Proofs
theorem w64_id {x:Int} (h0:-9223372036854775808≤x) (h1:x≤9223372036854775807):w64 x=x:=wrap64 h0 (by omega)
def setTo (p:Int→Bool):Nat→arr4_uint64
 | 0=>⟨0,0,0,0⟩
 | n+1=>if p n then setAdd (setTo p n) n else setTo p n
def mkSet (p:Int→Bool):arr4_uint64:=setTo p 256
theorem setOf_ok (lo hi:Int):C_heckleref01_Of lo hi (mkSet fun i=>decide (i≥lo) && decide (i≤hi)):=by
 refine W_heckleref01_Of _ _ _ ⟨fun e0 e1 e2 e3 b=>∃ n:Nat,n≤256∧b=n∧arr4_uint64.mk e0 e1 e2 e3=setTo (fun i=>decide (i≥lo) && decide (i≤hi)) n,fun _ _ _ _ b=>(256 - b).toNat,⟨0,by omega,rfl,rfl⟩,?_⟩
 rintro e0 e1 e2 e3 b ⟨n,hn,rfl,hs⟩
 refine ⟨fun hb=>?_,fun hb=>?_⟩
 ·have hb:n < 256:=by have:=of_decide_eq_true hb;omega
  have hw:w64 ((n:Int)+1)=((n+1:Nat):Int):=w64_id (by omega) (by omega)
  refine ⟨fun a b c d=>arr4_uint64.mk a b c d=setTo (fun i=>decide (i≥lo) && decide (i≤hi)) (n+1),fun a b c d h=>⟨⟨n+1,by omega,hw,h⟩,by rw [hw];show (256 - _:Int).toNat < (256 - _:Int).toNat;omega⟩,fun ht=>⟨_,add_ok _ _ (by omega) (by omega),?_⟩,fun ht=>?_⟩
  ·simp only [setTo,ht,if_true,hs]
  ·simp only [setTo,ht,hs];rfl
 ·have hb:n=256:=by have:=of_decide_eq_false hb;omega
  subst hb
  exact hs.symm
theorem setNot_ok (s:arr4_uint64):C_heckleref01_Not s (mkSet fun i=>!setHas s i):=by
 refine W_heckleref01_Not _ _ ⟨fun e0 e1 e2 e3 b=>∃ n:Nat,n≤256∧b=n∧arr4_uint64.mk e0 e1 e2 e3=setTo (fun i=>!setHas s i) n,fun _ _ _ _ b=>(256 - b).toNat,⟨0,by omega,rfl,rfl⟩,?_⟩
 rintro e0 e1 e2 e3 b ⟨n,hn,rfl,hs⟩
 refine ⟨fun hb=>?_,fun hb=>?_⟩
 ·have hb:n < 256:=by have:=of_decide_eq_true hb;omega
  have hw:w64 ((n:Int)+1)=((n+1:Nat):Int):=w64_id (by omega) (by omega)
  refine ⟨fun a b c d=>arr4_uint64.mk a b c d=setTo (fun i=>!setHas s i) (n+1),fun a b c d h=>⟨⟨n+1,by omega,hw,h⟩,by rw [hw];show (256 - _:Int).toNat < (256 - _:Int).toNat;omega⟩,_,has_ok _ _,fun ht=>⟨_,add_ok _ _ (by omega) (by omega),?_⟩,fun ht=>?_⟩
  ·simp only [setTo,ht,if_true,hs]
  ·simp only [setTo,ht,hs];rfl
 ·have hb:n=256:=by have:=of_decide_eq_false hb;omega
  subst hb
  exact hs.symm
theorem char3_ok (b:Int):C_hecklelaw03_char b ⟨2,mkSet fun i=>decide (i≥b) && decide (i≤b),0,0,[]⟩:=by
 exact W_hecklelaw03_char _ _ ⟨_,setOf_ok _ _,rfl⟩
end Go.Ev
set_option linter.unusedSimpArgs false
set_option linter.unusedVariables false
namespace Go.Ev.Pl
open Go Go.Ev
abbrev SS (l:List Int):Prop:=l.Pairwise (· < ·)
theorem ss_ext:∀ {a b:List Int},SS a→SS b→(∀ x,x∈a↔x∈b)→a=b
 | [],[],_,_,_=>rfl
 | [],y :: b,_,_,h=>by have:=(h y).2 (List.mem_cons_self ..);simp at this
 | x :: a,[],_,_,h=>by have:=(h x).1 (List.mem_cons_self ..);simp at this
 | x :: a,y :: b,ha,hb,h=>by
   have ha:=List.pairwise_cons.1 ha
   have hb:=List.pairwise_cons.1 hb
   have hxy:x=y:=by
    rcases List.mem_cons.1 ((h x).1 (List.mem_cons_self ..)) with e | e
    ·exact e
    ·rcases List.mem_cons.1 ((h y).2 (List.mem_cons_self ..)) with e' | e'
     ·exact e'.symm
     ·have:=hb.1 x e;have:=ha.1 y e';omega
   subst hxy
   rw [ss_ext ha.2 hb.2]
   intro z
   constructor
   ·intro hz
    rcases List.mem_cons.1 ((h z).1 (List.mem_cons_of_mem _ hz)) with e | e
    ·subst e;have:=ha.1 z hz;omega
    ·exact e
   ·intro hz
    rcases List.mem_cons.1 ((h z).2 (List.mem_cons_of_mem _ hz)) with e | e
    ·subst e;have:=hb.1 z hz;omega
    ·exact e
def join (a b:List Int):List Int:=compactInts (sortInts (a++b))
theorem upTo_spec (zs:List Int) (hs:zs.Pairwise (·≤·)):∀ m,m≤zs.length→SS (Lib.compactUpTo zs.toArray m)∧∀ x,x∈Lib.compactUpTo zs.toArray m↔x∈zs.take m:=by
 intro m
 induction m with
 | zero=>intro _;simp [Lib.compactUpTo]
 | succ m ih=>
   intro hm
   obtain ⟨h1,h2⟩:=ih (by omega)
   have hg:zs.toArray[m]! = zs[m]'(by omega):=by simp [getElem!_pos,show m < zs.length by omega]
   have ht:∀ x,x∈zs.take (m+1)↔x∈zs.take m∨x=zs[m]'(by omega):=by
    intro x;rw [List.take_succ_eq_append_getElem (by omega),List.mem_append,List.mem_singleton]
   have hle:∀ x∈zs.take m,x≤zs[m]'(by omega):=by
    intro x hx
    obtain ⟨i,hi,rfl⟩:=List.mem_iff_getElem.1 hx
    simp only [List.length_take] at hi
    rw [List.getElem_take]
    exact List.pairwise_iff_getElem.1 hs i m (by omega) (by omega) (by omega)
   rw [Lib.compactUpTo_succ,hg]
   by_cases hk:Lib.keeps zs.toArray m=true
   ·rw [if_pos hk]
    refine ⟨List.pairwise_append.2 ⟨h1,by simp,fun x hx y hy=>?_⟩,fun x=>?_⟩
    ·simp at hy;subst hy
     have hx:=(h2 x).1 hx
     have h3:=hle x hx
     simp only [Lib.keeps,decide_eq_true_eq] at hk
     rcases hk with rfl | hk
     ·simp at hx
     ·have hm0:m≠0:=by rintro rfl;simp at hx
      have hg':zs.toArray[m - 1]! = zs[m - 1]'(by omega):=by simp [getElem!_pos,show m - 1 < zs.length by omega]
      rw [hg,hg'] at hk
      obtain ⟨i,hi,rfl⟩:=List.mem_iff_getElem.1 hx
      simp only [List.length_take] at hi
      rw [List.getElem_take] at h3 ⊢
      have h5:zs[i]'(by omega)≤zs[m - 1]'(by omega):=by
       by_cases e:i=m - 1
       ·subst e;exact Int.le_refl _
       ·exact List.pairwise_iff_getElem.1 hs i (m - 1) (by omega) (by omega) (by omega)
      have h6:zs[m - 1]'(by omega)≤zs[m]'(by omega):=List.pairwise_iff_getElem.1 hs (m - 1) m (by omega) (by omega) (by omega)
      have:zs[m - 1]'(by omega)≠zs[m]'(by omega):=fun e=>hk e.symm
      omega
    ·rw [ht];simp [h2]
   ·rw [if_neg hk]
    refine ⟨by simpa using h1,fun x=>?_⟩
    rw [List.append_nil,ht,h2]
    constructor
    ·exact .inl
    ·rintro (h | rfl)
     ·exact h
     ·simp only [Lib.keeps,decide_eq_true_eq,not_or,Decidable.not_not] at hk
      obtain ⟨hm0,hk⟩:=hk
      have hg':zs.toArray[m - 1]! = zs[m - 1]'(by omega):=by simp [getElem!_pos,show m - 1 < zs.length by omega]
      rw [hg,hg'] at hk
      rw [hk]
      refine List.mem_iff_getElem.2 ⟨m - 1,by simp;omega,by rw [List.getElem_take]⟩
theorem sort_spec (l:List Int):(sortInts l).Pairwise (·≤·)∧∀ x,x∈sortInts l↔x∈l:=by
 refine ⟨?_,fun x=>by simp [sortInts]⟩
 have:=List.pairwise_mergeSort (le:=fun x y:Int=>decide (x≤y)) (fun a b c h1 h2=>by simp at *;omega) (fun a b=>by simp;omega) l
 exact this.imp (by simp)
theorem join_spec (a b:List Int):SS (join a b)∧∀ x,x∈join a b↔x∈a∨x∈b:=by
 obtain ⟨h1,h2⟩:=sort_spec (a++b)
 obtain ⟨h3,h4⟩:=upTo_spec _ h1 _ (Nat.le_refl _)
 refine ⟨h3,fun x=>?_⟩
 show x∈Lib.compactUpTo _ _↔_
 rw [h4,List.take_length,h2,List.mem_append]
theorem sort_len (l:List Int):(sortInts l).length=l.length:=by simp [sortInts]
theorem join_len (a b:List Int):(join a b).length≤a.length+b.length:=by
 have:=Lib.compact_length_le (sortInts (a++b))
 rw [sort_len,List.length_append] at this
 exact this
end Go.Ev.Pl
set_option linter.unusedSimpArgs false
set_option linter.unusedVariables false
namespace Go.Ev.Pl
open Go Go.Ev
theorem w64_id {x:Int} (h0:-9223372036854775808≤x) (h1:x≤9223372036854775807):w64 x=x:=wrap64 h0 (by omega)
theorem rx_sizeOf {x y:api_Rx} (h:y∈x.Kids):SizeOf.sizeOf y < SizeOf.sizeOf x:=by
 cases x with
 | mk k s lo hi kids=>
   have:=List.sizeOf_lt_of_mem h
   simp only [api_Rx.mk.sizeOf_spec]
   simp at this
   omega
theorem rxInd {P:api_Rx→Prop} (h:∀ x,(∀ y∈x.Kids,P y)→P x) (x:api_Rx):P x:=
 h x fun y hy=>rxInd h y
 termination_by SizeOf.sizeOf x
 decreasing_by exact rx_sizeOf hy
mutual
def cata {α:Type} (f:api_Rx→List α→α):api_Rx→α
 | ⟨k,s,lo,hi,kids⟩=>f ⟨k,s,lo,hi,kids⟩ (cataL f kids)
def cataL {α:Type} (f:api_Rx→List α→α):List api_Rx→List α
 | []=>[]
 | x :: r=>cata f x :: cataL f r
end
theorem cataL_map {α:Type} (f:api_Rx→List α→α):∀ l,cataL f l=l.map (cata f)
 | []=>rfl
 | x :: r=>by rw [cataL,cataL_map f r];rfl
theorem cata_eq {α:Type} (f:api_Rx→List α→α) (x:api_Rx):cata f x=f x (x.Kids.map (cata f)):=by
 cases x;rw [cata,cataL_map]
def Wf (x:api_Rx):Prop:=cata (α:=Prop) (fun x l=>x.Kids.length < 1099511627776∧∀ p∈l,p) x
theorem wf_eq (x:api_Rx):Wf x↔x.Kids.length < 1099511627776∧∀ y∈x.Kids,Wf y:=by
 show cata (α:=Prop) _ x↔_
 rw [cata_eq]
 constructor
 ·rintro ⟨h1,h2⟩;exact ⟨h1,fun y hy=>h2 _ (List.mem_map.2 ⟨y,hy,rfl⟩)⟩
 ·rintro ⟨h1,h2⟩
  refine ⟨h1,fun p hp=>?_⟩
  obtain ⟨y,hy,rfl⟩:=List.mem_map.1 hp
  exact h2 y hy
theorem gd_nat {α:Type} [Inhabited α] {l:List α} {i:Nat} (h:i < l.length):gd l (i:Int)=l[i]:=by
 simp [gd,List.getD,h]
def timesN (x:api_Rx):Nat:=(max 1 (min 1000 (max x.Lo x.Hi))).toNat
def sizeN:api_Rx→Nat:=cata fun x l=>if x.Kind=2 then 1 else if 3≤x.Kind∧x.Kind≤5 then l.sum * (if x.Kind=5 then timesN x else 1) else 0
theorem sizeN_eq (x:api_Rx):sizeN x=if x.Kind=2 then 1 else if 3≤x.Kind∧x.Kind≤5 then (x.Kids.map sizeN).sum * (if x.Kind=5 then timesN x else 1) else 0:=cata_eq _ x
def sizeZ (x:api_Rx):Int:=min (sizeN x:Int) (1000000:Int)
theorem sum_take_succ {l:List Nat} {i:Nat} (h:i < l.length):(l.take (i+1)).sum=(l.take i).sum+l[i]:=by
 rw [List.take_succ_eq_append_getElem h,List.sum_append];simp
theorem rxSize_ok:∀ x,Wf x→C_rx_Size x (sizeZ x):=by
 refine rxInd fun x ih hw=>?_
 obtain ⟨hl,hk⟩:=(wf_eq x).1 hw
 refine W_rx_Size x _ ⟨fun h=>?_,fun h=>⟨fun h2=>?_,fun h2=>?_⟩⟩
 ·have h:x.Kind=2:=by simpa using h
  simp [sizeZ,sizeN_eq,h];omega
 ·have:x.Kind < 3∨x.Kind > 5:=by simpa using h2
  have h:x.Kind≠2:=by simpa using h
  rw [sizeZ,sizeN_eq,if_neg h,if_neg (by omega)];omega
 ·have h:x.Kind≠2:=by simpa using h
  have h2:3≤x.Kind∧x.Kind≤5:=by simp at h2;omega
  have hT:(timesN x:Int)=max 1 (min 1000 (max x.Lo x.Hi)):=by simp only [timesN];omega
  refine ⟨fun n t=>∃ i:Nat,t=i∧i≤x.Kids.length∧n=min (((x.Kids.map sizeN).take i).sum:Int) 1000000,fun n t=>(x.Kids.length - t).toNat,⟨0,rfl,by omega,by simp;omega⟩,?_⟩
  rintro n t ⟨i,rfl,hi,hn⟩
  refine ⟨fun ht=>?_,fun ht=>?_⟩
  ·have ht:i < x.Kids.length:=by simpa using ht
   refine ⟨by omega,by omega,sizeZ x.Kids[i],by rw [gd_nat ht];exact ih _ (List.getElem_mem ht) (hk _ (List.getElem_mem ht)),?_⟩
   have hs:=sum_take_succ (l:=x.Kids.map sizeN) (i:=i) (by simpa using ht)
   rw [List.getElem_map] at hs
   have hz:sizeZ x.Kids[i]=min (sizeN x.Kids[i]:Int) (1000000:Int):=rfl
   have hw1:w64 (n+sizeZ x.Kids[i])=n+sizeZ x.Kids[i]:=w64_id (by omega) (by omega)
   have hw2:w64 ((i:Int)+1)=((i+1:Nat):Int):=w64_id (by omega) (by omega)
   rw [hw1,hw2]
   refine ⟨⟨i+1,rfl,by omega,?_⟩,by dsimp only;omega⟩
   rw [hs];simp;omega
  ·have ht:i=x.Kids.length:=by have:¬ i < x.Kids.length:=by simpa using ht
                               omega
   subst ht
   rw [List.take_of_length_le (by simp)] at hn
   refine ⟨fun m=>m=n * (if x.Kind=5 then (timesN x:Int) else 1),fun m hm=>?_,fun h5=>?_,fun h5=>?_⟩
   ·subst hm
    rw [sizeZ,sizeN_eq,if_neg h,if_pos h2]
    by_cases h5:x.Kind=5
    ·simp only [if_pos h5]
     have hp:(1:Int)≤timesN x:=by omega
     have hp2:(timesN x:Int)≤1000:=by omega
     generalize (x.Kids.map sizeN).sum=S at hn ⊢
     subst hn
     rw [Int.natCast_mul]
     generalize (timesN x:Int)=T at hp hp2 ⊢
     simp
     rcases Int.le_total (S:Int) 1000000 with hS | hS
     ·rw [Int.min_eq_left hS];omega
     ·rw [Int.min_eq_right hS]
      have h1:(1000000:Int) * 1≤1000000 * T:=Int.mul_le_mul_of_nonneg_left hp (by omega)
      have h2:(1000000:Int) * T≤S * T:=Int.mul_le_mul_of_nonneg_right hS (by omega)
      omega
    ·simp only [if_neg h5];simp;omega
   ·have h5:x.Kind=5:=by simpa using h5
    rw [if_pos h5,hT]
    have:∀ a:Int,0≤a→a≤1000000→w64 (a * max 1 (min 1000 (max x.Lo x.Hi)))=a * max 1 (min 1000 (max x.Lo x.Hi)):=fun a h1 h2=>by
     have e1:0≤a * max 1 (min 1000 (max x.Lo x.Hi)):=Int.mul_nonneg h1 (by omega)
     have e2:a * max 1 (min 1000 (max x.Lo x.Hi))≤1000000 * 1000:=Int.mul_le_mul h2 (by omega) (by omega) (by omega)
     exact w64_id (by omega) (by omega)
    rw [← this n (by omega) (by omega)]
    congr 1;congr 1
    simp;omega
   ·have h5:x.Kind≠5:=by simpa using h5
    rw [if_neg h5];omega
theorem refSize_ok:∀ x,Wf x→C_heckleref03_Size x (sizeZ x):=by
 refine rxInd fun x ih hw=>?_
 obtain ⟨hl,hk⟩:=(wf_eq x).1 hw
 refine W_heckleref03_Size x _ ⟨fun h=>?_,fun h=>?_⟩
 ·have h:x.Kind=2:=by simpa using h
  simp [sizeZ,sizeN_eq,h];omega
 have h:x.Kind≠2:=by simpa using h
 refine ⟨fun b=>b=decide (3≤x.Kind∧x.Kind≤5),fun b hb=>⟨fun hbt=>?_,fun hbf=>?_⟩,fun h3=>?_,fun h3=>⟨fun h4=>?_,fun h4=>?_⟩⟩
 ·have h2:3≤x.Kind∧x.Kind≤5:=by rw [hbt] at hb;simpa using hb.symm
  have hT:(timesN x:Int)=max 1 (min 1000 (max x.Lo x.Hi)):=by simp only [timesN];omega
  have hp:(1:Int)≤timesN x:=by omega
  have hp2:(timesN x:Int)≤1000:=by omega
  refine ⟨fun n t=>∃ i:Nat,t=i∧i≤x.Kids.length∧n=min (((x.Kids.map sizeN).take i).sum:Int) 1000000,fun n t=>(x.Kids.length - t).toNat,⟨0,rfl,by omega,by simp;omega⟩,?_⟩
  rintro n t ⟨i,rfl,hi,hn⟩
  refine ⟨fun ht=>?_,fun ht=>?_⟩
  ·have ht:i < x.Kids.length:=by simpa using ht
   refine ⟨by omega,by omega,sizeZ x.Kids[i],by rw [gd_nat ht];exact ih _ (List.getElem_mem ht) (hk _ (List.getElem_mem ht)),?_⟩
   have hs:=sum_take_succ (l:=x.Kids.map sizeN) (i:=i) (by simpa using ht)
   rw [List.getElem_map] at hs
   have hz:sizeZ x.Kids[i]=min (sizeN x.Kids[i]:Int) (1000000:Int):=rfl
   have hw1:w64 (n+sizeZ x.Kids[i])=n+sizeZ x.Kids[i]:=w64_id (by omega) (by omega)
   have hw2:w64 ((i:Int)+1)=((i+1:Nat):Int):=w64_id (by omega) (by omega)
   rw [hw1,hw2]
   refine ⟨fun hg=>?_,fun hg=>?_⟩
   ·have hg:n+sizeZ x.Kids[i] > 1000000:=by simpa using hg
    have hsum:(x.Kids.map sizeN).sum≥((x.Kids.map sizeN).take (i+1)).sum:=by
     conv=>lhs;rw [← List.take_append_drop (i+1) (x.Kids.map sizeN),List.sum_append]
     omega
    rw [sizeZ,sizeN_eq,if_neg h,if_pos h2]
    have:(1000001:Int)≤(((x.Kids.map sizeN).sum * (if x.Kind=5 then timesN x else 1):Nat):Int):=by
     split
     ·have h3:(x.Kids.map sizeN).sum * 1≤(x.Kids.map sizeN).sum * timesN x:=Nat.mul_le_mul_left _ (by omega)
      omega
     ·omega
    omega
   ·have hg:¬ n+sizeZ x.Kids[i] > 1000000:=by simpa using hg
    exact ⟨⟨i+1,rfl,by omega,by rw [hs];simp;omega⟩,by dsimp only;omega⟩
  ·have ht:i=x.Kids.length:=by have:¬ i < x.Kids.length:=by simpa using ht
                               omega
   subst ht
   rw [List.take_of_length_le (by simp)] at hn
   refine ⟨fun m=>m=n * (if x.Kind=5 then (timesN x:Int) else 1),fun m hm=>?_,fun h5=>?_,fun h5=>?_⟩
   ·subst hm
    rw [sizeZ,sizeN_eq,if_neg h,if_pos h2]
    by_cases h5:x.Kind=5
    ·simp only [if_pos h5]
     generalize (x.Kids.map sizeN).sum=S at hn ⊢
     subst hn
     rw [Int.natCast_mul]
     generalize (timesN x:Int)=T at hp hp2 ⊢
     simp
     rcases Int.le_total (S:Int) 1000000 with hS | hS
     ·rw [Int.min_eq_left hS];omega
     ·rw [Int.min_eq_right hS]
      have h1:(1000000:Int) * 1≤1000000 * T:=Int.mul_le_mul_of_nonneg_left hp (by omega)
      have h2:(1000000:Int) * T≤S * T:=Int.mul_le_mul_of_nonneg_right hS (by omega)
      omega
    ·simp only [if_neg h5];simp;omega
   ·have h5:x.Kind=5:=by simpa using h5
    rw [if_pos h5,hT]
    have:∀ a:Int,0≤a→a≤1000000→w64 (a * max 1 (min 1000 (max x.Lo x.Hi)))=a * max 1 (min 1000 (max x.Lo x.Hi)):=fun a h1 h2=>by
     have e1:0≤a * max 1 (min 1000 (max x.Lo x.Hi)):=Int.mul_nonneg h1 (by omega)
     have e2:a * max 1 (min 1000 (max x.Lo x.Hi))≤1000000 * 1000:=Int.mul_le_mul h2 (by omega) (by omega) (by omega)
     exact w64_id (by omega) (by omega)
    rw [← this n (by omega) (by omega)]
    congr 1;congr 1
    simp;omega
   ·have h5:x.Kind≠5:=by simpa using h5
    rw [if_neg h5];omega
 ·have h2:¬ (3≤x.Kind∧x.Kind≤5):=by rw [hbf] at hb;simpa using hb.symm
  rw [sizeZ,sizeN_eq,if_neg h,if_neg h2];omega
 ·have h3':x.Kind=3:=by simpa using h3
  simp [h3']
 ·have h4':x.Kind=4:=by simpa using h4
  simp [h4']
 ·have h3':x.Kind≠3:=by simpa using h3
  have h4':x.Kind≠4:=by simpa using h4
  show decide (x.Kind=5)=decide (3≤x.Kind∧x.Kind≤5)
  rw [decide_eq_decide];omega
def nodesZ:api_Rx→Int→Int:=cata fun x l most=>l.foldl (fun m g=>if m≥0 then g m else m) (most - 1)
theorem nodesZ_eq (x:api_Rx) (most:Int):nodesZ x most=x.Kids.foldl (fun m y=>if m≥0 then nodesZ y m else m) (most - 1):=by
 unfold nodesZ
 rw [cata_eq,List.foldl_map]
theorem nodesZ_le:∀ x most,0≤most→nodesZ x most≤most - 1∧-1≤nodesZ x most:=by
 refine rxInd fun x ih most hm=>?_
 rw [nodesZ_eq]
 have key:∀ (l:List api_Rx) (m:Int),(∀ y∈l,y∈x.Kids)→-1≤m→(l.foldl (fun m y=>if m≥0 then nodesZ y m else m) m)≤m∧-1≤l.foldl (fun m y=>if m≥0 then nodesZ y m else m) m:=by
  intro l
  induction l with
  | nil=>intro m _ h;exact ⟨Int.le_refl _,h⟩
  | cons y r ih2=>
    intro m hl h
    simp only [List.foldl_cons]
    split
    ·rename_i h0
     obtain ⟨h1,h2⟩:=ih y (hl y (List.mem_cons_self ..)) m h0
     obtain ⟨h3,h4⟩:=ih2 _ (fun z hz=>hl z (List.mem_cons_of_mem _ hz)) h2
     exact ⟨by omega,h4⟩
    ·exact ih2 m (fun z hz=>hl z (List.mem_cons_of_mem _ hz)) h
 exact key x.Kids (most - 1) (fun _ h=>h) (by omega)
theorem foldl_take_succ {α β:Type} {f:β→α→β} {b:β} {l:List α} {i:Nat} (h:i < l.length):(l.take (i+1)).foldl f b=f ((l.take i).foldl f b) l[i]:=by
 rw [List.take_succ_eq_append_getElem h,List.foldl_append];rfl
theorem nodes_pre {x:api_Rx} {most:Int} (hm:0≤most) (i:Nat):-1≤(x.Kids.take i).foldl (fun m y=>if m≥0 then nodesZ y m else m) (most - 1)∧(x.Kids.take i).foldl (fun m y=>if m≥0 then nodesZ y m else m) (most - 1) < most:=by
 induction i with
 | zero=>simp;omega
 | succ i ih=>
   by_cases h:i < x.Kids.length
   ·rw [foldl_take_succ h]
    split
    ·rename_i h0
     have:=nodesZ_le x.Kids[i] _ h0
     omega
    ·exact ih
   ·rw [List.take_of_length_le (by omega)] at ih ⊢;exact ih
theorem rxNodes_ok:∀ x,Wf x→∀ most,0≤most→most≤1000000→C_rx_nodes x most (nodesZ x most):=by
 refine rxInd fun x ih hw most hm0 hm1=>?_
 obtain ⟨hl,hk⟩:=(wf_eq x).1 hw
 rw [nodesZ_eq]
 have hw0:w64 (most - 1)=most - 1:=w64_id (by omega) (by omega)
 refine W_rx_nodes x most _ ⟨fun m t=>∃ i:Nat,t=i∧i≤x.Kids.length∧m=(x.Kids.take i).foldl (fun m y=>if m≥0 then nodesZ y m else m) (most - 1),fun m t=>(x.Kids.length - t).toNat,⟨0,rfl,by omega,by rw [hw0];rfl⟩,?_⟩
 rintro m t ⟨i,rfl,hi,hm⟩
 have hb:=nodes_pre (x:=x) hm0 i
 rw [← hm] at hb
 refine ⟨fun ht=>?_,fun ht=>?_⟩
 ·have ht:i < x.Kids.length:=by simpa using ht
  have hw2:w64 ((i:Int)+1)=((i+1:Nat):Int):=w64_id (by omega) (by omega)
  have hs:=foldl_take_succ (f:=fun m y=>if m≥0 then nodesZ y m else m) (b:=most - 1) ht
  rw [← hm] at hs
  refine ⟨fun m'=>m'=if m≥0 then nodesZ x.Kids[i] m else m,fun m' hm'=>?_,by omega,by omega,fun hg=>?_,fun hg=>?_⟩
  ·rw [hw2]
   exact ⟨⟨i+1,rfl,by omega,by rw [hs,hm']⟩,by dsimp only;omega⟩
  ·have hg:m≥0:=by simpa using hg
   refine ⟨nodesZ x.Kids[i] m,?_,by rw [if_pos hg]⟩
   rw [gd_nat ht]
   exact ih _ (List.getElem_mem ht) (hk _ (List.getElem_mem ht)) _ hg (by omega)
  ·have hg:¬ m≥0:=by simpa using hg
   rw [if_neg hg]
 ·have ht:i=x.Kids.length:=by have:¬ i < x.Kids.length:=by simpa using ht
                              omega
  subst ht
  rw [hm,List.take_of_length_le (Nat.le_refl _)]
def noSet (s:arr4_uint64):Bool:=s.e0 == 0 && (s.e1 == 0 && (s.e2 == 0 && (s.e3 == 0 && true)))
def timesB (lo hi:Int):Bool:=decide (0≤lo) && (decide (lo≤20) && (hi == -1 || decide (hi≥max 1 lo) && decide (hi≤20)))
def ownB (x:api_Rx):Bool:=
 if x.Kind=5 then noSet x.Set && (decide (x.Kids.length=1) && timesB x.Lo x.Hi)
 else if x.Kind=1 then noSet x.Set && (x.Lo == 0 && x.Hi == 0 && decide (x.Kids.length=0))
 else if x.Kind=2 then !noSet x.Set && (x.Lo == 0 && x.Hi == 0 && decide (x.Kids.length=0))
 else if x.Kind=3∨x.Kind=4 then noSet x.Set && (x.Lo == 0 && x.Hi == 0 && decide (x.Kids.length≥2))
 else false
def oddK (x k:api_Rx):Bool:=k.Kind == x.Kind && x.Kind != 5
def rgt:api_Rx→Int→Bool:=cata fun x l deep=>decide (deep > 0) && ownB x && (x.Kids.zip l).all fun (k,g)=>!oddK x k && g (deep - 1)
theorem rgt_eq (x:api_Rx) (deep:Int):rgt x deep=(decide (deep > 0) && ownB x && x.Kids.all fun k=>!oddK x k && rgt k (deep - 1)):=by
 unfold rgt
 rw [cata_eq]
 congr 1
 rw [List.zip_map_right,List.all_map]
 generalize x.Kids=l
 induction l with
 | nil=>rfl
 | cons y r ih=>simp only [List.zip_cons_cons,List.all_cons,Function.comp] at ih ⊢;rw [ih];rfl
def pat (x:api_Rx):rx_pattern:={ Kind:=x.Kind,Set:=x.Set,Lo:=x.Lo,Hi:=x.Hi,Kids:=x.Kids }
theorem times_ok (x:rx_pattern):C_rx_pattern_times x (timesB x.Lo x.Hi):=by
 refine W_rx_pattern_times x _ ⟨fun h=>?_,fun h=>?_⟩
 ·simp only [Bool.or_eq_true,decide_eq_true_eq] at h
  simp only [timesB,Bool.and_eq_false_iff,decide_eq_false_iff_not];omega
 ·simp only [Bool.or_eq_false_iff,decide_eq_false_iff_not] at h
  have h1:decide (0≤x.Lo)=true:=by simp;omega
  have h2:decide (x.Lo≤20)=true:=by simp;omega
  simp only [timesB,h1,h2,Bool.true_and]
  congr 2
  have:(if x.Lo > 1 then x.Lo else 1)=max 1 x.Lo:=by omega
  rw [this]
theorem len0 (l:List api_Rx):decide (l=[])=(decide ((2:Int)≤(l.length:Int)+2) && (l.length:Int)+2 == 2):=by
 cases l with
 | nil=>rfl
 | cons a r=>
   have:((((a :: r).length:Nat):Int)+2 == 2)=false:=by
    show decide _=false
    simp only [decide_eq_false_iff_not,List.length_cons];omega
   rw [this];simp
theorem own_ok (x:api_Rx) (hl:x.Kids.length < 1099511627776):C_rx_pattern_own (pat x) (ownB x):=by
 refine W_rx_pattern_own (pat x) _ ⟨fun many=>many=(if x.Kind=1∨x.Kind=2 then (x.Kids.length:Int)+2 else x.Kids.length)∧(x.Kind=1∨x.Kind=2∨x.Kind=3∨x.Kind=4),?_,fun h5=>?_,fun h5=>?_⟩
 ·rintro many ⟨rfl,hk⟩
  show ownB x=((!noSet x.Set) == (x.Kind == 2) && (x.Lo == 0 && (x.Hi == 0 && (decide (_≥2) && (!decide (x.Kind < 3) || _ == 2)))))
  rcases hk with h | h | h | h
  all_goals simp only [ownB,h]
  ·cases noSet x.Set<;>cases hlo:(x.Lo == 0)<;>cases hhi:(x.Hi == 0)<;>simp [len0]
  ·cases noSet x.Set<;>cases hlo:(x.Lo == 0)<;>cases hhi:(x.Hi == 0)<;>simp [len0]
  ·cases noSet x.Set<;>cases hlo:(x.Lo == 0)<;>cases hhi:(x.Hi == 0)<;>simp<;>omega
  ·cases noSet x.Set<;>cases hlo:(x.Lo == 0)<;>cases hhi:(x.Hi == 0)<;>simp<;>omega
 ·have h5:x.Kind=5:=by simpa [pat] using h5
  refine ⟨fun hs=>⟨fun h1=>⟨_,times_ok (pat x),?_⟩,fun h1=>?_⟩,fun hs=>?_⟩
  ·have h1:x.Kids.length=1:=by simp [pat] at h1;omega
   have hs:noSet x.Set=true:=by rw [Bool.not_not] at hs;exact hs
   simp only [ownB,if_pos h5,hs,h1];rfl
  ·have h1:x.Kids.length≠1:=by simp [pat] at h1;omega
   simp [ownB,if_pos h5,h1]
  ·have hs:noSet x.Set=false:=by rw [Bool.not_not] at hs;exact hs
   simp [ownB,if_pos h5,hs]
 ·have h5:x.Kind≠5:=by simpa [pat] using h5
  refine ⟨fun b=>b=decide (x.Kind=1∨x.Kind=2),fun b hb=>⟨fun h=>?_,fun h=>?_⟩,fun h=>?_,fun h=>?_⟩
  ·have h12:x.Kind=1∨x.Kind=2:=by rw [h] at hb;simpa using hb.symm
   refine ⟨?_,by omega⟩
   rw [if_pos h12];exact w64_id (by show _≤(x.Kids.length:Int)+2;omega) (by show (x.Kids.length:Int)+2≤_;omega)
  ·have h12:¬ (x.Kind=1∨x.Kind=2):=by rw [h] at hb;simpa using hb.symm
   refine ⟨fun b=>b=decide (x.Kind=3∨x.Kind=4),fun b' hb'=>⟨fun h'=>?_,fun h'=>?_⟩,fun h'=>?_,fun h'=>?_⟩
   ·have h34:x.Kind=3∨x.Kind=4:=by rw [h'] at hb';simpa using hb'.symm
    exact ⟨by rw [if_neg h12];rfl,by omega⟩
   ·have h34:¬ (x.Kind=3∨x.Kind=4):=by rw [h'] at hb';simpa using hb'.symm
    simp only [ownB];rw [if_neg h5,if_neg (by omega),if_neg (by omega),if_neg h34]
   ·have:x.Kind=3:=by simpa [pat] using h'
    simp [pat,this]
   ·have:x.Kind≠3:=by simpa [pat] using h'
    simp [pat,this];rfl
  ·have:x.Kind=1:=by simpa [pat] using h
   simp [pat,this]
  ·have:x.Kind≠1:=by simpa [pat] using h
   simp [pat,this];rfl
theorem rxRight_ok:∀ x,Wf x→∀ deep,-1000≤deep→deep≤1000→C_rx_pattern_right (pat x) deep (rgt x deep):=by
 refine rxInd fun x ih hw deep hd0 hd1=>?_
 obtain ⟨hl,hk⟩:=(wf_eq x).1 hw
 have hodd:∀ k∈x.Kids,0 < deep→C_rx_pattern_right_L1 k (pat x) deep (oddK x k || !rgt k (deep - 1)) (pat x) deep:=by
  intro k hkm hpos
  have hw1:w64 (deep - 1)=deep - 1:=w64_id (by omega) (by omega)
  have hrec:C_rx_pattern_right ({ Kind:=api_Rx.Kind k,Set:=api_Rx.Set k,Lo:=api_Rx.Lo k,Hi:=api_Rx.Hi k,Kids:=api_Rx.Kids k }) (w64 (deep - 1)) (rgt k (deep - 1)):=by
   rw [hw1];exact ih k hkm (hk k hkm) _ (by omega) (by omega)
  refine W_rx_pattern_right_L1 k (pat x) deep _ _ _ ⟨fun h1=>⟨fun h2=>?_,fun h2=>⟨_,hrec,?_,rfl,rfl⟩⟩,fun h1=>⟨_,hrec,?_,rfl,rfl⟩⟩
  ·have h1:(k.Kind == x.Kind)=true:=h1
   have h2:(x.Kind != 5)=true:=h2
   simp [oddK,h1,h2]
  ·have h2:(x.Kind != 5)=false:=h2
   simp [oddK,h2]
  ·have h1:(k.Kind == x.Kind)=false:=h1
   simp [oddK,h1]
 have hall:∀ l:List api_Rx,l.length < 1099511627776→(∀ k∈l,k∈x.Kids)→0 < deep→C_slices_ContainsFunc__api_Rx_api_Rx_at_rx_pattern_right_L1 l (pat x) deep (l.any fun k=>oddK x k || !rgt k (deep - 1)) (pat x) deep:=by
  intro l hll hlm hpos
  obtain ⟨z,hz,hz2⟩:∃ z:Int,(decide (z≥0)=l.any fun k=>oddK x k || !rgt k (deep - 1))∧C_slices_IndexFunc__api_Rx_api_Rx_at_rx_pattern_right_L1 l (pat x) deep z (pat x) deep:=by
   have hfind:∀ i:Nat,(∀ (j:Nat) (hj:j < l.length),j < i→(oddK x l[j] || !rgt l[j] (deep - 1))=false)→(i=l.length→(l.any fun k=>oddK x k || !rgt k (deep - 1))=false):=by
    intro i h e
    subst e
    rw [List.any_eq_false]
    intro k hkm
    obtain ⟨j,hj,rfl⟩:=List.mem_iff_getElem.1 hkm
    rw [h j hj hj];simp
   cases hany:l.any fun k=>oddK x k || !rgt k (deep - 1) with
   | false=>
     refine ⟨-1,by simp,?_⟩
     refine W_slices_IndexFunc__api_Rx_api_Rx_at_rx_pattern_right_L1 l (pat x) deep _ _ _ ⟨fun a b c d e f g h o t=>(⟨a,⟨b,c,d,e⟩,f,g,h⟩:rx_pattern)=pat x∧o=deep∧∃ i:Nat,t=i∧i≤l.length,fun _ _ _ _ _ _ _ _ _ t=>(l.length - t).toNat,⟨rfl,rfl,0,rfl,by omega⟩,?_⟩
     rintro a b c d e f g h o t ⟨hp,rfl,i,rfl,hi⟩
     refine ⟨fun ht=>?_,fun ht=>⟨rfl,hp.symm,rfl⟩⟩
     have ht:i < l.length:=by simpa using ht
     have hw2:w64 ((i:Int)+1)=((i+1:Nat):Int):=w64_id (by omega) (by omega)
     refine ⟨by omega,by omega,_,pat x,o,by rw [gd_nat ht,hp];exact hodd l[i] (hlm _ (List.getElem_mem ht)) hpos,fun hb=>?_,fun hb=>?_⟩
     ·rw [List.any_eq_false] at hany
      exact absurd hb (hany _ (List.getElem_mem ht))
     ·rw [hw2]
      exact ⟨⟨rfl,rfl,i+1,rfl,by omega⟩,by dsimp only;omega⟩
   | true=>
     obtain ⟨k0,hk0,hk1⟩:=List.any_eq_true.1 hany
     have hex:∃ i:Nat,∃ hi:i < l.length,(oddK x l[i] || !rgt l[i] (deep - 1))=true∧∀ (j:Nat) (hj:j < i),(oddK x (l[j]'(by omega)) || !rgt (l[j]'(by omega)) (deep - 1))=false:=by
      obtain ⟨j0,hj0,rfl⟩:=List.mem_iff_getElem.1 hk0
      induction j0 using Nat.strongRecOn with
      | _ j0 ihj=>
        by_cases hex:∃ j:Nat,∃ hj:j < j0,(oddK x (l[j]'(by omega)) || !rgt (l[j]'(by omega)) (deep - 1))=true
        ·obtain ⟨j,hj,hj1⟩:=hex
         exact ihj j hj (by omega) (List.getElem_mem _) hj1
        ·refine ⟨j0,hj0,hk1,fun j hj=>?_⟩
         cases hb:(oddK x (l[j]'(by omega)) || !rgt (l[j]'(by omega)) (deep - 1)) with
         | false=>rfl
         | true=>exact absurd ⟨j,hj,hb⟩ hex
     obtain ⟨n,hn,hn1,hn2⟩:=hex
     refine ⟨n,by simp,?_⟩
     refine W_slices_IndexFunc__api_Rx_api_Rx_at_rx_pattern_right_L1 l (pat x) deep _ _ _ ⟨fun a b c d e f g h o t=>(⟨a,⟨b,c,d,e⟩,f,g,h⟩:rx_pattern)=pat x∧o=deep∧∃ i:Nat,t=i∧i≤n,fun _ _ _ _ _ _ _ _ _ t=>(l.length - t).toNat,⟨rfl,rfl,0,rfl,by omega⟩,?_⟩
     rintro a b c d e f g h o t ⟨hp,rfl,i,rfl,hi⟩
     refine ⟨fun ht=>?_,fun ht=>?_⟩
     ·have ht:i < l.length:=by simpa using ht
      have hw2:w64 ((i:Int)+1)=((i+1:Nat):Int):=w64_id (by omega) (by omega)
      refine ⟨by omega,by omega,_,pat x,o,by rw [gd_nat ht,hp];exact hodd l[i] (hlm _ (List.getElem_mem ht)) hpos,fun hb=>⟨?_,rfl,rfl⟩,fun hb=>?_⟩
      ·rcases Nat.lt_or_ge i n with hlt | hge
       ·rw [hn2 i hlt] at hb;cases hb
       ·have:i=n:=by omega
        rw [this]
      ·rcases Nat.lt_or_ge i n with hlt | hge
       ·rw [hw2]
        exact ⟨⟨rfl,rfl,i+1,rfl,by omega⟩,by dsimp only;omega⟩
       ·have:i=n:=by omega
        subst this
        rw [hn1] at hb;cases hb
     ·have:¬ i < l.length:=by simpa using ht
      omega
  refine W_slices_ContainsFunc__api_Rx_api_Rx_at_rx_pattern_right_L1 l (pat x) deep _ _ _ ⟨z,_,_,hz2,hz.symm,rfl,rfl⟩
 rw [rgt_eq]
 refine W_rx_pattern_right (pat x) deep _ ⟨fun hd=>⟨_,own_ok x hl,fun ho=>⟨_,_,_,hall x.Kids hl (fun _ h=>h) (by simpa using hd),?_⟩,fun ho=>?_⟩,fun hd=>?_⟩
 ·rw [hd,ho]
  simp only [Bool.true_and]
  rw [List.any_eq_not_all_not,Bool.not_not]
  congr 1
  funext k
  cases oddK x k<;>cases rgt k (deep - 1)<;>rfl
 ·rw [ho];simp
 ·rw [hd];simp
def rightB (x:api_Rx):Bool:=rgt x 20 && (decide (sizeZ x≤200) && decide (nodesZ x 1000≥0))
theorem rxRightAll_ok (x:api_Rx) (hw:Wf x):C_rx_Right x (rightB x):=by
 refine W_rx_Right x _ ⟨_,rxRight_ok x hw 20 (by omega) (by omega),fun h=>⟨_,rxSize_ok x hw,fun h2=>⟨_,rxNodes_ok x hw 1000 (by omega) (by omega),?_⟩,fun h2=>?_⟩,fun h=>?_⟩
 ·rw [rightB,h,h2];rfl
 ·rw [rightB,h2];simp
 ·rw [rightB,h];simp
end Go.Ev.Pl
set_option linter.unusedSimpArgs false
set_option linter.unusedVariables false
namespace Go.Ev.Pl
open Go Go.Ev
def nullB:api_Rx→Bool:=cata fun x l=>if x.Kind=1 then true else if x.Kind=3 then l.all id else if x.Kind=4 then l.any id else if x.Kind=5 then decide (x.Lo≤0) || l.all id else false
theorem nullB_eq (x:api_Rx):nullB x=if x.Kind=1 then true else if x.Kind=3 then x.Kids.all nullB else if x.Kind=4 then x.Kids.any nullB else if x.Kind=5 then decide (x.Lo≤0) || x.Kids.all nullB else false:=by
 unfold nullB;rw [cata_eq];simp only [List.all_map,List.any_map];rfl
end Go.Ev.Pl
set_option linter.unusedSimpArgs false
set_option linter.unusedVariables false
namespace Go.Ev.Pl
open Go Go.Ev
structure GA where
 n:Nat
 sets:List arr4_uint64
 null:Bool
 first:Nat→Bool
 last:Nat→Bool
 follow:Nat→Nat→Bool
def gEmpty:GA:=⟨0,[],true,fun _=>false,fun _=>false,fun _ _=>false⟩
def gNone:GA:=⟨0,[],false,fun _=>false,fun _=>false,fun _ _=>false⟩
def gByte (s:arr4_uint64):GA:=⟨1,[s],false,fun i=>i == 0,fun i=>i == 0,fun _ _=>false⟩
def blk (n:Nat) (p q:Nat→Nat→Bool) (r:Nat→Nat→Bool) (i j:Nat):Bool:=
 if i < n then (if j < n then p i j else r i (j - n)) else (if j < n then false else q (i - n) (j - n))
def gCat (a b:GA):GA:=
 ⟨a.n+b.n,a.sets++b.sets,a.null && b.null,fun i=>if i < a.n then a.first i else a.null && b.first (i - a.n),
   fun i=>if i < a.n then b.null && a.last i else b.last (i - a.n),blk a.n a.follow b.follow fun i j=>a.last i && b.first j⟩
def gAlt (a b:GA):GA:=
 ⟨a.n+b.n,a.sets++b.sets,a.null || b.null,fun i=>if i < a.n then a.first i else b.first (i - a.n),
   fun i=>if i < a.n then a.last i else b.last (i - a.n),blk a.n a.follow b.follow fun _ _=>false⟩
def gAgain (a:GA):GA:={ a with follow:=fun i j=>a.follow i j || a.last i && a.first j }
def gMaybe (a:GA):GA:={ a with null:=true }
structure Canon (a:GA):Prop where
 sets:a.sets.length=a.n
 first:∀ i,a.n≤i→a.first i=false
 last:∀ i,a.n≤i→a.last i=false
 follow:∀ i j,a.n≤i∨a.n≤j→a.follow i j=false
theorem cat_empty_r {a:GA} (h:Canon a):gCat a gEmpty=a:=by
 obtain ⟨n,sets,null,f,l,fo⟩:=a
 simp only [gCat,gEmpty,GA.mk.injEq,Nat.add_zero,List.append_nil,Bool.and_true,Bool.and_false,true_and]
 refine ⟨?_,?_,?_⟩
 ·funext i;split
  ·rfl
  ·rename_i hi;exact (h.first i (by show n≤i;omega)).symm
 ·funext i;split
  ·rfl
  ·rename_i hi;exact (h.last i (by show n≤i;omega)).symm
 ·funext i j
  simp only [blk]
  split<;>split
  ·rfl
  ·rename_i h1 h2;exact (h.follow i j (by show n≤i∨n≤j;omega)).symm
  ·rename_i h1 h2;exact (h.follow i j (by show n≤i∨n≤j;omega)).symm
  ·rename_i h1 h2;exact (h.follow i j (by show n≤i∨n≤j;omega)).symm
theorem canon_zero {a:GA} (h:Canon a) (hn:a.n=0) (hnull:a.null=true):a=gEmpty:=by
 obtain ⟨n,sets,null,f,l,fo⟩:=a
 simp only at hn hnull;subst hn hnull
 have hs:sets=[]:=List.length_eq_zero_iff.1 h.sets
 subst hs
 simp only [gEmpty,GA.mk.injEq,true_and]
 exact ⟨funext fun i=>h.first i (Nat.zero_le _),funext fun i=>h.last i (Nat.zero_le _),funext fun i=>funext fun j=>h.follow i j (.inl (Nat.zero_le _))⟩
theorem canon_empty:Canon gEmpty:=⟨rfl,fun _ _=>rfl,fun _ _=>rfl,fun _ _ _=>rfl⟩
theorem canon_none:Canon gNone:=⟨rfl,fun _ _=>rfl,fun _ _=>rfl,fun _ _ _=>rfl⟩
theorem canon_byte (s:arr4_uint64):Canon (gByte s):=⟨rfl,fun i h=>by simp [gByte] at h ⊢;omega,fun i h=>by simp [gByte] at h ⊢;omega,fun _ _ _=>rfl⟩
theorem canon_cat {a b:GA} (ha:Canon a) (hb:Canon b):Canon (gCat a b):=by
 refine ⟨by simp [gCat,ha.sets,hb.sets],fun i h=>?_,fun i h=>?_,fun i j h=>?_⟩
 ·simp only [gCat] at h ⊢;rw [if_neg (by omega),hb.first _ (by omega)];simp
 ·simp only [gCat] at h ⊢;rw [if_neg (by omega),hb.last _ (by omega)]
 ·simp only [gCat,blk] at h ⊢
  split<;>split
  ·omega
  ·rw [hb.first _ (by omega)];simp
  ·rfl
  ·exact hb.follow _ _ (by omega)
theorem canon_alt {a b:GA} (ha:Canon a) (hb:Canon b):Canon (gAlt a b):=by
 refine ⟨by simp [gAlt,ha.sets,hb.sets],fun i h=>?_,fun i h=>?_,fun i j h=>?_⟩
 ·simp only [gAlt] at h ⊢;rw [if_neg (by omega),hb.first _ (by omega)]
 ·simp only [gAlt] at h ⊢;rw [if_neg (by omega),hb.last _ (by omega)]
 ·simp only [gAlt,blk] at h ⊢
  split<;>split
  ·omega
  ·rfl
  ·rfl
  ·exact hb.follow _ _ (by omega)
theorem canon_again {a:GA} (h:Canon a):Canon (gAgain a):=
 ⟨h.sets,h.first,h.last,fun i j hij=>by
   simp only [gAgain] at hij ⊢
   rw [h.follow i j hij]
   rcases hij with hi | hj
   ·rw [h.last i hi];rfl
   ·rw [h.first j hj];simp⟩
theorem canon_maybe {a:GA} (h:Canon a):Canon (gMaybe a):=⟨h.sets,h.first,h.last,h.follow⟩
def iter (f:GA→GA):Nat→GA→GA
 | 0,z=>z
 | k+1,z=>f (iter f k z)
theorem canon_iter {f:GA→GA} (hf:∀ a,Canon a→Canon (f a)):∀ k {z},Canon z→Canon (iter f k z)
 | 0,_,h=>h
 | k+1,_,h=>hf _ (canon_iter hf k h)
def gRep (a:GA) (lo hi:Int):GA:=
 if hi < 0 then iter (gCat a) (max lo 1 - 1).toNat (if lo=0 then gMaybe (gAgain a) else gAgain a)
 else iter (gCat a) lo.toNat (iter (fun o=>gMaybe (gCat a o)) (hi - lo).toNat gEmpty)
theorem canon_rep {a:GA} (h:Canon a) (lo hi:Int):Canon (gRep a lo hi):=by
 unfold gRep
 split
 ·refine canon_iter (fun b hb=>canon_cat h hb) _ ?_
  split
  ·exact canon_maybe (canon_again h)
  ·exact canon_again h
 ·exact canon_iter (fun b hb=>canon_cat h hb) _ (canon_iter (fun b hb=>canon_maybe (canon_cat h hb)) _ canon_empty)
def gof:api_Rx→GA:=cata fun x l=>
 if x.Kind=2 then gByte x.Set else if x.Kind=3 then l.foldl gCat gEmpty else if x.Kind=4 then l.foldl gAlt gNone
 else if x.Kind=5 then gRep (l.headD gEmpty) x.Lo x.Hi else gEmpty
theorem gof_eq (x:api_Rx):gof x=if x.Kind=2 then gByte x.Set else if x.Kind=3 then x.Kids.foldl (fun o y=>gCat o (gof y)) gEmpty else if x.Kind=4 then x.Kids.foldl (fun o y=>gAlt o (gof y)) gNone
 else if x.Kind=5 then gRep ((x.Kids.map gof).headD gEmpty) x.Lo x.Hi else gEmpty:=by
 unfold gof;rw [cata_eq];simp only [List.foldl_map]
theorem canon_gof:∀ x,Canon (gof x):=by
 refine rxInd fun x ih=>?_
 have key:∀ (f:GA→GA→GA),(∀ a b,Canon a→Canon b→Canon (f a b))→∀ (l:List api_Rx) (z:GA),(∀ y∈l,y∈x.Kids)→Canon z→Canon (l.foldl (fun o y=>f o (gof y)) z):=by
  intro f hf l
  induction l with
  | nil=>intro z _ h;exact h
  | cons y r ih2=>intro z hl h;exact ih2 _ (fun a ha=>hl a (List.mem_cons_of_mem _ ha)) (hf _ _ h (ih y (hl y (List.mem_cons_self ..))))
 rw [gof_eq]
 split
 ·exact canon_byte _
 ·split
  ·exact key gCat (fun a b=>canon_cat) _ _ (fun _ h=>h) canon_empty
  ·split
   ·exact key gAlt (fun a b=>canon_alt) _ _ (fun _ h=>h) canon_none
   ·split
    ·refine canon_rep ?_ _ _
     cases hq:x.Kids with
     | nil=>exact canon_empty
     | cons y r=>exact ih y (by rw [hq];exact List.mem_cons_self ..)
    ·exact canon_empty
end Go.Ev.Pl
set_option linter.unusedSimpArgs false
set_option linter.unusedVariables false
namespace Go.Ev.Pl
open Go Go.Ev
def lst (n:Nat) (p:Nat→Bool) (off:Nat):List Int:=((List.range n).filter p).map fun i=>((i+off:Nat):Int)
theorem lst_mem {n:Nat} {p:Nat→Bool} {off:Nat} {x:Int}:x∈lst n p off↔∃ i,i < n∧p i=true∧x=((i+off:Nat):Int):=by
 simp only [lst,List.mem_map,List.mem_filter,List.mem_range]
 constructor
 ·rintro ⟨i,⟨h1,h2⟩,rfl⟩;exact ⟨i,h1,h2,rfl⟩
 ·rintro ⟨i,h1,h2,rfl⟩;exact ⟨i,⟨h1,h2⟩,rfl⟩
theorem lst_ss (n:Nat) (p:Nat→Bool) (off:Nat):SS (lst n p off):=by
 unfold lst SS
 rw [List.pairwise_map]
 refine List.Pairwise.filter _ ?_
 exact List.pairwise_lt_range.imp fun h=>by omega
theorem lst_len (n:Nat) (p:Nat→Bool) (off:Nat):(lst n p off).length≤n:=by
 unfold lst
 rw [List.length_map]
 exact Nat.le_trans (List.length_filter_le _ _) (by simp)
theorem lst_congr {n:Nat} {p q:Nat→Bool} {off:Nat} (h:∀ i,i < n→p i=q i):lst n p off=lst n q off:=by
 unfold lst
 rw [List.filter_congr fun i hi=>h i (List.mem_range.1 hi)]
theorem lst_left {n m:Nat} {p:Nat→Bool} {off:Nat} {q:Nat→Bool} (h1:∀ i,i < n→q i=p i) (h2:∀ i,n≤i→i < n+m→q i=false):lst n p off=lst (n+m) q off:=by
 refine ss_ext (lst_ss _ _ _) (lst_ss _ _ _) fun x=>?_
 rw [lst_mem,lst_mem]
 constructor
 ·rintro ⟨i,hi,hp,rfl⟩;exact ⟨i,by omega,by rw [h1 i hi];exact hp,rfl⟩
 ·rintro ⟨i,hi,hp,rfl⟩
  rcases Nat.lt_or_ge i n with h | h
  ·exact ⟨i,h,by rw [← h1 i h];exact hp,rfl⟩
  ·rw [h2 i h hi] at hp;cases hp
theorem lst_right {n m:Nat} {p:Nat→Bool} {off:Nat} {q:Nat→Bool} (h1:∀ i,i < n→q i=false) (h2:∀ i,i < m→q (n+i)=p i):lst m p (off+n)=lst (n+m) q off:=by
 refine ss_ext (lst_ss _ _ _) (lst_ss _ _ _) fun x=>?_
 rw [lst_mem,lst_mem]
 constructor
 ·rintro ⟨i,hi,hp,rfl⟩;exact ⟨n+i,by omega,by rw [h2 i hi];exact hp,by omega⟩
 ·rintro ⟨i,hi,hp,rfl⟩
  rcases Nat.lt_or_ge i n with h | h
  ·rw [h1 i h] at hp;cases hp
  ·exact ⟨i - n,by omega,by rw [← h2 _ (by omega),show n+(i - n)=i by omega];exact hp,by omega⟩
theorem lst_both {n m:Nat} {p p':Nat→Bool} {off:Nat} {q:Nat→Bool} {l:List Int} (hs:SS l) (hm:∀ x,x∈l↔x∈lst n p off∨x∈lst m p' (off+n)) (h1:∀ i,i < n→q i=p i) (h2:∀ i,i < m→q (n+i)=p' i):l=lst (n+m) q off:=by
 refine ss_ext hs (lst_ss _ _ _) fun x=>?_
 rw [hm,lst_mem,lst_mem,lst_mem]
 constructor
 ·rintro (⟨i,hi,hp,rfl⟩ | ⟨i,hi,hp,rfl⟩)
  ·exact ⟨i,by omega,by rw [h1 i hi];exact hp,rfl⟩
  ·exact ⟨n+i,by omega,by rw [h2 i hi];exact hp,by omega⟩
 ·rintro ⟨i,hi,hp,rfl⟩
  rcases Nat.lt_or_ge i n with h | h
  ·exact .inl ⟨i,h,by rw [← h1 i h];exact hp,rfl⟩
  ·exact .inr ⟨i - n,by omega,by rw [← h2 _ (by omega),show n+(i - n)=i by omega];exact hp,by omega⟩
def flw (g:GA) (off:Nat):List (List Int):=(List.range g.n).map fun i=>lst g.n (g.follow i) off
theorem flw_len (g:GA) (off:Nat):(flw g off).length=g.n:=by simp [flw]
theorem flw_get (g:GA) (off:Nat) {i:Nat} (h:i < g.n):(flw g off)[i]'(by rw [flw_len];exact h)=lst g.n (g.follow i) off:=by simp [flw]
theorem flw_ext {g:GA} {off:Nat} {l:List (List Int)} (hl:l.length=g.n) (h:∀ (i:Nat) (hi:i < l.length),l[i]=lst g.n (g.follow i) off):l=flw g off:=by
 apply List.ext_getElem
 ·rw [hl,flw_len]
 ·intro i h1 h2
  rw [h i h1,flw_get g off (by rw [hl] at h1;exact h1)]
def leadF (F:List (List Int)) (fr to:List Int):List (List Int):=F.mapIdx fun i f=>if (i:Int)∈fr then join f to else f
theorem leadF_len (F:List (List Int)) (fr to:List Int):(leadF F fr to).length=F.length:=by simp [leadF]
theorem leadF_get (F:List (List Int)) (fr to:List Int) {i:Nat} (h:i < F.length):(leadF F fr to)[i]'(by rw [leadF_len];exact h)=if (i:Int)∈fr then join F[i] to else F[i]:=by simp [leadF]
theorem lead_cat (F0:List (List Int)) (a b:GA):leadF (F0++flw a F0.length++flw b (F0.length+a.n)) (lst a.n a.last F0.length) (lst b.n b.first (F0.length+a.n))=F0++flw (gCat a b) F0.length:=by
 apply List.ext_getElem
 ·rw [leadF_len];simp only [List.length_append,flw_len];simp only [gCat];omega
 ·intro i h1 h2
  rw [leadF_len] at h1
  rw [leadF_get _ _ _ h1]
  simp only [List.length_append,flw_len] at h1
  have hin:(i:Int)∈lst a.n a.last F0.length↔F0.length≤i∧i < F0.length+a.n∧a.last (i - F0.length)=true:=by
   rw [lst_mem]
   constructor
   ·rintro ⟨j,hj,hp,e⟩
    have:i=j+F0.length:=by omega
    subst this
    exact ⟨by omega,by omega,by rw [Nat.add_sub_cancel];exact hp⟩
   ·rintro ⟨q1,q2,q3⟩
    exact ⟨i - F0.length,by omega,q3,by omega⟩
  rcases Nat.lt_or_ge i F0.length with hi | hi
  ·rw [if_neg (by rw [hin];omega),List.getElem_append_left (by simp only [List.length_append,flw_len];omega),List.getElem_append_left hi,List.getElem_append_left hi]
  ·have hr:(F0++flw (gCat a b) F0.length)[i]'h2=lst (a.n+b.n) ((gCat a b).follow (i - F0.length)) F0.length:=by
    rw [List.getElem_append_right hi,flw_get _ _ (by show _ < a.n+b.n;omega)];rfl
   rw [hr]
   rcases Nat.lt_or_ge i (F0.length+a.n) with hi2 | hi2
   ·have hl:(F0++flw a F0.length++flw b (F0.length+a.n))[i]'(by simp only [List.length_append,flw_len];omega)=lst a.n (a.follow (i - F0.length)) F0.length:=by
     rw [List.getElem_append_left (by simp only [List.length_append,flw_len];omega),List.getElem_append_right hi,flw_get _ _ (by omega)]
    rw [hl]
    by_cases hla:a.last (i - F0.length)=true
    ·rw [if_pos (hin.2 ⟨hi,hi2,hla⟩)]
     obtain ⟨j1,j2⟩:=join_spec (lst a.n (a.follow (i - F0.length)) F0.length) (lst b.n b.first (F0.length+a.n))
     refine lst_both j1 j2 (fun j hj=>?_) (fun j hj=>?_)
     ·simp only [gCat,blk];rw [if_pos (by omega),if_pos hj]
     ·simp only [gCat,blk];rw [if_pos (by omega),if_neg (by omega),hla,Nat.add_sub_cancel_left];rfl
    ·rw [if_neg (fun h=>hla (hin.1 h).2.2)]
     have hla:a.last (i - F0.length)=false:=by simpa using hla
     refine lst_left (fun j hj=>?_) (fun j h1 h2=>?_)
     ·simp only [gCat,blk];rw [if_pos (by omega),if_pos hj]
     ·simp only [gCat,blk];rw [if_pos (by omega),if_neg (by omega),hla];rfl
   ·rw [if_neg (by rw [hin];omega)]
    have hl:(F0++flw a F0.length++flw b (F0.length+a.n))[i]'(by simp only [List.length_append,flw_len];omega)=lst b.n (b.follow (i - (F0.length+a.n))) (F0.length+a.n):=by
     rw [List.getElem_append_right (by simp only [List.length_append,flw_len];omega)]
     simp only [List.length_append,flw_len]
     rw [flw_get _ _ (by omega)]
    rw [hl]
    refine lst_right (fun j hj=>?_) (fun j hj=>?_)
    ·simp only [gCat,blk];rw [if_neg (by omega),if_pos hj]
    ·simp only [gCat,blk];rw [if_neg (by omega),if_neg (by omega),show i - F0.length - a.n=i - (F0.length+a.n) by omega,Nat.add_sub_cancel_left]
theorem lead_again (F0:List (List Int)) (a:GA):leadF (F0++flw a F0.length) (lst a.n a.last F0.length) (lst a.n a.first F0.length)=F0++flw (gAgain a) F0.length:=by
 apply List.ext_getElem
 ·rw [leadF_len];simp only [List.length_append,flw_len];rfl
 ·intro i h1 h2
  rw [leadF_len] at h1
  rw [leadF_get _ _ _ h1]
  simp only [List.length_append,flw_len] at h1
  have hin:(i:Int)∈lst a.n a.last F0.length↔F0.length≤i∧i < F0.length+a.n∧a.last (i - F0.length)=true:=by
   rw [lst_mem]
   constructor
   ·rintro ⟨j,hj,hp,e⟩
    have:i=j+F0.length:=by omega
    subst this
    exact ⟨by omega,by omega,by rw [Nat.add_sub_cancel];exact hp⟩
   ·rintro ⟨q1,q2,q3⟩
    exact ⟨i - F0.length,by omega,q3,by omega⟩
  rcases Nat.lt_or_ge i F0.length with hi | hi
  ·rw [if_neg (by rw [hin];omega),List.getElem_append_left hi,List.getElem_append_left hi]
  ·have hr:(F0++flw (gAgain a) F0.length)[i]'h2=lst a.n ((gAgain a).follow (i - F0.length)) F0.length:=by
    rw [List.getElem_append_right hi,flw_get _ _ (by show _ < a.n;omega)];rfl
   have hl:(F0++flw a F0.length)[i]'(by simp only [List.length_append,flw_len];omega)=lst a.n (a.follow (i - F0.length)) F0.length:=by
    rw [List.getElem_append_right hi,flw_get _ _ (by omega)]
   rw [hr,hl]
   by_cases hla:a.last (i - F0.length)=true
   ·rw [if_pos (hin.2 ⟨hi,by omega,hla⟩)]
    obtain ⟨j1,j2⟩:=join_spec (lst a.n (a.follow (i - F0.length)) F0.length) (lst a.n a.first F0.length)
    refine ss_ext j1 (lst_ss _ _ _) fun x=>?_
    rw [j2,lst_mem,lst_mem,lst_mem]
    simp only [gAgain,hla,Bool.true_and,Bool.or_eq_true]
    constructor
    ·rintro (⟨j,q1,q2,rfl⟩ | ⟨j,q1,q2,rfl⟩)
     ·exact ⟨j,q1,.inl q2,rfl⟩
     ·exact ⟨j,q1,.inr q2,rfl⟩
    ·rintro ⟨j,q1,q2 | q2,rfl⟩
     ·exact .inl ⟨j,q1,q2,rfl⟩
     ·exact .inr ⟨j,q1,q2,rfl⟩
   ·rw [if_neg (fun h=>hla (hin.1 h).2.2)]
    have hla:a.last (i - F0.length)=false:=by simpa using hla
    exact lst_congr fun j hj=>by simp [gAgain,hla]
theorem flw_alt (a b:GA) (off:Nat):flw a off++flw b (off+a.n)=flw (gAlt a b) off:=by
 refine flw_ext (by simp [flw_len,gAlt]) fun i hi=>?_
 simp only [List.length_append,flw_len] at hi
 show _=lst (a.n+b.n) _ off
 rcases Nat.lt_or_ge i a.n with h | h
 ·rw [List.getElem_append_left (by rw [flw_len];exact h),flw_get _ _ h]
  refine lst_left (fun j hj=>?_) (fun j h1 h2=>?_)
  ·simp only [gAlt,blk];rw [if_pos h,if_pos hj]
  ·simp only [gAlt,blk];rw [if_pos h,if_neg (by omega)]
 ·rw [List.getElem_append_right (by rw [flw_len];exact h)]
  simp only [flw_len]
  rw [flw_get _ _ (by omega)]
  refine lst_right (fun j hj=>?_) (fun j hj=>?_)
  ·simp only [gAlt,blk];rw [if_neg (by omega),if_pos hj]
  ·simp only [gAlt,blk];rw [if_neg (by omega),if_neg (by omega),Nat.add_sub_cancel_left]
def pc (g:GA) (off:Nat):place_piece:=⟨lst g.n g.first off,lst g.n g.last off,g.null⟩
theorem cat_first (a b:GA) (off:Nat):(if a.null=true then join (lst a.n a.first off) (lst b.n b.first (off+a.n)) else lst a.n a.first off)=lst (a.n+b.n) (gCat a b).first off:=by
 split
 ·rename_i h
  obtain ⟨j1,j2⟩:=join_spec (lst a.n a.first off) (lst b.n b.first (off+a.n))
  exact lst_both j1 j2 (fun j hj=>by simp only [gCat];rw [if_pos hj]) (fun j hj=>by simp only [gCat];rw [if_neg (by omega),h,Nat.add_sub_cancel_left];rfl)
 ·rename_i h
  have h:a.null=false:=by simpa using h
  exact lst_left (fun j hj=>by simp only [gCat];rw [if_pos hj]) (fun j h1 h2=>by simp only [gCat];rw [if_neg (by omega),h];rfl)
theorem cat_last (a b:GA) (off:Nat):(if b.null=true then join (lst a.n a.last off) (lst b.n b.last (off+a.n)) else lst b.n b.last (off+a.n))=lst (a.n+b.n) (gCat a b).last off:=by
 split
 ·rename_i h
  obtain ⟨j1,j2⟩:=join_spec (lst a.n a.last off) (lst b.n b.last (off+a.n))
  exact lst_both j1 j2 (fun j hj=>by simp only [gCat];rw [if_pos hj,h];rfl) (fun j hj=>by simp only [gCat];rw [if_neg (by omega),Nat.add_sub_cancel_left])
 ·rename_i h
  have h:b.null=false:=by simpa using h
  exact lst_right (fun j hj=>by simp only [gCat];rw [if_pos hj,h];rfl) (fun j hj=>by simp only [gCat];rw [if_neg (by omega),Nat.add_sub_cancel_left])
theorem alt_first (a b:GA) (off:Nat):join (lst a.n a.first off) (lst b.n b.first (off+a.n))=lst (a.n+b.n) (gAlt a b).first off:=by
 obtain ⟨j1,j2⟩:=join_spec (lst a.n a.first off) (lst b.n b.first (off+a.n))
 exact lst_both j1 j2 (fun j hj=>by simp only [gAlt];rw [if_pos hj]) (fun j hj=>by simp only [gAlt];rw [if_neg (by omega),Nat.add_sub_cancel_left])
theorem alt_last (a b:GA) (off:Nat):join (lst a.n a.last off) (lst b.n b.last (off+a.n))=lst (a.n+b.n) (gAlt a b).last off:=by
 obtain ⟨j1,j2⟩:=join_spec (lst a.n a.last off) (lst b.n b.last (off+a.n))
 exact lst_both j1 j2 (fun j hj=>by simp only [gAlt];rw [if_pos hj]) (fun j hj=>by simp only [gAlt];rw [if_neg (by omega),Nat.add_sub_cancel_left])
end Go.Ev.Pl
set_option linter.unusedSimpArgs false
set_option linter.unusedVariables false
namespace Go.Ev.Pl
open Go Go.Ev
theorem set_eq {α:Type} {l:List α} {i:Nat} {x:α} {m:List α} (hl:m.length=l.length) (h1:∀ (j:Nat) (h:j < l.length),j≠i→m[j]'(by omega)=l[j]) (h2:∀ h:i < l.length,m[i]'(by omega)=x):l.set i x=m:=by
 apply List.ext_getElem
 ·simp [hl]
 ·intro j a b
  rw [List.getElem_set]
  split
  ·rename_i e;subst e;exact (h2 (by simpa using a)).symm
  ·rename_i e;exact (h1 j (by simpa using a) (fun h=>e h.symm)).symm
theorem flatten_take_succ {α:Type} {L:List (List α)} {i:Nat} (h:i < L.length):(L.take (i+1)).flatten=(L.take i).flatten++L[i]:=by
 rw [List.take_succ_eq_append_getElem h,List.flatten_append];simp
theorem flatten_take_le {α:Type} (L:List (List α)) (i:Nat):(L.take i).flatten.length≤L.flatten.length:=by
 conv=>rhs;rw [← List.take_append_drop i L]
 rw [List.flatten_append,List.length_append];omega
theorem concat_ok (L:List (List Int)) (hL:L.length < 1099511627776) (hT:L.flatten.length < 1000000000):C_slices_Concat__int_int L L.flatten:=by
 refine W_slices_Concat__int_int L _ ⟨fun s t=>∃ i:Nat,t=i∧i≤L.length∧s=(L.take i).flatten.length,fun s t=>(L.length - t).toNat,⟨0,rfl,by omega,by simp⟩,?_⟩
 rintro s t ⟨i,rfl,hi,rfl⟩
 have hb:=flatten_take_le L i
 refine ⟨fun ht=>?_,fun ht=>?_⟩
 ·have ht:i < L.length:=by simpa using ht
  have hs:=congrArg List.length (flatten_take_succ ht)
  rw [List.length_append] at hs
  have hb2:=flatten_take_le L (i+1)
  have hg:gd L (i:Int)=L[i]:=gd_nat ht
  have hw1:w64 (((L.take i).flatten.length:Int)+(gd L (i:Int)).length)=((L.take (i+1)).flatten.length:Int):=by
   rw [hg,hs];exact (w64_id (by omega) (by omega)).trans (by omega)
  have hw2:w64 ((i:Int)+1)=((i+1:Nat):Int):=w64_id (by omega) (by omega)
  rw [hw1,hw2]
  exact ⟨True,fun _=>⟨⟨i+1,rfl,by omega,rfl⟩,by dsimp only;omega⟩,by omega,by omega,fun h=>absurd (of_decide_eq_true h) (by omega),fun _=>trivial⟩
 ·refine ⟨⟨by omega,by omega⟩,fun l t=>∃ i:Nat,t=i∧i≤L.length∧l=(L.take i).flatten,fun l t=>(L.length - t).toNat,⟨0,rfl,by omega,rfl⟩,?_⟩
  rintro l t ⟨j,rfl,hj,rfl⟩
  have hb3:=flatten_take_le L j
  refine ⟨fun ht=>?_,fun ht=>?_⟩
  ·have ht:j < L.length:=by simpa using ht
   have hg:gd L (j:Int)=L[j]:=gd_nat ht
   have hs:=flatten_take_succ ht
   have hs2:=congrArg List.length hs
   rw [List.length_append] at hs2
   have hb2:=flatten_take_le L (j+1)
   have hw2:w64 ((j:Int)+1)=((j+1:Nat):Int):=w64_id (by omega) (by omega)
   rw [hw2,hg]
   exact ⟨by omega,by omega,by omega,⟨j+1,rfl,by omega,hs.symm⟩,by dsimp only;omega⟩
  ·have:j=L.length:=by have:¬ j < L.length:=by simpa using ht
                       omega
   subst this
   rw [List.take_of_length_le (Nat.le_refl _)]
theorem join_ok (a b:List Int) (ha:a.length < 100000000) (hb:b.length < 100000000):C_place_Join_int a b (join a b):=by
 have h:=concat_ok [a,b] (by simp) (by simp;omega)
 have e:[a,b].flatten=a++b:=by simp
 rw [e] at h
 exact W_place_Join_int a b _ ⟨_,h,by simp;omega,sort_len _,by rw [sort_len];simp;omega,rfl⟩
theorem lead_ok (fr to:List Int) (b:place_builder) (hfr:SS fr) (hin:∀ x∈fr,0≤x∧x < b.follow.length) (hto:to.length < 10000000) (hF:∀ f∈b.follow,f.length < 10000000) (hlen:fr.length < 10000000):C_place_builder_lead fr to b { sets:=b.sets,follow:=leadF b.follow fr to }:=by
 refine W_place_builder_lead fr to b _ ⟨fun F t=>∃ i:Nat,t=i∧i≤fr.length∧F=leadF b.follow (fr.take i) to,fun F t=>(fr.length - t).toNat,⟨0,rfl,by omega,by simp [leadF];exact (List.ext_getElem (by simp) (fun j h1 h2=>by simp))⟩,?_⟩
 rintro F t ⟨i,rfl,hi,rfl⟩
 refine ⟨fun ht=>?_,fun ht=>?_⟩
 ·have ht:i < fr.length:=by simpa using ht
  have hg:gd fr (i:Int)=fr[i]:=gd_nat ht
  rw [hg]
  obtain ⟨q0,q1⟩:=hin _ (List.getElem_mem ht)
  obtain ⟨e,he⟩:∃ e:Nat,fr[i]=e:=⟨fr[i].toNat,by omega⟩
  rw [he] at q1 ⊢
  have he2:e < b.follow.length:=by omega
  have hl:(leadF b.follow (fr.take i) to).length=b.follow.length:=leadF_len _ _ _
  have hnot:∀ j:Nat,(hj:j < b.follow.length)→j=e→¬ ((j:Int)∈fr.take i):=by
   rintro j hj rfl hm
   obtain ⟨k,hk,hk2⟩:=List.mem_iff_getElem.1 hm
   simp only [List.length_take] at hk
   rw [List.getElem_take] at hk2
   have:=List.pairwise_iff_getElem.1 hfr k i (by omega) ht (by omega)
   omega
  have hge:gd (leadF b.follow (fr.take i) to) (e:Int)=b.follow[e]:=by
   rw [gd_nat (by rw [hl];exact he2),leadF_get _ _ _ he2,if_neg (hnot e he2 rfl)]
  have hw2:w64 ((i:Int)+1)=((i+1:Nat):Int):=w64_id (by omega) (by omega)
  refine ⟨by omega,by omega,by omega,by rw [hl];omega,by rw [hl];omega,join b.follow[e] to,?_,by omega,by rw [hl];omega,by rw [hl];omega,?_⟩
  ·rw [hge];exact join_ok _ _ (by have:=hF _ (List.getElem_mem he2);omega) (by omega)
  ·rw [hw2]
   refine ⟨⟨i+1,rfl,by omega,?_⟩,by dsimp only;omega⟩
   show List.set _ e _=_
   refine set_eq (by rw [leadF_len,leadF_len]) (fun j hj hne=>?_) (fun hj=>?_)
   ·rw [hl] at hj
    rw [leadF_get _ _ _ hj,leadF_get _ _ _ hj,List.take_succ_eq_append_getElem ht,he]
    have:((j:Int)∈fr.take i++[(e:Int)])↔(j:Int)∈fr.take i:=by
     rw [List.mem_append,List.mem_singleton]
     constructor
     ·rintro (h | h)
      ·exact h
      ·exact absurd (by omega) hne
     ·exact .inl
    simp only [this]
   ·rw [leadF_get _ _ _ he2,List.take_succ_eq_append_getElem ht,he,if_pos (by simp)]
 ·have:i=fr.length:=by have:¬ i < fr.length:=by simpa using ht
                       omega
  subst this
  rw [List.take_of_length_le (Nat.le_refl _)]
theorem flw_small (g:GA) (off:Nat) (h:g.n < 10000000):∀ f∈flw g off,f.length < 10000000:=by
 intro f hf
 simp only [flw,List.mem_map,List.mem_range] at hf
 obtain ⟨i,_,rfl⟩:=hf
 have:=lst_len g.n (g.follow i) off
 omega
theorem cat_ok (F0:List (List Int)) (S:List arr4_uint64) (a b:GA) (hF:∀ f∈F0,f.length < 10000000) (hab:a.n+b.n < 1000000) (hF2:F0.length < 1000000) :
 C_place_builder_cat (pc a F0.length) (pc b (F0.length+a.n)) { sets:=S,follow:=F0++flw a F0.length++flw b (F0.length+a.n) } (pc (gCat a b) F0.length) { sets:=S,follow:=F0++flw (gCat a b) F0.length }:=by
 have hla:=lst_len a.n a.last F0.length
 have hlb:=lst_len b.n b.first (F0.length+a.n)
 have hlb2:=lst_len b.n b.last (F0.length+a.n)
 have hla2:=lst_len a.n a.first F0.length
 have hlead:=lead_ok (lst a.n a.last F0.length) (lst b.n b.first (F0.length+a.n)) { sets:=S,follow:=F0++flw a F0.length++flw b (F0.length+a.n) } (lst_ss _ _ _) (fun x hx=>by
  obtain ⟨i,hi,_,rfl⟩:=lst_mem.1 hx
  simp only [List.length_append,flw_len];omega) (by omega) (fun f hf=>by
  rcases List.mem_append.1 hf with hf | hf
  ·rcases List.mem_append.1 hf with hf | hf
   ·exact hF f hf
   ·exact flw_small a _ (by omega) f hf
  ·exact flw_small b _ (by omega) f hf) (by omega)
 simp only [lead_cat] at hlead
 refine W_place_builder_cat _ _ _ _ _ ⟨_,hlead,fun l=>l=lst (a.n+b.n) (gCat a b).first F0.length,?_,fun hn=>⟨_,join_ok _ _ (by show (lst _ _ _).length < _;omega) (by show (lst _ _ _).length < _;omega),?_⟩,fun hn=>?_⟩
 ·rintro l rfl
  refine ⟨fun l=>l=lst (a.n+b.n) (gCat a b).last F0.length,?_,fun hn=>⟨_,join_ok _ _ (by show (lst _ _ _).length < _;omega) (by show (lst _ _ _).length < _;omega),?_⟩,fun hn=>?_⟩
  ·rintro l rfl;exact ⟨rfl,rfl⟩
  ·have:=cat_last a b F0.length
   rw [if_pos (show b.null=true from hn)] at this;exact this
  ·have:=cat_last a b F0.length
   rw [if_neg (by show ¬ (b.null=true);have:b.null=false:=hn;simp [this])] at this;exact this
 ·have:=cat_first a b F0.length
  rw [if_pos (show a.null=true from hn)] at this;exact this
 ·have:=cat_first a b F0.length
  rw [if_neg (by show ¬ (a.null=true);have:a.null=false:=hn;simp [this])] at this;exact this
end Go.Ev.Pl
set_option linter.unusedSimpArgs false
set_option linter.unusedVariables false
namespace Go.Ev.Pl
open Go Go.Ev
def Rgt (x:api_Rx):Prop:=∃ d,rgt x d=true
theorem rgt_own {x:api_Rx} (h:Rgt x):ownB x=true∧∀ k∈x.Kids,Rgt k:=by
 obtain ⟨d,h⟩:=h
 rw [rgt_eq] at h
 simp only [Bool.and_eq_true,List.all_eq_true] at h
 exact ⟨h.1.2,fun k hk=>⟨d - 1,(h.2 k hk).2⟩⟩
theorem own_rep {x:api_Rx} (h:ownB x=true) (h5:x.Kind=5):(∃ k,x.Kids=[k])∧0≤x.Lo∧x.Lo≤20∧(x.Hi = -1∨1≤x.Hi∧x.Lo≤x.Hi∧x.Hi≤20):=by
 simp only [ownB,if_pos h5,timesB,Bool.and_eq_true,decide_eq_true_eq,Bool.or_eq_true,beq_iff_eq] at h
 obtain ⟨_,h1,h2,h3,h4⟩:=h
 refine ⟨?_,h2,h3,?_⟩
 ·match hq:x.Kids,h1 with
  | [k],_=>exact ⟨k,rfl⟩
 ·rcases h4 with h4 | ⟨h4,h5⟩
  ·exact .inl h4
  ·exact .inr (by omega)
theorem own_kids {x:api_Rx} (h:ownB x=true) (h34:x.Kind=3∨x.Kind=4):2≤x.Kids.length:=by
 simp only [ownB] at h
 rw [if_neg (by omega),if_neg (by omega),if_neg (by omega),if_pos h34] at h
 simp only [Bool.and_eq_true,decide_eq_true_eq] at h
 exact h.2.2
theorem own_kind {x:api_Rx} (h:ownB x=true):x.Kind=1∨x.Kind=2∨x.Kind=3∨x.Kind=4∨x.Kind=5:=by
 simp only [ownB] at h
 split at h
 ·omega
 ·split at h
  ·omega
  ·split at h
   ·omega
   ·split at h
    ·omega
    ·cases h
theorem iter_n {f:GA→GA} {a:GA} (hf:∀ o,(f o).n=a.n+o.n):∀ k z,(iter f k z).n=k * a.n+z.n
 | 0,z=>by simp [iter]
 | k+1,z=>by rw [iter,hf,iter_n hf k,Nat.succ_mul];omega
def cpS (a:GA) (k:Nat):List arr4_uint64:=(List.replicate k a.sets).flatten
theorem iter_sets {f:GA→GA} {a:GA} (hf:∀ o,(f o).sets=a.sets++o.sets):∀ k z,(iter f k z).sets=cpS a k++z.sets
 | 0,z=>by simp [iter,cpS]
 | k+1,z=>by rw [iter,hf,iter_sets hf k];simp [cpS,List.replicate_succ]
theorem iter_null (a:GA):∀ k z,(iter (gCat a) k z).null=(z.null && (decide (k=0) || a.null))
 | 0,z=>by simp [iter]
 | k+1,z=>by
   rw [iter]
   show (a.null && (iter (gCat a) k z).null)=_
   rw [iter_null a k z]
   cases a.null<;>cases z.null<;>simp
theorem rep_n (a:GA) {lo hi:Int} (h1:0≤lo) (h2:hi = -1∨1≤hi∧lo≤hi):(gRep a lo hi).n=(max 1 (max lo hi)).toNat * a.n:=by
 unfold gRep
 split
 ·rw [iter_n (f:=gCat a) (a:=a) (fun _=>rfl)]
  have:(if lo=0 then gMaybe (gAgain a) else gAgain a).n=a.n:=by split<;>rfl
  rw [this,← Nat.succ_mul]
  congr 1
  omega
 ·rw [iter_n (f:=gCat a) (a:=a) (fun _=>rfl),iter_n (f:=fun o=>gMaybe (gCat a o)) (a:=a) (fun _=>rfl)]
  show _+(_+0)=_
  rw [Nat.add_zero,← Nat.add_mul]
  congr 1
  omega
theorem rep_sets (a:GA) {lo hi:Int} (h1:0≤lo) (h2:hi = -1∨1≤hi∧lo≤hi):(gRep a lo hi).sets=cpS a (max 1 (max lo hi)).toNat:=by
 have key:∀ j k,cpS a j++cpS a k=cpS a (j+k):=fun j k=>by
  simp only [cpS];rw [← List.flatten_append,List.replicate_append_replicate]
 unfold gRep
 split
 ·rw [iter_sets (f:=gCat a) (a:=a) (fun _=>rfl)]
  have:(if lo=0 then gMaybe (gAgain a) else gAgain a).sets=cpS a 1:=by split<;>simp [cpS,gMaybe,gAgain]
  rw [this,key]
  congr 1
  omega
 ·rw [iter_sets (f:=gCat a) (a:=a) (fun _=>rfl),iter_sets (f:=fun o=>gMaybe (gCat a o)) (a:=a) (fun _=>rfl)]
  show _++(_++[])=_
  rw [List.append_nil,key]
  congr 1
  omega
theorem rep_null (a:GA) {lo hi:Int} (h1:0≤lo) (h2:hi = -1∨1≤hi∧lo≤hi):(gRep a lo hi).null=(decide (lo≤0) || a.null):=by
 unfold gRep
 split
 ·rw [iter_null]
  by_cases h:lo=0
  ·subst h;simp [gMaybe,gAgain];left;rfl
  ·have:¬ lo≤0:=by omega
   simp only [if_neg h,gAgain,this,decide_false,Bool.false_or]
   cases a.null<;>simp
 ·rw [iter_null]
  have hin:∀ k,(iter (fun o=>gMaybe (gCat a o)) k gEmpty).null=true:=by
   intro k;cases k<;>rfl
  rw [hin,Bool.true_and]
  congr 1
  simp only [decide_eq_decide];omega
theorem foldl_n {f:GA→GA→GA} (hf:∀ a b,(f a b).n=a.n+b.n):∀ (l:List api_Rx) (z:GA),(l.foldl (fun o y=>f o (gof y)) z).n=z.n+(l.map fun y=>(gof y).n).sum
 | [],z=>by simp
 | y :: r,z=>by rw [List.foldl_cons,foldl_n hf r,hf];simp;omega
theorem gof_n:∀ x,Rgt x→(gof x).n=sizeN x:=by
 refine rxInd fun x ih hr=>?_
 obtain ⟨ho,hk⟩:=rgt_own hr
 have hkn:(x.Kids.map fun y=>(gof y).n)=x.Kids.map sizeN:=List.map_congr_left fun y hy=>ih y hy (hk y hy)
 rw [gof_eq,sizeN_eq]
 rcases own_kind ho with h | h | h | h | h
 ·simp [h,gEmpty]
 ·simp [h,gByte]
 ·simp only [h]
  simp only [show ¬ ((3:Int)=2) by omega,if_false,if_true,show (3:Int)≤3∧(3:Int)≤5 from ⟨by omega,by omega⟩,show ¬ ((3:Int)=5) by omega]
  rw [foldl_n (f:=gCat) (fun _ _=>rfl),hkn]
  show 0+_=_;simp
 ·simp only [h]
  simp only [show ¬ ((4:Int)=2) by omega,show ¬ ((4:Int)=3) by omega,if_false,if_true,show (3:Int)≤4∧(4:Int)≤5 from ⟨by omega,by omega⟩,show ¬ ((4:Int)=5) by omega]
  rw [foldl_n (f:=gAlt) (fun _ _=>rfl),hkn]
  show 0+_=_;simp
 ·obtain ⟨⟨k,hq⟩,h1,h2,h3⟩:=own_rep ho h
  simp only [h]
  simp only [show ¬ ((5:Int)=2) by omega,show ¬ ((5:Int)=3) by omega,show ¬ ((5:Int)=4) by omega,if_false,if_true,show (3:Int)≤5∧(5:Int)≤5 from ⟨by omega,by omega⟩]
  rw [hq]
  simp only [List.map_cons,List.map_nil,List.headD_cons,List.sum_cons,List.sum_nil,Nat.add_zero]
  rw [rep_n _ h1 (by omega),ih k (by rw [hq];simp) (hk k (by rw [hq];simp)),Nat.mul_comm]
  congr 1
  simp only [timesN];omega
theorem foldl_null_cat:∀ (l:List api_Rx) (z:GA),(l.foldl (fun o y=>gCat o (gof y)) z).null=(z.null && l.all fun y=>(gof y).null)
 | [],z=>by simp
 | y :: r,z=>by rw [List.foldl_cons,foldl_null_cat r];simp [gCat,Bool.and_assoc]
theorem foldl_null_alt:∀ (l:List api_Rx) (z:GA),(l.foldl (fun o y=>gAlt o (gof y)) z).null=(z.null || l.any fun y=>(gof y).null)
 | [],z=>by simp
 | y :: r,z=>by rw [List.foldl_cons,foldl_null_alt r];simp [gAlt,Bool.or_assoc]
theorem all_congr' {l:List api_Rx} {p q:api_Rx→Bool} (h:∀ y∈l,p y=q y):l.all p=l.all q:=by
 induction l with
 | nil=>rfl
 | cons y r ih=>simp only [List.all_cons];rw [h y (List.mem_cons_self ..),ih fun z hz=>h z (List.mem_cons_of_mem _ hz)]
theorem any_congr' {l:List api_Rx} {p q:api_Rx→Bool} (h:∀ y∈l,p y=q y):l.any p=l.any q:=by
 induction l with
 | nil=>rfl
 | cons y r ih=>simp only [List.any_cons];rw [h y (List.mem_cons_self ..),ih fun z hz=>h z (List.mem_cons_of_mem _ hz)]
theorem gof_null:∀ x,Rgt x→(gof x).null=nullB x:=by
 refine rxInd fun x ih hr=>?_
 obtain ⟨ho,hk⟩:=rgt_own hr
 rw [gof_eq,nullB_eq]
 rcases own_kind ho with h | h | h | h | h
 ·simp [h,gEmpty]
 ·simp [h,gByte]
 ·simp only [h]
  simp only [show ¬ ((3:Int)=2) by omega,show ¬ ((3:Int)=1) by omega,if_false,if_true]
  rw [foldl_null_cat,all_congr' fun y hy=>ih y hy (hk y hy)];rfl
 ·simp only [h]
  simp only [show ¬ ((4:Int)=2) by omega,show ¬ ((4:Int)=3) by omega,show ¬ ((4:Int)=1) by omega,if_false,if_true]
  rw [foldl_null_alt,any_congr' fun y hy=>ih y hy (hk y hy)];rfl
 ·obtain ⟨⟨k,hq⟩,h1,h2,h3⟩:=own_rep ho h
  simp only [h]
  simp only [show ¬ ((5:Int)=2) by omega,show ¬ ((5:Int)=3) by omega,show ¬ ((5:Int)=4) by omega,show ¬ ((5:Int)=1) by omega,if_false,if_true]
  rw [hq]
  simp only [List.map_cons,List.map_nil,List.headD_cons,List.all_cons,List.all_nil,Bool.and_true]
  rw [rep_null _ h1 (by omega),ih k (by rw [hq];simp) (hk k (by rw [hq];simp))]
theorem zero_null:∀ x,Rgt x→sizeN x=0→nullB x=true:=by
 refine rxInd fun x ih hr h0=>?_
 obtain ⟨ho,hk⟩:=rgt_own hr
 rw [sizeN_eq] at h0
 rw [nullB_eq]
 have hsum:(x.Kids.map sizeN).sum=0→∀ y∈x.Kids,nullB y=true:=fun h y hy=>ih y hy (hk y hy) (by
  have:=List.sum_eq_zero_iff_forall_eq_nat.1 h (sizeN y) (List.mem_map.2 ⟨y,hy,rfl⟩);exact this)
 rcases own_kind ho with h | h | h | h | h
 ·simp [h]
 ·simp [h] at h0
 ·simp only [h] at h0 ⊢
  simp at h0
  simp only [show ¬ ((3:Int)=1) by omega,if_false,if_true,List.all_eq_true]
  exact hsum h0
 ·simp only [h] at h0 ⊢
  simp at h0
  have h2:=own_kids ho (.inr h)
  simp only [show ¬ ((4:Int)=1) by omega,show ¬ ((4:Int)=3) by omega,if_false,if_true]
  have hm:x.Kids[0]'(by omega)∈x.Kids:=List.getElem_mem _
  exact List.any_eq_true.2 ⟨_,hm,hsum h0 _ hm⟩
 ·obtain ⟨⟨k,hq⟩,h1,h2,h3⟩:=own_rep ho h
  simp only [h] at h0 ⊢
  simp only [show ¬ ((5:Int)=2) by omega,if_false,if_true,show (3:Int)≤5∧(5:Int)≤5 from ⟨by omega,by omega⟩] at h0
  have ht:1≤timesN x:=by simp only [timesN];omega
  have hs:(x.Kids.map sizeN).sum=0:=by
   rcases Nat.mul_eq_zero.1 h0 with h | h
   ·exact h
   ·omega
  simp only [show ¬ ((5:Int)=3) by omega,show ¬ ((5:Int)=4) by omega,show ¬ ((5:Int)=1) by omega,if_false,if_true]
  have:x.Kids.all nullB=true:=List.all_eq_true.2 (hsum hs)
  rw [this];simp
theorem gof_zero {x:api_Rx} (hr:Rgt x) (h0:sizeN x=0):gof x=gEmpty:=
 canon_zero (canon_gof x) ((gof_n x hr).trans h0) ((gof_null x hr).trans (zero_null x hr h0))
end Go.Ev.Pl
set_option linter.unusedSimpArgs false
set_option linter.unusedVariables false
namespace Go.Ev.Pl
open Go Go.Ev
def hF (h:Nat→GA) (m n:Nat):Nat→List (List Int)
 | 0=>[]
 | N+1=>hF h m n N++flw (h N) (m+N * n)
theorem hF_len {h:Nat→GA} {m n:Nat} (hn:∀ j,(h j).n=n):∀ N,(hF h m n N).length=N * n
 | 0=>by simp [hF]
 | N+1=>by rw [hF,List.length_append,hF_len hn N,flw_len,hn,Nat.succ_mul]
theorem hF_congr {h h':Nat→GA} {m n:Nat}:∀ N,(∀ j,j < N→h j=h' j)→hF h m n N=hF h' m n N
 | 0,_=>rfl
 | N+1,e=>by rw [hF,hF,hF_congr N (fun j hj=>e j (by omega)),e N (by omega)]
theorem hF_small {h:Nat→GA} {m n:Nat} (hs:∀ j,(h j).n < 10000000):∀ N,∀ f∈hF h m n N,f.length < 10000000
 | 0,f,hf=>by simp [hF] at hf
 | N+1,f,hf=>by
   rw [hF,List.mem_append] at hf
   rcases hf with hf | hf
   ·exact hF_small hs N f hf
   ·exact flw_small _ _ (hs N) f hf
theorem cpS_succ (a:GA) (k:Nat):cpS a (k+1)=cpS a k++a.sets:=by
 simp only [cpS,List.replicate_succ',List.flatten_append];simp
structure Room (F0:List (List Int)) (S:List arr4_uint64) (n:Nat):Prop where
 same:S.length=F0.length
 small:∀ f∈F0,f.length < 10000000
 room:F0.length+n < 1000000
def PieceOk (x:api_Rx):Prop:=∀ F0 S,Room F0 S (gof x).n→C_place_builder_piece x { sets:=S,follow:=F0 } (pc (gof x) F0.length) { sets:=S++(gof x).sets,follow:=F0++flw (gof x) F0.length }
theorem copies_ok {k:api_Rx} (hp:PieceOk k) (N:Nat) (hN:N≤1000) (F0:List (List Int)) (S:List arr4_uint64) (hr:Room F0 S (N * (gof k).n)) :
 C_place_builder_copies k N { sets:=S,follow:=F0 } ((List.range N).map fun i=>pc (gof k) (F0.length+i * (gof k).n)) { sets:=S++cpS (gof k) N,follow:=F0++hF (fun _=>gof k) F0.length (gof k).n N }:=by
 have hc:=canon_gof k
 refine W_place_builder_copies k N _ _ _ ⟨fun s f o t=>∃ i:Nat,t=i∧i≤N∧s=S++cpS (gof k) i∧f=F0++hF (fun _=>gof k) F0.length (gof k).n i∧o=(List.range i).map fun i=>pc (gof k) (F0.length+i * (gof k).n),
  fun _ _ _ t=>(N - t).toNat,⟨0,rfl,by omega,by simp [cpS],by simp [hF],rfl⟩,?_⟩
 rintro s f o t ⟨i,rfl,hi,rfl,rfl,rfl⟩
 refine ⟨fun ht=>?_,fun ht=>?_⟩
 ·have ht:i < N:=by simpa using ht
  have hle:(i+1) * (gof k).n≤N * (gof k).n:=Nat.mul_le_mul_right _ ht
  rw [Nat.add_mul,Nat.one_mul] at hle
  have hlen:(F0++hF (fun _=>gof k) F0.length (gof k).n i).length=F0.length+i * (gof k).n:=by rw [List.length_append,hF_len fun _=>rfl]
  have hroom:=hr.room
  have hsl:∀ j,(cpS (gof k) j).length=j * (gof k).n:=fun j=>by simp [cpS,hc.sets]
  have:=hp (F0++hF (fun _=>gof k) F0.length (gof k).n i) (S++cpS (gof k) i) ⟨by rw [hlen,List.length_append,hr.same,hsl],fun f hf=>by
   rcases List.mem_append.1 hf with hf | hf
   ·exact hr.small f hf
   ·exact hF_small (fun _=>by omega) i f hf,by rw [hlen];omega⟩
  rw [hlen,List.append_assoc,List.append_assoc,← cpS_succ] at this
  have hw2:w64 ((i:Int)+1)=((i+1:Nat):Int):=w64_id (by omega) (by omega)
  refine ⟨_,_,this,by simp;omega,?_⟩
  rw [hw2]
  exact ⟨⟨i+1,rfl,by omega,rfl,rfl,by rw [List.range_succ,List.map_append];rfl⟩,by dsimp only;omega⟩
 ·have:i=N:=by have:¬ i < N:=by simpa using ht
               omega
  subst this
  exact ⟨rfl,rfl⟩
def fromEnd (h:Nat→GA) (mb:Nat→Bool) (N:Nat):Nat→GA
 | 0=>gEmpty
 | i+1=>let o:=gCat (h (N - 1 - i)) (fromEnd h mb N i);if mb (N - 1 - i)=true then gMaybe o else o
theorem fromEnd_n {h:Nat→GA} {mb:Nat→Bool} {N n:Nat} (hn:∀ j,(h j).n=n):∀ i,(fromEnd h mb N i).n=i * n
 | 0=>by simp [fromEnd,gEmpty]
 | i+1=>by
   simp only [fromEnd]
   have:(gCat (h (N - 1 - i)) (fromEnd h mb N i)).n=(i+1) * n:=by
    show (h (N - 1 - i)).n+(fromEnd h mb N i).n=_
    rw [hn,fromEnd_n hn i,Nat.succ_mul];omega
   split
   ·exact this
   ·exact this
theorem rep_loop {x:api_Rx} {h:Nat→GA} {N n:Nat} {F0:List (List Int)} {S S':List arr4_uint64} (hn:∀ j,(h j).n=n) (hr:Room F0 S (N * n)) (hN:N≤1000) {l:List place_piece} (hl:l=(List.range N).map fun j=>pc (h j) (F0.length+j * n))
 {res:place_piece} {fin:place_builder} (hres:res=pc (fromEnd h (fun j=>decide (x.Hi≥0) && decide ((j:Int)≥x.Lo)) N N) F0.length)
 (hfin:fin={ sets:=S',follow:=F0++flw (fromEnd h (fun j=>decide (x.Hi≥0) && decide ((j:Int)≥x.Lo)) N N) F0.length }) :
 (List.length l < 1099511627776∧∃ (Inv24:Nat→List arr4_uint64→List (List Int)→List Int→List Int→Bool→Prop),Inv24 0 S' (F0++hF h F0.length n N) [] [] Bool.true∧
   (∀ (i:Nat) (y:place_piece),i < List.length l→l[List.length l - 1 - i]?=some y→∀ (s:List arr4_uint64) (f:List (List Int)) (o1 o2:List Int) (o3:Bool),Inv24 i s f o1 o2 o3→
     (∃ r0_6:place_piece,∃ o_4:place_builder,C_place_builder_cat y { first:=o1,last:=o2,null:=o3 } { sets:=s,follow:=f } r0_6 o_4∧
       (((decide (x.Hi≥0) && decide ((List.length l:Int) - 1 - i≥x.Lo))=true→(∃ r0_7:place_piece,C_place_maybe r0_6 r0_7∧Inv24 (i+1) o_4.sets o_4.follow r0_7.first r0_7.last r0_7.null))∧
         ((decide (x.Hi≥0) && decide ((List.length l:Int) - 1 - i≥x.Lo))=false→Inv24 (i+1) o_4.sets o_4.follow r0_6.first r0_6.last r0_6.null))))∧
   (∀ (s:List arr4_uint64) (f:List (List Int)) (o1 o2:List Int) (o3:Bool),Inv24 (List.length l) s f o1 o2 o3→(res={ first:=o1,last:=o2,null:=o3 }∧fin={ sets:=s,follow:=f }))):=by
 have hll:l.length=N:=by rw [hl];simp
 obtain ⟨mb,hmb⟩:∃ mb:Nat→Bool,mb=fun j:Nat=>decide (x.Hi≥0) && decide ((j:Int)≥x.Lo):=⟨_,rfl⟩
 rw [← hmb] at hres hfin
 have hroom:=hr.room
 rw [hll]
 refine ⟨by omega,fun i s f o1 o2 o3=>i≤N∧s=S'∧f=F0++hF h F0.length n (N - i)++flw (fromEnd h mb N i) (F0.length+(N - i) * n)∧(⟨o1,o2,o3⟩:place_piece)=pc (fromEnd h mb N i) (F0.length+(N - i) * n),⟨by omega,rfl,by simp [fromEnd,flw,gEmpty],rfl⟩,?_,?_⟩
 ·rintro i y hi hy s f o1 o2 o3 ⟨_,rfl,rfl,hp⟩
  have hy:y=pc (h (N - 1 - i)) (F0.length+(N - 1 - i) * n):=by
   rw [hl,List.getElem?_map,List.getElem?_range (by omega)] at hy
   simpa using hy.symm
  have e1:N - i=(N - 1 - i)+1:=by omega
  have hlen:(F0++hF h F0.length n (N - 1 - i)).length=F0.length+(N - 1 - i) * n:=by rw [List.length_append,hF_len hn]
  have hmul:(N - 1 - i) * n+(n+i * n)=N * n:=by
   have:N=(N - 1 - i)+(1+i):=by omega
   conv=>rhs;rw [this,Nat.add_mul,Nat.add_mul,Nat.one_mul]
  have hcat:=cat_ok (F0++hF h F0.length n (N - 1 - i)) s (h (N - 1 - i)) (fromEnd h mb N i) (fun f hf=>by
   rcases List.mem_append.1 hf with hf | hf
   ·exact hr.small f hf
   ·exact hF_small (fun j=>by have:=hn j;omega) _ f hf) (by rw [hn,fromEnd_n hn];omega) (by rw [hlen];omega)
  rw [hlen,hn] at hcat
  have hpos:F0.length+(N - 1 - i) * n+n=F0.length+(N - i) * n:=by rw [e1,Nat.succ_mul];omega
  rw [hpos] at hcat
  have hfl:F0++hF h F0.length n (N - i)=F0++hF h F0.length n (N - 1 - i)++flw (h (N - 1 - i)) (F0.length+(N - 1 - i) * n):=by
   rw [e1,hF,List.append_assoc]
  rw [hfl,hp,hy]
  refine ⟨_,_,hcat,fun hm=>⟨_,W_place_maybe _ _ rfl,?_⟩,fun hm=>?_⟩
  all_goals have hidx:((N:Int) - 1 - i)=((N - 1 - i:Nat):Int):=by omega
  all_goals rw [hidx] at hm
  all_goals have e2:N - (i+1)=N - 1 - i:=by omega
  ·have hf:fromEnd h mb N (i+1)=gMaybe (gCat (h (N - 1 - i)) (fromEnd h mb N i)):=by
    simp only [fromEnd];rw [if_pos];rw [hmb];exact hm
   dsimp only;rw [hf,e2]
   exact ⟨by omega,rfl,rfl,rfl⟩
  ·have hf:fromEnd h mb N (i+1)=gCat (h (N - 1 - i)) (fromEnd h mb N i):=by
    simp only [fromEnd];rw [if_neg];rw [hmb];simpa using hm
   dsimp only;rw [hf,e2]
   exact ⟨by omega,rfl,rfl,rfl⟩
 ·rintro s f o1 o2 o3 ⟨_,rfl,rfl,hp⟩
  rw [Nat.sub_self,Nat.zero_mul,Nat.add_zero] at hp
  refine ⟨by rw [hres,hp],?_⟩
  rw [hfin]
  simp [hF]
end Go.Ev.Pl
set_option linter.unusedSimpArgs false
set_option linter.unusedVariables false
namespace Go.Ev.Pl
open Go Go.Ev
theorem fromEnd_neg {g z:GA} {h:Nat→GA} {mb:Nat→Bool} {N:Nat} (hz:Canon z) (hN:1≤N) (hh:∀ j,j < N - 1→h j=g) (hl:h (N - 1)=z) (hm:∀ j,mb j=false):∀ i,i < N→fromEnd h mb N (i+1)=iter (gCat g) i z
 | 0,hi=>by
   simp only [fromEnd,hm]
   rw [if_neg (by simp),Nat.sub_zero,hl,cat_empty_r hz];rfl
 | i+1,hi=>by
   have ih:=fromEnd_neg hz hN hh hl hm i (by omega)
   rw [fromEnd]
   simp only [hm]
   rw [if_neg (by simp),ih,hh _ (by omega)];rfl
theorem fromEnd_pos {g:GA} {h:Nat→GA} {mb:Nat→Bool} {N L:Nat} (hL:L≤N) (hh:∀ j,h j=g) (hm:∀ j,j < N→mb j=decide (L≤j)):∀ i,i≤N→
 fromEnd h mb N i=iter (gCat g) (i - (N - L)) (iter (fun o=>gMaybe (gCat g o)) (min i (N - L)) gEmpty)
 | 0,_=>by simp [fromEnd,iter]
 | i+1,hi=>by
   have ih:=fromEnd_pos hL hh hm i (by omega)
   rw [fromEnd]
   simp only [hh,ih]
   rw [hm _ (by omega)]
   by_cases hc:L≤N - 1 - i
   ·rw [if_pos (by simpa using hc),show i - (N - L)=0 by omega,show i+1 - (N - L)=0 by omega,show min i (N - L)=i by omega,show min (i+1) (N - L)=i+1 by omega];rfl
   ·rw [if_neg (by simpa using hc),show i+1 - (N - L)=(i - (N - L))+1 by omega,show min i (N - L)=N - L by omega,show min (i+1) (N - L)=N - L by omega];rfl
theorem flw_again (g:GA) (b:Prop) [Decidable b] (off:Nat):flw (if b then gMaybe (gAgain g) else gAgain g) off=flw (gAgain g) off:=by split<;>rfl
theorem map_range_set {α:Type} {f:Nat→α} {N i:Nat} {v:α} (h:i < N):((List.range N).map f).set i v=(List.range N).map fun j=>if j=i then v else f j:=by
 refine set_eq (by simp) (fun j hj hne=>?_) (fun hj=>?_)
 ·simp only [List.getElem_map,List.getElem_range];rw [if_neg hne]
 ·simp only [List.getElem_map,List.getElem_range,if_true]
theorem rep_ok {x:api_Rx} (hr:Rgt x) (h5:x.Kind=5) (hw:Wf x) (hp:∀ k∈x.Kids,PieceOk k) (F0:List (List Int)) (S:List arr4_uint64) (hroom:Room F0 S (gof x).n) :
 C_place_builder_rep x { sets:=S,follow:=F0 } (pc (gof x) F0.length) { sets:=S++(gof x).sets,follow:=F0++flw (gof x) F0.length }:=by
 obtain ⟨ho,hk⟩:=rgt_own hr
 obtain ⟨⟨k,hq⟩,h1,h2,h3⟩:=own_rep ho h5
 have hkm:k∈x.Kids:=by rw [hq];simp
 have hgn:=gof_n x hr
 have hgof:gof x=gRep (gof k) x.Lo x.Hi:=by
  rw [gof_eq,h5,hq];simp
 refine W_place_builder_rep x _ _ _ ⟨_,rxSize_ok x hw,fun h0=>?_,fun h0=>?_⟩
 ·have h0:sizeN x=0:=by
   have:sizeZ x=0:=by simpa using h0
   simp only [sizeZ] at this;omega
  rw [gof_zero hr h0]
  exact ⟨rfl,by simp [gEmpty,flw]⟩
 obtain ⟨N,hN⟩:∃ N:Nat,N=(max 1 (max x.Lo x.Hi)).toNat:=⟨_,rfl⟩
 have hN1:1≤N:=by omega
 have hN2:N≤20:=by omega
 have hNi:(N:Int)=max 1 (max x.Lo x.Hi):=by omega
 have hn:(gof x).n=N * (gof k).n:=by rw [hgof,rep_n _ h1 (by omega),hN]
 have hs:(gof x).sets=cpS (gof k) N:=by rw [hgof,rep_sets _ h1 (by omega),hN]
 have hroom2:Room F0 S (N * (gof k).n):=by rw [← hn];exact hroom
 have hcp:=copies_ok (hp k hkm) N (by omega) F0 S hroom2
 have hlen2:F0.length+N * (gof k).n < 1000000:=hroom2.room
 have hcnt:(if (1:Int) > if x.Hi > x.Lo then x.Hi else x.Lo then (1:Int) else if x.Hi > x.Lo then x.Hi else x.Lo)=(N:Int):=by rw [hNi];split<;>omega
 rw [hcnt,hq]
 simp only [List.length_cons,List.length_nil,List.getD_cons_zero]
 refine ⟨by omega,_,_,hcp,?_⟩
 rw [← hs]
 by_cases hneg:x.Hi < 0
 ·-- from some times on
  obtain ⟨z,hz⟩:∃ z:GA,z=if x.Lo=0 then gMaybe (gAgain (gof k)) else gAgain (gof k):=⟨_,rfl⟩
  have hzc:Canon z:=by rw [hz];split;exact canon_maybe (canon_again (canon_gof k));exact canon_again (canon_gof k)
  have hzn:z.n=(gof k).n:=by rw [hz];split<;>rfl
  obtain ⟨h,hh⟩:∃ h:Nat→GA,h=fun j=>if j=N - 1 then z else gof k:=⟨_,rfl⟩
  have hhn:∀ j,(h j).n=(gof k).n:=fun j=>by rw [hh];dsimp only;split;exact hzn;rfl
  have hfe:fromEnd h (fun j:Nat=>decide (x.Hi≥0) && decide ((j:Int)≥x.Lo)) N N=gof x:=by
   have:=fromEnd_neg (mb:=fun j:Nat=>decide (x.Hi≥0) && decide ((j:Int)≥x.Lo)) hzc hN1 (h:=h) (g:=gof k) (fun j hj=>by rw [hh];dsimp only;rw [if_neg (by omega)]) (by rw [hh];simp) (fun j=>by simp;omega) (N - 1) (by omega)
   rw [show N - 1+1=N by omega] at this
   rw [this,hgof]
   unfold gRep
   rw [if_pos hneg,← hz]
   congr 1;omega
  obtain ⟨N1,rfl⟩:∃ N1,N=N1+1:=⟨N - 1,by omega⟩
  have hF1:hF h F0.length (gof k).n (N1+1)=hF (fun _=>gof k) F0.length (gof k).n N1++flw (gAgain (gof k)) (F0.length+N1 * (gof k).n):=by
   rw [hF,hF_congr N1 (h':=fun _=>gof k) (fun j hj=>by rw [hh];dsimp only;rw [if_neg (by omega)])]
   congr 1
   rw [hh];dsimp only;rw [if_pos (by omega),hz,flw_again]
  refine ⟨fun s f l=>s=S++(gof x).sets∧f=F0++hF h F0.length (gof k).n (N1+1)∧l=(List.range (N1+1)).map fun j=>pc (h j) (F0.length+j * (gof k).n),?_,fun _=>?_,fun hc=>absurd (of_decide_eq_false hc) (by omega)⟩
  ·rintro s f l ⟨rfl,rfl,hl⟩
   exact ⟨backward_121 l,rep_loop (x:=x) (h:=h) (N:=N1+1) (S:=S) hhn hroom2 (by omega) hl (by rw [hfe]) (by rw [hfe])⟩
  ·have hwl:w64 ((((List.range (N1+1)).map fun i=>pc (gof k) (F0.length+i * (gof k).n)).length:Int) - 1)=(N1:Int):=by
    rw [List.length_map,List.length_range];exact (w64_id (by omega) (by omega)).trans (by omega)
   have hgl:gd ((List.range (N1+1)).map fun i=>pc (gof k) (F0.length+i * (gof k).n)) (N1:Int)=pc (gof k) (F0.length+N1 * (gof k).n):=by
    rw [gd_nat (by simp)];simp
   rw [hwl,hgl]
   have hlen:(F0++hF (fun _=>gof k) F0.length (gof k).n N1).length=F0.length+N1 * (gof k).n:=by rw [List.length_append,hF_len fun _=>rfl]
   have hmul:(N1+1) * (gof k).n=N1 * (gof k).n+(gof k).n:=Nat.succ_mul _ _
   have hla:=lst_len (gof k).n (gof k).last (F0.length+N1 * (gof k).n)
   have hlf:=lst_len (gof k).n (gof k).first (F0.length+N1 * (gof k).n)
   have hlead:=lead_ok (lst (gof k).n (gof k).last (F0.length+N1 * (gof k).n)) (lst (gof k).n (gof k).first (F0.length+N1 * (gof k).n)) { sets:=S++(gof x).sets,follow:=F0++hF (fun _=>gof k) F0.length (gof k).n (N1+1) } (lst_ss _ _ _) (fun y hy=>by
    obtain ⟨i,hi,_,rfl⟩:=lst_mem.1 hy
    simp only [List.length_append,hF_len fun _=>rfl];omega) (by omega) (fun f hf=>by
    rcases List.mem_append.1 hf with hf | hf
    ·exact hroom.small f hf
    ·exact hF_small (fun _=>by omega) _ f hf) (by omega)
   have hag:=lead_again (F0++hF (fun _=>gof k) F0.length (gof k).n N1) (gof k)
   rw [hlen,List.append_assoc,List.append_assoc] at hag
   have hag2:leadF (F0++hF (fun _=>gof k) F0.length (gof k).n (N1+1)) (lst (gof k).n (gof k).last (F0.length+N1 * (gof k).n)) (lst (gof k).n (gof k).first (F0.length+N1 * (gof k).n))=F0++hF h F0.length (gof k).n (N1+1):=by
    rw [hF1];exact hag
   simp only [hag2] at hlead
   have hset:∀ b:Bool,b=z.null→List.set ((List.range (N1+1)).map fun i=>pc (gof k) (F0.length+i * (gof k).n)) (Int.toNat (N1:Int)) { first:=(pc (gof k) (F0.length+N1 * (gof k).n)).first,last:=(pc (gof k) (F0.length+N1 * (gof k).n)).last,null:=b }=(List.range (N1+1)).map fun j=>pc (h j) (F0.length+j * (gof k).n):=by
    intro b hb
    rw [Int.toNat_natCast,map_range_set (by omega)]
    refine List.map_congr_left fun j hj=>?_
    rw [hh];dsimp only
    by_cases e:j=N1
    ·subst e
     rw [if_pos rfl,if_pos (by omega)]
     have e1:z.first=(gof k).first:=by rw [hz];split<;>rfl
     have e2:z.last=(gof k).last:=by rw [hz];split<;>rfl
     rw [hb]
     simp only [pc,hzn,e1,e2]
    ·rw [if_neg e,if_neg (by omega)]
   have hll:((List.range (N1+1)).map fun i=>pc (gof k) (F0.length+i * (gof k).n)).length=N1+1:=by simp
   rw [hll]
   refine ⟨by omega,by omega,by omega,by omega,_,hlead,by omega,fun hn=>⟨fun _=>by omega,rfl,rfl,hset _ ?_⟩,fun hn=>⟨fun _=>by omega,rfl,rfl,hset _ ?_⟩⟩
   ·have hn:(gof k).null=true:=hn
    rw [hz];split<;>simp [gMaybe,gAgain,hn]
   ·have hn:(gof k).null=false:=hn
    rw [hz]
    by_cases e:x.Lo=0
    ·rw [if_pos e,e];rfl
    ·rw [if_neg e]
     show (x.Lo == 0)=(gof k).null
     rw [hn];simpa using e
 ·-- from some times to others
  have hhi:1≤x.Hi∧x.Lo≤x.Hi:=by omega
  have hfe:fromEnd (fun _=>gof k) (fun j:Nat=>decide (x.Hi≥0) && decide ((j:Int)≥x.Lo)) N N=gof x:=by
   have:=fromEnd_pos (h:=fun _=>gof k) (g:=gof k) (mb:=fun j:Nat=>decide (x.Hi≥0) && decide ((j:Int)≥x.Lo)) (N:=N) (L:=x.Lo.toNat) (by omega) (fun _=>rfl) (fun j hj=>by
    have:decide (x.Hi≥0)=true:=by simp;omega
    simp only [this,Bool.true_and,decide_eq_decide];omega) N (Nat.le_refl _)
   rw [this,hgof]
   unfold gRep
   rw [if_neg hneg]
   congr 1
   ·omega
   ·congr 1;omega
  refine ⟨fun s f l=>s=S++(gof x).sets∧f=F0++hF (fun _=>gof k) F0.length (gof k).n N∧l=(List.range N).map fun j=>pc (gof k) (F0.length+j * (gof k).n),?_,fun hc=>absurd (of_decide_eq_true hc) hneg,fun _=>⟨rfl,rfl,rfl⟩⟩
  rintro s f l ⟨rfl,rfl,hl⟩
  exact ⟨backward_121 l,rep_loop (x:=x) (h:=fun _=>gof k) (N:=N) (S:=S) (fun _=>rfl) hroom2 (by omega) hl (by rw [hfe]) (by rw [hfe])⟩
end Go.Ev.Pl
set_option linter.unusedSimpArgs false
set_option linter.unusedVariables false
namespace Go.Ev.Pl
open Go Go.Ev
theorem pc_first (g:GA) (off:Nat):(pc g off).first=lst g.n g.first off:=rfl
theorem pc_last (g:GA) (off:Nat):(pc g off).last=lst g.n g.last off:=rfl
theorem pc_null (g:GA) (off:Nat):(pc g off).null=g.null:=rfl
theorem pre_n {f:GA→GA→GA} (hf:∀ a b,(f a b).n=a.n+b.n) {z:GA} (hz:z.n=0) {l:List api_Rx} {i:Nat} (h:i < l.length) :
 ((l.take i).foldl (fun o y=>f o (gof y)) z).n+(gof l[i]).n≤(l.foldl (fun o y=>f o (gof y)) z).n:=by
 have e:=foldl_n hf (l.take (i+1)) z
 rw [foldl_take_succ h,hf] at e
 rw [e,foldl_n hf]
 have:(l.map fun y=>(gof y).n).sum=((l.take (i+1)).map fun y=>(gof y).n).sum+((l.drop (i+1)).map fun y=>(gof y).n).sum:=by
  rw [← List.sum_append,← List.map_append,List.take_append_drop]
 omega
theorem piece_ok:∀ x,Wf x→Rgt x→PieceOk x:=by
 refine rxInd fun x ih hw hr=>?_
 obtain ⟨hl,hkw⟩:=(wf_eq x).1 hw
 obtain ⟨ho,hk⟩:=rgt_own hr
 intro F0 S hroom
 have hrm:=hroom.room
 refine W_place_builder_piece x _ _ _ ⟨fun h=>?_,fun h2=>⟨fun h=>?_,fun h3=>⟨fun h=>?_,fun h4=>⟨fun h=>?_,fun h5=>?_⟩⟩⟩⟩
 ·have h:x.Kind=2:=by simpa using h
  have hg:gof x=gByte x.Set:=by rw [gof_eq,if_pos h]
  rw [hg] at hrm ⊢
  have hrm:F0.length+1 < 1000000:=hrm
  refine ⟨_,_,W_place_builder_place _ _ _ _ ⟨?_,?_,rfl,rfl⟩,?_,?_⟩
  ·have:=hroom.same;simp only;omega
  ·simp only;omega
  ·have:lst 1 (fun i=>i == 0) F0.length=[(S.length:Int)]:=by
    rw [hroom.same];simp [lst,List.range_succ]
   simp only [pc,gByte,this]
  ·rfl
 ·have h:x.Kind=3:=by simpa using h
  have hg:gof x=x.Kids.foldl (fun o y=>gCat o (gof y)) gEmpty:=by rw [gof_eq];simp [h]
  refine ⟨fun s f a b c t=>∃ i:Nat,t=i∧i≤x.Kids.length∧s=S++((x.Kids.take i).foldl (fun o y=>gCat o (gof y)) gEmpty).sets∧f=F0++flw ((x.Kids.take i).foldl (fun o y=>gCat o (gof y)) gEmpty) F0.length∧(⟨a,b,c⟩:place_piece)=pc ((x.Kids.take i).foldl (fun o y=>gCat o (gof y)) gEmpty) F0.length,
   fun _ _ _ _ _ t=>(x.Kids.length - t).toNat,⟨0,rfl,by omega,by simp [gEmpty],by simp [gEmpty,flw],rfl⟩,?_⟩
  rintro s f a b c t ⟨i,rfl,hi,rfl,rfl,hp⟩
  refine ⟨fun ht=>?_,fun ht=>?_⟩
  ·have ht:i < x.Kids.length:=by simpa using ht
   have hm:=List.getElem_mem ht
   obtain ⟨o,ho'⟩:∃ o,o=(x.Kids.take i).foldl (fun o y=>gCat o (gof y)) gEmpty:=⟨_,rfl⟩
   have hn:=pre_n (f:=gCat) (fun _ _=>rfl) (z:=gEmpty) rfl ht
   rw [← hg,← ho'] at hn
   have hsucc:=foldl_take_succ (f:=fun o y=>gCat o (gof y)) (b:=gEmpty) ht
   rw [← ho'] at hsucc hp ⊢
   have hoc:Canon o:=by
    rw [ho']
    have:∀ (l:List api_Rx) (z:GA),Canon z→Canon (l.foldl (fun o y=>gCat o (gof y)) z):=by
     intro l
     induction l with
     | nil=>intro z h;exact h
     | cons y r ih2=>intro z h;exact ih2 _ (canon_cat h (canon_gof y))
    exact this _ _ canon_empty
   have hlen:(F0++flw o F0.length).length=F0.length+o.n:=by rw [List.length_append,flw_len]
   have hpk:=ih _ hm (hkw _ hm) (hk _ hm) (F0++flw o F0.length) (S++o.sets) ⟨by rw [hlen,List.length_append,hroom.same,hoc.sets],fun f hf=>by
    rcases List.mem_append.1 hf with hf | hf
    ·exact hroom.small f hf
    ·exact flw_small _ _ (by omega) f hf,by rw [hlen];omega⟩
   rw [hlen] at hpk
   have hcat:=cat_ok F0 ((S++o.sets)++(gof x.Kids[i]).sets) o (gof x.Kids[i]) hroom.small (by omega) (by omega)
   have hw2:w64 ((i:Int)+1)=((i+1:Nat):Int):=w64_id (by omega) (by omega)
   rw [gd_nat ht,hp]
   refine ⟨by omega,by omega,_,_,hpk,_,_,hcat,?_⟩
   rw [hw2]
   exact ⟨⟨i+1,rfl,by omega,by rw [hsucc];simp [gCat],by rw [hsucc],by rw [hsucc]⟩,by dsimp only;omega⟩
  ·have:i=x.Kids.length:=by have:¬ i < x.Kids.length:=by simpa using ht
                            omega
   subst this
   rw [List.take_of_length_le (Nat.le_refl _),← hg] at hp ⊢
   exact ⟨hp.symm,rfl⟩
 ·have h:x.Kind=4:=by simpa using h
  have hg:gof x=x.Kids.foldl (fun o y=>gAlt o (gof y)) gNone:=by rw [gof_eq];simp [h]
  refine ⟨fun s f a b c t=>∃ i:Nat,t=i∧i≤x.Kids.length∧s=S++((x.Kids.take i).foldl (fun o y=>gAlt o (gof y)) gNone).sets∧f=F0++flw ((x.Kids.take i).foldl (fun o y=>gAlt o (gof y)) gNone) F0.length∧(⟨a,b,c⟩:place_piece)=pc ((x.Kids.take i).foldl (fun o y=>gAlt o (gof y)) gNone) F0.length,
   fun _ _ _ _ _ t=>(x.Kids.length - t).toNat,⟨0,rfl,by omega,by simp [gNone],by simp [gNone,flw],rfl⟩,?_⟩
  rintro s f a b c t ⟨i,rfl,hi,rfl,rfl,hp⟩
  refine ⟨fun ht=>?_,fun ht=>?_⟩
  ·have ht:i < x.Kids.length:=by simpa using ht
   have hm:=List.getElem_mem ht
   obtain ⟨o,ho'⟩:∃ o,o=(x.Kids.take i).foldl (fun o y=>gAlt o (gof y)) gNone:=⟨_,rfl⟩
   have hn:=pre_n (f:=gAlt) (fun _ _=>rfl) (z:=gNone) rfl ht
   rw [← hg,← ho'] at hn
   have hsucc:=foldl_take_succ (f:=fun o y=>gAlt o (gof y)) (b:=gNone) ht
   rw [← ho'] at hsucc hp ⊢
   have hoc:Canon o:=by
    rw [ho']
    have:∀ (l:List api_Rx) (z:GA),Canon z→Canon (l.foldl (fun o y=>gAlt o (gof y)) z):=by
     intro l
     induction l with
     | nil=>intro z h;exact h
     | cons y r ih2=>intro z h;exact ih2 _ (canon_alt h (canon_gof y))
    exact this _ _ canon_none
   have hlen:(F0++flw o F0.length).length=F0.length+o.n:=by rw [List.length_append,flw_len]
   have hpk:=ih _ hm (hkw _ hm) (hk _ hm) (F0++flw o F0.length) (S++o.sets) ⟨by rw [hlen,List.length_append,hroom.same,hoc.sets],fun f hf=>by
    rcases List.mem_append.1 hf with hf | hf
    ·exact hroom.small f hf
    ·exact flw_small _ _ (by omega) f hf,by rw [hlen];omega⟩
   rw [hlen] at hpk
   have hw2:w64 ((i:Int)+1)=((i+1:Nat):Int):=w64_id (by omega) (by omega)
   rw [gd_nat ht]
   have hpa:a=lst o.n o.first F0.length:=congrArg place_piece.first hp
   have hpb:b=lst o.n o.last F0.length:=congrArg place_piece.last hp
   have hpc:c=o.null:=congrArg place_piece.null hp
   have l1:=lst_len o.n o.first F0.length
   have l2:=lst_len o.n o.last F0.length
   have l3:=lst_len (gof x.Kids[i]).n (gof x.Kids[i]).first (F0.length+o.n)
   have l4:=lst_len (gof x.Kids[i]).n (gof x.Kids[i]).last (F0.length+o.n)
   refine ⟨by omega,by omega,_,_,hpk,_,join_ok _ _ (by rw [hpa];omega) (by rw [pc_first];omega),_,join_ok _ _ (by rw [hpb];omega) (by rw [pc_last];omega),?_⟩
   rw [hw2]
   refine ⟨⟨i+1,rfl,by omega,by rw [hsucc];simp [gAlt],?_,?_⟩,by dsimp only;omega⟩
   ·rw [hsucc,← flw_alt,← List.append_assoc]
   ·rw [hsucc,hpa,hpb,hpc,pc_first,pc_last,pc_null,alt_first,alt_last];rfl
  ·have:i=x.Kids.length:=by have:¬ i < x.Kids.length:=by simpa using ht
                            omega
   subst this
   rw [List.take_of_length_le (Nat.le_refl _),← hg] at hp ⊢
   exact ⟨hp.symm,rfl⟩
 ·have h:x.Kind=5:=by simpa using h
  exact ⟨_,_,rep_ok hr h hw (fun k hkm=>ih k hkm (hkw k hkm) (hk k hkm)) F0 S hroom,rfl,rfl⟩
 ·have h1:x.Kind=1:=by
   simp only [beq_eq_false_iff_ne,ne_eq] at h2 h3 h4 h5
   have:=own_kind ho;omega
  have hg:gof x=gEmpty:=by rw [gof_eq];simp [h1]
  rw [hg]
  exact ⟨rfl,by simp [gEmpty,flw]⟩
def plc (g:GA):api_Places:=⟨g.sets,lst g.n g.first 0,lst g.n g.last 0,flw g 0,g.null⟩
def noPl:api_Places:=⟨[],[],[],[],false⟩
theorem size_of_right {x:api_Rx} (h:rightB x=true):Rgt x∧sizeN x≤200:=by
 simp only [rightB,Bool.and_eq_true,decide_eq_true_eq] at h
 refine ⟨⟨20,h.1⟩,?_⟩
 have:=h.2.1
 simp only [sizeZ] at this;omega
theorem placeOf_ok (x:api_Rx) (hw:Wf x):C_place_Of x (if rightB x=true then plc (gof x) else noPl) (if rightB x=true then 0 else 1):=by
 refine W_place_Of x _ _ ⟨_,rxRightAll_ok x hw,fun h=>?_,fun h=>?_⟩
 ·have h:rightB x=false:=by simpa using h
  rw [h];exact ⟨rfl,rfl⟩
 ·have h:rightB x=true:=by simpa using h
  obtain ⟨hr,hs⟩:=size_of_right h
  have hn:=gof_n x hr
  have:=piece_ok x hw hr [] [] ⟨rfl,fun f hf=>by simp at hf,by simp;omega⟩
  refine ⟨_,_,this,?_,?_⟩
  ·rw [if_pos h];simp [plc,pc]
  ·rw [if_pos h]
end Go.Ev.Pl
set_option linter.unusedSimpArgs false
set_option linter.unusedVariables false
namespace Go.Ev.Pl
open Go Go.Ev
end Go.Ev.Pl
set_option linter.unusedSimpArgs false
set_option linter.unusedVariables false
namespace Go.Ev.Pl
open Go Go.Ev
end Go.Ev.Pl
set_option linter.unusedSimpArgs false
set_option linter.unusedVariables false
namespace Go.Ev.Pl
open Go Go.Ev
def setOf (lo hi:Int):arr4_uint64:=mkSet fun i=>decide (i≥lo) && decide (i≤hi)
theorem noset_97:noSet (setOf 97 97)=false:=by kernel_rfl
theorem noset_98:noSet (setOf 98 98)=false:=by kernel_rfl
theorem noset_99:noSet (setOf 99 99)=false:=by kernel_rfl
theorem noset_10:noSet (setOf 10 10)=false:=by kernel_rfl
theorem noset_45:noSet (setOf 45 45)=false:=by kernel_rfl
theorem noset_90:noSet (setOf 90 90)=false:=by kernel_rfl
theorem noset_0:noSet (setOf 0 0)=false:=by kernel_rfl
theorem noset_255:noSet (setOf 255 255)=false:=by kernel_rfl
theorem noset_48:noSet (setOf 48 48)=false:=by kernel_rfl
theorem noset_ac:noSet (setOf 97 99)=false:=by kernel_rfl
theorem noset_not:noSet (mkSet fun i=>!setHas (setOf 97 97) i)=false:=by kernel_rfl
def zset:arr4_uint64:=⟨0,0,0,0⟩
def chr (b:Int):api_Rx:=⟨2,setOf b b,0,0,[]⟩
theorem wf_leaf (k:Int) (s:arr4_uint64) (lo hi:Int):Wf ⟨k,s,lo,hi,[]⟩:=(wf_eq _).2 ⟨by simp,fun y hy=>by simp at hy⟩
end Go.Ev.Pl
set_option linter.unusedSimpArgs false
set_option linter.unusedVariables false
namespace Go.Ev.Pl
open Go Go.Ev
def cnt:api_Rx→Nat:=cata fun _ l=>1+l.sum
theorem cnt_eq (x:api_Rx):cnt x=1+(x.Kids.map cnt).sum:=cata_eq _ x
theorem len_le_cnt:∀ l:List api_Rx,l.length≤(l.map cnt).sum
 | []=>Nat.le_refl _
 | x :: r=>by have:=len_le_cnt r;have:=cnt_eq x;simp;omega
theorem sum_mem_le {l:List api_Rx} {y:api_Rx} (h:y∈l):cnt y≤(l.map cnt).sum:=by
 induction l with
 | nil=>simp at h
 | cons x r ih=>
   rcases List.mem_cons.1 h with rfl | h
   ·simp
   ·have:=ih h;simp;omega
theorem wf_of_cnt:∀ x,cnt x < 1000000→Wf x:=by
 refine rxInd fun x ih h=>?_
 rw [cnt_eq] at h
 have:=len_le_cnt x.Kids
 exact (wf_eq x).2 ⟨by omega,fun y hy=>ih y hy (by have:=sum_mem_le hy;omega)⟩
theorem nodesZ_cnt:∀ x (most:Int),(cnt x:Int)≤most→nodesZ x most=most - cnt x:=by
 refine rxInd fun x ih most hm=>?_
 rw [nodesZ_eq]
 rw [cnt_eq] at hm ⊢
 have key:∀ (l:List api_Rx) (m:Int),(∀ y∈l,y∈x.Kids)→(((l.map cnt).sum:Nat):Int)≤m→l.foldl (fun m y=>if m≥0 then nodesZ y m else m) m=m - (((l.map cnt).sum:Nat):Int):=by
  intro l
  induction l with
  | nil=>intro m _ _;simp
  | cons y r ih2=>
    intro m hl h
    simp only [List.map_cons,List.sum_cons] at h ⊢
    rw [List.foldl_cons,if_pos (by omega),ih y (hl y (List.mem_cons_self ..)) m (by omega),ih2 _ (fun z hz=>hl z (List.mem_cons_of_mem _ hz)) (by omega)]
    omega
 rw [key x.Kids (most - 1) (fun _ h=>h) (by omega)]
 omega
theorem rgt_mono:∀ x (d:Int),rgt x d=true→∀ d',d≤d'→rgt x d'=true:=by
 refine rxInd fun x ih d h d' hd=>?_
 rw [rgt_eq] at h ⊢
 simp only [Bool.and_eq_true,decide_eq_true_eq,List.all_eq_true,Bool.not_eq_true'] at h ⊢
 exact ⟨⟨by omega,h.1.2⟩,fun k hk=>⟨(h.2 k hk).1,ih k hk _ (h.2 k hk).2 _ (by omega)⟩⟩
theorem rgt_leaf {s:arr4_uint64} (h:noSet s=false):rgt ⟨2,s,0,0,[]⟩ 1=true:=by
 rw [rgt_eq];simp [ownB,h]
theorem rgt_empty:rgt ⟨1,zset,0,0,[]⟩ 1=true:=by kernel_rfl
def Bytes (l:List Int):Prop:=∀ b∈l,0≤b∧b≤255
structure MOk (m:hecklelaw03_Maker):Prop where
 bytes:Bytes m.L
 len:m.L.length≤1000
 at0:0≤m.At
theorem pick_ok (n:Int) (m:hecklelaw03_Maker) (hn:1≤n) (hm:MOk m) (ha:m.At < 1000000):∃ r,0≤r∧r < n∧C_hecklelaw03_Maker_Pick n m r { L:=m.L,At:=m.At+1 }:=by
 have h0:=hm.at0
 have hl:=hm.len
 have hw1:w64 (m.At+1)=m.At+1:=w64_id (by omega) (by omega)
 have hw2:w64 (m.At+1 - 1)=m.At:=(w64_id (by omega) (by omega)).trans (by omega)
 by_cases hg:m.At+1 > m.L.length
 ·refine ⟨0,by omega,by omega,W_hecklelaw03_Maker_Pick n m _ _ ?_⟩
  rw [hw1]
  exact ⟨fun _=>⟨rfl,rfl⟩,fun h=>absurd hg (by simpa using h)⟩
 ·have hi:m.At.toNat < m.L.length:=by omega
  have he:gd m.L m.At=m.L[m.At.toNat]:=by simp [gd,List.getD,hi]
  obtain ⟨b0,b1⟩:=hm.bytes _ (List.getElem_mem hi)
  have hw3:w64 (gd m.L m.At)=gd m.L m.At:=by rw [he];exact w64_id (by omega) (by omega)
  refine ⟨Int.tmod (gd m.L m.At) n,?_,?_,W_hecklelaw03_Maker_Pick n m _ _ ?_⟩
  ·rw [he,Int.tmod_eq_emod_of_nonneg b0];exact Int.emod_nonneg _ (by omega)
  ·rw [he,Int.tmod_eq_emod_of_nonneg b0];exact Int.emod_lt_of_pos _ (by omega)
  ·rw [hw1,hw2,hw3]
   exact ⟨fun h=>absurd (by simpa using h) hg,fun _=>⟨by omega,by omega,by omega,rfl,rfl⟩⟩
theorem chr_ok (b:Int):C_hecklelaw03_char b (chr b):=char3_ok b
theorem rgt_chr {b:Int} (h:noSet (setOf b b)=false):rgt (chr b) 1=true:=rgt_leaf h
structure Good (d:Nat) (r:api_Rx):Prop where
 right:rgt r ((d:Int)+1)=true
 small:cnt r≤2 ^ (d+1) - 1
theorem cnt_leaf (k:Int) (s:arr4_uint64) (lo hi:Int):cnt ⟨k,s,lo,hi,[]⟩=1:=by rw [cnt_eq];rfl
theorem leaf_ok (m:hecklelaw03_Maker) (hm:MOk m) (ha:m.At < 900000):∃ r o,C_hecklelaw03_Maker_leaf m r o∧Good 0 r∧o.L=m.L∧m.At≤o.At∧o.At≤m.At+2:=by
 obtain ⟨r0,p0,p1,hp⟩:=pick_ok 8 m (by omega) hm (by omega)
 have hm1:MOk { L:=m.L,At:=m.At+1 }:=⟨hm.bytes,hm.len,by have:=hm.at0;simp only;omega⟩
 have good:∀ {r:api_Rx},rgt r 1=true→cnt r=1→Good 0 r:=fun h1 h2=>⟨by simpa using h1,by omega⟩
 by_cases h0:r0=0
 ·subst h0
  exact ⟨_,_,W_hecklelaw03_Maker_leaf m _ _ ⟨_,_,hp,fun _=>⟨rfl,rfl⟩,fun h=>by simp at h⟩,good rgt_empty (cnt_leaf _ _ _ _),rfl,by simp only;omega,by simp only;omega⟩
 by_cases h1:r0=1
 ·subst h1
  exact ⟨_,_,W_hecklelaw03_Maker_leaf m _ _ ⟨_,_,hp,fun h=>by simp at h,fun _=>⟨fun _=>⟨_,setOf_ok 97 99,rfl,rfl⟩,fun h=>by simp at h⟩⟩,good (rgt_leaf noset_ac) (cnt_leaf _ _ _ _),rfl,by simp only;omega,by simp only;omega⟩
 by_cases h2:r0=2
 ·subst h2
  exact ⟨_,_,W_hecklelaw03_Maker_leaf m _ _ ⟨_,_,hp,fun h=>by simp at h,fun _=>⟨fun h=>by simp at h,fun _=>⟨fun _=>⟨_,setOf_ok 97 97,_,setNot_ok _,rfl,rfl⟩,fun h=>by simp at h⟩⟩⟩,good (rgt_leaf noset_not) (cnt_leaf _ _ _ _),rfl,by simp only;omega,by simp only;omega⟩
 by_cases h3:r0=3
 ·subst h3
  obtain ⟨r1,q0,q1,hq⟩:=pick_ok 6 _ (by omega) hm1 (by simp only;omega)
  have hr:r1=0∨r1=1∨r1=2∨r1=3∨r1=4∨r1=5:=by omega
  have hs:noSet (setOf (gd [10,45,90,0,255,48] r1) (gd [10,45,90,0,255,48] r1))=false:=by
   rcases hr with rfl | rfl | rfl | rfl | rfl | rfl
   ·exact noset_10
   ·exact noset_45
   ·exact noset_90
   ·exact noset_0
   ·exact noset_255
   ·exact noset_48
  exact ⟨_,_,W_hecklelaw03_Maker_leaf m _ _ ⟨_,_,hp,fun h=>by simp at h,fun _=>⟨fun h=>by simp at h,fun _=>⟨fun h=>by simp at h,fun _=>⟨fun _=>⟨_,_,hq,q0,by omega,by simp;omega,_,chr_ok _,rfl,rfl⟩,fun h=>by simp at h⟩⟩⟩⟩,good (rgt_chr hs) (cnt_leaf _ _ _ _),rfl,by simp only;omega,by simp only;omega⟩
 obtain ⟨r1,q0,q1,hq⟩:=pick_ok 3 _ (by omega) hm1 (by simp only;omega)
 have hr:r1=0∨r1=1∨r1=2:=by omega
 have hs:noSet (setOf (w64 (97+r1)) (w64 (97+r1)))=false:=by
  rcases hr with rfl | rfl | rfl
  ·exact noset_97
  ·exact noset_98
  ·exact noset_99
 exact ⟨_,_,W_hecklelaw03_Maker_leaf m _ _ ⟨_,_,hp,fun h=>absurd (by simpa using h) h0,fun _=>⟨fun h=>absurd (by simpa using h) h1,fun _=>⟨fun h=>absurd (by simpa using h) h2,fun _=>⟨fun h=>absurd (by simpa using h) h3,fun _=>⟨_,_,hq,_,chr_ok _,rfl,rfl⟩⟩⟩⟩⟩,good (rgt_chr hs) (cnt_leaf _ _ _ _),rfl,by simp only;omega,by simp only;omega⟩
def jk (kind:Int) (r:api_Rx):List api_Rx:=if r.Kind=kind then r.Kids else [r]
theorem joined_ok (kind:Int) (r1 r2:api_Rx) (h1:r1.Kids.length < 1000000) (h2:r2.Kids.length < 1000000):C_hecklelaw03_joined kind [r1,r2] ⟨kind,zset,0,0,jk kind r1++jk kind r2⟩:=by
 have hjl:∀ r:api_Rx,r.Kids.length < 1000000→(jk kind r).length < 1000000:=fun r h=>by unfold jk;split;exact h;simp
 have hj1:=hjl r1 h1
 have hj2:=hjl r2 h2
 refine W_hecklelaw03_joined kind _ _ ⟨fun k t=>(t=0∧k=[])∨(t=1∧k=jk kind r1)∨(t=2∧k=jk kind r1++jk kind r2),fun _ t=>(2 - t).toNat,.inl ⟨rfl,rfl⟩,?_⟩
 rintro k t (⟨rfl,rfl⟩ | ⟨rfl,rfl⟩ | ⟨rfl,rfl⟩)
 ·refine ⟨fun _=>⟨fun k'=>k'=jk kind r1,?_,by omega,by simp,fun h=>⟨by omega,by simp,?_,?_⟩,fun h=>⟨by omega,by simp,by simp,?_⟩⟩,fun h=>by simp at h⟩
  ·rintro k' rfl;exact ⟨.inr (.inl ⟨rfl,rfl⟩),by show Int.toNat (2 - 1) < Int.toNat (2 - 0);decide⟩
  ·have:gd [r1,r2] 0=r1:=rfl
   rw [this];simp;omega
  ·have:gd [r1,r2] 0=r1:=rfl
   rw [this] at h ⊢
   have h:r1.Kind=kind:=by simpa using h
   simp [jk,h]
  ·have:gd [r1,r2] 0=r1:=rfl
   rw [this] at h ⊢
   have h:r1.Kind≠kind:=by simpa using h
   simp [jk,h]
 ·refine ⟨fun _=>⟨fun k'=>k'=jk kind r1++jk kind r2,?_,by omega,by simp,fun h=>⟨by omega,by simp,?_,?_⟩,fun h=>⟨by omega,by simp,?_,?_⟩⟩,fun h=>by simp at h⟩
  ·rintro k' rfl;exact ⟨.inr (.inr ⟨rfl,rfl⟩),by show Int.toNat (2 - 2) < Int.toNat (2 - 1);decide⟩
  ·have:gd [r1,r2] 1=r2:=rfl
   rw [this];omega
  ·have:gd [r1,r2] 1=r2:=rfl
   rw [this] at h ⊢
   have h:r2.Kind=kind:=by simpa using h
   simp [jk,h]
  ·omega
  ·have:gd [r1,r2] 1=r2:=rfl
   rw [this] at h ⊢
   have h:r2.Kind≠kind:=by simpa using h
   simp [jk,h]
 ·exact ⟨fun h=>by simp at h,fun _=>rfl⟩
theorem joined_good {kind:Int} (hk:kind=3∨kind=4) {d:Nat} {r1 r2:api_Rx} (h1:Good d r1) (h2:Good d r2):Good (d+1) ⟨kind,zset,0,0,jk kind r1++jk kind r2⟩:=by
 have key:∀ r,Good d r→1≤(jk kind r).length∧((jk kind r).map cnt).sum≤cnt r∧∀ k∈jk kind r,k.Kind≠kind∧rgt k ((d:Int)+1)=true:=by
  intro r h
  have hr:=h.right
  by_cases e:r.Kind=kind
  ·rw [rgt_eq] at hr
   simp only [Bool.and_eq_true,decide_eq_true_eq,List.all_eq_true,Bool.not_eq_true'] at hr
   have:=own_kids hr.1.2 (by omega)
   simp only [jk,if_pos e]
   refine ⟨by omega,by rw [cnt_eq];omega,fun k hkm=>?_⟩
   obtain ⟨q1,q2⟩:=hr.2 k hkm
   refine ⟨fun e2=>?_,rgt_mono _ _ q2 _ (by omega)⟩
   simp only [oddK,e2,e] at q1
   rcases hk with rfl | rfl<;>simp at q1
  ·simp only [jk,if_neg e]
   exact ⟨by simp,by simp,fun k hkm=>by simp at hkm;subst hkm;exact ⟨e,hr⟩⟩
 obtain ⟨a1,a2,a3⟩:=key r1 h1
 obtain ⟨b1,b2,b3⟩:=key r2 h2
 constructor
 ·rw [rgt_eq]
  simp only [Bool.and_eq_true,decide_eq_true_eq,List.all_eq_true,Bool.not_eq_true']
  refine ⟨⟨by omega,?_⟩,fun k hkm=>?_⟩
  ·have hz:noSet zset=true:=rfl
   simp only [ownB]
   rw [if_neg (by omega),if_neg (by omega),if_neg (by omega),if_pos hk,hz]
   simp;omega
  ·have:k.Kind≠kind∧rgt k ((d:Int)+1)=true:=by
    rcases List.mem_append.1 hkm with h | h
    ·exact a3 k h
    ·exact b3 k h
   refine ⟨by simp [oddK,this.1],?_⟩
   have e:(((d+1:Nat):Int)+1 - 1)=(d:Int)+1:=by omega
   rw [e];exact this.2
 ·rw [cnt_eq]
  simp only [List.map_append,List.sum_append]
  have:=h1.small
  have:=h2.small
  have e:2 ^ (d+1+1)=2 ^ (d+1)+2 ^ (d+1):=by rw [Nat.pow_succ];omega
  have:1≤2 ^ (d+1):=Nat.one_le_two_pow
  omega
theorem good_mono {d d':Nat} {r:api_Rx} (h:Good d r) (hd:d≤d'):Good d' r:=by
 refine ⟨rgt_mono _ _ h.right _ (by omega),?_⟩
 have:=h.small
 have:2 ^ (d+1)≤2 ^ (d'+1):=Nat.pow_le_pow_right (by omega) (by omega)
 omega
theorem good_len {d:Nat} {r:api_Rx} (h:Good d r) (hd:d≤10):r.Kids.length < 1000000∧Wf r:=by
 have hs:=h.small
 have:2 ^ (d+1)≤2 ^ 11:=Nat.pow_le_pow_right (by omega) (by omega)
 have e:=cnt_eq r
 have:=len_le_cnt r.Kids
 exact ⟨by omega,wf_of_cnt r (by omega)⟩
theorem mk_ok:∀ (d:Nat),d≤5→∀ (deep:Int),deep≤d→-10≤deep→∀ m,MOk m→m.At+10 * 3 ^ d < 100000→∃ r o,C_hecklelaw03_Maker_Rx deep m r o∧Good d r∧o.L=m.L∧m.At≤o.At∧o.At≤m.At+10 * 3 ^ d:=by
 intro d
 induction d using Nat.strongRecOn with
 | _ d ih=>
 intro hd5 deep hdd hd0 m hm hat
 have h30:(1:Int)≤3 ^ d:=by exact_mod_cast Nat.one_le_pow d 3 (by omega)
 have hm0:=hm.at0
 obtain ⟨k,p0,p1,hp⟩:=pick_ok 8 m (by omega) hm (by omega)
 have hm1:MOk { L:=m.L,At:=m.At+1 }:=⟨hm.bytes,hm.len,by simp only;omega⟩
 by_cases hleaf:(decide (deep < 1) || (decide (k < 2) || decide (m.At+1≥(m.L.length:Int))))=true
 ·obtain ⟨r,o,c1,c2,c3,c4,c5⟩:=leaf_ok _ hm1 (by simp only;omega)
  exact ⟨r,o,W_hecklelaw03_Maker_Rx deep m _ _ ⟨_,_,hp,fun _=>⟨_,_,c1,rfl,rfl⟩,fun h=>(by rw [hleaf] at h;cases h)⟩,good_mono c2 (by omega),c3,by simp only at c4;omega,by simp only at c5;omega⟩
 have hleaf:(decide (deep < 1) || (decide (k < 2) || decide (m.At+1≥(m.L.length:Int))))=false:=by simpa using hleaf
 have hdp:1≤deep:=by simp only [Bool.or_eq_false_iff,decide_eq_false_iff_not] at hleaf;omega
 obtain ⟨e,rfl⟩:∃ e,d=e+1:=⟨d - 1,by omega⟩
 have h3:(3:Int) ^ (e+1)=3 * 3 ^ e:=by rw [Int.pow_succ];omega
 have h3e:(1:Int)≤3 ^ e:=by exact_mod_cast Nat.one_le_pow e 3 (by omega)
 have hw1:w64 (deep - 1)=deep - 1:=w64_id (by omega) (by omega)
 have hw2:w64 (deep - 2)=deep - 2:=w64_id (by omega) (by omega)
 by_cases hk5:k < 5
 ·obtain ⟨r1,o1,c1,g1,l1,u1,v1⟩:=ih e (by omega) (by omega) (deep - 1) (by omega) (by omega) _ hm1 (by simp only;omega)
  simp only at l1 u1 v1
  obtain ⟨r2,o2,c2,g2,l2,u2,v2⟩:=ih e (by omega) (by omega) (deep - 1) (by omega) (by omega) o1 ⟨by rw [l1];exact hm.bytes,by rw [l1];exact hm.len,by omega⟩ (by omega)
  refine ⟨_,o2,W_hecklelaw03_Maker_Rx deep m _ _ ⟨_,_,hp,fun h=>(by rw [hleaf] at h;cases h),fun _=>⟨fun _=>⟨_,_,by rw [hw1];exact c1,_,_,by rw [hw1];exact c2,_,joined_ok 3 r1 r2 (good_len g1 (by omega)).1 (good_len g2 (by omega)).1,rfl,rfl⟩,fun h=>absurd hk5 (by simpa using h)⟩⟩,joined_good (.inl rfl) g1 g2,by rw [l2,l1],by omega,by omega⟩
 by_cases hk5':k=5
 ·obtain ⟨r1,o1,c1,g1,l1,u1,v1⟩:=ih e (by omega) (by omega) (deep - 1) (by omega) (by omega) _ hm1 (by simp only;omega)
  simp only at l1 u1 v1
  obtain ⟨r2,o2,c2,g2,l2,u2,v2⟩:=ih e (by omega) (by omega) (deep - 1) (by omega) (by omega) o1 ⟨by rw [l1];exact hm.bytes,by rw [l1];exact hm.len,by omega⟩ (by omega)
  refine ⟨_,o2,W_hecklelaw03_Maker_Rx deep m _ _ ⟨_,_,hp,fun h=>(by rw [hleaf] at h;cases h),fun _=>⟨fun h=>absurd (by simpa using h) hk5,fun _=>⟨fun _=>⟨_,_,by rw [hw1];exact c1,_,_,by rw [hw1];exact c2,_,joined_ok 4 r1 r2 (good_len g1 (by omega)).1 (good_len g2 (by omega)).1,rfl,rfl⟩,fun h=>absurd hk5' (by simpa using h)⟩⟩⟩,joined_good (.inr rfl) g1 g2,by rw [l2,l1],by omega,by omega⟩
 obtain ⟨lo,q0,q1,hq⟩:=pick_ok 3 _ (by omega) hm1 (by simp only;omega)
 simp only at hq
 have hm2:MOk { L:=m.L,At:=m.At+1+1 }:=⟨hm.bytes,hm.len,by simp only;omega⟩
 obtain ⟨st,s0,s1,hs⟩:=pick_ok 2 _ (by omega) hm2 (by simp only;omega)
 simp only at hs
 have hm3:MOk { L:=m.L,At:=m.At+1+1+1 }:=⟨hm.bytes,hm.len,by simp only;omega⟩
 obtain ⟨more,t0,t1,ht⟩:=pick_ok 2 _ (by omega) hm3 (by simp only;omega)
 simp only at ht
 have kid:∀ a:Int,m.At+1≤a→a≤m.At+4→∃ r o,C_hecklelaw03_Maker_Rx (deep - 2) { L:=m.L,At:=a } r o∧Good e r∧o.L=m.L∧m.At≤o.At∧o.At≤m.At+10 * 3 ^ (e+1):=by
  intro a ha1 ha2
  obtain ⟨r,o,c,g,l,u,v⟩:=ih e (by omega) (by omega) (deep - 2) (by omega) (by omega) { L:=m.L,At:=a } ⟨hm.bytes,hm.len,by simp only;omega⟩ (by simp only;omega)
  simp only at l u v
  exact ⟨r,o,c,g,l,by omega,by omega⟩
 have good:∀ {r:api_Rx} {hi:Int},Good e r→timesB lo hi=true→Good (e+1) ⟨5,zset,lo,hi,[r]⟩:=by
  intro r hi g htm
  constructor
  ·rw [rgt_eq]
   have hz:noSet zset=true:=rfl
   have e1:(((e+1:Nat):Int)+1 - 1)=(e:Int)+1:=by omega
   have e2:decide ((((e+1:Nat):Int)+1) > 0)=true:=by simp;omega
   rw [e1,e2]
   simp [ownB,hz,htm,oddK,g.right]
  ·rw [cnt_eq]
   have:=g.small
   have epow:2 ^ (e+1+1)=2 ^ (e+1)+2 ^ (e+1):=by rw [Nat.pow_succ];omega
   have:1≤2 ^ (e+1):=Nat.one_le_two_pow
   simp;omega
 have hwhi:w64 ((if lo > 1 then lo else 1)+more)=(if lo > 1 then lo else 1)+more:=by
  split<;>exact w64_id (by omega) (by omega)
 have fin:∀ (a hi:Int),m.At+1≤a→a≤m.At+4→timesB lo hi=true→((st=1∧a=m.At+4∧hi=(if lo > 1 then lo else 1)+more)∨(st≠1∧a=m.At+3∧hi = -1))→
  ∃ r o,C_hecklelaw03_Maker_Rx deep m r o∧Good (e+1) r∧o.L=m.L∧m.At≤o.At∧o.At≤m.At+10 * 3 ^ (e+1):=by
  intro a hi ha1 ha2 htm hcase
  obtain ⟨r,o,c,g,l,u,v⟩:=kid a ha1 ha2
  refine ⟨_,o,W_hecklelaw03_Maker_Rx deep m _ _ ⟨_,_,hp,fun h=>(by rw [hleaf] at h;cases h),fun _=>⟨fun h=>absurd (by simpa using h) hk5,fun _=>⟨fun h=>absurd (by simpa using h) hk5',fun _=>⟨_,_,hq,fun L A H=>L=m.L∧A=a∧H=hi,?_,_,_,hs,fun h1=>?_,fun h1=>?_⟩⟩⟩⟩,good g htm,l,u,v⟩
  ·rintro L A H ⟨rfl,rfl,rfl⟩
   exact ⟨_,_,by rw [hw2];exact c,rfl,rfl⟩
  ·have h1:st=1:=by simpa using h1
   rcases hcase with ⟨_,rfl,rfl⟩ | ⟨h2,_⟩
   ·exact ⟨_,_,ht,rfl,by simp only;omega,hwhi⟩
   ·exact absurd h1 h2
  ·have h1:st≠1:=by simpa using h1
   rcases hcase with ⟨h2,_⟩ | ⟨_,rfl,rfl⟩
   ·exact absurd h2 h1
   ·exact ⟨rfl,by simp only;omega,rfl⟩
 by_cases h1:st=1
 ·refine fin (m.At+4) ((if lo > 1 then lo else 1)+more) (by omega) (by omega) ?_ (.inl ⟨h1,rfl,rfl⟩)
  simp only [timesB,Bool.and_eq_true,decide_eq_true_eq,Bool.or_eq_true]
  refine ⟨by omega,by omega,.inr ⟨?_,?_⟩⟩<;>split<;>omega
 ·refine fin (m.At+3) (-1) (by omega) (by omega) ?_ (.inr ⟨h1,rfl,rfl⟩)
  simp only [timesB,Bool.and_eq_true,decide_eq_true_eq,Bool.or_eq_true]
  exact ⟨by omega,by omega,.inl (by simp)⟩
end Go.Ev.Pl
set_option linter.unusedSimpArgs false
set_option linter.unusedVariables false
namespace Go.Ev.Pl
open Go Go.Ev
section
variable (N : Nat) (B : Nat → Int)
def hdS (sets:List arr4_uint64) (p i:Nat):Prop:=i < N∧∃ s,sets[p]?=some s∧setHas s (B i)=true
inductive Pth (sets:List arr4_uint64) (last:Nat→Bool) (fo:Nat→Nat→Bool):Nat→Nat→Nat→Prop where
 | last {p i:Nat} (h:hdS N B sets p i) (hl:last p=true):Pth sets last fo p i (i+1)
 | step {p q i j:Nat} (h:hdS N B sets p i) (hf:fo p q=true) (hp:Pth sets last fo q (i+1) j):Pth sets last fo p i j
def one (g:GA) (i j:Nat):Prop:=∃ p,g.first p=true∧Pth N B g.sets g.last g.follow p i j
variable {N B}
variable {a b : GA}
end
end Go.Ev.Pl
set_option linter.unusedSimpArgs false
set_option linter.unusedVariables false
namespace Go.Ev.Pl
open Go Go.Ev
end Go.Ev.Pl
set_option linter.unusedSimpArgs false
set_option linter.unusedVariables false
namespace Go.Ev.Pl
open Go Go.Ev
def clo (k:api_Rx):Bool:=k.Kind == 5 && (decide (k.Hi < 0) && decide (k.Lo≤1))
end Go.Ev.Pl
set_option linter.unusedSimpArgs false
set_option linter.unusedVariables false
namespace Go.Ev.Pl
open Go Go.Ev
end Go.Ev.Pl
set_option linter.unusedSimpArgs false
set_option linter.unusedVariables false
namespace Go.Ev.Pl
open Go Go.Ev
theorem bytes_of {w:World} {a:Option Addr} {len cap:Nat} {zs:List Int}
 (h:(a=none∧len=0∧cap=0∧zs=[])∨∃ x,a=some x∧len≤cap∧cap≤maxLen∧zs.length=cap∧(∀ i,i < zs.length→w.cell? (x.add i)=some (.int .u8 (zs.getD i 0)))∧∀ n∈zs,(Lit.int .u8 n).wf=true):Bytes (zs.take len):=by
 intro b hb
 have hb:=List.mem_of_mem_take hb
 rcases h with ⟨_,_,_,rfl⟩ | ⟨_,_,_,_,_,_,h⟩
 ·simp at hb
 ·have:=h b hb
  simp only [Lit.wf,Bool.and_eq_true,decide_eq_true_eq] at this
  have e1:IntKind.u8.min=0:=by decide
  have e2:IntKind.u8.max=255:=by decide
  rw [e1,e2] at this
  exact this
section
variable {N : Nat} {B : Nat → Int}
end
end Go.Ev.Pl
set_option linter.unusedSimpArgs false
set_option linter.unusedVariables false
namespace Go.Ev.Pl
open Go Go.Ev
theorem index_ok (l:List Int) (v:Int) (hl:l.length < 1000000):∃ r,C_slices_Index__int_int l v r∧(r≥0↔v∈l):=by
 by_cases hv:v∈l
 ·obtain ⟨n,hn,hnv,hmin⟩:∃ n,n < l.length∧l[n]?=some v∧∀ m,m < n→l[m]?≠some v:=by
   have hex:∃ n,l[n]?=some v:=List.mem_iff_getElem?.1 hv
   induction l with
   | nil=>simp at hv
   | cons x l ih=>
     by_cases hx:x=v
     ·exact ⟨0,by simp,by simp [hx],fun m hm=>by omega⟩
     ·have hv':v∈l:=by
       rcases List.mem_cons.1 hv with e | e
       ·exact absurd e.symm hx
       ·exact e
      obtain ⟨n,h1,h2,h3⟩:=ih (by simp at hl;omega) hv' (List.mem_iff_getElem?.1 hv')
      refine ⟨n+1,by simp;omega,by simpa using h2,fun m hm=>?_⟩
      cases m with
      | zero=>simp [hx]
      | succ m=>simpa using h3 m (by omega)
  refine ⟨n,?_,⟨fun _=>hv,fun _=>by omega⟩⟩
  refine W_slices_Index__int_int l v _ ⟨fun t=>∃ i:Nat,t=i∧i≤n,fun t=>(l.length - t).toNat,⟨0,rfl,by omega⟩,?_⟩
  rintro t ⟨i,rfl,hi⟩
  have hw2:w64 ((i:Int)+1)=((i+1:Nat):Int):=w64_id (by omega) (by omega)
  have hil:i < l.length:=by omega
  refine ⟨fun ht=>⟨by omega,by omega,fun he=>?_,fun he=>?_⟩,fun ht=>?_⟩
  ·rw [gd_nat hil,beq_iff_eq] at he
   by_cases hin:i=n
   ·subst hin;rfl
   ·exact absurd (by rw [List.getElem?_eq_getElem hil,he]) (hmin i (by omega))
  ·rw [gd_nat hil,beq_eq_false_iff_ne] at he
   have hin:i≠n:=fun e=>by
    subst e
    rw [List.getElem?_eq_getElem hil] at hnv
    exact he (Option.some.inj hnv).symm
   rw [hw2]
   exact ⟨⟨i+1,rfl,by omega⟩,by first | omega | (dsimp only;omega)⟩
  ·have:=of_decide_eq_false ht;omega
 ·refine ⟨-1,?_,⟨fun h=>by omega,fun h=>absurd h hv⟩⟩
  refine W_slices_Index__int_int l v _ ⟨fun t=>∃ i:Nat,t=i∧i≤l.length,fun t=>(l.length - t).toNat,⟨0,rfl,by omega⟩,?_⟩
  rintro t ⟨i,rfl,hi⟩
  refine ⟨fun ht=>?_,fun ht=>rfl⟩
  have hil:i < l.length:=by have:=of_decide_eq_true ht;omega
  have hw2:w64 ((i:Int)+1)=((i+1:Nat):Int):=w64_id (by omega) (by omega)
  refine ⟨by omega,by omega,fun he=>?_,fun he=>?_⟩
  ·rw [gd_nat hil,beq_iff_eq] at he
   exact absurd (he▸List.getElem_mem hil) hv
  ·rw [hw2]
   exact ⟨⟨i+1,rfl,by omega⟩,by first | omega | (dsimp only;omega)⟩
theorem contains_ok (l:List Int) (v:Int) (hl:l.length < 1000000) (b:Bool) (hb:b=true↔v∈l):C_slices_Contains__int_int l v b:=by
 obtain ⟨r,h1,h2⟩:=index_ok l v hl
 refine W_slices_Contains__int_int l v _ ⟨r,h1,?_⟩
 rw [Bool.eq_iff_iff,hb,decide_eq_true_eq,h2]
end Go.Ev.Pl
set_option linter.unusedSimpArgs false
set_option linter.unusedVariables false
namespace Go.Ev
open Go Go.Proofs
end Go.Ev
set_option linter.unusedSimpArgs false
set_option linter.unusedVariables false
namespace Go.Ev.Pl
open Go Go.Ev
end Go.Ev.Pl
set_option linter.unusedSimpArgs false
set_option linter.unusedVariables false
namespace Go.Ev.Pl
open Go Go.Ev
end Go.Ev.Pl
set_option linter.unusedSimpArgs false
set_option linter.unusedVariables false
namespace Go.Ev.Pl
open Go Go.Ev
section
variable {N M h : Nat} {B B' : Nat → Int}
end
end Go.Ev.Pl
set_option linter.unusedSimpArgs false
set_option linter.unusedVariables false
namespace Go.Ev.Pl
open Go Go.Ev
end Go.Ev.Pl
set_option linter.unusedSimpArgs false
set_option linter.unusedVariables false
namespace Go.Ev.Pl
open Go Go.Ev
end Go.Ev.Pl
set_option linter.unusedSimpArgs false
set_option linter.unusedVariables false
namespace Go.Ev.Pl
open Go Go.Ev
end Go.Ev.Pl
set_option linter.unusedSimpArgs false
set_option linter.unusedVariables false
namespace Go.Ev.Pl
open Go Go.Ev
abbrev zRx:api_Rx:={ Kind:=(0:Int),Set:={ e0:=(0:Int),e1:=(0:Int),e2:=(0:Int),e3:=(0:Int) },Lo:=(0:Int),Hi:=(0:Int),Kids:=[] }
end Go.Ev.Pl
set_option linter.unusedSimpArgs false
set_option linter.unusedVariables false
namespace Go.Ev.Pl
open Go Go.Ev
end Go.Ev.Pl
set_option linter.unusedSimpArgs false
set_option linter.unusedVariables false
namespace Go.Ev.Pl
open Go Go.Ev
end Go.Ev.Pl
set_option linter.unusedSimpArgs false
set_option linter.unusedVariables false
namespace Go.Ev.Pl
open Go Go.Ev
theorem right_b:rightB (chr 98)=true:=by kernel_rfl
end Go.Ev.Pl
set_option linter.unusedSimpArgs false
set_option linter.unusedVariables false
namespace Go.Ev.Pl
open Go Go.Ev
end Go.Ev.Pl
set_option linter.unusedSimpArgs false
set_option linter.unusedVariables false
namespace Go.Ev.Pl
open Go Go.Ev
structure MS (L:List Int) (n:Int) (m:hecklelaw03_Maker):Prop where
 l:m.L=L
 a0:0≤m.At
 a1:m.At≤n
abbrev LOk (L:List Int):Prop:=Bytes L∧L.length≤1000
theorem MS.ok {L:List Int} {n:Int} {m:hecklelaw03_Maker} (h:MS L n m) (hL:LOk L):MOk m:=⟨by rw [h.l];exact hL.1,by rw [h.l];exact hL.2,h.a0⟩
theorem pickS {L:List Int} {n k:Int} {m:hecklelaw03_Maker} (hL:LOk L) (hk:1≤k) (hn:n < 100000) (h:MS L n m):∃ r o,0≤r∧r < k∧C_hecklelaw03_Maker_Pick k m r o∧MS L (n+1) o:=by
 obtain ⟨r,h0,h1,h2⟩:=pick_ok k m hk (h.ok hL) (by have:=h.a1;omega)
 exact ⟨r,_,h0,h1,h2,h.l,by have:=h.a0;simp only;omega,by have:=h.a1;simp only;omega⟩
structure Sml (x:api_Rx):Prop where
 wf:Wf x
 right:rightB x=true
 size:sizeN x≤12
theorem Sml.kind {x:api_Rx} (h:Sml x):¬ x.Kind=0:=by
 rcases own_kind (rgt_own (size_of_right h.right).1).1 with h | h | h | h | h<;>omega
theorem sml_b:Sml (chr 98):=⟨wf_leaf _ _ _ _,right_b,by show sizeN (chr 98)≤12;rw [show sizeN (chr 98)=1 from by kernel_rfl];omega⟩
theorem small_ok {L:List Int} {n:Int} {m:hecklelaw03_Maker} (hL:LOk L) (hn:n < 90000) (h:MS L n m):∃ x o,C_hecklelaw06_small m x o∧Sml x∧MS L (n+90) o:=by
 obtain ⟨r,o,c,g,e1,e2,e3⟩:=mk_ok 2 (by omega) 2 (by omega) (by omega) m (h.ok hL) (by have:=h.a1;simp;omega)
 have ho:MS L (n+90) o:=⟨e1.trans h.l,by have:=h.a0;omega,by have:=h.a1;simp at e3;omega⟩
 have hw:=(good_len g (by omega)).2
 by_cases hs:sizeZ r > 12
 ·exact ⟨_,o,W_hecklelaw06_small m _ _ ⟨r,o,c,_,refSize_ok r hw,fun _=>⟨_,setOf_ok 98 98,rfl,rfl⟩,fun h=>absurd hs (by simpa using h)⟩,sml_b,ho⟩
 ·refine ⟨r,o,W_hecklelaw06_small m _ _ ⟨r,o,c,_,refSize_ok r hw,fun h=>absurd (by simpa using h) hs,fun _=>⟨rfl,rfl⟩⟩,⟨hw,?_,?_⟩,ho⟩
  ·have h1:=rgt_mono r _ g.right 20 (by omega)
   have h2:sizeZ r≤200:=by omega
   have hsm:=g.small
   have h3:=nodesZ_cnt r 1000 (by have:cnt r≤7:=hsm;omega)
   have h4:nodesZ r 1000≥0:=by have:cnt r≤7:=hsm;omega
   simp [rightB,h1,h2,h4]
  ·simp only [sizeZ] at hs;omega
structure FitRule (n:Int) (r:api_Rule):Prop where
 conds:SS r.Conds∧∀ c∈r.Conds,0≤c∧c < n
 all:r.All=true→r.Conds=[]
 act:1≤r.Act∧r.Act≤3
 to:0≤r.To∧r.To < n∧(r.Act≠3→r.To=0)
 body:(r.Eof=true∧r.Bol=false∧r.Rx=zRx∧r.Trail=zRx)∨(r.Eof=false∧Sml r.Rx∧(r.Trail=zRx∨Sml r.Trail))
inductive CondRun (n:Int):hecklelaw03_Maker→List Int→Int→hecklelaw03_Maker→List Int→Prop where
 | done {m l i}:¬ i < n→CondRun n m l i m l
 | step {m l i r o m' l'}:i < n→C_hecklelaw03_Maker_Pick 2 m r o→CondRun n o (if r=1 then l++[i] else l) (i+1) m' l'→CondRun n m l i m' l'
theorem ss_snoc {l:List Int} {i:Int} (h:SS l) (hl:∀ c∈l,c < i):SS (l++[i]):=by
 unfold SS at *
 rw [List.pairwise_append]
 exact ⟨h,by simp,fun a ha b hb=>by simp at hb;subst hb;exact hl a ha⟩
theorem condRun {L:List Int} (hL:LOk L) {c:Int} (hc:c≤3):∀ (k:Nat) {i:Int} {l:List Int} {n:Int} {m:hecklelaw03_Maker},(c - i).toNat=k→0≤i→MS L n m→n+k < 90000→SS l→(∀ x∈l,0≤x∧x < i∧x < c)→
 ∃ m' l',CondRun c m l i m' l'∧MS L (n+k) m'∧SS l'∧∀ x∈l',0≤x∧x < c
 | 0,i,l,n,m,hk,hi,hm,hn,hs,hl=>⟨m,l,.done (by omega),by simpa using hm,hs,fun x hx=>⟨(hl x hx).1,(hl x hx).2.2⟩⟩
 | k+1,i,l,n,m,hk,hi,hm,hn,hs,hl=>by
   obtain ⟨r,o,h0,h1,hp,ho⟩:=pickS (k:=2) hL (by omega) (by omega) hm
   have hlt:i < c:=by omega
   have hs':SS (if r=1 then l++[i] else l):=by
    split
    ·exact ss_snoc hs fun x hx=>(hl x hx).2.1
    ·exact hs
   have hl':∀ x∈(if r=1 then l++[i] else l),0≤x∧x < i+1∧x < c:=by
    intro x hx
    split at hx
    ·rcases List.mem_append.1 hx with hx | hx
     ·have:=hl x hx;omega
     ·have hx:x=i:=by simpa using hx
      omega
    ·have:=hl x hx;omega
   obtain ⟨m',l',g1,g2,g3,g4⟩:=condRun hL hc k (i:=i+1) (n:=n+1) (by omega) (by omega) ho (by omega) hs' hl'
   exact ⟨m',l',.step hlt hp g1,⟨g2.l,g2.a0,by have:=g2.a1;omega⟩,g3,g4⟩
theorem rx_eta (x:api_Rx):({ Kind:=x.Kind,Set:={ e0:=x.Set.e0,e1:=x.Set.e1,e2:=x.Set.e2,e3:=x.Set.e3 },Lo:=x.Lo,Hi:=x.Hi,Kids:=x.Kids }:api_Rx)=x:=by cases x;rfl
theorem rule_ok {L:List Int} {n c:Int} {m:hecklelaw03_Maker} (hL:LOk L) (hc0:1≤c) (hc:c≤3) (hn:n < 80000) (plain:Bool) (hm:MS L n m) :
 ∃ r o,C_hecklelaw06_rule c plain m r o∧FitRule c r∧MS L (n+200) o∧(plain=true→r.Bol=false∧r.Trail=zRx):=by
 obtain ⟨r0,o,p0,p1,hp,ho⟩:=pickS (k:=3) hL (by omega) (by omega) hm
 have hw1:w64 (1+r0)=1+r0:=w64_id (by omega) (by omega)
 obtain ⟨to,m1,ht0,ht1,hm1,hto,s1⟩:∃ to m1,0≤to∧to < c∧MS L (n+2) m1∧(w64 (1+r0)≠3→to=0)∧∀ J:List Int→Int→Int→Prop,J m1.L m1.At to→
  (((w64 (1+r0) == 3)=true→∃ r0_24:Int,∃ o_24:hecklelaw03_Maker,C_hecklelaw03_Maker_Pick c o r0_24 o_24∧J o_24.L o_24.At r0_24)∧((w64 (1+r0) == 3)=false→J o.L o.At 0)):=by
  by_cases h:w64 (1+r0)=3
  ·obtain ⟨r1,o1,q0,q1,hq,ho1⟩:=pickS (k:=c) hL hc0 (by omega) ho
   exact ⟨r1,o1,q0,q1,⟨ho1.l,ho1.a0,by have:=ho1.a1;omega⟩,fun h'=>absurd h h',fun J hJ=>⟨fun _=>⟨_,_,hq,hJ⟩,fun h'=>by rw [h] at h';cases h'⟩⟩
  ·exact ⟨0,o,by omega,by omega,⟨ho.l,ho.a0,by have:=ho.a1;omega⟩,fun _=>rfl,fun J hJ=>⟨fun h'=>absurd (by simpa using h') h,fun _=>hJ⟩⟩
 obtain ⟨r1,o1,q0,q1,hq,ho1⟩:=pickS (k:=4) (m:={ L:=m1.L,At:=m1.At }) hL (by omega) (by omega) (show MS L (n+2) _ from ⟨hm1.l,hm1.a0,hm1.a1⟩)
 obtain ⟨cs,al,m2,hm2,hcs,hal,s2⟩:∃ cs al m2,MS L (n+6) m2∧(SS cs∧∀ x∈cs,0≤x∧x < c)∧(al=true→cs=[])∧∀ J:List Int→Int→List Int→Bool→Prop,J m2.L m2.At cs al→
  (((r1 == 0)=true→J o1.L o1.At ([]) true)∧((r1 == 0)=false→(((r1 == 1)=true→(∃ (Inv63:List Int→Int→List Int→Int→Prop) (mu64:List Int→Int→List Int→Int→Nat),Inv63 o1.L o1.At ([]) 0∧
    (∀ (a8:List Int) (b8:Int) (c6:List Int) (i_1:Int),Inv63 a8 b8 c6 i_1→(((decide (i_1 < c))=true→(∃ J69:List Int→Int→List Int→Prop,
      (∀ (a10:List Int) (b10:Int) (c8:List Int),J69 a10 b10 c8→(Inv63 a10 b10 c8 (w64 (i_1+1))∧mu64 a10 b10 c8 (w64 (i_1+1)) < mu64 a8 b8 c6 i_1))∧
      (∃ r23:Int,∃ o23:hecklelaw03_Maker,C_hecklelaw03_Maker_Pick 2 ({ L:=a8,At:=b8 }) r23 o23∧(((r23 == 1)=true→((List.length c6+(1:Nat)) * (8:Nat)≤(2:Nat) ^ (47:Nat))∧J69 o23.L o23.At (c6++[i_1]))∧((r23 == 1)=false→J69 o23.L o23.At c6)))))∧
      ((decide (i_1 < c))=false→J a8 b8 c6 false)))))∧((r1 == 1)=false→J o1.L o1.At ([]) false)))):=by
  have hmo:∀ k,n+3≤k→MS L k o1:=fun k hk=>⟨ho1.l,ho1.a0,by have:=ho1.a1;omega⟩
  by_cases h0:r1=0
  ·exact ⟨[],true,o1,hmo _ (by omega),⟨by simp [SS],by simp⟩,fun _=>rfl,fun J hJ=>⟨fun _=>hJ,fun h=>(by simp [h0] at h)⟩⟩
  by_cases h1:r1=1
  ·obtain ⟨m',l',g1,g2,g3,g4⟩:=condRun hL hc c.toNat (i:=0) (l:=[]) (m:={ L:=o1.L,At:=o1.At }) (n:=n+3) (by omega) (by omega) ⟨ho1.l,ho1.a0,by have:=ho1.a1;show o1.At≤_;omega⟩ (by omega) (by simp [SS]) (by simp)
   refine ⟨l',false,m',⟨g2.l,g2.a0,by have:=g2.a1;omega⟩,⟨g3,g4⟩,fun h=>(by cases h),fun J hJ=>⟨fun h=>(by simp [h1] at h),fun _=>⟨fun _=>?_,fun h=>(by simp [h1] at h)⟩⟩⟩
   refine ⟨fun a b l i=>CondRun c { L:=a,At:=b } l i m' l'∧0≤i∧i≤c∧l.length≤i,fun _ _ _ i=>(c - i).toNat,⟨g1,by omega,by omega,by simp⟩,?_⟩
   rintro a b l i ⟨hr,hi0,hi1,hll⟩
   refine ⟨fun ht=>?_,fun ht=>?_⟩
   ·have ht:=of_decide_eq_true ht
    have hw2:w64 (i+1)=i+1:=w64_id (by omega) (by omega)
    cases hr with
    | done h=>exact absurd ht h
    | @step _ _ _ r o _ _ _ hp hr=>
      refine ⟨fun a' b' l2=>CondRun c { L:=a',At:=b' } l2 (i+1) m' l'∧l2.length≤i+1,fun a' b' l2 h=>?_,r,o,hp,fun h=>⟨by omega,?_⟩,fun h=>?_⟩
      ·rw [hw2];exact ⟨⟨h.1,by omega,by omega,h.2⟩,by first | omega | (dsimp only;omega)⟩
      ·have h:r=1:=by simpa using h
       rw [if_pos h] at hr
       exact ⟨hr,by rw [List.length_append];simp;omega⟩
      ·have h:¬ r=1:=by simpa using h
       rw [if_neg h] at hr
       exact ⟨hr,by omega⟩
   ·have ht:=of_decide_eq_false ht
    cases hr with
    | done h=>exact hJ
    | step h _ _=>exact absurd h ht
  ·exact ⟨[],false,o1,hmo _ (by omega),⟨by simp [SS],by simp⟩,fun h=>(by cases h),fun J hJ=>⟨fun h=>absurd (by simpa using h) h0,fun _=>⟨fun h=>absurd (by simpa using h) h1,fun _=>hJ⟩⟩⟩
 obtain ⟨r2,o2,u0,u1,hu,ho2⟩:=pickS (k:=12) (m:={ L:=m2.L,At:=m2.At }) hL (by omega) (by omega) (show MS L (n+6) _ from ⟨hm2.l,hm2.a0,hm2.a1⟩)
 have fit:∀ r:api_Rule,r.Conds=cs→r.All=al→r.Act=w64 (1+r0)→r.To=to→((r.Eof=true∧r.Bol=false∧r.Rx=zRx∧r.Trail=zRx)∨(r.Eof=false∧Sml r.Rx∧(r.Trail=zRx∨Sml r.Trail)))→FitRule c r:=by
  intro r e1 e2 e3 e4 e5
  exact ⟨by rw [e1];exact hcs,by rw [e1,e2];exact hal,by rw [e3,hw1];omega,by rw [e3,e4];exact ⟨ht0,ht1,hto⟩,e5⟩
 by_cases h11:r2=11
 ·refine ⟨_,_,W_hecklelaw06_rule c plain m _ _ ⟨r0,o,hp,fun L a t=>L=m1.L∧a=m1.At∧t=to,?_,s1 (fun L a t=>L=m1.L∧a=m1.At∧t=to) ⟨rfl,rfl,rfl⟩⟩,fit { Conds:=cs,All:=al,Bol:=false,Rx:=zRx,Trail:=zRx,Eof:=true,Act:=w64 (1+r0),To:=to } rfl rfl rfl rfl (.inl ⟨rfl,rfl,rfl,rfl⟩),(⟨ho2.l,ho2.a0,by have:=ho2.a1;omega⟩:MS L (n+200) o2),fun _=>⟨rfl,rfl⟩⟩
  rintro _ _ _ ⟨rfl,rfl,rfl⟩
  refine ⟨fun L a c' al'=>L=m2.L∧a=m2.At∧c'=cs∧al'=al,?_,r1,o1,hq,s2 (fun L a c' al'=>L=m2.L∧a=m2.At∧c'=cs∧al'=al) ⟨rfl,rfl,rfl,rfl⟩⟩
  rintro _ _ _ _ ⟨rfl,rfl,rfl,rfl⟩
  exact ⟨r2,o2,hu,fun _=>⟨rfl,rfl⟩,fun h=>by simp [h11] at h⟩
 ·obtain ⟨x,o3,hx,hsx,ho3⟩:=small_ok hL (by omega) ho2
  obtain ⟨bol,tr,m4,hm4,htr,hpl,s3⟩:∃ (bol:Bool) (tr:api_Rx) (m4:hecklelaw03_Maker),MS L (n+200) m4∧(tr=zRx∨Sml tr)∧(plain=true→bol=false∧tr=zRx)∧∀ J:List Int→Int→Bool→Int→Int→Int→Int→Int→Int→Int→List api_Rx→Prop,J m4.L m4.At bol tr.Kind tr.Set.e0 tr.Set.e1 tr.Set.e2 tr.Set.e3 tr.Lo tr.Hi tr.Kids→
   (((!plain)=true→(∃ r14:Int,∃ o14:hecklelaw03_Maker,C_hecklelaw03_Maker_Pick 6 o3 r14 o14∧(∃ r15:Int,∃ o15:hecklelaw03_Maker,C_hecklelaw03_Maker_Pick 5 o14 r15 o15∧
     (((r15 == 4)=true→(∃ r16:api_Rx,∃ o16:hecklelaw03_Maker,C_hecklelaw06_small o15 r16 o16∧J o16.L o16.At (r14 == 5) r16.Kind r16.Set.e0 r16.Set.e1 r16.Set.e2 r16.Set.e3 r16.Lo r16.Hi r16.Kids))∧((r15 == 4)=false→J o15.L o15.At (r14 == 5) 0 0 0 0 0 0 0 ([]))))))∧
   ((!plain)=false→J o3.L o3.At false 0 0 0 0 0 0 0 ([]))):=by
   cases plain with
   | true=>exact ⟨false,zRx,o3,⟨ho3.l,ho3.a0,by have:=ho3.a1;omega⟩,.inl rfl,fun _=>⟨rfl,rfl⟩,fun J hJ=>⟨fun h=>(by cases h),fun _=>hJ⟩⟩
   | false=>
     obtain ⟨r14,o14,a0,a1,ha,ho14⟩:=pickS (k:=6) hL (by omega) (by omega) ho3
     obtain ⟨r15,o15,b0,b1,hb,ho15⟩:=pickS (k:=5) hL (by omega) (by omega) ho14
     by_cases h4:r15=4
     ·obtain ⟨y,o16,hy,hsy,ho16⟩:=small_ok hL (by omega) ho15
      exact ⟨r14 == 5,y,o16,⟨ho16.l,ho16.a0,by have:=ho16.a1;omega⟩,.inr hsy,fun h=>(by cases h),fun J hJ=>⟨fun _=>⟨r14,o14,ha,r15,o15,hb,fun _=>⟨y,o16,hy,hJ⟩,fun h=>(by simp [h4] at h)⟩,fun h=>(by cases h)⟩⟩
     ·exact ⟨r14 == 5,zRx,o15,⟨ho15.l,ho15.a0,by have:=ho15.a1;omega⟩,.inl rfl,fun h=>(by cases h),fun J hJ=>⟨fun _=>⟨r14,o14,ha,r15,o15,hb,fun h=>absurd (by simpa using h) h4,fun _=>hJ⟩,fun h=>(by cases h)⟩⟩
  refine ⟨_,_,W_hecklelaw06_rule c plain m _ _ ⟨r0,o,hp,fun L a t=>L=m1.L∧a=m1.At∧t=to,?_,s1 (fun L a t=>L=m1.L∧a=m1.At∧t=to) ⟨rfl,rfl,rfl⟩⟩,fit { Conds:=cs,All:=al,Bol:=bol,Rx:=x,Trail:={ Kind:=tr.Kind,Set:={ e0:=tr.Set.e0,e1:=tr.Set.e1,e2:=tr.Set.e2,e3:=tr.Set.e3 },Lo:=tr.Lo,Hi:=tr.Hi,Kids:=tr.Kids },Eof:=false,Act:=w64 (1+r0),To:=to } rfl rfl rfl rfl (.inr ⟨rfl,hsx,?_⟩),(⟨hm4.l,hm4.a0,hm4.a1⟩:MS L (n+200) { L:=m4.L,At:=m4.At }),fun h=>⟨(hpl h).1,?_⟩⟩
  ·rintro _ _ _ ⟨rfl,rfl,rfl⟩
   refine ⟨fun L a c' al'=>L=m2.L∧a=m2.At∧c'=cs∧al'=al,?_,r1,o1,hq,s2 (fun L a c' al'=>L=m2.L∧a=m2.At∧c'=cs∧al'=al) ⟨rfl,rfl,rfl,rfl⟩⟩
   rintro _ _ _ _ ⟨rfl,rfl,rfl,rfl⟩
   refine ⟨r2,o2,hu,fun h=>absurd (by simpa using h) h11,fun _=>⟨x,o3,hx,fun L a b k e0 e1 e2 e3 lo hi ks=>L=m4.L∧a=m4.At∧b=bol∧k=tr.Kind∧e0=tr.Set.e0∧e1=tr.Set.e1∧e2=tr.Set.e2∧e3=tr.Set.e3∧lo=tr.Lo∧hi=tr.Hi∧ks=tr.Kids,?_,s3 (fun L a b k e0 e1 e2 e3 lo hi ks=>L=m4.L∧a=m4.At∧b=bol∧k=tr.Kind∧e0=tr.Set.e0∧e1=tr.Set.e1∧e2=tr.Set.e2∧e3=tr.Set.e3∧lo=tr.Lo∧hi=tr.Hi∧ks=tr.Kids) ⟨rfl,rfl,rfl,rfl,rfl,rfl,rfl,rfl,rfl,rfl,rfl⟩⟩⟩
   rintro _ _ _ _ _ _ _ _ _ _ _ ⟨rfl,rfl,rfl,rfl,rfl,rfl,rfl,rfl,rfl,rfl,rfl⟩
   refine ⟨?_,rfl⟩
   congr 1
   clear hpl htr s3 hm4
   cases tr;rfl
  ·first | exact htr | (rw [rx_eta];exact htr)
  ·first | exact (hpl h).2 | (rw [rx_eta];exact (hpl h).2)
structure FitSpec (s:api_Spec):Prop where
 conds:∃ (n:Nat) (b:Bool),1≤n∧n≤3∧s.Conds=List.take n [{ Name:={ data:=#[(73:UInt8),(78:UInt8),(73:UInt8),(84:UInt8),(73:UInt8),(65:UInt8),(76:UInt8)] },Exclusive:=false },{ Name:={ data:=#[(66:UInt8)] },Exclusive:=b },{ Name:={ data:=#[(67:UInt8),(95:UInt8),(49:UInt8)] },Exclusive:=false }]∧s.Conds.length=n∧∀ r∈s.Rules,FitRule n r
 many:1≤s.Rules.length∧s.Rules.length≤4
inductive RuleRun (c:Int) (plain:Bool):hecklelaw03_Maker→List api_Rule→Int→List api_Rule→Prop where
 | done {m l i}:¬ i > 0→RuleRun c plain m l i l
 | step {m l i r o l'}:i > 0→C_hecklelaw06_rule c plain m r o→RuleRun c plain o (l++[r]) (i - 1) l'→RuleRun c plain m l i l'
theorem ruleRun {L:List Int} (hL:LOk L) {c:Int} (hc0:1≤c) (hc:c≤3) (plain:Bool):∀ (k:Nat) {l:List api_Rule} {n:Int} {m:hecklelaw03_Maker},MS L n m→n+200 * k < 50000→(∀ r∈l,FitRule c r∧(plain=true→r.Bol=false∧r.Trail=zRx))→
 ∃ l',RuleRun c plain m l k l'∧l'.length=l.length+k∧∀ r∈l',FitRule c r∧(plain=true→r.Bol=false∧r.Trail=zRx)
 | 0,l,n,m,hm,hn,hl=>⟨l,.done (by omega),by omega,hl⟩
 | k+1,l,n,m,hm,hn,hl=>by
   obtain ⟨r,o,h1,h2,h3,h4⟩:=rule_ok hL hc0 hc (by omega) plain hm
   obtain ⟨l',g1,g2,g3⟩:=ruleRun hL hc0 hc plain k (l:=l++[r]) h3 (by omega) (fun x hx=>by
    rcases List.mem_append.1 hx with hx | hx
    ·exact hl x hx
    ·obtain rfl:x=r:=by simpa using hx
     exact ⟨h2,h4⟩)
   refine ⟨l',.step (by omega) h1 (by rw [show ((k+1:Nat):Int) - 1=(k:Int) by omega];exact g1),by rw [g2,List.length_append];simp;omega,g3⟩
theorem made6_ok (l:List Int) (hb:Bytes l) (plain:Bool):∃ s,C_hecklelaw06_Made l plain s∧FitSpec s∧(plain=true→∀ r∈s.Rules,r.Bol=false∧r.Trail=zRx):=by
 obtain ⟨L,hLe⟩:∃ L,L=if l.length > 60 then l.take 60 else l:=⟨_,rfl⟩
 have hL:LOk L:=by
  rw [hLe];split
  ·exact ⟨fun b hb'=>hb b (List.mem_of_mem_take hb'),by simp;omega⟩
  ·exact ⟨hb,by omega⟩
 obtain ⟨r0,o,p0,p1,hp,ho⟩:=pickS (k:=3) (n:=0) (m:={ L:=L,At:=0 }) hL (by omega) (by omega) ⟨rfl,by simp,by simp⟩
 obtain ⟨r1,o1,q0,q1,hq,ho1⟩:=pickS (k:=2) hL (by omega) (by omega) ho
 obtain ⟨r2,o2,u0,u1,hu,ho2⟩:=pickS (k:=3) hL (by omega) (by omega) ho1
 obtain ⟨r3,o3,v0,v1,hv,ho3⟩:=pickS (k:=4) hL (by omega) (by omega) ho2
 have hw1:w64 (1+r0)=1+r0:=w64_id (by omega) (by omega)
 have hw3:w64 (1+r3)=((1+r3).toNat:Nat):=(w64_id (by omega) (by omega)).trans (by omega)
 obtain ⟨rs,g1,g2,g3⟩:=ruleRun hL (c:=1+r0) (by omega) (by omega) plain (1+r3).toNat (l:=[]) (m:={ L:=o3.L,At:=o3.At }) (n:=4) ⟨ho3.l,ho3.a0,ho3.a1⟩ (by omega) (by simp)
 refine ⟨{ Conds:=List.take (Int.toNat (w64 (1+r0))) [{ Name:={ data:=#[(73:UInt8),(78:UInt8),(73:UInt8),(84:UInt8),(73:UInt8),(65:UInt8),(76:UInt8)] },Exclusive:=false },{ Name:={ data:=#[(66:UInt8)] },Exclusive:=r1 == 1 },{ Name:={ data:=#[(67:UInt8),(95:UInt8),(49:UInt8)] },Exclusive:=false }],Default:=decide (r2 > 0),Rules:=rs },
  W_hecklelaw06_Made l plain _ ⟨fun l1=>l1=L,?_,fun h=>⟨⟨by omega,?_,fits_u8 l⟩,?_⟩,fun h=>?_⟩,⟨⟨(1+r0).toNat,r1 == 1,by omega,by omega,by rw [hw1],?_,fun r hr=>?_⟩,?_⟩,fun h r hr=>(g3 r hr).2 h⟩
 ·rintro l1 rfl
  refine ⟨r0,o,hp,r1,o1,hq,⟨by omega,by omega⟩,r2,o2,hu,r3,o3,hv,fun ls i a b=>RuleRun (1+r0) plain { L:=a,At:=b } ls i rs∧i≤4∧ls.length+i≤4,fun _ i _ _=>i.toNat,⟨?_,by omega,by rw [hw3];simp;omega⟩,?_⟩
  ·rw [hw3];exact g1
  ·rintro ls i a b ⟨hr,hi,hll⟩
   refine ⟨fun ht=>?_,fun ht=>?_⟩
   ·have ht:=of_decide_eq_true ht
    have hw2:w64 (i - 1)=i - 1:=w64_id (by omega) (by omega)
    cases hr with
    | done h=>exact absurd ht h
    | @step _ _ _ r o _ _ hp hr=>
      rw [hw1,hw2]
      exact ⟨r,o,hp,by omega,⟨hr,by omega,by rw [List.length_append];simp;omega⟩,by first | omega | (dsimp only;omega)⟩
   ·have ht:=of_decide_eq_false ht
    cases hr with
    | done h=>rfl
    | step h _ _=>exact absurd h ht
 ·have h:(l.length:Int) > 60:=by simpa using h
  show 60≤_;omega
 ·have h:(l.length:Int) > 60:=by simpa using h
  rw [hLe,if_pos (by omega)];rfl
 ·have h:¬ (l.length:Int) > 60:=by simpa using h
  rw [hLe,if_neg (by omega)]
 ·rw [hw1,List.length_take];simp;omega
 ·have:=(g3 r hr).1
  rwa [show (((1+r0).toNat:Nat):Int)=1+r0 by omega]
 ·have:rs.length=(1+r3).toNat:=by simpa using g2
  show 1≤rs.length∧rs.length≤4
  omega
end Go.Ev.Pl
set_option linter.unusedSimpArgs false
set_option linter.unusedVariables false
namespace Go.Ev.Pl
open Go Go.Ev
def ixF {α:Type} (p:α→Bool):List α→Int→Int
 | [],_=>-1
 | x :: r,i=>if p x=true then i else ixF p r (i+1)
theorem ixF_any {α:Type} (p:α→Bool):∀ (l:List α) (i:Int),0≤i→decide (ixF p l i≥0)=l.any p
 | [],i,h=>by simp [ixF]
 | x :: r,i,h=>by
   unfold ixF
   cases hp:p x with
   | true=>simp [hp,h]
   | false=>simp [hp];have:=ixF_any p r (i+1) (by omega);simpa using this
theorem lt_cast {i n:Nat}:decide ((i:Int) < (n:Int))=decide (i < n):=by simp only [decide_eq_decide];omega
theorem ix_walk {α:Type} [Inhabited α] (p:α→Bool) (l:List α) (hl:l.length < 1099511627776) (res:Int) (hres:res=ixF p l 0) :
 ∃ (Inv:Int→Prop) (mu:Int→Nat),Inv 0∧∀ t:Int,Inv t→(decide (t < (l.length:Int))=true→0≤t∧t < (l.length:Int)∧(p (gd l t)=true→res=t)∧(p (gd l t)=false→Inv (w64 (t+1))∧mu (w64 (t+1)) < mu t))∧(decide (t < (l.length:Int))=false→res = -1):=by
 refine ⟨fun t=>∃ i:Nat,t=i∧i≤l.length∧ixF p (l.drop i) i=res,fun t=>(l.length - t).toNat,⟨0,rfl,by omega,by rw [hres];rfl⟩,?_⟩
 rintro t ⟨i,rfl,hi,he⟩
 rw [lt_cast]
 refine ⟨fun ht=>?_,fun ht=>?_⟩
 ·have ht:=of_decide_eq_true ht
  rw [List.drop_eq_getElem_cons ht,ixF] at he
  rw [gd_nat ht,show w64 ((i:Int)+1)=((i+1:Nat):Int) from w64_id (by omega) (by omega)]
  refine ⟨by omega,by omega,fun h=>?_,fun h=>?_⟩
  ·rw [if_pos h] at he;exact he.symm
  ·rw [if_neg (by rw [h];simp)] at he
   exact ⟨⟨i+1,rfl,by omega,by rw [← he];rfl⟩,by first | omega | (dsimp only;omega)⟩
 ·have ht:=of_decide_eq_false ht
  rw [List.drop_of_length_le (by omega)] at he
  exact he.symm
def risesB (m:Int):Int→List Int→Bool
 | _,[]=>true
 | last,x :: r=>if (decide (x≤last) || decide (x≥m))=true then false else risesB m x r
theorem rises_spec {m:Int}:∀ {l:List Int} {last:Int},risesB m last l=true↔SS l∧∀ x∈l,last < x∧x < m
 | [],last=>by simp [risesB]
 | x :: r,last=>by
   unfold risesB
   by_cases h:(decide (x≤last) || decide (x≥m))=true
   ·rw [if_pos h]
    simp only [Bool.or_eq_true,decide_eq_true_eq] at h
    constructor
    ·intro h;cases h
    ·rintro ⟨_,h2⟩;have:=h2 x (List.mem_cons_self ..);omega
   ·rw [if_neg h,rises_spec,show SS (x :: r)↔(∀ y∈r,x < y)∧SS r from List.pairwise_cons]
    simp only [Bool.or_eq_true,decide_eq_true_eq] at h
    constructor
    ·rintro ⟨h1,h2⟩
     refine ⟨⟨fun y hy=>(h2 y hy).1,h1⟩,fun y hy=>?_⟩
     rcases List.mem_cons.1 hy with rfl | hy
     ·omega
     ·have:=h2 y hy;omega
    ·rintro ⟨⟨h1,h2⟩,h3⟩
     exact ⟨h2,fun y hy=>⟨h1 y hy,(h3 y (List.mem_cons_of_mem _ hy)).2⟩⟩
theorem places_ok (l:List Int) (m:Int) (hl:l.length≤9223372036854775807):C_auto_places l m (risesB m (-1) l):=by
 refine W_auto_places l m _ ⟨fun s t=>∃ i:Nat,t=i∧i≤l.length∧risesB m s (l.drop i)=risesB m (-1) l,fun s t=>(l.length - t).toNat,⟨0,rfl,by omega,rfl⟩,?_⟩
 rintro s t ⟨i,rfl,hi,he⟩
 rw [lt_cast]
 refine ⟨fun ht=>?_,fun ht=>?_⟩
 ·have ht:=of_decide_eq_true ht
  rw [List.drop_eq_getElem_cons ht,risesB] at he
  rw [gd_nat ht,show w64 ((i:Int)+1)=((i+1:Nat):Int) from w64_id (by omega) (by omega)]
  refine ⟨by omega,by omega,fun h=>?_,fun h=>?_⟩
  ·rw [if_pos h] at he;exact he.symm
  ·rw [if_neg (by rw [h];simp)] at he
   exact ⟨⟨i+1,rfl,by omega,he⟩,by first | omega | (dsimp only;omega)⟩
 ·have ht:=of_decide_eq_false ht
  rw [List.drop_of_length_le (by omega)] at he
  exact he.symm
def oddB (i:Int):Bool:=decide (i < 0) || decide (i≥40)
def zeroB (s:arr4_uint64):Bool:=(0:Int) == s.e0 && ((0:Int) == s.e1 && ((0:Int) == s.e2 && ((0:Int) == s.e3 && true)))
def lensB (a:api_Auto):Bool:=decide ((a.Sets.length:Int) > 600) || ((a.Owner.length:Int) != (a.Sets.length:Int) || ((a.Follow.length:Int) != (a.Sets.length:Int) || ((a.Ends.length:Int) != (a.Sets.length:Int) || decide ((a.Starts.length:Int) > 16))))
def rightA (a:api_Auto):Bool:=if lensB a=true then false else if a.Owner.any oddB=true then false else if a.Sets.any zeroB=true then false else (a.Follow++a.Starts).all (risesB a.Sets.length (-1))
theorem odd_ok (l:List Int) (hl:l.length < 1099511627776):C_slices_ContainsFunc__int_int_at_auto_Right_L1 l (l.any oddB):=by
 obtain ⟨Inv,mu,h0,hs⟩:=ix_walk oddB l hl _ rfl
 rw [← ixF_any oddB l 0 (by omega)]
 exact W_slices_ContainsFunc__int_int_at_auto_Right_L1 l _ ⟨_,W_slices_IndexFunc__int_int_at_auto_Right_L1 l _ ⟨Inv,mu,h0,fun t ht=>⟨fun h=>let ⟨a,b,c,d⟩:=(hs t ht).1 h;⟨a,b,_,W_auto_Right_L1 _ _ rfl,c,d⟩,(hs t ht).2⟩⟩,rfl⟩
theorem zero_ok (l:List arr4_uint64) (hl:l.length < 1099511627776):C_slices_Contains__api_Set_api_Set l { e0:=0,e1:=0,e2:=0,e3:=0 } (l.any zeroB):=by
 obtain ⟨Inv,mu,h0,hs⟩:=ix_walk zeroB l hl _ rfl
 rw [← ixF_any zeroB l 0 (by omega)]
 exact W_slices_Contains__api_Set_api_Set l _ _ ⟨_,W_slices_Index__api_Set_api_Set l _ _ ⟨Inv,mu,h0,fun t ht=>⟨fun h=>(hs t ht).1 h,(hs t ht).2⟩⟩,rfl⟩
theorem lens_of {a:api_Auto} (h:lensB a=false):a.Sets.length≤600∧a.Owner.length=a.Sets.length∧a.Follow.length=a.Sets.length∧a.Ends.length=a.Sets.length∧a.Starts.length≤16:=by
 simp only [lensB,Bool.or_eq_false_iff,decide_eq_false_iff_not,bne_eq_false_iff_eq] at h
 omega
def Small (a:api_Auto):Prop:=∀ l∈a.Follow++a.Starts,l.length≤9223372036854775807
theorem right_ok (a:api_Auto) (hsm:Small a):C_auto_Right a (rightA a):=by
 refine W_auto_Right a _ ?_
 simp only [List.length_map]
 refine ⟨fun h=>by unfold rightA;rw [if_pos (show lensB a=true from h)],fun h=>?_⟩
 have hlens:=h
 obtain ⟨l1,l2,l3,l4,l5⟩:=lens_of (a:=a) h
 refine ⟨_,odd_ok a.Owner (by omega),fun h1=>by unfold rightA;rw [if_neg (by rw [show lensB a=false from h];simp),if_pos h1],fun h1=>⟨_,zero_ok a.Sets (by omega),fun h2=>by unfold rightA;rw [if_neg (by rw [show lensB a=false from h];simp),if_neg (by rw [h1];simp),if_pos h2],fun h2=>⟨auto_lists_ok a,⟨by omega,by omega⟩,?_⟩⟩⟩
 have hr:rightA a=(a.Follow++a.Starts).all (risesB a.Sets.length (-1)):=by
  unfold rightA;rw [if_neg (by rw [show lensB a=false from h];simp),if_neg (by rw [h1];simp),if_neg (by rw [h2];simp)]
 refine ⟨fun i=>((a.Follow++a.Starts).take i).all (risesB a.Sets.length (-1))=true,rightA a=false,by simp,fun i y hi hy hI=>?_,fun hI=>?_,fun hS=>hS⟩
 ·have hlen:i < (a.Follow++a.Starts).length:=by rw [List.length_append];exact hi
  have hy':y=(a.Follow++a.Starts)[i]:=by rw [hy,List.getD_eq_getElem?_getD,List.getElem?_eq_getElem hlen];rfl
  refine ⟨_,places_ok y _ (by rw [hy'];exact hsm _ (List.getElem_mem hlen)),fun hb=>?_,fun hb=>?_⟩
  ·rw [hr,List.all_eq_false]
   refine ⟨y,by rw [hy'];exact List.getElem_mem hlen,?_⟩
   simpa using hb
  ·show ((a.Follow++a.Starts).take (i+1)).all _=true
   have hI:((a.Follow++a.Starts).take i).all (risesB a.Sets.length (-1))=true:=hI
   rw [List.take_succ_eq_append_getElem hlen,List.all_append,hI]
   rw [hy'] at hb
   simpa using hb
 ·rw [hr,List.take_of_length_le (by rw [List.length_append];omega)] at *;exact hI
theorem zero2 (s:arr4_uint64):(s.e0 == (0:Int) && (s.e1 == (0:Int) && (s.e2 == (0:Int) && (s.e3 == (0:Int) && true))))=zeroB s:=by
 unfold zeroB
 rw [Bool.eq_iff_iff]
 simp only [Bool.and_eq_true,beq_iff_eq,and_true]
 constructor<;>rintro ⟨h1,h2,h3,h4⟩<;>exact ⟨h1.symm,h2.symm,h3.symm,h4.symm⟩
theorem right10_ok (a:api_Auto) (hsm:Small a):C_heckleref10_Right a (rightA a):=by
 refine W_heckleref10_Right a _ ?_
 simp only [List.length_map,zero2]
 refine ⟨fun h=>by unfold rightA;rw [if_pos (show lensB a=true from h)],fun h=>?_⟩
 obtain ⟨l1,l2,l3,l4,l5⟩:=lens_of (a:=a) h
 have hL:¬ lensB a=true:=by rw [show lensB a=false from h];simp
 refine ⟨fun t=>∃ i:Nat,t=i∧i≤a.Sets.length∧(a.Owner.take i).any oddB=false∧(a.Sets.take i).any zeroB=false,fun t=>(a.Sets.length - t).toNat,⟨0,rfl,by omega,by simp,by simp⟩,?_⟩
 rintro t ⟨i,rfl,hi,i1,i2⟩
 rw [lt_cast]
 refine ⟨fun ht=>?_,fun ht=>?_⟩
 ·have ht:=of_decide_eq_true ht
  have ho:i < a.Owner.length:=by omega
  rw [gd_nat ht,gd_nat ho,show w64 ((i:Int)+1)=((i+1:Nat):Int) from w64_id (by omega) (by omega)]
  refine ⟨by omega,by omega,fun _=>by omega,fun _=>by omega,fun _ _=>by omega,fun _ _=>by omega,fun hb=>?_,fun hb=>?_⟩
  ·unfold rightA
   rw [if_neg hL]
   by_cases h1:a.Owner.any oddB=true
   ·rw [if_pos h1]
   ·rw [if_neg h1]
    rw [if_pos]
    rw [← Bool.or_assoc] at hb
    rcases Bool.or_eq_true_iff.1 hb with hb | hb
    ·exact absurd (List.any_eq_true.2 ⟨_,List.getElem_mem ho,hb⟩) h1
    ·exact List.any_eq_true.2 ⟨_,List.getElem_mem ht,hb⟩
  ·rw [← Bool.or_assoc] at hb
   obtain ⟨hb1,hb2⟩:=Bool.or_eq_false_iff.1 hb
   refine ⟨⟨i+1,rfl,by omega,?_,?_⟩,by first | omega | (dsimp only;omega)⟩
   ·rw [List.take_succ_eq_append_getElem ho,List.any_append,i1];simpa [oddB] using hb1
   ·rw [List.take_succ_eq_append_getElem ht,List.any_append,i2];simpa using hb2
 have ht:=of_decide_eq_false ht
 have hi':i=a.Sets.length:=by omega
 subst hi'
 rw [List.take_of_length_le (by omega)] at i1 i2
 have hr:rightA a=(a.Follow++a.Starts).all (risesB a.Sets.length (-1)):=by
  unfold rightA;rw [if_neg hL,if_neg (by rw [i1];simp),if_neg (by rw [i2];simp)]
 have hw:w64 ((a.Sets.length:Int)+(a.Starts.length:Int))=((a.Sets.length+a.Starts.length:Nat):Int):=w64_id (by omega) (by omega)
 rw [hw]
 refine ⟨fun t=>∃ i:Nat,t=i∧i≤a.Sets.length+a.Starts.length∧((a.Follow++a.Starts).take i).all (risesB a.Sets.length (-1))=true,fun t=>(a.Sets.length+a.Starts.length - t).toNat,⟨0,rfl,by omega,by simp⟩,?_⟩
 rintro t ⟨i,rfl,hi,hI⟩
 simp only [lt_cast]
 refine ⟨fun ht=>?_,fun ht=>?_⟩
 ·have ht:=of_decide_eq_true ht
  have hlen:i < (a.Follow++a.Starts).length:=by rw [List.length_append];omega
  have hw2:w64 ((i:Int)+1)=((i+1:Nat):Int):=w64_id (by omega) (by omega)
  refine ⟨fun l=>l=(a.Follow++a.Starts)[i],?_,fun hc=>?_,fun hc=>?_⟩
  ·rintro l hl
   have hll:l.length≤9223372036854775807:=by rw [hl];exact hsm _ (List.getElem_mem hlen)
   refine ⟨fun t=>∃ k:Nat,t=k∧k≤l.length∧(∀ h:0 < k,∀ h2:k - 1 < l.length,0≤l[k - 1])∧risesB a.Sets.length (if h:0 < k∧k - 1 < l.length then l[k - 1]'h.2 else -1) (l.drop k)=risesB a.Sets.length (-1) l,fun t=>(l.length - t).toNat,⟨0,rfl,by omega,fun h=>absurd h (by omega),by simp⟩,?_⟩
   rintro t ⟨k,rfl,hk,hp,he⟩
   rw [lt_cast]
   refine ⟨fun hkt=>?_,fun hkt=>?_⟩
   ·have hkt:=of_decide_eq_true hkt
    have hwk:w64 ((k:Int)+1)=((k+1:Nat):Int):=w64_id (by omega) (by omega)
    rw [gd_nat hkt,hwk]
    have hkm:decide ((k:Int) > 0)=true→w64 ((k:Int) - 1)=((k - 1:Nat):Int):=fun h=>by
     have:=of_decide_eq_true h
     rw [w64_id (by omega) (by omega)];omega
    refine ⟨by omega,by omega,fun _=>by omega,fun _=>by omega,fun _ _ _=>by omega,fun _ _ _=>by omega,fun _ _ h=>by rw [hkm h];omega,fun _ _ h=>by rw [hkm h];omega,?_⟩
    have hcond:(decide (l[k] < 0) || (decide (l[k]≥(a.Sets.length:Int)) || decide ((k:Int) > 0) && decide (l[k]≤gd l (w64 ((k:Int) - 1)))))=(decide (l[k]≤(if h:0 < k∧k - 1 < l.length then l[k - 1]'h.2 else -1)) || decide (l[k]≥(a.Sets.length:Int))):=by
     by_cases h0:0 < k
     ·have hk1:k - 1 < l.length:=by omega
      rw [hkm (by simpa using h0),gd_nat hk1,dif_pos ⟨h0,hk1⟩]
      have:=hp h0 hk1
      rw [Bool.eq_iff_iff]
      simp only [Bool.or_eq_true,Bool.and_eq_true,decide_eq_true_eq]
      omega
     ·rw [dif_neg (fun h=>h0 h.1)]
      rw [Bool.eq_iff_iff]
      simp only [Bool.or_eq_true,Bool.and_eq_true,decide_eq_true_eq]
      omega
    rw [hcond]
    rw [List.drop_eq_getElem_cons hkt,risesB] at he
    refine ⟨fun hb=>?_,fun hb=>?_⟩
    ·rw [if_pos hb] at he
     rw [hr,List.all_eq_false]
     exact ⟨l,by rw [hl];exact List.getElem_mem hlen,by rw [← he];simp⟩
    ·rw [if_neg (by rw [hb];simp)] at he
     have hpos:0≤l[k]:=by
      simp only [Bool.or_eq_false_iff,decide_eq_false_iff_not] at hb
      by_cases h0:0 < k∧k - 1 < l.length
      ·rw [dif_pos h0] at hb;have:=hp h0.1 h0.2;omega
      ·rw [dif_neg h0] at hb;omega
     refine ⟨⟨k+1,rfl,by omega,fun _ h2=>by simpa using hpos,?_⟩,by first | omega | (dsimp only;omega)⟩
     rw [dif_pos ⟨by omega,by omega⟩]
     simpa using he
   ·have hkt:=of_decide_eq_false hkt
    rw [List.drop_of_length_le (by omega)] at he
    rw [hw2]
    refine ⟨⟨i+1,rfl,by omega,?_⟩,by first | omega | (dsimp only;omega)⟩
    rw [List.take_succ_eq_append_getElem hlen,List.all_append,hI,← hl]
    simp [← he,risesB]
  ·have hc:=of_decide_eq_true hc
   refine ⟨by omega,by omega,?_⟩
   rw [gd_nat (show i < a.Follow.length by omega),List.getElem_append_left]
  ·have hc:=of_decide_eq_false hc
   have hw3:w64 ((i:Int) - (a.Sets.length:Int))=((i - a.Sets.length:Nat):Int):=by rw [w64_id (by omega) (by omega)];omega
   rw [hw3]
   refine ⟨by omega,by omega,?_⟩
   rw [gd_nat (show i - a.Sets.length < a.Starts.length by omega),List.getElem_append_right (by omega)]
   simp only [l3]
 ·have ht:=of_decide_eq_false ht
  rw [hr]
  rw [List.take_of_length_le (by rw [List.length_append];omega)] at hI
  exact hI.symm▸rfl
end Go.Ev.Pl
set_option linter.unusedSimpArgs false
set_option linter.unusedVariables false
namespace Go.Ev.Pl
open Go Go.Ev
theorem aMoved_ok (n:Nat) (p:Nat→Bool) (off d:Nat) (h:n+off+d < 1000000):C_auto_moved (lst n p off) d (lst n p (off+d)):=by
 have hl:=lst_len n p off
 have he:lst n p (off+d)=(lst n p off).map (·+(d:Int)):=by
  simp only [lst,List.map_map]
  refine List.map_congr_left fun i _=>?_
  simp only [Function.comp];omega
 rw [he]
 refine W_auto_moved _ _ _ ⟨fun o t=>∃ i:Nat,t=i∧i≤(lst n p off).length∧o=((lst n p off).take i).map (·+(d:Int)),fun o t=>((lst n p off).length - t).toNat,⟨0,rfl,by omega,rfl⟩,?_⟩
 rintro o t ⟨i,rfl,hi,rfl⟩
 refine ⟨fun ht=>?_,fun ht=>?_⟩
 ·have ht:i < (lst n p off).length:=by simpa using ht
  have hm:=lst_mem.1 (List.getElem_mem ht)
  obtain ⟨j,hj,_,hv⟩:=hm
  have hw:w64 (gd (lst n p off) (i:Int)+d)=(lst n p off)[i]+d:=by rw [gd_nat ht];exact w64_id (by omega) (by omega)
  have hw2:w64 ((i:Int)+1)=((i+1:Nat):Int):=w64_id (by omega) (by omega)
  rw [hw,hw2]
  refine ⟨by omega,by omega,by simp;omega,⟨i+1,rfl,by omega,?_⟩,by first | omega | (dsimp only;omega)⟩
  rw [List.take_succ_eq_append_getElem ht,List.map_append];rfl
 ·have:i=(lst n p off).length:=by have:¬ i < (lst n p off).length:=by simpa using ht
                                  omega
  subst this
  rw [List.take_of_length_le (Nat.le_refl _)]
structure Bd (a:api_Auto) (m:Nat):Prop where
 own:a.Owner.length=a.Sets.length
 fol:a.Follow.length=a.Sets.length
 ends:a.Ends.length=a.Sets.length
 small:∀ f∈a.Follow,f.length < 10000
 room:a.Sets.length≤m
def putM (g:GA) (rule:Int) (a:api_Auto):api_Auto:=
 { Sets:=a.Sets++g.sets,Owner:=a.Owner++List.replicate g.n rule,Follow:=a.Follow++flw g a.Sets.length,Ends:=a.Ends++List.replicate g.n false,Starts:=a.Starts }
theorem flw_len_le (g:GA) (off:Nat) {f:List Int} (hf:f∈flw g off):f.length≤g.n:=by
 simp only [flw,List.mem_map,List.mem_range] at hf
 obtain ⟨i,_,rfl⟩:=hf
 exact lst_len g.n (g.follow i) off
theorem Bd.put {a:api_Auto} {m:Nat} (h:Bd a m) {g:GA} (hc:Canon g) (hg:g.n < 10000) (rule:Int):Bd (putM g rule a) (m+g.n):=
 ⟨by simp [putM,h.own,hc.sets],by simp [putM,h.fol,flw_len,hc.sets],by simp [putM,h.ends,hc.sets],fun f hf=>by
   rcases List.mem_append.1 hf with hf | hf
   ·exact h.small f hf
   ·have:=flw_len_le g _ hf;omega,by simp only [putM,List.length_append,hc.sets];have:=h.room;omega⟩
theorem put_ok (x:api_Rx) (hw:Wf x) (hr:rightB x=true) (rule:Int) (a:api_Auto) (hb:Bd a 100000) (hn:(gof x).n < 10000) :
 C_auto_builder_put x rule ⟨a⟩ (lst (gof x).n (gof x).first a.Sets.length) (lst (gof x).n (gof x).last a.Sets.length) (gof x).null ⟨putM (gof x) rule a⟩:=by
 have hp:=placeOf_ok x hw
 rw [hr] at hp
 simp only [if_true] at hp
 have hc:=canon_gof x
 have h1:=hb.own;have h2:=hb.fol;have h3:=hb.ends;have h4:=hb.room
 refine W_auto_builder_put x rule ⟨a⟩ _ _ _ _ ⟨_,_,hp,by simp only [plc,hc.sets];omega,fun O F E t=>∃ i:Nat,t=i∧i≤(gof x).n∧O=a.Owner++List.replicate i rule∧F=a.Follow++(flw (gof x) a.Sets.length).take i∧E=a.Ends++List.replicate i false,
  fun O F E t=>((gof x).n - t).toNat,⟨0,rfl,by omega,by simp,by simp,by simp⟩,?_⟩
 rintro O F E t ⟨i,rfl,hi,rfl,rfl,rfl⟩
 have hlen:(plc (gof x)).Follow.length=(gof x).n:=flw_len _ _
 rw [hlen]
 refine ⟨fun ht=>?_,fun ht=>?_⟩
 ·have ht:i < (gof x).n:=by simpa using ht
  have hw2:w64 ((i:Int)+1)=((i+1:Nat):Int):=w64_id (by omega) (by omega)
  have hgd:gd (plc (gof x)).Follow (i:Int)=lst (gof x).n ((gof x).follow i) 0:=by
   rw [gd_nat (by rw [hlen];exact ht)];exact flw_get _ _ ht
  have hf:i < (flw (gof x) a.Sets.length).length:=by rw [flw_len];exact ht
  rw [hgd,hw2]
  refine ⟨by omega,by omega,by simp;omega,by simp;omega,_,aMoved_ok _ _ 0 a.Sets.length (by omega),by simp;omega,⟨i+1,rfl,by omega,?_,?_,?_⟩,by first | omega | (dsimp only;omega)⟩
  ·rw [List.append_assoc,← List.replicate_succ']
  ·rw [List.take_succ_eq_append_getElem hf,flw_get _ _ ht,Nat.zero_add,List.append_assoc]
  ·rw [List.append_assoc,← List.replicate_succ']
 ·have ht:i=(gof x).n:=by have:¬ i < (gof x).n:=by simpa using ht
                          omega
  subst ht
  have e1:=aMoved_ok (gof x).n (gof x).first 0 a.Sets.length (by omega)
  have e2:=aMoved_ok (gof x).n (gof x).last 0 a.Sets.length (by omega)
  rw [Nat.zero_add] at e1 e2
  refine ⟨_,e1,_,e2,rfl,rfl,rfl,?_⟩
  rw [List.take_of_length_le (by rw [flw_len];omega)];rfl
def gHT (a b:GA):GA:={ gCat a b with first:=a.first }
def gR (r:api_Rule):GA:=if r.Eof=true then gEmpty else if r.Trail.Kind=0 then gof r.Rx else gHT (gof r.Rx) (gof r.Trail)
theorem canon_gHT {a b:GA} (ha:Canon a) (hb:Canon b):Canon (gHT a b):=by
 have h:=canon_cat ha hb
 exact ⟨h.sets,fun i hi=>ha.first i (by have:a.n+b.n≤i:=hi;omega),h.last,h.follow⟩
theorem canon_gR (r:api_Rule):Canon (gR r):=by
 unfold gR
 split
 ·exact canon_empty
 ·split
  ·exact canon_gof _
  ·exact canon_gHT (canon_gof _) (canon_gof _)
def addM (r:api_Rule) (i:Int) (a:api_Auto):api_Auto:=
 { Sets:=a.Sets++(gR r).sets,Owner:=a.Owner++List.replicate (gR r).n i,Follow:=a.Follow++flw (gR r) a.Sets.length,Ends:=a.Ends++(List.range (gR r).n).map (gR r).last,Starts:=a.Starts }
def begM (r:api_Rule) (a:api_Auto):List Int:=if r.Eof=true then [] else lst (gof r.Rx).n (gof r.Rx).first a.Sets.length
def markF (E:List Bool) (l:List Int):List Bool:=E.mapIdx fun i b=>if (i:Int)∈l then true else b
theorem markF_len (E:List Bool) (l:List Int):(markF E l).length=E.length:=by simp [markF]
theorem markF_get (E:List Bool) (l:List Int) {i:Nat} (h:i < E.length):(markF E l)[i]'(by rw [markF_len];exact h)=if (i:Int)∈l then true else E[i]:=by simp [markF]
theorem mark_step {E:List Bool} {l:List Int} {i e:Nat} (ht:i < l.length) (he:l[i]=(e:Int)) (hE:e < E.length):(markF E (l.take i)).set e true=markF E (l.take (i+1)):=by
 refine set_eq (by rw [markF_len,markF_len]) (fun j hj hne=>?_) (fun hj=>?_)
 ·rw [markF_len] at hj
  rw [markF_get _ _ hj,markF_get _ _ hj,List.take_succ_eq_append_getElem ht,he]
  have:((j:Int)∈l.take i++[(e:Int)])↔(j:Int)∈l.take i:=by
   rw [List.mem_append,List.mem_singleton]
   constructor
   ·rintro (h | h)
    ·exact h
    ·exact absurd (by omega) hne
   ·exact .inl
  simp only [this]
 ·rw [markF_get _ _ hE,List.take_succ_eq_append_getElem ht,he,if_pos (by simp)]
theorem mark_lst (E0:List Bool) (g:GA) {off:Nat} (hE:E0.length=off):markF (E0++List.replicate g.n false) (lst g.n g.last off)=E0++(List.range g.n).map g.last:=by
 apply List.ext_getElem
 ·rw [markF_len];simp
 ·intro i h1 h2
  rw [markF_len] at h1
  rw [markF_get _ _ h1]
  simp only [List.length_append,List.length_replicate] at h1
  have hin:(i:Int)∈lst g.n g.last off↔off≤i∧i < off+g.n∧g.last (i - off)=true:=by
   rw [lst_mem]
   constructor
   ·rintro ⟨j,hj,hp,e⟩
    have:i=j+off:=by omega
    subst this
    exact ⟨by omega,by omega,by rw [Nat.add_sub_cancel];exact hp⟩
   ·rintro ⟨q1,q2,q3⟩
    exact ⟨i - off,by omega,q3,by omega⟩
  rcases Nat.lt_or_ge i off with hi | hi
  ·rw [if_neg (by rw [hin];omega),List.getElem_append_left (by omega),List.getElem_append_left (by omega)]
  ·rw [List.getElem_append_right (by omega),List.getElem_append_right (by omega)]
   simp only [List.getElem_replicate,List.getElem_map,List.getElem_range,hE]
   by_cases hl:g.last (i - off)=true
   ·rw [if_pos (hin.2 ⟨hi,by omega,hl⟩),hl]
   ·rw [if_neg (fun h=>hl (hin.1 h).2.2)];simpa using hl
theorem lead_step {F:List (List Int)} {fr to:List Int} {i e:Nat} (hs:SS fr) (ht:i < fr.length) (he:fr[i]=(e:Int)) (hF:e < F.length) :
 gd (leadF F (fr.take i) to) (e:Int)=F[e]∧(leadF F (fr.take i) to).set e (join F[e] to)=leadF F (fr.take (i+1)) to:=by
 have hl:(leadF F (fr.take i) to).length=F.length:=leadF_len _ _ _
 have hnot:¬ ((e:Int)∈fr.take i):=by
  intro hm
  obtain ⟨k,hk,hk2⟩:=List.mem_iff_getElem.1 hm
  simp only [List.length_take] at hk
  rw [List.getElem_take] at hk2
  have:=List.pairwise_iff_getElem.1 hs k i (by omega) ht (by omega)
  omega
 refine ⟨by rw [gd_nat (by rw [hl];exact hF),leadF_get _ _ _ hF,if_neg hnot],?_⟩
 refine set_eq (by rw [leadF_len,leadF_len]) (fun j hj hne=>?_) (fun hj=>?_)
 ·rw [hl] at hj
  rw [leadF_get _ _ _ hj,leadF_get _ _ _ hj,List.take_succ_eq_append_getElem ht,he]
  have:((j:Int)∈fr.take i++[(e:Int)])↔(j:Int)∈fr.take i:=by
   rw [List.mem_append,List.mem_singleton]
   constructor
   ·rintro (h | h)
    ·exact h
    ·exact absurd (by omega) hne
   ·exact .inl
  simp only [this]
 ·rw [leadF_get _ _ _ hF,List.take_succ_eq_append_getElem ht,he,if_pos (by simp)]
end Go.Ev.Pl
set_option linter.unusedSimpArgs false
set_option linter.unusedVariables false
namespace Go.Ev.Pl
open Go Go.Ev
def RBody (r:api_Rule):Prop:=r.Eof=true∨(r.Eof=false∧(Wf r.Rx∧rightB r.Rx=true)∧(r.Trail.Kind=0∨(r.Trail.Kind≠0∧Wf r.Trail∧rightB r.Trail=true)))
theorem gof_small {x:api_Rx} (h:rightB x=true):(gof x).n≤200:=by
 obtain ⟨h1,h2⟩:=size_of_right h
 rw [gof_n x h1];exact h2
theorem gR_n {r:api_Rule} (h:RBody r):(gR r).n≤400:=by
 unfold gR
 rcases h with h | ⟨h0,h1,h2⟩
 ·rw [if_pos h];show (0:Nat)≤400;omega
 ·rw [if_neg (by rw [h0];simp)]
  have:=gof_small h1.2
  rcases h2 with h2 | ⟨h2,h3,h4⟩
  ·rw [if_pos h2];omega
  ·rw [if_neg h2]
   have:=gof_small h4
   show (gof r.Rx).n+(gof r.Trail).n≤400;omega
theorem addM_eof {r:api_Rule} (h:r.Eof=true) (i:Int) (a:api_Auto):addM r i a=a:=by
 cases a
 simp [addM,gR,h,gEmpty,flw]
theorem ruleEnd {g:GA} {i:Int} {a:api_Auto} {r0:List Int} {res:List Int} {fin:auto_builder} (hb:Bd a 50000) (hg:g.n≤400) (hres:res=r0)
 (hfin:fin=⟨{ Sets:=a.Sets++g.sets,Owner:=a.Owner++List.replicate g.n i,Follow:=a.Follow++flw g a.Sets.length,Ends:=a.Ends++(List.range g.n).map g.last,Starts:=a.Starts }⟩) :
 ∀ S O F E St (e:List Int),(S=a.Sets++g.sets∧O=a.Owner++List.replicate g.n i∧F=a.Follow++flw g a.Sets.length∧E=a.Ends++List.replicate g.n false∧St=a.Starts∧e=lst g.n g.last a.Sets.length)→
   ∃ (Inv:List Bool→Int→Prop) (mu:List Bool→Int→Nat),Inv E 0∧∀ (E':List Bool) (t:Int),Inv E' t→
     (decide (t < (e.length:Int))=true→0≤t∧t < (e.length:Int)∧0≤gd e t∧(gd e t).toNat < E'.length∧gd e t < (E'.length:Int)∧(Inv (E'.set (gd e t).toNat true) (w64 (t+1))∧mu (E'.set (gd e t).toNat true) (w64 (t+1)) < mu E' t))∧
     (decide (t < (e.length:Int))=false→res=r0∧fin=⟨{ Sets:=S,Owner:=O,Follow:=F,Ends:=E',Starts:=St }⟩):=by
 rintro S O F E St e ⟨rfl,rfl,rfl,rfl,rfl,rfl⟩
 have hl:=lst_len g.n g.last a.Sets.length
 have h3:=hb.ends
 refine ⟨fun E' t=>∃ j:Nat,t=j∧j≤(lst g.n g.last a.Sets.length).length∧E'=markF (a.Ends++List.replicate g.n false) ((lst g.n g.last a.Sets.length).take j),fun E' t=>((lst g.n g.last a.Sets.length).length - t).toNat,⟨0,rfl,by omega,?_⟩,?_⟩
 ·exact (List.ext_getElem (by rw [markF_len]) (fun j h1 h2=>by rw [markF_get _ _ (by rw [markF_len] at h1;exact h1)];simp)).symm
 rintro E' t ⟨j,rfl,hj,rfl⟩
 rw [lt_cast]
 refine ⟨fun ht=>?_,fun ht=>?_⟩
 ·have ht:=of_decide_eq_true ht
  obtain ⟨k,hk,_,he⟩:=lst_mem.1 (List.getElem_mem ht)
  have hel:(a.Ends++List.replicate g.n false).length=a.Sets.length+g.n:=by simp [h3]
  rw [gd_nat ht,show w64 ((j:Int)+1)=((j+1:Nat):Int) from w64_id (by omega) (by omega),markF_len,hel,he,Int.toNat_natCast]
  refine ⟨by omega,by omega,by omega,by omega,by omega,⟨j+1,rfl,by omega,?_⟩,by first | omega | (dsimp only;omega)⟩
  exact mark_step ht he (by omega)
 ·have ht:=of_decide_eq_false ht
  refine ⟨hres,?_⟩
  rw [List.take_of_length_le (by omega),mark_lst _ _ h3,hfin]
theorem aRule_ok (r:api_Rule) (hr:RBody r) (i:Int) (a:api_Auto) (hb:Bd a 50000):C_auto_builder_rule r i ⟨a⟩ (begM r a) ⟨addM r i a⟩:=by
 have hb':Bd a 100000:=⟨hb.own,hb.fol,hb.ends,hb.small,by have:=hb.room;omega⟩
 have hroom:=hb.room
 refine W_auto_builder_rule r i ⟨a⟩ _ _ ⟨fun h=>?_,fun h=>?_⟩
 ·rw [addM_eof h];unfold begM;rw [if_pos h];exact ⟨rfl,rfl⟩
 ·have hne:¬ r.Eof=true:=by rw [h];simp
  rcases hr with hr | ⟨-,⟨w1,q1⟩,hT⟩
  ·exact absurd hr hne
  have n1:=gof_small q1
  have hc1:=canon_gof r.Rx
  have hbeg:begM r a=lst (gof r.Rx).n (gof r.Rx).first a.Sets.length:=by unfold begM;rw [if_neg hne]
  refine ⟨_,_,_,_,put_ok r.Rx w1 q1 i a hb' (by omega),?_⟩
  rcases hT with hT | ⟨hT,w2,q2⟩
  ·have hg:gR r=gof r.Rx:=by unfold gR;rw [if_neg hne,if_pos hT]
   refine ⟨fun S O F E St e=>S=a.Sets++(gof r.Rx).sets∧O=a.Owner++List.replicate (gof r.Rx).n i∧F=a.Follow++flw (gof r.Rx) a.Sets.length∧E=a.Ends++List.replicate (gof r.Rx).n false∧St=a.Starts∧e=lst (gof r.Rx).n (gof r.Rx).last a.Sets.length,
    ruleEnd hb (by omega) hbeg (by unfold addM;rw [hg]),fun h=>by rw [hT] at h;simp at h,fun _=>⟨rfl,rfl,rfl,rfl,rfl,rfl⟩⟩
  ·have hg:gR r=gHT (gof r.Rx) (gof r.Trail):=by unfold gR;rw [if_neg hne,if_neg hT]
   have n2:=gof_small q2
   have hc2:=canon_gof r.Trail
   obtain ⟨A,hA⟩:∃ A,A=gof r.Rx:=⟨_,rfl⟩
   obtain ⟨B,hB⟩:∃ B,B=gof r.Trail:=⟨_,rfl⟩
   rw [← hA] at n1 hc1 hbeg ⊢
   rw [← hB] at n2 hc2
   rw [← hA,← hB] at hg
   have hb1:Bd (putM A i a) 100000:=by
    have:=hb.put hc1 (by omega) i
    exact ⟨this.own,this.fol,this.ends,this.small,by have:=this.room;omega⟩
   have hp:=put_ok r.Trail w2 q2 i (putM A i a) hb1 (by rw [← hB];omega)
   rw [← hB] at hp
   have hs1:(putM A i a).Sets.length=a.Sets.length+A.n:=by simp [putM,hc1.sets]
   rw [hs1] at hp
   have hF:(putM B i (putM A i a)).Follow=a.Follow++flw A a.Sets.length++flw B (a.Sets.length+A.n):=by
    show (a.Follow++flw A a.Sets.length)++flw B (putM A i a).Sets.length=_
    rw [hs1]
   have hfl:=hb.fol
   have hla:=lst_len A.n A.last a.Sets.length
   have hlb:=lst_len B.n B.first (a.Sets.length+A.n)
   have hlb2:=lst_len B.n B.last (a.Sets.length+A.n)
   have hcat:=lead_cat a.Follow A B
   rw [hfl] at hcat
   have hFl:(a.Follow++flw A a.Sets.length++flw B (a.Sets.length+A.n)).length=a.Sets.length+A.n+B.n:=by simp [flw_len,hfl];omega
   refine ⟨fun S O F E St e=>S=a.Sets++(gHT A B).sets∧O=a.Owner++List.replicate (gHT A B).n i∧F=a.Follow++flw (gHT A B) a.Sets.length∧E=a.Ends++List.replicate (gHT A B).n false∧St=a.Starts∧e=lst (gHT A B).n (gHT A B).last a.Sets.length,
    ruleEnd hb (show A.n+B.n≤400 by omega) hbeg (by unfold addM;rw [hg]),fun _=>⟨_,_,_,_,hp,?_⟩,fun h=>by exact absurd (by simpa using h) hT⟩
   refine ⟨fun F t=>∃ j:Nat,t=j∧j≤(lst A.n A.last a.Sets.length).length∧F=leadF (a.Follow++flw A a.Sets.length++flw B (a.Sets.length+A.n)) ((lst A.n A.last a.Sets.length).take j) (lst B.n B.first (a.Sets.length+A.n)),
    fun F t=>((lst A.n A.last a.Sets.length).length - t).toNat,⟨0,rfl,by omega,?_⟩,?_⟩
   ·rw [hF];exact (List.ext_getElem (by rw [leadF_len]) (fun j h1 h2=>by rw [leadF_get _ _ _ (by rw [leadF_len] at h1;exact h1)];simp)).symm
   rintro F t ⟨j,rfl,hj,rfl⟩
   simp only [lt_cast]
   refine ⟨fun ht=>?_,fun ht=>?_⟩
   ·have ht:=of_decide_eq_true ht
    obtain ⟨k,hk,_,he⟩:=lst_mem.1 (List.getElem_mem ht)
    have hkl:k+a.Sets.length < (a.Follow++flw A a.Sets.length++flw B (a.Sets.length+A.n)).length:=by rw [hFl];omega
    obtain ⟨g1,g2⟩:=lead_step (to:=lst B.n B.first (a.Sets.length+A.n)) (lst_ss _ _ _) ht he hkl
    rw [gd_nat ht,show w64 ((j:Int)+1)=((j+1:Nat):Int) from w64_id (by omega) (by omega),leadF_len,he,Int.toNat_natCast,g1]
    have hsm:((a.Follow++flw A a.Sets.length++flw B (a.Sets.length+A.n))[k+a.Sets.length]).length < 10000:=by
     have hm:=List.getElem_mem hkl
     rcases List.mem_append.1 hm with hm | hm
     ·rcases List.mem_append.1 hm with hm | hm
      ·exact hb.small _ hm
      ·have:=flw_len_le A _ hm;omega
     ·have:=flw_len_le B _ hm;omega
    exact ⟨by omega,by omega,by omega,by omega,by omega,_,join_ok _ _ (by omega) (by omega),by omega,by omega,by omega,⟨j+1,rfl,by omega,g2⟩,by first | omega | (dsimp only;omega)⟩
   ·have ht:=of_decide_eq_false ht
    rw [List.take_of_length_le (by omega),hcat]
    have hlast:=cat_last A B a.Sets.length
    refine ⟨fun e=>e=lst (gHT A B).n (gHT A B).last a.Sets.length,?_,fun hn=>?_,fun hn=>?_⟩
    ·rintro e rfl
     refine ⟨?_,?_,rfl,?_,rfl,rfl⟩
     ·show (a.Sets++A.sets)++B.sets=a.Sets++(A.sets++B.sets);rw [List.append_assoc]
     ·show (a.Owner++List.replicate A.n i)++List.replicate B.n i=a.Owner++List.replicate (A.n+B.n) i
      rw [List.append_assoc,List.replicate_append_replicate]
     ·show (a.Ends++List.replicate A.n false)++List.replicate B.n false=a.Ends++List.replicate (A.n+B.n) false
      rw [List.append_assoc,List.replicate_append_replicate]
    ·rw [if_pos hn] at hlast
     exact ⟨_,join_ok _ _ (by omega) (by omega),hlast⟩
    ·rw [if_neg (by rw [hn];simp)] at hlast
     exact hlast
end Go.Ev.Pl
set_option linter.unusedSimpArgs false
set_option linter.unusedVariables false
namespace Go.Ev.Pl
open Go Go.Ev
def activeB (s:api_Spec) (i c:Nat):Bool:=
 if (s.Rules.getD i default).All=true then true else if (s.Rules.getD i default).Conds.contains (c:Int)=true then true else
  if (s.Rules.getD i default).Conds.length=0 then !(s.Conds.getD c default).Exclusive else false
theorem active_ok (s:api_Spec) {i c:Nat} (hi:i < s.Rules.length) (hc:c < s.Conds.length) (hr:s.Rules.length < 1000000) (hcl:s.Conds.length < 1000000) (hl:(s.Rules.getD i default).Conds.length < 1000000):C_spec_Active s i c (activeB s i c):=by
 refine W_spec_Active s i c _ ?_
 simp only [List.length_map]
 have hg:gd s.Rules (i:Int)=s.Rules.getD i default:=by rw [gd_nat hi];simp [List.getD,hi]
 have hgc:gd s.Conds (c:Int)=s.Conds.getD c default:=by rw [gd_nat hc];simp [List.getD,hc]
 rw [hg,hgc]
 refine ⟨fun h=>?_,fun _=>⟨by omega,by omega,fun h=>?_,fun h=>⟨_,contains_ok _ _ (by omega) _ List.contains_iff_mem,fun h2=>?_,fun h2=>⟨fun h3=>⟨fun _ _ _=>by omega,fun _ _ _=>by omega,?_⟩,fun h3=>?_⟩⟩⟩⟩
 ·simp only [Bool.or_eq_true,decide_eq_true_eq] at h;omega
 ·unfold activeB;rw [if_pos h]
 ·unfold activeB;rw [if_neg (by rw [h];simp),if_pos h2]
 ·unfold activeB;rw [if_neg (by rw [h];simp),if_neg (by rw [h2];simp)]
  have:(s.Rules.getD i default).Conds.length=0:=by simpa using h3
  rw [if_pos this]
 ·unfold activeB;rw [if_neg (by rw [h];simp),if_neg (by rw [h2];simp)]
  have:¬ (s.Rules.getD i default).Conds.length=0:=by simpa using h3
  rw [if_neg this]
def takB (s:api_Spec) (c:Nat) (bol:Bool) (k:Nat):Bool:=activeB s k c && (bol || !(s.Rules.getD k default).Bol)
def stM (s:api_Spec) (bs:List (List Int)) (c:Nat) (bol:Bool):Nat→List Int
 | 0=>[]
 | k+1=>if takB s c bol k=true then join (stM s bs c bol k) (bs.getD k []) else stM s bs c bol k
theorem stM_len {s:api_Spec} {bs:List (List Int)} (hb:∀ b∈bs,b.length≤400) (c:Nat) (bol:Bool):∀ k,k≤bs.length→(stM s bs c bol k).length≤400 * k
 | 0,_=>by simp [stM]
 | k+1,hk=>by
   have ih:=stM_len (s:=s) hb c bol k (by omega)
   have hbk:(bs.getD k []).length≤400:=by
    rw [List.getD_eq_getElem?_getD,List.getElem?_eq_getElem (by omega)];exact hb _ (List.getElem_mem _)
   unfold stM
   split
   ·have:=join_len (stM s bs c bol k) (bs.getD k []);omega
   ·omega
theorem start_ok (s:api_Spec) (bs:List (List Int)) (hbs:bs.length=s.Rules.length) (hb:∀ b∈bs,b.length≤400) {c:Nat} (hc:c < s.Conds.length) (hr:s.Rules.length≤100) (hcl:s.Conds.length < 1000000) (hl:∀ r∈s.Rules,r.Conds.length < 1000000) (bol:Bool) :
 C_auto_start s bs c bol (stM s bs c bol bs.length):=by
 refine W_auto_start s bs c bol _ ⟨fun o t=>∃ k:Nat,t=k∧k≤bs.length∧o=stM s bs c bol k,fun o t=>(bs.length - t).toNat,⟨0,rfl,by omega,rfl⟩,?_⟩
 rintro o t ⟨k,rfl,hk,rfl⟩
 rw [lt_cast]
 refine ⟨fun ht=>?_,fun ht=>?_⟩
 ·have ht:=of_decide_eq_true ht
  have hkr:k < s.Rules.length:=by omega
  have hg:gd s.Rules (k:Int)=s.Rules.getD k default:=by rw [gd_nat hkr];simp [List.getD,hkr]
  have hgb:gd bs (k:Int)=bs.getD k []:=by rw [gd_nat ht];simp [List.getD,ht]
  have hs:=stM_len hb c bol (s:=s) k (by omega)
  have hbk:(bs.getD k []).length≤400:=by
   rw [List.getD_eq_getElem?_getD,List.getElem?_eq_getElem ht];exact hb _ (List.getElem_mem _)
  rw [hg,hgb,show w64 ((k:Int)+1)=((k+1:Nat):Int) from w64_id (by omega) (by omega)]
  refine ⟨fun o=>o=stM s bs c bol (k+1),fun o h=>⟨⟨k+1,rfl,by omega,h⟩,by first | omega | (dsimp only;omega)⟩,by omega,by omega,_,active_ok s hkr hc (by omega) hcl ?_,fun _ _=>by omega,fun _ _=>by omega,fun h=>⟨_,join_ok _ _ (by omega) (by omega),?_⟩,fun h=>?_⟩
  ·rw [List.getD_eq_getElem?_getD,List.getElem?_eq_getElem hkr];exact hl _ (List.getElem_mem _)
  ·rw [stM,if_pos (show takB s c bol k=true from h)]
  ·rw [stM,if_neg (by rw [show takB s c bol k=false from h];simp)]
 ·have ht:=of_decide_eq_false ht
  rw [show k=bs.length by omega]
def zAuto:api_Auto:=⟨[],[],[],[],[]⟩
def accM (rs:List api_Rule):Nat→api_Auto×List (List Int)
 | 0=>(zAuto,[])
 | k+1=>(addM (rs.getD k default) k (accM rs k).1,(accM rs k).2++[begM (rs.getD k default) (accM rs k).1])
theorem begM_len {r:api_Rule} (h:RBody r) (a:api_Auto):(begM r a).length≤400:=by
 unfold begM
 split
 ·simp
 ·rename_i hne
  rcases h with h | ⟨-,⟨_,q⟩,_⟩
  ·exact absurd h hne
  ·have:=gof_small q;have:=lst_len (gof r.Rx).n (gof r.Rx).first a.Sets.length;omega
theorem acc_bd {rs:List api_Rule} (hr:∀ r∈rs,RBody r):∀ k,k≤rs.length→Bd (accM rs k).1 (400 * k)∧(accM rs k).2.length=k∧(∀ b∈(accM rs k).2,b.length≤400)∧(accM rs k).1.Starts=[]
 | 0,_=>⟨⟨rfl,rfl,rfl,fun f hf=>by simp [accM,zAuto] at hf,by simp [accM,zAuto]⟩,rfl,fun b hb=>by simp [accM] at hb,rfl⟩
 | k+1,hk=>by
   obtain ⟨h1,h2,h3,h4⟩:=acc_bd hr k (by omega)
   have hm:rs.getD k default∈rs:=by rw [List.getD_eq_getElem?_getD,List.getElem?_eq_getElem (by omega)];exact List.getElem_mem _
   have hn:=gR_n (hr _ hm)
   have hc:=canon_gR (rs.getD k default)
   refine ⟨⟨by simp only [accM,addM,List.length_append,List.length_replicate,h1.own,hc.sets],by simp only [accM,addM,List.length_append,h1.fol,flw_len,hc.sets],by simp only [accM,addM,List.length_append,List.length_map,List.length_range,h1.ends,hc.sets],fun f hf=>?_,by simp only [accM,addM,List.length_append,hc.sets];have:=h1.room;omega⟩,by simp [accM,h2],fun b hb=>?_,h4⟩
   ·rcases List.mem_append.1 hf with hf | hf
    ·exact h1.small f hf
    ·have:=flw_len_le _ _ hf;omega
   ·rcases List.mem_append.1 hb with hb | hb
    ·exact h3 b hb
    ·rw [List.mem_singleton.1 hb];exact begM_len (hr _ hm) _
def buildM (s:api_Spec):api_Auto:={ (accM s.Rules s.Rules.length).1 with Starts:=(List.range (2 * s.Conds.length)).map fun c=>stM s (accM s.Rules s.Rules.length).2 (c / 2) (c % 2 == 1) s.Rules.length }
theorem build_ok (s:api_Spec) (hR:C_spec_Right s true) (hr:∀ r∈s.Rules,RBody r) (hn:s.Rules.length≤100) (hc:s.Conds.length≤100) (hl:∀ r∈s.Rules,r.Conds.length < 1000000) :
 C_auto_Build s (if (accM s.Rules s.Rules.length).1.Sets.length > 600 then zAuto else buildM s) (if (accM s.Rules s.Rules.length).1.Sets.length > 600 then 2 else 0):=by
 refine W_auto_Build s _ _ ⟨true,hR,(fun h=>by cases h),fun _=>⟨fun bs S O F E T t=>∃ k:Nat,t=k∧k≤s.Rules.length∧bs=(accM s.Rules k).2∧api_Auto.mk S O F E T=(accM s.Rules k).1,fun _ _ _ _ _ _ t=>(s.Rules.length - t).toNat,⟨0,rfl,by omega,rfl,rfl⟩,?_⟩⟩
 rintro bs S O F E T t ⟨k,rfl,hk,rfl,ha⟩
 simp only [lt_cast]
 obtain ⟨b1,b2,b3,b4⟩:=acc_bd hr k hk
 refine ⟨fun ht=>?_,fun ht=>?_⟩
 ·have ht:=of_decide_eq_true ht
  have hg:gd s.Rules (k:Int)=s.Rules.getD k default:=by rw [gd_nat ht];simp [List.getD,ht]
  have hm:s.Rules.getD k default∈s.Rules:=by rw [List.getD_eq_getElem?_getD,List.getElem?_eq_getElem ht];exact List.getElem_mem _
  rw [hg,ha,show w64 ((k:Int)+1)=((k+1:Nat):Int) from w64_id (by omega) (by omega)]
  exact ⟨by omega,by omega,_,_,aRule_ok _ (hr _ hm) k _ ⟨b1.own,b1.fol,b1.ends,b1.small,by have:=b1.room;omega⟩,by rw [b2];omega,⟨k+1,rfl,by omega,rfl,rfl⟩,by first | omega | (dsimp only;omega)⟩
 ·have ht:=of_decide_eq_false ht
  have hk':k=s.Rules.length:=by omega
  subst hk'
  have hS:(accM s.Rules s.Rules.length).1.Sets=S:=by rw [← ha]
  rw [hS]
  refine ⟨fun h=>?_,fun h=>?_⟩
  ·have h:=of_decide_eq_true h
   rw [if_pos (by omega),if_pos (by omega)];exact ⟨rfl,rfl⟩
  ·have h:=of_decide_eq_false h
   have h:¬ S.length > 600:=by omega
   rw [if_neg h,if_neg h]
   have hT:T=[]:=by rw [← ha] at b4;exact b4
   have hw:w64 (2 * (s.Conds.length:Int))=((2 * s.Conds.length:Nat):Int):=(w64_id (by omega) (by omega)).trans (by omega)
   rw [hw]
   refine ⟨fun T t=>∃ j:Nat,t=j∧j≤2 * s.Conds.length∧T=(List.range j).map fun c=>stM s (accM s.Rules s.Rules.length).2 (c / 2) (c % 2 == 1) s.Rules.length,fun T t=>(2 * s.Conds.length - t).toNat,⟨0,rfl,by omega,by rw [hT];rfl⟩,?_⟩
   rintro T' t ⟨j,rfl,hj,rfl⟩
   rw [lt_cast]
   refine ⟨fun ht=>?_,fun ht=>?_⟩
   ·have ht:=of_decide_eq_true ht
    have e1:w64 (Int.tdiv (j:Int) 2)=((j / 2:Nat):Int):=by
     rw [Int.tdiv_eq_ediv_of_nonneg (by omega)];exact (w64_id (by omega) (by omega)).trans (by omega)
    have e2:(Int.tmod (j:Int) 2 == 1)=(j % 2 == 1):=by
     rw [Int.tmod_eq_emod_of_nonneg (by omega),Bool.eq_iff_iff];simp only [beq_iff_eq];omega
    rw [e1,e2,show w64 ((j:Int)+1)=((j+1:Nat):Int) from w64_id (by omega) (by omega)]
    have hst:=start_ok s (accM s.Rules s.Rules.length).2 b2 b3 (c:=j / 2) (by omega) hn (by omega) hl (j % 2 == 1)
    rw [b2] at hst
    exact ⟨_,hst,by simp;omega,⟨j+1,rfl,by omega,by rw [List.range_succ,List.map_append];rfl⟩,by first | omega | (dsimp only;omega)⟩
   ·have ht:=of_decide_eq_false ht
    rw [show j=2 * s.Conds.length by omega]
    refine ⟨?_,rfl⟩
    unfold buildM
    rw [← ha]
end Go.Ev.Pl
