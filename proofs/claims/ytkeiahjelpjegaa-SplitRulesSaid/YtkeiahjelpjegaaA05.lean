import Derived.Test.YtkeiahjelpjegaaA04
import Derived.Lib.RowBridge
set_option linter.unusedSimpArgs false
set_option linter.unusedVariables false
namespace Go.Ev
open Go Go.Proofs
set_option maxRecDepth 8000
theorem Wk.of_eq {P:Program} {nt:Nat} {G G':Sta} (h:G=G'):Wk P nt G G':=by rw [h];exact Wk.refl
set_option maxHeartbeats 1000000 in
theorem W_split_turned_api_Rx (l:(List api_Rx)) (res:(List api_Rx))
 (h:((0:Int)≤(↑(List.length l):Int)∧(↑(List.length l):Int) < (2:Int) ^ (40:Nat)∧(↑(80:Nat):Int) * (↑(List.length l):Int)≤(2:Int) ^ (47:Nat))∧(C_slices_Backward__api_Rx_api_Rx l∧(List.length l < 1099511627776∧∃ (Inv7:Nat→List api_Rx→Prop),Inv7 0 ([])∧(∀ (i:Nat) (y:api_Rx),i < List.length l→l[List.length l - 1 - i]?=some y→∀ (out:List api_Rx),Inv7 i out→((List.length out+(1:Nat)) * (80:Nat)≤(2:Nat) ^ (47:Nat))∧((0:Int)≤(↑(List.length out):Int))∧(List.length out < List.length out+(1:Nat))∧List.length out < List.length (out++[{ Kind:=(0:Int),Set:={ e0:=(0:Int),e1:=(0:Int),e2:=(0:Int),e3:=(0:Int) },Lo:=(0:Int),Hi:=(0:Int),Kids:=[] }])∧Inv7 (i+1) (List.set (out++[{ Kind:=(0:Int),Set:={ e0:=(0:Int),e1:=(0:Int),e2:=(0:Int),e3:=(0:Int) },Lo:=(0:Int),Hi:=(0:Int),Kids:=[] }]) (List.length out) y))∧(∀ (out:List api_Rx),Inv7 (List.length l) out→(res=out))))):C_split_turned_api_Rx l res:=by
 unfold C_split_turned_api_Rx
 have kk:=cfOk [] 20
 refine fD (x:=bodyOf Try.f65) kk Try.func65 ?_
 refine wkS [1] [(1,vL enc_api_Rx l)] (by kernel_rfl) ?_
 refine sD kk [] [] [] obN ?_
 obtain ⟨h0,h⟩:=h
 refine sDE kk [] [] [(10,.ptr 11 0),(11,.own 36 ([]))] [(10,.ptr 11 0),(11,oL 36 enc_api_Rx ([]))] (obC (show (0:Int)=(0:Int)∧(0:Int)≤(↑(List.length (List.map enc_api_Rx l)):Int)∧(↑(List.length (List.map enc_api_Rx l)):Int) < (2:Int) ^ (40:Nat)∧(↑(80:Nat):Int) * (↑(List.length (List.map enc_api_Rx l)):Int)≤(2:Int) ^ (47:Nat) from by simpa only [nm] using h0) obN) ?_
 refine qD ?_
 obtain ⟨hc1,h⟩:=h
 refine sD kk [.c (.clo 117 [.fp (fL enc_api_Rx l) 0]) []] [1] [(31,.clo 117 [.fp (fL enc_api_Rx l) 0])] (obC hc1 obN) ?_
 refine bD (id:=0) ?_
 obtain ⟨hl8,Inv7,h0Inv7,hRInv7,hDInv7⟩:=h
 refine Sem.range (α:=api_Rx) (σ:=List api_Rx) (c:=(cf [] 20)) (by rfl) (tg:=10) (p0:=11) (p1:=12) (by kernel_rfl) (xs:=l) (by kernel_rfl) back_ok_117 (ey:=(fun (y:api_Rx)=>(fv_api_Rx y:FV))) (sz:=8) (fun y=>enc_api_Rx_eq y) (fun y=>by simp [FV.fits,FV.size,FV.cells,FV.one,enc_api_Rx_eq]) (by omega) [(10,.ptr 11 0)] [11] (fun (q:List api_Rx)=>(fun (out:List api_Rx)=>([oL 36 enc_api_Rx out]:List AV)) q) (fun (i:Nat) (q:List api_Rx)=>Inv7 i q) ([]) ((wkE (G':=[(10,.ptr 11 0),(11,oL 36 enc_api_Rx ([]))]) [] [10,11] (by kernel_rfl)).trans (Wk.pick [10,11] (by kernel_rfl))) h0Inv7 (by rfl) (fun q=>by rfl) (by rfl) (by decide) (fun q q'=>by rfl) (Nat.le_of_ble_eq_true rfl) (Nat.le_of_ble_eq_true rfl) (by decide) ?_ ?_
 ·rintro i out y hi hy hinv
  have h:=hRInv7 i y hi hy out hinv
  refine Sem.weak (Wk.pick [3,10,34,37] (G':=[(3,oL 36 enc_api_Rx out),(10,.ptr 3 0),(34,vi ((↑(List.length l):Int) - 1 - (↑i:Int))),(37,av_api_Rx y)]) (by kernel_rfl)) ?_
  show Sem _ (cfr [] 20) (sq1 (sq1 (sq2 (sq1 (sq2 (sq2 (bodyOf Try.f65))))))) _ _
  have kr:=cfrOk [] 20
  refine rD kr [] [34,37] [(16,.ptr 17 0),(17,av_api_Rx y)] obN ?_
  refine ⟨rfl,?_⟩
  show Sem _ (cfr [] 20) (sq2 (sq1 (sq2 (sq1 (sq2 (sq2 (bodyOf Try.f65))))))) _ _
  refine bD (id:=1) ?_
  obtain ⟨h9,h⟩:=h
  obtain ⟨h10,h⟩:=h
  obtain ⟨h11,h⟩:=h
  obtain ⟨h12,h⟩:=h
  have kv:=kr.vs fun t=>t == 17
  refine Sem.cfg (c':={ cfr [] 20 with vs:=fun t=>t == 17 }) rfl rfl (Sem.region2 (A:=6) (B:=7) kv (by decide) (is1:=[0,1,2,3,4,5,6,7]) (is2:=[0,1,2,3,4,5,7,6]) (q1:=[.e (fv_api_Rx (List.getD (out++[{ Kind:=(0:Int),Set:={ e0:=(0:Int),e1:=(0:Int),e2:=(0:Int),e3:=(0:Int) },Lo:=(0:Int),Hi:=(0:Int),Kids:=[] }]) (List.length out) default))]) (q2:=[.e (fv_api_Rx (List.getD (out++[{ Kind:=(0:Int),Set:={ e0:=(0:Int),e1:=(0:Int),e2:=(0:Int),e3:=(0:Int) },Lo:=(0:Int),Hi:=(0:Int),Kids:=[] }]) (List.length out) default))])
   (G1:=rawOf (evOrd { cfr [] 20 with vs:=fun t=>t == 17 } (sq1 (sq2 (sq1 (sq2 (sq1 (sq2 (sq2 (bodyOf Try.f65)))))))) 6 7 [0,1,2,3,4,5,6,7] [.e (fv_api_Rx (List.getD (out++[{ Kind:=(0:Int),Set:={ e0:=(0:Int),e1:=(0:Int),e2:=(0:Int),e3:=(0:Int) },Lo:=(0:Int),Hi:=(0:Int),Kids:=[] }]) (List.length out) default))] [(3,oL 36 enc_api_Rx out),(10,.ptr 3 0),(16,.ptr 17 0),(17,av_api_Rx y)])) (G2:=rawOf (evOrd { cfr [] 20 with vs:=fun t=>t == 17 } (sq1 (sq2 (sq1 (sq2 (sq1 (sq2 (sq2 (bodyOf Try.f65)))))))) 7 6 [0,1,2,3,4,5,7,6] [.e (fv_api_Rx (List.getD (out++[{ Kind:=(0:Int),Set:={ e0:=(0:Int),e1:=(0:Int),e2:=(0:Int),e3:=(0:Int) },Lo:=(0:Int),Hi:=(0:Int),Kids:=[] }]) (List.length out) default))] [(3,oL 36 enc_api_Rx out),(10,.ptr 3 0),(16,.ptr 17 0),(17,av_api_Rx y)])) (by kernel_rfl) (by kernel_rfl) (obC (show (0:Nat)=(0:Nat)∧List.length (List.map enc_api_Rx out)=List.length (List.map enc_api_Rx out) from by first | decide | rfl | trivial | (simp only [nm]<;>first | decide | rfl | omega)) (obC (show (List.length (List.map enc_api_Rx out)+List.length (List.take (1:Nat) (List.drop (0:Nat) [FV.agg [FV.pv (Value.int IntKind.i64 (0)),FV.pv (Value.int IntKind.u64 (0)),FV.pv (Value.int IntKind.u64 (0)),FV.pv (Value.int IntKind.u64 (0)),FV.pv (Value.int IntKind.u64 (0)),FV.pv (Value.int IntKind.i64 (0)),FV.pv (Value.int IntKind.i64 (0)),FV.sl []]]))) * (80:Nat)≤(2:Nat) ^ (47:Nat) from by simpa only [nm] using h9) (obC (show List.all (List.take (1:Nat) (List.drop (0:Nat) [FV.agg [FV.pv (Value.int IntKind.i64 (0)),FV.pv (Value.int IntKind.u64 (0)),FV.pv (Value.int IntKind.u64 (0)),FV.pv (Value.int IntKind.u64 (0)),FV.pv (Value.int IntKind.u64 (0)),FV.pv (Value.int IntKind.i64 (0)),FV.pv (Value.int IntKind.i64 (0)),FV.sl []]])) (FV.fits (8:Nat))=true from by first | decide | rfl | trivial | (simp only [nm]<;>first | decide | rfl | omega)) (obC (show (0:Int)≤(↑(List.length (List.map enc_api_Rx out)):Int) from by simpa only [nm] using h10) (obC (show Int.toNat (↑(List.length (List.map enc_api_Rx out)):Int) < List.length (List.map enc_api_Rx out++List.take (1:Nat) (List.drop (0:Nat) [FV.agg [FV.pv (Value.int IntKind.i64 (0)),FV.pv (Value.int IntKind.u64 (0)),FV.pv (Value.int IntKind.u64 (0)),FV.pv (Value.int IntKind.u64 (0)),FV.pv (Value.int IntKind.u64 (0)),FV.pv (Value.int IntKind.i64 (0)),FV.pv (Value.int IntKind.i64 (0)),FV.sl []]])) from by simpa only [nm] using h11) (obC (show (List.map enc_api_Rx out++List.take (1:Nat) (List.drop (0:Nat) [FV.agg [FV.pv (Value.int IntKind.i64 (0)),FV.pv (Value.int IntKind.u64 (0)),FV.pv (Value.int IntKind.u64 (0)),FV.pv (Value.int IntKind.u64 (0)),FV.pv (Value.int IntKind.u64 (0)),FV.pv (Value.int IntKind.i64 (0)),FV.pv (Value.int IntKind.i64 (0)),FV.sl []]]))[((0:Nat)+Int.toNat (↑(List.length (List.map enc_api_Rx out)):Int):Nat)]?=some (fv_api_Rx (List.getD (out++[{ Kind:=(0:Int),Set:={ e0:=(0:Int),e1:=(0:Int),e2:=(0:Int),e3:=(0:Int) },Lo:=(0:Int),Hi:=(0:Int),Kids:=[] }]) (List.length out) default)) from by have:=idx_ok' enc_api_Rx (out++[{ Kind:=(0:Int),Set:={ e0:=(0:Int),e1:=(0:Int),e2:=(0:Int),e3:=(0:Int) },Lo:=(0:Int),Hi:=(0:Int),Kids:=[] }]) (List.length out) _ (enc_api_Rx_eq _) h12;simpa only [nm,enq,enc_api_Rx_eq] using this) obN)))))) (obC (show (0:Nat)=(0:Nat)∧List.length (List.map enc_api_Rx out)=List.length (List.map enc_api_Rx out) from by first | decide | rfl | trivial | (simp only [nm]<;>first | decide | rfl | omega)) (obC (show (List.length (List.map enc_api_Rx out)+List.length (List.take (1:Nat) (List.drop (0:Nat) [FV.agg [FV.pv (Value.int IntKind.i64 (0)),FV.pv (Value.int IntKind.u64 (0)),FV.pv (Value.int IntKind.u64 (0)),FV.pv (Value.int IntKind.u64 (0)),FV.pv (Value.int IntKind.u64 (0)),FV.pv (Value.int IntKind.i64 (0)),FV.pv (Value.int IntKind.i64 (0)),FV.sl []]]))) * (80:Nat)≤(2:Nat) ^ (47:Nat) from by simpa only [nm] using h9) (obC (show List.all (List.take (1:Nat) (List.drop (0:Nat) [FV.agg [FV.pv (Value.int IntKind.i64 (0)),FV.pv (Value.int IntKind.u64 (0)),FV.pv (Value.int IntKind.u64 (0)),FV.pv (Value.int IntKind.u64 (0)),FV.pv (Value.int IntKind.u64 (0)),FV.pv (Value.int IntKind.i64 (0)),FV.pv (Value.int IntKind.i64 (0)),FV.sl []]])) (FV.fits (8:Nat))=true from by first | decide | rfl | trivial | (simp only [nm]<;>first | decide | rfl | omega)) (obC (show (0:Int)≤(↑(List.length (List.map enc_api_Rx out)):Int) from by simpa only [nm] using h10) (obC (show Int.toNat (↑(List.length (List.map enc_api_Rx out)):Int) < List.length (List.map enc_api_Rx out++List.take (1:Nat) (List.drop (0:Nat) [FV.agg [FV.pv (Value.int IntKind.i64 (0)),FV.pv (Value.int IntKind.u64 (0)),FV.pv (Value.int IntKind.u64 (0)),FV.pv (Value.int IntKind.u64 (0)),FV.pv (Value.int IntKind.u64 (0)),FV.pv (Value.int IntKind.i64 (0)),FV.pv (Value.int IntKind.i64 (0)),FV.sl []]])) from by simpa only [nm] using h11) (obC (show (List.map enc_api_Rx out++List.take (1:Nat) (List.drop (0:Nat) [FV.agg [FV.pv (Value.int IntKind.i64 (0)),FV.pv (Value.int IntKind.u64 (0)),FV.pv (Value.int IntKind.u64 (0)),FV.pv (Value.int IntKind.u64 (0)),FV.pv (Value.int IntKind.u64 (0)),FV.pv (Value.int IntKind.i64 (0)),FV.pv (Value.int IntKind.i64 (0)),FV.sl []]]))[((0:Nat)+Int.toNat (↑(List.length (List.map enc_api_Rx out)):Int):Nat)]?=some (fv_api_Rx (List.getD (out++[{ Kind:=(0:Int),Set:={ e0:=(0:Int),e1:=(0:Int),e2:=(0:Int),e3:=(0:Int) },Lo:=(0:Int),Hi:=(0:Int),Kids:=[] }]) (List.length out) default)) from by have:=idx_ok' enc_api_Rx (out++[{ Kind:=(0:Int),Set:={ e0:=(0:Int),e1:=(0:Int),e2:=(0:Int),e3:=(0:Int) },Lo:=(0:Int),Hi:=(0:Int),Kids:=[] }]) (List.length out) _ (enc_api_Rx_eq _) h12;simpa only [nm,enq,enc_api_Rx_eq] using this) obN)))))) ((Wk.st (keep:=[3]) 3 0 (G':=[(3,.own 36 (List.take (List.length (List.set (List.map enc_api_Rx out++List.take (List.length [FV.agg [FV.pv (Value.int IntKind.i64 (0)),FV.pv (Value.int IntKind.u64 (0)),FV.pv (Value.int IntKind.u64 (0)),FV.pv (Value.int IntKind.u64 (0)),FV.pv (Value.int IntKind.u64 (0)),FV.pv (Value.int IntKind.i64 (0)),FV.pv (Value.int IntKind.i64 (0)),FV.sl []]]) (List.drop (0:Nat) [FV.agg [FV.pv (Value.int IntKind.i64 (0)),FV.pv (Value.int IntKind.u64 (0)),FV.pv (Value.int IntKind.u64 (0)),FV.pv (Value.int IntKind.u64 (0)),FV.pv (Value.int IntKind.u64 (0)),FV.pv (Value.int IntKind.i64 (0)),FV.pv (Value.int IntKind.i64 (0)),FV.sl []]])) ((0:Nat)+Int.toNat (↑(List.length (List.map enc_api_Rx out)):Int)) (FV.agg [FV.pv (Value.int IntKind.i64 (api_Rx.Kind y)),FV.pv (Value.int IntKind.u64 (arr4_uint64.e0 (api_Rx.Set y))),FV.pv (Value.int IntKind.u64 (arr4_uint64.e1 (api_Rx.Set y))),FV.pv (Value.int IntKind.u64 (arr4_uint64.e2 (api_Rx.Set y))),FV.pv (Value.int IntKind.u64 (arr4_uint64.e3 (api_Rx.Set y))),FV.pv (Value.int IntKind.i64 (api_Rx.Lo y)),FV.pv (Value.int IntKind.i64 (api_Rx.Hi y)),FV.sl (List.map enc_api_Rx (api_Rx.Kids y))]))) (List.set (List.map enc_api_Rx out++List.take (List.length [FV.agg [FV.pv (Value.int IntKind.i64 (0)),FV.pv (Value.int IntKind.u64 (0)),FV.pv (Value.int IntKind.u64 (0)),FV.pv (Value.int IntKind.u64 (0)),FV.pv (Value.int IntKind.u64 (0)),FV.pv (Value.int IntKind.i64 (0)),FV.pv (Value.int IntKind.i64 (0)),FV.sl []]]) (List.drop (0:Nat) [FV.agg [FV.pv (Value.int IntKind.i64 (0)),FV.pv (Value.int IntKind.u64 (0)),FV.pv (Value.int IntKind.u64 (0)),FV.pv (Value.int IntKind.u64 (0)),FV.pv (Value.int IntKind.u64 (0)),FV.pv (Value.int IntKind.i64 (0)),FV.pv (Value.int IntKind.i64 (0)),FV.sl []]])) ((0:Nat)+Int.toNat (↑(List.length (List.map enc_api_Rx out)):Int)) (FV.agg [FV.pv (Value.int IntKind.i64 (api_Rx.Kind y)),FV.pv (Value.int IntKind.u64 (arr4_uint64.e0 (api_Rx.Set y))),FV.pv (Value.int IntKind.u64 (arr4_uint64.e1 (api_Rx.Set y))),FV.pv (Value.int IntKind.u64 (arr4_uint64.e2 (api_Rx.Set y))),FV.pv (Value.int IntKind.u64 (arr4_uint64.e3 (api_Rx.Set y))),FV.pv (Value.int IntKind.i64 (api_Rx.Lo y)),FV.pv (Value.int IntKind.i64 (api_Rx.Hi y)),FV.sl (List.map enc_api_Rx (api_Rx.Kids y))]))))]) (by kernel_rfl)).trans ?_) ((Wk.st (keep:=[3]) 3 0 (G':=[(3,.own 36 (List.take (List.length (List.map enc_api_Rx out++List.take (List.length [FV.agg [FV.pv (Value.int IntKind.i64 (0)),FV.pv (Value.int IntKind.u64 (0)),FV.pv (Value.int IntKind.u64 (0)),FV.pv (Value.int IntKind.u64 (0)),FV.pv (Value.int IntKind.u64 (0)),FV.pv (Value.int IntKind.i64 (0)),FV.pv (Value.int IntKind.i64 (0)),FV.sl []]]) (List.drop (0:Nat) [FV.agg [FV.pv (Value.int IntKind.i64 (0)),FV.pv (Value.int IntKind.u64 (0)),FV.pv (Value.int IntKind.u64 (0)),FV.pv (Value.int IntKind.u64 (0)),FV.pv (Value.int IntKind.u64 (0)),FV.pv (Value.int IntKind.i64 (0)),FV.pv (Value.int IntKind.i64 (0)),FV.sl []]]))) (List.set (List.map enc_api_Rx out++List.take (List.length [FV.agg [FV.pv (Value.int IntKind.i64 (0)),FV.pv (Value.int IntKind.u64 (0)),FV.pv (Value.int IntKind.u64 (0)),FV.pv (Value.int IntKind.u64 (0)),FV.pv (Value.int IntKind.u64 (0)),FV.pv (Value.int IntKind.i64 (0)),FV.pv (Value.int IntKind.i64 (0)),FV.sl []]]) (List.drop (0:Nat) [FV.agg [FV.pv (Value.int IntKind.i64 (0)),FV.pv (Value.int IntKind.u64 (0)),FV.pv (Value.int IntKind.u64 (0)),FV.pv (Value.int IntKind.u64 (0)),FV.pv (Value.int IntKind.u64 (0)),FV.pv (Value.int IntKind.i64 (0)),FV.pv (Value.int IntKind.i64 (0)),FV.sl []]])) ((0:Nat)+Int.toNat (↑(List.length (List.map enc_api_Rx out)):Int)) (FV.agg [FV.pv (Value.int IntKind.i64 (api_Rx.Kind y)),FV.pv (Value.int IntKind.u64 (arr4_uint64.e0 (api_Rx.Set y))),FV.pv (Value.int IntKind.u64 (arr4_uint64.e1 (api_Rx.Set y))),FV.pv (Value.int IntKind.u64 (arr4_uint64.e2 (api_Rx.Set y))),FV.pv (Value.int IntKind.u64 (arr4_uint64.e3 (api_Rx.Set y))),FV.pv (Value.int IntKind.i64 (api_Rx.Lo y)),FV.pv (Value.int IntKind.i64 (api_Rx.Hi y)),FV.sl (List.map enc_api_Rx (api_Rx.Kids y))]))))]) (by kernel_rfl)).trans ?_) (G':=[(3,oL 36 enc_api_Rx (List.set (out++[{ Kind:=(0:Int),Set:={ e0:=(0:Int),e1:=(0:Int),e2:=(0:Int),e3:=(0:Int) },Lo:=(0:Int),Hi:=(0:Int),Kids:=[] }]) (List.length out) y))]) ?_)
  ·refine Wk.of_eq ?_
   rw [List.take_of_length_le (by simp)]
   simp only [nm,enq,enc_api_Rx_eq,List.map_set]
  ·refine Wk.of_eq ?_
   rw [List.take_of_length_le (by simp)]
   simp only [nm,enq,enc_api_Rx_eq,List.map_set]
  exact rndE (wkE [] [3] (by rfl)) (by kernel_rfl) ⟨(List.set (out++[{ Kind:=(0:Int),Set:={ e0:=(0:Int),e1:=(0:Int),e2:=(0:Int),e3:=(0:Int) },Lo:=(0:Int),Hi:=(0:Int),Kids:=[] }]) (List.length out) y),rfl,h⟩
 ·rintro out hinv
  have h:=hDInv7 out hinv
  refine ⟨[(10,.ptr 11 0),(11,oL 36 enc_api_Rx out)],Wk.pick [10,11] (by kernel_rfl),?_⟩
  show Sem _ _ _ _ _
  refine sDE kk [] [10,11] [(7,.f (FV.sl (List.take (List.length (List.map enc_api_Rx out)) (List.drop (0:Nat) (List.map enc_api_Rx out)))))] [(7,vL enc_api_Rx out)] obN ?_
  refine tD ?_
  obtain he0:=h
  subst res
  exact (endD [] (vL enc_api_Rx out) []).1
end Go.Ev
set_option linter.unusedSimpArgs false
set_option linter.unusedVariables false
namespace Go.Ev
open Go Go.Proofs
def orBit (w:Int) (i:Int):Int:=IntKind.u64.wrap (BitVec.ofInt IntKind.u64.bits w ||| BitVec.ofInt IntKind.u64.bits (IntKind.u64.wrap (1 * 2 ^ min i.toNat IntKind.u64.bits))).toNat
def setAdd (s:arr4_uint64) (i:Int):arr4_uint64:=
 if i < 64 then { s with e0:=orBit s.e0 i } else if i < 128 then { s with e1:=orBit s.e1 (i - 64) } else if i < 192 then { s with e2:=orBit s.e2 (i - 128) } else { s with e3:=orBit s.e3 (i - 192) }
theorem w64_id0 {n:Int} (h0:-2 ^ 63≤n) (h1:n < 2 ^ 63):w64 n=n:=wrap64 (by omega) (by omega)
theorem quot64 (i:Int) (h0:0≤i) (h1:i < 256):w64 (Int.tdiv i 64)=i / 64∧i.tmod 64=i - 64 * (i / 64)∧0≤i.tmod 64:=by
 rw [Int.tdiv_eq_ediv_of_nonneg h0,Int.tmod_eq_emod_of_nonneg h0]
 exact ⟨w64_id0 (by omega) (by omega),by omega,by omega⟩
theorem add_ok (s:arr4_uint64) (i:Int) (h0:0≤i) (h1:i < 256):C_heckleref01_add s i (setAdd s i):=by
 obtain ⟨q,m,hm⟩:=quot64 i h0 h1
 refine W_heckleref01_add s i _ ?_
 rw [q,m]
 refine ⟨by omega,fun h=>⟨fun _=>by omega,?_⟩,fun h=>⟨fun _=>by omega,?_⟩,fun h=>⟨fun _=>by omega,?_⟩,fun h=>⟨fun _=>by omega,?_⟩⟩
 all_goals
  have h:=of_decide_eq_true h
  rw [h]
 ·simp [setAdd,show i < 64 by omega,orBit]
 ·simp [setAdd,show ¬ i < 64 by omega,show i < 128 by omega,orBit]
 ·simp [setAdd,show ¬ i < 64 by omega,show ¬ i < 128 by omega,show i < 192 by omega,orBit]
 ·simp [setAdd,show ¬ i < 64 by omega,show ¬ i < 128 by omega,show ¬ i < 192 by omega,orBit]
def bitOf (w:Int) (i:Int):Bool:=IntKind.u64.wrap (BitVec.ofInt IntKind.u64.bits (w.fdiv (2 ^ min i.toNat IntKind.u64.bits)) &&& BitVec.ofInt IntKind.u64.bits 1).toNat == 1
def setHas (s:arr4_uint64) (i:Int):Bool:=
 if i < 0 then false else if i < 64 then bitOf s.e0 i else if i < 128 then bitOf s.e1 (i - 64) else if i < 192 then bitOf s.e2 (i - 128) else if i < 256 then bitOf s.e3 (i - 192) else false
theorem has_ok (s:arr4_uint64) (i:Int):C_heckleref01_Has s i (setHas s i):=by
 refine W_heckleref01_Has s i _ ⟨fun g=>⟨fun g1=>?_,fun g1=>?_⟩,fun g=>?_⟩
 ·have g:=of_decide_eq_true g
  have g1:=of_decide_eq_true g1
  obtain ⟨q,m,hm⟩:=quot64 i g g1
  rw [q,m]
  refine ⟨by omega,fun h=>⟨fun _ _ _=>by omega,?_⟩,fun h=>⟨fun _ _ _=>by omega,?_⟩,fun h=>⟨fun _ _ _=>by omega,?_⟩,fun h=>⟨fun _ _ _=>by omega,?_⟩⟩
  all_goals
   have h:=of_decide_eq_true h
   rw [h]
  ·simp [setHas,show ¬ i < 0 by omega,show i < 64 by omega,bitOf]
  ·simp [setHas,show ¬ i < 0 by omega,show ¬ i < 64 by omega,show i < 128 by omega,bitOf]
  ·simp [setHas,show ¬ i < 0 by omega,show ¬ i < 64 by omega,show ¬ i < 128 by omega,show i < 192 by omega,bitOf]
  ·simp [setHas,show ¬ i < 0 by omega,show ¬ i < 64 by omega,show ¬ i < 128 by omega,show ¬ i < 192 by omega,show i < 256 by omega,bitOf]
 ·have g:=of_decide_eq_true g
  have g1:=of_decide_eq_false g1
  simp [setHas,show ¬ i < 0 by omega,show ¬ i < 64 by omega,show ¬ i < 128 by omega,show ¬ i < 192 by omega,show ¬ i < 256 by omega]
 ·have g:=of_decide_eq_false g
  simp [setHas,show i < 0 by omega]
end Go.Ev
set_option linter.unusedSimpArgs false
set_option linter.unusedVariables false
namespace Go.Ev
open Go Go.Proofs
theorem w64_id {x:Int} (h0:-9223372036854775808≤x) (h1:x≤9223372036854775807):w64 x=x:=wrap64 h0 (by omega)
def setTo (p:Int→Bool):Nat→arr4_uint64
 | 0=>⟨0,0,0,0⟩
 | n+1=>if p n then setAdd (setTo p n) n else setTo p n
def mkSet (p:Int→Bool):arr4_uint64:=setTo p 256
theorem setOf_ok (lo hi:Int):C_heckleref01_Of lo hi (mkSet fun i=>decide (i≥lo) && decide (i≤hi)):=by
 refine W_heckleref01_Of _ _ _ ⟨fun e0 e1 e2 e3 b=>∃ n:Nat,n≤256∧b=n∧arr4_uint64.mk e0 e1 e2 e3=setTo (fun i=>decide (i≥lo) && decide (i≤hi)) n,fun _ _ _ _ b=>(256 - b).toNat,⟨0,by omega,rfl,rfl⟩,?_⟩
 rintro e0 e1 e2 e3 b ⟨n,hn,rfl,hs⟩
 refine ⟨fun hb=>?_,fun hb=>?_⟩
 ·have hb:n < 256:=by have:=of_decide_eq_true hb;omega
  have hw:w64 ((n:Int)+1)=((n+1:Nat):Int):=w64_id (by omega) (by omega)
  refine ⟨fun a b c d=>arr4_uint64.mk a b c d=setTo (fun i=>decide (i≥lo) && decide (i≤hi)) (n+1),fun a b c d h=>⟨⟨n+1,by omega,hw,h⟩,by rw [hw];show (256 - _:Int).toNat < (256 - _:Int).toNat;omega⟩,fun ht=>⟨_,add_ok _ _ (by omega) (by omega),?_⟩,fun ht=>?_⟩
  ·simp only [setTo,ht,if_true,hs]
  ·simp only [setTo,ht,hs];rfl
 ·have hb:n=256:=by have:=of_decide_eq_false hb;omega
  subst hb
  exact hs.symm
theorem setNot_ok (s:arr4_uint64):C_heckleref01_Not s (mkSet fun i=>!setHas s i):=by
 refine W_heckleref01_Not _ _ ⟨fun e0 e1 e2 e3 b=>∃ n:Nat,n≤256∧b=n∧arr4_uint64.mk e0 e1 e2 e3=setTo (fun i=>!setHas s i) n,fun _ _ _ _ b=>(256 - b).toNat,⟨0,by omega,rfl,rfl⟩,?_⟩
 rintro e0 e1 e2 e3 b ⟨n,hn,rfl,hs⟩
 refine ⟨fun hb=>?_,fun hb=>?_⟩
 ·have hb:n < 256:=by have:=of_decide_eq_true hb;omega
  have hw:w64 ((n:Int)+1)=((n+1:Nat):Int):=w64_id (by omega) (by omega)
  refine ⟨fun a b c d=>arr4_uint64.mk a b c d=setTo (fun i=>!setHas s i) (n+1),fun a b c d h=>⟨⟨n+1,by omega,hw,h⟩,by rw [hw];show (256 - _:Int).toNat < (256 - _:Int).toNat;omega⟩,_,has_ok _ _,fun ht=>⟨_,add_ok _ _ (by omega) (by omega),?_⟩,fun ht=>?_⟩
  ·simp only [setTo,ht,if_true,hs]
  ·simp only [setTo,ht,hs];rfl
 ·have hb:n=256:=by have:=of_decide_eq_false hb;omega
  subst hb
  exact hs.symm
theorem char3_ok (b:Int):C_hecklelaw03_char b ⟨2,mkSet fun i=>decide (i≥b) && decide (i≤b),0,0,[]⟩:=by
 exact W_hecklelaw03_char _ _ ⟨_,setOf_ok _ _,rfl⟩
end Go.Ev
set_option linter.unusedSimpArgs false
set_option linter.unusedVariables false
namespace Go.Ev.Pl
open Go Go.Ev
abbrev SS (l:List Int):Prop:=l.Pairwise (· < ·)
theorem ss_ext:∀ {a b:List Int},SS a→SS b→(∀ x,x∈a↔x∈b)→a=b
 | [],[],_,_,_=>rfl
 | [],y :: b,_,_,h=>by have:=(h y).2 (List.mem_cons_self ..);simp at this
 | x :: a,[],_,_,h=>by have:=(h x).1 (List.mem_cons_self ..);simp at this
 | x :: a,y :: b,ha,hb,h=>by
   have ha:=List.pairwise_cons.1 ha
   have hb:=List.pairwise_cons.1 hb
   have hxy:x=y:=by
    rcases List.mem_cons.1 ((h x).1 (List.mem_cons_self ..)) with e | e
    ·exact e
    ·rcases List.mem_cons.1 ((h y).2 (List.mem_cons_self ..)) with e' | e'
     ·exact e'.symm
     ·have:=hb.1 x e;have:=ha.1 y e';omega
   subst hxy
   rw [ss_ext ha.2 hb.2]
   intro z
   constructor
   ·intro hz
    rcases List.mem_cons.1 ((h z).1 (List.mem_cons_of_mem _ hz)) with e | e
    ·subst e;have:=ha.1 z hz;omega
    ·exact e
   ·intro hz
    rcases List.mem_cons.1 ((h z).2 (List.mem_cons_of_mem _ hz)) with e | e
    ·subst e;have:=hb.1 z hz;omega
    ·exact e
def join (a b:List Int):List Int:=compactInts (sortInts (a++b))
theorem upTo_spec (zs:List Int) (hs:zs.Pairwise (·≤·)):∀ m,m≤zs.length→SS (Lib.compactUpTo zs.toArray m)∧∀ x,x∈Lib.compactUpTo zs.toArray m↔x∈zs.take m:=by
 intro m
 induction m with
 | zero=>intro _;simp [Lib.compactUpTo]
 | succ m ih=>
   intro hm
   obtain ⟨h1,h2⟩:=ih (by omega)
   have hg:zs.toArray[m]! = zs[m]'(by omega):=by simp [getElem!_pos,show m < zs.length by omega]
   have ht:∀ x,x∈zs.take (m+1)↔x∈zs.take m∨x=zs[m]'(by omega):=by
    intro x;rw [List.take_succ_eq_append_getElem (by omega),List.mem_append,List.mem_singleton]
   have hle:∀ x∈zs.take m,x≤zs[m]'(by omega):=by
    intro x hx
    obtain ⟨i,hi,rfl⟩:=List.mem_iff_getElem.1 hx
    simp only [List.length_take] at hi
    rw [List.getElem_take]
    exact List.pairwise_iff_getElem.1 hs i m (by omega) (by omega) (by omega)
   rw [Lib.compactUpTo_succ,hg]
   by_cases hk:Lib.keeps zs.toArray m=true
   ·rw [if_pos hk]
    refine ⟨List.pairwise_append.2 ⟨h1,by simp,fun x hx y hy=>?_⟩,fun x=>?_⟩
    ·simp at hy;subst hy
     have hx:=(h2 x).1 hx
     have h3:=hle x hx
     simp only [Lib.keeps,decide_eq_true_eq] at hk
     rcases hk with rfl | hk
     ·simp at hx
     ·have hm0:m≠0:=by rintro rfl;simp at hx
      have hg':zs.toArray[m - 1]! = zs[m - 1]'(by omega):=by simp [getElem!_pos,show m - 1 < zs.length by omega]
      rw [hg,hg'] at hk
      obtain ⟨i,hi,rfl⟩:=List.mem_iff_getElem.1 hx
      simp only [List.length_take] at hi
      rw [List.getElem_take] at h3 ⊢
      have h5:zs[i]'(by omega)≤zs[m - 1]'(by omega):=by
       by_cases e:i=m - 1
       ·subst e;exact Int.le_refl _
       ·exact List.pairwise_iff_getElem.1 hs i (m - 1) (by omega) (by omega) (by omega)
      have h6:zs[m - 1]'(by omega)≤zs[m]'(by omega):=List.pairwise_iff_getElem.1 hs (m - 1) m (by omega) (by omega) (by omega)
      have:zs[m - 1]'(by omega)≠zs[m]'(by omega):=fun e=>hk e.symm
      omega
    ·rw [ht];simp [h2]
   ·rw [if_neg hk]
    refine ⟨by simpa using h1,fun x=>?_⟩
    rw [List.append_nil,ht,h2]
    constructor
    ·exact .inl
    ·rintro (h | rfl)
     ·exact h
     ·simp only [Lib.keeps,decide_eq_true_eq,not_or,Decidable.not_not] at hk
      obtain ⟨hm0,hk⟩:=hk
      have hg':zs.toArray[m - 1]! = zs[m - 1]'(by omega):=by simp [getElem!_pos,show m - 1 < zs.length by omega]
      rw [hg,hg'] at hk
      rw [hk]
      refine List.mem_iff_getElem.2 ⟨m - 1,by simp;omega,by rw [List.getElem_take]⟩
theorem sort_spec (l:List Int):(sortInts l).Pairwise (·≤·)∧∀ x,x∈sortInts l↔x∈l:=by
 refine ⟨?_,fun x=>by simp [sortInts]⟩
 have:=List.pairwise_mergeSort (le:=fun x y:Int=>decide (x≤y)) (fun a b c h1 h2=>by simp at *;omega) (fun a b=>by simp;omega) l
 exact this.imp (by simp)
theorem join_spec (a b:List Int):SS (join a b)∧∀ x,x∈join a b↔x∈a∨x∈b:=by
 obtain ⟨h1,h2⟩:=sort_spec (a++b)
 obtain ⟨h3,h4⟩:=upTo_spec _ h1 _ (Nat.le_refl _)
 refine ⟨h3,fun x=>?_⟩
 show x∈Lib.compactUpTo _ _↔_
 rw [h4,List.take_length,h2,List.mem_append]
theorem sort_len (l:List Int):(sortInts l).length=l.length:=by simp [sortInts]
end Go.Ev.Pl
set_option linter.unusedSimpArgs false
set_option linter.unusedVariables false
namespace Go.Ev.Pl
open Go Go.Ev
theorem w64_id {x:Int} (h0:-9223372036854775808≤x) (h1:x≤9223372036854775807):w64 x=x:=wrap64 h0 (by omega)
theorem rx_sizeOf {x y:api_Rx} (h:y∈x.Kids):SizeOf.sizeOf y < SizeOf.sizeOf x:=by
 cases x with
 | mk k s lo hi kids=>
   have:=List.sizeOf_lt_of_mem h
   simp only [api_Rx.mk.sizeOf_spec]
   simp at this
   omega
theorem rxInd {P:api_Rx→Prop} (h:∀ x,(∀ y∈x.Kids,P y)→P x) (x:api_Rx):P x:=
 h x fun y hy=>rxInd h y
 termination_by SizeOf.sizeOf x
 decreasing_by exact rx_sizeOf hy
mutual
def cata {α:Type} (f:api_Rx→List α→α):api_Rx→α
 | ⟨k,s,lo,hi,kids⟩=>f ⟨k,s,lo,hi,kids⟩ (cataL f kids)
def cataL {α:Type} (f:api_Rx→List α→α):List api_Rx→List α
 | []=>[]
 | x :: r=>cata f x :: cataL f r
end
theorem cataL_map {α:Type} (f:api_Rx→List α→α):∀ l,cataL f l=l.map (cata f)
 | []=>rfl
 | x :: r=>by rw [cataL,cataL_map f r];rfl
theorem cata_eq {α:Type} (f:api_Rx→List α→α) (x:api_Rx):cata f x=f x (x.Kids.map (cata f)):=by
 cases x;rw [cata,cataL_map]
def Wf (x:api_Rx):Prop:=cata (α:=Prop) (fun x l=>x.Kids.length < 1099511627776∧∀ p∈l,p) x
theorem wf_eq (x:api_Rx):Wf x↔x.Kids.length < 1099511627776∧∀ y∈x.Kids,Wf y:=by
 show cata (α:=Prop) _ x↔_
 rw [cata_eq]
 constructor
 ·rintro ⟨h1,h2⟩;exact ⟨h1,fun y hy=>h2 _ (List.mem_map.2 ⟨y,hy,rfl⟩)⟩
 ·rintro ⟨h1,h2⟩
  refine ⟨h1,fun p hp=>?_⟩
  obtain ⟨y,hy,rfl⟩:=List.mem_map.1 hp
  exact h2 y hy
theorem gd_nat {α:Type} [Inhabited α] {l:List α} {i:Nat} (h:i < l.length):gd l (i:Int)=l[i]:=by
 simp [gd,List.getD,h]
def timesN (x:api_Rx):Nat:=(max 1 (min 1000 (max x.Lo x.Hi))).toNat
def sizeN:api_Rx→Nat:=cata fun x l=>if x.Kind=2 then 1 else if 3≤x.Kind∧x.Kind≤5 then l.sum * (if x.Kind=5 then timesN x else 1) else 0
theorem sizeN_eq (x:api_Rx):sizeN x=if x.Kind=2 then 1 else if 3≤x.Kind∧x.Kind≤5 then (x.Kids.map sizeN).sum * (if x.Kind=5 then timesN x else 1) else 0:=cata_eq _ x
def sizeZ (x:api_Rx):Int:=min (sizeN x:Int) (1000000:Int)
theorem sum_take_succ {l:List Nat} {i:Nat} (h:i < l.length):(l.take (i+1)).sum=(l.take i).sum+l[i]:=by
 rw [List.take_succ_eq_append_getElem h,List.sum_append];simp
theorem rxSize_ok:∀ x,Wf x→C_rx_Size x (sizeZ x):=by
 refine rxInd fun x ih hw=>?_
 obtain ⟨hl,hk⟩:=(wf_eq x).1 hw
 refine W_rx_Size x _ ⟨fun h=>?_,fun h=>⟨fun h2=>?_,fun h2=>?_⟩⟩
 ·have h:x.Kind=2:=by simpa using h
  simp [sizeZ,sizeN_eq,h];omega
 ·have:x.Kind < 3∨x.Kind > 5:=by simpa using h2
  have h:x.Kind≠2:=by simpa using h
  rw [sizeZ,sizeN_eq,if_neg h,if_neg (by omega)];omega
 ·have h:x.Kind≠2:=by simpa using h
  have h2:3≤x.Kind∧x.Kind≤5:=by simp at h2;omega
  have hT:(timesN x:Int)=max 1 (min 1000 (max x.Lo x.Hi)):=by simp only [timesN];omega
  refine ⟨fun n t=>∃ i:Nat,t=i∧i≤x.Kids.length∧n=min (((x.Kids.map sizeN).take i).sum:Int) 1000000,fun n t=>(x.Kids.length - t).toNat,⟨0,rfl,by omega,by simp;omega⟩,?_⟩
  rintro n t ⟨i,rfl,hi,hn⟩
  refine ⟨fun ht=>?_,fun ht=>?_⟩
  ·have ht:i < x.Kids.length:=by simpa using ht
   refine ⟨by omega,by omega,sizeZ x.Kids[i],by rw [gd_nat ht];exact ih _ (List.getElem_mem ht) (hk _ (List.getElem_mem ht)),?_⟩
   have hs:=sum_take_succ (l:=x.Kids.map sizeN) (i:=i) (by simpa using ht)
   rw [List.getElem_map] at hs
   have hz:sizeZ x.Kids[i]=min (sizeN x.Kids[i]:Int) (1000000:Int):=rfl
   have hw1:w64 (n+sizeZ x.Kids[i])=n+sizeZ x.Kids[i]:=w64_id (by omega) (by omega)
   have hw2:w64 ((i:Int)+1)=((i+1:Nat):Int):=w64_id (by omega) (by omega)
   rw [hw1,hw2]
   refine ⟨⟨i+1,rfl,by omega,?_⟩,by dsimp only;omega⟩
   rw [hs];simp;omega
  ·have ht:i=x.Kids.length:=by have:¬ i < x.Kids.length:=by simpa using ht
                               omega
   subst ht
   rw [List.take_of_length_le (by simp)] at hn
   refine ⟨fun m=>m=n * (if x.Kind=5 then (timesN x:Int) else 1),fun m hm=>?_,fun h5=>?_,fun h5=>?_⟩
   ·subst hm
    rw [sizeZ,sizeN_eq,if_neg h,if_pos h2]
    by_cases h5:x.Kind=5
    ·simp only [if_pos h5]
     have hp:(1:Int)≤timesN x:=by omega
     have hp2:(timesN x:Int)≤1000:=by omega
     generalize (x.Kids.map sizeN).sum=S at hn ⊢
     subst hn
     rw [Int.natCast_mul]
     generalize (timesN x:Int)=T at hp hp2 ⊢
     simp
     rcases Int.le_total (S:Int) 1000000 with hS | hS
     ·rw [Int.min_eq_left hS];omega
     ·rw [Int.min_eq_right hS]
      have h1:(1000000:Int) * 1≤1000000 * T:=Int.mul_le_mul_of_nonneg_left hp (by omega)
      have h2:(1000000:Int) * T≤S * T:=Int.mul_le_mul_of_nonneg_right hS (by omega)
      omega
    ·simp only [if_neg h5];simp;omega
   ·have h5:x.Kind=5:=by simpa using h5
    rw [if_pos h5,hT]
    have:∀ a:Int,0≤a→a≤1000000→w64 (a * max 1 (min 1000 (max x.Lo x.Hi)))=a * max 1 (min 1000 (max x.Lo x.Hi)):=fun a h1 h2=>by
     have e1:0≤a * max 1 (min 1000 (max x.Lo x.Hi)):=Int.mul_nonneg h1 (by omega)
     have e2:a * max 1 (min 1000 (max x.Lo x.Hi))≤1000000 * 1000:=Int.mul_le_mul h2 (by omega) (by omega) (by omega)
     exact w64_id (by omega) (by omega)
    rw [← this n (by omega) (by omega)]
    congr 1;congr 1
    simp;omega
   ·have h5:x.Kind≠5:=by simpa using h5
    rw [if_neg h5];omega
theorem refSize_ok:∀ x,Wf x→C_heckleref03_Size x (sizeZ x):=by
 refine rxInd fun x ih hw=>?_
 obtain ⟨hl,hk⟩:=(wf_eq x).1 hw
 refine W_heckleref03_Size x _ ⟨fun h=>?_,fun h=>?_⟩
 ·have h:x.Kind=2:=by simpa using h
  simp [sizeZ,sizeN_eq,h];omega
 have h:x.Kind≠2:=by simpa using h
 refine ⟨fun b=>b=decide (3≤x.Kind∧x.Kind≤5),fun b hb=>⟨fun hbt=>?_,fun hbf=>?_⟩,fun h3=>?_,fun h3=>⟨fun h4=>?_,fun h4=>?_⟩⟩
 ·have h2:3≤x.Kind∧x.Kind≤5:=by rw [hbt] at hb;simpa using hb.symm
  have hT:(timesN x:Int)=max 1 (min 1000 (max x.Lo x.Hi)):=by simp only [timesN];omega
  have hp:(1:Int)≤timesN x:=by omega
  have hp2:(timesN x:Int)≤1000:=by omega
  refine ⟨fun n t=>∃ i:Nat,t=i∧i≤x.Kids.length∧n=min (((x.Kids.map sizeN).take i).sum:Int) 1000000,fun n t=>(x.Kids.length - t).toNat,⟨0,rfl,by omega,by simp;omega⟩,?_⟩
  rintro n t ⟨i,rfl,hi,hn⟩
  refine ⟨fun ht=>?_,fun ht=>?_⟩
  ·have ht:i < x.Kids.length:=by simpa using ht
   refine ⟨by omega,by omega,sizeZ x.Kids[i],by rw [gd_nat ht];exact ih _ (List.getElem_mem ht) (hk _ (List.getElem_mem ht)),?_⟩
   have hs:=sum_take_succ (l:=x.Kids.map sizeN) (i:=i) (by simpa using ht)
   rw [List.getElem_map] at hs
   have hz:sizeZ x.Kids[i]=min (sizeN x.Kids[i]:Int) (1000000:Int):=rfl
   have hw1:w64 (n+sizeZ x.Kids[i])=n+sizeZ x.Kids[i]:=w64_id (by omega) (by omega)
   have hw2:w64 ((i:Int)+1)=((i+1:Nat):Int):=w64_id (by omega) (by omega)
   rw [hw1,hw2]
   refine ⟨fun hg=>?_,fun hg=>?_⟩
   ·have hg:n+sizeZ x.Kids[i] > 1000000:=by simpa using hg
    have hsum:(x.Kids.map sizeN).sum≥((x.Kids.map sizeN).take (i+1)).sum:=by
     conv=>lhs;rw [← List.take_append_drop (i+1) (x.Kids.map sizeN),List.sum_append]
     omega
    rw [sizeZ,sizeN_eq,if_neg h,if_pos h2]
    have:(1000001:Int)≤(((x.Kids.map sizeN).sum * (if x.Kind=5 then timesN x else 1):Nat):Int):=by
     split
     ·have h3:(x.Kids.map sizeN).sum * 1≤(x.Kids.map sizeN).sum * timesN x:=Nat.mul_le_mul_left _ (by omega)
      omega
     ·omega
    omega
   ·have hg:¬ n+sizeZ x.Kids[i] > 1000000:=by simpa using hg
    exact ⟨⟨i+1,rfl,by omega,by rw [hs];simp;omega⟩,by dsimp only;omega⟩
  ·have ht:i=x.Kids.length:=by have:¬ i < x.Kids.length:=by simpa using ht
                               omega
   subst ht
   rw [List.take_of_length_le (by simp)] at hn
   refine ⟨fun m=>m=n * (if x.Kind=5 then (timesN x:Int) else 1),fun m hm=>?_,fun h5=>?_,fun h5=>?_⟩
   ·subst hm
    rw [sizeZ,sizeN_eq,if_neg h,if_pos h2]
    by_cases h5:x.Kind=5
    ·simp only [if_pos h5]
     generalize (x.Kids.map sizeN).sum=S at hn ⊢
     subst hn
     rw [Int.natCast_mul]
     generalize (timesN x:Int)=T at hp hp2 ⊢
     simp
     rcases Int.le_total (S:Int) 1000000 with hS | hS
     ·rw [Int.min_eq_left hS];omega
     ·rw [Int.min_eq_right hS]
      have h1:(1000000:Int) * 1≤1000000 * T:=Int.mul_le_mul_of_nonneg_left hp (by omega)
      have h2:(1000000:Int) * T≤S * T:=Int.mul_le_mul_of_nonneg_right hS (by omega)
      omega
    ·simp only [if_neg h5];simp;omega
   ·have h5:x.Kind=5:=by simpa using h5
    rw [if_pos h5,hT]
    have:∀ a:Int,0≤a→a≤1000000→w64 (a * max 1 (min 1000 (max x.Lo x.Hi)))=a * max 1 (min 1000 (max x.Lo x.Hi)):=fun a h1 h2=>by
     have e1:0≤a * max 1 (min 1000 (max x.Lo x.Hi)):=Int.mul_nonneg h1 (by omega)
     have e2:a * max 1 (min 1000 (max x.Lo x.Hi))≤1000000 * 1000:=Int.mul_le_mul h2 (by omega) (by omega) (by omega)
     exact w64_id (by omega) (by omega)
    rw [← this n (by omega) (by omega)]
    congr 1;congr 1
    simp;omega
   ·have h5:x.Kind≠5:=by simpa using h5
    rw [if_neg h5];omega
 ·have h2:¬ (3≤x.Kind∧x.Kind≤5):=by rw [hbf] at hb;simpa using hb.symm
  rw [sizeZ,sizeN_eq,if_neg h,if_neg h2];omega
 ·have h3':x.Kind=3:=by simpa using h3
  simp [h3']
 ·have h4':x.Kind=4:=by simpa using h4
  simp [h4']
 ·have h3':x.Kind≠3:=by simpa using h3
  have h4':x.Kind≠4:=by simpa using h4
  show decide (x.Kind=5)=decide (3≤x.Kind∧x.Kind≤5)
  rw [decide_eq_decide];omega
def nodesZ:api_Rx→Int→Int:=cata fun x l most=>l.foldl (fun m g=>if m≥0 then g m else m) (most - 1)
theorem nodesZ_eq (x:api_Rx) (most:Int):nodesZ x most=x.Kids.foldl (fun m y=>if m≥0 then nodesZ y m else m) (most - 1):=by
 unfold nodesZ
 rw [cata_eq,List.foldl_map]
theorem nodesZ_le:∀ x most,0≤most→nodesZ x most≤most - 1∧-1≤nodesZ x most:=by
 refine rxInd fun x ih most hm=>?_
 rw [nodesZ_eq]
 have key:∀ (l:List api_Rx) (m:Int),(∀ y∈l,y∈x.Kids)→-1≤m→(l.foldl (fun m y=>if m≥0 then nodesZ y m else m) m)≤m∧-1≤l.foldl (fun m y=>if m≥0 then nodesZ y m else m) m:=by
  intro l
  induction l with
  | nil=>intro m _ h;exact ⟨Int.le_refl _,h⟩
  | cons y r ih2=>
    intro m hl h
    simp only [List.foldl_cons]
    split
    ·rename_i h0
     obtain ⟨h1,h2⟩:=ih y (hl y (List.mem_cons_self ..)) m h0
     obtain ⟨h3,h4⟩:=ih2 _ (fun z hz=>hl z (List.mem_cons_of_mem _ hz)) h2
     exact ⟨by omega,h4⟩
    ·exact ih2 m (fun z hz=>hl z (List.mem_cons_of_mem _ hz)) h
 exact key x.Kids (most - 1) (fun _ h=>h) (by omega)
theorem foldl_take_succ {α β:Type} {f:β→α→β} {b:β} {l:List α} {i:Nat} (h:i < l.length):(l.take (i+1)).foldl f b=f ((l.take i).foldl f b) l[i]:=by
 rw [List.take_succ_eq_append_getElem h,List.foldl_append];rfl
theorem nodes_pre {x:api_Rx} {most:Int} (hm:0≤most) (i:Nat):-1≤(x.Kids.take i).foldl (fun m y=>if m≥0 then nodesZ y m else m) (most - 1)∧(x.Kids.take i).foldl (fun m y=>if m≥0 then nodesZ y m else m) (most - 1) < most:=by
 induction i with
 | zero=>simp;omega
 | succ i ih=>
   by_cases h:i < x.Kids.length
   ·rw [foldl_take_succ h]
    split
    ·rename_i h0
     have:=nodesZ_le x.Kids[i] _ h0
     omega
    ·exact ih
   ·rw [List.take_of_length_le (by omega)] at ih ⊢;exact ih
theorem rxNodes_ok:∀ x,Wf x→∀ most,0≤most→most≤1000000→C_rx_nodes x most (nodesZ x most):=by
 refine rxInd fun x ih hw most hm0 hm1=>?_
 obtain ⟨hl,hk⟩:=(wf_eq x).1 hw
 rw [nodesZ_eq]
 have hw0:w64 (most - 1)=most - 1:=w64_id (by omega) (by omega)
 refine W_rx_nodes x most _ ⟨fun m t=>∃ i:Nat,t=i∧i≤x.Kids.length∧m=(x.Kids.take i).foldl (fun m y=>if m≥0 then nodesZ y m else m) (most - 1),fun m t=>(x.Kids.length - t).toNat,⟨0,rfl,by omega,by rw [hw0];rfl⟩,?_⟩
 rintro m t ⟨i,rfl,hi,hm⟩
 have hb:=nodes_pre (x:=x) hm0 i
 rw [← hm] at hb
 refine ⟨fun ht=>?_,fun ht=>?_⟩
 ·have ht:i < x.Kids.length:=by simpa using ht
  have hw2:w64 ((i:Int)+1)=((i+1:Nat):Int):=w64_id (by omega) (by omega)
  have hs:=foldl_take_succ (f:=fun m y=>if m≥0 then nodesZ y m else m) (b:=most - 1) ht
  rw [← hm] at hs
  refine ⟨fun m'=>m'=if m≥0 then nodesZ x.Kids[i] m else m,fun m' hm'=>?_,by omega,by omega,fun hg=>?_,fun hg=>?_⟩
  ·rw [hw2]
   exact ⟨⟨i+1,rfl,by omega,by rw [hs,hm']⟩,by dsimp only;omega⟩
  ·have hg:m≥0:=by simpa using hg
   refine ⟨nodesZ x.Kids[i] m,?_,by rw [if_pos hg]⟩
   rw [gd_nat ht]
   exact ih _ (List.getElem_mem ht) (hk _ (List.getElem_mem ht)) _ hg (by omega)
  ·have hg:¬ m≥0:=by simpa using hg
   rw [if_neg hg]
 ·have ht:i=x.Kids.length:=by have:¬ i < x.Kids.length:=by simpa using ht
                              omega
  subst ht
  rw [hm,List.take_of_length_le (Nat.le_refl _)]
def WfB (x:api_Rx):Prop:=cata (α:=Prop) (fun x l=>x.Kids.length < 9223372036854775808∧∀ p∈l,p) x
theorem wfB_eq (x:api_Rx):WfB x↔x.Kids.length < 9223372036854775808∧∀ y∈x.Kids,WfB y:=by
 unfold WfB
 rw [cata_eq]
 simp only [List.mem_map,forall_exists_index,and_imp,forall_apply_eq_imp_iff₂]
theorem wfB_of_wf:∀ x,Wf x→WfB x:=by
 refine rxInd fun x ih hw=>?_
 obtain ⟨hl,hk⟩:=(wf_eq x).1 hw
 exact (wfB_eq x).2 ⟨by omega,fun y hy=>ih y hy (hk y hy)⟩
theorem refNodesB_ok:∀ x,WfB x→∀ most,0≤most→most≤1000000→C_heckleref03_Nodes x most (nodesZ x most):=by
 refine rxInd fun x ih hw most hm0 hm1=>?_
 obtain ⟨hl,hk⟩:=(wfB_eq x).1 hw
 rw [nodesZ_eq]
 have hw0:w64 (most - 1)=most - 1:=w64_id (by omega) (by omega)
 refine W_heckleref03_Nodes x most _ ⟨fun m t=>∃ i:Nat,t=i∧i≤x.Kids.length∧m=(x.Kids.take i).foldl (fun m y=>if m≥0 then nodesZ y m else m) (most - 1),fun m t=>(x.Kids.length - t).toNat,⟨0,rfl,by omega,by rw [hw0];rfl⟩,?_⟩
 rintro m t ⟨i,rfl,hi,hm⟩
 have hb:=nodes_pre (x:=x) hm0 i
 rw [← hm] at hb
 have hstay:∀ (l:List api_Rx) (m:Int),m < 0→l.foldl (fun m y=>if m≥0 then nodesZ y m else m) m=m:=by
  intro l
  induction l with
  | nil=>intro m _;rfl
  | cons y r ih2=>intro m h;rw [List.foldl_cons,if_neg (by omega)];exact ih2 m h
 refine ⟨fun ht=>?_,fun ht=>?_⟩
 ·simp only [List.length_map,Bool.and_eq_true,decide_eq_true_eq] at ht
  obtain ⟨ht,hg⟩:=ht
  have ht:i < x.Kids.length:=by omega
  have hw2:w64 ((i:Int)+1)=((i+1:Nat):Int):=w64_id (by omega) (by omega)
  have hs:=foldl_take_succ (f:=fun m y=>if m≥0 then nodesZ y m else m) (b:=most - 1) ht
  rw [← hm,if_pos hg] at hs
  refine ⟨by omega,by omega,nodesZ x.Kids[i] m,?_,?_⟩
  ·rw [gd_nat ht]
   exact ih _ (List.getElem_mem ht) (hk _ (List.getElem_mem ht)) _ hg (by omega)
  ·rw [hw2]
   exact ⟨⟨i+1,rfl,by omega,hs.symm⟩,by dsimp only;omega⟩
 ·simp only [List.length_map,Bool.and_eq_false_iff,decide_eq_false_iff_not] at ht
  rcases Nat.lt_or_ge i x.Kids.length with hlt | hge
  ·have hneg:m < 0:=by omega
   have e:=List.foldl_append (f:=fun m y=>if m≥0 then nodesZ y m else m) (b:=most - 1) (l:=x.Kids.take i) (l':=x.Kids.drop i)
   rw [List.take_append_drop,← hm,hstay _ _ hneg] at e
   exact e
  ·rw [hm,List.take_of_length_le hge]
theorem refNodes_ok (x:api_Rx) (hw:Wf x) (most:Int) (h0:0≤most) (h1:most≤1000000):C_heckleref03_Nodes x most (nodesZ x most):=refNodesB_ok x (wfB_of_wf x hw) most h0 h1
def noSet (s:arr4_uint64):Bool:=s.e0 == 0 && (s.e1 == 0 && (s.e2 == 0 && (s.e3 == 0 && true)))
def timesB (lo hi:Int):Bool:=decide (0≤lo) && (decide (lo≤20) && (hi == -1 || decide (hi≥max 1 lo) && decide (hi≤20)))
def ownB (x:api_Rx):Bool:=
 if x.Kind=5 then noSet x.Set && (decide (x.Kids.length=1) && timesB x.Lo x.Hi)
 else if x.Kind=1 then noSet x.Set && (x.Lo == 0 && x.Hi == 0 && decide (x.Kids.length=0))
 else if x.Kind=2 then !noSet x.Set && (x.Lo == 0 && x.Hi == 0 && decide (x.Kids.length=0))
 else if x.Kind=3∨x.Kind=4 then noSet x.Set && (x.Lo == 0 && x.Hi == 0 && decide (x.Kids.length≥2))
 else false
def oddK (x k:api_Rx):Bool:=k.Kind == x.Kind && x.Kind != 5
def rgt:api_Rx→Int→Bool:=cata fun x l deep=>decide (deep > 0) && ownB x && (x.Kids.zip l).all fun (k,g)=>!oddK x k && g (deep - 1)
theorem rgt_eq (x:api_Rx) (deep:Int):rgt x deep=(decide (deep > 0) && ownB x && x.Kids.all fun k=>!oddK x k && rgt k (deep - 1)):=by
 unfold rgt
 rw [cata_eq]
 congr 1
 rw [List.zip_map_right,List.all_map]
 generalize x.Kids=l
 induction l with
 | nil=>rfl
 | cons y r ih=>simp only [List.zip_cons_cons,List.all_cons,Function.comp] at ih ⊢;rw [ih];rfl
def pat (x:api_Rx):rx_pattern:={ Kind:=x.Kind,Set:=x.Set,Lo:=x.Lo,Hi:=x.Hi,Kids:=x.Kids }
theorem times_ok (x:rx_pattern):C_rx_pattern_times x (timesB x.Lo x.Hi):=by
 refine W_rx_pattern_times x _ ⟨fun h=>?_,fun h=>?_⟩
 ·simp only [Bool.or_eq_true,decide_eq_true_eq] at h
  simp only [timesB,Bool.and_eq_false_iff,decide_eq_false_iff_not];omega
 ·simp only [Bool.or_eq_false_iff,decide_eq_false_iff_not] at h
  have h1:decide (0≤x.Lo)=true:=by simp;omega
  have h2:decide (x.Lo≤20)=true:=by simp;omega
  simp only [timesB,h1,h2,Bool.true_and]
  congr 2
  have:(if x.Lo > 1 then x.Lo else 1)=max 1 x.Lo:=by omega
  rw [this]
theorem len0 (l:List api_Rx):decide (l=[])=(decide ((2:Int)≤(l.length:Int)+2) && (l.length:Int)+2 == 2):=by
 cases l with
 | nil=>rfl
 | cons a r=>
   have:((((a :: r).length:Nat):Int)+2 == 2)=false:=by
    show decide _=false
    simp only [decide_eq_false_iff_not,List.length_cons];omega
   rw [this];simp
theorem own_ok (x:api_Rx) (hl:x.Kids.length < 1099511627776):C_rx_pattern_own (pat x) (ownB x):=by
 refine W_rx_pattern_own (pat x) _ ⟨fun many=>many=(if x.Kind=1∨x.Kind=2 then (x.Kids.length:Int)+2 else x.Kids.length)∧(x.Kind=1∨x.Kind=2∨x.Kind=3∨x.Kind=4),?_,fun h5=>?_,fun h5=>?_⟩
 ·rintro many ⟨rfl,hk⟩
  show ownB x=((!noSet x.Set) == (x.Kind == 2) && (x.Lo == 0 && (x.Hi == 0 && (decide (_≥2) && (!decide (x.Kind < 3) || _ == 2)))))
  rcases hk with h | h | h | h
  all_goals simp only [ownB,h]
  ·cases noSet x.Set<;>cases hlo:(x.Lo == 0)<;>cases hhi:(x.Hi == 0)<;>simp [len0]
  ·cases noSet x.Set<;>cases hlo:(x.Lo == 0)<;>cases hhi:(x.Hi == 0)<;>simp [len0]
  ·cases noSet x.Set<;>cases hlo:(x.Lo == 0)<;>cases hhi:(x.Hi == 0)<;>simp<;>omega
  ·cases noSet x.Set<;>cases hlo:(x.Lo == 0)<;>cases hhi:(x.Hi == 0)<;>simp<;>omega
 ·have h5:x.Kind=5:=by simpa [pat] using h5
  refine ⟨fun hs=>⟨fun h1=>⟨_,times_ok (pat x),?_⟩,fun h1=>?_⟩,fun hs=>?_⟩
  ·have h1:x.Kids.length=1:=by simp [pat] at h1;omega
   have hs:noSet x.Set=true:=by rw [Bool.not_not] at hs;exact hs
   simp only [ownB,if_pos h5,hs,h1];rfl
  ·have h1:x.Kids.length≠1:=by simp [pat] at h1;omega
   simp [ownB,if_pos h5,h1]
  ·have hs:noSet x.Set=false:=by rw [Bool.not_not] at hs;exact hs
   simp [ownB,if_pos h5,hs]
 ·have h5:x.Kind≠5:=by simpa [pat] using h5
  refine ⟨fun b=>b=decide (x.Kind=1∨x.Kind=2),fun b hb=>⟨fun h=>?_,fun h=>?_⟩,fun h=>?_,fun h=>?_⟩
  ·have h12:x.Kind=1∨x.Kind=2:=by rw [h] at hb;simpa using hb.symm
   refine ⟨?_,by omega⟩
   rw [if_pos h12];exact w64_id (by show _≤(x.Kids.length:Int)+2;omega) (by show (x.Kids.length:Int)+2≤_;omega)
  ·have h12:¬ (x.Kind=1∨x.Kind=2):=by rw [h] at hb;simpa using hb.symm
   refine ⟨fun b=>b=decide (x.Kind=3∨x.Kind=4),fun b' hb'=>⟨fun h'=>?_,fun h'=>?_⟩,fun h'=>?_,fun h'=>?_⟩
   ·have h34:x.Kind=3∨x.Kind=4:=by rw [h'] at hb';simpa using hb'.symm
    exact ⟨by rw [if_neg h12];rfl,by omega⟩
   ·have h34:¬ (x.Kind=3∨x.Kind=4):=by rw [h'] at hb';simpa using hb'.symm
    simp only [ownB];rw [if_neg h5,if_neg (by omega),if_neg (by omega),if_neg h34]
   ·have:x.Kind=3:=by simpa [pat] using h'
    simp [pat,this]
   ·have:x.Kind≠3:=by simpa [pat] using h'
    simp [pat,this];rfl
  ·have:x.Kind=1:=by simpa [pat] using h
   simp [pat,this]
  ·have:x.Kind≠1:=by simpa [pat] using h
   simp [pat,this];rfl
theorem rxRight_ok:∀ x,Wf x→∀ deep,-1000≤deep→deep≤1000→C_rx_pattern_right (pat x) deep (rgt x deep):=by
 refine rxInd fun x ih hw deep hd0 hd1=>?_
 obtain ⟨hl,hk⟩:=(wf_eq x).1 hw
 have hodd:∀ k∈x.Kids,0 < deep→C_rx_pattern_right_L1 k (pat x) deep (oddK x k || !rgt k (deep - 1)) (pat x) deep:=by
  intro k hkm hpos
  have hw1:w64 (deep - 1)=deep - 1:=w64_id (by omega) (by omega)
  have hrec:C_rx_pattern_right ({ Kind:=api_Rx.Kind k,Set:=api_Rx.Set k,Lo:=api_Rx.Lo k,Hi:=api_Rx.Hi k,Kids:=api_Rx.Kids k }) (w64 (deep - 1)) (rgt k (deep - 1)):=by
   rw [hw1];exact ih k hkm (hk k hkm) _ (by omega) (by omega)
  refine W_rx_pattern_right_L1 k (pat x) deep _ _ _ ⟨fun h1=>⟨fun h2=>?_,fun h2=>⟨_,hrec,?_,rfl,rfl⟩⟩,fun h1=>⟨_,hrec,?_,rfl,rfl⟩⟩
  ·have h1:(k.Kind == x.Kind)=true:=h1
   have h2:(x.Kind != 5)=true:=h2
   simp [oddK,h1,h2]
  ·have h2:(x.Kind != 5)=false:=h2
   simp [oddK,h2]
  ·have h1:(k.Kind == x.Kind)=false:=h1
   simp [oddK,h1]
 have hall:∀ l:List api_Rx,l.length < 1099511627776→(∀ k∈l,k∈x.Kids)→0 < deep→C_slices_ContainsFunc__api_Rx_api_Rx_at_rx_pattern_right_L1 l (pat x) deep (l.any fun k=>oddK x k || !rgt k (deep - 1)) (pat x) deep:=by
  intro l hll hlm hpos
  obtain ⟨z,hz,hz2⟩:∃ z:Int,(decide (z≥0)=l.any fun k=>oddK x k || !rgt k (deep - 1))∧C_slices_IndexFunc__api_Rx_api_Rx_at_rx_pattern_right_L1 l (pat x) deep z (pat x) deep:=by
   have hfind:∀ i:Nat,(∀ (j:Nat) (hj:j < l.length),j < i→(oddK x l[j] || !rgt l[j] (deep - 1))=false)→(i=l.length→(l.any fun k=>oddK x k || !rgt k (deep - 1))=false):=by
    intro i h e
    subst e
    rw [List.any_eq_false]
    intro k hkm
    obtain ⟨j,hj,rfl⟩:=List.mem_iff_getElem.1 hkm
    rw [h j hj hj];simp
   cases hany:l.any fun k=>oddK x k || !rgt k (deep - 1) with
   | false=>
     refine ⟨-1,by simp,?_⟩
     refine W_slices_IndexFunc__api_Rx_api_Rx_at_rx_pattern_right_L1 l (pat x) deep _ _ _ ⟨fun a b c d e f g h o t=>(⟨a,⟨b,c,d,e⟩,f,g,h⟩:rx_pattern)=pat x∧o=deep∧∃ i:Nat,t=i∧i≤l.length,fun _ _ _ _ _ _ _ _ _ t=>(l.length - t).toNat,⟨rfl,rfl,0,rfl,by omega⟩,?_⟩
     rintro a b c d e f g h o t ⟨hp,rfl,i,rfl,hi⟩
     refine ⟨fun ht=>?_,fun ht=>⟨rfl,hp.symm,rfl⟩⟩
     have ht:i < l.length:=by simpa using ht
     have hw2:w64 ((i:Int)+1)=((i+1:Nat):Int):=w64_id (by omega) (by omega)
     refine ⟨by omega,by omega,_,pat x,o,by rw [gd_nat ht,hp];exact hodd l[i] (hlm _ (List.getElem_mem ht)) hpos,fun hb=>?_,fun hb=>?_⟩
     ·rw [List.any_eq_false] at hany
      exact absurd hb (hany _ (List.getElem_mem ht))
     ·rw [hw2]
      exact ⟨⟨rfl,rfl,i+1,rfl,by omega⟩,by dsimp only;omega⟩
   | true=>
     obtain ⟨k0,hk0,hk1⟩:=List.any_eq_true.1 hany
     have hex:∃ i:Nat,∃ hi:i < l.length,(oddK x l[i] || !rgt l[i] (deep - 1))=true∧∀ (j:Nat) (hj:j < i),(oddK x (l[j]'(by omega)) || !rgt (l[j]'(by omega)) (deep - 1))=false:=by
      obtain ⟨j0,hj0,rfl⟩:=List.mem_iff_getElem.1 hk0
      induction j0 using Nat.strongRecOn with
      | _ j0 ihj=>
        by_cases hex:∃ j:Nat,∃ hj:j < j0,(oddK x (l[j]'(by omega)) || !rgt (l[j]'(by omega)) (deep - 1))=true
        ·obtain ⟨j,hj,hj1⟩:=hex
         exact ihj j hj (by omega) (List.getElem_mem _) hj1
        ·refine ⟨j0,hj0,hk1,fun j hj=>?_⟩
         cases hb:(oddK x (l[j]'(by omega)) || !rgt (l[j]'(by omega)) (deep - 1)) with
         | false=>rfl
         | true=>exact absurd ⟨j,hj,hb⟩ hex
     obtain ⟨n,hn,hn1,hn2⟩:=hex
     refine ⟨n,by simp,?_⟩
     refine W_slices_IndexFunc__api_Rx_api_Rx_at_rx_pattern_right_L1 l (pat x) deep _ _ _ ⟨fun a b c d e f g h o t=>(⟨a,⟨b,c,d,e⟩,f,g,h⟩:rx_pattern)=pat x∧o=deep∧∃ i:Nat,t=i∧i≤n,fun _ _ _ _ _ _ _ _ _ t=>(l.length - t).toNat,⟨rfl,rfl,0,rfl,by omega⟩,?_⟩
     rintro a b c d e f g h o t ⟨hp,rfl,i,rfl,hi⟩
     refine ⟨fun ht=>?_,fun ht=>?_⟩
     ·have ht:i < l.length:=by simpa using ht
      have hw2:w64 ((i:Int)+1)=((i+1:Nat):Int):=w64_id (by omega) (by omega)
      refine ⟨by omega,by omega,_,pat x,o,by rw [gd_nat ht,hp];exact hodd l[i] (hlm _ (List.getElem_mem ht)) hpos,fun hb=>⟨?_,rfl,rfl⟩,fun hb=>?_⟩
      ·rcases Nat.lt_or_ge i n with hlt | hge
       ·rw [hn2 i hlt] at hb;cases hb
       ·have:i=n:=by omega
        rw [this]
      ·rcases Nat.lt_or_ge i n with hlt | hge
       ·rw [hw2]
        exact ⟨⟨rfl,rfl,i+1,rfl,by omega⟩,by dsimp only;omega⟩
       ·have:i=n:=by omega
        subst this
        rw [hn1] at hb;cases hb
     ·have:¬ i < l.length:=by simpa using ht
      omega
  refine W_slices_ContainsFunc__api_Rx_api_Rx_at_rx_pattern_right_L1 l (pat x) deep _ _ _ ⟨z,_,_,hz2,hz.symm,rfl,rfl⟩
 rw [rgt_eq]
 refine W_rx_pattern_right (pat x) deep _ ⟨fun hd=>⟨_,own_ok x hl,fun ho=>⟨_,_,_,hall x.Kids hl (fun _ h=>h) (by simpa using hd),?_⟩,fun ho=>?_⟩,fun hd=>?_⟩
 ·rw [hd,ho]
  simp only [Bool.true_and]
  rw [List.any_eq_not_all_not,Bool.not_not]
  congr 1
  funext k
  cases oddK x k<;>cases rgt k (deep - 1)<;>rfl
 ·rw [ho];simp
 ·rw [hd];simp
def rightB (x:api_Rx):Bool:=rgt x 20 && (decide (sizeZ x≤200) && decide (nodesZ x 1000≥0))
theorem rxRightAll_ok (x:api_Rx) (hw:Wf x):C_rx_Right x (rightB x):=by
 refine W_rx_Right x _ ⟨_,rxRight_ok x hw 20 (by omega) (by omega),fun h=>⟨_,rxSize_ok x hw,fun h2=>⟨_,rxNodes_ok x hw 1000 (by omega) (by omega),?_⟩,fun h2=>?_⟩,fun h=>?_⟩
 ·rw [rightB,h,h2];rfl
 ·rw [rightB,h2];simp
 ·rw [rightB,h];simp
end Go.Ev.Pl
set_option linter.unusedSimpArgs false
set_option linter.unusedVariables false
namespace Go.Ev.Pl
open Go Go.Ev
theorem noSet_eq (s:arr4_uint64):(s.e0 == 0 && (s.e1 == 0 && (s.e2 == 0 && (s.e3 == 0 && true))))=noSet s:=rfl
theorem len_zero (l:List api_Rx):((l.length:Int) == 0)=decide (l.length=0):=by
 show decide _=decide _
 simp only [decide_eq_decide];omega
theorem refRight_ok:∀ x,Wf x→∀ deep,-1000≤deep→deep≤1000→C_heckleref03_right x deep (rgt x deep):=by
 refine rxInd fun x ih hw deep hd0 hd1=>?_
 obtain ⟨hl,hk⟩:=(wf_eq x).1 hw
 have hw1:w64 (deep - 1)=deep - 1:=w64_id (by omega) (by omega)
 rw [rgt_eq]
 refine W_heckleref03_right x deep _ ⟨fun h=>?_,fun h=>?_⟩
 ·have:¬ deep > 0:=by have:deep < 1:=by simpa using h
                      omega
  simp [this]
 have hd:decide (deep > 0)=true:=by have:¬ deep < 1:=by simpa using h
                                    simp;omega
 have hpos:0 < deep:=by simpa using hd
 rw [hd,Bool.true_and]
 simp only [noSet_eq,Bool.not_not]
 refine ⟨fun h1=>?_,fun h1=>⟨fun h2=>?_,fun h2=>⟨fun h5=>?_,fun h5=>?_⟩⟩⟩
 ·have h1:x.Kind=1:=by simpa using h1
  have:x.Kids.all (fun k=>!oddK x k && rgt k (deep - 1))=true∨¬ x.Kids.length=0:=by
   cases x.Kids with
   | nil=>exact .inl rfl
   | cons a r=>right;simp
  simp only [ownB,h1]
  rcases this with h | h
  ·rw [h,len_zero];simp
  ·rw [len_zero];simp [h]
 ·have h2:x.Kind=2:=by simpa using h2
  have:x.Kids.all (fun k=>!oddK x k && rgt k (deep - 1))=true∨¬ x.Kids.length=0:=by
   cases x.Kids with
   | nil=>exact .inl rfl
   | cons a r=>right;simp
  simp only [ownB,h2]
  rcases this with h | h
  ·rw [h,len_zero];simp
  ·rw [len_zero];simp [h]
 ·have h5:x.Kind=5:=by simpa using h5
  have hmax:(if true=true then if x.Lo > 1 then x.Lo else 1 else if x.Lo < 1 then x.Lo else 1)=max 1 x.Lo:=by simp;omega
  have hmax2:(if x.Lo > 1 then x.Lo else 1)=max 1 x.Lo:=by omega
  simp only [eq_self,if_true,hmax2]
  have hown:ownB x=(noSet x.Set && (decide (x.Kids.length=1) && timesB x.Lo x.Hi)):=by simp only [ownB,if_pos h5]
  refine ⟨fun hs=>⟨fun hlo=>⟨fun hlo2=>⟨fun hhi=>⟨fun h1=>⟨fun _ _ _ _ _=>?_,_,ih _ ?_ (hk _ ?_) _ (by omega) (by omega),?_⟩,fun h1=>?_⟩,fun hhi=>?_⟩,fun hlo2=>?_⟩,fun hlo=>?_⟩,fun hs=>?_⟩
  ·have h1':x.Kids.length=1:=by (rw [List.length_map] at h1;have:(x.Kids.length:Int)=1:=by simpa using h1);omega
   omega
  ·have h1':x.Kids.length=1:=by (rw [List.length_map] at h1;have:(x.Kids.length:Int)=1:=by simpa using h1);omega
   match hq:x.Kids,h1' with
   | [a],_=>simp
  ·have h1':x.Kids.length=1:=by (rw [List.length_map] at h1;have:(x.Kids.length:Int)=1:=by simpa using h1);omega
   match hq:x.Kids,h1' with
   | [a],_=>simp
  ·-- the kid's word
   have h1':x.Kids.length=1:=by (rw [List.length_map] at h1;have:(x.Kids.length:Int)=1:=by simpa using h1);omega
   match hq:x.Kids,h1' with
   | [a],_=>
     have ht:timesB x.Lo x.Hi=true:=by
      have a1:decide (0≤x.Lo)=true:=by have:x.Lo≥0:=by simpa using hlo
                                       simp;omega
      simp only [timesB,a1,hlo2,hhi,Bool.true_and]
     rw [hown,hs,hq,ht,hw1]
     have ho:oddK x a=false:=by simp [oddK,h5]
     simp [ho]
  ·have h1':x.Kids.length≠1:=by intro e;rw [List.length_map,e] at h1;simp at h1
   rw [hown];simp [h1']
  ·rw [hown];simp only [timesB];rw [hhi];simp
  ·rw [hown];simp only [timesB];rw [hlo2];simp
  ·have:decide (0≤x.Lo)=false:=by have:¬ x.Lo≥0:=by simpa using hlo
                                  simp;omega
   rw [hown];simp only [timesB];rw [this];simp
  ·rw [hown,hs];simp
 ·have h1:x.Kind≠1:=by simpa using h1
  have h2:x.Kind≠2:=by simpa using h2
  have h5:x.Kind≠5:=by simpa using h5
  have hodd:∀ k,oddK x k=(k.Kind == x.Kind):=fun k=>by simp [oddK,h5]
  refine ⟨fun b=>b=decide (x.Kind=3∨x.Kind=4),fun b hb=>⟨fun hbt=>⟨fun hg=>?_,fun hg=>?_⟩,fun hbf=>?_⟩,fun h3=>?_,fun h3=>?_⟩
  ·have h34:x.Kind=3∨x.Kind=4:=by rw [hbt] at hb;simpa using hb.symm
   have:ownB x=false:=by
    simp only [ownB,if_neg h5,if_neg h1,if_neg h2,if_pos h34]
    simp only [Bool.or_eq_true,decide_eq_true_eq,Bool.not_eq_true',Bool.and_eq_false_iff] at hg ⊢
    rcases hg with hg | hg | hg
    ·exact .inl hg
    ·exact .inr (.inl (hg.imp id id))
    ·right;right;simp;omega
   rw [this];simp
  ·have h34:x.Kind=3∨x.Kind=4:=by rw [hbt] at hb;simpa using hb.symm
   have hown:ownB x=true:=by
    simp only [ownB,if_neg h5,if_neg h1,if_neg h2,if_pos h34]
    simp only [Bool.or_eq_false_iff,decide_eq_false_iff_not,Bool.not_eq_false',Bool.and_eq_true,decide_eq_true_eq] at hg ⊢
    obtain ⟨g1,g2,g3⟩:=hg
    exact ⟨g1,g2,by omega⟩
   rw [hown,Bool.true_and]
   refine ⟨fun t=>∃ i:Nat,t=i∧i≤x.Kids.length∧(x.Kids.take i).all (fun k=>!oddK x k && rgt k (deep - 1))=true,fun t=>(x.Kids.length - t).toNat,⟨0,rfl,by omega,rfl⟩,?_⟩
   rintro t ⟨i,rfl,hi,hall⟩
   refine ⟨fun ht=>?_,fun ht=>?_⟩
   ·have ht:i < x.Kids.length:=by simpa using ht
    have hw2:w64 ((i:Int)+1)=((i+1:Nat):Int):=w64_id (by omega) (by omega)
    have hm:=List.getElem_mem ht
    have hfail:∀ {b:Bool},(!oddK x x.Kids[i] && rgt x.Kids[i] (deep - 1))=false→(x.Kids.all fun k=>!oddK x k && rgt k (deep - 1))=false:=fun h=>by
     rw [List.all_eq_false];exact ⟨_,hm,by rw [h];simp⟩
    refine ⟨by omega,by omega,fun ho=>?_,fun ho=>⟨fun _=>by omega,fun _=>by omega,_,by rw [gd_nat ht,hw1];exact ih _ hm (hk _ hm) _ (by omega) (by omega),fun hr=>?_,fun hr=>?_⟩⟩
    ·rw [gd_nat ht] at ho
     exact (hfail (b:=true) (by rw [hodd,ho];rfl)).symm▸rfl
    ·have hr:rgt x.Kids[i] (deep - 1)=false:=by simpa using hr
     exact hfail (b:=true) (by rw [hr];simp)
    ·have hr:rgt x.Kids[i] (deep - 1)=true:=by simpa using hr
     rw [gd_nat ht] at ho
     rw [hw2]
     refine ⟨⟨i+1,rfl,by omega,?_⟩,by dsimp only;omega⟩
     rw [List.take_succ_eq_append_getElem ht,List.all_append,hall]
     simp [hodd,ho,hr]
   ·have ht:i=x.Kids.length:=by have:¬ i < x.Kids.length:=by simpa using ht
                                omega
    subst ht
    rw [List.take_of_length_le (Nat.le_refl _)] at hall
    exact hall
  ·have h34:¬ (x.Kind=3∨x.Kind=4):=by rw [hbf] at hb;simpa using hb.symm
   have:ownB x=false:=by simp only [ownB,if_neg h5,if_neg h1,if_neg h2,if_neg h34]
   rw [this];simp
  ·have:x.Kind=3:=by simpa using h3
   simp [this]
  ·have:x.Kind≠3:=by simpa using h3
   simp [this];rfl
theorem refRightAll_ok (x:api_Rx) (hw:Wf x):C_heckleref03_Right x (rightB x):=by
 refine W_heckleref03_Right x _ ⟨_,refRight_ok x hw 20 (by omega) (by omega),fun h=>⟨_,refSize_ok x hw,fun h2=>⟨_,refNodes_ok x hw 1000 (by omega) (by omega),?_⟩,fun h2=>?_⟩,fun h=>?_⟩
 ·rw [rightB,h,h2];rfl
 ·rw [rightB,h2];simp
 ·rw [rightB,h];simp
def nullB:api_Rx→Bool:=cata fun x l=>if x.Kind=1 then true else if x.Kind=3 then l.all id else if x.Kind=4 then l.any id else if x.Kind=5 then decide (x.Lo≤0) || l.all id else false
theorem nullB_eq (x:api_Rx):nullB x=if x.Kind=1 then true else if x.Kind=3 then x.Kids.all nullB else if x.Kind=4 then x.Kids.any nullB else if x.Kind=5 then decide (x.Lo≤0) || x.Kids.all nullB else false:=by
 unfold nullB;rw [cata_eq];simp only [List.all_map,List.any_map];rfl
end Go.Ev.Pl
set_option linter.unusedSimpArgs false
set_option linter.unusedVariables false
namespace Go.Ev.Pl
open Go Go.Ev
structure GA where
 n:Nat
 sets:List arr4_uint64
 null:Bool
 first:Nat→Bool
 last:Nat→Bool
 follow:Nat→Nat→Bool
def gEmpty:GA:=⟨0,[],true,fun _=>false,fun _=>false,fun _ _=>false⟩
def gNone:GA:=⟨0,[],false,fun _=>false,fun _=>false,fun _ _=>false⟩
def gByte (s:arr4_uint64):GA:=⟨1,[s],false,fun i=>i == 0,fun i=>i == 0,fun _ _=>false⟩
def blk (n:Nat) (p q:Nat→Nat→Bool) (r:Nat→Nat→Bool) (i j:Nat):Bool:=
 if i < n then (if j < n then p i j else r i (j - n)) else (if j < n then false else q (i - n) (j - n))
def gCat (a b:GA):GA:=
 ⟨a.n+b.n,a.sets++b.sets,a.null && b.null,fun i=>if i < a.n then a.first i else a.null && b.first (i - a.n),
   fun i=>if i < a.n then b.null && a.last i else b.last (i - a.n),blk a.n a.follow b.follow fun i j=>a.last i && b.first j⟩
def gAlt (a b:GA):GA:=
 ⟨a.n+b.n,a.sets++b.sets,a.null || b.null,fun i=>if i < a.n then a.first i else b.first (i - a.n),
   fun i=>if i < a.n then a.last i else b.last (i - a.n),blk a.n a.follow b.follow fun _ _=>false⟩
def gAgain (a:GA):GA:={ a with follow:=fun i j=>a.follow i j || a.last i && a.first j }
def gMaybe (a:GA):GA:={ a with null:=true }
structure Canon (a:GA):Prop where
 sets:a.sets.length=a.n
 first:∀ i,a.n≤i→a.first i=false
 last:∀ i,a.n≤i→a.last i=false
 follow:∀ i j,a.n≤i∨a.n≤j→a.follow i j=false
theorem cat_empty_r {a:GA} (h:Canon a):gCat a gEmpty=a:=by
 obtain ⟨n,sets,null,f,l,fo⟩:=a
 simp only [gCat,gEmpty,GA.mk.injEq,Nat.add_zero,List.append_nil,Bool.and_true,Bool.and_false,true_and]
 refine ⟨?_,?_,?_⟩
 ·funext i;split
  ·rfl
  ·rename_i hi;exact (h.first i (by show n≤i;omega)).symm
 ·funext i;split
  ·rfl
  ·rename_i hi;exact (h.last i (by show n≤i;omega)).symm
 ·funext i j
  simp only [blk]
  split<;>split
  ·rfl
  ·rename_i h1 h2;exact (h.follow i j (by show n≤i∨n≤j;omega)).symm
  ·rename_i h1 h2;exact (h.follow i j (by show n≤i∨n≤j;omega)).symm
  ·rename_i h1 h2;exact (h.follow i j (by show n≤i∨n≤j;omega)).symm
theorem canon_zero {a:GA} (h:Canon a) (hn:a.n=0) (hnull:a.null=true):a=gEmpty:=by
 obtain ⟨n,sets,null,f,l,fo⟩:=a
 simp only at hn hnull;subst hn hnull
 have hs:sets=[]:=List.length_eq_zero_iff.1 h.sets
 subst hs
 simp only [gEmpty,GA.mk.injEq,true_and]
 exact ⟨funext fun i=>h.first i (Nat.zero_le _),funext fun i=>h.last i (Nat.zero_le _),funext fun i=>funext fun j=>h.follow i j (.inl (Nat.zero_le _))⟩
theorem canon_empty:Canon gEmpty:=⟨rfl,fun _ _=>rfl,fun _ _=>rfl,fun _ _ _=>rfl⟩
theorem canon_none:Canon gNone:=⟨rfl,fun _ _=>rfl,fun _ _=>rfl,fun _ _ _=>rfl⟩
theorem canon_byte (s:arr4_uint64):Canon (gByte s):=⟨rfl,fun i h=>by simp [gByte] at h ⊢;omega,fun i h=>by simp [gByte] at h ⊢;omega,fun _ _ _=>rfl⟩
theorem canon_cat {a b:GA} (ha:Canon a) (hb:Canon b):Canon (gCat a b):=by
 refine ⟨by simp [gCat,ha.sets,hb.sets],fun i h=>?_,fun i h=>?_,fun i j h=>?_⟩
 ·simp only [gCat] at h ⊢;rw [if_neg (by omega),hb.first _ (by omega)];simp
 ·simp only [gCat] at h ⊢;rw [if_neg (by omega),hb.last _ (by omega)]
 ·simp only [gCat,blk] at h ⊢
  split<;>split
  ·omega
  ·rw [hb.first _ (by omega)];simp
  ·rfl
  ·exact hb.follow _ _ (by omega)
theorem canon_alt {a b:GA} (ha:Canon a) (hb:Canon b):Canon (gAlt a b):=by
 refine ⟨by simp [gAlt,ha.sets,hb.sets],fun i h=>?_,fun i h=>?_,fun i j h=>?_⟩
 ·simp only [gAlt] at h ⊢;rw [if_neg (by omega),hb.first _ (by omega)]
 ·simp only [gAlt] at h ⊢;rw [if_neg (by omega),hb.last _ (by omega)]
 ·simp only [gAlt,blk] at h ⊢
  split<;>split
  ·omega
  ·rfl
  ·rfl
  ·exact hb.follow _ _ (by omega)
theorem canon_again {a:GA} (h:Canon a):Canon (gAgain a):=
 ⟨h.sets,h.first,h.last,fun i j hij=>by
   simp only [gAgain] at hij ⊢
   rw [h.follow i j hij]
   rcases hij with hi | hj
   ·rw [h.last i hi];rfl
   ·rw [h.first j hj];simp⟩
theorem canon_maybe {a:GA} (h:Canon a):Canon (gMaybe a):=⟨h.sets,h.first,h.last,h.follow⟩
def iter (f:GA→GA):Nat→GA→GA
 | 0,z=>z
 | k+1,z=>f (iter f k z)
theorem canon_iter {f:GA→GA} (hf:∀ a,Canon a→Canon (f a)):∀ k {z},Canon z→Canon (iter f k z)
 | 0,_,h=>h
 | k+1,_,h=>hf _ (canon_iter hf k h)
def gRep (a:GA) (lo hi:Int):GA:=
 if hi < 0 then iter (gCat a) (max lo 1 - 1).toNat (if lo=0 then gMaybe (gAgain a) else gAgain a)
 else iter (gCat a) lo.toNat (iter (fun o=>gMaybe (gCat a o)) (hi - lo).toNat gEmpty)
theorem canon_rep {a:GA} (h:Canon a) (lo hi:Int):Canon (gRep a lo hi):=by
 unfold gRep
 split
 ·refine canon_iter (fun b hb=>canon_cat h hb) _ ?_
  split
  ·exact canon_maybe (canon_again h)
  ·exact canon_again h
 ·exact canon_iter (fun b hb=>canon_cat h hb) _ (canon_iter (fun b hb=>canon_maybe (canon_cat h hb)) _ canon_empty)
def gof:api_Rx→GA:=cata fun x l=>
 if x.Kind=2 then gByte x.Set else if x.Kind=3 then l.foldl gCat gEmpty else if x.Kind=4 then l.foldl gAlt gNone
 else if x.Kind=5 then gRep (l.headD gEmpty) x.Lo x.Hi else gEmpty
theorem gof_eq (x:api_Rx):gof x=if x.Kind=2 then gByte x.Set else if x.Kind=3 then x.Kids.foldl (fun o y=>gCat o (gof y)) gEmpty else if x.Kind=4 then x.Kids.foldl (fun o y=>gAlt o (gof y)) gNone
 else if x.Kind=5 then gRep ((x.Kids.map gof).headD gEmpty) x.Lo x.Hi else gEmpty:=by
 unfold gof;rw [cata_eq];simp only [List.foldl_map]
theorem canon_gof:∀ x,Canon (gof x):=by
 refine rxInd fun x ih=>?_
 have key:∀ (f:GA→GA→GA),(∀ a b,Canon a→Canon b→Canon (f a b))→∀ (l:List api_Rx) (z:GA),(∀ y∈l,y∈x.Kids)→Canon z→Canon (l.foldl (fun o y=>f o (gof y)) z):=by
  intro f hf l
  induction l with
  | nil=>intro z _ h;exact h
  | cons y r ih2=>intro z hl h;exact ih2 _ (fun a ha=>hl a (List.mem_cons_of_mem _ ha)) (hf _ _ h (ih y (hl y (List.mem_cons_self ..))))
 rw [gof_eq]
 split
 ·exact canon_byte _
 ·split
  ·exact key gCat (fun a b=>canon_cat) _ _ (fun _ h=>h) canon_empty
  ·split
   ·exact key gAlt (fun a b=>canon_alt) _ _ (fun _ h=>h) canon_none
   ·split
    ·refine canon_rep ?_ _ _
     cases hq:x.Kids with
     | nil=>exact canon_empty
     | cons y r=>exact ih y (by rw [hq];exact List.mem_cons_self ..)
    ·exact canon_empty
end Go.Ev.Pl
set_option linter.unusedSimpArgs false
set_option linter.unusedVariables false
namespace Go.Ev.Pl
open Go Go.Ev
def lst (n:Nat) (p:Nat→Bool) (off:Nat):List Int:=((List.range n).filter p).map fun i=>((i+off:Nat):Int)
theorem lst_mem {n:Nat} {p:Nat→Bool} {off:Nat} {x:Int}:x∈lst n p off↔∃ i,i < n∧p i=true∧x=((i+off:Nat):Int):=by
 simp only [lst,List.mem_map,List.mem_filter,List.mem_range]
 constructor
 ·rintro ⟨i,⟨h1,h2⟩,rfl⟩;exact ⟨i,h1,h2,rfl⟩
 ·rintro ⟨i,h1,h2,rfl⟩;exact ⟨i,⟨h1,h2⟩,rfl⟩
theorem lst_ss (n:Nat) (p:Nat→Bool) (off:Nat):SS (lst n p off):=by
 unfold lst SS
 rw [List.pairwise_map]
 refine List.Pairwise.filter _ ?_
 exact List.pairwise_lt_range.imp fun h=>by omega
theorem lst_len (n:Nat) (p:Nat→Bool) (off:Nat):(lst n p off).length≤n:=by
 unfold lst
 rw [List.length_map]
 exact Nat.le_trans (List.length_filter_le _ _) (by simp)
theorem lst_congr {n:Nat} {p q:Nat→Bool} {off:Nat} (h:∀ i,i < n→p i=q i):lst n p off=lst n q off:=by
 unfold lst
 rw [List.filter_congr fun i hi=>h i (List.mem_range.1 hi)]
theorem lst_left {n m:Nat} {p:Nat→Bool} {off:Nat} {q:Nat→Bool} (h1:∀ i,i < n→q i=p i) (h2:∀ i,n≤i→i < n+m→q i=false):lst n p off=lst (n+m) q off:=by
 refine ss_ext (lst_ss _ _ _) (lst_ss _ _ _) fun x=>?_
 rw [lst_mem,lst_mem]
 constructor
 ·rintro ⟨i,hi,hp,rfl⟩;exact ⟨i,by omega,by rw [h1 i hi];exact hp,rfl⟩
 ·rintro ⟨i,hi,hp,rfl⟩
  rcases Nat.lt_or_ge i n with h | h
  ·exact ⟨i,h,by rw [← h1 i h];exact hp,rfl⟩
  ·rw [h2 i h hi] at hp;cases hp
theorem lst_right {n m:Nat} {p:Nat→Bool} {off:Nat} {q:Nat→Bool} (h1:∀ i,i < n→q i=false) (h2:∀ i,i < m→q (n+i)=p i):lst m p (off+n)=lst (n+m) q off:=by
 refine ss_ext (lst_ss _ _ _) (lst_ss _ _ _) fun x=>?_
 rw [lst_mem,lst_mem]
 constructor
 ·rintro ⟨i,hi,hp,rfl⟩;exact ⟨n+i,by omega,by rw [h2 i hi];exact hp,by omega⟩
 ·rintro ⟨i,hi,hp,rfl⟩
  rcases Nat.lt_or_ge i n with h | h
  ·rw [h1 i h] at hp;cases hp
  ·exact ⟨i - n,by omega,by rw [← h2 _ (by omega),show n+(i - n)=i by omega];exact hp,by omega⟩
theorem lst_both {n m:Nat} {p p':Nat→Bool} {off:Nat} {q:Nat→Bool} {l:List Int} (hs:SS l) (hm:∀ x,x∈l↔x∈lst n p off∨x∈lst m p' (off+n)) (h1:∀ i,i < n→q i=p i) (h2:∀ i,i < m→q (n+i)=p' i):l=lst (n+m) q off:=by
 refine ss_ext hs (lst_ss _ _ _) fun x=>?_
 rw [hm,lst_mem,lst_mem,lst_mem]
 constructor
 ·rintro (⟨i,hi,hp,rfl⟩ | ⟨i,hi,hp,rfl⟩)
  ·exact ⟨i,by omega,by rw [h1 i hi];exact hp,rfl⟩
  ·exact ⟨n+i,by omega,by rw [h2 i hi];exact hp,by omega⟩
 ·rintro ⟨i,hi,hp,rfl⟩
  rcases Nat.lt_or_ge i n with h | h
  ·exact .inl ⟨i,h,by rw [← h1 i h];exact hp,rfl⟩
  ·exact .inr ⟨i - n,by omega,by rw [← h2 _ (by omega),show n+(i - n)=i by omega];exact hp,by omega⟩
def flw (g:GA) (off:Nat):List (List Int):=(List.range g.n).map fun i=>lst g.n (g.follow i) off
theorem flw_len (g:GA) (off:Nat):(flw g off).length=g.n:=by simp [flw]
theorem flw_get (g:GA) (off:Nat) {i:Nat} (h:i < g.n):(flw g off)[i]'(by rw [flw_len];exact h)=lst g.n (g.follow i) off:=by simp [flw]
theorem flw_ext {g:GA} {off:Nat} {l:List (List Int)} (hl:l.length=g.n) (h:∀ (i:Nat) (hi:i < l.length),l[i]=lst g.n (g.follow i) off):l=flw g off:=by
 apply List.ext_getElem
 ·rw [hl,flw_len]
 ·intro i h1 h2
  rw [h i h1,flw_get g off (by rw [hl] at h1;exact h1)]
def leadF (F:List (List Int)) (fr to:List Int):List (List Int):=F.mapIdx fun i f=>if (i:Int)∈fr then join f to else f
theorem leadF_len (F:List (List Int)) (fr to:List Int):(leadF F fr to).length=F.length:=by simp [leadF]
theorem leadF_get (F:List (List Int)) (fr to:List Int) {i:Nat} (h:i < F.length):(leadF F fr to)[i]'(by rw [leadF_len];exact h)=if (i:Int)∈fr then join F[i] to else F[i]:=by simp [leadF]
theorem lead_cat (F0:List (List Int)) (a b:GA):leadF (F0++flw a F0.length++flw b (F0.length+a.n)) (lst a.n a.last F0.length) (lst b.n b.first (F0.length+a.n))=F0++flw (gCat a b) F0.length:=by
 apply List.ext_getElem
 ·rw [leadF_len];simp only [List.length_append,flw_len];simp only [gCat];omega
 ·intro i h1 h2
  rw [leadF_len] at h1
  rw [leadF_get _ _ _ h1]
  simp only [List.length_append,flw_len] at h1
  have hin:(i:Int)∈lst a.n a.last F0.length↔F0.length≤i∧i < F0.length+a.n∧a.last (i - F0.length)=true:=by
   rw [lst_mem]
   constructor
   ·rintro ⟨j,hj,hp,e⟩
    have:i=j+F0.length:=by omega
    subst this
    exact ⟨by omega,by omega,by rw [Nat.add_sub_cancel];exact hp⟩
   ·rintro ⟨q1,q2,q3⟩
    exact ⟨i - F0.length,by omega,q3,by omega⟩
  rcases Nat.lt_or_ge i F0.length with hi | hi
  ·rw [if_neg (by rw [hin];omega),List.getElem_append_left (by simp only [List.length_append,flw_len];omega),List.getElem_append_left hi,List.getElem_append_left hi]
  ·have hr:(F0++flw (gCat a b) F0.length)[i]'h2=lst (a.n+b.n) ((gCat a b).follow (i - F0.length)) F0.length:=by
    rw [List.getElem_append_right hi,flw_get _ _ (by show _ < a.n+b.n;omega)];rfl
   rw [hr]
   rcases Nat.lt_or_ge i (F0.length+a.n) with hi2 | hi2
   ·have hl:(F0++flw a F0.length++flw b (F0.length+a.n))[i]'(by simp only [List.length_append,flw_len];omega)=lst a.n (a.follow (i - F0.length)) F0.length:=by
     rw [List.getElem_append_left (by simp only [List.length_append,flw_len];omega),List.getElem_append_right hi,flw_get _ _ (by omega)]
    rw [hl]
    by_cases hla:a.last (i - F0.length)=true
    ·rw [if_pos (hin.2 ⟨hi,hi2,hla⟩)]
     obtain ⟨j1,j2⟩:=join_spec (lst a.n (a.follow (i - F0.length)) F0.length) (lst b.n b.first (F0.length+a.n))
     refine lst_both j1 j2 (fun j hj=>?_) (fun j hj=>?_)
     ·simp only [gCat,blk];rw [if_pos (by omega),if_pos hj]
     ·simp only [gCat,blk];rw [if_pos (by omega),if_neg (by omega),hla,Nat.add_sub_cancel_left];rfl
    ·rw [if_neg (fun h=>hla (hin.1 h).2.2)]
     have hla:a.last (i - F0.length)=false:=by simpa using hla
     refine lst_left (fun j hj=>?_) (fun j h1 h2=>?_)
     ·simp only [gCat,blk];rw [if_pos (by omega),if_pos hj]
     ·simp only [gCat,blk];rw [if_pos (by omega),if_neg (by omega),hla];rfl
   ·rw [if_neg (by rw [hin];omega)]
    have hl:(F0++flw a F0.length++flw b (F0.length+a.n))[i]'(by simp only [List.length_append,flw_len];omega)=lst b.n (b.follow (i - (F0.length+a.n))) (F0.length+a.n):=by
     rw [List.getElem_append_right (by simp only [List.length_append,flw_len];omega)]
     simp only [List.length_append,flw_len]
     rw [flw_get _ _ (by omega)]
    rw [hl]
    refine lst_right (fun j hj=>?_) (fun j hj=>?_)
    ·simp only [gCat,blk];rw [if_neg (by omega),if_pos hj]
    ·simp only [gCat,blk];rw [if_neg (by omega),if_neg (by omega),show i - F0.length - a.n=i - (F0.length+a.n) by omega,Nat.add_sub_cancel_left]
theorem lead_again (F0:List (List Int)) (a:GA):leadF (F0++flw a F0.length) (lst a.n a.last F0.length) (lst a.n a.first F0.length)=F0++flw (gAgain a) F0.length:=by
 apply List.ext_getElem
 ·rw [leadF_len];simp only [List.length_append,flw_len];rfl
 ·intro i h1 h2
  rw [leadF_len] at h1
  rw [leadF_get _ _ _ h1]
  simp only [List.length_append,flw_len] at h1
  have hin:(i:Int)∈lst a.n a.last F0.length↔F0.length≤i∧i < F0.length+a.n∧a.last (i - F0.length)=true:=by
   rw [lst_mem]
   constructor
   ·rintro ⟨j,hj,hp,e⟩
    have:i=j+F0.length:=by omega
    subst this
    exact ⟨by omega,by omega,by rw [Nat.add_sub_cancel];exact hp⟩
   ·rintro ⟨q1,q2,q3⟩
    exact ⟨i - F0.length,by omega,q3,by omega⟩
  rcases Nat.lt_or_ge i F0.length with hi | hi
  ·rw [if_neg (by rw [hin];omega),List.getElem_append_left hi,List.getElem_append_left hi]
  ·have hr:(F0++flw (gAgain a) F0.length)[i]'h2=lst a.n ((gAgain a).follow (i - F0.length)) F0.length:=by
    rw [List.getElem_append_right hi,flw_get _ _ (by show _ < a.n;omega)];rfl
   have hl:(F0++flw a F0.length)[i]'(by simp only [List.length_append,flw_len];omega)=lst a.n (a.follow (i - F0.length)) F0.length:=by
    rw [List.getElem_append_right hi,flw_get _ _ (by omega)]
   rw [hr,hl]
   by_cases hla:a.last (i - F0.length)=true
   ·rw [if_pos (hin.2 ⟨hi,by omega,hla⟩)]
    obtain ⟨j1,j2⟩:=join_spec (lst a.n (a.follow (i - F0.length)) F0.length) (lst a.n a.first F0.length)
    refine ss_ext j1 (lst_ss _ _ _) fun x=>?_
    rw [j2,lst_mem,lst_mem,lst_mem]
    simp only [gAgain,hla,Bool.true_and,Bool.or_eq_true]
    constructor
    ·rintro (⟨j,q1,q2,rfl⟩ | ⟨j,q1,q2,rfl⟩)
     ·exact ⟨j,q1,.inl q2,rfl⟩
     ·exact ⟨j,q1,.inr q2,rfl⟩
    ·rintro ⟨j,q1,q2 | q2,rfl⟩
     ·exact .inl ⟨j,q1,q2,rfl⟩
     ·exact .inr ⟨j,q1,q2,rfl⟩
   ·rw [if_neg (fun h=>hla (hin.1 h).2.2)]
    have hla:a.last (i - F0.length)=false:=by simpa using hla
    exact lst_congr fun j hj=>by simp [gAgain,hla]
theorem flw_alt (a b:GA) (off:Nat):flw a off++flw b (off+a.n)=flw (gAlt a b) off:=by
 refine flw_ext (by simp [flw_len,gAlt]) fun i hi=>?_
 simp only [List.length_append,flw_len] at hi
 show _=lst (a.n+b.n) _ off
 rcases Nat.lt_or_ge i a.n with h | h
 ·rw [List.getElem_append_left (by rw [flw_len];exact h),flw_get _ _ h]
  refine lst_left (fun j hj=>?_) (fun j h1 h2=>?_)
  ·simp only [gAlt,blk];rw [if_pos h,if_pos hj]
  ·simp only [gAlt,blk];rw [if_pos h,if_neg (by omega)]
 ·rw [List.getElem_append_right (by rw [flw_len];exact h)]
  simp only [flw_len]
  rw [flw_get _ _ (by omega)]
  refine lst_right (fun j hj=>?_) (fun j hj=>?_)
  ·simp only [gAlt,blk];rw [if_neg (by omega),if_pos hj]
  ·simp only [gAlt,blk];rw [if_neg (by omega),if_neg (by omega),Nat.add_sub_cancel_left]
def pc (g:GA) (off:Nat):place_piece:=⟨lst g.n g.first off,lst g.n g.last off,g.null⟩
theorem cat_first (a b:GA) (off:Nat):(if a.null=true then join (lst a.n a.first off) (lst b.n b.first (off+a.n)) else lst a.n a.first off)=lst (a.n+b.n) (gCat a b).first off:=by
 split
 ·rename_i h
  obtain ⟨j1,j2⟩:=join_spec (lst a.n a.first off) (lst b.n b.first (off+a.n))
  exact lst_both j1 j2 (fun j hj=>by simp only [gCat];rw [if_pos hj]) (fun j hj=>by simp only [gCat];rw [if_neg (by omega),h,Nat.add_sub_cancel_left];rfl)
 ·rename_i h
  have h:a.null=false:=by simpa using h
  exact lst_left (fun j hj=>by simp only [gCat];rw [if_pos hj]) (fun j h1 h2=>by simp only [gCat];rw [if_neg (by omega),h];rfl)
theorem cat_last (a b:GA) (off:Nat):(if b.null=true then join (lst a.n a.last off) (lst b.n b.last (off+a.n)) else lst b.n b.last (off+a.n))=lst (a.n+b.n) (gCat a b).last off:=by
 split
 ·rename_i h
  obtain ⟨j1,j2⟩:=join_spec (lst a.n a.last off) (lst b.n b.last (off+a.n))
  exact lst_both j1 j2 (fun j hj=>by simp only [gCat];rw [if_pos hj,h];rfl) (fun j hj=>by simp only [gCat];rw [if_neg (by omega),Nat.add_sub_cancel_left])
 ·rename_i h
  have h:b.null=false:=by simpa using h
  exact lst_right (fun j hj=>by simp only [gCat];rw [if_pos hj,h];rfl) (fun j hj=>by simp only [gCat];rw [if_neg (by omega),Nat.add_sub_cancel_left])
theorem alt_first (a b:GA) (off:Nat):join (lst a.n a.first off) (lst b.n b.first (off+a.n))=lst (a.n+b.n) (gAlt a b).first off:=by
 obtain ⟨j1,j2⟩:=join_spec (lst a.n a.first off) (lst b.n b.first (off+a.n))
 exact lst_both j1 j2 (fun j hj=>by simp only [gAlt];rw [if_pos hj]) (fun j hj=>by simp only [gAlt];rw [if_neg (by omega),Nat.add_sub_cancel_left])
theorem alt_last (a b:GA) (off:Nat):join (lst a.n a.last off) (lst b.n b.last (off+a.n))=lst (a.n+b.n) (gAlt a b).last off:=by
 obtain ⟨j1,j2⟩:=join_spec (lst a.n a.last off) (lst b.n b.last (off+a.n))
 exact lst_both j1 j2 (fun j hj=>by simp only [gAlt];rw [if_pos hj]) (fun j hj=>by simp only [gAlt];rw [if_neg (by omega),Nat.add_sub_cancel_left])
end Go.Ev.Pl
set_option linter.unusedSimpArgs false
set_option linter.unusedVariables false
namespace Go.Ev.Pl
open Go Go.Ev
theorem set_eq {α:Type} {l:List α} {i:Nat} {x:α} {m:List α} (hl:m.length=l.length) (h1:∀ (j:Nat) (h:j < l.length),j≠i→m[j]'(by omega)=l[j]) (h2:∀ h:i < l.length,m[i]'(by omega)=x):l.set i x=m:=by
 apply List.ext_getElem
 ·simp [hl]
 ·intro j a b
  rw [List.getElem_set]
  split
  ·rename_i e;subst e;exact (h2 (by simpa using a)).symm
  ·rename_i e;exact (h1 j (by simpa using a) (fun h=>e h.symm)).symm
theorem flatten_take_succ {α:Type} {L:List (List α)} {i:Nat} (h:i < L.length):(L.take (i+1)).flatten=(L.take i).flatten++L[i]:=by
 rw [List.take_succ_eq_append_getElem h,List.flatten_append];simp
theorem flatten_take_le {α:Type} (L:List (List α)) (i:Nat):(L.take i).flatten.length≤L.flatten.length:=by
 conv=>rhs;rw [← List.take_append_drop i L]
 rw [List.flatten_append,List.length_append];omega
theorem concat_ok (L:List (List Int)) (hL:L.length < 1099511627776) (hT:L.flatten.length < 1000000000):C_slices_Concat__int_int L L.flatten:=by
 refine W_slices_Concat__int_int L _ ⟨fun s t=>∃ i:Nat,t=i∧i≤L.length∧s=(L.take i).flatten.length,fun s t=>(L.length - t).toNat,⟨0,rfl,by omega,by simp⟩,?_⟩
 rintro s t ⟨i,rfl,hi,rfl⟩
 have hb:=flatten_take_le L i
 refine ⟨fun ht=>?_,fun ht=>?_⟩
 ·have ht:i < L.length:=by simpa using ht
  have hs:=congrArg List.length (flatten_take_succ ht)
  rw [List.length_append] at hs
  have hb2:=flatten_take_le L (i+1)
  have hg:gd L (i:Int)=L[i]:=gd_nat ht
  have hw1:w64 (((L.take i).flatten.length:Int)+(gd L (i:Int)).length)=((L.take (i+1)).flatten.length:Int):=by
   rw [hg,hs];exact (w64_id (by omega) (by omega)).trans (by omega)
  have hw2:w64 ((i:Int)+1)=((i+1:Nat):Int):=w64_id (by omega) (by omega)
  rw [hw1,hw2]
  exact ⟨True,fun _=>⟨⟨i+1,rfl,by omega,rfl⟩,by dsimp only;omega⟩,by omega,by omega,fun h=>absurd (of_decide_eq_true h) (by omega),fun _=>trivial⟩
 ·refine ⟨⟨by omega,by omega⟩,fun l t=>∃ i:Nat,t=i∧i≤L.length∧l=(L.take i).flatten,fun l t=>(L.length - t).toNat,⟨0,rfl,by omega,rfl⟩,?_⟩
  rintro l t ⟨j,rfl,hj,rfl⟩
  have hb3:=flatten_take_le L j
  refine ⟨fun ht=>?_,fun ht=>?_⟩
  ·have ht:j < L.length:=by simpa using ht
   have hg:gd L (j:Int)=L[j]:=gd_nat ht
   have hs:=flatten_take_succ ht
   have hs2:=congrArg List.length hs
   rw [List.length_append] at hs2
   have hb2:=flatten_take_le L (j+1)
   have hw2:w64 ((j:Int)+1)=((j+1:Nat):Int):=w64_id (by omega) (by omega)
   rw [hw2,hg]
   exact ⟨by omega,by omega,by omega,⟨j+1,rfl,by omega,hs.symm⟩,by dsimp only;omega⟩
  ·have:j=L.length:=by have:¬ j < L.length:=by simpa using ht
                       omega
   subst this
   rw [List.take_of_length_le (Nat.le_refl _)]
theorem join_ok (a b:List Int) (ha:a.length < 100000000) (hb:b.length < 100000000):C_place_Join_int a b (join a b):=by
 have h:=concat_ok [a,b] (by simp) (by simp;omega)
 have e:[a,b].flatten=a++b:=by simp
 rw [e] at h
 exact W_place_Join_int a b _ ⟨_,h,by simp;omega,sort_len _,by rw [sort_len];simp;omega,rfl⟩
theorem lead_ok (fr to:List Int) (b:place_builder) (hfr:SS fr) (hin:∀ x∈fr,0≤x∧x < b.follow.length) (hto:to.length < 10000000) (hF:∀ f∈b.follow,f.length < 10000000) (hlen:fr.length < 10000000):C_place_builder_lead fr to b { sets:=b.sets,follow:=leadF b.follow fr to }:=by
 refine W_place_builder_lead fr to b _ ⟨fun F t=>∃ i:Nat,t=i∧i≤fr.length∧F=leadF b.follow (fr.take i) to,fun F t=>(fr.length - t).toNat,⟨0,rfl,by omega,by simp [leadF];exact (List.ext_getElem (by simp) (fun j h1 h2=>by simp))⟩,?_⟩
 rintro F t ⟨i,rfl,hi,rfl⟩
 refine ⟨fun ht=>?_,fun ht=>?_⟩
 ·have ht:i < fr.length:=by simpa using ht
  have hg:gd fr (i:Int)=fr[i]:=gd_nat ht
  rw [hg]
  obtain ⟨q0,q1⟩:=hin _ (List.getElem_mem ht)
  obtain ⟨e,he⟩:∃ e:Nat,fr[i]=e:=⟨fr[i].toNat,by omega⟩
  rw [he] at q1 ⊢
  have he2:e < b.follow.length:=by omega
  have hl:(leadF b.follow (fr.take i) to).length=b.follow.length:=leadF_len _ _ _
  have hnot:∀ j:Nat,(hj:j < b.follow.length)→j=e→¬ ((j:Int)∈fr.take i):=by
   rintro j hj rfl hm
   obtain ⟨k,hk,hk2⟩:=List.mem_iff_getElem.1 hm
   simp only [List.length_take] at hk
   rw [List.getElem_take] at hk2
   have:=List.pairwise_iff_getElem.1 hfr k i (by omega) ht (by omega)
   omega
  have hge:gd (leadF b.follow (fr.take i) to) (e:Int)=b.follow[e]:=by
   rw [gd_nat (by rw [hl];exact he2),leadF_get _ _ _ he2,if_neg (hnot e he2 rfl)]
  have hw2:w64 ((i:Int)+1)=((i+1:Nat):Int):=w64_id (by omega) (by omega)
  refine ⟨by omega,by omega,by omega,by rw [hl];omega,by rw [hl];omega,join b.follow[e] to,?_,by omega,by rw [hl];omega,by rw [hl];omega,?_⟩
  ·rw [hge];exact join_ok _ _ (by have:=hF _ (List.getElem_mem he2);omega) (by omega)
  ·rw [hw2]
   refine ⟨⟨i+1,rfl,by omega,?_⟩,by dsimp only;omega⟩
   show List.set _ e _=_
   refine set_eq (by rw [leadF_len,leadF_len]) (fun j hj hne=>?_) (fun hj=>?_)
   ·rw [hl] at hj
    rw [leadF_get _ _ _ hj,leadF_get _ _ _ hj,List.take_succ_eq_append_getElem ht,he]
    have:((j:Int)∈fr.take i++[(e:Int)])↔(j:Int)∈fr.take i:=by
     rw [List.mem_append,List.mem_singleton]
     constructor
     ·rintro (h | h)
      ·exact h
      ·exact absurd (by omega) hne
     ·exact .inl
    simp only [this]
   ·rw [leadF_get _ _ _ he2,List.take_succ_eq_append_getElem ht,he,if_pos (by simp)]
 ·have:i=fr.length:=by have:¬ i < fr.length:=by simpa using ht
                       omega
  subst this
  rw [List.take_of_length_le (Nat.le_refl _)]
theorem flw_small (g:GA) (off:Nat) (h:g.n < 10000000):∀ f∈flw g off,f.length < 10000000:=by
 intro f hf
 simp only [flw,List.mem_map,List.mem_range] at hf
 obtain ⟨i,_,rfl⟩:=hf
 have:=lst_len g.n (g.follow i) off
 omega
theorem cat_ok (F0:List (List Int)) (S:List arr4_uint64) (a b:GA) (hF:∀ f∈F0,f.length < 10000000) (hab:a.n+b.n < 1000000) (hF2:F0.length < 1000000) :
 C_place_builder_cat (pc a F0.length) (pc b (F0.length+a.n)) { sets:=S,follow:=F0++flw a F0.length++flw b (F0.length+a.n) } (pc (gCat a b) F0.length) { sets:=S,follow:=F0++flw (gCat a b) F0.length }:=by
 have hla:=lst_len a.n a.last F0.length
 have hlb:=lst_len b.n b.first (F0.length+a.n)
 have hlb2:=lst_len b.n b.last (F0.length+a.n)
 have hla2:=lst_len a.n a.first F0.length
 have hlead:=lead_ok (lst a.n a.last F0.length) (lst b.n b.first (F0.length+a.n)) { sets:=S,follow:=F0++flw a F0.length++flw b (F0.length+a.n) } (lst_ss _ _ _) (fun x hx=>by
  obtain ⟨i,hi,_,rfl⟩:=lst_mem.1 hx
  simp only [List.length_append,flw_len];omega) (by omega) (fun f hf=>by
  rcases List.mem_append.1 hf with hf | hf
  ·rcases List.mem_append.1 hf with hf | hf
   ·exact hF f hf
   ·exact flw_small a _ (by omega) f hf
  ·exact flw_small b _ (by omega) f hf) (by omega)
 simp only [lead_cat] at hlead
 refine W_place_builder_cat _ _ _ _ _ ⟨_,hlead,fun l=>l=lst (a.n+b.n) (gCat a b).first F0.length,?_,fun hn=>⟨_,join_ok _ _ (by show (lst _ _ _).length < _;omega) (by show (lst _ _ _).length < _;omega),?_⟩,fun hn=>?_⟩
 ·rintro l rfl
  refine ⟨fun l=>l=lst (a.n+b.n) (gCat a b).last F0.length,?_,fun hn=>⟨_,join_ok _ _ (by show (lst _ _ _).length < _;omega) (by show (lst _ _ _).length < _;omega),?_⟩,fun hn=>?_⟩
  ·rintro l rfl;exact ⟨rfl,rfl⟩
  ·have:=cat_last a b F0.length
   rw [if_pos (show b.null=true from hn)] at this;exact this
  ·have:=cat_last a b F0.length
   rw [if_neg (by show ¬ (b.null=true);have:b.null=false:=hn;simp [this])] at this;exact this
 ·have:=cat_first a b F0.length
  rw [if_pos (show a.null=true from hn)] at this;exact this
 ·have:=cat_first a b F0.length
  rw [if_neg (by show ¬ (a.null=true);have:a.null=false:=hn;simp [this])] at this;exact this
end Go.Ev.Pl
set_option linter.unusedSimpArgs false
set_option linter.unusedVariables false
namespace Go.Ev.Pl
open Go Go.Ev
def Rgt (x:api_Rx):Prop:=∃ d,rgt x d=true
theorem rgt_own {x:api_Rx} (h:Rgt x):ownB x=true∧∀ k∈x.Kids,Rgt k:=by
 obtain ⟨d,h⟩:=h
 rw [rgt_eq] at h
 simp only [Bool.and_eq_true,List.all_eq_true] at h
 exact ⟨h.1.2,fun k hk=>⟨d - 1,(h.2 k hk).2⟩⟩
theorem own_rep {x:api_Rx} (h:ownB x=true) (h5:x.Kind=5):(∃ k,x.Kids=[k])∧0≤x.Lo∧x.Lo≤20∧(x.Hi = -1∨1≤x.Hi∧x.Lo≤x.Hi∧x.Hi≤20):=by
 simp only [ownB,if_pos h5,timesB,Bool.and_eq_true,decide_eq_true_eq,Bool.or_eq_true,beq_iff_eq] at h
 obtain ⟨_,h1,h2,h3,h4⟩:=h
 refine ⟨?_,h2,h3,?_⟩
 ·match hq:x.Kids,h1 with
  | [k],_=>exact ⟨k,rfl⟩
 ·rcases h4 with h4 | ⟨h4,h5⟩
  ·exact .inl h4
  ·exact .inr (by omega)
theorem own_kids {x:api_Rx} (h:ownB x=true) (h34:x.Kind=3∨x.Kind=4):2≤x.Kids.length:=by
 simp only [ownB] at h
 rw [if_neg (by omega),if_neg (by omega),if_neg (by omega),if_pos h34] at h
 simp only [Bool.and_eq_true,decide_eq_true_eq] at h
 exact h.2.2
theorem own_kind {x:api_Rx} (h:ownB x=true):x.Kind=1∨x.Kind=2∨x.Kind=3∨x.Kind=4∨x.Kind=5:=by
 simp only [ownB] at h
 split at h
 ·omega
 ·split at h
  ·omega
  ·split at h
   ·omega
   ·split at h
    ·omega
    ·cases h
theorem iter_n {f:GA→GA} {a:GA} (hf:∀ o,(f o).n=a.n+o.n):∀ k z,(iter f k z).n=k * a.n+z.n
 | 0,z=>by simp [iter]
 | k+1,z=>by rw [iter,hf,iter_n hf k,Nat.succ_mul];omega
def cpS (a:GA) (k:Nat):List arr4_uint64:=(List.replicate k a.sets).flatten
theorem iter_sets {f:GA→GA} {a:GA} (hf:∀ o,(f o).sets=a.sets++o.sets):∀ k z,(iter f k z).sets=cpS a k++z.sets
 | 0,z=>by simp [iter,cpS]
 | k+1,z=>by rw [iter,hf,iter_sets hf k];simp [cpS,List.replicate_succ]
theorem iter_null (a:GA):∀ k z,(iter (gCat a) k z).null=(z.null && (decide (k=0) || a.null))
 | 0,z=>by simp [iter]
 | k+1,z=>by
   rw [iter]
   show (a.null && (iter (gCat a) k z).null)=_
   rw [iter_null a k z]
   cases a.null<;>cases z.null<;>simp
theorem rep_n (a:GA) {lo hi:Int} (h1:0≤lo) (h2:hi = -1∨1≤hi∧lo≤hi):(gRep a lo hi).n=(max 1 (max lo hi)).toNat * a.n:=by
 unfold gRep
 split
 ·rw [iter_n (f:=gCat a) (a:=a) (fun _=>rfl)]
  have:(if lo=0 then gMaybe (gAgain a) else gAgain a).n=a.n:=by split<;>rfl
  rw [this,← Nat.succ_mul]
  congr 1
  omega
 ·rw [iter_n (f:=gCat a) (a:=a) (fun _=>rfl),iter_n (f:=fun o=>gMaybe (gCat a o)) (a:=a) (fun _=>rfl)]
  show _+(_+0)=_
  rw [Nat.add_zero,← Nat.add_mul]
  congr 1
  omega
theorem rep_sets (a:GA) {lo hi:Int} (h1:0≤lo) (h2:hi = -1∨1≤hi∧lo≤hi):(gRep a lo hi).sets=cpS a (max 1 (max lo hi)).toNat:=by
 have key:∀ j k,cpS a j++cpS a k=cpS a (j+k):=fun j k=>by
  simp only [cpS];rw [← List.flatten_append,List.replicate_append_replicate]
 unfold gRep
 split
 ·rw [iter_sets (f:=gCat a) (a:=a) (fun _=>rfl)]
  have:(if lo=0 then gMaybe (gAgain a) else gAgain a).sets=cpS a 1:=by split<;>simp [cpS,gMaybe,gAgain]
  rw [this,key]
  congr 1
  omega
 ·rw [iter_sets (f:=gCat a) (a:=a) (fun _=>rfl),iter_sets (f:=fun o=>gMaybe (gCat a o)) (a:=a) (fun _=>rfl)]
  show _++(_++[])=_
  rw [List.append_nil,key]
  congr 1
  omega
theorem rep_null (a:GA) {lo hi:Int} (h1:0≤lo) (h2:hi = -1∨1≤hi∧lo≤hi):(gRep a lo hi).null=(decide (lo≤0) || a.null):=by
 unfold gRep
 split
 ·rw [iter_null]
  by_cases h:lo=0
  ·subst h;simp [gMaybe,gAgain];left;rfl
  ·have:¬ lo≤0:=by omega
   simp only [if_neg h,gAgain,this,decide_false,Bool.false_or]
   cases a.null<;>simp
 ·rw [iter_null]
  have hin:∀ k,(iter (fun o=>gMaybe (gCat a o)) k gEmpty).null=true:=by
   intro k;cases k<;>rfl
  rw [hin,Bool.true_and]
  congr 1
  simp only [decide_eq_decide];omega
theorem foldl_n {f:GA→GA→GA} (hf:∀ a b,(f a b).n=a.n+b.n):∀ (l:List api_Rx) (z:GA),(l.foldl (fun o y=>f o (gof y)) z).n=z.n+(l.map fun y=>(gof y).n).sum
 | [],z=>by simp
 | y :: r,z=>by rw [List.foldl_cons,foldl_n hf r,hf];simp;omega
theorem gof_n:∀ x,Rgt x→(gof x).n=sizeN x:=by
 refine rxInd fun x ih hr=>?_
 obtain ⟨ho,hk⟩:=rgt_own hr
 have hkn:(x.Kids.map fun y=>(gof y).n)=x.Kids.map sizeN:=List.map_congr_left fun y hy=>ih y hy (hk y hy)
 rw [gof_eq,sizeN_eq]
 rcases own_kind ho with h | h | h | h | h
 ·simp [h,gEmpty]
 ·simp [h,gByte]
 ·simp only [h]
  simp only [show ¬ ((3:Int)=2) by omega,if_false,if_true,show (3:Int)≤3∧(3:Int)≤5 from ⟨by omega,by omega⟩,show ¬ ((3:Int)=5) by omega]
  rw [foldl_n (f:=gCat) (fun _ _=>rfl),hkn]
  show 0+_=_;simp
 ·simp only [h]
  simp only [show ¬ ((4:Int)=2) by omega,show ¬ ((4:Int)=3) by omega,if_false,if_true,show (3:Int)≤4∧(4:Int)≤5 from ⟨by omega,by omega⟩,show ¬ ((4:Int)=5) by omega]
  rw [foldl_n (f:=gAlt) (fun _ _=>rfl),hkn]
  show 0+_=_;simp
 ·obtain ⟨⟨k,hq⟩,h1,h2,h3⟩:=own_rep ho h
  simp only [h]
  simp only [show ¬ ((5:Int)=2) by omega,show ¬ ((5:Int)=3) by omega,show ¬ ((5:Int)=4) by omega,if_false,if_true,show (3:Int)≤5∧(5:Int)≤5 from ⟨by omega,by omega⟩]
  rw [hq]
  simp only [List.map_cons,List.map_nil,List.headD_cons,List.sum_cons,List.sum_nil,Nat.add_zero]
  rw [rep_n _ h1 (by omega),ih k (by rw [hq];simp) (hk k (by rw [hq];simp)),Nat.mul_comm]
  congr 1
  simp only [timesN];omega
theorem foldl_null_cat:∀ (l:List api_Rx) (z:GA),(l.foldl (fun o y=>gCat o (gof y)) z).null=(z.null && l.all fun y=>(gof y).null)
 | [],z=>by simp
 | y :: r,z=>by rw [List.foldl_cons,foldl_null_cat r];simp [gCat,Bool.and_assoc]
theorem foldl_null_alt:∀ (l:List api_Rx) (z:GA),(l.foldl (fun o y=>gAlt o (gof y)) z).null=(z.null || l.any fun y=>(gof y).null)
 | [],z=>by simp
 | y :: r,z=>by rw [List.foldl_cons,foldl_null_alt r];simp [gAlt,Bool.or_assoc]
theorem all_congr' {l:List api_Rx} {p q:api_Rx→Bool} (h:∀ y∈l,p y=q y):l.all p=l.all q:=by
 induction l with
 | nil=>rfl
 | cons y r ih=>simp only [List.all_cons];rw [h y (List.mem_cons_self ..),ih fun z hz=>h z (List.mem_cons_of_mem _ hz)]
theorem any_congr' {l:List api_Rx} {p q:api_Rx→Bool} (h:∀ y∈l,p y=q y):l.any p=l.any q:=by
 induction l with
 | nil=>rfl
 | cons y r ih=>simp only [List.any_cons];rw [h y (List.mem_cons_self ..),ih fun z hz=>h z (List.mem_cons_of_mem _ hz)]
theorem gof_null:∀ x,Rgt x→(gof x).null=nullB x:=by
 refine rxInd fun x ih hr=>?_
 obtain ⟨ho,hk⟩:=rgt_own hr
 rw [gof_eq,nullB_eq]
 rcases own_kind ho with h | h | h | h | h
 ·simp [h,gEmpty]
 ·simp [h,gByte]
 ·simp only [h]
  simp only [show ¬ ((3:Int)=2) by omega,show ¬ ((3:Int)=1) by omega,if_false,if_true]
  rw [foldl_null_cat,all_congr' fun y hy=>ih y hy (hk y hy)];rfl
 ·simp only [h]
  simp only [show ¬ ((4:Int)=2) by omega,show ¬ ((4:Int)=3) by omega,show ¬ ((4:Int)=1) by omega,if_false,if_true]
  rw [foldl_null_alt,any_congr' fun y hy=>ih y hy (hk y hy)];rfl
 ·obtain ⟨⟨k,hq⟩,h1,h2,h3⟩:=own_rep ho h
  simp only [h]
  simp only [show ¬ ((5:Int)=2) by omega,show ¬ ((5:Int)=3) by omega,show ¬ ((5:Int)=4) by omega,show ¬ ((5:Int)=1) by omega,if_false,if_true]
  rw [hq]
  simp only [List.map_cons,List.map_nil,List.headD_cons,List.all_cons,List.all_nil,Bool.and_true]
  rw [rep_null _ h1 (by omega),ih k (by rw [hq];simp) (hk k (by rw [hq];simp))]
theorem zero_null:∀ x,Rgt x→sizeN x=0→nullB x=true:=by
 refine rxInd fun x ih hr h0=>?_
 obtain ⟨ho,hk⟩:=rgt_own hr
 rw [sizeN_eq] at h0
 rw [nullB_eq]
 have hsum:(x.Kids.map sizeN).sum=0→∀ y∈x.Kids,nullB y=true:=fun h y hy=>ih y hy (hk y hy) (by
  have:=List.sum_eq_zero_iff_forall_eq_nat.1 h (sizeN y) (List.mem_map.2 ⟨y,hy,rfl⟩);exact this)
 rcases own_kind ho with h | h | h | h | h
 ·simp [h]
 ·simp [h] at h0
 ·simp only [h] at h0 ⊢
  simp at h0
  simp only [show ¬ ((3:Int)=1) by omega,if_false,if_true,List.all_eq_true]
  exact hsum h0
 ·simp only [h] at h0 ⊢
  simp at h0
  have h2:=own_kids ho (.inr h)
  simp only [show ¬ ((4:Int)=1) by omega,show ¬ ((4:Int)=3) by omega,if_false,if_true]
  have hm:x.Kids[0]'(by omega)∈x.Kids:=List.getElem_mem _
  exact List.any_eq_true.2 ⟨_,hm,hsum h0 _ hm⟩
 ·obtain ⟨⟨k,hq⟩,h1,h2,h3⟩:=own_rep ho h
  simp only [h] at h0 ⊢
  simp only [show ¬ ((5:Int)=2) by omega,if_false,if_true,show (3:Int)≤5∧(5:Int)≤5 from ⟨by omega,by omega⟩] at h0
  have ht:1≤timesN x:=by simp only [timesN];omega
  have hs:(x.Kids.map sizeN).sum=0:=by
   rcases Nat.mul_eq_zero.1 h0 with h | h
   ·exact h
   ·omega
  simp only [show ¬ ((5:Int)=3) by omega,show ¬ ((5:Int)=4) by omega,show ¬ ((5:Int)=1) by omega,if_false,if_true]
  have:x.Kids.all nullB=true:=List.all_eq_true.2 (hsum hs)
  rw [this];simp
theorem gof_zero {x:api_Rx} (hr:Rgt x) (h0:sizeN x=0):gof x=gEmpty:=
 canon_zero (canon_gof x) ((gof_n x hr).trans h0) ((gof_null x hr).trans (zero_null x hr h0))
end Go.Ev.Pl
set_option linter.unusedSimpArgs false
set_option linter.unusedVariables false
namespace Go.Ev.Pl
open Go Go.Ev
def hF (h:Nat→GA) (m n:Nat):Nat→List (List Int)
 | 0=>[]
 | N+1=>hF h m n N++flw (h N) (m+N * n)
theorem hF_len {h:Nat→GA} {m n:Nat} (hn:∀ j,(h j).n=n):∀ N,(hF h m n N).length=N * n
 | 0=>by simp [hF]
 | N+1=>by rw [hF,List.length_append,hF_len hn N,flw_len,hn,Nat.succ_mul]
theorem hF_congr {h h':Nat→GA} {m n:Nat}:∀ N,(∀ j,j < N→h j=h' j)→hF h m n N=hF h' m n N
 | 0,_=>rfl
 | N+1,e=>by rw [hF,hF,hF_congr N (fun j hj=>e j (by omega)),e N (by omega)]
theorem hF_small {h:Nat→GA} {m n:Nat} (hs:∀ j,(h j).n < 10000000):∀ N,∀ f∈hF h m n N,f.length < 10000000
 | 0,f,hf=>by simp [hF] at hf
 | N+1,f,hf=>by
   rw [hF,List.mem_append] at hf
   rcases hf with hf | hf
   ·exact hF_small hs N f hf
   ·exact flw_small _ _ (hs N) f hf
theorem cpS_succ (a:GA) (k:Nat):cpS a (k+1)=cpS a k++a.sets:=by
 simp only [cpS,List.replicate_succ',List.flatten_append];simp
structure Room (F0:List (List Int)) (S:List arr4_uint64) (n:Nat):Prop where
 same:S.length=F0.length
 small:∀ f∈F0,f.length < 10000000
 room:F0.length+n < 1000000
def PieceOk (x:api_Rx):Prop:=∀ F0 S,Room F0 S (gof x).n→C_place_builder_piece x { sets:=S,follow:=F0 } (pc (gof x) F0.length) { sets:=S++(gof x).sets,follow:=F0++flw (gof x) F0.length }
theorem copies_ok {k:api_Rx} (hp:PieceOk k) (N:Nat) (hN:N≤1000) (F0:List (List Int)) (S:List arr4_uint64) (hr:Room F0 S (N * (gof k).n)) :
 C_place_builder_copies k N { sets:=S,follow:=F0 } ((List.range N).map fun i=>pc (gof k) (F0.length+i * (gof k).n)) { sets:=S++cpS (gof k) N,follow:=F0++hF (fun _=>gof k) F0.length (gof k).n N }:=by
 have hc:=canon_gof k
 refine W_place_builder_copies k N _ _ _ ⟨fun s f o t=>∃ i:Nat,t=i∧i≤N∧s=S++cpS (gof k) i∧f=F0++hF (fun _=>gof k) F0.length (gof k).n i∧o=(List.range i).map fun i=>pc (gof k) (F0.length+i * (gof k).n),
  fun _ _ _ t=>(N - t).toNat,⟨0,rfl,by omega,by simp [cpS],by simp [hF],rfl⟩,?_⟩
 rintro s f o t ⟨i,rfl,hi,rfl,rfl,rfl⟩
 refine ⟨fun ht=>?_,fun ht=>?_⟩
 ·have ht:i < N:=by simpa using ht
  have hle:(i+1) * (gof k).n≤N * (gof k).n:=Nat.mul_le_mul_right _ ht
  rw [Nat.add_mul,Nat.one_mul] at hle
  have hlen:(F0++hF (fun _=>gof k) F0.length (gof k).n i).length=F0.length+i * (gof k).n:=by rw [List.length_append,hF_len fun _=>rfl]
  have hroom:=hr.room
  have hsl:∀ j,(cpS (gof k) j).length=j * (gof k).n:=fun j=>by simp [cpS,hc.sets]
  have:=hp (F0++hF (fun _=>gof k) F0.length (gof k).n i) (S++cpS (gof k) i) ⟨by rw [hlen,List.length_append,hr.same,hsl],fun f hf=>by
   rcases List.mem_append.1 hf with hf | hf
   ·exact hr.small f hf
   ·exact hF_small (fun _=>by omega) i f hf,by rw [hlen];omega⟩
  rw [hlen,List.append_assoc,List.append_assoc,← cpS_succ] at this
  have hw2:w64 ((i:Int)+1)=((i+1:Nat):Int):=w64_id (by omega) (by omega)
  refine ⟨_,_,this,by simp;omega,?_⟩
  rw [hw2]
  exact ⟨⟨i+1,rfl,by omega,rfl,rfl,by rw [List.range_succ,List.map_append];rfl⟩,by dsimp only;omega⟩
 ·have:i=N:=by have:¬ i < N:=by simpa using ht
               omega
  subst this
  exact ⟨rfl,rfl⟩
def fromEnd (h:Nat→GA) (mb:Nat→Bool) (N:Nat):Nat→GA
 | 0=>gEmpty
 | i+1=>let o:=gCat (h (N - 1 - i)) (fromEnd h mb N i);if mb (N - 1 - i)=true then gMaybe o else o
theorem fromEnd_n {h:Nat→GA} {mb:Nat→Bool} {N n:Nat} (hn:∀ j,(h j).n=n):∀ i,(fromEnd h mb N i).n=i * n
 | 0=>by simp [fromEnd,gEmpty]
 | i+1=>by
   simp only [fromEnd]
   have:(gCat (h (N - 1 - i)) (fromEnd h mb N i)).n=(i+1) * n:=by
    show (h (N - 1 - i)).n+(fromEnd h mb N i).n=_
    rw [hn,fromEnd_n hn i,Nat.succ_mul];omega
   split
   ·exact this
   ·exact this
theorem rep_loop {x:api_Rx} {h:Nat→GA} {N n:Nat} {F0:List (List Int)} {S S':List arr4_uint64} (hn:∀ j,(h j).n=n) (hr:Room F0 S (N * n)) (hN:N≤1000) {l:List place_piece} (hl:l=(List.range N).map fun j=>pc (h j) (F0.length+j * n))
 {res:place_piece} {fin:place_builder} (hres:res=pc (fromEnd h (fun j=>decide (x.Hi≥0) && decide ((j:Int)≥x.Lo)) N N) F0.length)
 (hfin:fin={ sets:=S',follow:=F0++flw (fromEnd h (fun j=>decide (x.Hi≥0) && decide ((j:Int)≥x.Lo)) N N) F0.length }) :
 (List.length l < 1099511627776∧∃ (Inv24:Nat→List arr4_uint64→List (List Int)→List Int→List Int→Bool→Prop),Inv24 0 S' (F0++hF h F0.length n N) [] [] Bool.true∧
   (∀ (i:Nat) (y:place_piece),i < List.length l→l[List.length l - 1 - i]?=some y→∀ (s:List arr4_uint64) (f:List (List Int)) (o1 o2:List Int) (o3:Bool),Inv24 i s f o1 o2 o3→
     (∃ r0_6:place_piece,∃ o_4:place_builder,C_place_builder_cat y { first:=o1,last:=o2,null:=o3 } { sets:=s,follow:=f } r0_6 o_4∧
       (((decide (x.Hi≥0) && decide ((List.length l:Int) - 1 - i≥x.Lo))=true→(∃ r0_7:place_piece,C_place_maybe r0_6 r0_7∧Inv24 (i+1) o_4.sets o_4.follow r0_7.first r0_7.last r0_7.null))∧
         ((decide (x.Hi≥0) && decide ((List.length l:Int) - 1 - i≥x.Lo))=false→Inv24 (i+1) o_4.sets o_4.follow r0_6.first r0_6.last r0_6.null))))∧
   (∀ (s:List arr4_uint64) (f:List (List Int)) (o1 o2:List Int) (o3:Bool),Inv24 (List.length l) s f o1 o2 o3→(res={ first:=o1,last:=o2,null:=o3 }∧fin={ sets:=s,follow:=f }))):=by
 have hll:l.length=N:=by rw [hl];simp
 obtain ⟨mb,hmb⟩:∃ mb:Nat→Bool,mb=fun j:Nat=>decide (x.Hi≥0) && decide ((j:Int)≥x.Lo):=⟨_,rfl⟩
 rw [← hmb] at hres hfin
 have hroom:=hr.room
 rw [hll]
 refine ⟨by omega,fun i s f o1 o2 o3=>i≤N∧s=S'∧f=F0++hF h F0.length n (N - i)++flw (fromEnd h mb N i) (F0.length+(N - i) * n)∧(⟨o1,o2,o3⟩:place_piece)=pc (fromEnd h mb N i) (F0.length+(N - i) * n),⟨by omega,rfl,by simp [fromEnd,flw,gEmpty],rfl⟩,?_,?_⟩
 ·rintro i y hi hy s f o1 o2 o3 ⟨_,rfl,rfl,hp⟩
  have hy:y=pc (h (N - 1 - i)) (F0.length+(N - 1 - i) * n):=by
   rw [hl,List.getElem?_map,List.getElem?_range (by omega)] at hy
   simpa using hy.symm
  have e1:N - i=(N - 1 - i)+1:=by omega
  have hlen:(F0++hF h F0.length n (N - 1 - i)).length=F0.length+(N - 1 - i) * n:=by rw [List.length_append,hF_len hn]
  have hmul:(N - 1 - i) * n+(n+i * n)=N * n:=by
   have:N=(N - 1 - i)+(1+i):=by omega
   conv=>rhs;rw [this,Nat.add_mul,Nat.add_mul,Nat.one_mul]
  have hcat:=cat_ok (F0++hF h F0.length n (N - 1 - i)) s (h (N - 1 - i)) (fromEnd h mb N i) (fun f hf=>by
   rcases List.mem_append.1 hf with hf | hf
   ·exact hr.small f hf
   ·exact hF_small (fun j=>by have:=hn j;omega) _ f hf) (by rw [hn,fromEnd_n hn];omega) (by rw [hlen];omega)
  rw [hlen,hn] at hcat
  have hpos:F0.length+(N - 1 - i) * n+n=F0.length+(N - i) * n:=by rw [e1,Nat.succ_mul];omega
  rw [hpos] at hcat
  have hfl:F0++hF h F0.length n (N - i)=F0++hF h F0.length n (N - 1 - i)++flw (h (N - 1 - i)) (F0.length+(N - 1 - i) * n):=by
   rw [e1,hF,List.append_assoc]
  rw [hfl,hp,hy]
  refine ⟨_,_,hcat,fun hm=>⟨_,W_place_maybe _ _ rfl,?_⟩,fun hm=>?_⟩
  all_goals have hidx:((N:Int) - 1 - i)=((N - 1 - i:Nat):Int):=by omega
  all_goals rw [hidx] at hm
  all_goals have e2:N - (i+1)=N - 1 - i:=by omega
  ·have hf:fromEnd h mb N (i+1)=gMaybe (gCat (h (N - 1 - i)) (fromEnd h mb N i)):=by
    simp only [fromEnd];rw [if_pos];rw [hmb];exact hm
   dsimp only;rw [hf,e2]
   exact ⟨by omega,rfl,rfl,rfl⟩
  ·have hf:fromEnd h mb N (i+1)=gCat (h (N - 1 - i)) (fromEnd h mb N i):=by
    simp only [fromEnd];rw [if_neg];rw [hmb];simpa using hm
   dsimp only;rw [hf,e2]
   exact ⟨by omega,rfl,rfl,rfl⟩
 ·rintro s f o1 o2 o3 ⟨_,rfl,rfl,hp⟩
  rw [Nat.sub_self,Nat.zero_mul,Nat.add_zero] at hp
  refine ⟨by rw [hres,hp],?_⟩
  rw [hfin]
  simp [hF]
end Go.Ev.Pl
set_option linter.unusedSimpArgs false
set_option linter.unusedVariables false
namespace Go.Ev.Pl
open Go Go.Ev
theorem fromEnd_neg {g z:GA} {h:Nat→GA} {mb:Nat→Bool} {N:Nat} (hz:Canon z) (hN:1≤N) (hh:∀ j,j < N - 1→h j=g) (hl:h (N - 1)=z) (hm:∀ j,mb j=false):∀ i,i < N→fromEnd h mb N (i+1)=iter (gCat g) i z
 | 0,hi=>by
   simp only [fromEnd,hm]
   rw [if_neg (by simp),Nat.sub_zero,hl,cat_empty_r hz];rfl
 | i+1,hi=>by
   have ih:=fromEnd_neg hz hN hh hl hm i (by omega)
   rw [fromEnd]
   simp only [hm]
   rw [if_neg (by simp),ih,hh _ (by omega)];rfl
theorem fromEnd_pos {g:GA} {h:Nat→GA} {mb:Nat→Bool} {N L:Nat} (hL:L≤N) (hh:∀ j,h j=g) (hm:∀ j,j < N→mb j=decide (L≤j)):∀ i,i≤N→
 fromEnd h mb N i=iter (gCat g) (i - (N - L)) (iter (fun o=>gMaybe (gCat g o)) (min i (N - L)) gEmpty)
 | 0,_=>by simp [fromEnd,iter]
 | i+1,hi=>by
   have ih:=fromEnd_pos hL hh hm i (by omega)
   rw [fromEnd]
   simp only [hh,ih]
   rw [hm _ (by omega)]
   by_cases hc:L≤N - 1 - i
   ·rw [if_pos (by simpa using hc),show i - (N - L)=0 by omega,show i+1 - (N - L)=0 by omega,show min i (N - L)=i by omega,show min (i+1) (N - L)=i+1 by omega];rfl
   ·rw [if_neg (by simpa using hc),show i+1 - (N - L)=(i - (N - L))+1 by omega,show min i (N - L)=N - L by omega,show min (i+1) (N - L)=N - L by omega];rfl
theorem flw_again (g:GA) (b:Prop) [Decidable b] (off:Nat):flw (if b then gMaybe (gAgain g) else gAgain g) off=flw (gAgain g) off:=by split<;>rfl
theorem map_range_set {α:Type} {f:Nat→α} {N i:Nat} {v:α} (h:i < N):((List.range N).map f).set i v=(List.range N).map fun j=>if j=i then v else f j:=by
 refine set_eq (by simp) (fun j hj hne=>?_) (fun hj=>?_)
 ·simp only [List.getElem_map,List.getElem_range];rw [if_neg hne]
 ·simp only [List.getElem_map,List.getElem_range,if_true]
theorem rep_ok {x:api_Rx} (hr:Rgt x) (h5:x.Kind=5) (hw:Wf x) (hp:∀ k∈x.Kids,PieceOk k) (F0:List (List Int)) (S:List arr4_uint64) (hroom:Room F0 S (gof x).n) :
 C_place_builder_rep x { sets:=S,follow:=F0 } (pc (gof x) F0.length) { sets:=S++(gof x).sets,follow:=F0++flw (gof x) F0.length }:=by
 obtain ⟨ho,hk⟩:=rgt_own hr
 obtain ⟨⟨k,hq⟩,h1,h2,h3⟩:=own_rep ho h5
 have hkm:k∈x.Kids:=by rw [hq];simp
 have hgn:=gof_n x hr
 have hgof:gof x=gRep (gof k) x.Lo x.Hi:=by
  rw [gof_eq,h5,hq];simp
 refine W_place_builder_rep x _ _ _ ⟨_,rxSize_ok x hw,fun h0=>?_,fun h0=>?_⟩
 ·have h0:sizeN x=0:=by
   have:sizeZ x=0:=by simpa using h0
   simp only [sizeZ] at this;omega
  rw [gof_zero hr h0]
  exact ⟨rfl,by simp [gEmpty,flw]⟩
 obtain ⟨N,hN⟩:∃ N:Nat,N=(max 1 (max x.Lo x.Hi)).toNat:=⟨_,rfl⟩
 have hN1:1≤N:=by omega
 have hN2:N≤20:=by omega
 have hNi:(N:Int)=max 1 (max x.Lo x.Hi):=by omega
 have hn:(gof x).n=N * (gof k).n:=by rw [hgof,rep_n _ h1 (by omega),hN]
 have hs:(gof x).sets=cpS (gof k) N:=by rw [hgof,rep_sets _ h1 (by omega),hN]
 have hroom2:Room F0 S (N * (gof k).n):=by rw [← hn];exact hroom
 have hcp:=copies_ok (hp k hkm) N (by omega) F0 S hroom2
 have hlen2:F0.length+N * (gof k).n < 1000000:=hroom2.room
 have hcnt:(if (1:Int) > if x.Hi > x.Lo then x.Hi else x.Lo then (1:Int) else if x.Hi > x.Lo then x.Hi else x.Lo)=(N:Int):=by rw [hNi];split<;>omega
 rw [hcnt,hq]
 simp only [List.length_cons,List.length_nil,List.getD_cons_zero]
 refine ⟨by omega,_,_,hcp,?_⟩
 rw [← hs]
 by_cases hneg:x.Hi < 0
 ·-- from some times on
  obtain ⟨z,hz⟩:∃ z:GA,z=if x.Lo=0 then gMaybe (gAgain (gof k)) else gAgain (gof k):=⟨_,rfl⟩
  have hzc:Canon z:=by rw [hz];split;exact canon_maybe (canon_again (canon_gof k));exact canon_again (canon_gof k)
  have hzn:z.n=(gof k).n:=by rw [hz];split<;>rfl
  obtain ⟨h,hh⟩:∃ h:Nat→GA,h=fun j=>if j=N - 1 then z else gof k:=⟨_,rfl⟩
  have hhn:∀ j,(h j).n=(gof k).n:=fun j=>by rw [hh];dsimp only;split;exact hzn;rfl
  have hfe:fromEnd h (fun j:Nat=>decide (x.Hi≥0) && decide ((j:Int)≥x.Lo)) N N=gof x:=by
   have:=fromEnd_neg (mb:=fun j:Nat=>decide (x.Hi≥0) && decide ((j:Int)≥x.Lo)) hzc hN1 (h:=h) (g:=gof k) (fun j hj=>by rw [hh];dsimp only;rw [if_neg (by omega)]) (by rw [hh];simp) (fun j=>by simp;omega) (N - 1) (by omega)
   rw [show N - 1+1=N by omega] at this
   rw [this,hgof]
   unfold gRep
   rw [if_pos hneg,← hz]
   congr 1;omega
  obtain ⟨N1,rfl⟩:∃ N1,N=N1+1:=⟨N - 1,by omega⟩
  have hF1:hF h F0.length (gof k).n (N1+1)=hF (fun _=>gof k) F0.length (gof k).n N1++flw (gAgain (gof k)) (F0.length+N1 * (gof k).n):=by
   rw [hF,hF_congr N1 (h':=fun _=>gof k) (fun j hj=>by rw [hh];dsimp only;rw [if_neg (by omega)])]
   congr 1
   rw [hh];dsimp only;rw [if_pos (by omega),hz,flw_again]
  refine ⟨fun s f l=>s=S++(gof x).sets∧f=F0++hF h F0.length (gof k).n (N1+1)∧l=(List.range (N1+1)).map fun j=>pc (h j) (F0.length+j * (gof k).n),?_,fun _=>?_,fun hc=>absurd (of_decide_eq_false hc) (by omega)⟩
  ·rintro s f l ⟨rfl,rfl,hl⟩
   exact ⟨backward_121 l,rep_loop (x:=x) (h:=h) (N:=N1+1) (S:=S) hhn hroom2 (by omega) hl (by rw [hfe]) (by rw [hfe])⟩
  ·have hwl:w64 ((((List.range (N1+1)).map fun i=>pc (gof k) (F0.length+i * (gof k).n)).length:Int) - 1)=(N1:Int):=by
    rw [List.length_map,List.length_range];exact (w64_id (by omega) (by omega)).trans (by omega)
   have hgl:gd ((List.range (N1+1)).map fun i=>pc (gof k) (F0.length+i * (gof k).n)) (N1:Int)=pc (gof k) (F0.length+N1 * (gof k).n):=by
    rw [gd_nat (by simp)];simp
   rw [hwl,hgl]
   have hlen:(F0++hF (fun _=>gof k) F0.length (gof k).n N1).length=F0.length+N1 * (gof k).n:=by rw [List.length_append,hF_len fun _=>rfl]
   have hmul:(N1+1) * (gof k).n=N1 * (gof k).n+(gof k).n:=Nat.succ_mul _ _
   have hla:=lst_len (gof k).n (gof k).last (F0.length+N1 * (gof k).n)
   have hlf:=lst_len (gof k).n (gof k).first (F0.length+N1 * (gof k).n)
   have hlead:=lead_ok (lst (gof k).n (gof k).last (F0.length+N1 * (gof k).n)) (lst (gof k).n (gof k).first (F0.length+N1 * (gof k).n)) { sets:=S++(gof x).sets,follow:=F0++hF (fun _=>gof k) F0.length (gof k).n (N1+1) } (lst_ss _ _ _) (fun y hy=>by
    obtain ⟨i,hi,_,rfl⟩:=lst_mem.1 hy
    simp only [List.length_append,hF_len fun _=>rfl];omega) (by omega) (fun f hf=>by
    rcases List.mem_append.1 hf with hf | hf
    ·exact hroom.small f hf
    ·exact hF_small (fun _=>by omega) _ f hf) (by omega)
   have hag:=lead_again (F0++hF (fun _=>gof k) F0.length (gof k).n N1) (gof k)
   rw [hlen,List.append_assoc,List.append_assoc] at hag
   have hag2:leadF (F0++hF (fun _=>gof k) F0.length (gof k).n (N1+1)) (lst (gof k).n (gof k).last (F0.length+N1 * (gof k).n)) (lst (gof k).n (gof k).first (F0.length+N1 * (gof k).n))=F0++hF h F0.length (gof k).n (N1+1):=by
    rw [hF1];exact hag
   simp only [hag2] at hlead
   have hset:∀ b:Bool,b=z.null→List.set ((List.range (N1+1)).map fun i=>pc (gof k) (F0.length+i * (gof k).n)) (Int.toNat (N1:Int)) { first:=(pc (gof k) (F0.length+N1 * (gof k).n)).first,last:=(pc (gof k) (F0.length+N1 * (gof k).n)).last,null:=b }=(List.range (N1+1)).map fun j=>pc (h j) (F0.length+j * (gof k).n):=by
    intro b hb
    rw [Int.toNat_natCast,map_range_set (by omega)]
    refine List.map_congr_left fun j hj=>?_
    rw [hh];dsimp only
    by_cases e:j=N1
    ·subst e
     rw [if_pos rfl,if_pos (by omega)]
     have e1:z.first=(gof k).first:=by rw [hz];split<;>rfl
     have e2:z.last=(gof k).last:=by rw [hz];split<;>rfl
     rw [hb]
     simp only [pc,hzn,e1,e2]
    ·rw [if_neg e,if_neg (by omega)]
   have hll:((List.range (N1+1)).map fun i=>pc (gof k) (F0.length+i * (gof k).n)).length=N1+1:=by simp
   rw [hll]
   refine ⟨by omega,by omega,by omega,by omega,_,hlead,by omega,fun hn=>⟨fun _=>by omega,rfl,rfl,hset _ ?_⟩,fun hn=>⟨fun _=>by omega,rfl,rfl,hset _ ?_⟩⟩
   ·have hn:(gof k).null=true:=hn
    rw [hz];split<;>simp [gMaybe,gAgain,hn]
   ·have hn:(gof k).null=false:=hn
    rw [hz]
    by_cases e:x.Lo=0
    ·rw [if_pos e,e];rfl
    ·rw [if_neg e]
     show (x.Lo == 0)=(gof k).null
     rw [hn];simpa using e
 ·-- from some times to others
  have hhi:1≤x.Hi∧x.Lo≤x.Hi:=by omega
  have hfe:fromEnd (fun _=>gof k) (fun j:Nat=>decide (x.Hi≥0) && decide ((j:Int)≥x.Lo)) N N=gof x:=by
   have:=fromEnd_pos (h:=fun _=>gof k) (g:=gof k) (mb:=fun j:Nat=>decide (x.Hi≥0) && decide ((j:Int)≥x.Lo)) (N:=N) (L:=x.Lo.toNat) (by omega) (fun _=>rfl) (fun j hj=>by
    have:decide (x.Hi≥0)=true:=by simp;omega
    simp only [this,Bool.true_and,decide_eq_decide];omega) N (Nat.le_refl _)
   rw [this,hgof]
   unfold gRep
   rw [if_neg hneg]
   congr 1
   ·omega
   ·congr 1;omega
  refine ⟨fun s f l=>s=S++(gof x).sets∧f=F0++hF (fun _=>gof k) F0.length (gof k).n N∧l=(List.range N).map fun j=>pc (gof k) (F0.length+j * (gof k).n),?_,fun hc=>absurd (of_decide_eq_true hc) hneg,fun _=>⟨rfl,rfl,rfl⟩⟩
  rintro s f l ⟨rfl,rfl,hl⟩
  exact ⟨backward_121 l,rep_loop (x:=x) (h:=fun _=>gof k) (N:=N) (S:=S) (fun _=>rfl) hroom2 (by omega) hl (by rw [hfe]) (by rw [hfe])⟩
end Go.Ev.Pl
set_option linter.unusedSimpArgs false
set_option linter.unusedVariables false
namespace Go.Ev.Pl
open Go Go.Ev
theorem pc_first (g:GA) (off:Nat):(pc g off).first=lst g.n g.first off:=rfl
theorem pc_last (g:GA) (off:Nat):(pc g off).last=lst g.n g.last off:=rfl
theorem pc_null (g:GA) (off:Nat):(pc g off).null=g.null:=rfl
theorem pre_n {f:GA→GA→GA} (hf:∀ a b,(f a b).n=a.n+b.n) {z:GA} (hz:z.n=0) {l:List api_Rx} {i:Nat} (h:i < l.length) :
 ((l.take i).foldl (fun o y=>f o (gof y)) z).n+(gof l[i]).n≤(l.foldl (fun o y=>f o (gof y)) z).n:=by
 have e:=foldl_n hf (l.take (i+1)) z
 rw [foldl_take_succ h,hf] at e
 rw [e,foldl_n hf]
 have:(l.map fun y=>(gof y).n).sum=((l.take (i+1)).map fun y=>(gof y).n).sum+((l.drop (i+1)).map fun y=>(gof y).n).sum:=by
  rw [← List.sum_append,← List.map_append,List.take_append_drop]
 omega
theorem piece_ok:∀ x,Wf x→Rgt x→PieceOk x:=by
 refine rxInd fun x ih hw hr=>?_
 obtain ⟨hl,hkw⟩:=(wf_eq x).1 hw
 obtain ⟨ho,hk⟩:=rgt_own hr
 intro F0 S hroom
 have hrm:=hroom.room
 refine W_place_builder_piece x _ _ _ ⟨fun h=>?_,fun h2=>⟨fun h=>?_,fun h3=>⟨fun h=>?_,fun h4=>⟨fun h=>?_,fun h5=>?_⟩⟩⟩⟩
 ·have h:x.Kind=2:=by simpa using h
  have hg:gof x=gByte x.Set:=by rw [gof_eq,if_pos h]
  rw [hg] at hrm ⊢
  have hrm:F0.length+1 < 1000000:=hrm
  refine ⟨_,_,W_place_builder_place _ _ _ _ ⟨?_,?_,rfl,rfl⟩,?_,?_⟩
  ·have:=hroom.same;simp only;omega
  ·simp only;omega
  ·have:lst 1 (fun i=>i == 0) F0.length=[(S.length:Int)]:=by
    rw [hroom.same];simp [lst,List.range_succ]
   simp only [pc,gByte,this]
  ·rfl
 ·have h:x.Kind=3:=by simpa using h
  have hg:gof x=x.Kids.foldl (fun o y=>gCat o (gof y)) gEmpty:=by rw [gof_eq];simp [h]
  refine ⟨fun s f a b c t=>∃ i:Nat,t=i∧i≤x.Kids.length∧s=S++((x.Kids.take i).foldl (fun o y=>gCat o (gof y)) gEmpty).sets∧f=F0++flw ((x.Kids.take i).foldl (fun o y=>gCat o (gof y)) gEmpty) F0.length∧(⟨a,b,c⟩:place_piece)=pc ((x.Kids.take i).foldl (fun o y=>gCat o (gof y)) gEmpty) F0.length,
   fun _ _ _ _ _ t=>(x.Kids.length - t).toNat,⟨0,rfl,by omega,by simp [gEmpty],by simp [gEmpty,flw],rfl⟩,?_⟩
  rintro s f a b c t ⟨i,rfl,hi,rfl,rfl,hp⟩
  refine ⟨fun ht=>?_,fun ht=>?_⟩
  ·have ht:i < x.Kids.length:=by simpa using ht
   have hm:=List.getElem_mem ht
   obtain ⟨o,ho'⟩:∃ o,o=(x.Kids.take i).foldl (fun o y=>gCat o (gof y)) gEmpty:=⟨_,rfl⟩
   have hn:=pre_n (f:=gCat) (fun _ _=>rfl) (z:=gEmpty) rfl ht
   rw [← hg,← ho'] at hn
   have hsucc:=foldl_take_succ (f:=fun o y=>gCat o (gof y)) (b:=gEmpty) ht
   rw [← ho'] at hsucc hp ⊢
   have hoc:Canon o:=by
    rw [ho']
    have:∀ (l:List api_Rx) (z:GA),Canon z→Canon (l.foldl (fun o y=>gCat o (gof y)) z):=by
     intro l
     induction l with
     | nil=>intro z h;exact h
     | cons y r ih2=>intro z h;exact ih2 _ (canon_cat h (canon_gof y))
    exact this _ _ canon_empty
   have hlen:(F0++flw o F0.length).length=F0.length+o.n:=by rw [List.length_append,flw_len]
   have hpk:=ih _ hm (hkw _ hm) (hk _ hm) (F0++flw o F0.length) (S++o.sets) ⟨by rw [hlen,List.length_append,hroom.same,hoc.sets],fun f hf=>by
    rcases List.mem_append.1 hf with hf | hf
    ·exact hroom.small f hf
    ·exact flw_small _ _ (by omega) f hf,by rw [hlen];omega⟩
   rw [hlen] at hpk
   have hcat:=cat_ok F0 ((S++o.sets)++(gof x.Kids[i]).sets) o (gof x.Kids[i]) hroom.small (by omega) (by omega)
   have hw2:w64 ((i:Int)+1)=((i+1:Nat):Int):=w64_id (by omega) (by omega)
   rw [gd_nat ht,hp]
   refine ⟨by omega,by omega,_,_,hpk,_,_,hcat,?_⟩
   rw [hw2]
   exact ⟨⟨i+1,rfl,by omega,by rw [hsucc];simp [gCat],by rw [hsucc],by rw [hsucc]⟩,by dsimp only;omega⟩
  ·have:i=x.Kids.length:=by have:¬ i < x.Kids.length:=by simpa using ht
                            omega
   subst this
   rw [List.take_of_length_le (Nat.le_refl _),← hg] at hp ⊢
   exact ⟨hp.symm,rfl⟩
 ·have h:x.Kind=4:=by simpa using h
  have hg:gof x=x.Kids.foldl (fun o y=>gAlt o (gof y)) gNone:=by rw [gof_eq];simp [h]
  refine ⟨fun s f a b c t=>∃ i:Nat,t=i∧i≤x.Kids.length∧s=S++((x.Kids.take i).foldl (fun o y=>gAlt o (gof y)) gNone).sets∧f=F0++flw ((x.Kids.take i).foldl (fun o y=>gAlt o (gof y)) gNone) F0.length∧(⟨a,b,c⟩:place_piece)=pc ((x.Kids.take i).foldl (fun o y=>gAlt o (gof y)) gNone) F0.length,
   fun _ _ _ _ _ t=>(x.Kids.length - t).toNat,⟨0,rfl,by omega,by simp [gNone],by simp [gNone,flw],rfl⟩,?_⟩
  rintro s f a b c t ⟨i,rfl,hi,rfl,rfl,hp⟩
  refine ⟨fun ht=>?_,fun ht=>?_⟩
  ·have ht:i < x.Kids.length:=by simpa using ht
   have hm:=List.getElem_mem ht
   obtain ⟨o,ho'⟩:∃ o,o=(x.Kids.take i).foldl (fun o y=>gAlt o (gof y)) gNone:=⟨_,rfl⟩
   have hn:=pre_n (f:=gAlt) (fun _ _=>rfl) (z:=gNone) rfl ht
   rw [← hg,← ho'] at hn
   have hsucc:=foldl_take_succ (f:=fun o y=>gAlt o (gof y)) (b:=gNone) ht
   rw [← ho'] at hsucc hp ⊢
   have hoc:Canon o:=by
    rw [ho']
    have:∀ (l:List api_Rx) (z:GA),Canon z→Canon (l.foldl (fun o y=>gAlt o (gof y)) z):=by
     intro l
     induction l with
     | nil=>intro z h;exact h
     | cons y r ih2=>intro z h;exact ih2 _ (canon_alt h (canon_gof y))
    exact this _ _ canon_none
   have hlen:(F0++flw o F0.length).length=F0.length+o.n:=by rw [List.length_append,flw_len]
   have hpk:=ih _ hm (hkw _ hm) (hk _ hm) (F0++flw o F0.length) (S++o.sets) ⟨by rw [hlen,List.length_append,hroom.same,hoc.sets],fun f hf=>by
    rcases List.mem_append.1 hf with hf | hf
    ·exact hroom.small f hf
    ·exact flw_small _ _ (by omega) f hf,by rw [hlen];omega⟩
   rw [hlen] at hpk
   have hw2:w64 ((i:Int)+1)=((i+1:Nat):Int):=w64_id (by omega) (by omega)
   rw [gd_nat ht]
   have hpa:a=lst o.n o.first F0.length:=congrArg place_piece.first hp
   have hpb:b=lst o.n o.last F0.length:=congrArg place_piece.last hp
   have hpc:c=o.null:=congrArg place_piece.null hp
   have l1:=lst_len o.n o.first F0.length
   have l2:=lst_len o.n o.last F0.length
   have l3:=lst_len (gof x.Kids[i]).n (gof x.Kids[i]).first (F0.length+o.n)
   have l4:=lst_len (gof x.Kids[i]).n (gof x.Kids[i]).last (F0.length+o.n)
   refine ⟨by omega,by omega,_,_,hpk,_,join_ok _ _ (by rw [hpa];omega) (by rw [pc_first];omega),_,join_ok _ _ (by rw [hpb];omega) (by rw [pc_last];omega),?_⟩
   rw [hw2]
   refine ⟨⟨i+1,rfl,by omega,by rw [hsucc];simp [gAlt],?_,?_⟩,by dsimp only;omega⟩
   ·rw [hsucc,← flw_alt,← List.append_assoc]
   ·rw [hsucc,hpa,hpb,hpc,pc_first,pc_last,pc_null,alt_first,alt_last];rfl
  ·have:i=x.Kids.length:=by have:¬ i < x.Kids.length:=by simpa using ht
                            omega
   subst this
   rw [List.take_of_length_le (Nat.le_refl _),← hg] at hp ⊢
   exact ⟨hp.symm,rfl⟩
 ·have h:x.Kind=5:=by simpa using h
  exact ⟨_,_,rep_ok hr h hw (fun k hkm=>ih k hkm (hkw k hkm) (hk k hkm)) F0 S hroom,rfl,rfl⟩
 ·have h1:x.Kind=1:=by
   simp only [beq_eq_false_iff_ne,ne_eq] at h2 h3 h4 h5
   have:=own_kind ho;omega
  have hg:gof x=gEmpty:=by rw [gof_eq];simp [h1]
  rw [hg]
  exact ⟨rfl,by simp [gEmpty,flw]⟩
def plc (g:GA):api_Places:=⟨g.sets,lst g.n g.first 0,lst g.n g.last 0,flw g 0,g.null⟩
def noPl:api_Places:=⟨[],[],[],[],false⟩
theorem size_of_right {x:api_Rx} (h:rightB x=true):Rgt x∧sizeN x≤200:=by
 simp only [rightB,Bool.and_eq_true,decide_eq_true_eq] at h
 refine ⟨⟨20,h.1⟩,?_⟩
 have:=h.2.1
 simp only [sizeZ] at this;omega
theorem placeOf_ok (x:api_Rx) (hw:Wf x):C_place_Of x (if rightB x=true then plc (gof x) else noPl) (if rightB x=true then 0 else 1):=by
 refine W_place_Of x _ _ ⟨_,rxRightAll_ok x hw,fun h=>?_,fun h=>?_⟩
 ·have h:rightB x=false:=by simpa using h
  rw [h];exact ⟨rfl,rfl⟩
 ·have h:rightB x=true:=by simpa using h
  obtain ⟨hr,hs⟩:=size_of_right h
  have hn:=gof_n x hr
  have:=piece_ok x hw hr [] [] ⟨rfl,fun f hf=>by simp at hf,by simp;omega⟩
  refine ⟨_,_,this,?_,?_⟩
  ·rw [if_pos h];simp [plc,pc]
  ·rw [if_pos h]
end Go.Ev.Pl
set_option linter.unusedSimpArgs false
set_option linter.unusedVariables false
namespace Go.Ev.Pl
open Go Go.Ev
def setOf (lo hi:Int):arr4_uint64:=mkSet fun i=>decide (i≥lo) && decide (i≤hi)
theorem noset_97:noSet (setOf 97 97)=false:=by kernel_rfl
theorem noset_98:noSet (setOf 98 98)=false:=by kernel_rfl
theorem noset_99:noSet (setOf 99 99)=false:=by kernel_rfl
theorem noset_10:noSet (setOf 10 10)=false:=by kernel_rfl
theorem noset_45:noSet (setOf 45 45)=false:=by kernel_rfl
theorem noset_90:noSet (setOf 90 90)=false:=by kernel_rfl
theorem noset_0:noSet (setOf 0 0)=false:=by kernel_rfl
theorem noset_255:noSet (setOf 255 255)=false:=by kernel_rfl
theorem noset_48:noSet (setOf 48 48)=false:=by kernel_rfl
theorem noset_ac:noSet (setOf 97 99)=false:=by kernel_rfl
theorem noset_not:noSet (mkSet fun i=>!setHas (setOf 97 97) i)=false:=by kernel_rfl
def zset:arr4_uint64:=⟨0,0,0,0⟩
def chr (b:Int):api_Rx:=⟨2,setOf b b,0,0,[]⟩
theorem wf_leaf (k:Int) (s:arr4_uint64) (lo hi:Int):Wf ⟨k,s,lo,hi,[]⟩:=(wf_eq _).2 ⟨by simp,fun y hy=>by simp at hy⟩
end Go.Ev.Pl
set_option linter.unusedSimpArgs false
set_option linter.unusedVariables false
namespace Go.Ev.Pl
open Go Go.Ev
def cnt:api_Rx→Nat:=cata fun _ l=>1+l.sum
theorem cnt_eq (x:api_Rx):cnt x=1+(x.Kids.map cnt).sum:=cata_eq _ x
theorem len_le_cnt:∀ l:List api_Rx,l.length≤(l.map cnt).sum
 | []=>Nat.le_refl _
 | x :: r=>by have:=len_le_cnt r;have:=cnt_eq x;simp;omega
theorem sum_mem_le {l:List api_Rx} {y:api_Rx} (h:y∈l):cnt y≤(l.map cnt).sum:=by
 induction l with
 | nil=>simp at h
 | cons x r ih=>
   rcases List.mem_cons.1 h with rfl | h
   ·simp
   ·have:=ih h;simp;omega
theorem wf_of_cnt:∀ x,cnt x < 1000000→Wf x:=by
 refine rxInd fun x ih h=>?_
 rw [cnt_eq] at h
 have:=len_le_cnt x.Kids
 exact (wf_eq x).2 ⟨by omega,fun y hy=>ih y hy (by have:=sum_mem_le hy;omega)⟩
theorem nodesZ_cnt:∀ x (most:Int),(cnt x:Int)≤most→nodesZ x most=most - cnt x:=by
 refine rxInd fun x ih most hm=>?_
 rw [nodesZ_eq]
 rw [cnt_eq] at hm ⊢
 have key:∀ (l:List api_Rx) (m:Int),(∀ y∈l,y∈x.Kids)→(((l.map cnt).sum:Nat):Int)≤m→l.foldl (fun m y=>if m≥0 then nodesZ y m else m) m=m - (((l.map cnt).sum:Nat):Int):=by
  intro l
  induction l with
  | nil=>intro m _ _;simp
  | cons y r ih2=>
    intro m hl h
    simp only [List.map_cons,List.sum_cons] at h ⊢
    rw [List.foldl_cons,if_pos (by omega),ih y (hl y (List.mem_cons_self ..)) m (by omega),ih2 _ (fun z hz=>hl z (List.mem_cons_of_mem _ hz)) (by omega)]
    omega
 rw [key x.Kids (most - 1) (fun _ h=>h) (by omega)]
 omega
theorem rgt_mono:∀ x (d:Int),rgt x d=true→∀ d',d≤d'→rgt x d'=true:=by
 refine rxInd fun x ih d h d' hd=>?_
 rw [rgt_eq] at h ⊢
 simp only [Bool.and_eq_true,decide_eq_true_eq,List.all_eq_true,Bool.not_eq_true'] at h ⊢
 exact ⟨⟨by omega,h.1.2⟩,fun k hk=>⟨(h.2 k hk).1,ih k hk _ (h.2 k hk).2 _ (by omega)⟩⟩
theorem rgt_leaf {s:arr4_uint64} (h:noSet s=false):rgt ⟨2,s,0,0,[]⟩ 1=true:=by
 rw [rgt_eq];simp [ownB,h]
theorem rgt_empty:rgt ⟨1,zset,0,0,[]⟩ 1=true:=by kernel_rfl
def Bytes (l:List Int):Prop:=∀ b∈l,0≤b∧b≤255
structure MOk (m:hecklelaw03_Maker):Prop where
 bytes:Bytes m.L
 len:m.L.length≤1000
 at0:0≤m.At
theorem pick_ok (n:Int) (m:hecklelaw03_Maker) (hn:1≤n) (hm:MOk m) (ha:m.At < 1000000):∃ r,0≤r∧r < n∧C_hecklelaw03_Maker_Pick n m r { L:=m.L,At:=m.At+1 }:=by
 have h0:=hm.at0
 have hl:=hm.len
 have hw1:w64 (m.At+1)=m.At+1:=w64_id (by omega) (by omega)
 have hw2:w64 (m.At+1 - 1)=m.At:=(w64_id (by omega) (by omega)).trans (by omega)
 by_cases hg:m.At+1 > m.L.length
 ·refine ⟨0,by omega,by omega,W_hecklelaw03_Maker_Pick n m _ _ ?_⟩
  rw [hw1]
  exact ⟨fun _=>⟨rfl,rfl⟩,fun h=>absurd hg (by simpa using h)⟩
 ·have hi:m.At.toNat < m.L.length:=by omega
  have he:gd m.L m.At=m.L[m.At.toNat]:=by simp [gd,List.getD,hi]
  obtain ⟨b0,b1⟩:=hm.bytes _ (List.getElem_mem hi)
  have hw3:w64 (gd m.L m.At)=gd m.L m.At:=by rw [he];exact w64_id (by omega) (by omega)
  refine ⟨Int.tmod (gd m.L m.At) n,?_,?_,W_hecklelaw03_Maker_Pick n m _ _ ?_⟩
  ·rw [he,Int.tmod_eq_emod_of_nonneg b0];exact Int.emod_nonneg _ (by omega)
  ·rw [he,Int.tmod_eq_emod_of_nonneg b0];exact Int.emod_lt_of_pos _ (by omega)
  ·rw [hw1,hw2,hw3]
   exact ⟨fun h=>absurd (by simpa using h) hg,fun _=>⟨by omega,by omega,by omega,rfl,rfl⟩⟩
theorem chr_ok (b:Int):C_hecklelaw03_char b (chr b):=char3_ok b
theorem rgt_chr {b:Int} (h:noSet (setOf b b)=false):rgt (chr b) 1=true:=rgt_leaf h
structure Good (d:Nat) (r:api_Rx):Prop where
 right:rgt r ((d:Int)+1)=true
 small:cnt r≤2 ^ (d+1) - 1
theorem cnt_leaf (k:Int) (s:arr4_uint64) (lo hi:Int):cnt ⟨k,s,lo,hi,[]⟩=1:=by rw [cnt_eq];rfl
theorem leaf_ok (m:hecklelaw03_Maker) (hm:MOk m) (ha:m.At < 900000):∃ r o,C_hecklelaw03_Maker_leaf m r o∧Good 0 r∧o.L=m.L∧m.At≤o.At∧o.At≤m.At+2:=by
 obtain ⟨r0,p0,p1,hp⟩:=pick_ok 8 m (by omega) hm (by omega)
 have hm1:MOk { L:=m.L,At:=m.At+1 }:=⟨hm.bytes,hm.len,by have:=hm.at0;simp only;omega⟩
 have good:∀ {r:api_Rx},rgt r 1=true→cnt r=1→Good 0 r:=fun h1 h2=>⟨by simpa using h1,by omega⟩
 by_cases h0:r0=0
 ·subst h0
  exact ⟨_,_,W_hecklelaw03_Maker_leaf m _ _ ⟨_,_,hp,fun _=>⟨rfl,rfl⟩,fun h=>by simp at h⟩,good rgt_empty (cnt_leaf _ _ _ _),rfl,by simp only;omega,by simp only;omega⟩
 by_cases h1:r0=1
 ·subst h1
  exact ⟨_,_,W_hecklelaw03_Maker_leaf m _ _ ⟨_,_,hp,fun h=>by simp at h,fun _=>⟨fun _=>⟨_,setOf_ok 97 99,rfl,rfl⟩,fun h=>by simp at h⟩⟩,good (rgt_leaf noset_ac) (cnt_leaf _ _ _ _),rfl,by simp only;omega,by simp only;omega⟩
 by_cases h2:r0=2
 ·subst h2
  exact ⟨_,_,W_hecklelaw03_Maker_leaf m _ _ ⟨_,_,hp,fun h=>by simp at h,fun _=>⟨fun h=>by simp at h,fun _=>⟨fun _=>⟨_,setOf_ok 97 97,_,setNot_ok _,rfl,rfl⟩,fun h=>by simp at h⟩⟩⟩,good (rgt_leaf noset_not) (cnt_leaf _ _ _ _),rfl,by simp only;omega,by simp only;omega⟩
 by_cases h3:r0=3
 ·subst h3
  obtain ⟨r1,q0,q1,hq⟩:=pick_ok 6 _ (by omega) hm1 (by simp only;omega)
  have hr:r1=0∨r1=1∨r1=2∨r1=3∨r1=4∨r1=5:=by omega
  have hs:noSet (setOf (gd [10,45,90,0,255,48] r1) (gd [10,45,90,0,255,48] r1))=false:=by
   rcases hr with rfl | rfl | rfl | rfl | rfl | rfl
   ·exact noset_10
   ·exact noset_45
   ·exact noset_90
   ·exact noset_0
   ·exact noset_255
   ·exact noset_48
  exact ⟨_,_,W_hecklelaw03_Maker_leaf m _ _ ⟨_,_,hp,fun h=>by simp at h,fun _=>⟨fun h=>by simp at h,fun _=>⟨fun h=>by simp at h,fun _=>⟨fun _=>⟨_,_,hq,q0,by omega,by simp;omega,_,chr_ok _,rfl,rfl⟩,fun h=>by simp at h⟩⟩⟩⟩,good (rgt_chr hs) (cnt_leaf _ _ _ _),rfl,by simp only;omega,by simp only;omega⟩
 obtain ⟨r1,q0,q1,hq⟩:=pick_ok 3 _ (by omega) hm1 (by simp only;omega)
 have hr:r1=0∨r1=1∨r1=2:=by omega
 have hs:noSet (setOf (w64 (97+r1)) (w64 (97+r1)))=false:=by
  rcases hr with rfl | rfl | rfl
  ·exact noset_97
  ·exact noset_98
  ·exact noset_99
 exact ⟨_,_,W_hecklelaw03_Maker_leaf m _ _ ⟨_,_,hp,fun h=>absurd (by simpa using h) h0,fun _=>⟨fun h=>absurd (by simpa using h) h1,fun _=>⟨fun h=>absurd (by simpa using h) h2,fun _=>⟨fun h=>absurd (by simpa using h) h3,fun _=>⟨_,_,hq,_,chr_ok _,rfl,rfl⟩⟩⟩⟩⟩,good (rgt_chr hs) (cnt_leaf _ _ _ _),rfl,by simp only;omega,by simp only;omega⟩
def jk (kind:Int) (r:api_Rx):List api_Rx:=if r.Kind=kind then r.Kids else [r]
theorem joined_ok (kind:Int) (r1 r2:api_Rx) (h1:r1.Kids.length < 1000000) (h2:r2.Kids.length < 1000000):C_hecklelaw03_joined kind [r1,r2] ⟨kind,zset,0,0,jk kind r1++jk kind r2⟩:=by
 have hjl:∀ r:api_Rx,r.Kids.length < 1000000→(jk kind r).length < 1000000:=fun r h=>by unfold jk;split;exact h;simp
 have hj1:=hjl r1 h1
 have hj2:=hjl r2 h2
 refine W_hecklelaw03_joined kind _ _ ⟨fun k t=>(t=0∧k=[])∨(t=1∧k=jk kind r1)∨(t=2∧k=jk kind r1++jk kind r2),fun _ t=>(2 - t).toNat,.inl ⟨rfl,rfl⟩,?_⟩
 rintro k t (⟨rfl,rfl⟩ | ⟨rfl,rfl⟩ | ⟨rfl,rfl⟩)
 ·refine ⟨fun _=>⟨fun k'=>k'=jk kind r1,?_,by omega,by simp,fun h=>⟨by omega,by simp,?_,?_⟩,fun h=>⟨by omega,by simp,by simp,?_⟩⟩,fun h=>by simp at h⟩
  ·rintro k' rfl;exact ⟨.inr (.inl ⟨rfl,rfl⟩),by show Int.toNat (2 - 1) < Int.toNat (2 - 0);decide⟩
  ·have:gd [r1,r2] 0=r1:=rfl
   rw [this];simp;omega
  ·have:gd [r1,r2] 0=r1:=rfl
   rw [this] at h ⊢
   have h:r1.Kind=kind:=by simpa using h
   simp [jk,h]
  ·have:gd [r1,r2] 0=r1:=rfl
   rw [this] at h ⊢
   have h:r1.Kind≠kind:=by simpa using h
   simp [jk,h]
 ·refine ⟨fun _=>⟨fun k'=>k'=jk kind r1++jk kind r2,?_,by omega,by simp,fun h=>⟨by omega,by simp,?_,?_⟩,fun h=>⟨by omega,by simp,?_,?_⟩⟩,fun h=>by simp at h⟩
  ·rintro k' rfl;exact ⟨.inr (.inr ⟨rfl,rfl⟩),by show Int.toNat (2 - 2) < Int.toNat (2 - 1);decide⟩
  ·have:gd [r1,r2] 1=r2:=rfl
   rw [this];omega
  ·have:gd [r1,r2] 1=r2:=rfl
   rw [this] at h ⊢
   have h:r2.Kind=kind:=by simpa using h
   simp [jk,h]
  ·omega
  ·have:gd [r1,r2] 1=r2:=rfl
   rw [this] at h ⊢
   have h:r2.Kind≠kind:=by simpa using h
   simp [jk,h]
 ·exact ⟨fun h=>by simp at h,fun _=>rfl⟩
theorem joined_good {kind:Int} (hk:kind=3∨kind=4) {d:Nat} {r1 r2:api_Rx} (h1:Good d r1) (h2:Good d r2):Good (d+1) ⟨kind,zset,0,0,jk kind r1++jk kind r2⟩:=by
 have key:∀ r,Good d r→1≤(jk kind r).length∧((jk kind r).map cnt).sum≤cnt r∧∀ k∈jk kind r,k.Kind≠kind∧rgt k ((d:Int)+1)=true:=by
  intro r h
  have hr:=h.right
  by_cases e:r.Kind=kind
  ·rw [rgt_eq] at hr
   simp only [Bool.and_eq_true,decide_eq_true_eq,List.all_eq_true,Bool.not_eq_true'] at hr
   have:=own_kids hr.1.2 (by omega)
   simp only [jk,if_pos e]
   refine ⟨by omega,by rw [cnt_eq];omega,fun k hkm=>?_⟩
   obtain ⟨q1,q2⟩:=hr.2 k hkm
   refine ⟨fun e2=>?_,rgt_mono _ _ q2 _ (by omega)⟩
   simp only [oddK,e2,e] at q1
   rcases hk with rfl | rfl<;>simp at q1
  ·simp only [jk,if_neg e]
   exact ⟨by simp,by simp,fun k hkm=>by simp at hkm;subst hkm;exact ⟨e,hr⟩⟩
 obtain ⟨a1,a2,a3⟩:=key r1 h1
 obtain ⟨b1,b2,b3⟩:=key r2 h2
 constructor
 ·rw [rgt_eq]
  simp only [Bool.and_eq_true,decide_eq_true_eq,List.all_eq_true,Bool.not_eq_true']
  refine ⟨⟨by omega,?_⟩,fun k hkm=>?_⟩
  ·have hz:noSet zset=true:=rfl
   simp only [ownB]
   rw [if_neg (by omega),if_neg (by omega),if_neg (by omega),if_pos hk,hz]
   simp;omega
  ·have:k.Kind≠kind∧rgt k ((d:Int)+1)=true:=by
    rcases List.mem_append.1 hkm with h | h
    ·exact a3 k h
    ·exact b3 k h
   refine ⟨by simp [oddK,this.1],?_⟩
   have e:(((d+1:Nat):Int)+1 - 1)=(d:Int)+1:=by omega
   rw [e];exact this.2
 ·rw [cnt_eq]
  simp only [List.map_append,List.sum_append]
  have:=h1.small
  have:=h2.small
  have e:2 ^ (d+1+1)=2 ^ (d+1)+2 ^ (d+1):=by rw [Nat.pow_succ];omega
  have:1≤2 ^ (d+1):=Nat.one_le_two_pow
  omega
theorem good_mono {d d':Nat} {r:api_Rx} (h:Good d r) (hd:d≤d'):Good d' r:=by
 refine ⟨rgt_mono _ _ h.right _ (by omega),?_⟩
 have:=h.small
 have:2 ^ (d+1)≤2 ^ (d'+1):=Nat.pow_le_pow_right (by omega) (by omega)
 omega
theorem good_len {d:Nat} {r:api_Rx} (h:Good d r) (hd:d≤10):r.Kids.length < 1000000∧Wf r:=by
 have hs:=h.small
 have:2 ^ (d+1)≤2 ^ 11:=Nat.pow_le_pow_right (by omega) (by omega)
 have e:=cnt_eq r
 have:=len_le_cnt r.Kids
 exact ⟨by omega,wf_of_cnt r (by omega)⟩
theorem mk_ok:∀ (d:Nat),d≤5→∀ (deep:Int),deep≤d→-10≤deep→∀ m,MOk m→m.At+10 * 3 ^ d < 100000→∃ r o,C_hecklelaw03_Maker_Rx deep m r o∧Good d r∧o.L=m.L∧m.At≤o.At∧o.At≤m.At+10 * 3 ^ d:=by
 intro d
 induction d using Nat.strongRecOn with
 | _ d ih=>
 intro hd5 deep hdd hd0 m hm hat
 have h30:(1:Int)≤3 ^ d:=by exact_mod_cast Nat.one_le_pow d 3 (by omega)
 have hm0:=hm.at0
 obtain ⟨k,p0,p1,hp⟩:=pick_ok 8 m (by omega) hm (by omega)
 have hm1:MOk { L:=m.L,At:=m.At+1 }:=⟨hm.bytes,hm.len,by simp only;omega⟩
 by_cases hleaf:(decide (deep < 1) || (decide (k < 2) || decide (m.At+1≥(m.L.length:Int))))=true
 ·obtain ⟨r,o,c1,c2,c3,c4,c5⟩:=leaf_ok _ hm1 (by simp only;omega)
  exact ⟨r,o,W_hecklelaw03_Maker_Rx deep m _ _ ⟨_,_,hp,fun _=>⟨_,_,c1,rfl,rfl⟩,fun h=>(by rw [hleaf] at h;cases h)⟩,good_mono c2 (by omega),c3,by simp only at c4;omega,by simp only at c5;omega⟩
 have hleaf:(decide (deep < 1) || (decide (k < 2) || decide (m.At+1≥(m.L.length:Int))))=false:=by simpa using hleaf
 have hdp:1≤deep:=by simp only [Bool.or_eq_false_iff,decide_eq_false_iff_not] at hleaf;omega
 obtain ⟨e,rfl⟩:∃ e,d=e+1:=⟨d - 1,by omega⟩
 have h3:(3:Int) ^ (e+1)=3 * 3 ^ e:=by rw [Int.pow_succ];omega
 have h3e:(1:Int)≤3 ^ e:=by exact_mod_cast Nat.one_le_pow e 3 (by omega)
 have hw1:w64 (deep - 1)=deep - 1:=w64_id (by omega) (by omega)
 have hw2:w64 (deep - 2)=deep - 2:=w64_id (by omega) (by omega)
 by_cases hk5:k < 5
 ·obtain ⟨r1,o1,c1,g1,l1,u1,v1⟩:=ih e (by omega) (by omega) (deep - 1) (by omega) (by omega) _ hm1 (by simp only;omega)
  simp only at l1 u1 v1
  obtain ⟨r2,o2,c2,g2,l2,u2,v2⟩:=ih e (by omega) (by omega) (deep - 1) (by omega) (by omega) o1 ⟨by rw [l1];exact hm.bytes,by rw [l1];exact hm.len,by omega⟩ (by omega)
  refine ⟨_,o2,W_hecklelaw03_Maker_Rx deep m _ _ ⟨_,_,hp,fun h=>(by rw [hleaf] at h;cases h),fun _=>⟨fun _=>⟨_,_,by rw [hw1];exact c1,_,_,by rw [hw1];exact c2,_,joined_ok 3 r1 r2 (good_len g1 (by omega)).1 (good_len g2 (by omega)).1,rfl,rfl⟩,fun h=>absurd hk5 (by simpa using h)⟩⟩,joined_good (.inl rfl) g1 g2,by rw [l2,l1],by omega,by omega⟩
 by_cases hk5':k=5
 ·obtain ⟨r1,o1,c1,g1,l1,u1,v1⟩:=ih e (by omega) (by omega) (deep - 1) (by omega) (by omega) _ hm1 (by simp only;omega)
  simp only at l1 u1 v1
  obtain ⟨r2,o2,c2,g2,l2,u2,v2⟩:=ih e (by omega) (by omega) (deep - 1) (by omega) (by omega) o1 ⟨by rw [l1];exact hm.bytes,by rw [l1];exact hm.len,by omega⟩ (by omega)
  refine ⟨_,o2,W_hecklelaw03_Maker_Rx deep m _ _ ⟨_,_,hp,fun h=>(by rw [hleaf] at h;cases h),fun _=>⟨fun h=>absurd (by simpa using h) hk5,fun _=>⟨fun _=>⟨_,_,by rw [hw1];exact c1,_,_,by rw [hw1];exact c2,_,joined_ok 4 r1 r2 (good_len g1 (by omega)).1 (good_len g2 (by omega)).1,rfl,rfl⟩,fun h=>absurd hk5' (by simpa using h)⟩⟩⟩,joined_good (.inr rfl) g1 g2,by rw [l2,l1],by omega,by omega⟩
 obtain ⟨lo,q0,q1,hq⟩:=pick_ok 3 _ (by omega) hm1 (by simp only;omega)
 simp only at hq
 have hm2:MOk { L:=m.L,At:=m.At+1+1 }:=⟨hm.bytes,hm.len,by simp only;omega⟩
 obtain ⟨st,s0,s1,hs⟩:=pick_ok 2 _ (by omega) hm2 (by simp only;omega)
 simp only at hs
 have hm3:MOk { L:=m.L,At:=m.At+1+1+1 }:=⟨hm.bytes,hm.len,by simp only;omega⟩
 obtain ⟨more,t0,t1,ht⟩:=pick_ok 2 _ (by omega) hm3 (by simp only;omega)
 simp only at ht
 have kid:∀ a:Int,m.At+1≤a→a≤m.At+4→∃ r o,C_hecklelaw03_Maker_Rx (deep - 2) { L:=m.L,At:=a } r o∧Good e r∧o.L=m.L∧m.At≤o.At∧o.At≤m.At+10 * 3 ^ (e+1):=by
  intro a ha1 ha2
  obtain ⟨r,o,c,g,l,u,v⟩:=ih e (by omega) (by omega) (deep - 2) (by omega) (by omega) { L:=m.L,At:=a } ⟨hm.bytes,hm.len,by simp only;omega⟩ (by simp only;omega)
  simp only at l u v
  exact ⟨r,o,c,g,l,by omega,by omega⟩
 have good:∀ {r:api_Rx} {hi:Int},Good e r→timesB lo hi=true→Good (e+1) ⟨5,zset,lo,hi,[r]⟩:=by
  intro r hi g htm
  constructor
  ·rw [rgt_eq]
   have hz:noSet zset=true:=rfl
   have e1:(((e+1:Nat):Int)+1 - 1)=(e:Int)+1:=by omega
   have e2:decide ((((e+1:Nat):Int)+1) > 0)=true:=by simp;omega
   rw [e1,e2]
   simp [ownB,hz,htm,oddK,g.right]
  ·rw [cnt_eq]
   have:=g.small
   have epow:2 ^ (e+1+1)=2 ^ (e+1)+2 ^ (e+1):=by rw [Nat.pow_succ];omega
   have:1≤2 ^ (e+1):=Nat.one_le_two_pow
   simp;omega
 have hwhi:w64 ((if lo > 1 then lo else 1)+more)=(if lo > 1 then lo else 1)+more:=by
  split<;>exact w64_id (by omega) (by omega)
 have fin:∀ (a hi:Int),m.At+1≤a→a≤m.At+4→timesB lo hi=true→((st=1∧a=m.At+4∧hi=(if lo > 1 then lo else 1)+more)∨(st≠1∧a=m.At+3∧hi = -1))→
  ∃ r o,C_hecklelaw03_Maker_Rx deep m r o∧Good (e+1) r∧o.L=m.L∧m.At≤o.At∧o.At≤m.At+10 * 3 ^ (e+1):=by
  intro a hi ha1 ha2 htm hcase
  obtain ⟨r,o,c,g,l,u,v⟩:=kid a ha1 ha2
  refine ⟨_,o,W_hecklelaw03_Maker_Rx deep m _ _ ⟨_,_,hp,fun h=>(by rw [hleaf] at h;cases h),fun _=>⟨fun h=>absurd (by simpa using h) hk5,fun _=>⟨fun h=>absurd (by simpa using h) hk5',fun _=>⟨_,_,hq,fun L A H=>L=m.L∧A=a∧H=hi,?_,_,_,hs,fun h1=>?_,fun h1=>?_⟩⟩⟩⟩,good g htm,l,u,v⟩
  ·rintro L A H ⟨rfl,rfl,rfl⟩
   exact ⟨_,_,by rw [hw2];exact c,rfl,rfl⟩
  ·have h1:st=1:=by simpa using h1
   rcases hcase with ⟨_,rfl,rfl⟩ | ⟨h2,_⟩
   ·exact ⟨_,_,ht,rfl,by simp only;omega,hwhi⟩
   ·exact absurd h1 h2
  ·have h1:st≠1:=by simpa using h1
   rcases hcase with ⟨h2,_⟩ | ⟨_,rfl,rfl⟩
   ·exact absurd h2 h1
   ·exact ⟨rfl,by simp only;omega,rfl⟩
 by_cases h1:st=1
 ·refine fin (m.At+4) ((if lo > 1 then lo else 1)+more) (by omega) (by omega) ?_ (.inl ⟨h1,rfl,rfl⟩)
  simp only [timesB,Bool.and_eq_true,decide_eq_true_eq,Bool.or_eq_true]
  refine ⟨by omega,by omega,.inr ⟨?_,?_⟩⟩<;>split<;>omega
 ·refine fin (m.At+3) (-1) (by omega) (by omega) ?_ (.inr ⟨h1,rfl,rfl⟩)
  simp only [timesB,Bool.and_eq_true,decide_eq_true_eq,Bool.or_eq_true]
  exact ⟨by omega,by omega,.inl (by simp)⟩
end Go.Ev.Pl
set_option linter.unusedSimpArgs false
set_option linter.unusedVariables false
namespace Go.Ev.Pl
open Go Go.Ev
section
variable (N : Nat) (B : Nat → Int)
def hdS (sets:List arr4_uint64) (p i:Nat):Prop:=i < N∧∃ s,sets[p]?=some s∧setHas s (B i)=true
inductive Pth (sets:List arr4_uint64) (last:Nat→Bool) (fo:Nat→Nat→Bool):Nat→Nat→Nat→Prop where
 | last {p i:Nat} (h:hdS N B sets p i) (hl:last p=true):Pth sets last fo p i (i+1)
 | step {p q i j:Nat} (h:hdS N B sets p i) (hf:fo p q=true) (hp:Pth sets last fo q (i+1) j):Pth sets last fo p i j
def one (g:GA) (i j:Nat):Prop:=∃ p,g.first p=true∧Pth N B g.sets g.last g.follow p i j
def acc (g:GA) (i j:Nat):Prop:=(g.null=true∧i=j)∨one N B g i j
variable {N B}
theorem pth_lt {sets:List arr4_uint64} {last:Nat→Bool} {fo:Nat→Nat→Bool} {p i j:Nat} (h:Pth N B sets last fo p i j):i < j∧j≤N:=by
 induction h with
 | last h _=>exact ⟨by omega,h.1⟩
 | step h _ _ ih=>omega
theorem acc_le {g:GA} {i j:Nat} (h:acc N B g i j) (hi:i≤N):i≤j∧j≤N:=by
 rcases h with ⟨_,rfl⟩ | ⟨p,_,h⟩
 ·exact ⟨Nat.le_refl _,hi⟩
 ·have:=pth_lt h;omega
theorem pth_map {sets sets':List arr4_uint64} {last last':Nat→Bool} {fo fo':Nat→Nat→Bool} (I:Nat→Prop) (f:Nat→Nat) (hI:∀ p q i,I p→hdS N B sets p i→fo p q=true→I q)
 (h1:∀ p i,I p→hdS N B sets p i→hdS N B sets' (f p) i) (h2:∀ p i,I p→hdS N B sets p i→last p=true→last' (f p)=true)
 (h3:∀ p q i,I p→hdS N B sets p i→fo p q=true→fo' (f p) (f q)=true) {p i j:Nat} (h:Pth N B sets last fo p i j):I p→Pth N B sets' last' fo' (f p) i j:=by
 induction h with
 | last h hl=>exact fun hp=>.last (h1 _ _ hp h) (h2 _ _ hp h hl)
 | step h hf _ ih=>exact fun hp=>.step (h1 _ _ hp h) (h3 _ _ _ hp h hf) (ih (hI _ _ _ hp h hf))
theorem hd_lt {sets:List arr4_uint64} {p i:Nat} (h:hdS N B sets p i):p < sets.length:=by
 obtain ⟨_,s,hs,_⟩:=h;exact (List.getElem?_eq_some_iff.1 hs).1
theorem hd_left {s t:List arr4_uint64} {p i:Nat} (hp:p < s.length):hdS N B (s++t) p i↔hdS N B s p i:=by
 unfold hdS;rw [List.getElem?_append_left hp]
theorem hd_right {s t:List arr4_uint64} {p i:Nat}:hdS N B (s++t) (s.length+p) i↔hdS N B t p i:=by
 unfold hdS;rw [List.getElem?_append_right (by omega),show s.length+p - s.length=p by omega]
variable {a b : GA}
theorem cat_right (ha:Canon a) {p i j:Nat}:Pth N B (gCat a b).sets (gCat a b).last (gCat a b).follow (a.n+p) i j↔Pth N B b.sets b.last b.follow p i j:=by
 constructor
 ·intro h
  have:=pth_map (sets':=b.sets) (last':=b.last) (fo':=b.follow) (fun q=>a.n≤q) (fun q=>q - a.n) ?_ ?_ ?_ ?_ h (by omega)
  ·rwa [show a.n+p - a.n=p by omega] at this
  ·intro p q i hp _ hf
   simp only [gCat,blk] at hf
   rw [if_neg (by omega)] at hf
   by_cases hq:q < a.n
   ·rw [if_pos hq] at hf;cases hf
   ·omega
  ·intro p i hp hd
   have hd:hdS N B (a.sets++b.sets) p i:=hd
   rw [show p=a.sets.length+(p - a.n) by rw [ha.sets];omega] at hd
   exact hd_right.1 hd
  ·intro p i hp _ hl
   simp only [gCat] at hl
   rwa [if_neg (by omega)] at hl
  ·intro p q i hp _ hf
   simp only [gCat,blk] at hf
   rw [if_neg (by omega)] at hf
   by_cases hq:q < a.n
   ·rw [if_pos hq] at hf;cases hf
   ·rwa [if_neg hq] at hf
 ·intro h
  refine pth_map (fun _=>True) (fun q=>a.n+q) (fun _ _ _ _ _ _=>trivial) ?_ ?_ ?_ h trivial
  ·intro p i _ hd
   show hdS N B (a.sets++b.sets) (a.n+p) i
   rw [← ha.sets];exact hd_right.2 hd
  ·intro p i _ _ hl
   simp only [gCat];rwa [if_neg (by omega),show a.n+p - a.n=p by omega]
  ·intro p q i _ _ hf
   simp only [gCat,blk];rwa [if_neg (by omega),if_neg (by omega),show a.n+p - a.n=p by omega,show a.n+q - a.n=q by omega]
theorem cat_left (ha:Canon a) {p i j:Nat} (hp:p < a.n):Pth N B (gCat a b).sets (gCat a b).last (gCat a b).follow p i j↔
 (b.null=true∧Pth N B a.sets a.last a.follow p i j)∨∃ k,Pth N B a.sets a.last a.follow p i k∧one N B b k j:=by
 constructor
 ·intro h
  generalize hs:(gCat a b).sets=sets at h
  generalize hl:(gCat a b).last=last at h
  generalize hf:(gCat a b).follow=fo at h
  induction h with
  | last h hl'=>
    subst hs hl
    have hd:=(hd_left (t:=b.sets) (by rw [ha.sets];exact hp)).1 h
    simp only [gCat,if_pos hp,Bool.and_eq_true] at hl'
    exact .inl ⟨hl'.1,.last hd hl'.2⟩
  | @step p q i j h hf' hq ih=>
    have hd:=(hd_left (t:=b.sets) (by rw [ha.sets];exact hp)).1 (by rw [← hs] at h;exact h)
    have hf2:=hf'
    rw [← hf] at hf2
    simp only [gCat,blk,if_pos hp] at hf2
    by_cases hqn:q < a.n
    ·rw [if_pos hqn] at hf2
     rcases ih hqn with ⟨h1,h2⟩ | ⟨k,h1,h2⟩
     ·exact .inl ⟨h1,.step hd hf2 h2⟩
     ·exact .inr ⟨k,.step hd hf2 h1,h2⟩
    ·rw [if_neg hqn,Bool.and_eq_true] at hf2
     rw [← hs,← hl,← hf,show q=a.n+(q - a.n) by omega,cat_right ha] at hq
     exact .inr ⟨i+1,.last hd hf2.1,q - a.n,hf2.2,hq⟩
 ·rintro (⟨hn,h⟩ | ⟨k,h,q,hq,h2⟩)
  ·refine pth_map (fun q=>True) (fun q=>q) (fun _ _ _ _ _ _=>trivial) ?_ ?_ ?_ h trivial
   ·exact fun p i _ hd=>(hd_left (hd_lt hd)).2 hd
   ·intro p i _ hd hl
    have:=hd_lt hd
    rw [ha.sets] at this
    simp only [gCat,if_pos this,hn,hl];rfl
   ·intro p q i _ hd hf
    have:=hd_lt hd
    rw [ha.sets] at this
    have hqn:q < a.n:=by
     rcases Nat.lt_or_ge q a.n with h | h
     ·exact h
     ·rw [ha.follow p q (.inr h)] at hf;cases hf
    simp only [gCat,blk,if_pos this,if_pos hqn,hf]
  ·induction h with
   | last h hl=>
     have hd:=(hd_left (t:=b.sets) (hd_lt h)).2 h
     refine .step (q:=a.n+q) hd ?_ ((cat_right ha).2 h2)
     simp only [gCat,blk,if_pos hp]
     rw [if_neg (by omega),show a.n+q - a.n=q by omega,hl,hq];rfl
   | @step p q' i j h hf hp' ih=>
     have hd:=(hd_left (t:=b.sets) (hd_lt h)).2 h
     have hqn:q' < a.n:=by
      rcases Nat.lt_or_ge q' a.n with h | h
      ·exact h
      ·rw [ha.follow p q' (.inr h)] at hf;cases hf
     refine .step (q:=q') hd ?_ (ih hqn h2)
     simp only [gCat,blk,if_pos hp,if_pos hqn,hf]
theorem first_lt (ha:Canon a) {p:Nat} (h:a.first p=true):p < a.n:=by
 rcases Nat.lt_or_ge p a.n with h1 | h1
 ·exact h1
 ·rw [ha.first p h1] at h;cases h
theorem acc_cat (ha:Canon a) {i j:Nat}:acc N B (gCat a b) i j↔∃ k,acc N B a i k∧acc N B b k j:=by
 constructor
 ·rintro (⟨hn,rfl⟩ | ⟨p,hf,h⟩)
  ·simp only [gCat,Bool.and_eq_true] at hn
   exact ⟨i,.inl ⟨hn.1,rfl⟩,.inl ⟨hn.2,rfl⟩⟩
  ·by_cases hp:p < a.n
   ·simp only [gCat,if_pos hp] at hf
    rcases (cat_left ha hp).1 h with ⟨h1,h2⟩ | ⟨k,h1,h2⟩
    ·exact ⟨j,.inr ⟨p,hf,h2⟩,.inl ⟨h1,rfl⟩⟩
    ·exact ⟨k,.inr ⟨p,hf,h1⟩,.inr h2⟩
   ·simp only [gCat,if_neg hp,Bool.and_eq_true] at hf
    rw [show p=a.n+(p - a.n) by omega,cat_right ha] at h
    exact ⟨i,.inl ⟨hf.1,rfl⟩,.inr ⟨_,hf.2,h⟩⟩
 ·rintro ⟨k,(⟨h1,rfl⟩ | ⟨p,h1,h2⟩),(⟨h3,rfl⟩ | ⟨q,h3,h4⟩)⟩
  ·exact .inl ⟨by simp only [gCat,h1,h3];rfl,rfl⟩
  ·refine .inr ⟨a.n+q,?_,(cat_right ha).2 h4⟩
   simp only [gCat];rw [if_neg (by omega),show a.n+q - a.n=q by omega,h1,h3];rfl
  ·have hp:=first_lt ha h1
   exact .inr ⟨p,by simp only [gCat,if_pos hp,h1],(cat_left ha hp).2 (.inl ⟨h3,h2⟩)⟩
  ·have hp:=first_lt ha h1
   exact .inr ⟨p,by simp only [gCat,if_pos hp,h1],(cat_left ha hp).2 (.inr ⟨k,h2,q,h3,h4⟩)⟩
theorem alt_left (ha:Canon a) {p i j:Nat} (hp:p < a.n):Pth N B (gAlt a b).sets (gAlt a b).last (gAlt a b).follow p i j↔Pth N B a.sets a.last a.follow p i j:=by
 constructor
 ·intro h
  refine pth_map (fun q=>q < a.n) (fun q=>q) ?_ ?_ ?_ ?_ h hp
  ·intro p q i hp _ hf
   simp only [gAlt,blk,if_pos hp] at hf
   by_cases hq:q < a.n
   ·exact hq
   ·rw [if_neg hq] at hf;cases hf
  ·exact fun p i hp hd=>(hd_left (t:=b.sets) (by rw [ha.sets];exact hp)).1 hd
  ·intro p i hp _ hl;simpa only [gAlt,if_pos hp] using hl
  ·intro p q i hp _ hf
   simp only [gAlt,blk,if_pos hp] at hf
   by_cases hq:q < a.n
   ·rwa [if_pos hq] at hf
   ·rw [if_neg hq] at hf;cases hf
 ·intro h
  refine pth_map (fun q=>True) (fun q=>q) (fun _ _ _ _ _ _=>trivial) ?_ ?_ ?_ h trivial
  ·exact fun p i _ hd=>(hd_left (hd_lt hd)).2 hd
  ·intro p i _ hd hl
   have:=hd_lt hd
   rw [ha.sets] at this
   simp only [gAlt,if_pos this,hl]
  ·intro p q i _ hd hf
   have:=hd_lt hd
   rw [ha.sets] at this
   have hqn:q < a.n:=by
    rcases Nat.lt_or_ge q a.n with h | h
    ·exact h
    ·rw [ha.follow p q (.inr h)] at hf;cases hf
   simp only [gAlt,blk,if_pos this,if_pos hqn,hf]
theorem alt_right (ha:Canon a) {p i j:Nat}:Pth N B (gAlt a b).sets (gAlt a b).last (gAlt a b).follow (a.n+p) i j↔Pth N B b.sets b.last b.follow p i j:=by
 constructor
 ·intro h
  have:=pth_map (sets':=b.sets) (last':=b.last) (fo':=b.follow) (fun q=>a.n≤q) (fun q=>q - a.n) ?_ ?_ ?_ ?_ h (by omega)
  ·rwa [show a.n+p - a.n=p by omega] at this
  ·intro p q i hp _ hf
   simp only [gAlt,blk] at hf
   rw [if_neg (by omega)] at hf
   by_cases hq:q < a.n
   ·rw [if_pos hq] at hf;cases hf
   ·omega
  ·intro p i hp hd
   have hd:hdS N B (a.sets++b.sets) p i:=hd
   rw [show p=a.sets.length+(p - a.n) by rw [ha.sets];omega] at hd
   exact hd_right.1 hd
  ·intro p i hp _ hl
   simp only [gAlt] at hl
   rwa [if_neg (by omega)] at hl
  ·intro p q i hp _ hf
   simp only [gAlt,blk] at hf
   rw [if_neg (by omega)] at hf
   by_cases hq:q < a.n
   ·rw [if_pos hq] at hf;cases hf
   ·rwa [if_neg hq] at hf
 ·intro h
  refine pth_map (fun _=>True) (fun q=>a.n+q) (fun _ _ _ _ _ _=>trivial) ?_ ?_ ?_ h trivial
  ·intro p i _ hd
   show hdS N B (a.sets++b.sets) (a.n+p) i
   rw [← ha.sets];exact hd_right.2 hd
  ·intro p i _ _ hl
   simp only [gAlt];rwa [if_neg (by omega),show a.n+p - a.n=p by omega]
  ·intro p q i _ _ hf
   simp only [gAlt,blk];rwa [if_neg (by omega),if_neg (by omega),show a.n+p - a.n=p by omega,show a.n+q - a.n=q by omega]
theorem acc_alt (ha:Canon a) {i j:Nat}:acc N B (gAlt a b) i j↔acc N B a i j∨acc N B b i j:=by
 constructor
 ·rintro (⟨hn,rfl⟩ | ⟨p,hf,h⟩)
  ·simp only [gAlt,Bool.or_eq_true] at hn
   exact hn.imp (fun h=>.inl ⟨h,rfl⟩) fun h=>.inl ⟨h,rfl⟩
  ·by_cases hp:p < a.n
   ·simp only [gAlt,if_pos hp] at hf
    exact .inl (.inr ⟨p,hf,(alt_left ha hp).1 h⟩)
   ·simp only [gAlt,if_neg hp] at hf
    rw [show p=a.n+(p - a.n) by omega,alt_right ha] at h
    exact .inr (.inr ⟨_,hf,h⟩)
 ·rintro ((⟨h1,rfl⟩ | ⟨p,h1,h2⟩) | (⟨h1,rfl⟩ | ⟨q,h3,h4⟩))
  ·exact .inl ⟨by simp only [gAlt,h1];rfl,rfl⟩
  ·have hp:=first_lt ha h1
   exact .inr ⟨p,by simp only [gAlt,if_pos hp,h1],(alt_left ha hp).2 h2⟩
  ·exact .inl ⟨by simp only [gAlt,h1];simp,rfl⟩
  ·refine .inr ⟨a.n+q,?_,(alt_right ha).2 h4⟩
   simp only [gAlt];rw [if_neg (by omega),show a.n+q - a.n=q by omega,h3]
def pow (R:Nat→Nat→Prop):Nat→Nat→Nat→Prop
 | 0,i,j=>i=j
 | m+1,i,j=>∃ k,pow R m i k∧R k j
theorem pow_add {R:Nat→Nat→Prop} {m:Nat}:∀ {q i j:Nat},pow R (m+q) i j↔∃ k,pow R m i k∧pow R q k j
 | 0,i,j=>⟨fun h=>⟨j,h,rfl⟩,fun ⟨k,h,e⟩=>by cases e;exact h⟩
 | q+1,i,j=>by
   show (∃ k,pow R (m+q) i k∧R k j)↔_
   constructor
   ·rintro ⟨k,h1,h2⟩
    obtain ⟨l,h3,h4⟩:=pow_add.1 h1
    exact ⟨l,h3,k,h4,h2⟩
   ·rintro ⟨l,h3,k,h4,h2⟩
    exact ⟨k,pow_add.2 ⟨l,h3,h4⟩,h2⟩
theorem pow_one {R:Nat→Nat→Prop} {i j:Nat}:pow R 1 i j↔R i j:=⟨fun ⟨k,e,h⟩=>by cases e;exact h,fun h=>⟨i,rfl,h⟩⟩
theorem pow_front {R:Nat→Nat→Prop} {m i j:Nat}:pow R (m+1) i j↔∃ k,R i k∧pow R m k j:=by
 rw [Nat.add_comm,pow_add]
 exact ⟨fun ⟨k,h1,h2⟩=>⟨k,pow_one.1 h1,h2⟩,fun ⟨k,h1,h2⟩=>⟨k,pow_one.2 h1,h2⟩⟩
theorem acc_empty {i j:Nat}:acc N B gEmpty i j↔i=j:=by
 constructor
 ·rintro (⟨_,h⟩ | ⟨p,h,_⟩)
  ·exact h
  ·cases h
 ·exact fun h=>.inl ⟨rfl,h⟩
theorem acc_none {i j:Nat}:¬ acc N B gNone i j:=fun h=>by
 rcases h with ⟨h,_⟩ | ⟨p,h,_⟩<;>cases h
theorem acc_byte {s:arr4_uint64} {i j:Nat}:acc N B (gByte s) i j↔i < N∧setHas s (B i)=true∧j=i+1:=by
 constructor
 ·rintro (⟨h,_⟩ | ⟨p,h,h2⟩)
  ·cases h
  ·simp only [gByte,beq_iff_eq] at h
   subst h
   cases h2 with
   | last h hl=>
     obtain ⟨h1,s',h2,h3⟩:=h
     simp only [gByte,List.getElem?_cons_zero,Option.some.injEq] at h2
     subst h2
     exact ⟨h1,h3,rfl⟩
   | step h hf _=>cases hf
 ·rintro ⟨h1,h2,rfl⟩
  exact .inr ⟨0,rfl,.last ⟨h1,s,rfl,h2⟩ rfl⟩
theorem acc_maybe {i j:Nat}:acc N B (gMaybe a) i j↔i=j∨acc N B a i j:=by
 constructor
 ·rintro (⟨_,h⟩ | h)
  ·exact .inl h
  ·exact .inr (.inr h)
 ·rintro (h | ⟨_,h⟩ | h)
  ·exact .inl ⟨rfl,h⟩
  ·exact .inl ⟨rfl,h⟩
  ·exact .inr h
theorem acc_again {i j:Nat}:acc N B (gAgain a) i j↔∃ m,pow (acc N B a) (m+1) i j:=by
 constructor
 ·rintro (⟨hn,rfl⟩ | ⟨p,hp,h⟩)
  ·exact ⟨0,pow_one.2 (.inl ⟨hn,rfl⟩)⟩
  ·have key:∀ {p i j:Nat},Pth N B a.sets a.last (gAgain a).follow p i j→∃ k m,Pth N B a.sets a.last a.follow p i k∧pow (acc N B a) m k j:=by
    intro p i j h
    induction h with
    | last h hl=>exact ⟨_,0,.last h hl,rfl⟩
    | @step p q i j h hf hq ih=>
      obtain ⟨k,m,h1,h2⟩:=ih
      simp only [gAgain,Bool.or_eq_true,Bool.and_eq_true] at hf
      rcases hf with hf | ⟨hl,hq⟩
      ·exact ⟨k,m,.step h hf h1,h2⟩
      ·exact ⟨i+1,m+1,.last h hl,pow_front.2 ⟨k,.inr ⟨q,hq,h1⟩,h2⟩⟩
   obtain ⟨k,m,h1,h2⟩:=key h
   exact ⟨m,pow_front.2 ⟨k,.inr ⟨p,hp,h1⟩,h2⟩⟩
 ·rintro ⟨m,h⟩
  have mono:∀ {p i j:Nat},Pth N B a.sets a.last a.follow p i j→Pth N B a.sets a.last (gAgain a).follow p i j:=by
   intro p i j h
   exact pth_map (fun _=>True) (fun q=>q) (fun _ _ _ _ _ _=>trivial) (fun _ _ _ h=>h) (fun _ _ _ _ h=>h) (fun p q i _ _ hf=>by simp only [gAgain,hf];rfl) h trivial
  have glue:∀ {p i k q j:Nat},Pth N B a.sets a.last a.follow p i k→a.first q=true→Pth N B a.sets a.last (gAgain a).follow q k j→Pth N B a.sets a.last (gAgain a).follow p i j:=by
   intro p i k q j h hq h2
   induction h with
   | last h hl=>exact .step h (by simp only [gAgain,hl,hq];simp) h2
   | step h hf _ ih=>exact .step h (by simp only [gAgain,hf];rfl) (ih h2)
  induction m generalizing i with
  | zero=>
    rcases pow_one.1 h with ⟨hn,rfl⟩ | ⟨p,hp,h⟩
    ·exact .inl ⟨hn,rfl⟩
    ·exact .inr ⟨p,hp,mono h⟩
  | succ m ih=>
    obtain ⟨k,h1,h2⟩:=pow_front.1 h
    have h2:=ih h2
    rcases h1 with ⟨hn,rfl⟩ | ⟨p,hp,h1⟩
    ·exact h2
    ·rcases h2 with ⟨hn,rfl⟩ | ⟨q,hq,h2⟩
     ·exact .inr ⟨p,hp,mono h1⟩
     ·exact .inr ⟨p,hp,glue h1 hq h2⟩
theorem acc_iter (ha:Canon a) {z:GA}:∀ {k i j:Nat},acc N B (iter (gCat a) k z) i j↔∃ l,pow (acc N B a) k i l∧acc N B z l j
 | 0,i,j=>⟨fun h=>⟨i,rfl,h⟩,fun ⟨l,e,h⟩=>by cases e;exact h⟩
 | k+1,i,j=>by
   rw [iter,acc_cat ha]
   constructor
   ·rintro ⟨m,h1,h2⟩
    obtain ⟨l,h3,h4⟩:=(acc_iter ha).1 h2
    exact ⟨l,pow_front.2 ⟨m,h1,h3⟩,h4⟩
   ·rintro ⟨l,h1,h2⟩
    obtain ⟨m,h3,h4⟩:=pow_front.1 h1
    exact ⟨m,h3,(acc_iter ha).2 ⟨l,h4,h2⟩⟩
theorem acc_upto (ha:Canon a):∀ {k i j:Nat},acc N B (iter (fun o=>gMaybe (gCat a o)) k gEmpty) i j↔∃ m,m≤k∧pow (acc N B a) m i j
 | 0,i,j=>by
   rw [iter,acc_empty]
   constructor
   ·exact fun h=>⟨0,Nat.le_refl _,h⟩
   ·rintro ⟨m,h,e⟩
    have hm:m=0:=by omega
    subst hm
    exact e
 | k+1,i,j=>by
   rw [iter,acc_maybe,acc_cat ha]
   constructor
   ·rintro (h | ⟨l,h1,h2⟩)
    ·exact ⟨0,by omega,h⟩
    ·obtain ⟨m,h3,h4⟩:=(acc_upto ha).1 h2
     exact ⟨m+1,by omega,pow_front.2 ⟨l,h1,h4⟩⟩
   ·rintro ⟨m,h1,h2⟩
    cases m with
    | zero=>exact .inl h2
    | succ m=>
      obtain ⟨l,h3,h4⟩:=pow_front.1 h2
      exact .inr ⟨l,h3,(acc_upto ha).2 ⟨m,by omega,h4⟩⟩
theorem acc_rep (ha:Canon a) {lo hi:Int} (h0:0≤lo) (h1:hi = -1∨1≤hi∧lo≤hi) {i j:Nat}:acc N B (gRep a lo hi) i j↔∃ q,(hi < 0∨lo+(q:Nat)≤hi)∧pow (acc N B a) (lo.toNat+q) i j:=by
 unfold gRep
 split
 ·rename_i hh
  rw [acc_iter ha]
  by_cases hl:lo=0
  ·subst hl
   rw [show (max (0:Int) 1 - 1).toNat=0 from rfl]
   simp only [if_true]
   constructor
   ·rintro ⟨l,e,h⟩
    cases e
    rcases acc_maybe.1 h with e | h
    ·exact ⟨0,.inl hh,e⟩
    ·obtain ⟨m,h⟩:=acc_again.1 h
     refine ⟨m+1,.inl hh,?_⟩
     rw [show (0:Int).toNat=0 from rfl,Nat.zero_add];exact h
   ·rintro ⟨q,_,h⟩
    rw [show (0:Int).toNat=0 from rfl,Nat.zero_add] at h
    refine ⟨i,rfl,acc_maybe.2 ?_⟩
    cases q with
    | zero=>exact .inl h
    | succ q=>exact .inr (acc_again.2 ⟨q,h⟩)
  ·rw [if_neg hl]
   obtain ⟨n,hn⟩:∃ n:Nat,lo=((n+1:Nat):Int):=⟨(lo - 1).toNat,by omega⟩
   subst hn
   rw [show (max (((n+1:Nat):Int)) 1 - 1).toNat=n by omega]
   have e2:((n+1:Nat):Int).toNat=n+1:=by omega
   rw [e2]
   constructor
   ·rintro ⟨l,h2,h3⟩
    obtain ⟨m,h4⟩:=acc_again.1 h3
    refine ⟨m,.inl hh,?_⟩
    rw [show n+1+m=n+(m+1) by omega]
    exact pow_add.2 ⟨l,h2,h4⟩
   ·rintro ⟨q,_,h⟩
    rw [show n+1+q=n+(q+1) by omega] at h
    obtain ⟨l,h2,h3⟩:=pow_add.1 h
    exact ⟨l,h2,acc_again.2 ⟨q,h3⟩⟩
 ·rename_i hh
  rw [acc_iter ha]
  constructor
  ·rintro ⟨l,h2,h3⟩
   obtain ⟨m,h4,h5⟩:=(acc_upto ha).1 h3
   exact ⟨m,.inr (by omega),pow_add.2 ⟨l,h2,h5⟩⟩
  ·rintro ⟨q,h2,h3⟩
   obtain ⟨l,h4,h5⟩:=pow_add.1 h3
   exact ⟨l,h4,(acc_upto ha).2 ⟨q,by omega,h5⟩⟩
end
end Go.Ev.Pl
set_option linter.unusedSimpArgs false
set_option linter.unusedVariables false
namespace Go.Ev.Pl
open Go Go.Ev
noncomputable def bl (N:Nat) (P:Nat→Prop):List Bool:=(List.range (N+1)).map fun j=>@decide (P j) (Classical.propDecidable _)
theorem bl_len (N:Nat) (P:Nat→Prop):(bl N P).length=N+1:=by simp [bl]
theorem bl_get {N:Nat} {P:Nat→Prop} {j:Nat} (h:j < (bl N P).length):(bl N P)[j]=@decide (P j) (Classical.propDecidable _):=by simp [bl]
theorem bl_gd {N:Nat} {P:Nat→Prop} {j:Nat} (h:j≤N):gd (bl N P) (j:Int)=true↔P j:=by
 rw [gd_nat (by rw [bl_len];omega),bl_get];simp
theorem bl_gdf {N:Nat} {P:Nat→Prop} {j:Nat} (h:j≤N):gd (bl N P) (j:Int)=false↔¬ P j:=by
 rw [gd_nat (by rw [bl_len];omega),bl_get];simp
theorem bl_congr {N:Nat} {P Q:Nat→Prop} (h:∀ j,j≤N→(P j↔Q j)):bl N P=bl N Q:=by
 unfold bl
 refine List.map_congr_left fun j hj=>?_
 have:=h j (by have:=List.mem_range.1 hj;omega)
 by_cases hp:P j
 ·simp [hp,this.1 hp]
 ·have hq:¬ Q j:=fun hq=>hp (this.2 hq)
  simp [hp,hq]
theorem bl_ext {N:Nat} {P:Nat→Prop} {l:List Bool} (hl:l.length=N+1) (h:∀ (j:Nat) (hj:j < l.length),l[j]=true↔P j):l=bl N P:=by
 refine List.ext_getElem (by rw [hl,bl_len]) fun j h1 h2=>?_
 rw [bl_get]
 by_cases hp:P j
 ·simp [hp,(h j h1).2 hp]
 ·have:l[j]≠true:=fun e=>hp ((h j h1).1 e)
  simp [hp,this]
theorem bl_none (N:Nat):List.replicate (N+1) false=bl N fun _=>False:=
 bl_ext (by simp) fun j hj=>by simp
theorem bl_copy (N:Nat) (P Q:Nat→Prop):List.take (bl N P).length (bl N Q)++List.drop (bl N Q).length (List.replicate (bl N P).length false)=bl N Q:=by
 rw [bl_len,bl_len,List.take_of_length_le (by rw [bl_len];exact Nat.le_refl _),List.drop_of_length_le (by simp),List.append_nil]
theorem bl_copy1 (N:Nat) (P:Nat→Prop):bl N P++List.drop (bl N P).length (List.replicate (bl N P).length false)=bl N P:=by
 rw [List.drop_of_length_le (by simp),List.append_nil]
theorem bl_set {N:Nat} {P:Nat→Prop} {i:Nat} (b:Bool) (h:i≤N):(bl N P).set i b=bl N fun j=>if j=i then b=true else P j:=
 bl_ext (by rw [List.length_set,bl_len]) fun j hj=>by
  rw [List.getElem_set]
  by_cases hij:i=j
  ·subst hij;simp
  ·rw [if_neg hij,if_neg (fun e=>hij e.symm),bl_get];simp
theorem or_ok {N:Nat} (hN:N < 100000) (P Q:Nat→Prop):C_heckleref05_or (bl N P) (bl N Q) (bl N fun j=>P j∨Q j):=by
 have hl:=bl_len N P
 refine W_heckleref05_or _ _ _ ⟨fun out t=>∃ i:Nat,t=i∧i≤N+1∧out=(bl N fun j=>P j∨Q j).take i,fun _ t=>(N+1 - t).toNat,⟨0,rfl,by omega,by simp⟩,?_⟩
 rintro out t ⟨i,rfl,hi,rfl⟩
 rw [hl]
 refine ⟨fun ht=>?_,fun ht=>?_⟩
 ·have ht:i < N+1:=by have:=of_decide_eq_true ht;omega
  have hw2:w64 ((i:Int)+1)=((i+1:Nat):Int):=w64_id (by omega) (by omega)
  have hlt:((bl N fun j=>P j∨Q j).take i).length=i:=by rw [List.length_take,bl_len];omega
  have htk:(bl N fun j=>P j∨Q j).take (i+1)=(bl N fun j=>P j∨Q j).take i++[@decide (P i∨Q i) (Classical.propDecidable _)]:=by
   rw [List.take_succ_eq_append_getElem (by rw [bl_len];omega),bl_get]
  rw [hw2,hlt]
  refine ⟨by omega,by omega,fun hg=>⟨fun _=>by omega,⟨i+1,rfl,by omega,?_⟩,by first | omega | (dsimp only;omega)⟩,fun hg=>⟨fun _=>by omega,fun _=>by rw [bl_len];omega,fun _=>by omega,⟨i+1,rfl,by omega,?_⟩,by first | omega | (dsimp only;omega)⟩⟩
  ·rw [htk]
   have:=(bl_gd (by omega)).1 hg
   simp [this]
  ·rw [htk]
   have hp:=(bl_gdf (by omega)).1 hg
   congr 2
   by_cases hq:Q i
   ·rw [(bl_gd (by omega)).2 hq];simp [hq]
   ·rw [(bl_gdf (by omega)).2 hq];simp [hp,hq]
 ·have ht:i=N+1:=by have:=of_decide_eq_false ht;omega
  subst ht
  rw [List.take_of_length_le (by rw [bl_len];exact Nat.le_refl _)]
theorem within_ok {N:Nat} (hN:N < 100000) (P Q:Nat→Prop) (b:Bool) (hb:b=true↔∀ j,j≤N→P j→Q j):C_heckleref05_within (bl N P) (bl N Q) b:=by
 have hl:=bl_len N P
 have hl2:=bl_len N Q
 refine W_heckleref05_within _ _ _ ⟨fun t=>∃ i:Nat,t=i∧i≤N+1∧∀ j,j < i→P j→Q j,fun t=>(N+1 - t).toNat,⟨0,rfl,by omega,by omega⟩,?_⟩
 rintro t ⟨i,rfl,hi,hall⟩
 rw [hl,hl2]
 refine ⟨fun ht=>?_,fun ht=>?_⟩
 ·have ht:i < N+1:=by have:=of_decide_eq_true ht;omega
  have hw2:w64 ((i:Int)+1)=((i+1:Nat):Int):=w64_id (by omega) (by omega)
  rw [hw2]
  refine ⟨by omega,by omega,fun _=>by omega,fun _=>by omega,fun hg=>?_,fun hg=>⟨⟨i+1,rfl,by omega,?_⟩,by first | omega | (dsimp only;omega)⟩⟩
  ·simp only [Bool.and_eq_true,Bool.not_eq_true'] at hg
   have h1:=(bl_gd (by omega)).1 hg.1
   have h2:=(bl_gdf (by omega)).1 hg.2
   cases b with
   | false=>rfl
   | true=>exact absurd (hb.1 rfl i (by omega) h1) h2
  ·intro j hj hp
   by_cases hji:j=i
   ·subst hji
    rw [(bl_gd (by omega)).2 hp,Bool.true_and,Bool.not_eq_false'] at hg
    exact (bl_gd (by omega)).1 hg
   ·exact hall j (by omega) hp
 ·have ht:i=N+1:=by have:=of_decide_eq_false ht;omega
  subst ht
  exact (hb.2 fun j hj hp=>hall j (by omega) hp)
theorem closed_ok (x:api_Rx):C_heckleref05_closed x (x.Kind == 5 && (decide (x.Hi < 0) && decide (x.Lo≤1))):=W_heckleref05_closed _ _ rfl
open Classical in
noncomputable def cntB (P:Nat→Prop):Nat→Nat
 | 0=>0
 | n+1=>cntB P n+if P n then 1 else 0
theorem cntB_le (P:Nat→Prop):∀ n,cntB P n≤n
 | 0=>Nat.le_refl _
 | n+1=>by have:=cntB_le P n;unfold cntB;split<;>omega
theorem cntB_mono {P Q:Nat→Prop}:∀ n,(∀ j,j < n→P j→Q j)→cntB P n≤cntB Q n
 | 0,_=>Nat.le_refl _
 | n+1,h=>by
   have:=cntB_mono n fun j hj=>h j (by omega)
   unfold cntB
   by_cases hp:P n
   ·rw [if_pos hp,if_pos (h n (by omega) hp)];omega
   ·rw [if_neg hp];split<;>omega
theorem cntB_lt {P Q:Nat→Prop}:∀ n,(∀ j,j < n→P j→Q j)→(∃ j,j < n∧¬ P j∧Q j)→cntB P n+1≤cntB Q n
 | 0,_,⟨j,hj,_⟩=>by omega
 | n+1,h,⟨j,hj,h1,h2⟩=>by
   unfold cntB
   by_cases hjn:j=n
   ·subst hjn
    have:=cntB_mono j fun k hk=>h k (by omega)
    rw [if_neg h1,if_pos h2];omega
   ·have:=cntB_lt n (fun k hk=>h k (by omega)) ⟨j,by omega,h1,h2⟩
    by_cases hp:P n
    ·rw [if_pos hp,if_pos (h n (by omega) hp)];omega
    ·rw [if_neg hp];split<;>omega
theorem cntB_full {P:Nat→Prop}:∀ n,n≤cntB P n→∀ j,j < n→P j
 | 0,_,j,hj=>by omega
 | n+1,h,j,hj=>by
   unfold cntB at h
   have:=cntB_le P n
   by_cases hp:P n
   ·rw [if_pos hp] at h
    by_cases hjn:j=n
    ·subst hjn;exact hp
    ·exact cntB_full n (by omega) j (by omega)
   ·rw [if_neg hp] at h;omega
end Go.Ev.Pl
set_option linter.unusedSimpArgs false
set_option linter.unusedVariables false
namespace Go.Ev.Pl
open Go Go.Ev
def bt (s:ByteArray) (i:Nat):Int:=w64 (((byteAt s (i:Int)).toNat:Nat):Int)
abbrev Tx (s:ByteArray) (g:GA) (F:Nat→Prop) (j:Nat):Prop:=∃ i,i≤s.size∧F i∧acc s.size (bt s) g i j
theorem canon_catF:∀ (l:List api_Rx) (z:GA),Canon z→Canon (l.foldl (fun o y=>gCat o (gof y)) z)
 | [],_,h=>h
 | y :: r,_,h=>canon_catF r _ (canon_cat h (canon_gof y))
theorem canon_altF:∀ (l:List api_Rx) (z:GA),Canon z→Canon (l.foldl (fun o y=>gAlt o (gof y)) z)
 | [],_,h=>h
 | y :: r,_,h=>canon_altF r _ (canon_alt h (canon_gof y))
theorem gof_k1 {x:api_Rx} (h:x.Kind=1):gof x=gEmpty:=by
 rw [gof_eq,if_neg (by omega),if_neg (by omega),if_neg (by omega),if_neg (by omega)]
theorem gof_k2 {x:api_Rx} (h:x.Kind=2):gof x=gByte x.Set:=by rw [gof_eq,if_pos h]
theorem gof_k3 {x:api_Rx} (h:x.Kind=3):gof x=x.Kids.foldl (fun o y=>gCat o (gof y)) gEmpty:=by rw [gof_eq,if_neg (by omega),if_pos h]
theorem gof_k4 {x:api_Rx} (h:x.Kind=4):gof x=x.Kids.foldl (fun o y=>gAlt o (gof y)) gNone:=by rw [gof_eq,if_neg (by omega),if_neg (by omega),if_pos h]
theorem gof_k5 {x k:api_Rx} (h:x.Kind=5) (hk:x.Kids=[k]):gof x=gRep (gof k) x.Lo x.Hi:=by
 rw [gof_eq,if_neg (by omega),if_neg (by omega),if_neg (by omega),if_pos h,hk];rfl
theorem pow_le {N:Nat} {B:Nat→Int} {g:GA}:∀ {m i j:Nat},pow (acc N B g) m i j→i≤N→j≤N
 | 0,i,j,h,hi=>by cases h;exact hi
 | m+1,i,j,⟨k,h1,h2⟩,hi=>(acc_le h2 (pow_le h1 hi)).2
def clo (k:api_Rx):Bool:=k.Kind == 5 && (decide (k.Hi < 0) && decide (k.Lo≤1))
theorem clo_trans {N:Nat} {B:Nat→Int} {k:api_Rx} (hr:Rgt k) (hc:clo k=true) {i l j:Nat} (h1:acc N B (gof k) i l) (h2:acc N B (gof k) l j):acc N B (gof k) i j:=by
 simp only [clo,Bool.and_eq_true,beq_iff_eq,decide_eq_true_eq] at hc
 obtain ⟨h5,hh,hl⟩:=hc
 obtain ⟨⟨k2,hk2⟩,h0,_,hhi⟩:=own_rep (rgt_own hr).1 h5
 rw [gof_k5 h5 hk2] at h1 h2 ⊢
 have hhi:k.Hi = -1∨1≤k.Hi∧k.Lo≤k.Hi:=hhi.imp id fun h=>⟨h.1,h.2.1⟩
 obtain ⟨q1,_,p1⟩:=(acc_rep (canon_gof k2) h0 hhi).1 h1
 obtain ⟨q2,_,p2⟩:=(acc_rep (canon_gof k2) h0 hhi).1 h2
 refine (acc_rep (canon_gof k2) h0 hhi).2 ⟨q1+(k.Lo.toNat+q2),.inl hh,?_⟩
 rw [← Nat.add_assoc]
 exact pow_add.2 ⟨l,p1,p2⟩
theorem pow_trans {R:Nat→Nat→Prop} (hR:∀ i l j,R i l→R l j→R i j):∀ {m i j:Nat},pow R (m+1) i j→R i j
 | 0,i,j,h=>pow_one.1 h
 | m+1,i,j,⟨k,h1,h2⟩=>hR _ _ _ (pow_trans hR h1) h2
theorem st_congr {x:api_Rx} {s:ByteArray} {l:List Bool} {N:Nat} {P Q:Nat→Prop} (h:C_heckleref05_step x s l (bl N P)) (e:∀ j,j≤N→(P j↔Q j)):C_heckleref05_step x s l (bl N Q):=by rw [← bl_congr e];exact h
theorem step_ok (s:ByteArray) (hs:s.size < 99999):∀ x,Wf x→Rgt x→∀ F,C_heckleref05_step x s (bl s.size F) (bl s.size (Tx s (gof x) F)):=by
 refine rxInd fun x ih hw hr F=>?_
 obtain ⟨hl,hk⟩:=(wf_eq x).1 hw
 obtain ⟨ho,hrk⟩:=rgt_own hr
 have hlen:=bl_len s.size F
 have hkind:=own_kind ho
 refine W_heckleref05_step x s _ _ ⟨⟨by omega,by omega,by rw [hlen];omega,by rw [hlen];omega⟩,fun out=>bl s.size (Tx s (gof x) F)=out,fun out h=>h,fun h1=>?_,fun h1=>⟨fun h2=>?_,fun h2=>⟨fun h3=>?_,fun h3=>⟨fun h4=>?_,fun h4=>⟨fun h5=>?_,fun h5=>?_⟩⟩⟩⟩⟩
 ·have h1:x.Kind=1:=by simpa using h1
  rw [bl_copy1,gof_k1 h1]
  refine bl_congr fun j hj=>⟨?_,fun h=>⟨j,hj,h,acc_empty.2 rfl⟩⟩
  rintro ⟨i,_,hf,ha⟩
  cases acc_empty.1 ha;exact hf
 ·have h2:x.Kind=2:=by simpa using h2
  refine ⟨fun out t=>∃ i:Nat,t=i∧i≤s.size∧out=bl s.size fun j=>1≤j∧j≤i∧F (j - 1)∧setHas x.Set (bt s (j - 1))=true,fun _ t=>(s.size - t).toNat,⟨0,rfl,by omega,?_⟩,?_⟩
  ·rw [hlen,bl_none]
   exact bl_congr fun j hj=>⟨fun h=>h.elim,fun h=>by omega⟩
  rintro out t ⟨i,rfl,hi,rfl⟩
  have hset:∀ b:Bool,i < s.size→(b=true↔F i∧setHas x.Set (bt s i)=true)→List.set (bl s.size fun j=>1≤j∧j≤i∧F (j - 1)∧setHas x.Set (bt s (j - 1))=true) (i+1) b=bl s.size fun j=>1≤j∧j≤i+1∧F (j - 1)∧setHas x.Set (bt s (j - 1))=true:=by
   intro b hi hb
   rw [bl_set b (by omega)]
   refine bl_congr fun j hj=>?_
   by_cases hji:j=i+1
   ·subst hji
    rw [if_pos rfl,hb,Nat.add_sub_cancel]
    exact ⟨fun h=>⟨by omega,by omega,h⟩,fun h=>h.2.2⟩
   ·rw [if_neg hji]
    exact ⟨fun h=>⟨h.1,by omega,h.2.2⟩,fun h=>⟨h.1,by omega,h.2.2⟩⟩
  refine ⟨fun ht=>?_,fun ht=>?_⟩
  ·have ht:i < s.size:=by have:=of_decide_eq_true ht;omega
   have hw2:w64 ((i:Int)+1)=((i+1:Nat):Int):=w64_id (by omega) (by omega)
   simp only [hw2,Int.toNat_natCast,hlen,bl_len]
   refine ⟨by omega,by omega,fun hg=>⟨fun _=>by omega,fun _=>by omega,_,has_ok _ _,fun _=>by omega,fun _=>by omega,fun _=>by omega,⟨i+1,rfl,by omega,hset _ ht ?_⟩,by omega⟩,fun hg=>⟨fun _=>by omega,fun _=>by omega,fun _=>by omega,⟨i+1,rfl,by omega,hset _ ht ?_⟩,by omega⟩⟩
   ·exact ⟨fun h=>⟨(bl_gd (by omega)).1 hg,h⟩,fun h=>h.2⟩
   ·exact ⟨fun h=>(by cases h),fun h=>absurd h.1 ((bl_gdf (by omega)).1 hg)⟩
  ·have ht:i=s.size:=by have:=of_decide_eq_false ht;omega
   subst ht
   rw [gof_k2 h2]
   refine bl_congr fun j hj=>⟨?_,?_⟩
   ·rintro ⟨i,_,hf,ha⟩
    obtain ⟨e1,e2,rfl⟩:=acc_byte.1 ha
    exact ⟨by omega,by omega,hf,e2⟩
   ·rintro ⟨e1,e2,hf,e3⟩
    exact ⟨j - 1,by omega,hf,acc_byte.2 ⟨by omega,e3,by omega⟩⟩
 ·have h3:x.Kind=3:=by simpa using h3
  refine ⟨fun now t=>∃ i:Nat,t=i∧i≤x.Kids.length∧now=bl s.size (Tx s ((x.Kids.take i).foldl (fun o y=>gCat o (gof y)) gEmpty) F),fun _ t=>(x.Kids.length - t).toNat,⟨0,rfl,by omega,?_⟩,?_⟩
  ·refine bl_congr fun j hj=>⟨fun h=>⟨j,hj,h,acc_empty.2 rfl⟩,?_⟩
   rintro ⟨i,_,hf,ha⟩
   cases acc_empty.1 ha;exact hf
  rintro now t ⟨i,rfl,hi,rfl⟩
  refine ⟨fun ht=>?_,fun ht=>?_⟩
  ·have ht:i < x.Kids.length:=by have:=of_decide_eq_true ht;omega
   have hw2:w64 ((i:Int)+1)=((i+1:Nat):Int):=w64_id (by omega) (by omega)
   rw [hw2]
   refine ⟨by omega,by omega,_,?_,⟨i+1,rfl,by omega,rfl⟩,by dsimp only;omega⟩
   rw [gd_nat ht]
   have:=ih _ (List.getElem_mem ht) (hk _ (List.getElem_mem ht)) (hrk _ (List.getElem_mem ht)) (Tx s ((x.Kids.take i).foldl (fun o y=>gCat o (gof y)) gEmpty) F)
   refine st_congr this fun j hj=>?_
   rw [foldl_take_succ ht]
   constructor
   ·rintro ⟨l,hl,⟨i0,h0,hf,h1⟩,h2⟩
    exact ⟨i0,h0,hf,(acc_cat (canon_catF _ _ canon_empty)).2 ⟨l,h1,h2⟩⟩
   ·rintro ⟨i0,h0,hf,ha⟩
    obtain ⟨l,h1,h2⟩:=(acc_cat (canon_catF _ _ canon_empty)).1 ha
    exact ⟨l,(acc_le h1 h0).2,⟨i0,h0,hf,h1⟩,h2⟩
  ·have ht:i=x.Kids.length:=by have:=of_decide_eq_false ht;omega
   subst ht
   rw [bl_copy,List.take_of_length_le (Nat.le_refl _),gof_k3 h3]
 ·have h4:x.Kind=4:=by simpa using h4
  refine ⟨fun now t=>∃ i:Nat,t=i∧i≤x.Kids.length∧now=bl s.size (Tx s ((x.Kids.take i).foldl (fun o y=>gAlt o (gof y)) gNone) F),fun _ t=>(x.Kids.length - t).toNat,⟨0,rfl,by omega,?_⟩,?_⟩
  ·rw [hlen,bl_none]
   exact bl_congr fun j hj=>⟨fun h=>h.elim,fun ⟨_,_,_,ha⟩=>acc_none ha⟩
  rintro now t ⟨i,rfl,hi,rfl⟩
  refine ⟨fun ht=>?_,fun ht=>?_⟩
  ·have ht:i < x.Kids.length:=by have:=of_decide_eq_true ht;omega
   have hw2:w64 ((i:Int)+1)=((i+1:Nat):Int):=w64_id (by omega) (by omega)
   rw [hw2]
   refine ⟨by omega,by omega,bl s.size (Tx s (gof x.Kids[i]) F),?_,_,or_ok (by omega) _ _,⟨i+1,rfl,by omega,?_⟩,by dsimp only;omega⟩
   ·rw [gd_nat ht]
    exact ih _ (List.getElem_mem ht) (hk _ (List.getElem_mem ht)) (hrk _ (List.getElem_mem ht)) F
   ·refine bl_congr fun j hj=>?_
    rw [foldl_take_succ ht]
    constructor
    ·rintro (⟨i0,h0,hf,ha⟩ | ⟨i0,h0,hf,ha⟩)
     ·exact ⟨i0,h0,hf,(acc_alt (canon_altF _ _ canon_none)).2 (.inl ha)⟩
     ·exact ⟨i0,h0,hf,(acc_alt (canon_altF _ _ canon_none)).2 (.inr ha)⟩
    ·rintro ⟨i0,h0,hf,ha⟩
     exact ((acc_alt (canon_altF _ _ canon_none)).1 ha).imp (fun h=>⟨i0,h0,hf,h⟩) fun h=>⟨i0,h0,hf,h⟩
  ·have ht:i=x.Kids.length:=by have:=of_decide_eq_false ht;omega
   subst ht
   rw [List.take_of_length_le (Nat.le_refl _),gof_k4 h4]
 ·have h5:x.Kind=5:=by simpa using h5
  obtain ⟨⟨k,hkk⟩,hlo0,hlo1,hhi⟩:=own_rep ho h5
  have hkm:k∈x.Kids:=by rw [hkk];exact List.mem_cons_self ..
  have hkid:=ih k hkm (hk k hkm) (hrk k hkm)
  have hkd:List.getD x.Kids 0 default=k:=by rw [hkk];rfl
  have hkl:0 < x.Kids.length:=by rw [hkk];simp
  rw [hkd]
  refine ⟨_,refSize_ok x hw,fun hz=>?_,fun hz=>?_⟩
  ·have hz:sizeN x=0:=by simp only [sizeZ,beq_iff_eq] at hz;omega
   rw [bl_copy1,gof_zero hr hz]
   refine bl_congr fun j hj=>⟨?_,fun h=>⟨j,hj,h,acc_empty.2 rfl⟩⟩
   rintro ⟨i,_,hf,ha⟩
   cases acc_empty.1 ha;exact hf
  obtain ⟨S,hS⟩:∃ S:Nat→Nat→Prop,S=fun m j=>∃ i,i≤s.size∧F i∧pow (acc s.size (bt s) (gof k)) m i j:=⟨_,rfl⟩
  have hSle:∀ m j,S m j→j≤s.size:=by
   intro m j h;rw [hS] at h;obtain ⟨i,h0,_,h1⟩:=h;exact pow_le h1 h0
  have hstep:∀ m,C_heckleref05_step k s (bl s.size (S m)) (bl s.size (S (m+1))):=by
   intro m
   refine st_congr (hkid (S m)) fun j hj=>?_
   rw [hS]
   constructor
   ·rintro ⟨l,hl,⟨i0,h0,hf,h1⟩,h2⟩
    exact ⟨i0,h0,hf,l,h1,h2⟩
   ·rintro ⟨i0,h0,hf,l,h1,h2⟩
    exact ⟨l,pow_le h1 h0,⟨i0,h0,hf,h1⟩,h2⟩
  have hSs:∀ m j,S (m+1) j↔∃ l,S m l∧acc s.size (bt s) (gof k) l j:=by
   intro m j;rw [hS]
   constructor
   ·rintro ⟨i0,h0,hf,l,h1,h2⟩;exact ⟨l,⟨i0,h0,hf,h1⟩,h2⟩
   ·rintro ⟨l,⟨i0,h0,hf,h1⟩,h2⟩;exact ⟨i0,h0,hf,l,h1,h2⟩
  obtain ⟨lo,hlo⟩:∃ lo:Nat,x.Lo=lo:=⟨x.Lo.toNat,by omega⟩
  obtain ⟨U,hU⟩:∃ U:Nat→Nat→Prop,U=fun m j=>∃ q,q≤m∧S (lo+q) j:=⟨_,rfl⟩
  have hhi':x.Hi = -1∨1≤x.Hi∧x.Lo≤x.Hi:=hhi.imp id fun h=>⟨h.1,h.2.1⟩
  have hT:∀ j,Tx s (gof x) F j↔∃ q:Nat,(x.Hi < 0∨x.Lo+(q:Nat)≤x.Hi)∧S (lo+q) j:=by
   intro j
   have e:x.Lo.toNat=lo:=by omega
   rw [gof_k5 h5 hkk,hS]
   constructor
   ·rintro ⟨i,hi,hf,ha⟩
    obtain ⟨q,h1,h2⟩:=(acc_rep (canon_gof k) hlo0 hhi').1 ha
    rw [e] at h2
    exact ⟨q,h1,i,hi,hf,h2⟩
   ·rintro ⟨q,h1,i,hi,hf,h2⟩
    exact ⟨i,hi,hf,(acc_rep (canon_gof k) hlo0 hhi').2 ⟨q,h1,by rw [e];exact h2⟩⟩
  have hfin:∀ m:Nat,(x.Hi < 0∨x.Lo+(m:Nat)≤x.Hi)→(∀ q:Nat,(x.Hi < 0∨x.Lo+(q:Nat)≤x.Hi)→∀ j,S (lo+q) j→U m j)→bl s.size (Tx s (gof x) F)=bl s.size (U m):=by
   intro m hm hq
   refine bl_congr fun j hj=>?_
   rw [hT]
   constructor
   ·rintro ⟨q,h1,h2⟩;exact hq q h1 j h2
   ·intro h
    rw [hU] at h
    obtain ⟨q,h1,h2⟩:=h
    exact ⟨q,by omega,h2⟩
  refine ⟨fun now t=>∃ m:Nat,t=m∧m≤lo∧now=bl s.size (S m),fun _ t=>(lo - t).toNat,⟨0,rfl,by omega,?_⟩,?_⟩
  ·refine bl_congr fun j hj=>?_
   rw [hS]
   constructor
   ·exact fun h=>⟨j,hj,h,rfl⟩
   ·rintro ⟨i,_,hf,e⟩;cases e;exact hf
  rintro now t ⟨m,rfl,hm,rfl⟩
  refine ⟨fun ht=>?_,fun ht=>?_⟩
  ·have ht:m < lo:=by have:=of_decide_eq_true ht;omega
   have hw2:w64 ((m:Int)+1)=((m+1:Nat):Int):=w64_id (by omega) (by omega)
   rw [hw2]
   exact ⟨hkl,_,hstep m,⟨m+1,rfl,by omega,rfl⟩,by dsimp only;omega⟩
  have ht:m=lo:=by have:=of_decide_eq_false ht;omega
  subst ht
  rw [bl_copy]
  refine ⟨fun most=>(x.Hi < 0→most=s.size+1)∧(¬ x.Hi < 0→most=x.Hi - x.Lo),fun most hmost=>⟨fun most=>(0≤most∧most≤100000)∧(x.Hi < 0→most=s.size+1∨clo k=true∧((1≤m∧most=0)∨(m=0∧most=1)))∧(¬ x.Hi < 0→most=x.Hi - x.Lo),fun most hm3=>?_,fun hh=>⟨fun _=>hkl,_,closed_ok k,fun hc=>?_,fun hc=>?_⟩,fun hh=>?_⟩,fun hh=>?_,fun hh=>?_⟩
  ·obtain ⟨⟨hm0,hm1⟩,hmA,hmB⟩:=hm3
   refine ⟨fun out now t=>∃ q:Nat,t=q∧(q:Int)≤most∧now=bl s.size (S (m+q))∧out=bl s.size (U q)∧q≤cntB (U q) (s.size+1),fun _ _ t=>(most - t).toNat,⟨0,rfl,by omega,rfl,?_,by omega⟩,?_⟩
   ·refine bl_congr fun j hj=>?_
    rw [hU]
    constructor
    ·exact fun h=>⟨0,Nat.le_refl _,h⟩
    ·rintro ⟨q,h1,h2⟩
     obtain rfl:q=0:=by omega
     exact h2
   rintro out now t ⟨q,rfl,hq,rfl,rfl,hcnt⟩
   have hmle:∀ q:Nat,(q:Int)≤most→x.Hi < 0∨x.Lo+(q:Nat)≤x.Hi:=by
    intro q hq
    by_cases hh:x.Hi < 0
    ·exact .inl hh
    ·have:=hmB hh;exact .inr (by omega)
   refine ⟨fun ht=>?_,fun ht=>?_⟩
   ·have ht:(q:Int) < most:=of_decide_eq_true ht
    have hw2:w64 ((q:Int)+1)=((q+1:Nat):Int):=w64_id (by omega) (by omega)
    rw [hw2]
    refine ⟨hkl,_,hstep (m+q),@decide (∀ j,j≤s.size→S (m+q+1) j→U q j) (Classical.propDecidable _),within_ok (by omega) _ _ _ (by simp),fun hb=>?_,fun hb=>⟨_,or_ok (by omega) _ _,⟨q+1,rfl,by omega,rfl,?_,?_⟩,by dsimp only;omega⟩⟩
    ·have hb:∀ j,j≤s.size→S (m+q+1) j→U q j:=by simpa using hb
     suffices main:∀ q2 j,S (m+q2) j→U q j from hfin q (hmle q (by omega)) fun q2 _=>main q2
     intro q2
     induction q2 with
     | zero=>intro j h;rw [hU];exact ⟨0,by omega,h⟩
     | succ q2 ih2=>
       intro j h
       obtain ⟨l,h1,h2⟩:=(hSs (m+q2) j).1 h
       have h3:=ih2 l h1
       rw [hU] at h3
       obtain ⟨q3,h4,h5⟩:=h3
       have h6:S (m+q3+1) j:=(hSs _ _).2 ⟨l,h5,h2⟩
       by_cases hq3:q3=q
       ·subst hq3;exact hb j (hSle _ _ h6) h6
       ·rw [hU];exact ⟨q3+1,by omega,h6⟩
    ·refine bl_congr fun j hj=>?_
     rw [hU]
     constructor
     ·rintro (⟨q3,h1,h2⟩ | h)
      ·exact ⟨q3,by omega,h2⟩
      ·exact ⟨q+1,by omega,h⟩
     ·rintro ⟨q3,h1,h2⟩
      by_cases hq3:q3=q+1
      ·subst hq3;exact .inr h2
      ·exact .inl ⟨q3,by omega,h2⟩
    ·have hb:¬ ∀ j,j≤s.size→S (m+q+1) j→U q j:=by simpa using hb
     have:∃ j,j < s.size+1∧¬ U q j∧U (q+1) j:=by
      refine Classical.byContradiction fun hno=>hb fun j hj h=>?_
      refine Classical.byContradiction fun hu=>hno ⟨j,by omega,hu,?_⟩
      rw [hU];exact ⟨q+1,by omega,h⟩
     have:=cntB_lt (s.size+1) (fun j _ h=>by
      rw [hU] at h ⊢
      obtain ⟨q3,h1,h2⟩:=h
      exact ⟨q3,by omega,h2⟩) this
     omega
   ·have ht:(q:Int)=most:=by have:=of_decide_eq_false ht;omega
    refine hfin q (hmle q (by omega)) fun q2 hq2 j hj=>?_
    by_cases hh:x.Hi < 0
    ·rcases hmA hh with hA | ⟨hc,hA⟩
     ·exact cntB_full (s.size+1) (by omega) j (by have:=hSle _ _ hj;omega)
     ·have htr:∀ i l j,acc s.size (bt s) (gof k) i l→acc s.size (bt s) (gof k) l j→acc s.size (bt s) (gof k) i j:=fun i l j=>clo_trans (hrk k hkm) hc
      rw [hU]
      rw [hS] at hj ⊢
      obtain ⟨i,hi,hf,hp⟩:=hj
      rcases hA with ⟨hm1,hA⟩ | ⟨hm0,hA⟩
      ·obtain ⟨n,rfl⟩:∃ n,m=n+1:=⟨m - 1,by omega⟩
       rw [show n+1+q2=n+(q2+1) by omega] at hp
       obtain ⟨l,p1,p2⟩:=pow_add.1 hp
       exact ⟨0,by omega,i,hi,hf,l,p1,pow_trans htr p2⟩
      ·subst hm0
       cases q2 with
       | zero=>exact ⟨0,by omega,i,hi,hf,hp⟩
       | succ q2=>
         rw [Nat.zero_add] at hp
         exact ⟨1,by omega,i,hi,hf,pow_one.2 (pow_trans htr hp)⟩
    ·rw [hU]
     have:=hmB hh
     exact ⟨q2,by omega,hj⟩
  ·have hh:x.Hi < 0:=of_decide_eq_true hh
   have hw3:w64 (1 - x.Lo)=1 - x.Lo:=w64_id (by omega) (by omega)
   rw [hw3]
   refine ⟨by split<;>omega,fun _=>.inr ⟨hc,?_⟩,fun h=>absurd hh h⟩
   by_cases h1:1≤m
   ·exact .inl ⟨h1,by rw [if_neg (by omega)]⟩
   ·exact .inr ⟨by omega,by rw [if_pos (by omega)];omega⟩
  ·have hh:x.Hi < 0:=of_decide_eq_true hh
   have:=hmost.1 hh
   exact ⟨by omega,fun _=>.inl this,fun h=>absurd hh h⟩
  ·have hh:¬ x.Hi < 0:=of_decide_eq_false hh
   have:=hmost.2 hh
   exact ⟨by omega,fun h=>absurd h hh,fun _=>this⟩
  ·have hh:x.Hi < 0:=of_decide_eq_true hh
   exact ⟨fun _=>by rw [hlen];omega,fun h=>absurd hh h⟩
  ·have hh:¬ x.Hi < 0:=of_decide_eq_false hh
   exact ⟨fun h=>absurd h hh,fun _=>w64_id (by omega) (by omega)⟩
 ·have e1:x.Kind≠1:=by simpa using h1
  have e2:x.Kind≠2:=by simpa using h2
  have e3:x.Kind≠3:=by simpa using h3
  have e4:x.Kind≠4:=by simpa using h4
  have e5:x.Kind≠5:=by simpa using h5
  omega
end Go.Ev.Pl
set_option linter.unusedSimpArgs false
set_option linter.unusedVariables false
namespace Go.Ev.Pl
open Go Go.Ev
theorem may_ok (x:api_Rx) (s:ByteArray) (hw:Wf x) (hr:rightB x=true) (hs:s.size≤10000):C_heckleref05_May x s true:=
 W_heckleref05_May x s _ ⟨_,refRightAll_ok x hw,by rw [hr,Bool.true_and];exact (decide_eq_true (by omega)).symm⟩
theorem lst_succ (n:Nat) (p:Nat→Bool):lst (n+1) p 0=lst n p 0++if p n=true then [(n:Int)] else []:=by
 unfold lst
 rw [List.range_succ,List.filter_append,List.map_append]
 by_cases h:p n=true
 ·simp [h]
 ·simp [h]
noncomputable def accB (s:ByteArray) (g:GA) (j:Nat):Bool:=@decide (acc s.size (bt s) g 0 j) (Classical.propDecidable _)
theorem accB_iff {s:ByteArray} {g:GA} {j:Nat}:accB s g j=true↔acc s.size (bt s) g 0 j:=by simp [accB]
theorem ends_ok (x:api_Rx) (s:ByteArray) (hw:Wf x) (hr:rightB x=true) (hs:s.size≤10000):C_heckleref05_Ends x s 0 (lst (s.size+1) (accB s (gof x)) 0):=by
 have hw1:w64 ((s.size:Int)+1)=((s.size+1:Nat):Int):=w64_id (by omega) (by omega)
 have e0:List.set (List.replicate (s.size+1) false) 0 true=bl s.size fun j=>j=0:=by
  rw [bl_none,bl_set true (Nat.zero_le _)]
  exact bl_congr fun j hj=>by by_cases h:j=0<;>simp [h]
 have hstep:=st_congr (step_ok s (by omega) x hw (size_of_right hr).1 fun j=>j=0) (Q:=fun j=>acc s.size (bt s) (gof x) 0 j) fun j hj=>
  ⟨fun ⟨i,_,e,h⟩=>e▸h,fun h=>⟨0,by omega,rfl,h⟩⟩
 refine W_heckleref05_Ends x s 0 _ ⟨true,may_ok x s hw hr hs,fun h=>?_,fun _=>?_⟩
 ·have:¬ ((0:Int) > (s.size:Int)):=by omega
  simp [this] at h
 rw [hw1,Int.toNat_natCast]
 refine ⟨⟨by omega,by omega,by omega,by omega⟩,by omega,by simp,by simp,_,(by rw [show (0:Int).toNat=0 from rfl,e0];exact hstep),?_⟩
 rw [bl_len]
 refine ⟨fun out t=>∃ i:Nat,t=i∧i≤s.size+1∧out=lst i (accB s (gof x)) 0,fun _ t=>(s.size+1 - t).toNat,⟨0,rfl,by omega,rfl⟩,?_⟩
 rintro out t ⟨i,rfl,hi,rfl⟩
 refine ⟨fun ht=>?_,fun ht=>?_⟩
 ·have ht:i < s.size+1:=by have:=of_decide_eq_true ht;omega
  have hw2:w64 ((i:Int)+1)=((i+1:Nat):Int):=w64_id (by omega) (by omega)
  have hll:=lst_len i (accB s (gof x)) 0
  have hs2:=lst_succ i (accB s (gof x))
  refine ⟨fun o=>o=lst (i+1) (accB s (gof x)) 0,fun o ho=>⟨by rw [hw2];exact ⟨i+1,rfl,by omega,ho⟩,by rw [hw2];first | omega | (dsimp only;omega)⟩,by omega,by omega,fun hg=>⟨by omega,?_⟩,fun hg=>?_⟩
  ·have hg:=accB_iff.2 ((bl_gd (by omega)).1 hg)
   rw [hs2,if_pos hg]
  ·have hg:¬ accB s (gof x) i=true:=fun e=>(bl_gdf (by omega)).1 hg (accB_iff.1 e)
   rw [hs2,if_neg hg,List.append_nil]
 ·have ht:i=s.size+1:=by have:=of_decide_eq_false ht;omega
  subst ht;rfl
theorem match_ok (x:api_Rx) (s:ByteArray) (hw:Wf x) (hr:rightB x=true) (hs:s.size≤10000):C_heckleref05_Match x s (accB s (gof x) s.size):=by
 have hll:=lst_len (s.size+1) (accB s (gof x)) 0
 obtain ⟨l,hl⟩:∃ l,l=lst (s.size+1) (accB s (gof x)) 0:=⟨_,rfl⟩
 have hE:=ends_ok x s hw hr hs
 rw [← hl] at hll hE
 have hwm:0 < l.length→w64 ((l.length:Int) - 1)=((l.length - 1:Nat):Int):=fun h=>(w64_id (by omega) (by omega)).trans (by omega)
 refine W_heckleref05_Match x s _ ⟨l,hE,fun h=>?_,fun h=>?_,fun h=>?_,?_⟩
 ·have h:0 < l.length:=by simpa using h
  rw [hwm h];omega
 ·have h:0 < l.length:=by simpa using h
  rw [hwm h,Int.toNat_natCast];omega
 ·have h:0 < l.length:=by simpa using h
  rw [hwm h];omega
 ·by_cases h0:0 < l.length
  ·rw [hwm h0,gd_nat (by omega),decide_eq_true (by omega),Bool.true_and]
   have hlast:=List.getElem_mem (l:=l) (n:=l.length - 1) (by omega)
   rw [Bool.eq_iff_iff,beq_iff_eq]
   constructor
   ·intro ha
    have:l=lst s.size (accB s (gof x)) 0++[(s.size:Int)]:=by rw [hl,lst_succ,if_pos ha]
    simp [this]
   ·intro he
    rw [he,hl] at hlast
    obtain ⟨i,_,hp,hi⟩:=lst_mem.1 hlast
    have:i=s.size:=by omega
    subst this;exact hp
  ·rw [decide_eq_false (by omega),Bool.false_and]
   cases ha:accB s (gof x) s.size with
   | false=>rfl
   | true=>
     have:l=lst s.size (accB s (gof x)) 0++[(s.size:Int)]:=by rw [hl,lst_succ,if_pos ha]
     rw [this] at h0;simp at h0
abbrev alph:ByteArray:={ data:=#[(97:UInt8),(97:UInt8),(98:UInt8),(98:UInt8),(99:UInt8),(99:UInt8),(45:UInt8),(90:UInt8),(10:UInt8),(48:UInt8),(0:UInt8),(255:UInt8)] }
def txt (l:List Int):Nat→ByteArray
 | 0=>{ data:=#[] }
 | n+1=>txt l n++ByteArray.extract alph (Int.toNat (Int.tmod (w64 (gd l n)) 12)) (Int.toNat (w64 (Int.tmod (w64 (gd l n)) 12+1)))
theorem text_ok (l:List Int) (hb:Bytes l):∃ s,C_hecklelaw05_Text l s∧s.size≤12:=by
 have hal:alph.size=12:=by rfl
 have one:∀ i,i < l.length→0≤Int.tmod (w64 (gd l (i:Int))) 12∧w64 (Int.tmod (w64 (gd l (i:Int))) 12+1)=Int.tmod (w64 (gd l (i:Int))) 12+1∧Int.tmod (w64 (gd l (i:Int))) 12 < 12:=by
  intro i hi
  obtain ⟨h0,h1⟩:=hb _ (List.getElem_mem hi)
  rw [gd_nat hi,w64_id (by omega) (by omega)]
  have h2:=Int.tmod_nonneg (a:=l[i]) 12 h0
  have h3:=Int.tmod_lt_of_pos l[i] (show (0:Int) < 12 by omega)
  exact ⟨h2,w64_id (by omega) (by omega),h3⟩
 have hsz:∀ n,n≤l.length→(txt l n).size=n:=by
  intro n
  induction n with
  | zero=>intro _;rfl
  | succ n ih=>
    intro hn
    obtain ⟨h1,h2,h3⟩:=one n (by omega)
    rw [txt,ByteArray.size_append,ih (by omega),ByteArray.size_extract,h2,hal]
    omega
 refine ⟨txt l (min 12 l.length),?_,by rw [hsz _ (Nat.min_le_right _ _)];exact Nat.min_le_left _ _⟩
 refine W_hecklelaw05_Text l _ ⟨fun s t=>∃ i:Nat,t=i∧i≤min 12 l.length∧s=txt l i,fun _ t=>(12 - t).toNat,⟨0,rfl,by omega,rfl⟩,?_⟩
 rintro s t ⟨i,rfl,hi,rfl⟩
 rw [List.length_map]
 refine ⟨fun ht=>?_,fun ht=>?_⟩
 ·simp only [Bool.and_eq_true,decide_eq_true_eq] at ht
  have hil:i < l.length:=by omega
  obtain ⟨h1,h2,h3⟩:=one i hil
  have hw2:w64 ((i:Int)+1)=((i+1:Nat):Int):=w64_id (by omega) (by omega)
  refine ⟨by omega,by omega,by omega,by omega,⟨h1,by rw [h2];omega,by rw [h2];omega,?_⟩,?_,?_,?_⟩
  ·rw [h2];show _≤12;omega
  ·rw [hsz i (by omega),show ByteArray.size (ByteArray.extract _ _ _)=_ from ByteArray.size_extract,h2,show IntKind.max IntKind.i64=9223372036854775807 by decide]
   show (((i+(min _ 12 - _):Nat)):Int)≤_
   omega
  ·rw [hw2];exact ⟨i+1,rfl,by omega,rfl⟩
  ·rw [hw2];first | omega | (dsimp only;omega)
 ·simp only [Bool.and_eq_false_iff,decide_eq_false_iff_not] at ht
  have:i=min 12 l.length:=by omega
  rw [this]
end Go.Ev.Pl
set_option linter.unusedSimpArgs false
set_option linter.unusedVariables false
namespace Go.Ev.Pl
open Go Go.Ev
def rev:api_Rx→api_Rx:=cata fun x l=>{ x with Kids:=if x.Kind=3 then l.reverse else l }
theorem bytes_of {w:World} {a:Option Addr} {len cap:Nat} {zs:List Int}
 (h:(a=none∧len=0∧cap=0∧zs=[])∨∃ x,a=some x∧len≤cap∧cap≤maxLen∧zs.length=cap∧(∀ i,i < zs.length→w.cell? (x.add i)=some (.int .u8 (zs.getD i 0)))∧∀ n∈zs,(Lit.int .u8 n).wf=true):Bytes (zs.take len):=by
 intro b hb
 have hb:=List.mem_of_mem_take hb
 rcases h with ⟨_,_,_,rfl⟩ | ⟨_,_,_,_,_,_,h⟩
 ·simp at hb
 ·have:=h b hb
  simp only [Lit.wf,Bool.and_eq_true,decide_eq_true_eq] at this
  have e1:IntKind.u8.min=0:=by decide
  have e2:IntKind.u8.max=255:=by decide
  rw [e1,e2] at this
  exact this
theorem rev_eq (x:api_Rx):rev x={ x with Kids:=if x.Kind=3 then (x.Kids.map rev).reverse else x.Kids.map rev }:=cata_eq _ x
theorem rev_kind (x:api_Rx):(rev x).Kind=x.Kind:=by rw [rev_eq]
theorem rev_kids (x:api_Rx):(rev x).Kids=if x.Kind=3 then (x.Kids.map rev).reverse else x.Kids.map rev:=by rw [rev_eq]
section
variable {N : Nat} {B : Nat → Int}
def chn (N:Nat) (B:Nat→Int):List api_Rx→Nat→Nat→Prop
 | [],i,j=>i=j
 | y :: r,i,j=>∃ k,acc N B (gof y) i k∧chn N B r k j
theorem chn_append:∀ {a b:List api_Rx} {i j:Nat},chn N B (a++b) i j↔∃ k,chn N B a i k∧chn N B b k j
 | [],b,i,j=>⟨fun h=>⟨i,rfl,h⟩,fun ⟨k,e,h⟩=>(by cases e;exact h)⟩
 | y :: a,b,i,j=>by
   simp only [List.cons_append,chn]
   constructor
   ·rintro ⟨k,h1,h2⟩
    obtain ⟨l,h3,h4⟩:=chn_append.1 h2
    exact ⟨l,⟨k,h1,h3⟩,h4⟩
   ·rintro ⟨l,⟨k,h1,h3⟩,h4⟩
    exact ⟨k,h1,chn_append.2 ⟨l,h3,h4⟩⟩
theorem acc_catF:∀ (l:List api_Rx) {z:GA} {i j:Nat},Canon z→(acc N B (l.foldl (fun o y=>gCat o (gof y)) z) i j↔∃ k,acc N B z i k∧chn N B l k j)
 | [],z,i,j,_=>⟨fun h=>⟨j,h,rfl⟩,fun ⟨k,h,e⟩=>(by cases e;exact h)⟩
 | y :: r,z,i,j,hz=>by
   rw [List.foldl_cons,acc_catF r (canon_cat hz (canon_gof y))]
   constructor
   ·rintro ⟨k,h1,h2⟩
    obtain ⟨m,h3,h4⟩:=(acc_cat hz).1 h1
    exact ⟨m,h3,k,h4,h2⟩
   ·rintro ⟨m,h3,k,h4,h2⟩
    exact ⟨k,(acc_cat hz).2 ⟨m,h3,h4⟩,h2⟩
theorem acc_altF:∀ (l:List api_Rx) {z:GA} {i j:Nat},Canon z→(acc N B (l.foldl (fun o y=>gAlt o (gof y)) z) i j↔acc N B z i j∨∃ y,y∈l∧acc N B (gof y) i j)
 | [],z,i,j,_=>by simp
 | y :: r,z,i,j,hz=>by
   rw [List.foldl_cons,acc_altF r (canon_alt hz (canon_gof y)),acc_alt hz]
   simp only [List.mem_cons]
   constructor
   ·rintro ((h | h) | ⟨a,h1,h2⟩)
    ·exact .inl h
    ·exact .inr ⟨y,.inl rfl,h⟩
    ·exact .inr ⟨a,.inr h1,h2⟩
   ·rintro (h | ⟨a,rfl | h1,h2⟩)
    ·exact .inl (.inl h)
    ·exact .inl (.inr h2)
    ·exact .inr ⟨a,h1,h2⟩
abbrev bkw (N:Nat) (B:Nat→Int) (i:Nat):Int:=B (N - 1 - i)
theorem chn_le:∀ {l:List api_Rx} {i j:Nat},chn N B l i j→i≤N→j≤N
 | [],i,j,h,hi=>by cases h;exact hi
 | y :: r,i,j,⟨k,h1,h2⟩,hi=>chn_le h2 (acc_le h1 hi).2
theorem chn_rev:∀ {l:List api_Rx} {i j:Nat},(∀ y,y∈l→∀ i j,i≤N→j≤N→(acc N (bkw N B) (gof (rev y)) i j↔acc N B (gof y) (N - j) (N - i)))→i≤N→j≤N→
 (chn N (bkw N B) (l.map rev).reverse i j↔chn N B l (N - j) (N - i))
 | [],i,j,_,hi,hj=>by
   show i=j↔N - j=N - i
   omega
 | y :: r,i,j,hy,hi,hj=>by
   rw [List.map_cons,List.reverse_cons,chn_append]
   have hr:=fun i j=>chn_rev (l:=r) (i:=i) (j:=j) fun z hz=>hy z (List.mem_cons_of_mem _ hz)
   constructor
   ·rintro ⟨k,h1,k2,h2,e⟩
    cases e
    have hk:=chn_le h1 hi
    exact ⟨N - k,(hy y (List.mem_cons_self ..) k j hk hj).1 h2,(hr i k hi hk).1 h1⟩
   ·rintro ⟨m,h1,h2⟩
    have hm:=(acc_le h1 (by omega)).2
    have e:N - (N - m)=m:=by omega
    refine ⟨N - m,(hr i (N - m) hi (by omega)).2 (by rw [e];exact h2),j,(hy y (List.mem_cons_self ..) (N - m) j (by omega) hj).2 (by rw [e];exact h1),rfl⟩
theorem pow_rev {R R':Nat→Nat→Prop} (hR:∀ i j,i≤N→j≤N→(R' i j↔R (N - j) (N - i))) (hle:∀ i j,R' i j→i≤N→j≤N) (hle2:∀ i j,R i j→i≤N→j≤N):∀ {m i j:Nat},i≤N→j≤N→(pow R' m i j↔pow R m (N - j) (N - i))
 | 0,i,j,hi,hj=>by
   show i=j↔N - j=N - i
   omega
 | m+1,i,j,hi,hj=>by
   rw [pow_front]
   show (∃ k,R' i k∧pow R' m k j)↔∃ k,pow R m (N - j) k∧R k (N - i)
   constructor
   ·rintro ⟨k,h1,h2⟩
    have hk:=hle _ _ h1 hi
    exact ⟨N - k,(pow_rev hR hle hle2 hk hj).1 h2,(hR i k hi hk).1 h1⟩
   ·rintro ⟨k,h1,h2⟩
    have hk:k≤N:=by
     have:∀ {m i j:Nat},pow R m i j→i≤N→j≤N:=by
      intro m
      induction m with
      | zero=>intro i j h hi;cases h;exact hi
      | succ m ih=>rintro i j ⟨k,h1,h2⟩ hi;exact hle2 _ _ h2 (ih h1 hi)
     exact this h1 (by omega)
    have e:N - (N - k)=k:=by omega
    exact ⟨N - k,(hR i (N - k) hi (by omega)).2 (by rw [e];exact h2),(pow_rev hR hle hle2 (by omega) hj).2 (by rw [e];exact h1)⟩
theorem acc_rev:∀ x,Rgt x→∀ i j,i≤N→j≤N→(acc N (bkw N B) (gof (rev x)) i j↔acc N B (gof x) (N - j) (N - i)):=by
 refine rxInd fun x ih hr i j hi hj=>?_
 obtain ⟨ho,hk⟩:=rgt_own hr
 have hall:∀ y,y∈x.Kids→∀ i j,i≤N→j≤N→(acc N (bkw N B) (gof (rev y)) i j↔acc N B (gof y) (N - j) (N - i)):=fun y hy=>ih y hy (hk y hy)
 rcases own_kind ho with h | h | h | h | h
 ·rw [gof_k1 h,gof_k1 (by rw [rev_kind];exact h),acc_empty,acc_empty];omega
 ·rw [gof_k2 h,gof_k2 (by rw [rev_kind];exact h),acc_byte,acc_byte]
  have:(rev x).Set=x.Set:=by rw [rev_eq]
  rw [this]
  constructor
  ·rintro ⟨h1,h2,rfl⟩
   refine ⟨by omega,?_,by omega⟩
   rw [show N - (i+1)=N - 1 - i by omega];exact h2
  ·rintro ⟨h1,h2,h3⟩
   refine ⟨by omega,?_,by omega⟩
   show setHas x.Set (B (N - 1 - i))=true
   rw [show N - 1 - i=N - j by omega];exact h2
 ·rw [gof_k3 h,gof_k3 (by rw [rev_kind];exact h),acc_catF _ canon_empty,acc_catF _ canon_empty,rev_kids,if_pos h]
  constructor
  ·rintro ⟨k,h1,h2⟩
   cases acc_empty.1 h1
   exact ⟨_,acc_empty.2 rfl,(chn_rev hall hi hj).1 h2⟩
  ·rintro ⟨k,h1,h2⟩
   cases acc_empty.1 h1
   exact ⟨_,acc_empty.2 rfl,(chn_rev hall hi hj).2 h2⟩
 ·rw [gof_k4 h,gof_k4 (by rw [rev_kind];exact h),acc_altF _ canon_none,acc_altF _ canon_none,rev_kids,if_neg (by omega)]
  constructor
  ·rintro (h1 | ⟨y,hy,h1⟩)
   ·exact absurd h1 acc_none
   ·obtain ⟨z,hz,rfl⟩:=List.mem_map.1 hy
    exact .inr ⟨z,hz,(hall z hz i j hi hj).1 h1⟩
  ·rintro (h1 | ⟨y,hy,h1⟩)
   ·exact absurd h1 acc_none
   ·exact .inr ⟨rev y,List.mem_map.2 ⟨y,hy,rfl⟩,(hall y hy i j hi hj).2 h1⟩
 ·obtain ⟨⟨k,hkk⟩,hlo0,_,hhi⟩:=own_rep ho h
  have hhi':x.Hi = -1∨1≤x.Hi∧x.Lo≤x.Hi:=hhi.imp id fun h=>⟨h.1,h.2.1⟩
  have hkm:k∈x.Kids:=by rw [hkk];exact List.mem_cons_self ..
  have e1:(rev x).Lo=x.Lo:=by rw [rev_eq]
  have e2:(rev x).Hi=x.Hi:=by rw [rev_eq]
  rw [gof_k5 h hkk,gof_k5 (k:=rev k) (by rw [rev_kind];exact h) (by rw [rev_kids,if_neg (by omega),hkk];rfl),e1,e2,acc_rep (canon_gof _) hlo0 hhi',acc_rep (canon_gof _) hlo0 hhi']
  constructor
  ·rintro ⟨q,h1,h2⟩
   exact ⟨q,h1,(pow_rev (hall k hkm) (fun i j h hi=>(acc_le h hi).2) (fun i j h hi=>(acc_le h hi).2) hi hj).1 h2⟩
  ·rintro ⟨q,h1,h2⟩
   exact ⟨q,h1,(pow_rev (hall k hkm) (fun i j h hi=>(acc_le h hi).2) (fun i j h hi=>(acc_le h hi).2) hi hj).2 h2⟩
end
end Go.Ev.Pl
set_option linter.unusedSimpArgs false
set_option linter.unusedVariables false
namespace Go.Ev.Pl
open Go Go.Ev
theorem turnedByte_ok (l:List Int) (hl:l.length < 100000):C_split_turned_byte l l.reverse:=by
 refine W_split_turned_byte l _ ⟨⟨by omega,by omega,by omega,by omega⟩,backward_66 l,by omega,fun i out=>out=l.reverse.take i,by simp,?_,?_⟩
 ·rintro i y hi hy out rfl
  have hlt:(l.reverse.take i).length=i:=by rw [List.length_take,List.length_reverse];omega
  refine ⟨by omega,?_⟩
  show _=List.take (i+1) l.reverse
  rw [List.take_succ_eq_append_getElem (by rw [List.length_reverse];exact hi)]
  congr 2
  rw [List.getElem_reverse]
  rw [List.getElem?_eq_getElem (by omega)] at hy
  exact (Option.some.inj hy).symm
 ·rintro out rfl
  rw [List.take_of_length_le (by simp)]
theorem index_ok (l:List Int) (v:Int) (hl:l.length < 1000000):∃ r,C_slices_Index__int_int l v r∧(r≥0↔v∈l):=by
 by_cases hv:v∈l
 ·obtain ⟨n,hn,hnv,hmin⟩:∃ n,n < l.length∧l[n]?=some v∧∀ m,m < n→l[m]?≠some v:=by
   have hex:∃ n,l[n]?=some v:=List.mem_iff_getElem?.1 hv
   induction l with
   | nil=>simp at hv
   | cons x l ih=>
     by_cases hx:x=v
     ·exact ⟨0,by simp,by simp [hx],fun m hm=>by omega⟩
     ·have hv':v∈l:=by
       rcases List.mem_cons.1 hv with e | e
       ·exact absurd e.symm hx
       ·exact e
      obtain ⟨n,h1,h2,h3⟩:=ih (by simp at hl;omega) hv' (List.mem_iff_getElem?.1 hv')
      refine ⟨n+1,by simp;omega,by simpa using h2,fun m hm=>?_⟩
      cases m with
      | zero=>simp [hx]
      | succ m=>simpa using h3 m (by omega)
  refine ⟨n,?_,⟨fun _=>hv,fun _=>by omega⟩⟩
  refine W_slices_Index__int_int l v _ ⟨fun t=>∃ i:Nat,t=i∧i≤n,fun t=>(l.length - t).toNat,⟨0,rfl,by omega⟩,?_⟩
  rintro t ⟨i,rfl,hi⟩
  have hw2:w64 ((i:Int)+1)=((i+1:Nat):Int):=w64_id (by omega) (by omega)
  have hil:i < l.length:=by omega
  refine ⟨fun ht=>⟨by omega,by omega,fun he=>?_,fun he=>?_⟩,fun ht=>?_⟩
  ·rw [gd_nat hil,beq_iff_eq] at he
   by_cases hin:i=n
   ·subst hin;rfl
   ·exact absurd (by rw [List.getElem?_eq_getElem hil,he]) (hmin i (by omega))
  ·rw [gd_nat hil,beq_eq_false_iff_ne] at he
   have hin:i≠n:=fun e=>by
    subst e
    rw [List.getElem?_eq_getElem hil] at hnv
    exact he (Option.some.inj hnv).symm
   rw [hw2]
   exact ⟨⟨i+1,rfl,by omega⟩,by first | omega | (dsimp only;omega)⟩
  ·have:=of_decide_eq_false ht;omega
 ·refine ⟨-1,?_,⟨fun h=>by omega,fun h=>absurd h hv⟩⟩
  refine W_slices_Index__int_int l v _ ⟨fun t=>∃ i:Nat,t=i∧i≤l.length,fun t=>(l.length - t).toNat,⟨0,rfl,by omega⟩,?_⟩
  rintro t ⟨i,rfl,hi⟩
  refine ⟨fun ht=>?_,fun ht=>rfl⟩
  have hil:i < l.length:=by have:=of_decide_eq_true ht;omega
  have hw2:w64 ((i:Int)+1)=((i+1:Nat):Int):=w64_id (by omega) (by omega)
  refine ⟨by omega,by omega,fun he=>?_,fun he=>?_⟩
  ·rw [gd_nat hil,beq_iff_eq] at he
   exact absurd (he▸List.getElem_mem hil) hv
  ·rw [hw2]
   exact ⟨⟨i+1,rfl,by omega⟩,by first | omega | (dsimp only;omega)⟩
theorem contains_ok (l:List Int) (v:Int) (hl:l.length < 1000000) (b:Bool) (hb:b=true↔v∈l):C_slices_Contains__int_int l v b:=by
 obtain ⟨r,h1,h2⟩:=index_ok l v hl
 refine W_slices_Contains__int_int l v _ ⟨r,h1,?_⟩
 rw [Bool.eq_iff_iff,hb,decide_eq_true_eq,h2]
end Go.Ev.Pl
set_option linter.unusedSimpArgs false
set_option linter.unusedVariables false
namespace Go.Ev
open Go Go.Proofs
def bitOf2 (w:Int) (i:Int):Bool:=!(IntKind.u64.wrap (BitVec.ofInt IntKind.u64.bits w &&& BitVec.ofInt IntKind.u64.bits (IntKind.u64.wrap (1 * 2 ^ min i.toNat IntKind.u64.bits))).toNat == 0)
def setHas2 (s:arr4_uint64) (i:Int):Bool:=
 if i < 0 then false else if i < 64 then bitOf2 s.e0 i else if i < 128 then bitOf2 s.e1 (i - 64) else if i < 192 then bitOf2 s.e2 (i - 128) else if i < 256 then bitOf2 s.e3 (i - 192) else false
theorem has2_ok (s:arr4_uint64) (i:Int):C_set_Has s i (setHas2 s i):=by
 refine W_set_Has s i _ ⟨fun g=>⟨fun g1=>?_,fun g1=>?_⟩,fun g=>?_⟩
 ·have g:=of_decide_eq_true g
  have g1:=of_decide_eq_true g1
  obtain ⟨q,m,hm⟩:=quot64 i g g1
  rw [q,m]
  refine ⟨by omega,fun h=>⟨fun _ _ _=>by omega,?_⟩,fun h=>⟨fun _ _ _=>by omega,?_⟩,fun h=>⟨fun _ _ _=>by omega,?_⟩,fun h=>⟨fun _ _ _=>by omega,?_⟩⟩
  all_goals
   have h:=of_decide_eq_true h
   rw [h]
  ·simp [setHas2,show ¬ i < 0 by omega,show i < 64 by omega,bitOf2,bne]
  ·simp [setHas2,show ¬ i < 0 by omega,show ¬ i < 64 by omega,show i < 128 by omega,bitOf2,bne]
  ·simp [setHas2,show ¬ i < 0 by omega,show ¬ i < 64 by omega,show ¬ i < 128 by omega,show i < 192 by omega,bitOf2,bne]
  ·simp [setHas2,show ¬ i < 0 by omega,show ¬ i < 64 by omega,show ¬ i < 128 by omega,show ¬ i < 192 by omega,show i < 256 by omega,bitOf2,bne]
 ·have g:=of_decide_eq_true g
  have g1:=of_decide_eq_false g1
  simp [setHas2,show ¬ i < 0 by omega,show ¬ i < 64 by omega,show ¬ i < 128 by omega,show ¬ i < 192 by omega,show ¬ i < 256 by omega]
 ·have g:=of_decide_eq_false g
  simp [setHas2,show i < 0 by omega]
end Go.Ev
set_option linter.unusedSimpArgs false
set_option linter.unusedVariables false
namespace Go.Ev.Pl
open Go Go.Ev
theorem wrapu (n:Int):IntKind.u64.wrap n=n % 2 ^ 64:=by
 simp [IntKind.wrap,IntKind.bits,IntKind.signed]
theorem and_pow (V k:Nat):V &&& 2 ^ k=(V / 2 ^ k % 2) * 2 ^ k:=by
 have hb:V.testBit k=decide (V / 2 ^ k % 2=1):=Nat.testBit_eq_decide_div_mod_eq
 have hlt:V / 2 ^ k % 2 < 2:=Nat.mod_lt _ (by omega)
 by_cases h:V / 2 ^ k % 2=1
 ·rw [h,Nat.one_mul]
  refine Nat.eq_of_testBit_eq fun j=>?_
  rw [Nat.testBit_and,Nat.testBit_two_pow]
  by_cases hj:k=j
  ·subst hj;rw [hb];simp [h]
  ·simp [hj]
 ·rw [show V / 2 ^ k % 2=0 by omega,Nat.zero_mul]
  refine Nat.eq_of_testBit_eq fun j=>?_
  rw [Nat.testBit_and,Nat.testBit_two_pow,Nat.zero_testBit]
  by_cases hj:k=j
  ·subst hj;rw [hb];simp [h]
  ·simp [hj]
theorem bit_eq (w i:Int) (h0:0≤i) (h1:i < 64):bitOf2 w i=bitOf w i:=by
 obtain ⟨k,rfl⟩:∃ k:Nat,i=k:=⟨i.toNat,by omega⟩
 have hk:k < 64:=by omega
 have hmin:min ((k:Int)).toNat IntKind.u64.bits=k:=by simp [IntKind.bits];omega
 have hb:IntKind.u64.bits=64:=rfl
 unfold bitOf2 bitOf
 rw [hmin,hb]
 simp only [wrapu,BitVec.toNat_and,BitVec.toNat_ofInt]
 obtain ⟨V,hV⟩:∃ V:Nat,w % 2 ^ 64=V:=⟨(w % 2 ^ 64).toNat,by omega⟩
 have e0:((2 ^ 64:Nat):Int)=2 ^ 64:=by norm_cast
 have h2k:(2:Int) ^ k=((2 ^ k:Nat):Int):=by norm_cast
 have hkk:2 ^ k < 2 ^ 64:=Nat.pow_lt_pow_right (by omega) hk
 have hkp:0 < 2 ^ k:=Nat.pow_pos (by omega)
 have hVlt:V < 2 ^ 64:=by omega
 have e1:(1 * 2 ^ k % 2 ^ 64 % ((2 ^ 64:Nat):Int)).toNat=2 ^ k:=by
  rw [e0,Int.one_mul,h2k];omega
 have e2:((1:Int) % ((2 ^ 64:Nat):Int)).toNat=1:=by rw [e0];rfl
 rw [e1,e2,e0,hV,Int.toNat_natCast,and_pow,Nat.and_one_is_mod]
 have hw:w=V+2 ^ 64 * (w / 2 ^ 64):=by have:=Int.emod_add_mul_ediv w (2 ^ 64);omega
 have hsplit:(2:Int) ^ 64=2 ^ k * (2 * 2 ^ (63 - k)):=by
  rw [← Int.mul_assoc,← Int.pow_succ,← Int.pow_add];congr 1;omega
 have hdiv:w.fdiv (2 ^ k)=((V / 2 ^ k:Nat):Int)+2 * (2 ^ (63 - k) * (w / 2 ^ 64)):=by
  rw [Int.fdiv_eq_ediv_of_nonneg _ (by rw [h2k];omega)]
  have:w=V+2 ^ k * (2 * (2 ^ (63 - k) * (w / 2 ^ 64))):=by
   rw [← Int.mul_assoc,← Int.mul_assoc,Int.mul_assoc (2 ^ k) 2,← hsplit];exact hw
  conv=>lhs;rw [this]
  rw [Int.add_mul_ediv_left _ _ (by rw [h2k];omega),h2k]
  norm_cast
 have hmod:(w.fdiv (2 ^ k) % 2 ^ 64).toNat % 2=V / 2 ^ k % 2:=by
  rw [hdiv]
  generalize 2 ^ (63 - k) * (w / 2 ^ 64)=Z
  omega
 rw [hmod]
 have:V / 2 ^ k % 2 < 2:=Nat.mod_lt _ (by omega)
 by_cases hbit:V / 2 ^ k % 2=1
 ·rw [hbit];simp;omega
 ·have:V / 2 ^ k % 2=0:=by omega
  rw [this];simp
theorem has2_eq (s:arr4_uint64) (i:Int):setHas2 s i=setHas s i:=by
 unfold setHas2 setHas
 split
 ·rfl
 ·split
  ·exact bit_eq _ _ (by omega) (by omega)
  ·split
   ·exact bit_eq _ _ (by omega) (by omega)
   ·split
    ·exact bit_eq _ _ (by omega) (by omega)
    ·split
     ·exact bit_eq _ _ (by omega) (by omega)
     ·rfl
theorem setHas_ok (s:arr4_uint64) (i:Int):C_set_Has s i (setHas s i):=by rw [← has2_eq];exact has2_ok s i
end Go.Ev.Pl
set_option linter.unusedSimpArgs false
set_option linter.unusedVariables false
namespace Go.Ev.Pl
open Go Go.Ev
theorem aheadL1_ok (p:api_Places) (s:ByteArray) (k i:Nat) (hk:k < p.Sets.length) (hi:i < s.size):C_split_ahead_L1 (k:Int) p s (i:Int) (setHas p.Sets[k] (bt s i)) p s (i:Int):=by
 refine W_split_ahead_L1 _ _ _ _ _ _ _ _ ⟨by omega,by omega,by omega,by omega,_,setHas_ok _ _,?_,rfl,rfl,rfl⟩
 rw [gd_nat hk];rfl
theorem boolsRefl_ok (a:List Bool) (ha:a.length < 1000000):C_heckleref15_Bools a a true:=by
 refine W_heckleref15_Bools a a _ ⟨fun h=>by simp at h,fun _=>⟨fun t=>∃ i:Nat,t=i∧i≤a.length,fun t=>(a.length - t).toNat,⟨0,rfl,by omega⟩,?_⟩⟩
 rintro t ⟨i,rfl,hi⟩
 refine ⟨fun ht=>?_,fun ht=>rfl⟩
 have ht:i < a.length:=by have:=of_decide_eq_true ht;omega
 have hw2:w64 ((i:Int)+1)=((i+1:Nat):Int):=w64_id (by omega) (by omega)
 rw [hw2]
 refine ⟨by omega,by omega,by omega,by omega,fun h=>?_,fun _=>⟨⟨i+1,rfl,by omega⟩,by first | omega | (dsimp only;omega)⟩⟩
 cases hg:gd a (i:Int)<;>rw [hg] at h<;>simp at h
end Go.Ev.Pl
set_option linter.unusedSimpArgs false
set_option linter.unusedVariables false
namespace Go.Ev.Pl
open Go Go.Ev
section
variable {N M h : Nat} {B B' : Nat → Int}
theorem hdS_sub (hM:h+M≤N) (hB:∀ i,i < M→B' i=B (h+i)) {sets:List arr4_uint64} {p i:Nat}:hdS M B' sets p i↔i < M∧hdS N B sets p (h+i):=by
 constructor
 ·rintro ⟨h1,s,h2,h3⟩
  exact ⟨h1,by omega,s,h2,by rw [← hB i h1];exact h3⟩
 ·rintro ⟨h1,_,s,h2,h3⟩
  exact ⟨h1,s,h2,by rw [hB i h1];exact h3⟩
theorem pth_sub1 (hM:h+M≤N) (hB:∀ i,i < M→B' i=B (h+i)) {sets:List arr4_uint64} {last:Nat→Bool} {fo:Nat→Nat→Bool} {p i j:Nat} (hp:Pth M B' sets last fo p i j):Pth N B sets last fo p (h+i) (h+j):=by
 induction hp with
 | last h1 hl=>exact .last ((hdS_sub hM hB).1 h1).2 hl
 | step h1 hf _ ih=>exact .step ((hdS_sub hM hB).1 h1).2 hf ih
theorem pth_sub2 (hM:h+M≤N) (hB:∀ i,i < M→B' i=B (h+i)) {sets:List arr4_uint64} {last:Nat→Bool} {fo:Nat→Nat→Bool} {p a b:Nat} (hp:Pth N B sets last fo p a b):∀ i j,a=h+i→b=h+j→j≤M→Pth M B' sets last fo p i j:=by
 induction hp with
 | last h1 hl=>
   intro i j e1 e2 hj
   obtain rfl:j=i+1:=by omega
   exact .last ((hdS_sub hM hB).2 ⟨by omega,by rw [← e1];exact h1⟩) hl
 | step h1 hf hp ih=>
   intro i j e1 e2 hj
   have:=pth_lt hp
   exact .step ((hdS_sub hM hB).2 ⟨by omega,by rw [← e1];exact h1⟩) hf (ih (i+1) j (by omega) e2 hj)
theorem acc_sub (hM:h+M≤N) (hB:∀ i,i < M→B' i=B (h+i)) {g:GA} {i j:Nat} (hj:j≤M):acc M B' g i j↔acc N B g (h+i) (h+j):=by
 constructor
 ·rintro (⟨h1,rfl⟩ | ⟨p,h1,h2⟩)
  ·exact .inl ⟨h1,rfl⟩
  ·exact .inr ⟨p,h1,pth_sub1 hM hB h2⟩
 ·rintro (⟨h1,e⟩ | ⟨p,h1,h2⟩)
  ·exact .inl ⟨h1,by omega⟩
  ·exact .inr ⟨p,h1,pth_sub2 hM hB h2 _ _ rfl rfl hj⟩
def Rch (N:Nat) (B:Nat→Int) (g:GA):Nat→Nat→Prop
 | 0,p=>g.first p=true
 | m+1,q=>∃ p,Rch N B g m p∧hdS N B g.sets p m∧g.follow p q=true
theorem rch_acc {g:GA} {j:Nat}:∀ {m:Nat},m < j→(acc N B g 0 j↔∃ p,Rch N B g m p∧Pth N B g.sets g.last g.follow p m j)
 | 0,h=>by
   constructor
   ·rintro (⟨_,e⟩ | h)
    ·omega
    ·exact h
   ·exact fun h=>.inr h
 | m+1,h=>by
   rw [rch_acc (show m < j by omega)]
   constructor
   ·rintro ⟨p,h1,h2⟩
    cases h2 with
    | last=>omega
    | step hd hf hp=>exact ⟨_,⟨p,h1,hd,hf⟩,hp⟩
   ·rintro ⟨q,⟨p,h1,hd,hf⟩,hp⟩
    exact ⟨p,h1,.step hd hf hp⟩
theorem rch_last {g:GA} {m:Nat}:acc N B g 0 (m+1)↔∃ p,Rch N B g m p∧hdS N B g.sets p m∧g.last p=true:=by
 rw [rch_acc (Nat.lt_succ_self m)]
 constructor
 ·rintro ⟨p,h1,h2⟩
  cases h2 with
  | last hd hl=>exact ⟨p,h1,hd,hl⟩
  | step hd hf hp=>have:=pth_lt hp;omega
 ·rintro ⟨p,h1,hd,hl⟩
  exact ⟨p,h1,.last hd hl⟩
theorem acc_zero {g:GA}:acc N B g 0 0↔g.null=true:=by
 constructor
 ·rintro (⟨h,_⟩ | ⟨p,_,h⟩)
  ·exact h
  ·have:=pth_lt h;omega
 ·exact fun h=>.inl ⟨h,rfl⟩
end
noncomputable def ahd (x:api_Rx) (s:ByteArray):List Bool:=(List.range (s.size+1)).map (accB s (gof x))
theorem ahd_len (x:api_Rx) (s:ByteArray):(ahd x s).length=s.size+1:=by simp [ahd]
theorem ahd_get (x:api_Rx) (s:ByteArray) {i:Nat} (h:i < s.size+1):gd (ahd x s) (i:Int)=accB s (gof x) i:=by
 simp [gd,ahd,h]
end Go.Ev.Pl
set_option linter.unusedSimpArgs false
set_option linter.unusedVariables false
namespace Go.Ev.Pl
open Go Go.Ev
theorem rev_set (x:api_Rx):(rev x).Set=x.Set:=by rw [rev_eq]
theorem rev_lo (x:api_Rx):(rev x).Lo=x.Lo:=by rw [rev_eq]
theorem rev_hi (x:api_Rx):(rev x).Hi=x.Hi:=by rw [rev_eq]
theorem rev_len (x:api_Rx):(rev x).Kids.length=x.Kids.length:=by rw [rev_kids];split<;>simp
theorem rev_mem {x y:api_Rx}:y∈(rev x).Kids↔∃ z,z∈x.Kids∧rev z=y:=by rw [rev_kids];split<;>simp
theorem rev_sum (f:api_Rx→Nat) (x:api_Rx) (h:∀ y∈x.Kids,f (rev y)=f y):((rev x).Kids.map f).sum=(x.Kids.map f).sum:=by
 have e:(x.Kids.map rev).map f=x.Kids.map f:=by
  rw [List.map_map];exact List.map_congr_left h
 rw [rev_kids]
 split
 ·rw [List.map_reverse,List.sum_reverse,e]
 ·rw [e]
theorem rev_rev:∀ x,rev (rev x)=x:=by
 refine rxInd fun x ih=>?_
 have e:(x.Kids.map rev).map rev=x.Kids:=by
  rw [List.map_map]
  conv=>rhs;rw [← List.map_id x.Kids]
  exact List.map_congr_left ih
 rw [rev_eq (rev x),rev_kind,rev_kids]
 have e2:(if x.Kind=3 then ((if x.Kind=3 then (x.Kids.map rev).reverse else x.Kids.map rev).map rev).reverse else (if x.Kind=3 then (x.Kids.map rev).reverse else x.Kids.map rev).map rev)=x.Kids:=by
  split
  ·rw [List.map_reverse,List.reverse_reverse,e]
  ·exact e
 rw [e2,rev_set,rev_lo,rev_hi]
 clear e2 e ih
 cases x;rfl
theorem rev_wf:∀ x,Wf x→Wf (rev x):=by
 refine rxInd fun x ih h=>?_
 obtain ⟨h1,h2⟩:=(wf_eq x).1 h
 refine (wf_eq _).2 ⟨by rw [rev_len];exact h1,fun y hy=>?_⟩
 obtain ⟨z,hz,rfl⟩:=rev_mem.1 hy
 exact ih z hz (h2 z hz)
theorem rev_size:∀ x,sizeN (rev x)=sizeN x:=by
 refine rxInd fun x ih=>?_
 rw [sizeN_eq,sizeN_eq x,rev_sum sizeN x ih,rev_kind]
 have:timesN (rev x)=timesN x:=by simp [timesN,rev_lo,rev_hi]
 rw [this]
theorem rev_cnt:∀ x,cnt (rev x)=cnt x:=by
 refine rxInd fun x ih=>?_
 rw [cnt_eq,cnt_eq x,rev_sum cnt x ih]
theorem nodesZ_ge:∀ x (most:Int),0≤nodesZ x most→nodesZ x most=most - cnt x:=by
 refine rxInd fun x ih most h=>?_
 rw [nodesZ_eq] at h ⊢
 rw [cnt_eq]
 have hstay:∀ (l:List api_Rx) (m:Int),m < 0→l.foldl (fun m y=>if m≥0 then nodesZ y m else m) m=m:=by
  intro l
  induction l with
  | nil=>intro m _;rfl
  | cons y r ih2=>intro m h;rw [List.foldl_cons,if_neg (by omega)];exact ih2 m h
 have key:∀ (l:List api_Rx) (m:Int),(∀ y∈l,y∈x.Kids)→0≤l.foldl (fun m y=>if m≥0 then nodesZ y m else m) m→l.foldl (fun m y=>if m≥0 then nodesZ y m else m) m=m - ((l.map cnt).sum:Nat):=by
  intro l
  induction l with
  | nil=>intro m _ _;simp
  | cons y r ih2=>
    intro m hl h
    simp only [List.foldl_cons,List.map_cons,List.sum_cons] at h ⊢
    rcases (show m < 0∨m≥0 by omega) with hn | hp
    ·rw [if_neg (by omega),hstay _ _ hn] at h;omega
    ·rw [if_pos hp] at h ⊢
     rcases (show nodesZ y m < 0∨0≤nodesZ y m by omega) with hn | hp2
     ·rw [hstay _ _ hn] at h;omega
     ·rw [ih2 _ (fun z hz=>hl z (List.mem_cons_of_mem _ hz)) h,ih y (hl y (List.mem_cons_self ..)) m hp2];omega
 rw [key x.Kids (most - 1) (fun _ h=>h) h]
 omega
theorem nodes_rev (x:api_Rx) (most:Int) (h:0≤nodesZ x most):nodesZ (rev x) most=nodesZ x most:=by
 have h1:=nodesZ_ge x most h
 rw [h1,nodesZ_cnt (rev x) most (by rw [rev_cnt];omega),rev_cnt]
theorem rev_ownB (x:api_Rx):ownB (rev x)=ownB x:=by
 simp only [ownB,rev_kind,rev_set,rev_lo,rev_hi,rev_len]
theorem rev_rgt:∀ x d,rgt (rev x) d=rgt x d:=by
 refine rxInd fun x ih d=>?_
 rw [rgt_eq,rgt_eq x,rev_ownB]
 congr 1
 have e:(x.Kids.map rev).all (fun k=>!oddK (rev x) k && rgt k (d - 1))=x.Kids.all fun k=>!oddK x k && rgt k (d - 1):=by
  rw [List.all_map]
  rw [Bool.eq_iff_iff,List.all_eq_true,List.all_eq_true]
  refine forall_congr' fun y=>forall_congr' fun hy=>?_
  simp only [Function.comp_apply,oddK,rev_kind,ih y hy]
 rw [rev_kids]
 split
 ·rw [List.all_reverse,e]
 ·exact e
theorem rev_right (x:api_Rx):rightB (rev x)=rightB x:=by
 have key:∀ x,rightB x=true→rightB (rev x)=true:=by
  intro x h
  simp only [rightB,Bool.and_eq_true,decide_eq_true_eq] at h ⊢
  refine ⟨by rw [rev_rgt];exact h.1,?_,?_⟩
  ·have:sizeZ (rev x)=sizeZ x:=by simp only [sizeZ,rev_size]
   omega
  ·have:=nodes_rev x 1000 h.2.2
   omega
 rw [Bool.eq_iff_iff]
 constructor
 ·intro h;have:=key _ h;rwa [rev_rev] at this
 ·exact key x
end Go.Ev.Pl
set_option linter.unusedSimpArgs false
set_option linter.unusedVariables false
namespace Go.Ev.Pl
open Go Go.Ev
theorem turnedRx_ok (l:List api_Rx) (hl:l.length < 1099511627776):C_split_turned_api_Rx l l.reverse:=by
 refine W_split_turned_api_Rx l _ ⟨⟨by omega,by omega,by omega⟩,backward_95 l,by omega,fun i out=>out=l.reverse.take i,by simp,?_,?_⟩
 ·rintro i y hi hy out rfl
  have hlt:(l.reverse.take i).length=i:=by rw [List.length_take,List.length_reverse];omega
  refine ⟨by omega,by omega,by omega,by simp,?_⟩
  show _=List.take (i+1) l.reverse
  rw [List.take_succ_eq_append_getElem (by rw [List.length_reverse];exact hi),List.set_append_right _ _ (by omega),Nat.sub_self,List.set_cons_zero]
  congr 2
  rw [List.getElem_reverse]
  rw [List.getElem?_eq_getElem (by omega)] at hy
  exact (Option.some.inj hy).symm
 ·rintro out rfl
  rw [List.take_of_length_le (by simp)]
theorem reverse_ok:∀ x,Wf x→C_split_reverse x (rev x):=by
 refine rxInd fun x ih hw=>?_
 obtain ⟨hl,hk⟩:=(wf_eq x).1 hw
 refine W_split_reverse x _ ⟨fun l=>l.map rev=(rev x).Kids∧l.length=x.Kids.length∧∀ y∈l,y∈x.Kids,?_,fun h=>⟨_,turnedRx_ok _ (by omega),?_⟩,fun h=>?_⟩
 ·rintro l ⟨e,hle,hm⟩
  refine ⟨fun k t=>∃ i:Nat,t=i∧i≤l.length∧k=(l.take i).map rev,fun _ t=>(l.length - t).toNat,⟨0,rfl,by omega,by simp⟩,?_⟩
  rintro k t ⟨i,rfl,hi,rfl⟩
  refine ⟨fun ht=>?_,fun ht=>?_⟩
  ·have ht:i < l.length:=by have:=of_decide_eq_true ht;omega
   have hw2:w64 ((i:Int)+1)=((i+1:Nat):Int):=w64_id (by omega) (by omega)
   have hlen:((l.take i).map rev).length=i:=by rw [List.length_map,List.length_take];omega
   rw [gd_nat ht,hw2]
   refine ⟨by omega,by omega,_,ih _ (hm _ (List.getElem_mem ht)) (hk _ (hm _ (List.getElem_mem ht))),by omega,⟨i+1,rfl,by omega,?_⟩,by first | omega | (dsimp only;omega)⟩
   rw [List.take_succ_eq_append_getElem ht,List.map_append];rfl
  ·have ht:i=l.length:=by have:=of_decide_eq_false ht;omega
   subst ht
   rw [List.take_of_length_le (Nat.le_refl _),e,rev_eq]
 ·have h:x.Kind=3:=by simpa using h
  exact ⟨by rw [rev_kids,if_pos h,List.map_reverse],by simp,fun y hy=>by simpa using hy⟩
 ·have h:¬ x.Kind=3:=by simpa using h
  exact ⟨by rw [rev_kids,if_neg h],rfl,fun y hy=>hy⟩
theorem mem_take_succ {α:Type} {l:List α} {i:Nat} (h:i < l.length) (v:α):v∈l.take (i+1)↔v∈l.take i∨v=l[i]:=by
 rw [List.take_succ_eq_append_getElem h,List.mem_append,List.mem_singleton]
end Go.Ev.Pl
set_option linter.unusedSimpArgs false
set_option linter.unusedVariables false
namespace Go.Ev.Pl
open Go Go.Ev
theorem ahead_ok (x:api_Rx) (s:ByteArray) (hw:Wf x) (hr:rightB x=true) (hs:s.size≤100000):C_split_ahead x s (ahd x s):=by
 have hP:=placeOf_ok x hw
 rw [if_pos hr,if_pos hr] at hP
 obtain ⟨hr2,hs200⟩:=size_of_right hr
 have hn:=gof_n x hr2
 have hca:=canon_gof x
 obtain ⟨g,hg⟩:∃ g,g=gof x:=⟨_,rfl⟩
 have hah:ahd x s=(List.range (s.size+1)).map (accB s g):=by rw [hg];rfl
 rw [hah]
 rw [← hg] at hP hn hca
 have hS:(plc g).Sets.length=g.n:=hca.sets
 have hF:(plc g).Follow.length=g.n:=flw_len _ _
 refine W_split_ahead x s _ ⟨_,_,hP,fun s' pS pF pL pFo pN out next t=>(s'=s∧pS=(plc g).Sets∧pF=(plc g).First∧pL=(plc g).Last∧pFo=(plc g).Follow∧pN=(plc g).Null)∧∃ m:Nat,t=m∧m≤s.size∧out=(List.range (m+1)).map (accB s g)∧
  ∃ q:Nat→Bool,(∀ p,p < g.n→(q p=true↔Rch s.size (bt s) g m p))∧next=lst g.n q 0,
  fun _ _ _ _ _ _ _ _ t=>(s.size - t).toNat,⟨⟨rfl,rfl,rfl,rfl,rfl,rfl⟩,0,rfl,by omega,?_,g.first,fun p _=>Iff.rfl,rfl⟩,?_⟩
 ·show [g.null]=[accB s g 0]
  have:g.null=accB s g 0:=by rw [Bool.eq_iff_iff,accB_iff,acc_zero]
  rw [this]
 rintro s' pS pF pL pFo pN out next t ⟨⟨e1,e2,e3,e4,e5,e6⟩,m,rfl,hm,rfl,q,hq,hnext⟩
 refine ⟨fun ht=>?_,fun ht=>?_⟩
 rotate_left
 ·have ht:m=s.size:=by have:=of_decide_eq_false ht;omega
  subst ht;rfl
 have ht:m < s.size:=by have:=of_decide_eq_true ht;omega
 have hll:=lst_len g.n q 0
 rw [← hnext] at hll
 have hel:∀ (k:Nat) (hk:k < next.length),∃ p,p < g.n∧next[k]=((p:Nat):Int)∧Rch s.size (bt s) g m p:=by
  intro k hk
  have hm1:∀ v,v∈next→v∈lst g.n q 0:=fun v hv=>by rw [← hnext];exact hv
  obtain ⟨p,hp,hq2,e⟩:=lst_mem.1 (hm1 _ (List.getElem_mem hk))
  exact ⟨p,hp,e,(hq p hp).1 hq2⟩
 have hmem:∀ p,p < g.n→(((p:Nat):Int)∈next↔Rch s.size (bt s) g m p):=by
  intro p hp
  rw [hnext,lst_mem,← hq p hp]
  constructor
  ·rintro ⟨i,hi,hqi,e⟩
   obtain rfl:i=p:=by omega
   exact hqi
  ·exact fun h=>⟨p,hp,h,by omega⟩
 have hw2:w64 ((m:Int)+1)=((m+1:Nat):Int):=w64_id (by omega) (by omega)
 refine ⟨fun s'' pS' pF' pL' pFo' pN' i thn is k=>(s''=s∧pS'=(plc g).Sets∧pF'=(plc g).First∧pL'=(plc g).Last∧pFo'=(plc g).Follow∧pN'=(plc g).Null∧i=(m:Int))∧∃ c:Nat,k=c∧c≤next.length∧thn.length≤c * g.n∧
  (is=true↔∃ p:Nat,((p:Nat):Int)∈next.take c∧hdS s.size (bt s) g.sets p m∧g.last p=true)∧
  (∀ v,v∈thn↔∃ p r:Nat,((p:Nat):Int)∈next.take c∧hdS s.size (bt s) g.sets p m∧r < g.n∧g.follow p r=true∧v=r),
  fun _ _ _ _ _ _ _ _ _ k=>(next.length - k).toNat,⟨⟨e1,e2,e3,e4,e5,e6,rfl⟩,0,rfl,by omega,by simp,by simp,fun v=>by simp⟩,?_⟩
 rintro s'' pS' pF' pL' pFo' pN' i thn is k ⟨⟨f1,f2,f3,f4,f5,f6,f7⟩,c,rfl,hc,hlen,hi,hthn⟩
 have hcn:c * g.n≤200 * 200:=Nat.mul_le_mul (by omega) (by omega)
 refine ⟨fun hk=>?_,fun hk=>?_⟩
 ·have hk:c < next.length:=by have:=of_decide_eq_true hk;omega
  have hw3:w64 ((c:Int)+1)=((c+1:Nat):Int):=w64_id (by omega) (by omega)
  obtain ⟨p,hp,ep,hR⟩:=hel c hk
  have hpS:p < (plc g).Sets.length:=by rw [hS];exact hp
  have hdp:hdS s.size (bt s) g.sets p m↔setHas (plc g).Sets[p] (bt s m)=true:=by
   constructor
   ·rintro ⟨_,st,h1,h2⟩
    rw [List.getElem?_eq_getElem (show p < g.sets.length from hpS)] at h1
    cases h1;exact h2
   ·exact fun h=>⟨ht,_,List.getElem?_eq_getElem (show p < g.sets.length from hpS),h⟩
  have hgf:gd (plc g).Follow ((p:Nat):Int)=lst g.n (g.follow p) 0:=(gd_nat (l:=flw g 0) (by rw [flw_len];exact hp)).trans (flw_get g 0 hp)
  have hfl:=lst_len g.n (g.follow p) 0
  rw [gd_nat hk,ep,hw3,f1,f2,f3,f4,f5,f6,f7]
  have hmc:c * g.n+g.n=(c+1) * g.n:=by rw [Nat.add_mul,Nat.one_mul]
  have fin:∀ (thn':List Int) (is':Bool),thn'.length≤(c+1) * g.n→(is'=true↔∃ p:Nat,((p:Nat):Int)∈next.take (c+1)∧hdS s.size (bt s) g.sets p m∧g.last p=true)→
   (∀ v,v∈thn'↔∃ p r:Nat,((p:Nat):Int)∈next.take (c+1)∧hdS s.size (bt s) g.sets p m∧r < g.n∧g.follow p r=true∧v=r)→
   ∃ c':Nat,((c+1:Nat):Int)=c'∧c'≤next.length∧thn'.length≤c' * g.n∧(is'=true↔∃ p:Nat,((p:Nat):Int)∈next.take c'∧hdS s.size (bt s) g.sets p m∧g.last p=true)∧
     (∀ v,v∈thn'↔∃ p r:Nat,((p:Nat):Int)∈next.take c'∧hdS s.size (bt s) g.sets p m∧r < g.n∧g.follow p r=true∧v=r):=
   fun thn' is' h1 h2 h3=>⟨c+1,rfl,by omega,h1,h2,h3⟩
  have h1n:hdS s.size (bt s) g.sets p m→∀ v,v∈thn++lst g.n (g.follow p) 0↔∃ p r:Nat,((p:Nat):Int)∈next.take (c+1)∧hdS s.size (bt s) g.sets p m∧r < g.n∧g.follow p r=true∧v=r:=by
   intro hd v
   rw [List.mem_append,hthn,lst_mem]
   constructor
   ·rintro (⟨p',r,h1,h2⟩ | ⟨r,h1,h2,h3⟩)
    ·exact ⟨p',r,(mem_take_succ hk _).2 (.inl h1),h2⟩
    ·exact ⟨p,r,(mem_take_succ hk _).2 (.inr ep.symm),hd,h1,h2,by omega⟩
   ·rintro ⟨p',r,h1,h2,h3,h4,h5⟩
    rcases (mem_take_succ hk _).1 h1 with h1 | h1
    ·exact .inl ⟨p',r,h1,h2,h3,h4,h5⟩
    ·rw [ep] at h1
     obtain rfl:p'=p:=by omega
     exact .inr ⟨r,h3,h4,by omega⟩
  have h0n:¬ hdS s.size (bt s) g.sets p m→(∀ v,v∈thn↔∃ p r:Nat,((p:Nat):Int)∈next.take (c+1)∧hdS s.size (bt s) g.sets p m∧r < g.n∧g.follow p r=true∧v=r):=by
   intro hd v
   rw [hthn]
   constructor
   ·rintro ⟨p',r,h1,h2⟩
    exact ⟨p',r,(mem_take_succ hk _).2 (.inl h1),h2⟩
   ·rintro ⟨p',r,h1,h2,h3⟩
    rcases (mem_take_succ hk _).1 h1 with h1 | h1
    ·exact ⟨p',r,h1,h2,h3⟩
    ·rw [ep] at h1
     obtain rfl:p'=p:=by omega
     exact absurd h2 hd
  have his:∀ b:Bool,(b=true↔is=true∨(hdS s.size (bt s) g.sets p m∧g.last p=true))→(b=true↔∃ p:Nat,((p:Nat):Int)∈next.take (c+1)∧hdS s.size (bt s) g.sets p m∧g.last p=true):=by
   intro b hb
   rw [hb,hi]
   constructor
   ·rintro (⟨p',h1,h2⟩ | h)
    ·exact ⟨p',(mem_take_succ hk _).2 (.inl h1),h2⟩
    ·exact ⟨p,(mem_take_succ hk _).2 (.inr ep.symm),h⟩
   ·rintro ⟨p',h1,h2⟩
    rcases (mem_take_succ hk _).1 h1 with h1 | h1
    ·exact .inl ⟨p',h1,h2⟩
    ·rw [ep] at h1
     obtain rfl:p'=p:=by omega
     exact .inr h2
  refine ⟨fun a1 a2 a3 a4 a5 a6 a7 thn' is'=>(a1=s∧a2=(plc g).Sets∧a3=(plc g).First∧a4=(plc g).Last∧a5=(plc g).Follow∧a6=(plc g).Null∧a7=(m:Int))∧thn'.length≤(c+1) * g.n∧(is'=true↔∃ p:Nat,((p:Nat):Int)∈next.take (c+1)∧hdS s.size (bt s) g.sets p m∧g.last p=true)∧
   (∀ v,v∈thn'↔∃ p r:Nat,((p:Nat):Int)∈next.take (c+1)∧hdS s.size (bt s) g.sets p m∧r < g.n∧g.follow p r=true∧v=r),
   fun a1 a2 a3 a4 a5 a6 a7 thn' is' h=>⟨⟨h.1,fin _ _ h.2.1 h.2.2.1 h.2.2.2⟩,by first | omega | (dsimp only;omega)⟩,by omega,by omega,
   _,_,_,_,aheadL1_ok (plc g) s p m hpS ht,fun hh=>?_,fun hh=>?_⟩
  ·have hd:=hdp.2 hh
   rw [hgf]
   have hA:=h1n hd
   refine ⟨by omega,by omega,by omega,fun hi'=>⟨⟨rfl,rfl,rfl,rfl,rfl,rfl,rfl⟩,by rw [List.length_append];omega,his _ (by simp [hi']),hA⟩,fun hi'=>?_⟩
   refine ⟨g.last p,contains_ok _ _ (by have:=lst_len g.n g.last 0;show (lst g.n g.last 0).length < _;omega) _ ?_,⟨rfl,rfl,rfl,rfl,rfl,rfl,rfl⟩,by rw [List.length_append];omega,his _ (by simp [hi',hd]),hA⟩
   show _↔_∈lst g.n g.last 0
   rw [lst_mem]
   constructor
   ·exact fun h=>⟨p,hp,h,by omega⟩
   ·rintro ⟨i,_,h,e⟩
    obtain rfl:i=p:=by omega
    exact h
  ·have hd:¬ hdS s.size (bt s) g.sets p m:=fun h=>by rw [hdp.1 h] at hh;cases hh
   exact ⟨⟨rfl,rfl,rfl,rfl,rfl,rfl,rfl⟩,by omega,his _ (by simp [hd]),h0n hd⟩
 ·have hk:c=next.length:=by have:=of_decide_eq_false hk;omega
  subst hk
  rw [List.take_of_length_le (Nat.le_refl _)] at hi hthn
  have hlt:∀ p:Nat,hdS s.size (bt s) g.sets p m→p < g.n:=fun p h=>by rw [← hca.sets];exact hd_lt h
  have hacc:is=accB s g (m+1):=by
   rw [Bool.eq_iff_iff,hi,accB_iff,rch_last]
   constructor
   ·rintro ⟨p,h1,h2,h3⟩;exact ⟨p,(hmem p (hlt p h2)).1 h1,h2,h3⟩
   ·rintro ⟨p,h1,h2,h3⟩;exact ⟨p,(hmem p (hlt p h2)).2 h1,h2,h3⟩
  rw [hw2]
  refine ⟨join thn [],join_ok thn [] (by omega) (by simp),by simp;omega,⟨⟨f1,f2,f3,f4,f5,f6⟩,m+1,rfl,by omega,?_,fun r=>@decide (Rch s.size (bt s) g (m+1) r) (Classical.propDecidable _),fun r hr=>by simp,?_⟩,by first | omega | (dsimp only;omega)⟩
  ·rw [hacc,List.range_succ (n:=m+1),List.map_append];rfl
  ·refine ss_ext (join_spec _ _).1 (lst_ss _ _ _) fun v=>?_
   rw [(join_spec _ _).2,hthn,lst_mem]
   constructor
   ·rintro (⟨p,r,h1,h2,h3,h4,rfl⟩ | h)
    ·exact ⟨r,h3,by simp only [decide_eq_true_eq];exact ⟨p,(hmem p (hlt p h2)).1 h1,h2,h4⟩,by omega⟩
    ·simp at h
   ·rintro ⟨r,h1,h2,e⟩
    simp only [decide_eq_true_eq] at h2
    obtain ⟨p,h3,h4,h5⟩:=h2
    exact .inl ⟨p,r,(hmem p (hlt p h4)).2 h3,h4,h1,h5,by omega⟩
end Go.Ev.Pl
set_option linter.unusedSimpArgs false
set_option linter.unusedVariables false
namespace Go.Ev.Pl
open Go Go.Ev
theorem Ahead_ok (x:api_Rx) (s:ByteArray) (hw:Wf x) (hs:(s.size:Int) < 2 ^ 60):C_split_Ahead x s (if rightB x=true∧s.size≤10000 then ahd x s else []):=by
 refine W_split_Ahead x s _ ⟨_,rxRightAll_ok x hw,fun h=>?_,fun h=>?_⟩
 ·have h':¬ (rightB x=true∧s.size≤10000):=by
   rintro ⟨h1,h2⟩
   simp only [h1,Bool.not_true,Bool.false_or,decide_eq_true_eq] at h;omega
  rw [if_neg h']
 ·simp only [Bool.or_eq_false_iff,Bool.not_eq_false',decide_eq_false_iff_not] at h
  have h':rightB x=true∧s.size≤10000:=⟨h.1,by omega⟩
  rw [if_pos h']
  exact ⟨_,ahead_ok x s hw h.1 (by omega),rfl⟩
abbrev zRx:api_Rx:={ Kind:=(0:Int),Set:={ e0:=(0:Int),e1:=(0:Int),e2:=(0:Int),e3:=(0:Int) },Lo:=(0:Int),Hi:=(0:Int),Kids:=[] }
theorem Reverse_ok (x:api_Rx) (hw:Wf x):C_split_Reverse x (if rightB x=true then rev x else zRx) (if rightB x=true then 0 else 1):=by
 refine W_split_Reverse x _ _ ⟨_,rxRightAll_ok x hw,fun h=>?_,fun h=>?_⟩
 ·have h:¬ rightB x=true:=by simpa using h
  rw [if_neg h,if_neg h];exact ⟨rfl,rfl⟩
 ·have h:rightB x=true:=by simpa using h
  rw [if_pos h,if_pos h]
  exact ⟨_,reverse_ok x hw,rfl,rfl⟩
def Rvd (s t:ByteArray):Prop:=t.size=s.size∧∀ i,i < s.size→bt t i=bt s (s.size - 1 - i)
theorem acc_rvd {s t:ByteArray} (h:Rvd s t) (x:api_Rx) (hr:Rgt x) {k:Nat} (hk:k≤s.size):accB t (gof (rev x)) k=true↔acc s.size (bt s) (gof x) (s.size - k) s.size:=by
 rw [accB_iff,h.1]
 have h1:=acc_rev (N:=s.size) (B:=bt s) x hr 0 k (by omega) hk
 rw [Nat.sub_zero] at h1
 rw [← h1]
 have h2:=acc_sub (N:=s.size) (M:=s.size) (h:=0) (B:=bkw s.size (bt s)) (B':=bt t) (by omega) (fun i hi=>by rw [h.2 i hi,Nat.zero_add]) (g:=gof (rev x)) (i:=0) (j:=k) hk
 rw [h2,Nat.zero_add,Nat.zero_add]
noncomputable def lastN (p:Nat→Prop):Nat→Nat
 | 0=>0
 | n+1=>@ite _ (p (n+1)) (Classical.propDecidable _) (n+1) (lastN p n)
theorem lastN_pos {p:Nat→Prop} {n:Nat} (h:p (n+1)):lastN p (n+1)=n+1:=by simp [lastN,h]
theorem lastN_neg {p:Nat→Prop} {n:Nat} (h:¬ p (n+1)):lastN p (n+1)=lastN p n:=by simp [lastN,h]
theorem lastN_none {p:Nat→Prop}:∀ {n:Nat},(∀ k,0 < k→k≤n→¬ p k)→lastN p n=0
 | 0,_=>rfl
 | n+1,h=>by rw [lastN_neg (h _ (by omega) (by omega)),lastN_none fun k h1 h2=>h k h1 (by omega)]
noncomputable def prt (r:api_Rule) (s:ByteArray):Nat:=
 if rightB (api_Rule.Rx r)=true∧s.size≤10000 then
  if (api_Rule.Trail r).Kind=0 then (if accB s (gof (api_Rule.Rx r)) s.size=true then s.size else 0)
  else if rightB (api_Rule.Trail r)=true then lastN (fun h=>acc s.size (bt s) (gof (api_Rule.Rx r)) 0 h∧acc s.size (bt s) (gof (api_Rule.Trail r)) h s.size) s.size
  else 0
 else 0
end Go.Ev.Pl
set_option linter.unusedSimpArgs false
set_option linter.unusedVariables false
namespace Go.Ev.Pl
open Go Go.Ev
theorem empty_text (s:ByteArray):(ByteArray.toList s == ByteArray.toList { data:=#[] })=true↔s.size=0:=by
 rw [beq_iff_eq,ByteArray.toList_eq,ByteArray.toList_eq]
 constructor
 ·intro h
  have:=congrArg List.length h
  simpa using this
 ·intro h
  have:s.data.size=0:=h
  simp only [Array.toList_eq_nil_iff]
  exact Array.eq_empty_of_size_eq_zero this
theorem byteAt_of {s:ByteArray} {i:Nat} (h:i < s.size):byteAt s (i:Int)=s.data[i]'h:=by
 have h1:s[i]?=some (s.data[i]'h):=by
  rw [getElem?_pos s i h];rfl
 simp only [byteAt,Int.toNat_natCast,h1,Option.getD_some]
theorem rvd_list {s t:ByteArray} (h:t.data.toList=s.data.toList.reverse):Rvd s t:=by
 have hsz:t.size=s.size:=by
  have:=congrArg List.length h
  simpa using this
 refine ⟨hsz,fun i hi=>?_⟩
 have h1:i < t.size:=by omega
 have h2:s.size - 1 - i < s.size:=by omega
 unfold bt
 rw [byteAt_of h1,byteAt_of h2]
 have e:t.data[i]'h1=s.data[s.size - 1 - i]'h2:=by
  have g1:t.data[i]'h1=t.data.toList[i]'(by simpa using h1):=by simp
  have g2:t.data.toList[i]'(by simpa using h1)=s.data.toList.reverse[i]'(by rw [← h];simpa using h1):=by simp only [h]
  rw [g1,g2,List.getElem_reverse]
  simp
 rw [e]
theorem rvd_bytes (s:ByteArray):Rvd s (bytesT (List.map enc_u8 (bytesOf s).reverse)):=by
 refine rvd_list ?_
 simp only [bytesT,bytesOf,List.map_map,← List.map_reverse]
 have e:toU8∘enc_u8∘(fun b:UInt8=>(b.toNat:Int))=id:=by
  funext b
  simp [toU8,enc_u8]
 rw [e]
 simp
theorem Split_ok (r:api_Rule) (s:ByteArray) (hw1:Wf (api_Rule.Rx r)) (hw2:Wf (api_Rule.Trail r)) (hs:(s.size:Int) < 2 ^ 60):C_split_Split r s (prt r s:Nat):=by
 refine W_split_Split r s _ ⟨_,Ahead_ok _ s hw1 hs,fun h=>?_,fun h=>?_⟩
 ·have:¬ (rightB (api_Rule.Rx r)=true∧s.size≤10000):=by
   intro hh
   rw [if_pos hh,ahd_len] at h
   simp at h;omega
  simp [prt,this]
 ·have hh:rightB (api_Rule.Rx r)=true∧s.size≤10000:=by
   by_cases hh:rightB (api_Rule.Rx r)=true∧s.size≤10000
   ·exact hh
   ·rw [if_neg hh] at h;simp at h
  rw [if_pos hh,ahd_len]
  refine ⟨fun ht=>?_,fun ht=>?_⟩
  ·have ht:(api_Rule.Trail r).Kind=0:=by simpa using ht
   have hg:=ahd_get (api_Rule.Rx r) s (i:=s.size) (by omega)
   rw [gd,Int.toNat_natCast] at hg
   refine ⟨by omega,by omega,by omega,fun ha=>?_,fun ha=>?_⟩
   ·rw [hg] at ha;simp [prt,hh,ht,ha]
   ·rw [hg] at ha;simp [prt,hh,ht,ha]
  ·have ht:¬ (api_Rule.Trail r).Kind=0:=by simpa using ht
   refine ⟨_,rxRightAll_ok _ hw2,fun hr=>?_,fun hr=>?_⟩
   ·have hr:¬ rightB (api_Rule.Trail r)=true:=by simpa using hr
    simp [prt,hh,ht,hr]
   ·have hr:rightB (api_Rule.Trail r)=true:=by simpa using hr
    have hbl:(bytesOf s).length=s.size:=by simp [bytesOf]
    have hrv:=rvd_bytes s
    obtain ⟨t,ht2⟩:∃ t,t=bytesT (List.map enc_u8 (bytesOf s).reverse):=⟨_,rfl⟩
    rw [← ht2] at hrv
    have hts:t.size=s.size:=hrv.1
    have hrr:rightB (rev (api_Rule.Trail r))=true:=by rw [rev_right];exact hr
    have hR:=(size_of_right hr).1
    refine ⟨_,reverse_ok _ hw2,_,turnedByte_ok _ (by omega),ahd (rev (api_Rule.Trail r)) t,?_,?_⟩
    ·rw [← ht2];exact ahead_ok _ t (rev_wf _ hw2) hrr (by omega)
    obtain ⟨p,hp⟩:∃ p:Nat→Prop,p=fun h=>acc s.size (bt s) (gof (api_Rule.Rx r)) 0 h∧acc s.size (bt s) (gof (api_Rule.Trail r)) h s.size:=⟨_,rfl⟩
    have hprt:prt r s=lastN p s.size:=by simp [prt,hh,ht,hr,hp]
    rw [hprt,ahd_len,hts]
    refine ⟨fun h=>∃ i:Nat,h=i∧i≤s.size∧lastN p i=lastN p s.size,fun h=>h.toNat,⟨s.size,rfl,Nat.le_refl _,rfl⟩,?_⟩
    rintro _ ⟨i,rfl,hi,hl⟩
    have hwN:w64 ((s.size:Int) - i)=((s.size - i:Nat):Int):=(w64_id (by omega) (by omega)).trans (by omega)
    have hw1:0 < i→w64 ((i:Int) - 1)=((i - 1:Nat):Int):=fun h=>(w64_id (by omega) (by omega)).trans (by omega)
    have hA:(gd (ahd (api_Rule.Rx r) s) (i:Int) && gd (ahd (rev (api_Rule.Trail r)) t) (w64 ((s.size:Int) - i)))=true↔p i:=by
     rw [hwN,ahd_get _ s (by omega),ahd_get _ t (by omega),Bool.and_eq_true,accB_iff,acc_rvd hrv _ hR (by omega),hp,show s.size - (s.size - i)=i by omega]
    refine ⟨fun h0=>?_,fun h0=>?_⟩
    ·have h0:0 < i:=by have:=of_decide_eq_true h0;omega
     obtain ⟨k,rfl⟩:∃ k,i=k+1:=⟨i - 1,by omega⟩
     refine ⟨by omega,by omega,by omega,fun _=>by rw [hwN];omega,fun _=>by rw [hwN,Int.toNat_natCast];omega,fun _=>by rw [hwN];omega,fun ha=>?_,fun ha=>?_⟩
     ·rw [← hl,lastN_pos (hA.1 ha)]
     ·have hn:¬ p (k+1):=fun h=>by rw [hA.2 h] at ha;cases ha
      rw [lastN_neg hn] at hl
      rw [hw1 h0]
      exact ⟨⟨k,by omega,by omega,hl⟩,by first | omega | (dsimp only;omega)⟩
    ·have h0:i=0:=by have:=of_decide_eq_false h0;omega
     subst h0
     rw [← hl];rfl
theorem endsBad_ok (x:api_Rx) (s:ByteArray) (hw:Wf x) (hr:¬ rightB x=true):C_heckleref05_Ends x s 0 []:=by
 have hf:rightB x=false:=by simpa using hr
 refine W_heckleref05_Ends x s 0 _ ⟨false,W_heckleref05_May x s _ ⟨_,refRightAll_ok x hw,by rw [hf,Bool.false_and]⟩,fun _=>rfl,fun h=>by simp at h⟩
theorem matchBad_ok (x:api_Rx) (s:ByteArray) (hw:Wf x) (hr:¬ rightB x=true):C_heckleref05_Match x s false:=
 W_heckleref05_Match x s _ ⟨[],endsBad_ok x s hw hr,fun h=>by simp at h,fun h=>by simp at h,fun h=>by simp at h,by simp⟩
noncomputable def mtc (x:api_Rx) (s:ByteArray):Bool:=rightB x && accB s (gof x) s.size
theorem matchAll_ok (x:api_Rx) (s:ByteArray) (hw:Wf x) (hs:s.size≤10000):C_heckleref05_Match x s (mtc x s):=by
 by_cases hr:rightB x=true
 ·have:=match_ok x s hw hr hs
  rwa [mtc,hr,Bool.true_and]
 ·have:=matchBad_ok x s hw hr
  have hf:rightB x=false:=by simpa using hr
  rwa [mtc,hf,Bool.false_and]
theorem size_part {s:ByteArray} {a b:Nat} (h1:a≤b) (h2:b≤s.size):(s.extract a b).size=b - a:=by rw [ByteArray.size_extract];omega
theorem bt_part {s:ByteArray} {a b:Nat} (h1:a≤b) (h2:b≤s.size) {i:Nat} (hi:i < b - a):bt (s.extract a b) i=bt s (a+i):=by
 have e1:i < (s.extract a b).size:=by rw [size_part h1 h2];exact hi
 have e2:a+i < s.size:=by omega
 unfold bt
 rw [byteAt_of e1,byteAt_of e2]
 have:(s.extract a b).data[i]'e1=s.data[a+i]'e2:=by
  have e3:(s.extract a b).data=s.data.extract a b:=ByteArray.data_extract
  simp [e3]
 rw [this]
theorem mtc_head (x:api_Rx) (s:ByteArray) {h:Nat} (hh:h≤s.size):mtc x (s.extract 0 h)=true↔rightB x=true∧acc s.size (bt s) (gof x) 0 h:=by
 have hsz:=size_part (s:=s) (Nat.zero_le h) hh
 rw [mtc,Bool.and_eq_true,accB_iff,hsz]
 have:=acc_sub (N:=s.size) (M:=h - 0) (h:=0) (B:=bt s) (B':=bt (s.extract 0 h)) (by omega) (fun i hi=>bt_part (Nat.zero_le _) hh hi) (g:=gof x) (i:=0) (j:=h - 0) (by omega)
 rw [this];simp
theorem mtc_tail (x:api_Rx) (s:ByteArray) {h:Nat} (hh:h≤s.size):mtc x (s.extract h s.size)=true↔rightB x=true∧acc s.size (bt s) (gof x) h s.size:=by
 have hsz:=size_part (s:=s) hh (Nat.le_refl _)
 rw [mtc,Bool.and_eq_true,accB_iff,hsz]
 have:=acc_sub (N:=s.size) (M:=s.size - h) (h:=h) (B:=bt s) (B':=bt (s.extract h s.size)) (by omega) (fun i hi=>bt_part hh (Nat.le_refl _) hi) (g:=gof x) (i:=0) (j:=s.size - h) (by omega)
 rw [this,Nat.add_zero,show h+(s.size - h)=s.size by omega]
theorem Head_ok (r:api_Rule) (s:ByteArray) (hw1:Wf (api_Rule.Rx r)) (hw2:Wf (api_Rule.Trail r)) (hs:s.size≤10000):C_heckleref08_Head r s (prt r s:Nat):=by
 refine W_heckleref08_Head r s _ ⟨fun ht=>?_,fun ht=>?_⟩
 ·have ht:(api_Rule.Trail r).Kind=0:=by simpa using ht
  refine ⟨fun h=>⟨_,matchAll_ok _ s hw1 hs,fun hm=>?_,fun hm=>?_⟩,fun h=>?_⟩
  ·simp only [mtc,Bool.and_eq_true] at hm;simp [prt,hm.1,hm.2,hs,ht]
  ·by_cases hr:rightB (api_Rule.Rx r)=true
   ·simp only [mtc,hr,Bool.true_and] at hm;simp [prt,hm,hr,hs,ht]
   ·simp [prt,hr]
  ·have:s.size=0:=(empty_text s).1 (by simpa using h)
   have hz:prt r s=0:=by simp [prt,ht,this]
   rw [hz];rfl
 ·have ht:¬ (api_Rule.Trail r).Kind=0:=by simpa using ht
  obtain ⟨p,hp⟩:∃ p:Nat→Prop,p=fun h=>(rightB (api_Rule.Rx r)=true∧acc s.size (bt s) (gof (api_Rule.Rx r)) 0 h)∧rightB (api_Rule.Trail r)=true∧acc s.size (bt s) (gof (api_Rule.Trail r)) h s.size:=⟨_,rfl⟩
  have hprt:prt r s=lastN p s.size:=by
   by_cases h1:rightB (api_Rule.Rx r)=true
   ·by_cases h2:rightB (api_Rule.Trail r)=true
    ·simp [prt,h1,h2,hs,ht,hp]
    ·rw [lastN_none (fun k _ _ h=>by rw [hp] at h;exact h2 h.2.1)];simp [prt,h1,h2,ht]
   ·rw [lastN_none (fun k _ _ h=>by rw [hp] at h;exact h1 h.1.1)];simp [prt,h1]
  rw [hprt]
  refine ⟨fun h=>∃ i:Nat,h=i∧i≤s.size∧lastN p i=lastN p s.size,fun h=>h.toNat,⟨s.size,rfl,Nat.le_refl _,rfl⟩,?_⟩
  rintro _ ⟨i,rfl,hi,hl⟩
  have hw1':0 < i→w64 ((i:Int) - 1)=((i - 1:Nat):Int):=fun h=>(w64_id (by omega) (by omega)).trans (by omega)
  rw [Int.toNat_natCast]
  have m1:=matchAll_ok (api_Rule.Rx r) (s.extract 0 i) hw1 (by rw [size_part (Nat.zero_le i) hi];omega)
  have m2:=matchAll_ok (api_Rule.Trail r) (s.extract i s.size) hw2 (by rw [size_part hi (Nat.le_refl _)];omega)
  refine ⟨fun h0=>?_,fun h0=>?_⟩
  ·have h0:0 < i:=by have:=of_decide_eq_true h0;omega
   obtain ⟨k,rfl⟩:∃ k,i=k+1:=⟨i - 1,by omega⟩
   have next:¬ p (k+1)→(∃ j:Nat,w64 (((k+1:Nat):Int) - 1)=j∧j≤s.size∧lastN p j=lastN p s.size)∧(w64 (((k+1:Nat):Int) - 1)).toNat < ((k+1:Nat):Int).toNat:=fun hn=>by
    rw [lastN_neg hn] at hl
    rw [hw1' h0]
    exact ⟨⟨k,by omega,by omega,hl⟩,by omega⟩
   refine ⟨⟨by omega,hi⟩,_,m1,fun ha=>⟨fun _=>⟨by omega,hi⟩,_,m2,fun hb=>?_,fun hb=>next ?_⟩,fun ha=>next ?_⟩
   ·rw [← hl,lastN_pos (show p (k+1) by rw [hp];exact ⟨(mtc_head _ s hi).1 ha,(mtc_tail _ s hi).1 hb⟩)]
   ·rw [hp];rintro ⟨_,h⟩;rw [(mtc_tail _ s hi).2 h] at hb;cases hb
   ·rw [hp];rintro ⟨h,_⟩;rw [(mtc_head _ s hi).2 h] at ha;cases ha
  ·have h0:i=0:=by have:=of_decide_eq_false h0;omega
   subst h0
   rw [← hl];rfl
theorem refSplit_ok (r:api_Rule) (s:ByteArray) (hw1:Wf (api_Rule.Rx r)) (hw2:Wf (api_Rule.Trail r)) (hs:s.size≤10000):C_heckleref15_Split r s (prt r s:Nat):=
 W_heckleref15_Split r s _ ⟨fun h=>absurd (of_decide_eq_true h) (by omega),fun _=>⟨_,Head_ok r s hw1 hw2 hs,rfl⟩⟩
end Go.Ev.Pl
set_option linter.unusedSimpArgs false
set_option linter.unusedVariables false
namespace Go.Ev.Pl
open Go Go.Ev
def runsN (a:arr4_uint64):Nat→List arr2_int
 | 0=>[]
 | n+1=>
   if setHas a n=true then
    if 0 < n∧setHas a ((n:Int) - 1)=true then List.set (runsN a n) ((runsN a n).length - 1) { e0:=arr2_int.e0 ((runsN a n).getD ((runsN a n).length - 1) default),e1:=n }
    else runsN a n++[{ e0:=n,e1:=n }]
   else runsN a n
theorem runsN_len (a:arr4_uint64):∀ n,(runsN a n).length≤n
 | 0=>by simp [runsN]
 | n+1=>by
   have:=runsN_len a n
   unfold runsN
   split
   ·split
    ·rw [List.length_set];omega
    ·rw [List.length_append];simp;omega
   ·omega
theorem runsN_pos (a:arr4_uint64):∀ n:Nat,setHas a n=true→0 < (runsN a (n+1)).length
 | n,h=>by
   unfold runsN
   rw [if_pos h]
   split
   ·rename_i hc
    rw [List.length_set]
    obtain ⟨k,rfl⟩:∃ k,n=k+1:=⟨n - 1,by omega⟩
    exact runsN_pos a k (by have:=hc.2;rwa [show (((k+1:Nat):Int) - 1)=(k:Int) by omega] at this)
   ·rw [List.length_append];simp
theorem runs_ok (a:arr4_uint64):C_heckleref01_Runs a (runsN a 256):=by
 refine W_heckleref01_Runs a _ ⟨fun o i=>∃ n:Nat,i=n∧n≤256∧o=runsN a n,fun _ i=>(256 - i).toNat,⟨0,rfl,by omega,rfl⟩,?_⟩
 rintro o i ⟨n,rfl,hn,rfl⟩
 have hlen:=runsN_len a n
 have hw2:w64 ((n:Int)+1)=((n+1:Nat):Int):=w64_id (by omega) (by omega)
 refine ⟨fun ht=>?_,fun ht=>?_⟩
 ·have ht:n < 256:=by have:=of_decide_eq_true ht;omega
  have hstep:∀ o',o'=runsN a (n+1)→(∃ m:Nat,w64 ((n:Int)+1)=m∧m≤256∧o'=runsN a m)∧(256 - w64 ((n:Int)+1)).toNat < (256 - (n:Int)).toNat:=fun o' h=>by
   rw [hw2];exact ⟨⟨n+1,rfl,by omega,h⟩,by omega⟩
  refine ⟨fun o'=>o'=runsN a (n+1),hstep,_,has_ok a n,fun h=>?_,fun h=>?_⟩
  ·have h:¬ setHas a n=true:=by simpa using h
   rw [runsN,if_neg h]
  ·have h:setHas a n=true:=by simpa using h
   refine ⟨fun h0=>?_,fun h0=>?_⟩
   ·have h0:0 < n:=by have:=of_decide_eq_true h0;omega
    have hw1:w64 ((n:Int) - 1)=(n:Int) - 1:=w64_id (by omega) (by omega)
    rw [hw1]
    refine ⟨_,has_ok a _,fun h1=>?_,fun h1=>⟨by omega,?_⟩⟩
    ·have hp:0 < (runsN a n).length:=by
      have:=runsN_pos a (n - 1) (by rw [show (((n - 1:Nat)):Int)=(n:Int) - 1 by omega];exact h1)
      rwa [show n - 1+1=n by omega] at this
     have hwl:w64 (((runsN a n).length:Int) - 1)=(((runsN a n).length - 1:Nat):Int):=(w64_id (by omega) (by omega)).trans (by omega)
     rw [hwl]
     refine ⟨by omega,by rw [Int.toNat_natCast];omega,by omega,?_⟩
     rw [runsN,if_pos h,if_pos ⟨h0,h1⟩,Int.toNat_natCast,gd,Int.toNat_natCast]
    ·rw [runsN,if_pos h,if_neg (by rintro ⟨_,h2⟩;rw [h2] at h1;cases h1)]
   ·have h0:n=0:=by have:=of_decide_eq_false h0;omega
    refine ⟨by omega,?_⟩
    rw [runsN,if_pos h,if_neg (by omega)]
 ·have ht:n=256:=by have:=of_decide_eq_false ht;omega
  subst ht;rfl
theorem textChr_ok (b:Int) (t:ByteArray) (hr:runsN (setOf b b) 256=[{ e0:=b,e1:=b }]) (hp:C_heckleref03_char b t):C_heckleref03_Text (chr b) t:=by
 have h:=runs_ok (setOf b b)
 rw [hr] at h
 have hb:C_heckleref03_bytes (setOf b b) t:=by
  refine W_heckleref03_bytes _ _ ⟨_,h,fun _=>(by simp),fun _=>by simp,fun _=>(by simp),fun _=>by simp,fun _=>⟨by simp,by simp,t,hp,rfl⟩,fun h=>by simp at h⟩
 exact W_heckleref03_Text _ _ ⟨fun h=>(by simp [chr] at h),fun _=>⟨fun _=>⟨t,hb,rfl⟩,fun h=>by simp [chr] at h⟩⟩
theorem charPlain_ok (b:Int) (t:ByteArray) (hp:97≤b∧b≤122) (ht:bytesT [FV.pv (Value.int IntKind.u8 (IntKind.wrap IntKind.u8 b))]=t):C_heckleref03_char b t:=
 W_heckleref03_char b _ ⟨true,W_heckleref03_Plain b _ (by simp [hp.1,hp.2]),fun _=>ht.symm,fun h=>(by cases h)⟩
theorem text_a:C_heckleref03_Text (chr 97) ⟨#[97]⟩:=textChr_ok 97 _ (by kernel_rfl) (charPlain_ok 97 _ (by omega) (by kernel_rfl))
theorem text_b:C_heckleref03_Text (chr 98) ⟨#[98]⟩:=textChr_ok 98 _ (by kernel_rfl) (charPlain_ok 98 _ (by omega) (by kernel_rfl))
abbrev rpB:api_Rx:=⟨5,zset,0,-1,[chr 98]⟩
abbrev aw15:api_Rx:=⟨3,zset,0,0,[chr 97,rpB]⟩
abbrev aw15r:api_Rx:=⟨3,zset,0,0,[rpB,chr 97]⟩
theorem text_in (x:api_Rx) (t:ByteArray) (h:C_heckleref03_Text x t):C_heckleref03_in x false t:=W_heckleref03_in x false _ ⟨fun h=>(by cases h),fun _=>⟨t,h,rfl⟩⟩
theorem digit0:C_heckleref03_Digits 0 ⟨#[48]⟩:=W_heckleref03_Digits 0 _ ⟨fun _=>(by kernel_rfl),fun h=>by simp at h⟩
theorem text_rp:C_heckleref03_Text rpB ⟨#[98,123,48,44,125]⟩:=by
 refine W_heckleref03_Text _ _ ⟨fun h=>(by simp at h),fun _=>⟨fun h=>(by simp at h),fun _=>⟨fun _=>⟨by simp,by simp,_,text_in (chr 98) _ text_b,by decide,_,digit0,by decide,by decide,fun s=>s=⟨#[98,123,48,44]⟩,fun s hs=>⟨by subst hs;decide,by subst hs;decide⟩,fun h=>(by simp at h),fun _=>by decide⟩,fun h=>by simp at h⟩⟩⟩
end Go.Ev.Pl
set_option linter.unusedSimpArgs false
set_option linter.unusedVariables false
namespace Go.Ev.Pl
open Go Go.Ev
abbrev bra:ByteArray:=⟨#[98,123,48,44,125,97]⟩
theorem text_aw:C_heckleref03_Text aw15r bra:=by
 refine W_heckleref03_Text _ _ ⟨fun h=>(by simp at h),fun _=>⟨fun h=>(by simp at h),fun _=>⟨fun h=>(by simp at h),fun _=>?_⟩⟩⟩
 refine ⟨fun s i=>(i=0∧s=⟨#[]⟩)∨(i=1∧s=⟨#[98,123,48,44,125]⟩)∨(i=2∧s=bra),fun _ i=>(2 - i).toNat,.inl ⟨rfl,rfl⟩,?_⟩
 rintro s i (⟨rfl,rfl⟩ | ⟨rfl,rfl⟩ | ⟨rfl,rfl⟩)
 ·refine ⟨fun _=>⟨fun s=>s=⟨#[]⟩,fun s hs=>?_,fun h=>(by simp at h),fun _=>rfl⟩,fun h=>(by simp at h)⟩
  subst hs
  refine ⟨by omega,by simp,fun _=>⟨fun _=>by omega,fun _=>by simp,_,text_in rpB _ text_rp,fun _=>by decide,.inr (.inl ⟨by decide,by decide⟩),by decide⟩,fun h=>(by simp at h)⟩
 ·refine ⟨fun _=>⟨fun s=>s=⟨#[98,123,48,44,125]⟩,fun s hs=>?_,fun h=>(by simp at h),fun _=>rfl⟩,fun h=>(by simp at h)⟩
  subst hs
  refine ⟨by omega,by simp,fun _=>⟨fun _=>by omega,fun _=>by simp,_,text_in (chr 97) _ text_a,fun _=>by decide,.inr (.inr ⟨by decide,by decide⟩),by decide⟩,fun h=>(by simp at h)⟩
 ·exact ⟨fun h=>(by simp at h),fun _=>rfl⟩
theorem wf_rpB:Wf rpB:=(wf_eq _).2 ⟨by simp,fun y hy=>by
 simp only [List.mem_cons,List.not_mem_nil,or_false] at hy
 subst hy;exact wf_leaf _ _ _ _⟩
theorem wf_aw15:Wf aw15:=(wf_eq _).2 ⟨by simp,fun y hy=>by
 simp only [List.mem_cons,List.not_mem_nil,or_false] at hy
 rcases hy with rfl | rfl
 ·exact wf_leaf _ _ _ _
 ·exact wf_rpB⟩
theorem right_aw15:rightB aw15=true:=by kernel_rfl
theorem rev_aw15:rev aw15=aw15r:=by kernel_rfl
theorem right_zRx:rightB zRx=false:=by kernel_rfl
theorem right_b:rightB (chr 98)=true:=by kernel_rfl
abbrev abb:ByteArray:={ data:=#[(97:UInt8),(98:UInt8),(98:UInt8)] }
theorem acc_b (i j:Nat):acc 3 (bt abb) (gof (chr 98)) i j↔i < 3∧setHas (chr 98).Set (bt abb i)=true∧j=i+1:=by
 rw [gof_k2 (x:=chr 98) rfl];exact acc_byte
theorem sb1:setHas (chr 98).Set (bt abb 1)=true:=by kernel_rfl
theorem sb2:setHas (chr 98).Set (bt abb 2)=true:=by kernel_rfl
theorem sa0:setHas (chr 97).Set (bt abb 0)=true:=by kernel_rfl
theorem acc_rpB (i j:Nat):acc 3 (bt abb) (gof rpB) i j↔∃ q,pow (acc 3 (bt abb) (gof (chr 98))) q i j:=by
 rw [gof_k5 (x:=rpB) (k:=chr 98) rfl rfl,acc_rep (canon_gof _) (by decide) (.inl rfl)]
 constructor
 ·rintro ⟨q,_,h⟩;exact ⟨_,h⟩
 ·rintro ⟨q,h⟩;exact ⟨q,.inl (by decide),by simpa using h⟩
theorem acc_aw15 (j:Nat) (hj:j≤3):acc 3 (bt abb) (gof aw15) 0 j↔1≤j:=by
 rw [gof_k3 (x:=aw15) rfl,acc_catF _ canon_empty]
 constructor
 ·rintro ⟨k,h1,k2,h2,k3,h3,h4⟩
  cases acc_empty.1 h1
  rw [gof_k2 (x:=chr 97) rfl,acc_byte] at h2
  have:=acc_le h3 (by omega)
  cases h4
  omega
 ·intro h
  refine ⟨0,acc_empty.2 rfl,1,by rw [gof_k2 (x:=chr 97) rfl,acc_byte];exact ⟨by omega,sa0,rfl⟩,j,?_,rfl⟩
  rw [acc_rpB]
  rcases (show j=1∨j=2∨j=3 by omega) with rfl | rfl | rfl
  ·exact ⟨0,rfl⟩
  ·exact ⟨1,1,rfl,(acc_b 1 2).2 ⟨by omega,sb1,rfl⟩⟩
  ·exact ⟨2,2,⟨1,rfl,(acc_b 1 2).2 ⟨by omega,sb1,rfl⟩⟩,(acc_b 2 3).2 ⟨by omega,sb2,rfl⟩⟩
theorem accB_aw15 (j:Nat) (hj:j≤3):accB abb (gof aw15) j=decide (1≤j):=by
 rw [Bool.eq_iff_iff,accB_iff,decide_eq_true_eq];exact acc_aw15 j hj
theorem ahd_aw15:ahd aw15 abb=[false,true,true,true]:=by
 show (List.range 4).map _=_
 simp only [List.range,List.range.loop,List.map_cons,List.map_nil]
 rw [accB_aw15 0 (by omega),accB_aw15 1 (by omega),accB_aw15 2 (by omega),accB_aw15 3 (by omega)]
 rfl
theorem prt_aw1:prt { Conds:=[],All:=false,Bol:=false,Rx:=aw15,Trail:=chr 98,Eof:=false,Act:=0,To:=0 } abb=2:=by
 have h1:rightB aw15=true∧abb.size≤10000:=⟨right_aw15,by decide⟩
 unfold prt
 rw [if_pos h1,if_neg (show ¬ (chr 98).Kind=0 by decide),if_pos right_b]
 show lastN _ 3=2
 rw [lastN_neg (by rintro ⟨_,h⟩;have:=(acc_b 3 3).1 h;omega),lastN_pos ⟨(acc_aw15 2 (by omega)).2 (by omega),(acc_b 2 3).2 ⟨by omega,sb2,rfl⟩⟩]
theorem prt_aw2:prt { Conds:=[],All:=false,Bol:=false,Rx:=aw15,Trail:=zRx,Eof:=false,Act:=0,To:=0 } abb=3:=by
 have h1:rightB aw15=true∧abb.size≤10000:=⟨right_aw15,by decide⟩
 unfold prt
 rw [if_pos h1,if_pos rfl]
 show (if accB abb (gof aw15) 3=true then _ else _)=3
 rw [accB_aw15 3 (by omega)];rfl
theorem char15_ok (b:Int):C_hecklelaw15_char b (chr b):=W_hecklelaw15_char b _ ⟨_,setOf_ok b b,rfl⟩
theorem awake15_ok:C_hecklelaw15_awake true:=by
 have hR:=Reverse_ok aw15 wf_aw15
 rw [if_pos right_aw15,if_pos right_aw15,rev_aw15] at hR
 have hZ:=Reverse_ok zRx (wf_leaf _ _ _ _)
 rw [if_neg (by rw [right_zRx];simp),if_neg (by rw [right_zRx];simp)] at hZ
 have hA:=Ahead_ok aw15 abb wf_aw15 (by decide)
 rw [if_pos ⟨right_aw15,by decide⟩,ahd_aw15] at hA
 have hS1:=Split_ok { Conds:=[],All:=false,Bol:=false,Rx:=aw15,Trail:=chr 98,Eof:=false,Act:=0,To:=0 } abb wf_aw15 (wf_leaf _ _ _ _) (by decide)
 rw [prt_aw1] at hS1
 have hS2:=Split_ok { Conds:=[],All:=false,Bol:=false,Rx:=aw15,Trail:=zRx,Eof:=false,Act:=0,To:=0 } abb wf_aw15 (wf_leaf _ _ _ _) (by decide)
 rw [prt_aw2] at hS2
 refine W_hecklelaw15_awake _ ⟨chr 97,char15_ok 97,chr 98,char15_ok 98,_,_,hR,_,_,hZ,_,hA,fun _=>⟨_,text_aw,fun _=>⟨fun _=>⟨_,boolsRefl_ok _ (by simp),fun _=>⟨chr 98,char15_ok 98,_,hS1,fun _=>⟨_,hS2,by decide⟩,fun h=>(by simp at h)⟩,fun h=>(by cases h)⟩,fun h=>(by simp at h)⟩,fun h=>(by simp at h)⟩,fun h=>(by simp at h)⟩
end Go.Ev.Pl
set_option linter.unusedSimpArgs false
set_option linter.unusedVariables false
namespace Go.Ev.Pl
open Go Go.Ev
end Go.Ev.Pl
set_option linter.unusedSimpArgs false
set_option linter.unusedVariables false
namespace Go.Ev.Pl
open Go Go.Ev
structure MS (L:List Int) (n:Int) (m:hecklelaw03_Maker):Prop where
 l:m.L=L
 a0:0≤m.At
 a1:m.At≤n
abbrev LOk (L:List Int):Prop:=Bytes L∧L.length≤1000
theorem MS.ok {L:List Int} {n:Int} {m:hecklelaw03_Maker} (h:MS L n m) (hL:LOk L):MOk m:=⟨by rw [h.l];exact hL.1,by rw [h.l];exact hL.2,h.a0⟩
theorem pickS {L:List Int} {n k:Int} {m:hecklelaw03_Maker} (hL:LOk L) (hk:1≤k) (hn:n < 100000) (h:MS L n m):∃ r o,0≤r∧r < k∧C_hecklelaw03_Maker_Pick k m r o∧MS L (n+1) o:=by
 obtain ⟨r,h0,h1,h2⟩:=pick_ok k m hk (h.ok hL) (by have:=h.a1;omega)
 exact ⟨r,_,h0,h1,h2,h.l,by have:=h.a0;simp only;omega,by have:=h.a1;simp only;omega⟩
structure Sml (x:api_Rx):Prop where
 wf:Wf x
 right:rightB x=true
 size:sizeN x≤12
theorem Sml.kind {x:api_Rx} (h:Sml x):¬ x.Kind=0:=by
 rcases own_kind (rgt_own (size_of_right h.right).1).1 with h | h | h | h | h<;>omega
theorem sml_b:Sml (chr 98):=⟨wf_leaf _ _ _ _,right_b,by show sizeN (chr 98)≤12;rw [show sizeN (chr 98)=1 from by kernel_rfl];omega⟩
theorem small_ok {L:List Int} {n:Int} {m:hecklelaw03_Maker} (hL:LOk L) (hn:n < 90000) (h:MS L n m):∃ x o,C_hecklelaw06_small m x o∧Sml x∧MS L (n+90) o:=by
 obtain ⟨r,o,c,g,e1,e2,e3⟩:=mk_ok 2 (by omega) 2 (by omega) (by omega) m (h.ok hL) (by have:=h.a1;simp;omega)
 have ho:MS L (n+90) o:=⟨e1.trans h.l,by have:=h.a0;omega,by have:=h.a1;simp at e3;omega⟩
 have hw:=(good_len g (by omega)).2
 by_cases hs:sizeZ r > 12
 ·exact ⟨_,o,W_hecklelaw06_small m _ _ ⟨r,o,c,_,refSize_ok r hw,fun _=>⟨_,setOf_ok 98 98,rfl,rfl⟩,fun h=>absurd hs (by simpa using h)⟩,sml_b,ho⟩
 ·refine ⟨r,o,W_hecklelaw06_small m _ _ ⟨r,o,c,_,refSize_ok r hw,fun h=>absurd (by simpa using h) hs,fun _=>⟨rfl,rfl⟩⟩,⟨hw,?_,?_⟩,ho⟩
  ·have h1:=rgt_mono r _ g.right 20 (by omega)
   have h2:sizeZ r≤200:=by omega
   have hsm:=g.small
   have h3:=nodesZ_cnt r 1000 (by have:cnt r≤7:=hsm;omega)
   have h4:nodesZ r 1000≥0:=by have:cnt r≤7:=hsm;omega
   simp [rightB,h1,h2,h4]
  ·simp only [sizeZ] at hs;omega
structure FitRule (n:Int) (r:api_Rule):Prop where
 conds:SS r.Conds∧∀ c∈r.Conds,0≤c∧c < n
 all:r.All=true→r.Conds=[]
 act:1≤r.Act∧r.Act≤3
 to:0≤r.To∧r.To < n∧(r.Act≠3→r.To=0)
 body:(r.Eof=true∧r.Bol=false∧r.Rx=zRx∧r.Trail=zRx)∨(r.Eof=false∧Sml r.Rx∧(r.Trail=zRx∨Sml r.Trail))
inductive CondRun (n:Int):hecklelaw03_Maker→List Int→Int→hecklelaw03_Maker→List Int→Prop where
 | done {m l i}:¬ i < n→CondRun n m l i m l
 | step {m l i r o m' l'}:i < n→C_hecklelaw03_Maker_Pick 2 m r o→CondRun n o (if r=1 then l++[i] else l) (i+1) m' l'→CondRun n m l i m' l'
theorem ss_snoc {l:List Int} {i:Int} (h:SS l) (hl:∀ c∈l,c < i):SS (l++[i]):=by
 unfold SS at *
 rw [List.pairwise_append]
 exact ⟨h,by simp,fun a ha b hb=>by simp at hb;subst hb;exact hl a ha⟩
theorem condRun {L:List Int} (hL:LOk L) {c:Int} (hc:c≤3):∀ (k:Nat) {i:Int} {l:List Int} {n:Int} {m:hecklelaw03_Maker},(c - i).toNat=k→0≤i→MS L n m→n+k < 90000→SS l→(∀ x∈l,0≤x∧x < i∧x < c)→
 ∃ m' l',CondRun c m l i m' l'∧MS L (n+k) m'∧SS l'∧∀ x∈l',0≤x∧x < c
 | 0,i,l,n,m,hk,hi,hm,hn,hs,hl=>⟨m,l,.done (by omega),by simpa using hm,hs,fun x hx=>⟨(hl x hx).1,(hl x hx).2.2⟩⟩
 | k+1,i,l,n,m,hk,hi,hm,hn,hs,hl=>by
   obtain ⟨r,o,h0,h1,hp,ho⟩:=pickS (k:=2) hL (by omega) (by omega) hm
   have hlt:i < c:=by omega
   have hs':SS (if r=1 then l++[i] else l):=by
    split
    ·exact ss_snoc hs fun x hx=>(hl x hx).2.1
    ·exact hs
   have hl':∀ x∈(if r=1 then l++[i] else l),0≤x∧x < i+1∧x < c:=by
    intro x hx
    split at hx
    ·rcases List.mem_append.1 hx with hx | hx
     ·have:=hl x hx;omega
     ·have hx:x=i:=by simpa using hx
      omega
    ·have:=hl x hx;omega
   obtain ⟨m',l',g1,g2,g3,g4⟩:=condRun hL hc k (i:=i+1) (n:=n+1) (by omega) (by omega) ho (by omega) hs' hl'
   exact ⟨m',l',.step hlt hp g1,⟨g2.l,g2.a0,by have:=g2.a1;omega⟩,g3,g4⟩
theorem rx_eta (x:api_Rx):({ Kind:=x.Kind,Set:={ e0:=x.Set.e0,e1:=x.Set.e1,e2:=x.Set.e2,e3:=x.Set.e3 },Lo:=x.Lo,Hi:=x.Hi,Kids:=x.Kids }:api_Rx)=x:=by cases x;rfl
theorem rule_ok {L:List Int} {n c:Int} {m:hecklelaw03_Maker} (hL:LOk L) (hc0:1≤c) (hc:c≤3) (hn:n < 80000) (plain:Bool) (hm:MS L n m) :
 ∃ r o,C_hecklelaw06_rule c plain m r o∧FitRule c r∧MS L (n+200) o∧(plain=true→r.Bol=false∧r.Trail=zRx):=by
 obtain ⟨r0,o,p0,p1,hp,ho⟩:=pickS (k:=3) hL (by omega) (by omega) hm
 have hw1:w64 (1+r0)=1+r0:=w64_id (by omega) (by omega)
 obtain ⟨to,m1,ht0,ht1,hm1,hto,s1⟩:∃ to m1,0≤to∧to < c∧MS L (n+2) m1∧(w64 (1+r0)≠3→to=0)∧∀ J:List Int→Int→Int→Prop,J m1.L m1.At to→
  (((w64 (1+r0) == 3)=true→∃ r0_24:Int,∃ o_24:hecklelaw03_Maker,C_hecklelaw03_Maker_Pick c o r0_24 o_24∧J o_24.L o_24.At r0_24)∧((w64 (1+r0) == 3)=false→J o.L o.At 0)):=by
  by_cases h:w64 (1+r0)=3
  ·obtain ⟨r1,o1,q0,q1,hq,ho1⟩:=pickS (k:=c) hL hc0 (by omega) ho
   exact ⟨r1,o1,q0,q1,⟨ho1.l,ho1.a0,by have:=ho1.a1;omega⟩,fun h'=>absurd h h',fun J hJ=>⟨fun _=>⟨_,_,hq,hJ⟩,fun h'=>by rw [h] at h';cases h'⟩⟩
  ·exact ⟨0,o,by omega,by omega,⟨ho.l,ho.a0,by have:=ho.a1;omega⟩,fun _=>rfl,fun J hJ=>⟨fun h'=>absurd (by simpa using h') h,fun _=>hJ⟩⟩
 obtain ⟨r1,o1,q0,q1,hq,ho1⟩:=pickS (k:=4) (m:={ L:=m1.L,At:=m1.At }) hL (by omega) (by omega) (show MS L (n+2) _ from ⟨hm1.l,hm1.a0,hm1.a1⟩)
 obtain ⟨cs,al,m2,hm2,hcs,hal,s2⟩:∃ cs al m2,MS L (n+6) m2∧(SS cs∧∀ x∈cs,0≤x∧x < c)∧(al=true→cs=[])∧∀ J:List Int→Int→List Int→Bool→Prop,J m2.L m2.At cs al→
  (((r1 == 0)=true→J o1.L o1.At ([]) true)∧((r1 == 0)=false→(((r1 == 1)=true→(∃ (Inv63:List Int→Int→List Int→Int→Prop) (mu64:List Int→Int→List Int→Int→Nat),Inv63 o1.L o1.At ([]) 0∧
    (∀ (a8:List Int) (b8:Int) (c6:List Int) (i_1:Int),Inv63 a8 b8 c6 i_1→(((decide (i_1 < c))=true→(∃ J69:List Int→Int→List Int→Prop,
      (∀ (a10:List Int) (b10:Int) (c8:List Int),J69 a10 b10 c8→(Inv63 a10 b10 c8 (w64 (i_1+1))∧mu64 a10 b10 c8 (w64 (i_1+1)) < mu64 a8 b8 c6 i_1))∧
      (∃ r23:Int,∃ o23:hecklelaw03_Maker,C_hecklelaw03_Maker_Pick 2 ({ L:=a8,At:=b8 }) r23 o23∧(((r23 == 1)=true→((List.length c6+(1:Nat)) * (8:Nat)≤(2:Nat) ^ (47:Nat))∧J69 o23.L o23.At (c6++[i_1]))∧((r23 == 1)=false→J69 o23.L o23.At c6)))))∧
      ((decide (i_1 < c))=false→J a8 b8 c6 false)))))∧((r1 == 1)=false→J o1.L o1.At ([]) false)))):=by
  have hmo:∀ k,n+3≤k→MS L k o1:=fun k hk=>⟨ho1.l,ho1.a0,by have:=ho1.a1;omega⟩
  by_cases h0:r1=0
  ·exact ⟨[],true,o1,hmo _ (by omega),⟨by simp [SS],by simp⟩,fun _=>rfl,fun J hJ=>⟨fun _=>hJ,fun h=>(by simp [h0] at h)⟩⟩
  by_cases h1:r1=1
  ·obtain ⟨m',l',g1,g2,g3,g4⟩:=condRun hL hc c.toNat (i:=0) (l:=[]) (m:={ L:=o1.L,At:=o1.At }) (n:=n+3) (by omega) (by omega) ⟨ho1.l,ho1.a0,by have:=ho1.a1;show o1.At≤_;omega⟩ (by omega) (by simp [SS]) (by simp)
   refine ⟨l',false,m',⟨g2.l,g2.a0,by have:=g2.a1;omega⟩,⟨g3,g4⟩,fun h=>(by cases h),fun J hJ=>⟨fun h=>(by simp [h1] at h),fun _=>⟨fun _=>?_,fun h=>(by simp [h1] at h)⟩⟩⟩
   refine ⟨fun a b l i=>CondRun c { L:=a,At:=b } l i m' l'∧0≤i∧i≤c∧l.length≤i,fun _ _ _ i=>(c - i).toNat,⟨g1,by omega,by omega,by simp⟩,?_⟩
   rintro a b l i ⟨hr,hi0,hi1,hll⟩
   refine ⟨fun ht=>?_,fun ht=>?_⟩
   ·have ht:=of_decide_eq_true ht
    have hw2:w64 (i+1)=i+1:=w64_id (by omega) (by omega)
    cases hr with
    | done h=>exact absurd ht h
    | @step _ _ _ r o _ _ _ hp hr=>
      refine ⟨fun a' b' l2=>CondRun c { L:=a',At:=b' } l2 (i+1) m' l'∧l2.length≤i+1,fun a' b' l2 h=>?_,r,o,hp,fun h=>⟨by omega,?_⟩,fun h=>?_⟩
      ·rw [hw2];exact ⟨⟨h.1,by omega,by omega,h.2⟩,by first | omega | (dsimp only;omega)⟩
      ·have h:r=1:=by simpa using h
       rw [if_pos h] at hr
       exact ⟨hr,by rw [List.length_append];simp;omega⟩
      ·have h:¬ r=1:=by simpa using h
       rw [if_neg h] at hr
       exact ⟨hr,by omega⟩
   ·have ht:=of_decide_eq_false ht
    cases hr with
    | done h=>exact hJ
    | step h _ _=>exact absurd h ht
  ·exact ⟨[],false,o1,hmo _ (by omega),⟨by simp [SS],by simp⟩,fun h=>(by cases h),fun J hJ=>⟨fun h=>absurd (by simpa using h) h0,fun _=>⟨fun h=>absurd (by simpa using h) h1,fun _=>hJ⟩⟩⟩
 obtain ⟨r2,o2,u0,u1,hu,ho2⟩:=pickS (k:=12) (m:={ L:=m2.L,At:=m2.At }) hL (by omega) (by omega) (show MS L (n+6) _ from ⟨hm2.l,hm2.a0,hm2.a1⟩)
 have fit:∀ r:api_Rule,r.Conds=cs→r.All=al→r.Act=w64 (1+r0)→r.To=to→((r.Eof=true∧r.Bol=false∧r.Rx=zRx∧r.Trail=zRx)∨(r.Eof=false∧Sml r.Rx∧(r.Trail=zRx∨Sml r.Trail)))→FitRule c r:=by
  intro r e1 e2 e3 e4 e5
  exact ⟨by rw [e1];exact hcs,by rw [e1,e2];exact hal,by rw [e3,hw1];omega,by rw [e3,e4];exact ⟨ht0,ht1,hto⟩,e5⟩
 by_cases h11:r2=11
 ·refine ⟨_,_,W_hecklelaw06_rule c plain m _ _ ⟨r0,o,hp,fun L a t=>L=m1.L∧a=m1.At∧t=to,?_,s1 (fun L a t=>L=m1.L∧a=m1.At∧t=to) ⟨rfl,rfl,rfl⟩⟩,fit { Conds:=cs,All:=al,Bol:=false,Rx:=zRx,Trail:=zRx,Eof:=true,Act:=w64 (1+r0),To:=to } rfl rfl rfl rfl (.inl ⟨rfl,rfl,rfl,rfl⟩),(⟨ho2.l,ho2.a0,by have:=ho2.a1;omega⟩:MS L (n+200) o2),fun _=>⟨rfl,rfl⟩⟩
  rintro _ _ _ ⟨rfl,rfl,rfl⟩
  refine ⟨fun L a c' al'=>L=m2.L∧a=m2.At∧c'=cs∧al'=al,?_,r1,o1,hq,s2 (fun L a c' al'=>L=m2.L∧a=m2.At∧c'=cs∧al'=al) ⟨rfl,rfl,rfl,rfl⟩⟩
  rintro _ _ _ _ ⟨rfl,rfl,rfl,rfl⟩
  exact ⟨r2,o2,hu,fun _=>⟨rfl,rfl⟩,fun h=>by simp [h11] at h⟩
 ·obtain ⟨x,o3,hx,hsx,ho3⟩:=small_ok hL (by omega) ho2
  obtain ⟨bol,tr,m4,hm4,htr,hpl,s3⟩:∃ (bol:Bool) (tr:api_Rx) (m4:hecklelaw03_Maker),MS L (n+200) m4∧(tr=zRx∨Sml tr)∧(plain=true→bol=false∧tr=zRx)∧∀ J:List Int→Int→Bool→Int→Int→Int→Int→Int→Int→Int→List api_Rx→Prop,J m4.L m4.At bol tr.Kind tr.Set.e0 tr.Set.e1 tr.Set.e2 tr.Set.e3 tr.Lo tr.Hi tr.Kids→
   (((!plain)=true→(∃ r14:Int,∃ o14:hecklelaw03_Maker,C_hecklelaw03_Maker_Pick 6 o3 r14 o14∧(∃ r15:Int,∃ o15:hecklelaw03_Maker,C_hecklelaw03_Maker_Pick 5 o14 r15 o15∧
     (((r15 == 4)=true→(∃ r16:api_Rx,∃ o16:hecklelaw03_Maker,C_hecklelaw06_small o15 r16 o16∧J o16.L o16.At (r14 == 5) r16.Kind r16.Set.e0 r16.Set.e1 r16.Set.e2 r16.Set.e3 r16.Lo r16.Hi r16.Kids))∧((r15 == 4)=false→J o15.L o15.At (r14 == 5) 0 0 0 0 0 0 0 ([]))))))∧
   ((!plain)=false→J o3.L o3.At false 0 0 0 0 0 0 0 ([]))):=by
   cases plain with
   | true=>exact ⟨false,zRx,o3,⟨ho3.l,ho3.a0,by have:=ho3.a1;omega⟩,.inl rfl,fun _=>⟨rfl,rfl⟩,fun J hJ=>⟨fun h=>(by cases h),fun _=>hJ⟩⟩
   | false=>
     obtain ⟨r14,o14,a0,a1,ha,ho14⟩:=pickS (k:=6) hL (by omega) (by omega) ho3
     obtain ⟨r15,o15,b0,b1,hb,ho15⟩:=pickS (k:=5) hL (by omega) (by omega) ho14
     by_cases h4:r15=4
     ·obtain ⟨y,o16,hy,hsy,ho16⟩:=small_ok hL (by omega) ho15
      exact ⟨r14 == 5,y,o16,⟨ho16.l,ho16.a0,by have:=ho16.a1;omega⟩,.inr hsy,fun h=>(by cases h),fun J hJ=>⟨fun _=>⟨r14,o14,ha,r15,o15,hb,fun _=>⟨y,o16,hy,hJ⟩,fun h=>(by simp [h4] at h)⟩,fun h=>(by cases h)⟩⟩
     ·exact ⟨r14 == 5,zRx,o15,⟨ho15.l,ho15.a0,by have:=ho15.a1;omega⟩,.inl rfl,fun h=>(by cases h),fun J hJ=>⟨fun _=>⟨r14,o14,ha,r15,o15,hb,fun h=>absurd (by simpa using h) h4,fun _=>hJ⟩,fun h=>(by cases h)⟩⟩
  refine ⟨_,_,W_hecklelaw06_rule c plain m _ _ ⟨r0,o,hp,fun L a t=>L=m1.L∧a=m1.At∧t=to,?_,s1 (fun L a t=>L=m1.L∧a=m1.At∧t=to) ⟨rfl,rfl,rfl⟩⟩,fit { Conds:=cs,All:=al,Bol:=bol,Rx:=x,Trail:={ Kind:=tr.Kind,Set:={ e0:=tr.Set.e0,e1:=tr.Set.e1,e2:=tr.Set.e2,e3:=tr.Set.e3 },Lo:=tr.Lo,Hi:=tr.Hi,Kids:=tr.Kids },Eof:=false,Act:=w64 (1+r0),To:=to } rfl rfl rfl rfl (.inr ⟨rfl,hsx,?_⟩),(⟨hm4.l,hm4.a0,hm4.a1⟩:MS L (n+200) { L:=m4.L,At:=m4.At }),fun h=>⟨(hpl h).1,?_⟩⟩
  ·rintro _ _ _ ⟨rfl,rfl,rfl⟩
   refine ⟨fun L a c' al'=>L=m2.L∧a=m2.At∧c'=cs∧al'=al,?_,r1,o1,hq,s2 (fun L a c' al'=>L=m2.L∧a=m2.At∧c'=cs∧al'=al) ⟨rfl,rfl,rfl,rfl⟩⟩
   rintro _ _ _ _ ⟨rfl,rfl,rfl,rfl⟩
   refine ⟨r2,o2,hu,fun h=>absurd (by simpa using h) h11,fun _=>⟨x,o3,hx,fun L a b k e0 e1 e2 e3 lo hi ks=>L=m4.L∧a=m4.At∧b=bol∧k=tr.Kind∧e0=tr.Set.e0∧e1=tr.Set.e1∧e2=tr.Set.e2∧e3=tr.Set.e3∧lo=tr.Lo∧hi=tr.Hi∧ks=tr.Kids,?_,s3 (fun L a b k e0 e1 e2 e3 lo hi ks=>L=m4.L∧a=m4.At∧b=bol∧k=tr.Kind∧e0=tr.Set.e0∧e1=tr.Set.e1∧e2=tr.Set.e2∧e3=tr.Set.e3∧lo=tr.Lo∧hi=tr.Hi∧ks=tr.Kids) ⟨rfl,rfl,rfl,rfl,rfl,rfl,rfl,rfl,rfl,rfl,rfl⟩⟩⟩
   rintro _ _ _ _ _ _ _ _ _ _ _ ⟨rfl,rfl,rfl,rfl,rfl,rfl,rfl,rfl,rfl,rfl,rfl⟩
   refine ⟨?_,rfl⟩
   congr 1
   clear hpl htr s3 hm4
   cases tr;rfl
  ·first | exact htr | (rw [rx_eta];exact htr)
  ·first | exact (hpl h).2 | (rw [rx_eta];exact (hpl h).2)
structure FitSpec (s:api_Spec):Prop where
 conds:∃ (n:Nat) (b:Bool),1≤n∧n≤3∧s.Conds=List.take n [{ Name:={ data:=#[(73:UInt8),(78:UInt8),(73:UInt8),(84:UInt8),(73:UInt8),(65:UInt8),(76:UInt8)] },Exclusive:=false },{ Name:={ data:=#[(66:UInt8)] },Exclusive:=b },{ Name:={ data:=#[(67:UInt8),(95:UInt8),(49:UInt8)] },Exclusive:=false }]∧s.Conds.length=n∧∀ r∈s.Rules,FitRule n r
 many:1≤s.Rules.length∧s.Rules.length≤4
inductive RuleRun (c:Int) (plain:Bool):hecklelaw03_Maker→List api_Rule→Int→List api_Rule→Prop where
 | done {m l i}:¬ i > 0→RuleRun c plain m l i l
 | step {m l i r o l'}:i > 0→C_hecklelaw06_rule c plain m r o→RuleRun c plain o (l++[r]) (i - 1) l'→RuleRun c plain m l i l'
theorem ruleRun {L:List Int} (hL:LOk L) {c:Int} (hc0:1≤c) (hc:c≤3) (plain:Bool):∀ (k:Nat) {l:List api_Rule} {n:Int} {m:hecklelaw03_Maker},MS L n m→n+200 * k < 50000→(∀ r∈l,FitRule c r∧(plain=true→r.Bol=false∧r.Trail=zRx))→
 ∃ l',RuleRun c plain m l k l'∧l'.length=l.length+k∧∀ r∈l',FitRule c r∧(plain=true→r.Bol=false∧r.Trail=zRx)
 | 0,l,n,m,hm,hn,hl=>⟨l,.done (by omega),by omega,hl⟩
 | k+1,l,n,m,hm,hn,hl=>by
   obtain ⟨r,o,h1,h2,h3,h4⟩:=rule_ok hL hc0 hc (by omega) plain hm
   obtain ⟨l',g1,g2,g3⟩:=ruleRun hL hc0 hc plain k (l:=l++[r]) h3 (by omega) (fun x hx=>by
    rcases List.mem_append.1 hx with hx | hx
    ·exact hl x hx
    ·obtain rfl:x=r:=by simpa using hx
     exact ⟨h2,h4⟩)
   refine ⟨l',.step (by omega) h1 (by rw [show ((k+1:Nat):Int) - 1=(k:Int) by omega];exact g1),by rw [g2,List.length_append];simp;omega,g3⟩
theorem made6_ok (l:List Int) (hb:Bytes l) (plain:Bool):∃ s,C_hecklelaw06_Made l plain s∧FitSpec s∧(plain=true→∀ r∈s.Rules,r.Bol=false∧r.Trail=zRx):=by
 obtain ⟨L,hLe⟩:∃ L,L=if l.length > 60 then l.take 60 else l:=⟨_,rfl⟩
 have hL:LOk L:=by
  rw [hLe];split
  ·exact ⟨fun b hb'=>hb b (List.mem_of_mem_take hb'),by simp;omega⟩
  ·exact ⟨hb,by omega⟩
 obtain ⟨r0,o,p0,p1,hp,ho⟩:=pickS (k:=3) (n:=0) (m:={ L:=L,At:=0 }) hL (by omega) (by omega) ⟨rfl,by simp,by simp⟩
 obtain ⟨r1,o1,q0,q1,hq,ho1⟩:=pickS (k:=2) hL (by omega) (by omega) ho
 obtain ⟨r2,o2,u0,u1,hu,ho2⟩:=pickS (k:=3) hL (by omega) (by omega) ho1
 obtain ⟨r3,o3,v0,v1,hv,ho3⟩:=pickS (k:=4) hL (by omega) (by omega) ho2
 have hw1:w64 (1+r0)=1+r0:=w64_id (by omega) (by omega)
 have hw3:w64 (1+r3)=((1+r3).toNat:Nat):=(w64_id (by omega) (by omega)).trans (by omega)
 obtain ⟨rs,g1,g2,g3⟩:=ruleRun hL (c:=1+r0) (by omega) (by omega) plain (1+r3).toNat (l:=[]) (m:={ L:=o3.L,At:=o3.At }) (n:=4) ⟨ho3.l,ho3.a0,ho3.a1⟩ (by omega) (by simp)
 refine ⟨{ Conds:=List.take (Int.toNat (w64 (1+r0))) [{ Name:={ data:=#[(73:UInt8),(78:UInt8),(73:UInt8),(84:UInt8),(73:UInt8),(65:UInt8),(76:UInt8)] },Exclusive:=false },{ Name:={ data:=#[(66:UInt8)] },Exclusive:=r1 == 1 },{ Name:={ data:=#[(67:UInt8),(95:UInt8),(49:UInt8)] },Exclusive:=false }],Default:=decide (r2 > 0),Rules:=rs },
  W_hecklelaw06_Made l plain _ ⟨fun l1=>l1=L,?_,fun h=>⟨⟨by omega,?_,fits_u8 l⟩,?_⟩,fun h=>?_⟩,⟨⟨(1+r0).toNat,r1 == 1,by omega,by omega,by rw [hw1],?_,fun r hr=>?_⟩,?_⟩,fun h r hr=>(g3 r hr).2 h⟩
 ·rintro l1 rfl
  refine ⟨r0,o,hp,r1,o1,hq,⟨by omega,by omega⟩,r2,o2,hu,r3,o3,hv,fun ls i a b=>RuleRun (1+r0) plain { L:=a,At:=b } ls i rs∧i≤4∧ls.length+i≤4,fun _ i _ _=>i.toNat,⟨?_,by omega,by rw [hw3];simp;omega⟩,?_⟩
  ·rw [hw3];exact g1
  ·rintro ls i a b ⟨hr,hi,hll⟩
   refine ⟨fun ht=>?_,fun ht=>?_⟩
   ·have ht:=of_decide_eq_true ht
    have hw2:w64 (i - 1)=i - 1:=w64_id (by omega) (by omega)
    cases hr with
    | done h=>exact absurd ht h
    | @step _ _ _ r o _ _ hp hr=>
      rw [hw1,hw2]
      exact ⟨r,o,hp,by omega,⟨hr,by omega,by rw [List.length_append];simp;omega⟩,by first | omega | (dsimp only;omega)⟩
   ·have ht:=of_decide_eq_false ht
    cases hr with
    | done h=>rfl
    | step h _ _=>exact absurd h ht
 ·have h:(l.length:Int) > 60:=by simpa using h
  show 60≤_;omega
 ·have h:(l.length:Int) > 60:=by simpa using h
  rw [hLe,if_pos (by omega)];rfl
 ·have h:¬ (l.length:Int) > 60:=by simpa using h
  rw [hLe,if_neg (by omega)]
 ·rw [hw1,List.length_take];simp;omega
 ·have:=(g3 r hr).1
  rwa [show (((1+r0).toNat:Nat):Int)=1+r0 by omega]
 ·have:rs.length=(1+r3).toNat:=by simpa using g2
  show 1≤rs.length∧rs.length≤4
  omega
end Go.Ev.Pl
set_option linter.unusedSimpArgs false
set_option linter.unusedVariables false
namespace Go.Ev.Pl
open Go Go.Ev
theorem wf_zRx:Wf zRx:=wf_leaf _ _ _ _
theorem FitRule.wf {n:Int} {r:api_Rule} (h:FitRule n r):Wf r.Rx∧Wf r.Trail:=by
 rcases h.body with ⟨_,_,h1,h2⟩ | ⟨_,h1,h2⟩
 ·rw [h1,h2];exact ⟨wf_zRx,wf_zRx⟩
 ·refine ⟨h1.wf,?_⟩
  rcases h2 with h2 | h2
  ·rw [h2];exact wf_zRx
  ·exact h2.wf
theorem splitRules_ok (l t:List Int) (hb:Bytes l) (hb2:Bytes t):C_hecklelaw15_SplitRules l t true:=by
 obtain ⟨s,hs,hf,_⟩:=made6_ok l hb false
 obtain ⟨w,hw,hsz⟩:=text_ok t hb2
 obtain ⟨n,_,hn1,hn2,_,_,hfit⟩:=hf.conds
 have hmany:=hf.many
 refine W_hecklelaw15_SplitRules l t _ ⟨s,hs,w,hw,fun i=>∃ k:Nat,i=k∧k≤s.Rules.length,fun i=>(s.Rules.length - i).toNat,⟨0,rfl,by omega⟩,?_⟩
 rintro _ ⟨k,rfl,hk⟩
 have hw1:w64 ((k:Int)+1)=((k+1:Nat):Int):=w64_id (by omega) (by omega)
 refine ⟨fun ht=>?_,fun ht=>⟨_,awake15_ok,rfl⟩⟩
 have ht:k < s.Rules.length:=by have:=of_decide_eq_true ht;omega
 have hwf:=(hfit _ (List.getElem_mem ht)).wf
 refine ⟨fun i=>∃ j:Nat,i=j∧j≤w.size+1,fun i=>(w.size+1 - i).toNat,⟨0,rfl,by omega⟩,?_⟩
 rintro _ ⟨j,rfl,hj⟩
 have hw2:w64 ((j:Int)+1)=((j+1:Nat):Int):=w64_id (by omega) (by omega)
 refine ⟨fun h=>?_,fun h=>?_⟩
 ·have h:j≤w.size:=by have:=of_decide_eq_true h;omega
  have hsp:(w.extract 0 j).size=j:=by rw [size_part (Nat.zero_le j) h];omega
  rw [gd_nat ht,Int.toNat_natCast,Int.toNat_natCast,hw2]
  exact ⟨by omega,by omega,by omega,⟨by omega,h⟩,_,Split_ok _ _ hwf.1 hwf.2 (by omega),by omega,by omega,by omega,⟨by omega,h⟩,_,refSplit_ok _ _ hwf.1 hwf.2 (by omega),fun h=>(by simp at h),fun _=>⟨⟨j+1,rfl,by omega⟩,by first | omega | (dsimp only;omega)⟩⟩
 ·rw [hw1];exact ⟨⟨k+1,rfl,by omega⟩,by first | omega | (dsimp only;omega)⟩
end Go.Ev.Pl
