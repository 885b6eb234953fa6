/-
The Go function hecklelaw10.AutoAny returns true for every spec that may come in: the program's places of any rules are those of the document's answer, or both refuse them.
-/
import Derived.Test.YtkeiahjelpjegaaGreatA10
import Derived.Test.YtkeiahjelpjegaaGreatRows
import Derived.WalkKit
import Derived.ProofKit
import Derived.OpenShut
import Derived.ShutString
import Derived.ChangeOld
import Derived.Below
namespace Go.Proofs.YtkeiahjelpjegaaGreat.autoAny
open Go.ChangeShapes Go.WideShapes Go.ChangeAt Go.RowKit
open Go.ChangeMaps (open_string shut_string)
set_option linter.unusedVariables false
theorem own:ownKnob Tryz.prog.godebug=none:=by kernel_rfl
theorem laidOut:laidOutB Tryz.prog=true:=by kernel_rfl
theorem walk (cs:Array Value) (r:Go.Ev.api_Spec) (w:World) (hw:Go.Ev.Pl.WfS r) (hr:Go.Ev.Rd Go.Ev.enc_api_Spec 3 w r cs.toList) :
 Calls Tryz.prog 4 #[.agg cs] w fun e w'=>e=.returned (.bool true)∧Below w.heap.size w w':=by
 exact Go.Ev.law_walk (Go.Ev.Pl.autoAny_ok r hw) (Go.Ev.args_cons (Go.Ev.Pl.r1_spec hr) Go.Ev.args_nil)
set_option maxRecDepth 100000 in
theorem lifted (os:Os) (started:os.Started) (H:Type) (enc:TypeId×Value→H) :
 ReturnsInHanded {} Tryz.checked os 4 .any (Rows.autoAnySpec.pre6 enc Tryz.prog Tryz.f4 Rows.autoAnyRow.domain false) (Rows.autoAnySpec.post enc Tryz.prog Tryz.f4 false true false false):=by
 refine returnsInHanded_of_change (C:=Tryz.checked) own started (by kernel_rfl) Tryz.func4
  (ChangeSpec.witness6 (enc:=enc) (C:=Tryz.checked) false ⟨#[],#[.agg #[.slice none 0 0,.bool false,.slice none 0 0]],[]⟩ 8 (by kernel_rfl) (by kernel_rfl) (by kernel_rfl) (by kernel_rfl)) ?_
 intro W base args ds gs before hval0 hW hcnd _
 have hval:∀ (j:Nat) t v,Tryz.f4.params[j]?=some t→args[j]?=some v→Value.okWide Tryz.prog W .any base t v:=hval0
 have hW':=hW
 obtain ⟨p,q,hA0,hV,rfl,hfz,hnd⟩:=hW
 have hA:DataW.TrodAll enc Tryz.prog W 0 (fun _=>true) true Tryz.f4.params.toList args.toList ds p:=hA0
 rw [Tryz.params4] at hA hval
 obtain ⟨v0,vs0,d0,ds0,p0,q0,hargs,rfl,rfl,h0,r0⟩:=trodAll_cons hA
 obtain ⟨rfl,rfl,rfl⟩:=trodAll_nil r0
 obtain rfl:args=#[v0]:=by cases args;simp_all
 obtain ⟨rfl,rfl⟩:=trodVars_none hV
 obtain ⟨cs,rfl,-⟩:=okWide_struct Tryz.underlying37 (hval 0 37 v0 rfl rfl)
 have k0:=h0
 have lt0:∀ x∈p0,x.block < W.heap.size:=by obtain ⟨m,hm⟩:=k0;exact DataW.trod_lt m _ _ _ hm
 obtain ⟨r,hw,hr⟩:∃ r,Go.Ev.Pl.WfS r∧Go.Ev.Rd Go.Ev.enc_api_Spec 3 W r cs.toList:=by
  obtain ⟨fuel,hf⟩:=h0
  exact Go.Ev.Pl.rd_spec H enc W fuel cs.toList _ hf
 clear hA0 hval0
 refine (walk cs r W hw hr).mono fun e W' ⟨he,bel⟩=>?_
 subst he
 exact ⟨_,rfl,_,_,_,[],_,[],hW',trodAll_mk1 (shut_bool Tryz.underlying4 _),(trodAll_cons_mk (Below.trod laidOut (by kernel_rfl) (of_decide_eq_true (by kernel_rfl)) k0 bel lt0) trodAll_mk0),rfl,bel.frame _,fun h=>by cases h⟩
theorem over:Rows.autoAnyRow.holds Tryz.pinned (OpenSpec.ofChange Rows.autoAnySpec):=
 OpenClaim.holds_of_wide 4 Tryz.f4 rfl rfl rfl rfl rfl rfl rfl ⟨rfl,rfl,rfl,rfl,rfl⟩ rfl rfl rfl rfl rfl (by kernel_rfl) Tryz.func4 (by kernel_rfl)
  (of_decide_eq_true (by kernel_rfl)) (by unfold Func.isWrapper;first | (rw [if_pos (by decide +kernel)];kernel_rfl) | (rw [if_neg (by decide +kernel)];exact ⟨rfl,rfl⟩))
  (fun os started H enc _=>lifted os started H enc)
theorem proved:Rows.AutoAnySaid:=over
#print axioms proved
end Go.Proofs.YtkeiahjelpjegaaGreat.autoAny
