/-
It is proved that hecklelaw10.AutoRight returns true at every input and writes nothing that was there: whether any places of rules may be, and what they take of a text, is what the document says. Conditions: none beyond the row's own.
-/
import Derived.Test.YtkeiahjelpjegaaA08
import Derived.Test.YtkeiahjelpjegaaRows
import Derived.WalkKit
import Derived.ProofKit
import Derived.OpenShut
import Derived.ShutString
import Derived.ChangeOld
import Derived.Below
namespace Go.Proofs.Ytkeiahjelpjegaa.autoRight
open Go.ChangeShapes Go.WideShapes Go.ChangeAt Go.RowKit
open Go.ChangeMaps (open_string shut_string)
set_option linter.unusedVariables false
theorem own:ownKnob Try.prog.godebug=none:=by kernel_rfl
theorem laidOut:laidOutB Try.prog=true:=by kernel_rfl
theorem walk (cs:Array Value) (t:ByteArray) (r:Go.Ev.api_Auto) (w:World) (hw:Go.Ev.Pl.Small r) (hr:Go.Ev.Rd Go.Ev.enc_api_Auto 5 w r cs.toList) :
 Calls Try.prog 6 #[.agg cs,.string t] w fun e w'=>e=.returned (.bool true)∧Below w.heap.size w w':=by
 exact Go.Ev.law_walk (Go.Ev.Pl.autoRight_ok Go.Ev.Pl.awake_ok r hw t) (Go.Ev.args_cons (Go.Ev.Pl.r1_auto hr) (Go.Ev.args_cons (x:=Go.Ev.vS t) ⟨rfl,.pv _ rfl⟩ Go.Ev.args_nil))
set_option maxRecDepth 100000 in
theorem lifted (os:Os) (started:os.Started) (H:Type) (enc:TypeId×Value→H) :
 ReturnsInHanded {} Try.checked os 6 .any (Rows.autoRightSpec.pre6 enc Try.prog Try.f6 Rows.autoRightRow.domain false) (Rows.autoRightSpec.post enc Try.prog Try.f6 false true false false):=by
 refine returnsInHanded_of_change (C:=Try.checked) own started (by kernel_rfl) Try.func6
  (ChangeSpec.witness6 (enc:=enc) (C:=Try.checked) false ⟨#[],#[.agg #[.slice none 0 0,.slice none 0 0,.slice none 0 0,.slice none 0 0,.slice none 0 0],.string ⟨#[]⟩],[]⟩ 8 (by kernel_rfl) (by kernel_rfl) (by kernel_rfl) (by kernel_rfl)) ?_
 intro W base args ds gs before hval0 hW hcnd _
 have hval:∀ (j:Nat) t v,Try.f6.params[j]?=some t→args[j]?=some v→Value.okWide Try.prog W .any base t v:=hval0
 have hW':=hW
 obtain ⟨p,q,hA0,hV,rfl,hfz,hnd⟩:=hW
 have hA:DataW.TrodAll enc Try.prog W 0 (fun _=>true) true Try.f6.params.toList args.toList ds p:=hA0
 rw [Try.params6] at hA hval
 obtain ⟨v0,vs0,d0,ds0,p0,q0,hargs,rfl,rfl,h0,r0⟩:=trodAll_cons hA
 obtain ⟨v1,vs1,d1,ds1,p1,q1,rfl,rfl,rfl,h1,r1⟩:=trodAll_cons r0
 obtain ⟨rfl,rfl,rfl⟩:=trodAll_nil r1
 obtain rfl:args=#[v0,v1]:=by cases args;simp_all
 obtain ⟨rfl,rfl⟩:=trodVars_none hV
 obtain ⟨cs,rfl,-⟩:=okWide_struct Try.underlying55 (hval 0 55 v0 rfl rfl)
 have k0:=h0
 have k1:=h1
 have lt0:∀ x∈p0,x.block < W.heap.size:=by obtain ⟨m,hm⟩:=k0;exact DataW.trod_lt m _ _ _ hm
 have lt1:∀ x∈p1,x.block < W.heap.size:=by obtain ⟨m,hm⟩:=k1;exact DataW.trod_lt m _ _ _ hm
 obtain ⟨t,rfl⟩:∃ t,v1=.string t:=by
  obtain ⟨t,h,-⟩:=open_string Try.underlying9 (hval 1 9 v1 rfl rfl) h1
  exact ⟨t,h⟩
 obtain ⟨r,hw,hr⟩:∃ r,Go.Ev.Pl.Small r∧Go.Ev.Rd Go.Ev.enc_api_Auto 5 W r cs.toList:=by
  obtain ⟨fuel,hf⟩:=h0
  exact Go.Ev.Pl.rd_auto H enc W fuel cs.toList _ hf
 clear hA0 hval0
 refine (walk cs t r W hw hr).mono fun e W' ⟨he,bel⟩=>?_
 subst he
 exact ⟨_,rfl,_,_,_,[],_,[],hW',trodAll_mk1 (shut_bool Try.underlying4 _),(trodAll_cons_mk (Below.trod laidOut (by kernel_rfl) (of_decide_eq_true (by kernel_rfl)) k0 bel lt0) (trodAll_cons_mk (Below.trod laidOut (by kernel_rfl) (of_decide_eq_true (by kernel_rfl)) k1 bel lt1) trodAll_mk0)),rfl,bel.frame _,fun h=>by cases h⟩
theorem over:Rows.autoRightRow.holds Try.pinned (OpenSpec.ofChange Rows.autoRightSpec):=
 OpenClaim.holds_of_wide 6 Try.f6 rfl rfl rfl rfl rfl rfl rfl ⟨rfl,rfl,rfl,rfl,rfl⟩ rfl rfl rfl rfl rfl (by kernel_rfl) Try.func6 (by kernel_rfl)
  (of_decide_eq_true (by kernel_rfl)) (by unfold Func.isWrapper;first | (rw [if_pos (by decide +kernel)];kernel_rfl) | (rw [if_neg (by decide +kernel)];exact ⟨rfl,rfl⟩))
  (fun os started H enc _=>lifted os started H enc)
theorem proved:Rows.AutoRightSaid:=over
#print axioms proved
end Go.Proofs.Ytkeiahjelpjegaa.autoRight
