/-
  No cell of these rows narrows 'for every input' (looked for: loops, veiled, ifaces, maps, wideKeys, modest, calm, conditions, laid).
  DERIVED. THE GIVEN ROWS OF THIS SEAT. 5 by the template 'for every input the law returns true; each argument reads behind the call as it read before'; 0 by the template 'total and deterministic' (their statements: YtkeiahjelpjegaaTotals.lean).
  GIVEN WITH THE SEED: the statements are not yours to turn. If you find one false, say at which input.
  Laid BY PROGRAM, IN A SANDBOX (cutbox-rows.mjs): the forced cells as the released guide's own fill.sh prints them over the translation 0a3991109ed6da63… (all of the seat's roots in one cut). By AI agents, Wed Nov 11 2026. No macro, syntax, notation, axiom, sorry.
-/
import Derived.Test.YtkeiahjelpjegaaChecked
import GoSem.Claim
import GoSem.ClaimJoined
import GoSem.ClaimMapViews
import Derived.JoinedTies
import Derived.KernelRfl
namespace Go.Proofs.Ytkeiahjelpjegaa
/- THE CELL 'sum', in the pinned program and in every row, IS THE sha256 OF THE DUMP (.gsa) THAT YtkeiahjelpjegaaProg.lean LOADS. Nothing in Lean hashes anything: it is a label: what it is worth is what the hold of that sum in a sandbox is worth. -/
noncomputable def Try.pinned : Pinned := { name := "ytkeiahjelpjegaa", sum := "0a3991109ed6da634bf5c24b2783e925f25361cd1541a8373cff731d70620f9a", checked := Try.checked }
namespace Rows
def none {H : Type} : Left H := { results := [], args := [] }

/-- 'hecklelaw15.SplitRules': WHATEVER THE INPUT: true; the input reads as it did. -/
def splitRulesSpec : ChangeSpec := { name := "splitRules", fn := fun _ => fun
  | [d1, d2] => { results := [.lit (.bool true)], args := [d1, d2] }
  | _ => none }
def splitRulesRow : OpenClaim := { program := "ytkeiahjelpjegaa", sum := "0a3991109ed6da634bf5c24b2783e925f25361cd1541a8373cff731d70620f9a", func := "heckle/hecklelaw15.SplitRules", spec := "splitRules", unfollowed := true, recurses := true, apart := false }
def SplitRulesSaid : Prop := splitRulesRow.holds Try.pinned (OpenSpec.ofChange splitRulesSpec)

/-- ITS FALSE NEIGHBOUR: 'it returns false'. Refute it at one input. -/
def splitRulesWrong : ChangeSpec := { name := "splitRules", fn := fun _ => fun
  | [d1, d2] => { results := [.lit (.bool false)], args := [d1, d2] }
  | _ => none }
def SplitRulesWrongFalsely : Prop := splitRulesRow.holds Try.pinned (OpenSpec.ofChange splitRulesWrong)

/-- 'hecklelaw15.SplitTurned': WHATEVER THE INPUT: true; the input reads as it did. -/
def splitTurnedSpec : ChangeSpec := { name := "splitTurned", fn := fun _ => fun
  | [d1, d2] => { results := [.lit (.bool true)], args := [d1, d2] }
  | _ => none }
def splitTurnedRow : OpenClaim := { program := "ytkeiahjelpjegaa", sum := "0a3991109ed6da634bf5c24b2783e925f25361cd1541a8373cff731d70620f9a", func := "heckle/hecklelaw15.SplitTurned", spec := "splitTurned", unfollowed := true, recurses := true, apart := false }
def SplitTurnedSaid : Prop := splitTurnedRow.holds Try.pinned (OpenSpec.ofChange splitTurnedSpec)

/-- ITS FALSE NEIGHBOUR: 'it returns false'. Refute it at one input. -/
def splitTurnedWrong : ChangeSpec := { name := "splitTurned", fn := fun _ => fun
  | [d1, d2] => { results := [.lit (.bool false)], args := [d1, d2] }
  | _ => none }
def SplitTurnedWrongFalsely : Prop := splitTurnedRow.holds Try.pinned (OpenSpec.ofChange splitTurnedWrong)

/-- 'hecklelaw15.SplitPlace': WHATEVER THE INPUT: true; the input reads as it did. -/
def splitPlaceSpec : ChangeSpec := { name := "splitPlace", fn := fun _ => fun
  | [d1, d2, d3] => { results := [.lit (.bool true)], args := [d1, d2, d3] }
  | _ => none }
def splitPlaceRow : OpenClaim := { program := "ytkeiahjelpjegaa", sum := "0a3991109ed6da634bf5c24b2783e925f25361cd1541a8373cff731d70620f9a", func := "heckle/hecklelaw15.SplitPlace", spec := "splitPlace", unfollowed := true, recurses := true, apart := false }
def SplitPlaceSaid : Prop := splitPlaceRow.holds Try.pinned (OpenSpec.ofChange splitPlaceSpec)

/-- ITS FALSE NEIGHBOUR: 'it returns false'. Refute it at one input. -/
def splitPlaceWrong : ChangeSpec := { name := "splitPlace", fn := fun _ => fun
  | [d1, d2, d3] => { results := [.lit (.bool false)], args := [d1, d2, d3] }
  | _ => none }
def SplitPlaceWrongFalsely : Prop := splitPlaceRow.holds Try.pinned (OpenSpec.ofChange splitPlaceWrong)

/-- 'hecklelaw10.AutoRight': WHATEVER THE INPUT: true; the input reads as it did. -/
def autoRightSpec : ChangeSpec := { name := "autoRight", fn := fun _ => fun
  | [d1, d2] => { results := [.lit (.bool true)], args := [d1, d2] }
  | _ => none }
def autoRightRow : OpenClaim := { program := "ytkeiahjelpjegaa", sum := "0a3991109ed6da634bf5c24b2783e925f25361cd1541a8373cff731d70620f9a", func := "heckle/hecklelaw10.AutoRight", spec := "autoRight", unfollowed := true, recurses := true, apart := false }
def AutoRightSaid : Prop := autoRightRow.holds Try.pinned (OpenSpec.ofChange autoRightSpec)

/-- ITS FALSE NEIGHBOUR: 'it returns false'. Refute it at one input. -/
def autoRightWrong : ChangeSpec := { name := "autoRight", fn := fun _ => fun
  | [d1, d2] => { results := [.lit (.bool false)], args := [d1, d2] }
  | _ => none }
def AutoRightWrongFalsely : Prop := autoRightRow.holds Try.pinned (OpenSpec.ofChange autoRightWrong)

/-- 'hecklelaw10.AutoEnds': WHATEVER THE INPUT: true; the input reads as it did. -/
def autoEndsSpec : ChangeSpec := { name := "autoEnds", fn := fun _ => fun
  | [d] => { results := [.lit (.bool true)], args := [d] }
  | _ => none }
def autoEndsRow : OpenClaim := { program := "ytkeiahjelpjegaa", sum := "0a3991109ed6da634bf5c24b2783e925f25361cd1541a8373cff731d70620f9a", func := "heckle/hecklelaw10.AutoEnds", spec := "autoEnds", unfollowed := true, recurses := true, apart := false }
def AutoEndsSaid : Prop := autoEndsRow.holds Try.pinned (OpenSpec.ofChange autoEndsSpec)

/-- ITS FALSE NEIGHBOUR: 'it returns false'. Refute it at one input. -/
def autoEndsWrong : ChangeSpec := { name := "autoEnds", fn := fun _ => fun
  | [d] => { results := [.lit (.bool false)], args := [d] }
  | _ => none }
def AutoEndsWrongFalsely : Prop := autoEndsRow.holds Try.pinned (OpenSpec.ofChange autoEndsWrong)

/- THE SECOND FORM. 'bulk': how many values and letters a reading holds, each counted each time it is reached (what is shared counts as often as it is met; a slice's spare places count too). A statement '..UptoSaid' is the law's where the arguments, and the package variables that the reading takes, are together of bulk at most 1048576: NARROWER than '..Said'. Prove '..Said' where nothing that the law and all that it calls make is longer than what came in: it says more and counts as full. Else prove '..UptoSaid'. A law counts once. -/
mutual
def uptoBulk {H : Type} : DataW H → Nat
  | .lit (.string bytes) => bytes.length + 1
  | .lit _ => 1
  | .nil => 1
  | .ptr d => uptoBulk d + 1
  | .slice elems spare => uptoBulkAll elems + uptoBulkAll spare + 1
  | .agg parts => uptoBulkAll parts + 1
  | .iface _ d => uptoBulk d + 1
  | .map entries => uptoBulkEntries entries + 1
  | .held _ => 1
def uptoBulkAll {H : Type} : List (DataW H) → Nat
  | [] => 0
  | d :: r => uptoBulk d + uptoBulkAll r
def uptoBulkEntries {H : Type} : List (Lit × DataW H) → Nat
  | [] => 0
  | x :: r => uptoBulkEntry x + uptoBulkEntries r
def uptoBulkEntry {H : Type} : Lit × DataW H → Nat
  | (.string bytes, d) => bytes.length + uptoBulk d + 1
  | (_, d) => uptoBulk d + 1
 end
def uptoSmall : (H : Type) → List (DataW H) → Bool := fun _ ds => decide (uptoBulkAll ds ≤ 1048576)
def OpenSpec.upto (s : _root_.Go.ChangeSpec) : _root_.Go.OpenSpec := { _root_.Go.OpenSpec.ofChange s with cond := some uptoSmall }

/-- 'hecklelaw15.SplitRules', WHERE WHAT IT READS IS OF BULK AT MOST 1048576: true; the input reads as it did. -/
def splitRulesUptoRow : OpenClaim := { program := "ytkeiahjelpjegaa", sum := "0a3991109ed6da634bf5c24b2783e925f25361cd1541a8373cff731d70620f9a", func := "heckle/hecklelaw15.SplitRules", spec := "splitRules", unfollowed := true, recurses := true, apart := false, narrowed := true }
def SplitRulesUptoSaid : Prop := splitRulesUptoRow.holds Try.pinned (OpenSpec.upto splitRulesSpec)

/-- 'hecklelaw15.SplitTurned', WHERE WHAT IT READS IS OF BULK AT MOST 1048576: true; the input reads as it did. -/
def splitTurnedUptoRow : OpenClaim := { program := "ytkeiahjelpjegaa", sum := "0a3991109ed6da634bf5c24b2783e925f25361cd1541a8373cff731d70620f9a", func := "heckle/hecklelaw15.SplitTurned", spec := "splitTurned", unfollowed := true, recurses := true, apart := false, narrowed := true }
def SplitTurnedUptoSaid : Prop := splitTurnedUptoRow.holds Try.pinned (OpenSpec.upto splitTurnedSpec)

/-- 'hecklelaw15.SplitPlace', WHERE WHAT IT READS IS OF BULK AT MOST 1048576: true; the input reads as it did. -/
def splitPlaceUptoRow : OpenClaim := { program := "ytkeiahjelpjegaa", sum := "0a3991109ed6da634bf5c24b2783e925f25361cd1541a8373cff731d70620f9a", func := "heckle/hecklelaw15.SplitPlace", spec := "splitPlace", unfollowed := true, recurses := true, apart := false, narrowed := true }
def SplitPlaceUptoSaid : Prop := splitPlaceUptoRow.holds Try.pinned (OpenSpec.upto splitPlaceSpec)

/-- 'hecklelaw10.AutoRight', WHERE WHAT IT READS IS OF BULK AT MOST 1048576: true; the input reads as it did. -/
def autoRightUptoRow : OpenClaim := { program := "ytkeiahjelpjegaa", sum := "0a3991109ed6da634bf5c24b2783e925f25361cd1541a8373cff731d70620f9a", func := "heckle/hecklelaw10.AutoRight", spec := "autoRight", unfollowed := true, recurses := true, apart := false, narrowed := true }
def AutoRightUptoSaid : Prop := autoRightUptoRow.holds Try.pinned (OpenSpec.upto autoRightSpec)

/-- 'hecklelaw10.AutoEnds', WHERE WHAT IT READS IS OF BULK AT MOST 1048576: true; the input reads as it did. -/
def autoEndsUptoRow : OpenClaim := { program := "ytkeiahjelpjegaa", sum := "0a3991109ed6da634bf5c24b2783e925f25361cd1541a8373cff731d70620f9a", func := "heckle/hecklelaw10.AutoEnds", spec := "autoEnds", unfollowed := true, recurses := true, apart := false, narrowed := true }
def AutoEndsUptoSaid : Prop := autoEndsUptoRow.holds Try.pinned (OpenSpec.upto autoEndsSpec)

end Rows
end Go.Proofs.Ytkeiahjelpjegaa
