/-
  NARROWER THAN 'FOR EVERY INPUT', by the rows' own cells (each row's printed sentence says how): AutoAny: loops.
  DERIVED. THE GIVEN ROWS OF THIS SEAT. 6 by the template 'for every input the law returns true; each argument reads behind the call as it read before'; 0 by the template 'total and deterministic' (their statements: YtkeiahjelpjegaaGreatTotals.lean).
  GIVEN WITH THE SEED: the statements are not yours to turn. If you find one false, say at which input.
  Laid BY PROGRAM, IN A SANDBOX (cutbox-rows.mjs): the forced cells as the released guide's own fill.sh prints them over the translation 57430ba8908a44e2… (all of the seat's roots in one cut). By AI agents, Wed Nov 11 2026. No macro, syntax, notation, axiom, sorry.
-/
import Derived.Test.YtkeiahjelpjegaaGreatChecked
import GoSem.Claim
import GoSem.ClaimJoined
import GoSem.ClaimMapViews
import Derived.JoinedTies
import Derived.KernelRfl
namespace Go.Proofs.YtkeiahjelpjegaaGreat
/- THE CELL 'sum', in the pinned program and in every row, IS THE sha256 OF THE DUMP (.gsa) THAT YtkeiahjelpjegaaGreatProg.lean LOADS. Nothing in Lean hashes anything: it is a label: what it is worth is what the hold of that sum in a sandbox is worth. -/
noncomputable def Tryz.pinned : Pinned := { name := "ytkeiahjelpjegaagreat", sum := "57430ba8908a44e2327c68ebbf37c7e5084c757116829835d79be0a2f5cd8f85", checked := Tryz.checked }
namespace Rows
def none {H : Type} : Left H := { results := [], args := [] }

/-- 'hecklelaw15.SplitMade': WHATEVER THE INPUT: true; the input reads as it did. -/
def splitMadeSpec : ChangeSpec := { name := "splitMade", fn := fun _ => fun
  | [d1, d2, d3] => { results := [.lit (.bool true)], args := [d1, d2, d3] }
  | _ => none }
def splitMadeRow : OpenClaim := { program := "ytkeiahjelpjegaagreat", sum := "57430ba8908a44e2327c68ebbf37c7e5084c757116829835d79be0a2f5cd8f85", func := "heckle/hecklelaw15.SplitMade", spec := "splitMade", unfollowed := true, recurses := true, apart := false }
def SplitMadeSaid : Prop := splitMadeRow.holds Tryz.pinned (OpenSpec.ofChange splitMadeSpec)

/-- ITS FALSE NEIGHBOUR: 'it returns false'. Refute it at one input. -/
def splitMadeWrong : ChangeSpec := { name := "splitMade", fn := fun _ => fun
  | [d1, d2, d3] => { results := [.lit (.bool false)], args := [d1, d2, d3] }
  | _ => none }
def SplitMadeWrongFalsely : Prop := splitMadeRow.holds Tryz.pinned (OpenSpec.ofChange splitMadeWrong)

/-- 'hecklelaw10.AutoAny': WHATEVER THE INPUT: true; the input reads as it did. -/
def autoAnySpec : ChangeSpec := { name := "autoAny", fn := fun _ => fun
  | [d] => { results := [.lit (.bool true)], args := [d] }
  | _ => none }
def autoAnyRow : OpenClaim := { program := "ytkeiahjelpjegaagreat", sum := "57430ba8908a44e2327c68ebbf37c7e5084c757116829835d79be0a2f5cd8f85", func := "heckle/hecklelaw10.AutoAny", spec := "autoAny", unfollowed := true, recurses := true, loops := true, apart := false }
def AutoAnySaid : Prop := autoAnyRow.holds Tryz.pinned (OpenSpec.ofChange autoAnySpec)

/-- ITS FALSE NEIGHBOUR: 'it returns false'. Refute it at one input. -/
def autoAnyWrong : ChangeSpec := { name := "autoAny", fn := fun _ => fun
  | [d] => { results := [.lit (.bool false)], args := [d] }
  | _ => none }
def AutoAnyWrongFalsely : Prop := autoAnyRow.holds Tryz.pinned (OpenSpec.ofChange autoAnyWrong)

/-- 'hecklelaw10.AutoMade': WHATEVER THE INPUT: true; the input reads as it did. -/
def autoMadeSpec : ChangeSpec := { name := "autoMade", fn := fun _ => fun
  | [d1, d2, d3] => { results := [.lit (.bool true)], args := [d1, d2, d3] }
  | _ => none }
def autoMadeRow : OpenClaim := { program := "ytkeiahjelpjegaagreat", sum := "57430ba8908a44e2327c68ebbf37c7e5084c757116829835d79be0a2f5cd8f85", func := "heckle/hecklelaw10.AutoMade", spec := "autoMade", unfollowed := true, recurses := true, apart := false }
def AutoMadeSaid : Prop := autoMadeRow.holds Tryz.pinned (OpenSpec.ofChange autoMadeSpec)

/-- ITS FALSE NEIGHBOUR: 'it returns false'. Refute it at one input. -/
def autoMadeWrong : ChangeSpec := { name := "autoMade", fn := fun _ => fun
  | [d1, d2, d3] => { results := [.lit (.bool false)], args := [d1, d2, d3] }
  | _ => none }
def AutoMadeWrongFalsely : Prop := autoMadeRow.holds Tryz.pinned (OpenSpec.ofChange autoMadeWrong)

/-- 'hecklelaw10.AutoSpoilt': WHATEVER THE INPUT: true; the input reads as it did. -/
def autoSpoiltSpec : ChangeSpec := { name := "autoSpoilt", fn := fun _ => fun
  | [d1, d2, d3, d4] => { results := [.lit (.bool true)], args := [d1, d2, d3, d4] }
  | _ => none }
def autoSpoiltRow : OpenClaim := { program := "ytkeiahjelpjegaagreat", sum := "57430ba8908a44e2327c68ebbf37c7e5084c757116829835d79be0a2f5cd8f85", func := "heckle/hecklelaw10.AutoSpoilt", spec := "autoSpoilt", unfollowed := true, recurses := true, apart := false }
def AutoSpoiltSaid : Prop := autoSpoiltRow.holds Tryz.pinned (OpenSpec.ofChange autoSpoiltSpec)

/-- ITS FALSE NEIGHBOUR: 'it returns false'. Refute it at one input. -/
def autoSpoiltWrong : ChangeSpec := { name := "autoSpoilt", fn := fun _ => fun
  | [d1, d2, d3, d4] => { results := [.lit (.bool false)], args := [d1, d2, d3, d4] }
  | _ => none }
def AutoSpoiltWrongFalsely : Prop := autoSpoiltRow.holds Tryz.pinned (OpenSpec.ofChange autoSpoiltWrong)

/-- 'hecklelaw10.AutoLong': WHATEVER THE INPUT: true; the input reads as it did. -/
def autoLongSpec : ChangeSpec := { name := "autoLong", fn := fun _ => fun
  | [d1, d2] => { results := [.lit (.bool true)], args := [d1, d2] }
  | _ => none }
def autoLongRow : OpenClaim := { program := "ytkeiahjelpjegaagreat", sum := "57430ba8908a44e2327c68ebbf37c7e5084c757116829835d79be0a2f5cd8f85", func := "heckle/hecklelaw10.AutoLong", spec := "autoLong", unfollowed := true, recurses := true, apart := false }
def AutoLongSaid : Prop := autoLongRow.holds Tryz.pinned (OpenSpec.ofChange autoLongSpec)

/-- ITS FALSE NEIGHBOUR: 'it returns false'. Refute it at one input. -/
def autoLongWrong : ChangeSpec := { name := "autoLong", fn := fun _ => fun
  | [d1, d2] => { results := [.lit (.bool false)], args := [d1, d2] }
  | _ => none }
def AutoLongWrongFalsely : Prop := autoLongRow.holds Tryz.pinned (OpenSpec.ofChange autoLongWrong)

/-- 'hecklelaw10.AutoPick': WHATEVER THE INPUT: true; the input reads as it did. -/
def autoPickSpec : ChangeSpec := { name := "autoPick", fn := fun _ => fun
  | [d1, d2, d3, d4] => { results := [.lit (.bool true)], args := [d1, d2, d3, d4] }
  | _ => none }
def autoPickRow : OpenClaim := { program := "ytkeiahjelpjegaagreat", sum := "57430ba8908a44e2327c68ebbf37c7e5084c757116829835d79be0a2f5cd8f85", func := "heckle/hecklelaw10.AutoPick", spec := "autoPick", unfollowed := true, recurses := true, apart := false }
def AutoPickSaid : Prop := autoPickRow.holds Tryz.pinned (OpenSpec.ofChange autoPickSpec)

/-- ITS FALSE NEIGHBOUR: 'it returns false'. Refute it at one input. -/
def autoPickWrong : ChangeSpec := { name := "autoPick", fn := fun _ => fun
  | [d1, d2, d3, d4] => { results := [.lit (.bool false)], args := [d1, d2, d3, d4] }
  | _ => none }
def AutoPickWrongFalsely : Prop := autoPickRow.holds Tryz.pinned (OpenSpec.ofChange autoPickWrong)

/- THE SECOND FORM. 'bulk': how many values and letters a reading holds, each counted each time it is reached (what is shared counts as often as it is met; a slice's spare places count too). A statement '..UptoSaid' is the law's where the arguments, and the package variables that the reading takes, are together of bulk at most 1048576: NARROWER than '..Said'. Prove '..Said' where nothing that the law and all that it calls make is longer than what came in: it says more and counts as full. Else prove '..UptoSaid'. A law counts once. -/
mutual
def uptoBulk {H : Type} : DataW H → Nat
  | .lit (.string bytes) => bytes.length + 1
  | .lit _ => 1
  | .nil => 1
  | .ptr d => uptoBulk d + 1
  | .slice elems spare => uptoBulkAll elems + uptoBulkAll spare + 1
  | .agg parts => uptoBulkAll parts + 1
  | .iface _ d => uptoBulk d + 1
  | .map entries => uptoBulkEntries entries + 1
  | .held _ => 1
def uptoBulkAll {H : Type} : List (DataW H) → Nat
  | [] => 0
  | d :: r => uptoBulk d + uptoBulkAll r
def uptoBulkEntries {H : Type} : List (Lit × DataW H) → Nat
  | [] => 0
  | x :: r => uptoBulkEntry x + uptoBulkEntries r
def uptoBulkEntry {H : Type} : Lit × DataW H → Nat
  | (.string bytes, d) => bytes.length + uptoBulk d + 1
  | (_, d) => uptoBulk d + 1
 end
def uptoSmall : (H : Type) → List (DataW H) → Bool := fun _ ds => decide (uptoBulkAll ds ≤ 1048576)
def OpenSpec.upto (s : _root_.Go.ChangeSpec) : _root_.Go.OpenSpec := { _root_.Go.OpenSpec.ofChange s with cond := some uptoSmall }

/-- 'hecklelaw15.SplitMade', WHERE WHAT IT READS IS OF BULK AT MOST 1048576: true; the input reads as it did. -/
def splitMadeUptoRow : OpenClaim := { program := "ytkeiahjelpjegaagreat", sum := "57430ba8908a44e2327c68ebbf37c7e5084c757116829835d79be0a2f5cd8f85", func := "heckle/hecklelaw15.SplitMade", spec := "splitMade", unfollowed := true, recurses := true, apart := false, narrowed := true }
def SplitMadeUptoSaid : Prop := splitMadeUptoRow.holds Tryz.pinned (OpenSpec.upto splitMadeSpec)

/-- 'hecklelaw10.AutoAny', WHERE WHAT IT READS IS OF BULK AT MOST 1048576: true; the input reads as it did. -/
def autoAnyUptoRow : OpenClaim := { program := "ytkeiahjelpjegaagreat", sum := "57430ba8908a44e2327c68ebbf37c7e5084c757116829835d79be0a2f5cd8f85", func := "heckle/hecklelaw10.AutoAny", spec := "autoAny", unfollowed := true, recurses := true, loops := true, apart := false, narrowed := true }
def AutoAnyUptoSaid : Prop := autoAnyUptoRow.holds Tryz.pinned (OpenSpec.upto autoAnySpec)

/-- 'hecklelaw10.AutoMade', WHERE WHAT IT READS IS OF BULK AT MOST 1048576: true; the input reads as it did. -/
def autoMadeUptoRow : OpenClaim := { program := "ytkeiahjelpjegaagreat", sum := "57430ba8908a44e2327c68ebbf37c7e5084c757116829835d79be0a2f5cd8f85", func := "heckle/hecklelaw10.AutoMade", spec := "autoMade", unfollowed := true, recurses := true, apart := false, narrowed := true }
def AutoMadeUptoSaid : Prop := autoMadeUptoRow.holds Tryz.pinned (OpenSpec.upto autoMadeSpec)

/-- 'hecklelaw10.AutoSpoilt', WHERE WHAT IT READS IS OF BULK AT MOST 1048576: true; the input reads as it did. -/
def autoSpoiltUptoRow : OpenClaim := { program := "ytkeiahjelpjegaagreat", sum := "57430ba8908a44e2327c68ebbf37c7e5084c757116829835d79be0a2f5cd8f85", func := "heckle/hecklelaw10.AutoSpoilt", spec := "autoSpoilt", unfollowed := true, recurses := true, apart := false, narrowed := true }
def AutoSpoiltUptoSaid : Prop := autoSpoiltUptoRow.holds Tryz.pinned (OpenSpec.upto autoSpoiltSpec)

/-- 'hecklelaw10.AutoLong', WHERE WHAT IT READS IS OF BULK AT MOST 1048576: true; the input reads as it did. -/
def autoLongUptoRow : OpenClaim := { program := "ytkeiahjelpjegaagreat", sum := "57430ba8908a44e2327c68ebbf37c7e5084c757116829835d79be0a2f5cd8f85", func := "heckle/hecklelaw10.AutoLong", spec := "autoLong", unfollowed := true, recurses := true, apart := false, narrowed := true }
def AutoLongUptoSaid : Prop := autoLongUptoRow.holds Tryz.pinned (OpenSpec.upto autoLongSpec)

/-- 'hecklelaw10.AutoPick', WHERE WHAT IT READS IS OF BULK AT MOST 1048576: true; the input reads as it did. -/
def autoPickUptoRow : OpenClaim := { program := "ytkeiahjelpjegaagreat", sum := "57430ba8908a44e2327c68ebbf37c7e5084c757116829835d79be0a2f5cd8f85", func := "heckle/hecklelaw10.AutoPick", spec := "autoPick", unfollowed := true, recurses := true, apart := false, narrowed := true }
def AutoPickUptoSaid : Prop := autoPickUptoRow.holds Tryz.pinned (OpenSpec.upto autoPickSpec)

end Rows
end Go.Proofs.YtkeiahjelpjegaaGreat
