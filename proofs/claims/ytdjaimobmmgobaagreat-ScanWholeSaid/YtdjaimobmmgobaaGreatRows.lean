/-
  No cell of these rows narrows 'for every input' (looked for: loops, veiled, ifaces, maps, wideKeys, modest, calm, conditions, laid).
  DERIVED. THE GIVEN ROWS OF THIS SEAT. 6 by the template 'for every input the law returns true; each argument reads behind the call as it read before'; 0 by the template 'total and deterministic' (their statements: YtdjaimobmmgobaaGreatTotals.lean).
  GIVEN WITH THE SEED: the statements are not yours to turn. If you find one false, say at which input.
  Laid BY PROGRAM, IN A SANDBOX (cutbox-rows.mjs): the forced cells as the released guide's own fill.sh prints them over the translation b559993fea8e23d8… (all of the seat's roots in one cut). By AI agents, Wed Nov 11 2026. No macro, syntax, notation, axiom, sorry.
-/
import Derived.Test.YtdjaimobmmgobaaGreatChecked
import GoSem.Claim
import GoSem.ClaimJoined
import GoSem.ClaimMapViews
import Derived.JoinedTies
import Derived.KernelRfl
namespace Go.Proofs.YtdjaimobmmgobaaGreat
/- THE CELL 'sum', in the pinned program and in every row, IS THE sha256 OF THE DUMP (.gsa) THAT YtdjaimobmmgobaaGreatProg.lean LOADS. Nothing in Lean hashes anything: it is a label: what it is worth is what the hold of that sum in a sandbox is worth. -/
noncomputable def Tryz.pinned : Pinned := { name := "ytdjaimobmmgobaagreat", sum := "b559993fea8e23d8e52cf1633aaf00c4e82751407504adbfa92cd2bd06ee2056", checked := Tryz.checked }
namespace Rows
def none {H : Type} : Left H := { results := [], args := [] }

/-- 'hecklelaw17.ScanMade': WHATEVER THE INPUT: true; the input reads as it did. -/
def scanMadeSpec : ChangeSpec := { name := "scanMade", fn := fun _ => fun
  | [d1, d2] => { results := [.lit (.bool true)], args := [d1, d2] }
  | _ => none }
def scanMadeRow : OpenClaim := { program := "ytdjaimobmmgobaagreat", sum := "b559993fea8e23d8e52cf1633aaf00c4e82751407504adbfa92cd2bd06ee2056", func := "heckle/hecklelaw17.ScanMade", spec := "scanMade", unfollowed := true, recurses := true, plainKeys := false, apart := false }
def ScanMadeSaid : Prop := scanMadeRow.holds Tryz.pinned (OpenSpec.ofChange scanMadeSpec)

/-- ITS FALSE NEIGHBOUR: 'it returns false'. Refute it at one input. -/
def scanMadeWrong : ChangeSpec := { name := "scanMade", fn := fun _ => fun
  | [d1, d2] => { results := [.lit (.bool false)], args := [d1, d2] }
  | _ => none }
def ScanMadeWrongFalsely : Prop := scanMadeRow.holds Tryz.pinned (OpenSpec.ofChange scanMadeWrong)

/-- 'hecklelaw17.ScanOdd': WHATEVER THE INPUT: true; the input reads as it did. -/
def scanOddSpec : ChangeSpec := { name := "scanOdd", fn := fun _ => fun
  | [d1, d2, d3, d4, d5] => { results := [.lit (.bool true)], args := [d1, d2, d3, d4, d5] }
  | _ => none }
def scanOddRow : OpenClaim := { program := "ytdjaimobmmgobaagreat", sum := "b559993fea8e23d8e52cf1633aaf00c4e82751407504adbfa92cd2bd06ee2056", func := "heckle/hecklelaw17.ScanOdd", spec := "scanOdd", unfollowed := true, recurses := true, plainKeys := false, apart := false }
def ScanOddSaid : Prop := scanOddRow.holds Tryz.pinned (OpenSpec.ofChange scanOddSpec)

/-- ITS FALSE NEIGHBOUR: 'it returns false'. Refute it at one input. -/
def scanOddWrong : ChangeSpec := { name := "scanOdd", fn := fun _ => fun
  | [d1, d2, d3, d4, d5] => { results := [.lit (.bool false)], args := [d1, d2, d3, d4, d5] }
  | _ => none }
def ScanOddWrongFalsely : Prop := scanOddRow.holds Tryz.pinned (OpenSpec.ofChange scanOddWrong)

/-- 'hecklelaw17.ScanWhole': WHATEVER THE INPUT: true; the input reads as it did. -/
def scanWholeSpec : ChangeSpec := { name := "scanWhole", fn := fun _ => fun
  | [d1, d2, d3, d4, d5] => { results := [.lit (.bool true)], args := [d1, d2, d3, d4, d5] }
  | _ => none }
def scanWholeRow : OpenClaim := { program := "ytdjaimobmmgobaagreat", sum := "b559993fea8e23d8e52cf1633aaf00c4e82751407504adbfa92cd2bd06ee2056", func := "heckle/hecklelaw17.ScanWhole", spec := "scanWhole", unfollowed := true, recurses := true, plainKeys := false, apart := false }
def ScanWholeSaid : Prop := scanWholeRow.holds Tryz.pinned (OpenSpec.ofChange scanWholeSpec)

/-- ITS FALSE NEIGHBOUR: 'it returns false'. Refute it at one input. -/
def scanWholeWrong : ChangeSpec := { name := "scanWhole", fn := fun _ => fun
  | [d1, d2, d3, d4, d5] => { results := [.lit (.bool false)], args := [d1, d2, d3, d4, d5] }
  | _ => none }
def ScanWholeWrongFalsely : Prop := scanWholeRow.holds Tryz.pinned (OpenSpec.ofChange scanWholeWrong)

/-- 'hecklelaw18.RepsMade': WHATEVER THE INPUT: true; the input reads as it did. -/
def repsMadeSpec : ChangeSpec := { name := "repsMade", fn := fun _ => fun
  | [d1, d2, d3] => { results := [.lit (.bool true)], args := [d1, d2, d3] }
  | _ => none }
def repsMadeRow : OpenClaim := { program := "ytdjaimobmmgobaagreat", sum := "b559993fea8e23d8e52cf1633aaf00c4e82751407504adbfa92cd2bd06ee2056", func := "heckle/hecklelaw18.RepsMade", spec := "repsMade", unfollowed := true, recurses := true, plainKeys := false, apart := false }
def RepsMadeSaid : Prop := repsMadeRow.holds Tryz.pinned (OpenSpec.ofChange repsMadeSpec)

/-- ITS FALSE NEIGHBOUR: 'it returns false'. Refute it at one input. -/
def repsMadeWrong : ChangeSpec := { name := "repsMade", fn := fun _ => fun
  | [d1, d2, d3] => { results := [.lit (.bool false)], args := [d1, d2, d3] }
  | _ => none }
def RepsMadeWrongFalsely : Prop := repsMadeRow.holds Tryz.pinned (OpenSpec.ofChange repsMadeWrong)

/-- 'hecklelaw18.RepsScan': WHATEVER THE INPUT: true; the input reads as it did. -/
def repsScanSpec : ChangeSpec := { name := "repsScan", fn := fun _ => fun
  | [d1, d2, d3, d4] => { results := [.lit (.bool true)], args := [d1, d2, d3, d4] }
  | _ => none }
def repsScanRow : OpenClaim := { program := "ytdjaimobmmgobaagreat", sum := "b559993fea8e23d8e52cf1633aaf00c4e82751407504adbfa92cd2bd06ee2056", func := "heckle/hecklelaw18.RepsScan", spec := "repsScan", unfollowed := true, recurses := true, plainKeys := false, apart := false }
def RepsScanSaid : Prop := repsScanRow.holds Tryz.pinned (OpenSpec.ofChange repsScanSpec)

/-- ITS FALSE NEIGHBOUR: 'it returns false'. Refute it at one input. -/
def repsScanWrong : ChangeSpec := { name := "repsScan", fn := fun _ => fun
  | [d1, d2, d3, d4] => { results := [.lit (.bool false)], args := [d1, d2, d3, d4] }
  | _ => none }
def RepsScanWrongFalsely : Prop := repsScanRow.holds Tryz.pinned (OpenSpec.ofChange repsScanWrong)

/-- 'hecklelaw18.RepsLine': WHATEVER THE INPUT: true; the input reads as it did. -/
def repsLineSpec : ChangeSpec := { name := "repsLine", fn := fun _ => fun
  | [d1, d2] => { results := [.lit (.bool true)], args := [d1, d2] }
  | _ => none }
def repsLineRow : OpenClaim := { program := "ytdjaimobmmgobaagreat", sum := "b559993fea8e23d8e52cf1633aaf00c4e82751407504adbfa92cd2bd06ee2056", func := "heckle/hecklelaw18.RepsLine", spec := "repsLine", unfollowed := true, recurses := true, plainKeys := false, apart := false }
def RepsLineSaid : Prop := repsLineRow.holds Tryz.pinned (OpenSpec.ofChange repsLineSpec)

/-- ITS FALSE NEIGHBOUR: 'it returns false'. Refute it at one input. -/
def repsLineWrong : ChangeSpec := { name := "repsLine", fn := fun _ => fun
  | [d1, d2] => { results := [.lit (.bool false)], args := [d1, d2] }
  | _ => none }
def RepsLineWrongFalsely : Prop := repsLineRow.holds Tryz.pinned (OpenSpec.ofChange repsLineWrong)

/- THE SECOND FORM. 'bulk': how many values and letters a reading holds, each counted each time it is reached (what is shared counts as often as it is met; a slice's spare places count too). A statement '..UptoSaid' is the law's where the arguments, and the package variables that the reading takes, are together of bulk at most 1048576: NARROWER than '..Said'. Prove '..Said' where nothing that the law and all that it calls make is longer than what came in: it says more and counts as full. Else prove '..UptoSaid'. A law counts once. -/
mutual
def uptoBulk {H : Type} : DataW H → Nat
  | .lit (.string bytes) => bytes.length + 1
  | .lit _ => 1
  | .nil => 1
  | .ptr d => uptoBulk d + 1
  | .slice elems spare => uptoBulkAll elems + uptoBulkAll spare + 1
  | .agg parts => uptoBulkAll parts + 1
  | .iface _ d => uptoBulk d + 1
  | .map entries => uptoBulkEntries entries + 1
  | .held _ => 1
def uptoBulkAll {H : Type} : List (DataW H) → Nat
  | [] => 0
  | d :: r => uptoBulk d + uptoBulkAll r
def uptoBulkEntries {H : Type} : List (Lit × DataW H) → Nat
  | [] => 0
  | x :: r => uptoBulkEntry x + uptoBulkEntries r
def uptoBulkEntry {H : Type} : Lit × DataW H → Nat
  | (.string bytes, d) => bytes.length + uptoBulk d + 1
  | (_, d) => uptoBulk d + 1
 end
def uptoSmall : (H : Type) → List (DataW H) → Bool := fun _ ds => decide (uptoBulkAll ds ≤ 1048576)
def OpenSpec.upto (s : _root_.Go.ChangeSpec) : _root_.Go.OpenSpec := { _root_.Go.OpenSpec.ofChange s with cond := some uptoSmall }

/-- 'hecklelaw17.ScanMade', WHERE WHAT IT READS IS OF BULK AT MOST 1048576: true; the input reads as it did. -/
def scanMadeUptoRow : OpenClaim := { program := "ytdjaimobmmgobaagreat", sum := "b559993fea8e23d8e52cf1633aaf00c4e82751407504adbfa92cd2bd06ee2056", func := "heckle/hecklelaw17.ScanMade", spec := "scanMade", unfollowed := true, recurses := true, plainKeys := false, apart := false, narrowed := true }
def ScanMadeUptoSaid : Prop := scanMadeUptoRow.holds Tryz.pinned (OpenSpec.upto scanMadeSpec)

/-- 'hecklelaw17.ScanOdd', WHERE WHAT IT READS IS OF BULK AT MOST 1048576: true; the input reads as it did. -/
def scanOddUptoRow : OpenClaim := { program := "ytdjaimobmmgobaagreat", sum := "b559993fea8e23d8e52cf1633aaf00c4e82751407504adbfa92cd2bd06ee2056", func := "heckle/hecklelaw17.ScanOdd", spec := "scanOdd", unfollowed := true, recurses := true, plainKeys := false, apart := false, narrowed := true }
def ScanOddUptoSaid : Prop := scanOddUptoRow.holds Tryz.pinned (OpenSpec.upto scanOddSpec)

/-- 'hecklelaw17.ScanWhole', WHERE WHAT IT READS IS OF BULK AT MOST 1048576: true; the input reads as it did. -/
def scanWholeUptoRow : OpenClaim := { program := "ytdjaimobmmgobaagreat", sum := "b559993fea8e23d8e52cf1633aaf00c4e82751407504adbfa92cd2bd06ee2056", func := "heckle/hecklelaw17.ScanWhole", spec := "scanWhole", unfollowed := true, recurses := true, plainKeys := false, apart := false, narrowed := true }
def ScanWholeUptoSaid : Prop := scanWholeUptoRow.holds Tryz.pinned (OpenSpec.upto scanWholeSpec)

/-- 'hecklelaw18.RepsMade', WHERE WHAT IT READS IS OF BULK AT MOST 1048576: true; the input reads as it did. -/
def repsMadeUptoRow : OpenClaim := { program := "ytdjaimobmmgobaagreat", sum := "b559993fea8e23d8e52cf1633aaf00c4e82751407504adbfa92cd2bd06ee2056", func := "heckle/hecklelaw18.RepsMade", spec := "repsMade", unfollowed := true, recurses := true, plainKeys := false, apart := false, narrowed := true }
def RepsMadeUptoSaid : Prop := repsMadeUptoRow.holds Tryz.pinned (OpenSpec.upto repsMadeSpec)

/-- 'hecklelaw18.RepsScan', WHERE WHAT IT READS IS OF BULK AT MOST 1048576: true; the input reads as it did. -/
def repsScanUptoRow : OpenClaim := { program := "ytdjaimobmmgobaagreat", sum := "b559993fea8e23d8e52cf1633aaf00c4e82751407504adbfa92cd2bd06ee2056", func := "heckle/hecklelaw18.RepsScan", spec := "repsScan", unfollowed := true, recurses := true, plainKeys := false, apart := false, narrowed := true }
def RepsScanUptoSaid : Prop := repsScanUptoRow.holds Tryz.pinned (OpenSpec.upto repsScanSpec)

/-- 'hecklelaw18.RepsLine', WHERE WHAT IT READS IS OF BULK AT MOST 1048576: true; the input reads as it did. -/
def repsLineUptoRow : OpenClaim := { program := "ytdjaimobmmgobaagreat", sum := "b559993fea8e23d8e52cf1633aaf00c4e82751407504adbfa92cd2bd06ee2056", func := "heckle/hecklelaw18.RepsLine", spec := "repsLine", unfollowed := true, recurses := true, plainKeys := false, apart := false, narrowed := true }
def RepsLineUptoSaid : Prop := repsLineUptoRow.holds Tryz.pinned (OpenSpec.upto repsLineSpec)

end Rows
end Go.Proofs.YtdjaimobmmgobaaGreat
