/-
  NARROWER THAN 'FOR EVERY INPUT', by the rows' own cells (each row's printed sentence says how): PlaceAny: loops.
  DERIVED. THE GIVEN ROWS OF THIS SEAT. 5 by the template 'for every input the law returns true; each argument reads behind the call as it read before'; 0 by the template 'total and deterministic' (their statements: YtcenhboabgcjcaaTotals.lean).
  GIVEN WITH THE SEED: the statements are not yours to turn. If you find one false, say at which input.
  Laid BY PROGRAM, IN A SANDBOX (cutbox-rows.mjs): the forced cells as the released guide's own fill.sh prints them over the translation 2f44f77d8867dcad… (all of the seat's roots in one cut). By AI agents, Wed Nov 11 2026. No macro, syntax, notation, axiom, sorry.
-/
import Derived.Test.YtcenhboabgcjcaaChecked
import GoSem.Claim
import GoSem.ClaimJoined
import GoSem.ClaimMapViews
import Derived.JoinedTies
import Derived.KernelRfl
namespace Go.Proofs.Ytcenhboabgcjcaa
/- THE CELL 'sum', in the pinned program and in every row, IS THE sha256 OF THE DUMP (.gsa) THAT YtcenhboabgcjcaaProg.lean LOADS. Nothing in Lean hashes anything: it is a label: what it is worth is what the hold of that sum in a sandbox is worth. -/
noncomputable def Try.pinned : Pinned := { name := "ytcenhboabgcjcaa", sum := "2f44f77d8867dcadd3c2ea5807f71577de9cbc9174ca6f63f37a4265f62ed251", checked := Try.checked }
namespace Rows
def none {H : Type} : Left H := { results := [], args := [] }

/-- 'hecklelaw09.PlaceAny': WHATEVER THE INPUT: true; the input reads as it did. -/
def placeAnySpec : ChangeSpec := { name := "placeAny", fn := fun _ => fun
  | [d] => { results := [.lit (.bool true)], args := [d] }
  | _ => none }
def placeAnyRow : OpenClaim := { program := "ytcenhboabgcjcaa", sum := "2f44f77d8867dcadd3c2ea5807f71577de9cbc9174ca6f63f37a4265f62ed251", func := "heckle/hecklelaw09.PlaceAny", spec := "placeAny", unfollowed := true, recurses := true, loops := true, apart := false }
def PlaceAnySaid : Prop := placeAnyRow.holds Try.pinned (OpenSpec.ofChange placeAnySpec)

/-- ITS FALSE NEIGHBOUR: 'it returns false'. Refute it at one input. -/
def placeAnyWrong : ChangeSpec := { name := "placeAny", fn := fun _ => fun
  | [d] => { results := [.lit (.bool false)], args := [d] }
  | _ => none }
def PlaceAnyWrongFalsely : Prop := placeAnyRow.holds Try.pinned (OpenSpec.ofChange placeAnyWrong)

/-- 'hecklelaw09.PlaceMade': WHATEVER THE INPUT: true; the input reads as it did. -/
def placeMadeSpec : ChangeSpec := { name := "placeMade", fn := fun _ => fun
  | [d] => { results := [.lit (.bool true)], args := [d] }
  | _ => none }
def placeMadeRow : OpenClaim := { program := "ytcenhboabgcjcaa", sum := "2f44f77d8867dcadd3c2ea5807f71577de9cbc9174ca6f63f37a4265f62ed251", func := "heckle/hecklelaw09.PlaceMade", spec := "placeMade", unfollowed := true, recurses := true, apart := false }
def PlaceMadeSaid : Prop := placeMadeRow.holds Try.pinned (OpenSpec.ofChange placeMadeSpec)

/-- ITS FALSE NEIGHBOUR: 'it returns false'. Refute it at one input. -/
def placeMadeWrong : ChangeSpec := { name := "placeMade", fn := fun _ => fun
  | [d] => { results := [.lit (.bool false)], args := [d] }
  | _ => none }
def PlaceMadeWrongFalsely : Prop := placeMadeRow.holds Try.pinned (OpenSpec.ofChange placeMadeWrong)

/-- 'hecklelaw09.PlaceTimes': WHATEVER THE INPUT: true; the input reads as it did. -/
def placeTimesSpec : ChangeSpec := { name := "placeTimes", fn := fun _ => fun
  | [d1, d2, d3, d4] => { results := [.lit (.bool true)], args := [d1, d2, d3, d4] }
  | _ => none }
def placeTimesRow : OpenClaim := { program := "ytcenhboabgcjcaa", sum := "2f44f77d8867dcadd3c2ea5807f71577de9cbc9174ca6f63f37a4265f62ed251", func := "heckle/hecklelaw09.PlaceTimes", spec := "placeTimes", unfollowed := true, recurses := true, apart := false }
def PlaceTimesSaid : Prop := placeTimesRow.holds Try.pinned (OpenSpec.ofChange placeTimesSpec)

/-- ITS FALSE NEIGHBOUR: 'it returns false'. Refute it at one input. -/
def placeTimesWrong : ChangeSpec := { name := "placeTimes", fn := fun _ => fun
  | [d1, d2, d3, d4] => { results := [.lit (.bool false)], args := [d1, d2, d3, d4] }
  | _ => none }
def PlaceTimesWrongFalsely : Prop := placeTimesRow.holds Try.pinned (OpenSpec.ofChange placeTimesWrong)

/-- 'hecklelaw09.PlaceSize': WHATEVER THE INPUT: true; the input reads as it did. -/
def placeSizeSpec : ChangeSpec := { name := "placeSize", fn := fun _ => fun
  | [d] => { results := [.lit (.bool true)], args := [d] }
  | _ => none }
def placeSizeRow : OpenClaim := { program := "ytcenhboabgcjcaa", sum := "2f44f77d8867dcadd3c2ea5807f71577de9cbc9174ca6f63f37a4265f62ed251", func := "heckle/hecklelaw09.PlaceSize", spec := "placeSize", unfollowed := true, recurses := true, apart := false }
def PlaceSizeSaid : Prop := placeSizeRow.holds Try.pinned (OpenSpec.ofChange placeSizeSpec)

/-- ITS FALSE NEIGHBOUR: 'it returns false'. Refute it at one input. -/
def placeSizeWrong : ChangeSpec := { name := "placeSize", fn := fun _ => fun
  | [d] => { results := [.lit (.bool false)], args := [d] }
  | _ => none }
def PlaceSizeWrongFalsely : Prop := placeSizeRow.holds Try.pinned (OpenSpec.ofChange placeSizeWrong)

/-- 'hecklelaw09.PlaceMatch': WHATEVER THE INPUT: true; the input reads as it did. -/
def placeMatchSpec : ChangeSpec := { name := "placeMatch", fn := fun _ => fun
  | [d1, d2] => { results := [.lit (.bool true)], args := [d1, d2] }
  | _ => none }
def placeMatchRow : OpenClaim := { program := "ytcenhboabgcjcaa", sum := "2f44f77d8867dcadd3c2ea5807f71577de9cbc9174ca6f63f37a4265f62ed251", func := "heckle/hecklelaw09.PlaceMatch", spec := "placeMatch", unfollowed := true, recurses := true, apart := false }
def PlaceMatchSaid : Prop := placeMatchRow.holds Try.pinned (OpenSpec.ofChange placeMatchSpec)

/-- ITS FALSE NEIGHBOUR: 'it returns false'. Refute it at one input. -/
def placeMatchWrong : ChangeSpec := { name := "placeMatch", fn := fun _ => fun
  | [d1, d2] => { results := [.lit (.bool false)], args := [d1, d2] }
  | _ => none }
def PlaceMatchWrongFalsely : Prop := placeMatchRow.holds Try.pinned (OpenSpec.ofChange placeMatchWrong)

/- THE SECOND FORM. 'bulk': how many values and letters a reading holds, each counted each time it is reached (what is shared counts as often as it is met; a slice's spare places count too). A statement '..UptoSaid' is the law's where the arguments, and the package variables that the reading takes, are together of bulk at most 1048576: NARROWER than '..Said'. Prove '..Said' where nothing that the law and all that it calls make is longer than what came in: it says more and counts as full. Else prove '..UptoSaid'. A law counts once. -/
mutual
def uptoBulk {H : Type} : DataW H → Nat
  | .lit (.string bytes) => bytes.length + 1
  | .lit _ => 1
  | .nil => 1
  | .ptr d => uptoBulk d + 1
  | .slice elems spare => uptoBulkAll elems + uptoBulkAll spare + 1
  | .agg parts => uptoBulkAll parts + 1
  | .iface _ d => uptoBulk d + 1
  | .map entries => uptoBulkEntries entries + 1
  | .held _ => 1
def uptoBulkAll {H : Type} : List (DataW H) → Nat
  | [] => 0
  | d :: r => uptoBulk d + uptoBulkAll r
def uptoBulkEntries {H : Type} : List (Lit × DataW H) → Nat
  | [] => 0
  | x :: r => uptoBulkEntry x + uptoBulkEntries r
def uptoBulkEntry {H : Type} : Lit × DataW H → Nat
  | (.string bytes, d) => bytes.length + uptoBulk d + 1
  | (_, d) => uptoBulk d + 1
 end
def uptoSmall : (H : Type) → List (DataW H) → Bool := fun _ ds => decide (uptoBulkAll ds ≤ 1048576)
def OpenSpec.upto (s : _root_.Go.ChangeSpec) : _root_.Go.OpenSpec := { _root_.Go.OpenSpec.ofChange s with cond := some uptoSmall }

/-- 'hecklelaw09.PlaceAny', WHERE WHAT IT READS IS OF BULK AT MOST 1048576: true; the input reads as it did. -/
def placeAnyUptoRow : OpenClaim := { program := "ytcenhboabgcjcaa", sum := "2f44f77d8867dcadd3c2ea5807f71577de9cbc9174ca6f63f37a4265f62ed251", func := "heckle/hecklelaw09.PlaceAny", spec := "placeAny", unfollowed := true, recurses := true, loops := true, apart := false, narrowed := true }
def PlaceAnyUptoSaid : Prop := placeAnyUptoRow.holds Try.pinned (OpenSpec.upto placeAnySpec)

/-- 'hecklelaw09.PlaceMade', WHERE WHAT IT READS IS OF BULK AT MOST 1048576: true; the input reads as it did. -/
def placeMadeUptoRow : OpenClaim := { program := "ytcenhboabgcjcaa", sum := "2f44f77d8867dcadd3c2ea5807f71577de9cbc9174ca6f63f37a4265f62ed251", func := "heckle/hecklelaw09.PlaceMade", spec := "placeMade", unfollowed := true, recurses := true, apart := false, narrowed := true }
def PlaceMadeUptoSaid : Prop := placeMadeUptoRow.holds Try.pinned (OpenSpec.upto placeMadeSpec)

/-- 'hecklelaw09.PlaceTimes', WHERE WHAT IT READS IS OF BULK AT MOST 1048576: true; the input reads as it did. -/
def placeTimesUptoRow : OpenClaim := { program := "ytcenhboabgcjcaa", sum := "2f44f77d8867dcadd3c2ea5807f71577de9cbc9174ca6f63f37a4265f62ed251", func := "heckle/hecklelaw09.PlaceTimes", spec := "placeTimes", unfollowed := true, recurses := true, apart := false, narrowed := true }
def PlaceTimesUptoSaid : Prop := placeTimesUptoRow.holds Try.pinned (OpenSpec.upto placeTimesSpec)

/-- 'hecklelaw09.PlaceSize', WHERE WHAT IT READS IS OF BULK AT MOST 1048576: true; the input reads as it did. -/
def placeSizeUptoRow : OpenClaim := { program := "ytcenhboabgcjcaa", sum := "2f44f77d8867dcadd3c2ea5807f71577de9cbc9174ca6f63f37a4265f62ed251", func := "heckle/hecklelaw09.PlaceSize", spec := "placeSize", unfollowed := true, recurses := true, apart := false, narrowed := true }
def PlaceSizeUptoSaid : Prop := placeSizeUptoRow.holds Try.pinned (OpenSpec.upto placeSizeSpec)

/-- 'hecklelaw09.PlaceMatch', WHERE WHAT IT READS IS OF BULK AT MOST 1048576: true; the input reads as it did. -/
def placeMatchUptoRow : OpenClaim := { program := "ytcenhboabgcjcaa", sum := "2f44f77d8867dcadd3c2ea5807f71577de9cbc9174ca6f63f37a4265f62ed251", func := "heckle/hecklelaw09.PlaceMatch", spec := "placeMatch", unfollowed := true, recurses := true, apart := false, narrowed := true }
def PlaceMatchUptoSaid : Prop := placeMatchUptoRow.holds Try.pinned (OpenSpec.upto placeMatchSpec)

end Rows
end Go.Proofs.Ytcenhboabgcjcaa
