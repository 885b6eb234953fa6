import Derived.Test.YtkeiahjelpjegaaGreatA05
set_option linter.unusedSimpArgs false
set_option linter.unusedVariables false
namespace Go.Ev.Pl
open Go Go.Ev Go.Proofs
set_option maxRecDepth 8000
theorem of_a:CallE Tryz.prog 59 [vi 97,vi 97] [] (.agg [vI .u64 0,vI .u64 8589934592,vI .u64 0,vI .u64 0]) []:=exF_ok (mks:=mkT mkTab) cfx_ok noK_ok 2000 3 59 [vi 97,vi 97] [] _ [] (by kernel_rfl)
end Go.Ev.Pl
