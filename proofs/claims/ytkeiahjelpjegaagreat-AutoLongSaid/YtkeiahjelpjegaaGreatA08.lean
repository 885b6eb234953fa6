import Derived.Test.YtkeiahjelpjegaaGreatA07
set_option linter.unusedSimpArgs false
set_option linter.unusedVariables false
namespace Go.Ev.Pl
open Go Go.Ev Go.Proofs
set_option maxRecDepth 8000
theorem of_b:CallE Tryz.prog 59 [vi 98,vi 98] [] (.agg [vI .u64 0,vI .u64 17179869184,vI .u64 0,vI .u64 0]) []:=zg9 (mks:=mkT mkTab) zh0 zhL 2000 3 59 [vi 98,vi 98] [] _ [] (by kernel_rfl)
end Go.Ev.Pl
