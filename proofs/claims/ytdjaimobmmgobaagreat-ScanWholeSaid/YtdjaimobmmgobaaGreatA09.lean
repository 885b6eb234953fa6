import Derived.Test.YtdjaimobmmgobaaGreatA08
set_option linter.unusedSimpArgs false
set_option linter.unusedVariables false
namespace Go.Ev.Pl
open Go Go.Ev Go.Proofs
set_option maxRecDepth 100000
def aS:zbT:={ Sets:=[st97],Owner:=[0],Follow:=[[0]],Ends:=[true],Starts:=[[0],[0]] }
def KS:Kw:=addK (addK (addK noK 68 [vL zm [st97]] (.tup [vL za mS,vi 2])) 69 [vL za mS,vi 2] (oL 3 za [0,97])) 102 [vL za mS] (oL 3 za [0,1])
theorem KS_ok:KwOk Tryz.prog KS:=addK_ok (addK_ok (addK_ok zjW splS_ok) leastS_ok) usedS_ok
theorem makeS_ok:zdM aS dS 0:=zjd (mks:=mkT mkTab) zkb KS_ok 1000 40 46 [zcJ aS] [] (.tup [zar dS,vi 0]) [] (by kernel_rfl)
theorem groupsS_ok:zbY dS [0,1]:=zjd (mks:=mkT mkTab) zkb KS_ok 1000 40 73 [zar dS] [] (vL za [0,1]) [] (by kernel_rfl)
theorem smallS_ok:zbB dS dS 0:=by
 have:=small12_ok dS_db groupsS_ok rfl (by decide)
 rwa [small_star] at this
end Go.Ev.Pl
