import Derived.Test.YtdjaimobmmgobaaGreatA07
set_option linter.unusedSimpArgs false
set_option linter.unusedVariables false
namespace Go.Ev.Pl
open Go Go.Ev Go.Proofs
set_option maxRecDepth 8000
def starV:AV:=.agg [.f (.sl [.agg [.pv (.string ⟨#[73,78,73,84,73,65,76]⟩),.pv (.bool false)]]),.f (.pv (.bool true)),.f (.sl [.agg [.sl [],.pv (.bool false),.pv (.bool false),.pv (.int .i64 5),.pv (.int .u64 0),.pv (.int .u64 0),.pv (.int .u64 0),.pv (.int .u64 0),.pv (.int .i64 0),.pv (.int .i64 (-1)),.sl [.agg [.pv (.int .i64 2),.pv (.int .u64 0),.pv (.int .u64 8589934592),.pv (.int .u64 0),.pv (.int .u64 0),.pv (.int .i64 0),.pv (.int .i64 0),.sl []]],.pv (.int .i64 0),.pv (.int .u64 0),.pv (.int .u64 0),.pv (.int .u64 0),.pv (.int .u64 0),.pv (.int .i64 0),.pv (.int .i64 0),.sl [],.pv (.bool false),.pv (.int .i64 1),.pv (.int .i64 0)]])]
end Go.Ev.Pl
