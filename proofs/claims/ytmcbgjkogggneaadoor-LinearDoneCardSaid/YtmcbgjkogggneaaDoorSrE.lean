/- The elements: indexes. -/
import Derived.Test.YtmcbgjkogggneaaDoorRows
import Derived.WalkKit
namespace Go.Proofs.YtmcbgjkogggneaaDoor
set_option maxRecDepth 100000
set_option linter.unusedVariables false
set_option linter.unusedSimpArgs false
abbrev El := Nat
def enc (x : El) : Value := .int .i64 (x : Int)
end Go.Proofs.YtmcbgjkogggneaaDoor
