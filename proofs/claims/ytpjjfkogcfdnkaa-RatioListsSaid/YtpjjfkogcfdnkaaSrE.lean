/- The elements: floats. -/
import Derived.Test.YtpjjfkogcfdnkaaRows
import Derived.WalkKit
namespace Go.Proofs.Ytpjjfkogcfdnkaa
set_option maxRecDepth 100000
set_option linter.unusedVariables false
set_option linter.unusedSimpArgs false
/-- A float: its bits. -/
abbrev El := { x : Nat // x < 18446744073709551616 }
@[go_sem] theorem run_store_float (P : Program) (w : World) (a : Addr) (m : Mode) (k : FloatKind) (n : Nat) : (store a (.float k n) m).run P w = stored P w a (.float k n) m := run_store P w a _ m rfl
def enc (x : El) : Value := .float .f64 x.1
end Go.Proofs.Ytpjjfkogcfdnkaa
