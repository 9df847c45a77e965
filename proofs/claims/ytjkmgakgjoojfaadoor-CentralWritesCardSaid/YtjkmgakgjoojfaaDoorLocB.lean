/- local.Header.Encode: a header that may be. -/
import Derived.Test.YtjkmgakgjoojfaaDoorLocA
import Derived.Test.YtjkmgakgjoojfaaDoorLocP
import Derived.Deep.QuietTactic
import Derived.BigQuiet
namespace Go.Proofs.YtjkmgakgjoojfaaDoor
set_option maxRecDepth 100000
set_option linter.unusedVariables false
set_option linter.unusedSimpArgs false
open Go.RowKit
end Go.Proofs.YtjkmgakgjoojfaaDoor
