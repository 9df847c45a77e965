/- The page's header: Ref, Told, Encode. -/
import Derived.Test.YtjkmgakgjoojfaaDoorLocA
import Derived.Test.YtjkmgakgjoojfaaDoorLocP
import Derived.Deep.QuietTactic
import Derived.BigQuiet
namespace Go.Proofs.YtjkmgakgjoojfaaDoor
set_option maxRecDepth 100000
set_option linter.unusedVariables false
set_option linter.unusedSimpArgs false
open Go.RowKit
set_option maxHeartbeats 1000000 in
theorem ref_any (nm : ByteArray) (y mo da ho mi se me cr pk sz : Int) (gw gl : Bool) (w : World) : Calls Tryd.prog 7 #[.agg #[.string nm, .int .i64 y, .int .i64 mo, .int .i64 da, .int .i64 ho, .int .i64 mi, .int .i64 se, .int .i64 me, .int .u32 cr, .int .i64 pk, .int .i64 sz, .bool gw, .bool gl]] w (CQ (.agg #[.string nm, .int .i64 y, .int .i64 mo, .int .i64 da, .int .i64 ho, .int .i64 mi, .int .i64 se, .int .i64 me, .int .u32 cr, .int .i64 pk, .int .i64 sz, .bool gw, .bool gl]) w) := by
  have HB := Lib.hid (fun o o2 => ((Below.refl w.heap.size w).alloc (Nat.le_refl _) o).alloc (by simp) o2)
  go_enter Tryd.func7, Tryd.ntmps7
  go_wp2_with (fail)
  exact bodyPost_ret (v := .agg #[.string nm, .int .i64 y, .int .i64 mo, .int .i64 da, .int .i64 ho, .int .i64 mi, .int .i64 se, .int .i64 me, .int .u32 cr, .int .i64 pk, .int .i64 sz, .bool gw, .bool gl]) (by simp [results, Tryd.results7, go_sem]) rfl ⟨rfl, HB.out _ _⟩
end Go.Proofs.YtjkmgakgjoojfaaDoor
