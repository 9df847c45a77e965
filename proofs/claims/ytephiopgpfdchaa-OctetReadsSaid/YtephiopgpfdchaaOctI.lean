/- The page's example; the law OctetNumbers up to its regions. -/
import Derived.Test.YtephiopgpfdchaaOctH
import Derived.BigQuiet
namespace Go.Proofs.Ytephiopgpfdchaa
open Go.RowKit
theorem Byt.reg {w W : World} {B : Nat} {v : Value} {l : List UInt8} (h : Byt w B v l) (hB : B ≤ w.heap.size) (hr : Below w.drew.heap.size w.drew W) : Byt W W.heap.size v l := by
  have hb : Below B w W := ⟨hr.os, hr.tape, hr.output, hr.size, fun k hk => hr.block k (by show k < w.heap.size; omega)⟩
  exact (h.below hb).mono (Nat.le_trans hB hr.size)
theorem drew_reg {w W : World} {B : Nat} (hr : Below w.drew.heap.size w.drew W) (hB : B ≤ w.heap.size) : Below B w W :=
  ⟨hr.os, hr.tape, hr.output, hr.size, fun k hk => hr.block k (by show k < w.heap.size; omega)⟩
set_option maxHeartbeats 400000 in
theorem awake_any (w : World) : Calls Try.prog 6 #[] w fun e w' => e = .returned (.bool true) ∧ Below w.heap.size w w' := by
  have HA := Lib.hid (append_yes (B := 0) none 0 [] 2 4660 w (.inl ⟨none, 0, rfl, rfl, fun _ => rfl⟩) (Nat.zero_le _) (by decide) (by decide) (by decide) (by decide))
  go_enter Try.func6, Try.ntmps6
  go_wp2_with fail
  refine HA.out.mono ?_
  rintro e w1 ⟨v', rfl, ho, hb⟩
  have hcv := convert_byt (src := 22) (dst := 9) (e := 5) rfl rfl rfl (Byt.of_own ho)
  rw [show str ([] ++ byt 2 4660) = ⟨#[52, 18]⟩ from by decide] at hcv
  have HB := Lib.hid hb
  clear ho hb
  go_wp2
  go_ret
  exact ⟨rfl, HB.out⟩
end Go.Proofs.Ytephiopgpfdchaa
