/- Contract of the page's Put of layer 27: numbers as bytes. -/
import Derived.Test.YtcpojpgdjjmfbaaDoorOb
namespace Go.Proofs.YtcpojpgdjjmfbaaDoor
set_option linter.unusedVariables false
set_option linter.unusedSimpArgs false
set_option maxRecDepth 100000
open Go.RowKit
set_option maxHeartbeats 1000000 in
theorem put27_any {w : World} {v : Value} {l : List Int} (n : Nat) (hn : n ≤ 8) (h : SU .u64 w v l) (hm : l.length ≤ 1000) (hx : ∀ x ∈ l, 0 ≤ x ∧ x < 18446744073709551616) :
    Calls Tryd.prog 32 #[.int .i64 (n : Nat), v] w fun e w' => ∃ v', e = .returned v' ∧ OB w.heap.size w' v' (bys n l) ∧ Below w.heap.size w w' := by
  obtain ⟨b, off, cap, rfl, hb, hc⟩ := h
  have HC := Lib.hid hc
  have HX := Lib.hid hx
  clear hc hx
  go_enter Tryd.func32, Tryd.ntmps32
  go_wp2
  go_loopw [5, 6] (fun o i wr => ∃ j : Nat, j ≤ l.length ∧ i = .int .i64 j ∧ Hid (OB w.heap.size wr o (bys n (l.take j))) ∧ Hid (Below w.heap.size w wr)) (fun _ i _ => l.length - (intOf i).toNat)
  case atStart => exact ⟨0, Nat.zero_le _, rfl, Lib.hid (OB.nil _ _), Lib.hid (Below.refl _ _)⟩
  case round =>
    obtain ⟨j, hj, rfl, HO, HB⟩ := hrel
    by_cases hlt : j < l.length
    · have hk : wr.cell? ⟨b, off + j, none⟩ = _ := (HB.out.cell (p := ⟨b, off + j, none⟩) hb).trans (HC.out j hlt)
      have hz := HB.out.size
      have hmem : l.getD j 0 ∈ l := by rw [List.getD_eq_getElem?_getD, List.getElem?_eq_getElem hlt]; exact List.getElem_mem hlt
      have hxx := HX.out _ hmem
      clear hmem
      have HS := Lib.hid (bys_snoc n l j hlt)
      have hlen := bys_length n (l.take j)
      have hlt2 : (l.take j).length ≤ 1000 := by rw [List.length_take]; omega
      have hle : (bys n (l.take j)).length ≤ 8000 := by rw [hlen]; exact Nat.le_trans (Nat.mul_le_mul hn hlt2) (by decide)
      clear hlen hlt2
      generalize l.getD j 0 = x at *
      obtain ⟨y, rfl⟩ : ∃ y : Nat, x = y := ⟨x.toNat, by omega⟩
      have HRB := Lib.hid (fun W => refBytes_any y n W hn (by omega))
      clear hxx
      go_wp2_with fail
      refine (HRB.out _).mono ?_
      rintro e w1 ⟨u, rfl, ho, hb1⟩
      have hs1 := hb1.size
      have HO1 := Lib.hid (HO.out.below hb1)
      have HU : Hid (Byt w1 w1.heap.size u (byt n y)) := Byt.of_own (by rw [byt_length]; exact ho)
      have HB1 := Lib.hid (HB.out.trans (hb1.mono (by omega)))
      clear hb1 ho hk
      go_wp2_with (at_builtin; refine append_OB rfl _ _ rfl rfl HO1.out rfl HU.out (by rw [byt_length]; omega) (by omega) ?_)
      intro v2 w2 ho2 hb2
      have HO2 := Lib.hid ho2
      have HB2 := Lib.hid (HB1.out.trans hb2)
      clear ho2 hb2
      go_wp2
      go_roundw
      case rel => exact ⟨j + 1, by omega, by go_num, Lib.hid (by rw [HS.out]; simpa using HO2.out), HB2⟩
      case measure => simp [intOf]; omega
    · obtain rfl : j = l.length := by omega
      go_wp2
      go_ret
      refine ⟨_, rfl, ?_, HB.out⟩
      have := HO.out
      rw [List.take_length] at this
      exact this
end Go.Proofs.YtcpojpgdjjmfbaaDoor
