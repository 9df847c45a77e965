/- The page's example (awake). -/
import Derived.Test.YtfnaoekkdgndkaaCpR
import Derived.Test.YtfnaoekkdgndkaaCpQ
namespace Go.Proofs.Ytfnaoekkdgndkaa
set_option maxRecDepth 100000
set_option linter.unusedVariables false
set_option linter.unusedSimpArgs false
open Go.RowKit
def exL : Nat → List Sp := fun _ => [(4, 2)]
theorem exL_wf : WF exL 1 := ⟨fun o _ s hs => by rw [List.mem_singleton.1 hs]; decide, by decide⟩
theorem exL_mv : (PL exL 1 (sumL exL 1)).mv = [⟨4, 0, 2⟩] := rfl
theorem exL_now : joinL ((PL exL 1 (sumL exL 1)).ls 0) = [] ++ [(0, 2)] := rfl
set_option maxHeartbeats 8000000 in
theorem awake_any (w : World) : Calls Try.prog 6 #[] w fun e w' => e = .returned (.bool true) ∧ Below w.heap.size w w' := by
  obtain ⟨wa, hwa⟩ : ∃ z : World, z = w.alloc (.cells #[.int .i64 4, .int .i64 2] 57) := ⟨_, rfl⟩
  have hba : Below w.heap.size w wa := by rw [hwa]; exact (Below.refl _ _).alloc (Nat.le_refl _) _
  have hsl : Sl wa wa.heap.size 2 (.slice (some ⟨w.heap.size, 0, none⟩) 1 1) 1 (lc spC [(4, 2)]) := by
    have h1 := Sl.new w 2 1 [.int .i64 4, .int .i64 2] 57 rfl
    rw [hwa]
    exact h1.mono (by simp)
  have HOF := Lib.hid (of_any [(4, 2)] (.slice (some ⟨w.heap.size, 0, none⟩) 1 1) wa hsl (by decide) (fun s hs => by rw [List.mem_singleton.1 hs]; decide))
  have HBA := Lib.hid hba
  have HWA := Lib.hid hwa
  clear hba hsl hwa
  go_enter Try.func6, Try.ntmps6
  go_wp2_with (fail)
  rw [← HWA.out]
  refine HOF.out.mono ?_
  rintro e w1 ⟨p, rfl, hc, hb1⟩
  obtain ⟨pb, pv, rfl, hpc⟩ := hc
  have hc : Chn wa.heap.size w1 (.pointer (some ⟨pb, 0, none⟩)) [(4, 2)] := ⟨pb, pv, rfl, hpc⟩
  obtain ⟨wb, hwb⟩ : ∃ z : World, z = w1.alloc (.cells #[.pointer (some ⟨pb, 0, none⟩)] 41) := ⟨_, rfl⟩
  have hbb : Below w1.heap.size w1 wb := by rw [hwb]; exact (Below.refl _ _).alloc (Nat.le_refl _) _
  have hch : ChsA wb (.slice (some ⟨w1.heap.size, 0, none⟩) 1 1) 1 exL := by
    refine ⟨fun _ => .pointer (some ⟨pb, 0, none⟩), ?_, fun i _ => (hc.mono (Nat.zero_le _)).below hbb⟩
    have h1 := Sl.new w1 1 1 [.pointer (some ⟨pb, 0, none⟩)] 41 rfl
    rw [hwb]
    exact h1.mono (by simp)
  have HPL := Lib.hid (plan_any 1 exL _ wb hch exL_wf (by decide) (by decide) (fun o _ s hs => by rw [List.mem_singleton.1 hs]; decide))
  have HBB := Lib.hid ((HBA.out.trans (hb1.mono HBA.out.size)).trans (hbb.mono (by have := HBA.out.size; have := hb1.size; omega)))
  have HWB := Lib.hid hwb
  clear hc hpc hb1 hbb hch hwb HOF
  go_wp2_with (fail)
  rw [← HWB.out]
  refine HPL.out.mono ?_
  rintro e w2 ⟨v1, v2, rfl, hs1, hs2, hb2⟩
  rw [exL_mv] at hs1
  obtain ⟨a1, c1, rfl, _⟩ := hs1.form
  obtain ⟨b1, o1, rfl, _⟩ := sl_cells hs1 (by decide)
  obtain ⟨k0, k1, k2⟩ := mv_cells hs1 (j := 0) (x := ⟨4, 0, 2⟩) rfl rfl
  obtain ⟨ps, hps, hpc⟩ := hs2
  obtain ⟨a2, c2, rfl, _⟩ := hps.form
  obtain ⟨b2, o2, rfl, _⟩ := sl_cells hps (by decide)
  have k3 := lists_at hps (o := 0) (by decide)
  have hp0 := hpc 0 (by decide)
  obtain ⟨pb2, pv2, hpe, _, hcb⟩ := hp0
  rw [hpe] at k3
  replace hcb : ChB w2 pb2 pv2 ([] ++ [(0, 2)]) := by rw [← exL_now]; exact hcb
  have HEN := Lib.hid (chEnd_any pb2 pv2 [] (0, 2) w2 hcb (by decide) (by decide))
  have HB2 := Lib.hid (HBB.out.trans (hb2.mono HBB.out.size))
  clear hs1 hps hpc hpe hcb hb2 HPL
  simp only [Nat.zero_mul, Nat.add_zero] at k0 k1 k2 k3
  go_wp2_with (fail)
  refine HEN.out.mono ?_
  rintro e w3 ⟨rfl, hb3⟩
  have HB3 := Lib.hid (HB2.out.trans (hb3.mono HB2.out.size))
  clear hb3
  go_wp2_with (fail)
  go_ret
  exact ⟨by rfl, HB3.out⟩
end Go.Proofs.Ytfnaoekkdgndkaa
