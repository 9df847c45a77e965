/- Contract of central.Parse. -/
import Derived.Test.YtjkmgakgjoojfaaDoorCenG
import Derived.Test.YtjkmgakgjoojfaaDoorTryC
import Derived.Test.YtjkmgakgjoojfaaDoorCenH
namespace Go.Proofs.YtjkmgakgjoojfaaDoor
set_option maxRecDepth 100000
set_option linter.unusedVariables false
set_option linter.unusedSimpArgs false
open Go.RowKit
theorem cf_cparse1 (cap : Array Value) (w : World) : (callFunc 29 cap).run Tryd.prog w = .ok (.enter 29 cap) w := by kernel_rfl
set_option maxHeartbeats 2000000 in
theorem cparse1_ret (br rb q : Nat) (m : List UInt8) (nm : ByteArray) (y mo da ho mi se me cr pk sz : Int) (gw gl : Bool) (pl : Int) (W : World) (hr : W.cell? ⟨br, 0, none⟩ = some (.pointer (some ⟨rb, 0, none⟩))) (hrb : rb < W.heap.size)
    (hcall : ∀ w : World, RD w rb m 0 → Amb w → Calls Tryd.prog 17 #[.pointer (some ⟨rb, 0, none⟩)] w fun e w' => e = .returned (.agg #[.string nm, .int .i64 y, .int .i64 mo, .int .i64 da, .int .i64 ho, .int .i64 mi, .int .i64 se, .int .i64 me, .int .u32 cr, .int .i64 pk, .int .i64 sz, .bool gw, .bool gl, .int .i64 pl]) ∧ RD w' rb m q ∧ Bx [rb] w.heap.size w w') (hd : RD W rb m 0) (hA : Amb W) :
    Calls Tryd.prog 29 #[.pointer (some ⟨br, 0, none⟩)] W fun e w' => e = .returned (.agg #[.string nm, .int .i64 y, .int .i64 mo, .int .i64 da, .int .i64 ho, .int .i64 mi, .int .i64 se, .int .i64 me, .int .u32 cr, .int .i64 pk, .int .i64 sz, .bool gw, .bool gl, .int .i64 pl]) ∧ RD w' rb m q ∧ Bx [rb] W.heap.size W w' := by
  have HC := Lib.hid hcall
  have HBA := Lib.hid ((Below.refl W.heap.size W).alloc (Nat.le_refl _) (.cells #[.string ByteArray.empty, .int .i64 0, .int .i64 0, .int .i64 0, .int .i64 0, .int .i64 0, .int .i64 0, .int .i64 0, .int .u32 0, .int .i64 0, .int .i64 0, .bool false, .bool false, .int .i64 0] 28))
  have HD := Lib.hid (hd.below HBA.out)
  have HA := Lib.hid (hA.below HBA.out)
  have HO := Lib.hid (Own.new_at W [.string ByteArray.empty, .int .i64 0, .int .i64 0, .int .i64 0, .int .i64 0, .int .i64 0, .int .i64 0, .int .i64 0, .int .u32 0, .int .i64 0, .int .i64 0, .bool false, .bool false, .int .i64 0] 28 W.heap.size rfl)
  have hbr : br < W.heap.size := World.block_lt_of_cell? W ⟨br, 0, none⟩ hr
  clear hcall hd hA
  go_enter Tryd.func29, Tryd.ntmps29
  go_wp2_with fail
  refine (HC.out _ HD.out HA.out).mono ?_
  rintro e w1 ⟨rfl, hd, hb⟩
  have hs := hb.size
  simp only [World.size_alloc] at hs
  have HD := Lib.hid hd
  have HO := Lib.hid (HO.out.bx hb (by simp) (by simp; omega))
  have HB := Lib.hid ((Bx.of_below HBA.out : Bx [rb] W.heap.size W _).trans (hb.mono (by simp)))
  clear hd hb
  have z0 := HO.out.1 0 _ rfl
  have z1 := HO.out.1 1 _ rfl
  have z2 := HO.out.1 2 _ rfl
  have z3 := HO.out.1 3 _ rfl
  have z4 := HO.out.1 4 _ rfl
  have z5 := HO.out.1 5 _ rfl
  have z6 := HO.out.1 6 _ rfl
  have z7 := HO.out.1 7 _ rfl
  have z8 := HO.out.1 8 _ rfl
  have z9 := HO.out.1 9 _ rfl
  have z10 := HO.out.1 10 _ rfl
  have z11 := HO.out.1 11 _ rfl
  have z12 := HO.out.1 12 _ rfl
  have z13 := HO.out.1 13 _ rfl
  have hf := HO.out.2
  go_wp2
  refine bodyPost_ret (v := .agg #[.string nm, .int .i64 y, .int .i64 mo, .int .i64 da, .int .i64 ho, .int .i64 mi, .int .i64 se, .int .i64 me, .int .u32 cr, .int .i64 pk, .int .i64 sz, .bool gw, .bool gl, .int .i64 pl]) (by simp [results, Tryd.results29, go_sem, z0, z1, z2, z3, z4, z5, z6, z7, z8, z9, z10, z11, z12, z13] <;> rfl) rfl ⟨rfl, ?_, ?_⟩
  · exact ((((((((((((((HD.out.set_other (b := W.heap.size) hrb 0 _).set_other (b := W.heap.size) hrb 1 _).set_other (b := W.heap.size) hrb 2 _).set_other (b := W.heap.size) hrb 3 _).set_other (b := W.heap.size) hrb 4 _).set_other (b := W.heap.size) hrb 5 _).set_other (b := W.heap.size) hrb 6 _).set_other (b := W.heap.size) hrb 7 _).set_other (b := W.heap.size) hrb 8 _).set_other (b := W.heap.size) hrb 9 _).set_other (b := W.heap.size) hrb 10 _).set_other (b := W.heap.size) hrb 11 _).set_other (b := W.heap.size) hrb 12 _).set_other (b := W.heap.size) hrb 13 _)
  · exact ((((((((((((((HB.out.setCell (.inr (by simp)) _).setCell (.inr (by simp)) _).setCell (.inr (by simp)) _).setCell (.inr (by simp)) _).setCell (.inr (by simp)) _).setCell (.inr (by simp)) _).setCell (.inr (by simp)) _).setCell (.inr (by simp)) _).setCell (.inr (by simp)) _).setCell (.inr (by simp)) _).setCell (.inr (by simp)) _).setCell (.inr (by simp)) _).setCell (.inr (by simp)) _).setCell (.inr (by simp)) _)
theorem cparse1_throw (br rb : Nat) (m : List UInt8) (W : World) (hr : W.cell? ⟨br, 0, none⟩ = some (.pointer (some ⟨rb, 0, none⟩)))
    (hcall : ∀ w : World, RD w rb m 0 → Amb w → Calls Tryd.prog 17 #[.pointer (some ⟨rb, 0, none⟩)] w fun e w' => ∃ c q, c ≠ 0 ∧ e = .panicked (fault c) ∧ RD w' rb m q ∧ Bx [rb] w.heap.size w w') (hd : RD W rb m 0) (hA : Amb W) :
    Calls Tryd.prog 29 #[.pointer (some ⟨br, 0, none⟩)] W fun e w' => ∃ c q, c ≠ 0 ∧ e = .panicked (fault c) ∧ RD w' rb m q ∧ Bx [rb] W.heap.size W w' := by
  have HC := Lib.hid hcall
  have HBA := Lib.hid ((Below.refl W.heap.size W).alloc (Nat.le_refl _) (.cells #[.string ByteArray.empty, .int .i64 0, .int .i64 0, .int .i64 0, .int .i64 0, .int .i64 0, .int .i64 0, .int .i64 0, .int .u32 0, .int .i64 0, .int .i64 0, .bool false, .bool false, .int .i64 0] 28))
  have HD := Lib.hid (hd.below HBA.out)
  have HA := Lib.hid (hA.below HBA.out)
  have hbr : br < W.heap.size := World.block_lt_of_cell? W ⟨br, 0, none⟩ hr
  clear hcall hd hA
  go_enter Tryd.func29, Tryd.ntmps29
  go_wp2_with fail
  refine (HC.out _ HD.out HA.out).mono ?_
  rintro e w1 ⟨c, q, hc, rfl, hd, hb⟩
  have HD := Lib.hid hd
  have HB := Lib.hid ((Bx.of_below HBA.out : Bx [rb] W.heap.size W _).trans (hb.mono (by simp)))
  clear hd hb
  go_wp2
  exact ⟨rfl, c, q, hc, rfl, HD.out, HB.out⟩
set_option maxHeartbeats 4000000 in
theorem cparse_failA (ad : Option Addr) (c : Nat) (l : List UInt8) (at_ : Nat) (w : World) (h : Byt w w.heap.size (.slice ad l.length c) l) (hl : l.length ≤ 100000) (hc : l.length ≤ c) (hA : Amb w) (hat : at_ ≤ l.length) (hmn : l.length ≤ at_ + 329) (hcall : ∀ (rb : Nat) (w : World), 3 ≤ rb → RD w rb ((l.drop at_).take 329) 0 → Amb w → Calls Tryd.prog 17 #[.pointer (some ⟨rb, 0, none⟩)] w fun e w' => ∃ c q, c ≠ 0 ∧ e = .panicked (fault c) ∧ RD w' rb ((l.drop at_).take 329) q ∧ Bx [rb] w.heap.size w w') :
    Calls Tryd.prog 12 #[.slice ad l.length c, .int .i64 (at_ : Nat)] w fun e w' => ∃ code : Int, code ≠ 0 ∧ e = .returned (.tuple #[.agg #[.string ByteArray.empty, .int .i64 0, .int .i64 0, .int .i64 0, .int .i64 0, .int .i64 0, .int .i64 0, .int .i64 0, .int .u32 0, .int .i64 0, .int .i64 0, .bool false, .bool false, .int .i64 0], .int .i64 0, .int .i64 code]) ∧ Below w.heap.size w w' := by
  have t0 : decide ((at_ : Int) < 0) = false := by simp
  have t1 : decide ((l.length : Int) < (at_ : Int)) = false := by simp; omega
  have hA3 := hA.1
  have HA := Lib.hid hA
  have qa1 : IntKind.i64.wrap ((at_ : Int) + 46) = (at_ : Int) + 46 := IntWalk.i64_in _ (by omega)
  have qa2 : IntKind.i64.wrap ((at_ : Int) + 46 + 255) = (at_ : Int) + 301 := by rw [IntWalk.i64_in _ (by omega)]; omega
  have qa3 : IntKind.i64.wrap ((at_ : Int) + 301 + 28) = (at_ : Int) + 329 := by rw [IntWalk.i64_in _ (by omega)]; omega
  have d1 : decide ((l.length : Int) ≤ (at_ : Int) + 329) = true := by simp; omega
  have d2 : decide ((at_ : Int) + 329 < (l.length : Int)) = false := by simp; omega
  have hsl := fun W => slice_lh (t := 33) (e := 5) (size := 1) Tryd.underlying33 size_u8 ad l.length c (at_ : Int) (l.length : Int) (by omega) (by omega) (by omega) W
  have hsb := sub_byt h at_ (l.length - at_) (by omega)
  rw [Int.toNat_natCast, show ((l.length : Int)).toNat = l.length from by omega] at hsl
  have hm24 : (l.drop at_).take (l.length - at_) = (l.drop at_).take 329 := by
    rw [List.take_eq_take_iff, List.length_drop]; omega
  rw [hm24] at hsb
  generalize Value.slice (if c = at_ then ad else ad.map (·.add (at_ * 1))) (l.length - at_) (c - at_) = S at *
  have hlm : ((l.drop at_).take 329).length ≤ 329 := List.length_take_le _ _
  generalize (l.drop at_).take 329 = m at *
  have HSB := Lib.hid hsb
  clear hsb h hm24
  have d3 : (l.length : Int) ≤ (at_ : Int) + 329 := by omega
  have hmin : min (l.length : Int) ((at_ : Int) + 329) = (l.length : Int) := by omega
  clear hmn
  have HC := Lib.hid hcall
  clear hcall
  have HB := Lib.hid ((Below.refl w.heap.size w).alloc (Nat.le_refl _) (.cells #[.string ByteArray.empty, .int .i64 0, .int .i64 0, .int .i64 0, .int .i64 0, .int .i64 0, .int .i64 0, .int .i64 0, .int .u32 0, .int .i64 0, .int .i64 0, .bool false, .bool false, .int .i64 0] 28))
  have HO := Lib.hid (Own.new_at w [.string ByteArray.empty, .int .i64 0, .int .i64 0, .int .i64 0, .int .i64 0, .int .i64 0, .int .i64 0, .int .i64 0, .int .u32 0, .int .i64 0, .int .i64 0, .bool false, .bool false, .int .i64 0] 28 w.heap.size rfl)
  have hmf : ∀ (fn : Fn) (first cap : Array Value) (w : World), (Instr.makeFunc fn first cap).run Tryd.prog w = .ok (.func fn first cap) w := fun _ _ _ _ => rfl
  clear hA
  go_enter Tryd.func12, Tryd.ntmps12
  go_wp2_with fail
  refine (over_any (HSB.out.below HB.out) (by omega)).mono ?_
  rintro e w1 ⟨rb, rfl, hrb0, hd, hb⟩
  simp only [World.size_alloc] at hrb0
  have hs := hb.size
  simp only [World.size_alloc] at hs
  have hrb1 : rb < w1.heap.size := by obtain ⟨_, _, _, _, _, _, _, h6⟩ := hd; exact h6
  have HD := Lib.hid hd
  have HO := Lib.hid (HO.out.below hb (by simp))
  have HB := Lib.hid (HB.out.trans (hb.mono (by simp)))
  clear hd hb
  have HR := Lib.hid (Own.new_at w1 [.pointer (some ⟨rb, 0, none⟩)] 44 w1.heap.size rfl)
  have hba := (Below.refl w1.heap.size w1).alloc (Nat.le_refl _) (.cells #[.pointer (some ⟨rb, 0, none⟩)] 44)
  have HD := Lib.hid (HD.out.below hba)
  have HO := Lib.hid (HO.out.below hba (by omega))
  have HB := Lib.hid (HB.out.trans (hba.mono (by omega)))
  have hz1 : w1.heap.size < (w1.alloc (.cells #[.pointer (some ⟨rb, 0, none⟩)] 44)).heap.size := by simp
  go_upto_region 5 with (fail)
  clear hba qa1 qa2 qa3 d1 d2 hmin hsl
  generalize w1.alloc (.cells #[.pointer (some ⟨rb, 0, none⟩)] 44) = w2 at *
  generalize w1.heap.size = br at *
  have hrb2 : rb < w2.heap.size := by omega
  have HTR := Lib.hid (tryC_throw 29 #[.pointer (some ⟨br, 0, none⟩)] w2 rb m hrb2 (fun W => cf_cparse1 _ W) (fun W hW => cparse1_throw br rb m W ((hW.cell (p := ⟨br, 0, none⟩) (by show br < _; omega)).trans (HR.out.1 0 _ rfl)) (fun w' h1 h2 => HC.out rb w' (by omega) h1 h2) (HD.out.below hW) (HA.out.below (HB.out.trans (hW.mono (by omega))))))
  go_wp2_with fail
  refine HTR.out.mono ?_
  rintro e w3 ⟨code, q, hcd, rfl, hd, hb⟩
  have hs3 := hb.size
  have HD := Lib.hid hd
  have HR := Lib.hid (HR.out.bx hb (by omega) (by simp; omega))
  have HO := Lib.hid (HO.out.bx hb (by omega) (by simp; omega))
  have HB := Lib.hid (HB.out.trans (hb.below (C := w.heap.size) (by omega) (by simp; omega)))
  clear hd hb HTR
  have HT := Lib.hid (Own.new_at w3 [.string ByteArray.empty, .int .i64 0, .int .i64 0, .int .i64 0, .int .i64 0, .int .i64 0, .int .i64 0, .int .i64 0, .int .u32 0, .int .i64 0, .int .i64 0, .bool false, .bool false, .int .i64 0] 28 w3.heap.size rfl)
  have hba := (Below.refl w3.heap.size w3).alloc (Nat.le_refl _) (.cells #[.string ByteArray.empty, .int .i64 0, .int .i64 0, .int .i64 0, .int .i64 0, .int .i64 0, .int .i64 0, .int .i64 0, .int .u32 0, .int .i64 0, .int .i64 0, .bool false, .bool false, .int .i64 0] 28)
  have HD := Lib.hid (HD.out.below hba)
  have HR := Lib.hid (HR.out.below hba (by omega))
  have HO := Lib.hid (HO.out.below hba (by omega))
  have HB := Lib.hid (HB.out.trans (hba.mono (by omega)))
  have hz3 : w3.heap.size < (w3.alloc (.cells #[.string ByteArray.empty, .int .i64 0, .int .i64 0, .int .i64 0, .int .i64 0, .int .i64 0, .int .i64 0, .int .i64 0, .int .u32 0, .int .i64 0, .int .i64 0, .bool false, .bool false, .int .i64 0] 28)).heap.size := by simp
  go_upto_region 6 with (fail)
  clear hba
  generalize w3.alloc (.cells #[.string ByteArray.empty, .int .i64 0, .int .i64 0, .int .i64 0, .int .i64 0, .int .i64 0, .int .i64 0, .int .i64 0, .int .u32 0, .int .i64 0, .int .i64 0, .bool false, .bool false, .int .i64 0] 28) = w4 at *
  generalize w3.heap.size = bt at *
  have tc : (code != 0) = true := by simpa using hcd
  have HCD := Lib.hid hcd
  clear hcd
  have z0 := HO.out.1 0 _ rfl
  have z1 := HO.out.1 1 _ rfl
  have z2 := HO.out.1 2 _ rfl
  have z3 := HO.out.1 3 _ rfl
  have z4 := HO.out.1 4 _ rfl
  have z5 := HO.out.1 5 _ rfl
  have z6 := HO.out.1 6 _ rfl
  have z7 := HO.out.1 7 _ rfl
  have z8 := HO.out.1 8 _ rfl
  have z9 := HO.out.1 9 _ rfl
  have z10 := HO.out.1 10 _ rfl
  have z11 := HO.out.1 11 _ rfl
  have z12 := HO.out.1 12 _ rfl
  have z13 := HO.out.1 13 _ rfl
  have hfz := HO.out.2
  go_wp2
  refine bodyPost_ret (v := .tuple #[.agg #[.string ByteArray.empty, .int .i64 0, .int .i64 0, .int .i64 0, .int .i64 0, .int .i64 0, .int .i64 0, .int .i64 0, .int .u32 0, .int .i64 0, .int .i64 0, .bool false, .bool false, .int .i64 0], .int .i64 0, .int .i64 code]) (by simp [results, Tryd.results12, go_sem, z0, z1, z2, z3, z4, z5, z6, z7, z8, z9, z10, z11, z12, z13] <;> rfl) rfl ⟨code, HCD.out, rfl, ?_⟩
  exact ((((((((((((((HB.out.setCell (by simp) _).setCell (by simp) _).setCell (by simp) _).setCell (by simp) _).setCell (by simp) _).setCell (by simp) _).setCell (by simp) _).setCell (by simp) _).setCell (by simp) _).setCell (by simp) _).setCell (by simp) _).setCell (by simp) _).setCell (by simp) _).setCell (by simp) _)
set_option maxHeartbeats 4000000 in
theorem cparse_failB (ad : Option Addr) (c : Nat) (l : List UInt8) (at_ : Nat) (w : World) (h : Byt w w.heap.size (.slice ad l.length c) l) (hl : l.length ≤ 100000) (hc : l.length ≤ c) (hA : Amb w) (hat : at_ ≤ l.length) (hmn : at_ + 329 < l.length) (hcall : ∀ (rb : Nat) (w : World), 3 ≤ rb → RD w rb ((l.drop at_).take 329) 0 → Amb w → Calls Tryd.prog 17 #[.pointer (some ⟨rb, 0, none⟩)] w fun e w' => ∃ c q, c ≠ 0 ∧ e = .panicked (fault c) ∧ RD w' rb ((l.drop at_).take 329) q ∧ Bx [rb] w.heap.size w w') :
    Calls Tryd.prog 12 #[.slice ad l.length c, .int .i64 (at_ : Nat)] w fun e w' => ∃ code : Int, code ≠ 0 ∧ e = .returned (.tuple #[.agg #[.string ByteArray.empty, .int .i64 0, .int .i64 0, .int .i64 0, .int .i64 0, .int .i64 0, .int .i64 0, .int .i64 0, .int .u32 0, .int .i64 0, .int .i64 0, .bool false, .bool false, .int .i64 0], .int .i64 0, .int .i64 code]) ∧ Below w.heap.size w w' := by
  have t0 : decide ((at_ : Int) < 0) = false := by simp
  have t1 : decide ((l.length : Int) < (at_ : Int)) = false := by simp; omega
  have hA3 := hA.1
  have HA := Lib.hid hA
  have qa1 : IntKind.i64.wrap ((at_ : Int) + 46) = (at_ : Int) + 46 := IntWalk.i64_in _ (by omega)
  have qa2 : IntKind.i64.wrap ((at_ : Int) + 46 + 255) = (at_ : Int) + 301 := by rw [IntWalk.i64_in _ (by omega)]; omega
  have qa3 : IntKind.i64.wrap ((at_ : Int) + 301 + 28) = (at_ : Int) + 329 := by rw [IntWalk.i64_in _ (by omega)]; omega
  have d1 : decide ((l.length : Int) ≤ (at_ : Int) + 329) = false := by simp; omega
  have d2 : decide ((at_ : Int) + 329 < (l.length : Int)) = true := by simp; omega
  have hsl := fun W => slice_lh (t := 33) (e := 5) (size := 1) Tryd.underlying33 size_u8 ad l.length c (at_ : Int) ((at_ : Int) + 329) (by omega) (by omega) (by omega) W
  have hsb := sub_byt h at_ ((at_ + 329) - at_) (by omega)
  rw [Int.toNat_natCast, show (((at_ : Int) + 329)).toNat = (at_ + 329) from by omega] at hsl
  have hm24 : (l.drop at_).take ((at_ + 329) - at_) = (l.drop at_).take 329 := by
    rw [List.take_eq_take_iff, List.length_drop]; omega
  rw [hm24] at hsb
  generalize Value.slice (if c = at_ then ad else ad.map (·.add (at_ * 1))) ((at_ + 329) - at_) (c - at_) = S at *
  have hlm : ((l.drop at_).take 329).length ≤ 329 := List.length_take_le _ _
  generalize (l.drop at_).take 329 = m at *
  have HSB := Lib.hid hsb
  clear hsb h hm24
  have d3 : (at_ : Int) + 329 < (l.length : Int) := by omega
  have hmin : min (l.length : Int) ((at_ : Int) + 329) = ((at_ : Int) + 329) := by omega
  clear hmn
  have HC := Lib.hid hcall
  clear hcall
  have HB := Lib.hid ((Below.refl w.heap.size w).alloc (Nat.le_refl _) (.cells #[.string ByteArray.empty, .int .i64 0, .int .i64 0, .int .i64 0, .int .i64 0, .int .i64 0, .int .i64 0, .int .i64 0, .int .u32 0, .int .i64 0, .int .i64 0, .bool false, .bool false, .int .i64 0] 28))
  have HO := Lib.hid (Own.new_at w [.string ByteArray.empty, .int .i64 0, .int .i64 0, .int .i64 0, .int .i64 0, .int .i64 0, .int .i64 0, .int .i64 0, .int .u32 0, .int .i64 0, .int .i64 0, .bool false, .bool false, .int .i64 0] 28 w.heap.size rfl)
  have hmf : ∀ (fn : Fn) (first cap : Array Value) (w : World), (Instr.makeFunc fn first cap).run Tryd.prog w = .ok (.func fn first cap) w := fun _ _ _ _ => rfl
  clear hA
  go_enter Tryd.func12, Tryd.ntmps12
  go_wp2_with fail
  refine (over_any (HSB.out.below HB.out) (by omega)).mono ?_
  rintro e w1 ⟨rb, rfl, hrb0, hd, hb⟩
  simp only [World.size_alloc] at hrb0
  have hs := hb.size
  simp only [World.size_alloc] at hs
  have hrb1 : rb < w1.heap.size := by obtain ⟨_, _, _, _, _, _, _, h6⟩ := hd; exact h6
  have HD := Lib.hid hd
  have HO := Lib.hid (HO.out.below hb (by simp))
  have HB := Lib.hid (HB.out.trans (hb.mono (by simp)))
  clear hd hb
  have HR := Lib.hid (Own.new_at w1 [.pointer (some ⟨rb, 0, none⟩)] 44 w1.heap.size rfl)
  have hba := (Below.refl w1.heap.size w1).alloc (Nat.le_refl _) (.cells #[.pointer (some ⟨rb, 0, none⟩)] 44)
  have HD := Lib.hid (HD.out.below hba)
  have HO := Lib.hid (HO.out.below hba (by omega))
  have HB := Lib.hid (HB.out.trans (hba.mono (by omega)))
  have hz1 : w1.heap.size < (w1.alloc (.cells #[.pointer (some ⟨rb, 0, none⟩)] 44)).heap.size := by simp
  go_upto_region 5 with (fail)
  clear hba qa1 qa2 qa3 d1 d2 hmin hsl
  generalize w1.alloc (.cells #[.pointer (some ⟨rb, 0, none⟩)] 44) = w2 at *
  generalize w1.heap.size = br at *
  have hrb2 : rb < w2.heap.size := by omega
  have HTR := Lib.hid (tryC_throw 29 #[.pointer (some ⟨br, 0, none⟩)] w2 rb m hrb2 (fun W => cf_cparse1 _ W) (fun W hW => cparse1_throw br rb m W ((hW.cell (p := ⟨br, 0, none⟩) (by show br < _; omega)).trans (HR.out.1 0 _ rfl)) (fun w' h1 h2 => HC.out rb w' (by omega) h1 h2) (HD.out.below hW) (HA.out.below (HB.out.trans (hW.mono (by omega))))))
  go_wp2_with fail
  refine HTR.out.mono ?_
  rintro e w3 ⟨code, q, hcd, rfl, hd, hb⟩
  have hs3 := hb.size
  have HD := Lib.hid hd
  have HR := Lib.hid (HR.out.bx hb (by omega) (by simp; omega))
  have HO := Lib.hid (HO.out.bx hb (by omega) (by simp; omega))
  have HB := Lib.hid (HB.out.trans (hb.below (C := w.heap.size) (by omega) (by simp; omega)))
  clear hd hb HTR
  have HT := Lib.hid (Own.new_at w3 [.string ByteArray.empty, .int .i64 0, .int .i64 0, .int .i64 0, .int .i64 0, .int .i64 0, .int .i64 0, .int .i64 0, .int .u32 0, .int .i64 0, .int .i64 0, .bool false, .bool false, .int .i64 0] 28 w3.heap.size rfl)
  have hba := (Below.refl w3.heap.size w3).alloc (Nat.le_refl _) (.cells #[.string ByteArray.empty, .int .i64 0, .int .i64 0, .int .i64 0, .int .i64 0, .int .i64 0, .int .i64 0, .int .i64 0, .int .u32 0, .int .i64 0, .int .i64 0, .bool false, .bool false, .int .i64 0] 28)
  have HD := Lib.hid (HD.out.below hba)
  have HR := Lib.hid (HR.out.below hba (by omega))
  have HO := Lib.hid (HO.out.below hba (by omega))
  have HB := Lib.hid (HB.out.trans (hba.mono (by omega)))
  have hz3 : w3.heap.size < (w3.alloc (.cells #[.string ByteArray.empty, .int .i64 0, .int .i64 0, .int .i64 0, .int .i64 0, .int .i64 0, .int .i64 0, .int .i64 0, .int .u32 0, .int .i64 0, .int .i64 0, .bool false, .bool false, .int .i64 0] 28)).heap.size := by simp
  go_upto_region 6 with (fail)
  clear hba
  generalize w3.alloc (.cells #[.string ByteArray.empty, .int .i64 0, .int .i64 0, .int .i64 0, .int .i64 0, .int .i64 0, .int .i64 0, .int .i64 0, .int .u32 0, .int .i64 0, .int .i64 0, .bool false, .bool false, .int .i64 0] 28) = w4 at *
  generalize w3.heap.size = bt at *
  have tc : (code != 0) = true := by simpa using hcd
  have HCD := Lib.hid hcd
  clear hcd
  have z0 := HO.out.1 0 _ rfl
  have z1 := HO.out.1 1 _ rfl
  have z2 := HO.out.1 2 _ rfl
  have z3 := HO.out.1 3 _ rfl
  have z4 := HO.out.1 4 _ rfl
  have z5 := HO.out.1 5 _ rfl
  have z6 := HO.out.1 6 _ rfl
  have z7 := HO.out.1 7 _ rfl
  have z8 := HO.out.1 8 _ rfl
  have z9 := HO.out.1 9 _ rfl
  have z10 := HO.out.1 10 _ rfl
  have z11 := HO.out.1 11 _ rfl
  have z12 := HO.out.1 12 _ rfl
  have z13 := HO.out.1 13 _ rfl
  have hfz := HO.out.2
  go_wp2
  refine bodyPost_ret (v := .tuple #[.agg #[.string ByteArray.empty, .int .i64 0, .int .i64 0, .int .i64 0, .int .i64 0, .int .i64 0, .int .i64 0, .int .i64 0, .int .u32 0, .int .i64 0, .int .i64 0, .bool false, .bool false, .int .i64 0], .int .i64 0, .int .i64 code]) (by simp [results, Tryd.results12, go_sem, z0, z1, z2, z3, z4, z5, z6, z7, z8, z9, z10, z11, z12, z13] <;> rfl) rfl ⟨code, HCD.out, rfl, ?_⟩
  exact ((((((((((((((HB.out.setCell (by simp) _).setCell (by simp) _).setCell (by simp) _).setCell (by simp) _).setCell (by simp) _).setCell (by simp) _).setCell (by simp) _).setCell (by simp) _).setCell (by simp) _).setCell (by simp) _).setCell (by simp) _).setCell (by simp) _).setCell (by simp) _).setCell (by simp) _)
theorem cparse_range (ad : Option Addr) (c : Nat) (l : List UInt8) (at_ : Int) (w : World) (_h : Byt w w.heap.size (.slice ad l.length c) l) (_hl : l.length ≤ 100000) (_hc : l.length ≤ c) (hat : at_ < 0 ∨ (l.length : Int) < at_) : Calls Tryd.prog 12 #[.slice ad l.length c, .int .i64 at_] w fun e w' => e = .returned (.tuple #[.agg #[.string ByteArray.empty, .int .i64 0, .int .i64 0, .int .i64 0, .int .i64 0, .int .i64 0, .int .i64 0, .int .i64 0, .int .u32 0, .int .i64 0, .int .i64 0, .bool false, .bool false, .int .i64 0], .int .i64 0, .int .i64 2]) ∧ Below w.heap.size w w' := by
  have HB := Lib.hid ((Below.refl w.heap.size w).alloc (Nat.le_refl _) (.cells #[.string ByteArray.empty, .int .i64 0, .int .i64 0, .int .i64 0, .int .i64 0, .int .i64 0, .int .i64 0, .int .i64 0, .int .u32 0, .int .i64 0, .int .i64 0, .bool false, .bool false, .int .i64 0] 28))
  by_cases h0 : at_ < 0
  · have t0 : decide (at_ < 0) = true := by simpa using h0
    go_enter Tryd.func12, Tryd.ntmps12
    go_wp2
    exact bodyPost_ret (v := .tuple #[.agg #[.string ByteArray.empty, .int .i64 0, .int .i64 0, .int .i64 0, .int .i64 0, .int .i64 0, .int .i64 0, .int .i64 0, .int .u32 0, .int .i64 0, .int .i64 0, .bool false, .bool false, .int .i64 0], .int .i64 0, .int .i64 2]) (by simp [results, Tryd.results12, go_sem] <;> rfl) rfl ⟨rfl, HB.out⟩
  · have t0 : decide (at_ < 0) = false := by simpa using h0
    have t1 : decide ((l.length : Int) < at_) = true := by simp; omega
    clear h0 hat
    go_enter Tryd.func12, Tryd.ntmps12
    go_wp2
    exact bodyPost_ret (v := .tuple #[.agg #[.string ByteArray.empty, .int .i64 0, .int .i64 0, .int .i64 0, .int .i64 0, .int .i64 0, .int .i64 0, .int .i64 0, .int .u32 0, .int .i64 0, .int .i64 0, .bool false, .bool false, .int .i64 0], .int .i64 0, .int .i64 2]) (by simp [results, Tryd.results12, go_sem] <;> rfl) rfl ⟨rfl, HB.out⟩
set_option maxHeartbeats 4000000 in
theorem cparse_yesA (ad : Option Addr) (c : Nat) (l : List UInt8) (at_ : Nat) (w : World) (h : Byt w w.heap.size (.slice ad l.length c) l) (hl : l.length ≤ 100000) (hc : l.length ≤ c) (hA : Amb w) (hat : at_ ≤ l.length) (hmn : l.length ≤ at_ + 329) (nm : ByteArray) (y mo da ho mi se me cr pk sz : Int) (gw gl : Bool) (pl : Int) (q : Nat) (hq : q ≤ 1000) (hcall : ∀ (rb : Nat) (w : World), 3 ≤ rb → RD w rb ((l.drop at_).take 329) 0 → Amb w → Calls Tryd.prog 17 #[.pointer (some ⟨rb, 0, none⟩)] w fun e w' => e = .returned (.agg #[.string nm, .int .i64 y, .int .i64 mo, .int .i64 da, .int .i64 ho, .int .i64 mi, .int .i64 se, .int .i64 me, .int .u32 cr, .int .i64 pk, .int .i64 sz, .bool gw, .bool gl, .int .i64 pl]) ∧ RD w' rb ((l.drop at_).take 329) q ∧ Bx [rb] w.heap.size w w') :
    Calls Tryd.prog 12 #[.slice ad l.length c, .int .i64 (at_ : Nat)] w fun e w' => e = .returned (.tuple #[.agg #[.string nm, .int .i64 y, .int .i64 mo, .int .i64 da, .int .i64 ho, .int .i64 mi, .int .i64 se, .int .i64 me, .int .u32 cr, .int .i64 pk, .int .i64 sz, .bool gw, .bool gl, .int .i64 pl], .int .i64 ((at_ : Int) + (q : Int)), .int .i64 0]) ∧ Below w.heap.size w w' := by
  have HWR : Hid (IntKind.i64.wrap ((at_ : Int) + (q : Int)) = (at_ : Int) + q) := Lib.hid (IntWalk.i64_in _ (by omega))
  have t0 : decide ((at_ : Int) < 0) = false := by simp
  have t1 : decide ((l.length : Int) < (at_ : Int)) = false := by simp; omega
  have hA3 := hA.1
  have HA := Lib.hid hA
  have qa1 : IntKind.i64.wrap ((at_ : Int) + 46) = (at_ : Int) + 46 := IntWalk.i64_in _ (by omega)
  have qa2 : IntKind.i64.wrap ((at_ : Int) + 46 + 255) = (at_ : Int) + 301 := by rw [IntWalk.i64_in _ (by omega)]; omega
  have qa3 : IntKind.i64.wrap ((at_ : Int) + 301 + 28) = (at_ : Int) + 329 := by rw [IntWalk.i64_in _ (by omega)]; omega
  have d1 : decide ((l.length : Int) ≤ (at_ : Int) + 329) = true := by simp; omega
  have d2 : decide ((at_ : Int) + 329 < (l.length : Int)) = false := by simp; omega
  have hsl := fun W => slice_lh (t := 33) (e := 5) (size := 1) Tryd.underlying33 size_u8 ad l.length c (at_ : Int) (l.length : Int) (by omega) (by omega) (by omega) W
  have hsb := sub_byt h at_ (l.length - at_) (by omega)
  rw [Int.toNat_natCast, show ((l.length : Int)).toNat = l.length from by omega] at hsl
  have hm24 : (l.drop at_).take (l.length - at_) = (l.drop at_).take 329 := by
    rw [List.take_eq_take_iff, List.length_drop]; omega
  rw [hm24] at hsb
  generalize Value.slice (if c = at_ then ad else ad.map (·.add (at_ * 1))) (l.length - at_) (c - at_) = S at *
  have hlm : ((l.drop at_).take 329).length ≤ 329 := List.length_take_le _ _
  generalize (l.drop at_).take 329 = m at *
  have HSB := Lib.hid hsb
  clear hsb h hm24
  have d3 : (l.length : Int) ≤ (at_ : Int) + 329 := by omega
  have hmin : min (l.length : Int) ((at_ : Int) + 329) = (l.length : Int) := by omega
  clear hmn
  have HC := Lib.hid hcall
  clear hcall
  have HB := Lib.hid ((Below.refl w.heap.size w).alloc (Nat.le_refl _) (.cells #[.string ByteArray.empty, .int .i64 0, .int .i64 0, .int .i64 0, .int .i64 0, .int .i64 0, .int .i64 0, .int .i64 0, .int .u32 0, .int .i64 0, .int .i64 0, .bool false, .bool false, .int .i64 0] 28))
  have HO := Lib.hid (Own.new_at w [.string ByteArray.empty, .int .i64 0, .int .i64 0, .int .i64 0, .int .i64 0, .int .i64 0, .int .i64 0, .int .i64 0, .int .u32 0, .int .i64 0, .int .i64 0, .bool false, .bool false, .int .i64 0] 28 w.heap.size rfl)
  have hmf : ∀ (fn : Fn) (first cap : Array Value) (w : World), (Instr.makeFunc fn first cap).run Tryd.prog w = .ok (.func fn first cap) w := fun _ _ _ _ => rfl
  clear hA
  go_enter Tryd.func12, Tryd.ntmps12
  go_wp2_with fail
  refine (over_any (HSB.out.below HB.out) (by omega)).mono ?_
  rintro e w1 ⟨rb, rfl, hrb0, hd, hb⟩
  simp only [World.size_alloc] at hrb0
  have hs := hb.size
  simp only [World.size_alloc] at hs
  have hrb1 : rb < w1.heap.size := by obtain ⟨_, _, _, _, _, _, _, h6⟩ := hd; exact h6
  have HD := Lib.hid hd
  have HO := Lib.hid (HO.out.below hb (by simp))
  have HB := Lib.hid (HB.out.trans (hb.mono (by simp)))
  clear hd hb
  have HR := Lib.hid (Own.new_at w1 [.pointer (some ⟨rb, 0, none⟩)] 44 w1.heap.size rfl)
  have hba := (Below.refl w1.heap.size w1).alloc (Nat.le_refl _) (.cells #[.pointer (some ⟨rb, 0, none⟩)] 44)
  have HD := Lib.hid (HD.out.below hba)
  have HO := Lib.hid (HO.out.below hba (by omega))
  have HB := Lib.hid (HB.out.trans (hba.mono (by omega)))
  have hz1 : w1.heap.size < (w1.alloc (.cells #[.pointer (some ⟨rb, 0, none⟩)] 44)).heap.size := by simp
  go_upto_region 5 with (fail)
  clear hba qa1 qa2 qa3 d1 d2 hmin hsl
  generalize w1.alloc (.cells #[.pointer (some ⟨rb, 0, none⟩)] 44) = w2 at *
  generalize w1.heap.size = br at *
  have hrb2 : rb < w2.heap.size := by omega
  have HTR := Lib.hid (tryC_ret 29 #[.pointer (some ⟨br, 0, none⟩)] w2 rb q m nm y mo da ho mi se me cr pk sz gw gl pl hrb2 (fun W => cf_cparse1 _ W) (fun W hW => cparse1_ret br rb q m nm y mo da ho mi se me cr pk sz gw gl pl W ((hW.cell (p := ⟨br, 0, none⟩) (by show br < _; omega)).trans (HR.out.1 0 _ rfl)) (Nat.lt_of_lt_of_le hrb2 hW.size) (fun w' h1 h2 => HC.out rb w' (by omega) h1 h2) (HD.out.below hW) (HA.out.below (HB.out.trans (hW.mono (by omega))))))
  go_wp2_with fail
  refine HTR.out.mono ?_
  rintro e w3 ⟨rfl, hd, hb⟩
  have hs3 := hb.size
  have HD := Lib.hid hd
  have HR := Lib.hid (HR.out.bx hb (by omega) (by simp; omega))
  have HO := Lib.hid (HO.out.bx hb (by omega) (by simp; omega))
  have HB := Lib.hid (HB.out.trans (hb.below (C := w.heap.size) (by omega) (by simp; omega)))
  clear hd hb HTR
  have HT := Lib.hid (Own.new_at w3 [.string nm, .int .i64 y, .int .i64 mo, .int .i64 da, .int .i64 ho, .int .i64 mi, .int .i64 se, .int .i64 me, .int .u32 cr, .int .i64 pk, .int .i64 sz, .bool gw, .bool gl, .int .i64 pl] 28 w3.heap.size rfl)
  have hba := (Below.refl w3.heap.size w3).alloc (Nat.le_refl _) (.cells #[.string nm, .int .i64 y, .int .i64 mo, .int .i64 da, .int .i64 ho, .int .i64 mi, .int .i64 se, .int .i64 me, .int .u32 cr, .int .i64 pk, .int .i64 sz, .bool gw, .bool gl, .int .i64 pl] 28)
  have HD := Lib.hid (HD.out.below hba)
  have HR := Lib.hid (HR.out.below hba (by omega))
  have HO := Lib.hid (HO.out.below hba (by omega))
  have HB := Lib.hid (HB.out.trans (hba.mono (by omega)))
  have hz3 : w3.heap.size < (w3.alloc (.cells #[.string nm, .int .i64 y, .int .i64 mo, .int .i64 da, .int .i64 ho, .int .i64 mi, .int .i64 se, .int .i64 me, .int .u32 cr, .int .i64 pk, .int .i64 sz, .bool gw, .bool gl, .int .i64 pl] 28)).heap.size := by simp
  go_upto_region 6 with (fail)
  clear hba
  generalize w3.alloc (.cells #[.string nm, .int .i64 y, .int .i64 mo, .int .i64 da, .int .i64 ho, .int .i64 mi, .int .i64 se, .int .i64 me, .int .u32 cr, .int .i64 pk, .int .i64 sz, .bool gw, .bool gl, .int .i64 pl] 28) = w4 at *
  generalize w3.heap.size = bt at *
  have y0 := HT.out.1 0 _ rfl
  have y1 := HT.out.1 1 _ rfl
  have y2 := HT.out.1 2 _ rfl
  have y3 := HT.out.1 3 _ rfl
  have y4 := HT.out.1 4 _ rfl
  have y5 := HT.out.1 5 _ rfl
  have y6 := HT.out.1 6 _ rfl
  have y7 := HT.out.1 7 _ rfl
  have y8 := HT.out.1 8 _ rfl
  have y9 := HT.out.1 9 _ rfl
  have y10 := HT.out.1 10 _ rfl
  have y11 := HT.out.1 11 _ rfl
  have y12 := HT.out.1 12 _ rfl
  have y13 := HT.out.1 13 _ rfl
  have z0 := HO.out.1 0 _ rfl
  have z1 := HO.out.1 1 _ rfl
  have z2 := HO.out.1 2 _ rfl
  have z3 := HO.out.1 3 _ rfl
  have z4 := HO.out.1 4 _ rfl
  have z5 := HO.out.1 5 _ rfl
  have z6 := HO.out.1 6 _ rfl
  have z7 := HO.out.1 7 _ rfl
  have z8 := HO.out.1 8 _ rfl
  have z9 := HO.out.1 9 _ rfl
  have z10 := HO.out.1 10 _ rfl
  have z11 := HO.out.1 11 _ rfl
  have z12 := HO.out.1 12 _ rfl
  have z13 := HO.out.1 13 _ rfl
  have hfz := HO.out.2
  have hzW : w.heap.size + 1 < w4.heap.size := by omega
  have kr := HR.out.1 0 _ rfl
  have hw := HWR.out
  go_wp2_with fail
  go_region_with ((go_at_call 18; refine (at_any (HD.out.drewN 1)).mono ?_; rintro e w' ⟨rfl, hw'⟩; subst w'))
  all_goals
    go_wp2
    refine bodyPost_ret (v := .tuple #[.agg #[.string nm, .int .i64 y, .int .i64 mo, .int .i64 da, .int .i64 ho, .int .i64 mi, .int .i64 se, .int .i64 me, .int .u32 cr, .int .i64 pk, .int .i64 sz, .bool gw, .bool gl, .int .i64 pl], .int .i64 ((at_ : Int) + (q : Int)), .int .i64 0]) (by simp [results, Tryd.results12, go_sem, z0, z1, z2, z3, z4, z5, z6, z7, z8, z9, z10, z11, z12, z13] <;> rfl) rfl ⟨rfl, ?_⟩
    exact ((((((((((((((HB.out.drew.setCell (by simp) _).setCell (by simp) _).setCell (by simp) _).setCell (by simp) _).setCell (by simp) _).setCell (by simp) _).setCell (by simp) _).setCell (by simp) _).setCell (by simp) _).setCell (by simp) _).setCell (by simp) _).setCell (by simp) _).setCell (by simp) _).setCell (by simp) _)
set_option maxHeartbeats 4000000 in
theorem cparse_yesB (ad : Option Addr) (c : Nat) (l : List UInt8) (at_ : Nat) (w : World) (h : Byt w w.heap.size (.slice ad l.length c) l) (hl : l.length ≤ 100000) (hc : l.length ≤ c) (hA : Amb w) (hat : at_ ≤ l.length) (hmn : at_ + 329 < l.length) (nm : ByteArray) (y mo da ho mi se me cr pk sz : Int) (gw gl : Bool) (pl : Int) (q : Nat) (hq : q ≤ 1000) (hcall : ∀ (rb : Nat) (w : World), 3 ≤ rb → RD w rb ((l.drop at_).take 329) 0 → Amb w → Calls Tryd.prog 17 #[.pointer (some ⟨rb, 0, none⟩)] w fun e w' => e = .returned (.agg #[.string nm, .int .i64 y, .int .i64 mo, .int .i64 da, .int .i64 ho, .int .i64 mi, .int .i64 se, .int .i64 me, .int .u32 cr, .int .i64 pk, .int .i64 sz, .bool gw, .bool gl, .int .i64 pl]) ∧ RD w' rb ((l.drop at_).take 329) q ∧ Bx [rb] w.heap.size w w') :
    Calls Tryd.prog 12 #[.slice ad l.length c, .int .i64 (at_ : Nat)] w fun e w' => e = .returned (.tuple #[.agg #[.string nm, .int .i64 y, .int .i64 mo, .int .i64 da, .int .i64 ho, .int .i64 mi, .int .i64 se, .int .i64 me, .int .u32 cr, .int .i64 pk, .int .i64 sz, .bool gw, .bool gl, .int .i64 pl], .int .i64 ((at_ : Int) + (q : Int)), .int .i64 0]) ∧ Below w.heap.size w w' := by
  have HWR : Hid (IntKind.i64.wrap ((at_ : Int) + (q : Int)) = (at_ : Int) + q) := Lib.hid (IntWalk.i64_in _ (by omega))
  have t0 : decide ((at_ : Int) < 0) = false := by simp
  have t1 : decide ((l.length : Int) < (at_ : Int)) = false := by simp; omega
  have hA3 := hA.1
  have HA := Lib.hid hA
  have qa1 : IntKind.i64.wrap ((at_ : Int) + 46) = (at_ : Int) + 46 := IntWalk.i64_in _ (by omega)
  have qa2 : IntKind.i64.wrap ((at_ : Int) + 46 + 255) = (at_ : Int) + 301 := by rw [IntWalk.i64_in _ (by omega)]; omega
  have qa3 : IntKind.i64.wrap ((at_ : Int) + 301 + 28) = (at_ : Int) + 329 := by rw [IntWalk.i64_in _ (by omega)]; omega
  have d1 : decide ((l.length : Int) ≤ (at_ : Int) + 329) = false := by simp; omega
  have d2 : decide ((at_ : Int) + 329 < (l.length : Int)) = true := by simp; omega
  have hsl := fun W => slice_lh (t := 33) (e := 5) (size := 1) Tryd.underlying33 size_u8 ad l.length c (at_ : Int) ((at_ : Int) + 329) (by omega) (by omega) (by omega) W
  have hsb := sub_byt h at_ ((at_ + 329) - at_) (by omega)
  rw [Int.toNat_natCast, show (((at_ : Int) + 329)).toNat = (at_ + 329) from by omega] at hsl
  have hm24 : (l.drop at_).take ((at_ + 329) - at_) = (l.drop at_).take 329 := by
    rw [List.take_eq_take_iff, List.length_drop]; omega
  rw [hm24] at hsb
  generalize Value.slice (if c = at_ then ad else ad.map (·.add (at_ * 1))) ((at_ + 329) - at_) (c - at_) = S at *
  have hlm : ((l.drop at_).take 329).length ≤ 329 := List.length_take_le _ _
  generalize (l.drop at_).take 329 = m at *
  have HSB := Lib.hid hsb
  clear hsb h hm24
  have d3 : (at_ : Int) + 329 < (l.length : Int) := by omega
  have hmin : min (l.length : Int) ((at_ : Int) + 329) = ((at_ : Int) + 329) := by omega
  clear hmn
  have HC := Lib.hid hcall
  clear hcall
  have HB := Lib.hid ((Below.refl w.heap.size w).alloc (Nat.le_refl _) (.cells #[.string ByteArray.empty, .int .i64 0, .int .i64 0, .int .i64 0, .int .i64 0, .int .i64 0, .int .i64 0, .int .i64 0, .int .u32 0, .int .i64 0, .int .i64 0, .bool false, .bool false, .int .i64 0] 28))
  have HO := Lib.hid (Own.new_at w [.string ByteArray.empty, .int .i64 0, .int .i64 0, .int .i64 0, .int .i64 0, .int .i64 0, .int .i64 0, .int .i64 0, .int .u32 0, .int .i64 0, .int .i64 0, .bool false, .bool false, .int .i64 0] 28 w.heap.size rfl)
  have hmf : ∀ (fn : Fn) (first cap : Array Value) (w : World), (Instr.makeFunc fn first cap).run Tryd.prog w = .ok (.func fn first cap) w := fun _ _ _ _ => rfl
  clear hA
  go_enter Tryd.func12, Tryd.ntmps12
  go_wp2_with fail
  refine (over_any (HSB.out.below HB.out) (by omega)).mono ?_
  rintro e w1 ⟨rb, rfl, hrb0, hd, hb⟩
  simp only [World.size_alloc] at hrb0
  have hs := hb.size
  simp only [World.size_alloc] at hs
  have hrb1 : rb < w1.heap.size := by obtain ⟨_, _, _, _, _, _, _, h6⟩ := hd; exact h6
  have HD := Lib.hid hd
  have HO := Lib.hid (HO.out.below hb (by simp))
  have HB := Lib.hid (HB.out.trans (hb.mono (by simp)))
  clear hd hb
  have HR := Lib.hid (Own.new_at w1 [.pointer (some ⟨rb, 0, none⟩)] 44 w1.heap.size rfl)
  have hba := (Below.refl w1.heap.size w1).alloc (Nat.le_refl _) (.cells #[.pointer (some ⟨rb, 0, none⟩)] 44)
  have HD := Lib.hid (HD.out.below hba)
  have HO := Lib.hid (HO.out.below hba (by omega))
  have HB := Lib.hid (HB.out.trans (hba.mono (by omega)))
  have hz1 : w1.heap.size < (w1.alloc (.cells #[.pointer (some ⟨rb, 0, none⟩)] 44)).heap.size := by simp
  go_upto_region 5 with (fail)
  clear hba qa1 qa2 qa3 d1 d2 hmin hsl
  generalize w1.alloc (.cells #[.pointer (some ⟨rb, 0, none⟩)] 44) = w2 at *
  generalize w1.heap.size = br at *
  have hrb2 : rb < w2.heap.size := by omega
  have HTR := Lib.hid (tryC_ret 29 #[.pointer (some ⟨br, 0, none⟩)] w2 rb q m nm y mo da ho mi se me cr pk sz gw gl pl hrb2 (fun W => cf_cparse1 _ W) (fun W hW => cparse1_ret br rb q m nm y mo da ho mi se me cr pk sz gw gl pl W ((hW.cell (p := ⟨br, 0, none⟩) (by show br < _; omega)).trans (HR.out.1 0 _ rfl)) (Nat.lt_of_lt_of_le hrb2 hW.size) (fun w' h1 h2 => HC.out rb w' (by omega) h1 h2) (HD.out.below hW) (HA.out.below (HB.out.trans (hW.mono (by omega))))))
  go_wp2_with fail
  refine HTR.out.mono ?_
  rintro e w3 ⟨rfl, hd, hb⟩
  have hs3 := hb.size
  have HD := Lib.hid hd
  have HR := Lib.hid (HR.out.bx hb (by omega) (by simp; omega))
  have HO := Lib.hid (HO.out.bx hb (by omega) (by simp; omega))
  have HB := Lib.hid (HB.out.trans (hb.below (C := w.heap.size) (by omega) (by simp; omega)))
  clear hd hb HTR
  have HT := Lib.hid (Own.new_at w3 [.string nm, .int .i64 y, .int .i64 mo, .int .i64 da, .int .i64 ho, .int .i64 mi, .int .i64 se, .int .i64 me, .int .u32 cr, .int .i64 pk, .int .i64 sz, .bool gw, .bool gl, .int .i64 pl] 28 w3.heap.size rfl)
  have hba := (Below.refl w3.heap.size w3).alloc (Nat.le_refl _) (.cells #[.string nm, .int .i64 y, .int .i64 mo, .int .i64 da, .int .i64 ho, .int .i64 mi, .int .i64 se, .int .i64 me, .int .u32 cr, .int .i64 pk, .int .i64 sz, .bool gw, .bool gl, .int .i64 pl] 28)
  have HD := Lib.hid (HD.out.below hba)
  have HR := Lib.hid (HR.out.below hba (by omega))
  have HO := Lib.hid (HO.out.below hba (by omega))
  have HB := Lib.hid (HB.out.trans (hba.mono (by omega)))
  have hz3 : w3.heap.size < (w3.alloc (.cells #[.string nm, .int .i64 y, .int .i64 mo, .int .i64 da, .int .i64 ho, .int .i64 mi, .int .i64 se, .int .i64 me, .int .u32 cr, .int .i64 pk, .int .i64 sz, .bool gw, .bool gl, .int .i64 pl] 28)).heap.size := by simp
  go_upto_region 6 with (fail)
  clear hba
  generalize w3.alloc (.cells #[.string nm, .int .i64 y, .int .i64 mo, .int .i64 da, .int .i64 ho, .int .i64 mi, .int .i64 se, .int .i64 me, .int .u32 cr, .int .i64 pk, .int .i64 sz, .bool gw, .bool gl, .int .i64 pl] 28) = w4 at *
  generalize w3.heap.size = bt at *
  have y0 := HT.out.1 0 _ rfl
  have y1 := HT.out.1 1 _ rfl
  have y2 := HT.out.1 2 _ rfl
  have y3 := HT.out.1 3 _ rfl
  have y4 := HT.out.1 4 _ rfl
  have y5 := HT.out.1 5 _ rfl
  have y6 := HT.out.1 6 _ rfl
  have y7 := HT.out.1 7 _ rfl
  have y8 := HT.out.1 8 _ rfl
  have y9 := HT.out.1 9 _ rfl
  have y10 := HT.out.1 10 _ rfl
  have y11 := HT.out.1 11 _ rfl
  have y12 := HT.out.1 12 _ rfl
  have y13 := HT.out.1 13 _ rfl
  have z0 := HO.out.1 0 _ rfl
  have z1 := HO.out.1 1 _ rfl
  have z2 := HO.out.1 2 _ rfl
  have z3 := HO.out.1 3 _ rfl
  have z4 := HO.out.1 4 _ rfl
  have z5 := HO.out.1 5 _ rfl
  have z6 := HO.out.1 6 _ rfl
  have z7 := HO.out.1 7 _ rfl
  have z8 := HO.out.1 8 _ rfl
  have z9 := HO.out.1 9 _ rfl
  have z10 := HO.out.1 10 _ rfl
  have z11 := HO.out.1 11 _ rfl
  have z12 := HO.out.1 12 _ rfl
  have z13 := HO.out.1 13 _ rfl
  have hfz := HO.out.2
  have hzW : w.heap.size + 1 < w4.heap.size := by omega
  have kr := HR.out.1 0 _ rfl
  have hw := HWR.out
  go_wp2_with fail
  go_region_with ((go_at_call 18; refine (at_any (HD.out.drewN 1)).mono ?_; rintro e w' ⟨rfl, hw'⟩; subst w'))
  all_goals
    go_wp2
    refine bodyPost_ret (v := .tuple #[.agg #[.string nm, .int .i64 y, .int .i64 mo, .int .i64 da, .int .i64 ho, .int .i64 mi, .int .i64 se, .int .i64 me, .int .u32 cr, .int .i64 pk, .int .i64 sz, .bool gw, .bool gl, .int .i64 pl], .int .i64 ((at_ : Int) + (q : Int)), .int .i64 0]) (by simp [results, Tryd.results12, go_sem, z0, z1, z2, z3, z4, z5, z6, z7, z8, z9, z10, z11, z12, z13] <;> rfl) rfl ⟨rfl, ?_⟩
    exact ((((((((((((((HB.out.drew.setCell (by simp) _).setCell (by simp) _).setCell (by simp) _).setCell (by simp) _).setCell (by simp) _).setCell (by simp) _).setCell (by simp) _).setCell (by simp) _).setCell (by simp) _).setCell (by simp) _).setCell (by simp) _).setCell (by simp) _).setCell (by simp) _).setCell (by simp) _)
/-- What Parse does at a place that lies in the bytes. -/
def CPQ (m : List UInt8) (at_ : Nat) (w : World) (e : Ending) (w' : World) : Prop :=
  (ACD m ∧ e = .returned (.tuple #[hdrC m, .int .i64 ((at_ : Int) + (endC m : Nat)), .int .i64 0]) ∧ Below w.heap.size w w') ∨
  (¬ ACD m ∧ ∃ c : Int, c ≠ 0 ∧ e = .returned (.tuple #[.agg #[.string ByteArray.empty, .int .i64 0, .int .i64 0, .int .i64 0, .int .i64 0, .int .i64 0, .int .i64 0, .int .i64 0, .int .u32 0, .int .i64 0, .int .i64 0, .bool false, .bool false, .int .i64 0], .int .i64 0, .int .i64 c]) ∧ Below w.heap.size w w')
theorem cparse_any (ad : Option Addr) (c : Nat) (l : List UInt8) (at_ : Nat) (w : World) (h : Byt w w.heap.size (.slice ad l.length c) l) (hl : l.length ≤ 100000) (hc : l.length ≤ c) (hA : Amb w) (hat : at_ ≤ l.length) : Calls Tryd.prog 12 #[.slice ad l.length c, .int .i64 (at_ : Nat)] w (CPQ ((l.drop at_).take 329) at_ w) := by
  by_cases ha : ACD ((l.drop at_).take 329)
  · have hcall : ∀ (rb : Nat) (w : World), 3 ≤ rb → RD w rb ((l.drop at_).take 329) 0 → Amb w → Calls Tryd.prog 17 #[.pointer (some ⟨rb, 0, none⟩)] w fun e w' => e = .returned (hdrC ((l.drop at_).take 329)) ∧ RD w' rb ((l.drop at_).take 329) (endC ((l.drop at_).take 329)) ∧ Bx [rb] w.heap.size w w' := by
      intro rb w h3 hd hA
      refine (readC_any rb _ w hd hA h3).mono fun e w' hq => ?_
      rcases hq with ⟨_, h1, h2, h3⟩ | ⟨h0, _⟩
      · exact ⟨h1, h2, h3⟩
      · exact absurd ha h0
    have he := acd_end ha
    by_cases hmn : l.length ≤ at_ + 329
    · exact (cparse_yesA ad c l at_ w h hl hc hA hat hmn _ _ _ _ _ _ _ _ _ _ _ _ _ _ _ (by omega) hcall).mono fun e w' ⟨h1, h2⟩ => .inl ⟨ha, h1, h2⟩
    · exact (cparse_yesB ad c l at_ w h hl hc hA hat (by omega) _ _ _ _ _ _ _ _ _ _ _ _ _ _ _ (by omega) hcall).mono fun e w' ⟨h1, h2⟩ => .inl ⟨ha, h1, h2⟩
  · have hcall : ∀ (rb : Nat) (w : World), 3 ≤ rb → RD w rb ((l.drop at_).take 329) 0 → Amb w → Calls Tryd.prog 17 #[.pointer (some ⟨rb, 0, none⟩)] w fun e w' => ∃ c q, c ≠ 0 ∧ e = .panicked (fault c) ∧ RD w' rb ((l.drop at_).take 329) q ∧ Bx [rb] w.heap.size w w' := by
      intro rb w h3 hd hA
      refine (readC_any rb _ w hd hA h3).mono fun e w' hq => ?_
      rcases hq with ⟨h0, _⟩ | ⟨_, h1⟩
      · exact absurd h0 ha
      · exact h1
    by_cases hmn : l.length ≤ at_ + 329
    · exact (cparse_failA ad c l at_ w h hl hc hA hat hmn hcall).mono fun e w' h1 => .inr ⟨ha, h1⟩
    · exact (cparse_failB ad c l at_ w h hl hc hA hat (by omega) hcall).mono fun e w' h1 => .inr ⟨ha, h1⟩
end Go.Proofs.YtjkmgakgjoojfaaDoor
