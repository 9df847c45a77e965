/- The law CentralBack: the walk. -/
import Derived.Test.YtjkmgakgjoojfaaDoorCenR
import Derived.Test.YtjkmgakgjoojfaaDoorCenS
namespace Go.Proofs.YtjkmgakgjoojfaaDoor
set_option maxRecDepth 100000
set_option linter.unusedVariables false
set_option linter.unusedSimpArgs false
open Go.RowKit
set_option maxHeartbeats 2000000 in
theorem cb_none (nm : ByteArray) (y mo da ho mi se me cr pk sz : Int) (gw gl : Bool) (pl : Int) (ab : Option Addr) (cb : Nat) (B : List UInt8) (cu : Nat) (w : World) (hAm : Amb w) (h : (ccode (lcode (chk nm) (Dos.rightB y mo da ho mi se) me pk sz) pl != 0) = true) : Calls Tryd.prog 5 #[.agg #[.string nm, .int .i64 y, .int .i64 mo, .int .i64 da, .int .i64 ho, .int .i64 mi, .int .i64 se, .int .i64 me, .int .u32 cr, .int .i64 pk, .int .i64 sz, .bool gw, .bool gl, .int .i64 pl], .slice ab B.length cb, .int .u8 (cu : Nat)] w (CQ (.bool true) w) := by
  have HE := Lib.hid (fun W hA => cenc_no nm y mo da ho mi se me cr pk sz gw gl pl _ W hA rfl h)
  generalize ccode (lcode (chk nm) (Dos.rightB y mo da ho mi se) me pk sz) pl = code at *
  have HA := Lib.hid (Own.new_at w [.string nm, .int .i64 y, .int .i64 mo, .int .i64 da, .int .i64 ho, .int .i64 mi, .int .i64 se, .int .i64 me, .int .u32 cr, .int .i64 pk, .int .i64 sz, .bool gw, .bool gl, .int .i64 pl] 28 w.heap.size rfl)
  have HZ := Lib.hid ((Below.refl w.heap.size w).alloc (Nat.le_refl _) (.cells #[.string nm, .int .i64 y, .int .i64 mo, .int .i64 da, .int .i64 ho, .int .i64 mi, .int .i64 se, .int .i64 me, .int .u32 cr, .int .i64 pk, .int .i64 sz, .bool gw, .bool gl, .int .i64 pl] 28))
  have HM := Lib.hid (fun (W : World) (hB : Below w.heap.size w W) => hAm.below hB)
  have HAW := Lib.hid (fun W => awakeC_any W)
  clear hAm
  go_enter Tryd.func5, Tryd.ntmps5
  go_wp2_with fail
  refine (HAW.out _ (HM.out _ HZ.out)).mono ?_
  rintro e w1 ⟨rfl, hb⟩
  have hs := hb.size
  simp only [World.size_alloc] at hs
  have HA := Lib.hid (HA.out.below hb (by simp))
  have HZ := Lib.hid (HZ.out.trans (hb.mono (by simp)))
  have hz0 : w.heap.size < w1.heap.size := by omega
  clear hb hs
  have k0 := HA.out.1 0 _ rfl
  have k1 := HA.out.1 1 _ rfl
  have k2 := HA.out.1 2 _ rfl
  have k3 := HA.out.1 3 _ rfl
  have k4 := HA.out.1 4 _ rfl
  have k5 := HA.out.1 5 _ rfl
  have k6 := HA.out.1 6 _ rfl
  have k7 := HA.out.1 7 _ rfl
  have k8 := HA.out.1 8 _ rfl
  have k9 := HA.out.1 9 _ rfl
  have k10 := HA.out.1 10 _ rfl
  have k11 := HA.out.1 11 _ rfl
  have k12 := HA.out.1 12 _ rfl
  have k13 := HA.out.1 13 _ rfl
  go_wp2_with fail
  refine (HE.out _ (HM.out _ HZ.out)).mono ?_
  rintro e w2 ⟨rfl, hb⟩
  have hs := hb.size
  have HA := Lib.hid (HA.out.below hb (by omega))
  have HZ := Lib.hid (HZ.out.trans (hb.mono (by omega)))
  have hz1 : w.heap.size < w2.heap.size := by omega
  clear hb hs hz0 
  have hz0 := hz1
  clear hz1
  clear k0 k1 k2 k3 k4 k5 k6 k7 k8 k9 k10 k11 k12 k13
  go_wp2_with (fail)
  go_ret
  exact ⟨rfl, HZ.out⟩
set_option maxHeartbeats 2000000 in
theorem cb_long (nm : ByteArray) (y mo da ho mi se : Int) (me cr pk sz : Nat) (gw gl : Bool) (pl : Nat) (ab : Option Addr) (cb : Nat) (B : List UInt8) (cu : Nat) (w : World) (hAm : Amb w) (hcr : cr < 4294967296) (h : ccode (lcode (chk nm) (Dos.rightB y mo da ho mi se) (me : Nat) (pk : Nat) (sz : Nat)) (pl : Nat) = 0) (hl : 300 < B.length) : Calls Tryd.prog 5 #[.agg #[.string nm, .int .i64 y, .int .i64 mo, .int .i64 da, .int .i64 ho, .int .i64 mi, .int .i64 se, .int .i64 (me : Nat), .int .u32 (cr : Nat), .int .i64 (pk : Nat), .int .i64 (sz : Nat), .bool gw, .bool gl, .int .i64 (pl : Nat)], .slice ab B.length cb, .int .u8 (cu : Nat)] w (CQ (.bool true) w) := by
  have HE := Lib.hid (fun W hA => cenc_any nm y mo da ho mi se me cr pk sz gw gl pl W hA hcr h)
  have t1 : decide (300 < (B.length : Int)) = true := by simp; omega
  generalize recC nm (dN y mo da) (cN ho mi se) me cr pk sz (fN nm gl) pl gw = X at *
  clear h hl
  have HA := Lib.hid (Own.new_at w [.string nm, .int .i64 y, .int .i64 mo, .int .i64 da, .int .i64 ho, .int .i64 mi, .int .i64 se, .int .i64 (me : Nat), .int .u32 (cr : Nat), .int .i64 (pk : Nat), .int .i64 (sz : Nat), .bool gw, .bool gl, .int .i64 (pl : Nat)] 28 w.heap.size rfl)
  have HZ := Lib.hid ((Below.refl w.heap.size w).alloc (Nat.le_refl _) (.cells #[.string nm, .int .i64 y, .int .i64 mo, .int .i64 da, .int .i64 ho, .int .i64 mi, .int .i64 se, .int .i64 (me : Nat), .int .u32 (cr : Nat), .int .i64 (pk : Nat), .int .i64 (sz : Nat), .bool gw, .bool gl, .int .i64 (pl : Nat)] 28))
  have HM := Lib.hid (fun (W : World) (hB : Below w.heap.size w W) => hAm.below hB)
  have HAW := Lib.hid (fun W => awakeC_any W)
  clear hAm
  go_enter Tryd.func5, Tryd.ntmps5
  go_wp2_with fail
  refine (HAW.out _ (HM.out _ HZ.out)).mono ?_
  rintro e w1 ⟨rfl, hb⟩
  have hs := hb.size
  simp only [World.size_alloc] at hs
  have HA := Lib.hid (HA.out.below hb (by simp))
  have HZ := Lib.hid (HZ.out.trans (hb.mono (by simp)))
  have hz0 : w.heap.size < w1.heap.size := by omega
  clear hb hs
  have k0 := HA.out.1 0 _ rfl
  have k1 := HA.out.1 1 _ rfl
  have k2 := HA.out.1 2 _ rfl
  have k3 := HA.out.1 3 _ rfl
  have k4 := HA.out.1 4 _ rfl
  have k5 := HA.out.1 5 _ rfl
  have k6 := HA.out.1 6 _ rfl
  have k7 := HA.out.1 7 _ rfl
  have k8 := HA.out.1 8 _ rfl
  have k9 := HA.out.1 9 _ rfl
  have k10 := HA.out.1 10 _ rfl
  have k11 := HA.out.1 11 _ rfl
  have k12 := HA.out.1 12 _ rfl
  have k13 := HA.out.1 13 _ rfl
  go_wp2_with fail
  refine (HE.out _ (HM.out _ HZ.out)).mono ?_
  rintro e w2 ⟨v, rfl, hv, hb⟩
  have hs := hb.size
  have HA := Lib.hid (HA.out.below hb (by omega))
  have HZ := Lib.hid (HZ.out.trans (hb.mono (by omega)))
  have hz1 : w.heap.size < w2.heap.size := by omega
  clear hb hs hz0 hv
  have hz0 := hz1
  clear hz1
  clear k0 k1 k2 k3 k4 k5 k6 k7 k8 k9 k10 k11 k12 k13
  go_wp2_with (fail)
  go_ret
  exact ⟨rfl, HZ.out⟩
set_option maxHeartbeats 8000000 in
set_option maxRecDepth 100000 in
theorem cb_yes (nm : ByteArray) (y mo da ho mi se : Int) (me cr pk sz : Nat) (gw gl : Bool) (pl : Nat) (ab : Option Addr) (cb : Nat) (B : List UInt8) (cu : Nat) (w : World) (hAm : Amb w) (hB : Byt w w.heap.size (.slice ab B.length cb) B) (hcu : cu < 256) (hcr : cr < 4294967296) (h : ccode (lcode (chk nm) (Dos.rightB y mo da ho mi se) (me : Nat) (pk : Nat) (sz : Nat)) (pl : Nat) = 0) (hl : B.length ≤ 300) : Calls Tryd.prog 5 #[.agg #[.string nm, .int .i64 y, .int .i64 mo, .int .i64 da, .int .i64 ho, .int .i64 mi, .int .i64 se, .int .i64 (me : Nat), .int .u32 (cr : Nat), .int .i64 (pk : Nat), .int .i64 (sz : Nat), .bool gw, .bool gl, .int .i64 (pl : Nat)], .slice ab B.length cb, .int .u8 (cu : Nat)] w (CQ (.bool true) w) := by
  have HE := Lib.hid (fun W hA => cenc_any nm y mo da ho mi se me cr pk sz gw gl pl W hA hcr h)
  obtain ⟨ha, hH, hE⟩ := recC_acd nm y mo da ho mi se me cr pk sz gw gl pl h hcr B
  have hcut := recC_cut nm y mo da ho mi se me cr pk sz gw gl pl h hcr
  have hlen : (recHC nm y mo da ho mi se me cr pk sz gw gl pl).length = 46 + nm.size + cond gw 28 0 := recC_len _ _ _ _ _ _ _ _ _ _
  have hnz := chk_size (lcode_0 (ccode_0 h).1).1
  have hX : (recHC nm y mo da ho mi se me cr pk sz gw gl pl).length ≤ 329 ∧ 47 ≤ (recHC nm y mo da ho mi se me cr pk sz gw gl pl).length := by
    rw [hlen]; cases gw <;> simp <;> omega
  change Hid (∀ W : World, Amb W → Calls Tryd.prog _ _ W (fun e w' => ∃ v, _ ∧ OB W.heap.size w' v (recHC nm y mo da ho mi se me cr pk sz gw gl pl) ∧ _)) at HE
  generalize recHC nm y mo da ho mi se me cr pk sz gw gl pl = X at *
  have HPB : Hid (∀ (a : Option Addr) (c : Nat) (W : World), Amb W → Byt W W.heap.size (.slice a (X ++ B).length c) (X ++ B) → (X ++ B).length ≤ c → Calls Tryd.prog 12 #[.slice a (X ++ B).length c, .int .i64 0] W fun e w' => e = .returned (.tuple #[.agg #[.string nm, .int .i64 y, .int .i64 mo, .int .i64 da, .int .i64 ho, .int .i64 mi, .int .i64 se, .int .i64 (me : Nat), .int .u32 (cr : Nat), .int .i64 (pk : Nat), .int .i64 (sz : Nat), .bool gw, .bool gl, .int .i64 (pl : Nat)], .int .i64 (X.length : Nat), .int .i64 0]) ∧ Below W.heap.size W w') := Lib.hid (fun a c W hA hW hc => by
    have := cparse_yes' a c (X ++ B) 0 W hW (by rw [List.length_append]; omega) hc hA (Nat.zero_le _) (by rw [List.drop_zero]; exact ha)
    rw [List.drop_zero, hH, hE, show ((0 : Nat) : Int) + ((X.length : Nat) : Int) = ((X.length : Nat) : Int) by omega] at this
    exact this)
  obtain ⟨k, hk⟩ : ∃ k, k = cu % X.length := ⟨_, rfl⟩
  have hkl : k < X.length := by rw [hk]; exact Nat.mod_lt _ (by omega)
  have HPC : Hid (∀ (a : Option Addr) (c : Nat) (W : World), Amb W → Byt W W.heap.size (.slice a k c) (X.take k) → k ≤ c → Calls Tryd.prog 12 #[.slice a k c, .int .i64 0] W fun e w' => ∃ z : Int, z ≠ 0 ∧ e = .returned (.tuple #[.agg #[.string ByteArray.empty, .int .i64 0, .int .i64 0, .int .i64 0, .int .i64 0, .int .i64 0, .int .i64 0, .int .i64 0, .int .u32 0, .int .i64 0, .int .i64 0, .bool false, .bool false, .int .i64 0], .int .i64 0, .int .i64 z]) ∧ Below W.heap.size W w') := Lib.hid (fun a c W hA hW hc => by
    have hlt : (X.take k).length = k := by rw [List.length_take]; omega
    have := cparse_no' a c (X.take k) 0 W (by rw [hlt]; exact hW) (by rw [hlt]; omega) (by rw [hlt]; exact hc) hA (Nat.zero_le _) (by rw [List.drop_zero]; exact hcut k hkl)
    rw [hlt] at this
    exact this)
  have HQ : Hid (IntKind.i64.wrap (cu : Int) = cu ∧ (cu : Int).tmod (X.length : Int) = (k : Int) ∧ IntKind.i64.wrap (k : Int) = k ∧ (cu : Int) % (X.length : Int) = (k : Int)) := Lib.hid ⟨IntWalk.i64_in _ (by omega), by rw [Int.tmod_eq_emod_of_nonneg (by omega), hk]; omega, IntWalk.i64_in _ (by omega), by rw [hk]; omega⟩
  have t1 : decide (300 < (B.length : Int)) = false := by simp; omega
  have t2 : ((X.length : Int) == 0) = false := by rw [beq_eq_false_iff_ne]; omega
  have HB0 := Lib.hid hB
  clear h hB hH hE ha hcut hlen hnz hk hcr hcu
  have HA := Lib.hid (Own.new_at w [.string nm, .int .i64 y, .int .i64 mo, .int .i64 da, .int .i64 ho, .int .i64 mi, .int .i64 se, .int .i64 (me : Nat), .int .u32 (cr : Nat), .int .i64 (pk : Nat), .int .i64 (sz : Nat), .bool gw, .bool gl, .int .i64 (pl : Nat)] 28 w.heap.size rfl)
  have HZ := Lib.hid ((Below.refl w.heap.size w).alloc (Nat.le_refl _) (.cells #[.string nm, .int .i64 y, .int .i64 mo, .int .i64 da, .int .i64 ho, .int .i64 mi, .int .i64 se, .int .i64 (me : Nat), .int .u32 (cr : Nat), .int .i64 (pk : Nat), .int .i64 (sz : Nat), .bool gw, .bool gl, .int .i64 (pl : Nat)] 28))
  have HM := Lib.hid (fun (W : World) (hB : Below w.heap.size w W) => hAm.below hB)
  have HAW := Lib.hid (fun W => awakeC_any W)
  clear hAm
  go_enter Tryd.func5, Tryd.ntmps5
  go_wp2_with fail
  refine (HAW.out _ (HM.out _ HZ.out)).mono ?_
  rintro e w1 ⟨rfl, hb⟩
  have hs := hb.size
  simp only [World.size_alloc] at hs
  have HA := Lib.hid (HA.out.below hb (by simp))
  have HZ := Lib.hid (HZ.out.trans (hb.mono (by simp)))
  have hz0 : w.heap.size < w1.heap.size := by omega
  clear hb hs
  have k0 := HA.out.1 0 _ rfl
  have k1 := HA.out.1 1 _ rfl
  have k2 := HA.out.1 2 _ rfl
  have k3 := HA.out.1 3 _ rfl
  have k4 := HA.out.1 4 _ rfl
  have k5 := HA.out.1 5 _ rfl
  have k6 := HA.out.1 6 _ rfl
  have k7 := HA.out.1 7 _ rfl
  have k8 := HA.out.1 8 _ rfl
  have k9 := HA.out.1 9 _ rfl
  have k10 := HA.out.1 10 _ rfl
  have k11 := HA.out.1 11 _ rfl
  have k12 := HA.out.1 12 _ rfl
  have k13 := HA.out.1 13 _ rfl
  go_wp2_with fail
  refine (HE.out _ (HM.out _ HZ.out)).mono ?_
  rintro e w2 ⟨v, rfl, hv, hb⟩
  have hs := hb.size
  have HA := Lib.hid (HA.out.below hb (by omega))
  have HZ := Lib.hid (HZ.out.trans (hb.mono (by omega)))
  have HV := Lib.hid hv.byt
  have hz1 : w.heap.size < w2.heap.size := by omega
  clear hb hs hz0 hv
  have hz0 := hz1
  clear hz1
  clear k0 k1 k2 k3 k4 k5 k6 k7 k8 k9 k10 k11 k12 k13
  obtain ⟨av, cv, hve⟩ := HV.out.slice
  subst hve
  have hbe := (Below.refl w2.heap.size w2).alloc (Nat.le_refl _) (.cells #[] 5)
  have HO := Lib.hid (OB.empty w2 (Nat.le_refl w2.heap.size))
  have HIN3 := Lib.hid ((HB0.out.below (HZ.out.trans (hbe.mono (by omega)))))
  have HV2 := Lib.hid (HV.out.below hbe)
  have HBE := Lib.hid hbe
  clear hbe
  go_wp2_with (at_builtin; refine append_OB rfl _ _ rfl rfl HO.out rfl HV2.out (by first | omega | (simp; omega)) (by simp) ?_)
  intro vb w4 ho hb
  have HO := Lib.hid ho
  have hs4 := hb.size
  simp only [World.size_alloc] at hs4
  have HIN3 := Lib.hid (HIN3.out.below (hb.mono (by omega)))
  have HBE := Lib.hid (HBE.out.trans hb)
  clear ho hb
  try simp only [List.nil_append] at HO
  go_wp2_with (at_builtin; refine append_OB rfl _ _ rfl rfl HO.out rfl HIN3.out (by omega) (by omega) ?_)
  intro vc w4b ho hb
  have HO := Lib.hid ho
  have hs4b := hb.size
  have HBE := Lib.hid (HBE.out.trans hb)
  clear ho hb
  have HV := Lib.hid ((HV.out.below HBE.out).mono (show w2.heap.size ≤ w4b.heap.size by omega))
  have HA := Lib.hid (HA.out.below HBE.out (by omega))
  have HZ := Lib.hid (HZ.out.trans (HBE.out.mono (by omega)))
  have hz1 : w.heap.size < w4b.heap.size := by omega
  clear hz0 hs4 hs4b HBE HV2 HIN3
  have hz0 := hz1
  clear hz1
  generalize X ++ B = AX at *
  obtain ⟨aa, ca, hva, hca⟩ := HO.out.form
  subst hva
  go_wp2_with fail
  refine (HPB.out aa ca _ (HM.out _ HZ.out) HO.out.byt hca).mono ?_
  rintro e w5 ⟨rfl, hb⟩
  have hs := hb.size
  have HA := Lib.hid (HA.out.below hb (by omega))
  have HZ := Lib.hid (HZ.out.trans (hb.mono (by omega)))
  have HV := Lib.hid ((HV.out.below hb).mono hb.size)
  have hz1 : w.heap.size < w5.heap.size := by omega
  clear hb hs hz0 
  have hz0 := hz1
  clear hz1
  clear HO hca
  have HT := Lib.hid (Own.new_at w5 [.string nm, .int .i64 y, .int .i64 mo, .int .i64 da, .int .i64 ho, .int .i64 mi, .int .i64 se, .int .i64 (me : Nat), .int .u32 (cr : Nat), .int .i64 (pk : Nat), .int .i64 (sz : Nat), .bool gw, .bool gl, .int .i64 (pl : Nat)] 28 w5.heap.size rfl)
  have hba := (Below.refl w5.heap.size w5).alloc (Nat.le_refl _) (.cells #[.string nm, .int .i64 y, .int .i64 mo, .int .i64 da, .int .i64 ho, .int .i64 mi, .int .i64 se, .int .i64 (me : Nat), .int .u32 (cr : Nat), .int .i64 (pk : Nat), .int .i64 (sz : Nat), .bool gw, .bool gl, .int .i64 (pl : Nat)] 28)
  have HA := Lib.hid (HA.out.below hba (by omega))
  have HV := Lib.hid (HV.out.below (hba.mono (by omega)))
  have HZ := Lib.hid (HZ.out.trans (hba.mono (by omega)))
  have hz_w6 : w5.heap.size < (w5.alloc (.cells #[.string nm, .int .i64 y, .int .i64 mo, .int .i64 da, .int .i64 ho, .int .i64 mi, .int .i64 se, .int .i64 (me : Nat), .int .u32 (cr : Nat), .int .i64 (pk : Nat), .int .i64 (sz : Nat), .bool gw, .bool gl, .int .i64 (pl : Nat)] 28)).heap.size := by simp
  clear hba
  go_upto_region 9 with (fail)
  generalize w5.alloc (.cells #[.string nm, .int .i64 y, .int .i64 mo, .int .i64 da, .int .i64 ho, .int .i64 mi, .int .i64 se, .int .i64 (me : Nat), .int .u32 (cr : Nat), .int .i64 (pk : Nat), .int .i64 (sz : Nat), .bool gw, .bool gl, .int .i64 (pl : Nat)] 28) = w6 at *
  generalize w5.heap.size = b9 at *
  have hcv : X.length ≤ cv := by
    rcases HV.out with ⟨a', c', hv, h2, _⟩ | ⟨b, off, c', hv, h3, _⟩
    · rw [h2]; exact Nat.zero_le _
    · injection hv with _ _ h5; omega
  obtain ⟨ak, ck, hsl, hck, hsb⟩ := cut_head HV.out hcv k (by omega)
  have HSB := Lib.hid hsb
  obtain ⟨q1, q2, q3, q4⟩ := HQ.out
  clear hsb hcv
  go_wp2_with (fail)
  refine (HPC.out ak ck _ (HM.out _ HZ.out) (HSB.out.mono (by omega)) hck).mono ?_
  rintro e w9 ⟨z, hz, rfl, hb⟩
  have tz : (z != 0) = true := by simpa using hz
  have HT := Lib.hid (HT.out.below hb (by omega))
  have HA := Lib.hid (HA.out.below hb (by omega))
  have HZ := Lib.hid (HZ.out.trans (hb.mono (by omega)))
  have hz9 : w.heap.size < w9.heap.size := by have := hb.size; omega
  have hz10 : b9 < w9.heap.size := by have := hb.size; omega
  clear hb hz q1 q2 q3 q4 hsl HSB
  have HT := Lib.hid (HT.out.below ((Below.refl w9.heap.size w9).alloc (Nat.le_refl _) (.cells #[.string ByteArray.empty, .int .i64 0, .int .i64 0, .int .i64 0, .int .i64 0, .int .i64 0, .int .i64 0, .int .i64 0, .int .u32 0, .int .i64 0, .int .i64 0, .bool false, .bool false, .int .i64 0] 28)) hz10)
  have HA := Lib.hid (HA.out.below ((Below.refl w9.heap.size w9).alloc (Nat.le_refl _) (.cells #[.string ByteArray.empty, .int .i64 0, .int .i64 0, .int .i64 0, .int .i64 0, .int .i64 0, .int .i64 0, .int .i64 0, .int .u32 0, .int .i64 0, .int .i64 0, .bool false, .bool false, .int .i64 0] 28)) hz9)
  have HZ := Lib.hid (HZ.out.alloc (Nat.le_of_lt hz9) (.cells #[.string ByteArray.empty, .int .i64 0, .int .i64 0, .int .i64 0, .int .i64 0, .int .i64 0, .int .i64 0, .int .i64 0, .int .u32 0, .int .i64 0, .int .i64 0, .bool false, .bool false, .int .i64 0] 28))
  go_upto_region 10 with (fail)
  generalize w9.alloc (.cells #[.string ByteArray.empty, .int .i64 0, .int .i64 0, .int .i64 0, .int .i64 0, .int .i64 0, .int .i64 0, .int .i64 0, .int .u32 0, .int .i64 0, .int .i64 0, .bool false, .bool false, .int .i64 0] 28) = w10 at *
  have y0 := HT.out.1 0 _ rfl
  have y1 := HT.out.1 1 _ rfl
  have y2 := HT.out.1 2 _ rfl
  have y3 := HT.out.1 3 _ rfl
  have y4 := HT.out.1 4 _ rfl
  have y5 := HT.out.1 5 _ rfl
  have y6 := HT.out.1 6 _ rfl
  have y7 := HT.out.1 7 _ rfl
  have y8 := HT.out.1 8 _ rfl
  have y9 := HT.out.1 9 _ rfl
  have y10 := HT.out.1 10 _ rfl
  have y11 := HT.out.1 11 _ rfl
  have y12 := HT.out.1 12 _ rfl
  have y13 := HT.out.1 13 _ rfl
  have x0 := HA.out.1 0 _ rfl
  have x1 := HA.out.1 1 _ rfl
  have x2 := HA.out.1 2 _ rfl
  have x3 := HA.out.1 3 _ rfl
  have x4 := HA.out.1 4 _ rfl
  have x5 := HA.out.1 5 _ rfl
  have x6 := HA.out.1 6 _ rfl
  have x7 := HA.out.1 7 _ rfl
  have x8 := HA.out.1 8 _ rfl
  have x9 := HA.out.1 9 _ rfl
  have x10 := HA.out.1 10 _ rfl
  have x11 := HA.out.1 11 _ rfl
  have x12 := HA.out.1 12 _ rfl
  have x13 := HA.out.1 13 _ rfl
  go_wp2_with (fail)
  go_ret
  exact ⟨rfl, HZ.out⟩
theorem cb_walk (nm : ByteArray) (y mo da ho mi se me cr pk sz : Int) (gw gl : Bool) (pl : Int) (ab : Option Addr) (cb : Nat) (B : List UInt8) (cu : Int) (w : World) (hAm : Amb w) (hB : Byt w w.heap.size (.slice ab B.length cb) B) (hcu0 : 0 ≤ cu) (hcu1 : cu ≤ 255) (hcr0 : 0 ≤ cr) (hcr1 : cr ≤ 4294967295) : Calls Tryd.prog 5 #[.agg #[.string nm, .int .i64 y, .int .i64 mo, .int .i64 da, .int .i64 ho, .int .i64 mi, .int .i64 se, .int .i64 me, .int .u32 cr, .int .i64 pk, .int .i64 sz, .bool gw, .bool gl, .int .i64 pl], .slice ab B.length cb, .int .u8 cu] w (CQ (.bool true) w) := by
  obtain ⟨cu, rfl⟩ : ∃ x : Nat, cu = x := ⟨cu.toNat, by omega⟩
  by_cases h : ccode (lcode (chk nm) (Dos.rightB y mo da ho mi se) me pk sz) pl = 0
  · obtain ⟨h0, hp0, hp1⟩ := ccode_0 h
    have h' := lcode_0 h0
    obtain ⟨cr, rfl⟩ : ∃ x : Nat, cr = x := ⟨cr.toNat, by omega⟩
    obtain ⟨pk, rfl⟩ : ∃ x : Nat, pk = x := ⟨pk.toNat, by omega⟩
    obtain ⟨sz, rfl⟩ : ∃ x : Nat, sz = x := ⟨sz.toNat, by omega⟩
    obtain ⟨me, rfl⟩ : ∃ x : Nat, me = x := ⟨me.toNat, by omega⟩
    obtain ⟨pl, rfl⟩ : ∃ x : Nat, pl = x := ⟨pl.toNat, by omega⟩
    by_cases hl : B.length ≤ 300
    · exact cb_yes nm y mo da ho mi se me cr pk sz gw gl pl ab cb B cu w hAm hB (by omega) (by omega) h hl
    · exact cb_long nm y mo da ho mi se me cr pk sz gw gl pl ab cb B cu w hAm (by omega) h (by omega)
  · exact cb_none nm y mo da ho mi se me cr pk sz gw gl pl ab cb B cu w hAm (by simpa using h)
end Go.Proofs.YtjkmgakgjoojfaaDoor
