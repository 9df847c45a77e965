/- The law DescCodes. -/
import Derived.Test.YtodjoccdjmmilaaDescE
namespace Go.Proofs.Ytodjoccdjmmilaa
open Go.RowKit
theorem cf_codes1 (cap : Array Value) (w : World) : (callFunc 14 cap).run Try.prog w = .ok (.enter 14 cap) w := by kernel_rfl
set_option maxHeartbeats 1000000 in
theorem codes1_ret (br bg rb q : Nat) (m : List UInt8) (x0 x1 x2 : Int) (x3 g : Bool) (W : World) (hr : W.cell? ⟨br, 0, none⟩ = some (.pointer (some ⟨rb, 0, none⟩))) (hg : W.cell? ⟨bg, 3, none⟩ = some (.bool g)) (hrb : rb < W.heap.size)
    (hcall : ∀ w : World, RD w rb m 0 → Calls Try.prog 15 #[.pointer (some ⟨rb, 0, none⟩), .bool g] w fun e w' => e = .returned (.agg #[.int .u32 x0, .int .i64 x1, .int .i64 x2, .bool x3]) ∧ RD w' rb m q ∧ Bx [rb] w.heap.size w w') (hd : RD W rb m 0) :
    Calls Try.prog 14 #[.pointer (some ⟨br, 0, none⟩), .pointer (some ⟨bg, 0, none⟩)] W fun e w' => e = .returned (.agg #[.int .u32 x0, .int .i64 x1, .int .i64 x2, .bool x3]) ∧ RD w' rb m q ∧ Bx [rb] W.heap.size W w' := by
  have HC := Lib.hid hcall
  have HBA := Lib.hid ((Below.refl W.heap.size W).alloc (Nat.le_refl _) (.cells #[.int .u32 0, .int .i64 0, .int .i64 0, .bool false] 24))
  have HD := Lib.hid (hd.below HBA.out)
  have HO := Lib.hid (Own.new_at W [.int .u32 0, .int .i64 0, .int .i64 0, .bool false] 24 W.heap.size rfl)
  have hbr : br < W.heap.size := World.block_lt_of_cell? W ⟨br, 0, none⟩ hr
  have hbg : bg < W.heap.size := World.block_lt_of_cell? W ⟨bg, 3, none⟩ hg
  clear hcall hd
  go_enter Try.func14, Try.ntmps14
  go_wp2_with fail
  refine (HC.out _ HD.out).mono ?_
  rintro e w1 ⟨rfl, hd, hb⟩
  have hs := hb.size
  simp only [World.size_alloc] at hs
  have HD := Lib.hid hd
  have HO := Lib.hid (HO.out.bx hb (by simp) (by simp; omega))
  have HB := Lib.hid ((Bx.of_below HBA.out : Bx [rb] W.heap.size W _).trans (hb.mono (by simp)))
  clear hd hb
  have z0 := HO.out.1 0 _ rfl
  have z1 := HO.out.1 1 _ rfl
  have z2 := HO.out.1 2 _ rfl
  have z3 := HO.out.1 3 _ rfl
  have hf := HO.out.2
  go_wp2
  refine bodyPost_ret (v := .agg #[.int .u32 x0, .int .i64 x1, .int .i64 x2, .bool x3]) (by simp [results, Try.results14, go_sem, z0, z1, z2, z3]) rfl ⟨rfl, ?_, ?_⟩
  · exact ((((HD.out.set_other (b := W.heap.size) hrb 0 _).set_other (b := W.heap.size) hrb 1 _).set_other (b := W.heap.size) hrb 2 _).set_other (b := W.heap.size) hrb 3 _)
  · exact ((((HB.out.setCell (.inr (by simp)) _).setCell (.inr (by simp)) _).setCell (.inr (by simp)) _).setCell (.inr (by simp)) _)
theorem codes1_throw (br bg rb q : Nat) (m : List UInt8) (c : Int) (g : Bool) (W : World) (hr : W.cell? ⟨br, 0, none⟩ = some (.pointer (some ⟨rb, 0, none⟩))) (hg : W.cell? ⟨bg, 3, none⟩ = some (.bool g))
    (hcall : ∀ w : World, RD w rb m 0 → Calls Try.prog 15 #[.pointer (some ⟨rb, 0, none⟩), .bool g] w fun e w' => e = .panicked (fault c) ∧ RD w' rb m q ∧ Bx [rb] w.heap.size w w') (hd : RD W rb m 0) :
    Calls Try.prog 14 #[.pointer (some ⟨br, 0, none⟩), .pointer (some ⟨bg, 0, none⟩)] W fun e w' => e = .panicked (fault c) ∧ RD w' rb m q ∧ Bx [rb] W.heap.size W w' := by
  have HC := Lib.hid hcall
  have HBA := Lib.hid ((Below.refl W.heap.size W).alloc (Nat.le_refl _) (.cells #[.int .u32 0, .int .i64 0, .int .i64 0, .bool false] 24))
  have HD := Lib.hid (hd.below HBA.out)
  have hbr : br < W.heap.size := World.block_lt_of_cell? W ⟨br, 0, none⟩ hr
  have hbg : bg < W.heap.size := World.block_lt_of_cell? W ⟨bg, 3, none⟩ hg
  clear hcall hd
  go_enter Try.func14, Try.ntmps14
  go_wp2_with fail
  refine (HC.out _ HD.out).mono ?_
  rintro e w1 ⟨rfl, hd, hb⟩
  have HD := Lib.hid hd
  have HB := Lib.hid ((Bx.of_below HBA.out : Bx [rb] W.heap.size W _).trans (hb.mono (by simp)))
  clear hd hb
  go_wp2
  exact ⟨rfl, rfl, HD.out, HB.out⟩
theorem full {w : World} {B : Nat} {ad : Option Addr} {c : Nat} {l : List UInt8} (h : Byt w B (.slice ad l.length c) l) (hc : l.length ≤ c) (k : Nat) (hk : k ≤ l.length) :
    ∃ ae ce, (∀ W : World, (Instr.slice 25 (.slice ad l.length c) (some (.int .i64 (k : Nat))) none none).run Try.prog W = .ok (.slice ae (l.drop k).length ce) W) ∧ (l.drop k).length ≤ ce ∧ Byt w B (.slice ae (l.drop k).length ce) (l.drop k) := by
  have hsl := fun W => slice_l (t := 25) (e := 5) (size := 1) rfl size_u8 ad l.length c (k : Int) (by omega) (by omega) W
  have hsb := sub_byt h k (l.length - k) (by omega)
  rw [Int.toNat_natCast] at hsl
  rw [List.take_of_length_le (by rw [List.length_drop]; omega)] at hsb
  rw [← List.length_drop] at hsl hsb
  exact ⟨_, _, hsl, by rw [List.length_drop]; omega, hsb⟩
set_option maxHeartbeats 4000000 in
set_option maxRecDepth 100000 in
theorem codes_yes_range (x p s : Nat) (g : Bool) (ad : Option Addr) (c : Nat) (l : List UInt8) (w : World) (h : Byt w w.heap.size (.slice ad l.length c) l) (hl : l.length ≤ 300) (hc : l.length ≤ c) (hx : x < 4294967296) (hd : descB p s = true) (at_ : Int) (hat : at_ < 0 ∨ (l.length : Int) < at_) : Calls Try.prog 4 #[.agg #[.int .u32 (x : Nat), .int .i64 (p : Nat), .int .i64 (s : Nat), .bool g], .slice ad l.length c, .int .i64 at_] w (lawQ w) := by
  have t0 : decide (300 < (l.length : Int)) = false := by simp; omega
  have HCK := Lib.hid (fun W => dcheck_any x p s g W)
  rw [hd] at HCK
  have HLN := Lib.hid (fun (y0 y1 y2 : Int) W => len_any y0 y1 y2 g W)
  have hwd := wd_bd g
  have HRE := Lib.hid (fun W => renc_yes x p s g W hx hd)
  have HEN := Lib.hid (fun W => denc_yes x p s g W hx hd)
  have hX : (descBytes x p s g).length = 8 + 2 * wd g := descBytes_len x p s g
  have HX : Hid (((descBytes x p s g).length : Int) = 8 + 2 * (wd g : Int)) := Lib.hid (by omega)
  have hX1 : 0 < (descBytes x p s g).length := by omega
  have hX2 : (((descBytes x p s g).length : Int) == 0) = false := by rw [beq_eq_false_iff_ne]; omega
  have hX3 : decide (0 < ((descBytes x p s g).length : Int)) = true := by simp; omega
  clear hX
  generalize descBytes x p s g = X at *
  clear hd
  have HPC := Lib.hid (fun (W : World) hW => dparse_range ad c l at_ g W hW (by omega) hc hat)
  have HH := Lib.hid h
  clear h
  have HA := Lib.hid (Cells.new_at w [.int .u32 (x : Nat), .int .i64 (p : Nat), .int .i64 (s : Nat), .bool g] 24 w.heap.size rfl)
  have HZ := Lib.hid ((Below.refl w.heap.size w).alloc (Nat.le_refl _) (.cells #[.int .u32 (x : Nat), .int .i64 (p : Nat), .int .i64 (s : Nat), .bool g] 24))
  go_enter Try.func4, Try.ntmps4
  go_wp2_with fail
  refine (awake_any _).mono ?_
  rintro e w1 ⟨rfl, hb⟩
  have hs := hb.size
  simp only [World.size_alloc] at hs
  have HA := Lib.hid (HA.out.below hb (by simp))
  have HZ := Lib.hid (HZ.out.trans (hb.mono (by simp)))
  have hz0 : w.heap.size ≤ w1.heap.size := by omega
  have hlA : w.heap.size < w1.heap.size := by omega
  clear hb hs
  have k0 := HA.out 0 _ rfl
  have k1 := HA.out 1 _ rfl
  have k2 := HA.out 2 _ rfl
  have k3 := HA.out 3 _ rfl
  go_wp2_with fail
  refine (HRE.out _).mono ?_
  rintro e w2 ⟨u, rfl, ho, hb⟩
  have hs := hb.size
  have HZ := Lib.hid (HZ.out.trans (hb.mono (by omega)))
  have HA := Lib.hid (HA.out.below hb (by omega))
  have HU := Lib.hid ho.byt
  have hlAx : w.heap.size < w2.heap.size := Nat.lt_of_lt_of_le hlA hb.size
  clear hlA
  have hlA := hlAx
  clear hlAx
  have hz1 : w.heap.size ≤ w2.heap.size := by omega
  clear ho hb hs hz0
  have hz0 := hz1
  clear hz1
  obtain ⟨au, cu, hue⟩ := HU.out.slice
  subst hue
  clear k0 k1 k2 k3
  have k0 := HA.out 0 _ rfl
  have k1 := HA.out 1 _ rfl
  have k2 := HA.out 2 _ rfl
  have k3 := HA.out 3 _ rfl
  go_wp2_with fail
  refine (HEN.out _).mono ?_
  rintro e w3 ⟨v, rfl, hv, hb⟩
  have hs := hb.size
  have HZ := Lib.hid (HZ.out.trans (hb.mono (by omega)))
  have HA := Lib.hid (HA.out.below hb (by omega))
  have HV := Lib.hid hv
  have HU := Lib.hid ((HU.out.below hb).mono hb.size)
  have hlAx : w.heap.size < w3.heap.size := Nat.lt_of_lt_of_le hlA hb.size
  clear hlA
  have hlA := hlAx
  clear hlAx
  have hz1 : w.heap.size ≤ w3.heap.size := by omega
  clear hv hb hs hz0
  have hz0 := hz1
  clear hz1
  obtain ⟨av, cv, hve⟩ := HV.out.slice
  subst hve
  clear k0 k1 k2 k3
  have k0 := HA.out 0 _ rfl
  have k1 := HA.out 1 _ rfl
  have k2 := HA.out 2 _ rfl
  have k3 := HA.out 3 _ rfl
  have hcv1 := convert_byt (src := 25) (dst := 9) (e := 5) rfl rfl rfl (HU.out)
  have hcv2 := convert_byt (src := 25) (dst := 9) (e := 5) rfl rfl rfl (HV.out)
  go_wp2_with fail
  clear hcv1 hcv2
  refine (HCK.out _).mono ?_
  rintro e w4 ⟨rfl, hb⟩
  have hs := hb.size
  have HZ := Lib.hid (HZ.out.trans (hb.mono (by omega)))
  have HA := Lib.hid (HA.out.below hb (by omega))
  have hlAx : w.heap.size < w4.heap.size := Nat.lt_of_lt_of_le hlA hb.size
  clear hlA
  have hlA := hlAx
  clear hlAx
  have hz1 : w.heap.size ≤ w4.heap.size := by omega
  clear hb hs hz0
  have hz0 := hz1
  clear hz1
  clear k0 k1 k2 k3
  have k0 := HA.out 0 _ rfl
  have k1 := HA.out 1 _ rfl
  have k2 := HA.out 2 _ rfl
  have k3 := HA.out 3 _ rfl
  have hxx := HX.out
  go_wp2_with fail
  refine (HLN.out x p s _).mono ?_
  rintro e w5 ⟨rfl, hb⟩
  have hs := hb.size
  have HZ := Lib.hid (HZ.out.trans (hb.mono (by omega)))
  have HA := Lib.hid (HA.out.below hb (by omega))
  have hlAx : w.heap.size < w5.heap.size := Nat.lt_of_lt_of_le hlA hb.size
  clear hlA
  have hlA := hlAx
  clear hlAx
  have hz1 : w.heap.size ≤ w5.heap.size := by omega
  clear hb hs hz0
  have hz0 := hz1
  clear hz1
  have hxx2 : (((X.length : Int) != 8 + 2 * (wd g : Int))) = false := by rw [HX.out]; simp
  clear hxx
  clear k0 k1 k2 k3
  have k0 := HA.out 0 _ rfl
  have k1 := HA.out 1 _ rfl
  have k2 := HA.out 2 _ rfl
  have k3 := HA.out 3 _ rfl
  go_wp2_with fail
  refine (HPC.out _ ((HH.out.below HZ.out).mono hz0)).mono ?_
  rintro e w6 ⟨rfl, hb⟩
  have hs := hb.size
  have HZ := Lib.hid (HZ.out.trans (hb.mono (by omega)))
  have HA := Lib.hid (HA.out.below hb (by omega))
  have hlAx : w.heap.size < w6.heap.size := Nat.lt_of_lt_of_le hlA hb.size
  clear hlA
  have hlA := hlAx
  clear hlAx
  have hz1 : w.heap.size ≤ w6.heap.size := by omega
  clear hb hs hz0
  have hz0 := hz1
  clear hz1
  clear k0 k1 k2 k3
  have HY := Lib.hid (Cells.new_at w6 [.int .u32 0, .int .i64 0, .int .i64 0, .bool false] 24 w6.heap.size rfl)
  have hba := (Below.refl w6.heap.size w6).alloc (Nat.le_refl _) (.cells #[.int .u32 0, .int .i64 0, .int .i64 0, .bool false] 24)
  have HA := Lib.hid (HA.out.below hba (by omega))
  have HZ := Lib.hid (HZ.out.trans (hba.mono (by omega)))
  have hlY : w6.heap.size < (w6.alloc (.cells #[.int .u32 0, .int .i64 0, .int .i64 0, .bool false] 24)).heap.size := by simp
  have hlA7 : w.heap.size < (w6.alloc (.cells #[.int .u32 0, .int .i64 0, .int .i64 0, .bool false] 24)).heap.size := by omega
  have hz7 : w.heap.size ≤ (w6.alloc (.cells #[.int .u32 0, .int .i64 0, .int .i64 0, .bool false] 24)).heap.size := by omega
  go_upto_region 10 with (fail)
  clear hba hlA hz0
  generalize w6.alloc (.cells #[.int .u32 0, .int .i64 0, .int .i64 0, .bool false] 24) = w7 at *
  have hlA := hlA7
  have hz0 := hz7
  clear hlA7 hz7
  generalize w6.heap.size = by_ at *
  rcases hat with hat | hat
  · have t1 : decide (at_ < 0) = true := by simpa using hat
    clear hat
    have y0 := HY.out 0 _ rfl
    have y1 := HY.out 1 _ rfl
    have y2 := HY.out 2 _ rfl
    have y3 := HY.out 3 _ rfl
    go_wp2
    go_ret
    exact ⟨rfl, HZ.out⟩
  · have t1 : decide (at_ < 0) = false := by simp; omega
    have t2 : decide ((l.length : Int) < at_) = true := by simpa using hat
    clear hat
    have y0 := HY.out 0 _ rfl
    have y1 := HY.out 1 _ rfl
    have y2 := HY.out 2 _ rfl
    have y3 := HY.out 3 _ rfl
    go_wp2
    go_ret
    exact ⟨rfl, HZ.out⟩
set_option maxHeartbeats 4000000 in
set_option maxRecDepth 100000 in
theorem codes_yes_fail (x p s : Nat) (g : Bool) (ad : Option Addr) (c : Nat) (l : List UInt8) (w : World) (h : Byt w w.heap.size (.slice ad l.length c) l) (hl : l.length ≤ 300) (hc : l.length ≤ c) (hx : x < 4294967296) (hd : descB p s = true) (at_ : Nat) (hat : at_ ≤ l.length) (code code2 : Int) (hcd : code ≠ 0) (hcd2 : code2 ≠ 0) (q : Nat) (hP : ∀ W : World, Byt W W.heap.size (.slice ad l.length c) l → Calls Try.prog 7 #[.slice ad l.length c, .int .i64 (at_ : Nat), .bool g] W fun e w' => e = .returned (.tuple #[.agg #[.int .u32 0, .int .i64 0, .int .i64 0, .bool false], .int .i64 0, .int .i64 code]) ∧ Below W.heap.size W w') (hR : ∀ (ae : Option Addr) (ce : Nat) (W : World), Byt W W.heap.size (.slice ae (l.drop at_).length ce) (l.drop at_) → (l.drop at_).length ≤ ce → Calls Try.prog 11 #[.slice ae (l.drop at_).length ce, .bool g] W fun e w' => e = .returned (.tuple #[.int .u32 0, .int .i64 0, .int .i64 0, .bool false]) ∧ Below W.heap.size W w') (hT : ∀ (rb : Nat) (W : World), RD W rb (l.drop at_) 0 → Calls Try.prog 15 #[.pointer (some ⟨rb, 0, none⟩), .bool g] W fun e w' => e = .panicked (fault code2) ∧ RD w' rb (l.drop at_) q ∧ Bx [rb] W.heap.size W w') : Calls Try.prog 4 #[.agg #[.int .u32 (x : Nat), .int .i64 (p : Nat), .int .i64 (s : Nat), .bool g], .slice ad l.length c, .int .i64 (at_ : Nat)] w (lawQ w) := by
  have t0 : decide (300 < (l.length : Int)) = false := by simp; omega
  have HCK := Lib.hid (fun W => dcheck_any x p s g W)
  rw [hd] at HCK
  have HLN := Lib.hid (fun (y0 y1 y2 : Int) W => len_any y0 y1 y2 g W)
  have hwd := wd_bd g
  have HRE := Lib.hid (fun W => renc_yes x p s g W hx hd)
  have HEN := Lib.hid (fun W => denc_yes x p s g W hx hd)
  have hX : (descBytes x p s g).length = 8 + 2 * wd g := descBytes_len x p s g
  have HX : Hid (((descBytes x p s g).length : Int) = 8 + 2 * (wd g : Int)) := Lib.hid (by omega)
  have hX1 : 0 < (descBytes x p s g).length := by omega
  have hX2 : (((descBytes x p s g).length : Int) == 0) = false := by rw [beq_eq_false_iff_ne]; omega
  have hX3 : decide (0 < ((descBytes x p s g).length : Int)) = true := by simp; omega
  clear hX
  generalize descBytes x p s g = X at *
  clear hd
  have t1 : decide ((at_ : Int) < 0) = false := by simp
  have t2 : decide ((l.length : Int) < (at_ : Int)) = false := by simp; omega
  have HPC := Lib.hid hP
  have HRC := Lib.hid hR
  have HTC := Lib.hid hT
  obtain ⟨ae, ce, hfs, hfc, hfb⟩ := full h hc at_ hat
  have HFS := Lib.hid hfs
  have HFB := Lib.hid hfb
  have hfl : (l.drop at_).length ≤ 300 := by rw [List.length_drop]; omega
  clear hP hR hT hfs hfb
  generalize l.drop at_ = m at *
  have tcd : (code != 0) = true := by simpa using hcd
  have tcd2 : (code2 != 0) = true := by simpa using hcd2
  clear hcd hcd2
  have HH := Lib.hid h
  clear h
  have HA := Lib.hid (Cells.new_at w [.int .u32 (x : Nat), .int .i64 (p : Nat), .int .i64 (s : Nat), .bool g] 24 w.heap.size rfl)
  have HZ := Lib.hid ((Below.refl w.heap.size w).alloc (Nat.le_refl _) (.cells #[.int .u32 (x : Nat), .int .i64 (p : Nat), .int .i64 (s : Nat), .bool g] 24))
  go_enter Try.func4, Try.ntmps4
  go_wp2_with fail
  refine (awake_any _).mono ?_
  rintro e w1 ⟨rfl, hb⟩
  have hs := hb.size
  simp only [World.size_alloc] at hs
  have HA := Lib.hid (HA.out.below hb (by simp))
  have HZ := Lib.hid (HZ.out.trans (hb.mono (by simp)))
  have hz0 : w.heap.size ≤ w1.heap.size := by omega
  have hlA : w.heap.size < w1.heap.size := by omega
  clear hb hs
  have k0 := HA.out 0 _ rfl
  have k1 := HA.out 1 _ rfl
  have k2 := HA.out 2 _ rfl
  have k3 := HA.out 3 _ rfl
  go_wp2_with fail
  refine (HRE.out _).mono ?_
  rintro e w2 ⟨u, rfl, ho, hb⟩
  have hs := hb.size
  have HZ := Lib.hid (HZ.out.trans (hb.mono (by omega)))
  have HA := Lib.hid (HA.out.below hb (by omega))
  have HU := Lib.hid ho.byt
  have hlAx : w.heap.size < w2.heap.size := Nat.lt_of_lt_of_le hlA hb.size
  clear hlA
  have hlA := hlAx
  clear hlAx
  have hz1 : w.heap.size ≤ w2.heap.size := by omega
  clear ho hb hs hz0
  have hz0 := hz1
  clear hz1
  obtain ⟨au, cu, hue⟩ := HU.out.slice
  subst hue
  clear k0 k1 k2 k3
  have k0 := HA.out 0 _ rfl
  have k1 := HA.out 1 _ rfl
  have k2 := HA.out 2 _ rfl
  have k3 := HA.out 3 _ rfl
  go_wp2_with fail
  refine (HEN.out _).mono ?_
  rintro e w3 ⟨v, rfl, hv, hb⟩
  have hs := hb.size
  have HZ := Lib.hid (HZ.out.trans (hb.mono (by omega)))
  have HA := Lib.hid (HA.out.below hb (by omega))
  have HV := Lib.hid hv
  have HU := Lib.hid ((HU.out.below hb).mono hb.size)
  have hlAx : w.heap.size < w3.heap.size := Nat.lt_of_lt_of_le hlA hb.size
  clear hlA
  have hlA := hlAx
  clear hlAx
  have hz1 : w.heap.size ≤ w3.heap.size := by omega
  clear hv hb hs hz0
  have hz0 := hz1
  clear hz1
  obtain ⟨av, cv, hve⟩ := HV.out.slice
  subst hve
  clear k0 k1 k2 k3
  have k0 := HA.out 0 _ rfl
  have k1 := HA.out 1 _ rfl
  have k2 := HA.out 2 _ rfl
  have k3 := HA.out 3 _ rfl
  have hcv1 := convert_byt (src := 25) (dst := 9) (e := 5) rfl rfl rfl (HU.out)
  have hcv2 := convert_byt (src := 25) (dst := 9) (e := 5) rfl rfl rfl (HV.out)
  go_wp2_with fail
  clear hcv1 hcv2
  refine (HCK.out _).mono ?_
  rintro e w4 ⟨rfl, hb⟩
  have hs := hb.size
  have HZ := Lib.hid (HZ.out.trans (hb.mono (by omega)))
  have HA := Lib.hid (HA.out.below hb (by omega))
  have hlAx : w.heap.size < w4.heap.size := Nat.lt_of_lt_of_le hlA hb.size
  clear hlA
  have hlA := hlAx
  clear hlAx
  have hz1 : w.heap.size ≤ w4.heap.size := by omega
  clear hb hs hz0
  have hz0 := hz1
  clear hz1
  clear k0 k1 k2 k3
  have k0 := HA.out 0 _ rfl
  have k1 := HA.out 1 _ rfl
  have k2 := HA.out 2 _ rfl
  have k3 := HA.out 3 _ rfl
  have hxx := HX.out
  go_wp2_with fail
  refine (HLN.out x p s _).mono ?_
  rintro e w5 ⟨rfl, hb⟩
  have hs := hb.size
  have HZ := Lib.hid (HZ.out.trans (hb.mono (by omega)))
  have HA := Lib.hid (HA.out.below hb (by omega))
  have hlAx : w.heap.size < w5.heap.size := Nat.lt_of_lt_of_le hlA hb.size
  clear hlA
  have hlA := hlAx
  clear hlAx
  have hz1 : w.heap.size ≤ w5.heap.size := by omega
  clear hb hs hz0
  have hz0 := hz1
  clear hz1
  have hxx2 : (((X.length : Int) != 8 + 2 * (wd g : Int))) = false := by rw [HX.out]; simp
  clear hxx
  clear k0 k1 k2 k3
  have k0 := HA.out 0 _ rfl
  have k1 := HA.out 1 _ rfl
  have k2 := HA.out 2 _ rfl
  have k3 := HA.out 3 _ rfl
  go_wp2_with fail
  refine (HPC.out _ ((HH.out.below HZ.out).mono hz0)).mono ?_
  rintro e w6 ⟨rfl, hb⟩
  have hs := hb.size
  have HZ := Lib.hid (HZ.out.trans (hb.mono (by omega)))
  have HA := Lib.hid (HA.out.below hb (by omega))
  have hlAx : w.heap.size < w6.heap.size := Nat.lt_of_lt_of_le hlA hb.size
  clear hlA
  have hlA := hlAx
  clear hlAx
  have hz1 : w.heap.size ≤ w6.heap.size := by omega
  clear hb hs hz0
  have hz0 := hz1
  clear hz1
  clear k0 k1 k2 k3
  have HY := Lib.hid (Cells.new_at w6 [.int .u32 0, .int .i64 0, .int .i64 0, .bool false] 24 w6.heap.size rfl)
  have hba := (Below.refl w6.heap.size w6).alloc (Nat.le_refl _) (.cells #[.int .u32 0, .int .i64 0, .int .i64 0, .bool false] 24)
  have HA := Lib.hid (HA.out.below hba (by omega))
  have HZ := Lib.hid (HZ.out.trans (hba.mono (by omega)))
  have hlY : w6.heap.size < (w6.alloc (.cells #[.int .u32 0, .int .i64 0, .int .i64 0, .bool false] 24)).heap.size := by simp
  have hlA7 : w.heap.size < (w6.alloc (.cells #[.int .u32 0, .int .i64 0, .int .i64 0, .bool false] 24)).heap.size := by omega
  have hz7 : w.heap.size ≤ (w6.alloc (.cells #[.int .u32 0, .int .i64 0, .int .i64 0, .bool false] 24)).heap.size := by omega
  go_upto_region 10 with (fail)
  clear hba hlA hz0
  generalize w6.alloc (.cells #[.int .u32 0, .int .i64 0, .int .i64 0, .bool false] 24) = w7 at *
  have hlA := hlA7
  have hz0 := hz7
  clear hlA7 hz7
  generalize w6.heap.size = by_ at *
  go_wp2_with fail
  refine Mono.region_below (by kernel_rfl) (by kernel_rfl) (by kernel_rfl) ?_
  refine Mono.rgl_val (v := ?v0) rfl Mono.rr (fun ρ a W hR hd hf => ?h0) ?_
  case h0 =>
    have e1 := Mono.init_get hf (t := 1) (by kernel_rfl)
    clear hd hf
    (go_simp; try with_reducible rfl)
  refine Mono.rgl_val (v := ?v1) rfl Mono.rr (fun ρ a W hR hd hf => ?h1) ?_
  case h1 =>
    have e2 := Mono.init_get hf (t := 2) (by kernel_rfl)
    clear hd hf
    (go_simp; try with_reducible rfl)
  refine Mono.rgl_val (v := .slice ae m.length ce) rfl Mono.rr (fun ρ a W hR hd hf => ?h2) ?_
  case h2 =>
    have e108 := Mono.dep_val hd hf (t := 108) (k := 0) (by kernel_rfl) rfl
    have e109 := Mono.dep_val hd hf (t := 109) (k := 1) (by kernel_rfl) rfl
    have hsl := HFS.out W
    clear hd hf
    (go_simp)
  refine Mono.rgl_val (v := ?v3) rfl Mono.rr (fun ρ a W hR hd hf => ?h3) ?_
  case h3 =>
    have e3 := Mono.init_get hf (t := 3) (by kernel_rfl)
    clear hd hf
    (go_simp; try with_reducible rfl)
  refine Mono.rgl_val (v := ?v4) rfl Mono.rr (fun ρ a W hR hd hf => ?h4) ?_
  case h4 =>
    have e111 := Mono.dep_val hd hf (t := 111) (k := 3) (by kernel_rfl) rfl
    have hk := (HA.out.below hR (by omega) : Cells W _ _) 3 _ rfl
    clear hd hf
    (go_simp; try with_reducible rfl)
  refine Mono.rgl_call (fun x _ => x = .tuple #[.int .u32 0, .int .i64 0, .int .i64 0, .bool false]) rfl Mono.rr (fun _ _ _ h _ => h) (fun ρ a W hR hd hf => ?h5) ?_
  case h5 =>
    have e110 := Mono.dep_val hd hf (t := 110) (k := 2) (by kernel_rfl) rfl
    have e112 := Mono.dep_val hd hf (t := 112) (k := 4) (by kernel_rfl) rfl
    clear hd hf
    refine ⟨_, _, by go_simp; first | rfl | exact ⟨rfl, rfl⟩, ?_⟩
    exact (HRC.out ae ce W (((HFB.out.below HZ.out).mono hz0).below hR |>.mono hR.size) hfc).mono (fun e W' ⟨he, hb⟩ => ⟨_, he, hb, rfl⟩)
  refine Mono.rgl_val (v := ?v6) rfl Mono.rr (fun ρ a W hR hd hf => ?h6) ?_
  case h6 =>
    have e113 := Mono.dep_val hd hf (t := 113) (k := 5) (by kernel_rfl) rfl
    clear hd hf
    (go_simp; try with_reducible rfl)
  refine Mono.rgl_val (v := ?v7) rfl Mono.rr (fun ρ a W hR hd hf => ?h7) ?_
  case h7 =>
    have e107 := Mono.dep_val hd hf (t := 107) (k := 6) (by kernel_rfl) rfl
    clear hd hf
    (go_simp; try with_reducible rfl)
  refine Mono.rgl_val (v := ?v8) rfl Mono.rr (fun ρ a W hR hd hf => ?h8) ?_
  case h8 =>
    have e107 := Mono.dep_val hd hf (t := 107) (k := 6) (by kernel_rfl) rfl
    clear hd hf
    (go_simp; try with_reducible rfl)
  refine Mono.rgl_val (v := ?v9) rfl Mono.rr (fun ρ a W hR hd hf => ?h9) ?_
  case h9 =>
    have e107 := Mono.dep_val hd hf (t := 107) (k := 6) (by kernel_rfl) rfl
    clear hd hf
    (go_simp; try with_reducible rfl)
  refine Mono.rgl_val (v := ?v10) rfl Mono.rr (fun ρ a W hR hd hf => ?h10) ?_
  case h10 =>
    have e107 := Mono.dep_val hd hf (t := 107) (k := 6) (by kernel_rfl) rfl
    clear hd hf
    (go_simp; try with_reducible rfl)
  refine Mono.rgl_val (v := ?v11) rfl Mono.rr (fun ρ a W hR hd hf => ?h11) ?_
  case h11 =>
    have e114 := Mono.dep_val hd hf (t := 114) (k := 7) (by kernel_rfl) rfl
    clear hd hf
    (go_simp; try with_reducible rfl)
  refine Mono.rgl_val (v := ?v12) rfl Mono.rr (fun ρ a W hR hd hf => ?h12) ?_
  case h12 =>
    have e115 := Mono.dep_val hd hf (t := 115) (k := 8) (by kernel_rfl) rfl
    clear hd hf
    (go_simp; try with_reducible rfl)
  refine Mono.rgl_val (v := ?v13) rfl Mono.rr (fun ρ a W hR hd hf => ?h13) ?_
  case h13 =>
    have e116 := Mono.dep_val hd hf (t := 116) (k := 9) (by kernel_rfl) rfl
    clear hd hf
    (go_simp; try with_reducible rfl)
  refine Mono.rgl_val (v := ?v14) rfl Mono.rr (fun ρ a W hR hd hf => ?h14) ?_
  case h14 =>
    have e117 := Mono.dep_val hd hf (t := 117) (k := 10) (by kernel_rfl) rfl
    clear hd hf
    (go_simp; try with_reducible rfl)
  refine Mono.rgl_done rfl (fun ρ W hR ht => ?_)
  obtain ⟨d14, d13, d12, d11, d10, d9, d8, d7, d6, d5, d4, d3, d2, d1, d0, _⟩ := ht
  simp only [List.length_cons, List.length_nil, Nat.reduceAdd] at d0 d1 d2 d3 d4 d5 d6 d7 d8 d9 d10 d11 d12 d13 d14
  simp only [Mono.putAll, Nat.reduceAdd, d0, d1, d2, d3, d4, d5, d6, d7, d8, d9, d10, d11, d12, d13, d14, Act.put, List.setIfInBounds_toArray, List.set_cons_zero, List.set_cons_succ]
  clear d0 d1 d2 d3 d4 d5 d6 d7 d8 d9 d10 d11 d12 d13 d14
  have HA := Lib.hid (HA.out.below hR (by omega))
  have HY := Lib.hid (HY.out.below hR (by omega))
  have HZ := Lib.hid (HZ.out.trans (hR.mono (by omega)))
  have hlA8 : w.heap.size < W.heap.size := Nat.lt_of_lt_of_le hlA hR.size
  have hlY8 : by_ < W.heap.size := Nat.lt_of_lt_of_le hlY hR.size
  clear hR hlA hlY hz0
  have hlA := hlA8
  have hlY := hlY8
  have hz0 : w.heap.size ≤ W.heap.size := by omega
  clear hlA8 hlY8
  obtain ⟨w8, rfl⟩ : ∃ z, z = W := ⟨_, rfl⟩
  have hsl := HFS.out
  go_wp2_with fail
  clear hsl
  refine (over_any ((HFB.out.below HZ.out).mono hz0) (by omega)).mono ?_
  rintro e w9 ⟨rb, rfl, hrb0, hd, hb⟩
  have hrb1 : rb < w9.heap.size := by obtain ⟨_, _, _, _, _, _, _, h6⟩ := hd; exact h6
  have HD := Lib.hid hd
  have HA := Lib.hid (HA.out.below hb (by omega))
  have HY := Lib.hid (HY.out.below hb (by omega))
  have HZ := Lib.hid (HZ.out.trans (hb.mono (by omega)))
  have hs9 := hb.size
  clear hd hb
  have HR := Lib.hid (Own.new_at w9 [.pointer (some ⟨rb, 0, none⟩)] 38 w9.heap.size rfl)
  have hba := (Below.refl w9.heap.size w9).alloc (Nat.le_refl _) (.cells #[.pointer (some ⟨rb, 0, none⟩)] 38)
  have HD := Lib.hid (HD.out.below hba)
  have HA := Lib.hid (HA.out.below hba (by omega))
  have HY := Lib.hid (HY.out.below hba (by omega))
  have HZ := Lib.hid (HZ.out.trans (hba.mono (by omega)))
  have hz9 : w9.heap.size < (w9.alloc (.cells #[.pointer (some ⟨rb, 0, none⟩)] 38)).heap.size := by simp
  go_upto_region 14 with (fail)
  clear hba
  generalize w9.alloc (.cells #[.pointer (some ⟨rb, 0, none⟩)] 38) = w10 at *
  generalize w9.heap.size = br at *
  have HTR := Lib.hid (tryD_throw 14 #[.pointer (some ⟨br, 0, none⟩), .pointer (some ⟨w.heap.size, 0, none⟩)] w10 rb q m code2 (by omega) (fun W => cf_codes1 _ W) (fun W hW => codes1_throw br w.heap.size rb q m code2 g W ((hW.cell (p := ⟨br, 0, none⟩) (by show br < _; omega)).trans (HR.out.1 0 _ rfl)) ((hW.cell (p := ⟨w.heap.size, 3, none⟩) (by show w.heap.size < _; omega)).trans (HA.out 3 _ rfl)) (HTC.out rb) (HD.out.below hW)))
  have hmf : ∀ (fn : Fn) (first cap : Array Value) (w : World), (Instr.makeFunc fn first cap).run Try.prog w = .ok (.func fn first cap) w := fun _ _ _ _ => rfl
  go_wp2_with fail
  refine HTR.out.mono ?_
  rintro e w11 ⟨rfl, hd, hb⟩
  have hs11 := hb.size
  have HA := Lib.hid (HA.out.bx hb (by omega) (by simp; omega))
  have HY := Lib.hid (HY.out.bx hb (by omega) (by simp; omega))
  have HZ := Lib.hid (HZ.out.trans (hb.below (C := w.heap.size) (by omega) (by simp; omega)))
  clear hd hb HTR hmf
  have HQ := Lib.hid (Cells.new_at w11 [.int .u32 0, .int .i64 0, .int .i64 0, .bool false] 24 w11.heap.size rfl)
  have hba := (Below.refl w11.heap.size w11).alloc (Nat.le_refl _) (.cells #[.int .u32 0, .int .i64 0, .int .i64 0, .bool false] 24)
  have HA := Lib.hid (HA.out.below hba (by omega))
  have HY := Lib.hid (HY.out.below hba (by omega))
  have HZ := Lib.hid (HZ.out.trans (hba.mono (by omega)))
  have hz12 : w11.heap.size < (w11.alloc (.cells #[.int .u32 0, .int .i64 0, .int .i64 0, .bool false] 24)).heap.size := by simp
  go_upto_region 15 with (fail)
  clear hba
  generalize w11.alloc (.cells #[.int .u32 0, .int .i64 0, .int .i64 0, .bool false] 24) = w12 at *
  generalize w11.heap.size = bq at *
  have y0 := HY.out 0 _ rfl
  have y1 := HY.out 1 _ rfl
  have y2 := HY.out 2 _ rfl
  have y3 := HY.out 3 _ rfl
  go_wp2
  go_ret
  exact ⟨rfl, HZ.out⟩
set_option maxHeartbeats 4000000 in
set_option maxRecDepth 100000 in
theorem codes_yes_ok (x p s : Nat) (g : Bool) (ad : Option Addr) (c : Nat) (l : List UInt8) (w : World) (h : Byt w w.heap.size (.slice ad l.length c) l) (hl : l.length ≤ 300) (hc : l.length ≤ c) (hx : x < 4294967296) (hd : descB p s = true) (at_ : Nat) (hat : at_ ≤ l.length) (y0 y1 y2 : Int) (q : Nat) (hP : ∀ W : World, Byt W W.heap.size (.slice ad l.length c) l → Calls Try.prog 7 #[.slice ad l.length c, .int .i64 (at_ : Nat), .bool g] W fun e w' => e = .returned (.tuple #[.agg #[.int .u32 y0, .int .i64 y1, .int .i64 y2, .bool g], .int .i64 ((at_ : Int) + ((8 + wd g + wd g : Nat) : Int)), .int .i64 0]) ∧ Below W.heap.size W w') (hR : ∀ (ae : Option Addr) (ce : Nat) (W : World), Byt W W.heap.size (.slice ae (l.drop at_).length ce) (l.drop at_) → (l.drop at_).length ≤ ce → Calls Try.prog 11 #[.slice ae (l.drop at_).length ce, .bool g] W fun e w' => e = .returned (.tuple #[.int .u32 y0, .int .i64 y1, .int .i64 y2, .bool true]) ∧ Below W.heap.size W w') (hT : ∀ (rb : Nat) (W : World), RD W rb (l.drop at_) 0 → Calls Try.prog 15 #[.pointer (some ⟨rb, 0, none⟩), .bool g] W fun e w' => e = .returned (.agg #[.int .u32 y0, .int .i64 y1, .int .i64 y2, .bool g]) ∧ RD w' rb (l.drop at_) q ∧ Bx [rb] W.heap.size W w') : Calls Try.prog 4 #[.agg #[.int .u32 (x : Nat), .int .i64 (p : Nat), .int .i64 (s : Nat), .bool g], .slice ad l.length c, .int .i64 (at_ : Nat)] w (lawQ w) := by
  have t0 : decide (300 < (l.length : Int)) = false := by simp; omega
  have HCK := Lib.hid (fun W => dcheck_any x p s g W)
  rw [hd] at HCK
  have HLN := Lib.hid (fun (y0 y1 y2 : Int) W => len_any y0 y1 y2 g W)
  have hwd := wd_bd g
  have HRE := Lib.hid (fun W => renc_yes x p s g W hx hd)
  have HEN := Lib.hid (fun W => denc_yes x p s g W hx hd)
  have hX : (descBytes x p s g).length = 8 + 2 * wd g := descBytes_len x p s g
  have HX : Hid (((descBytes x p s g).length : Int) = 8 + 2 * (wd g : Int)) := Lib.hid (by omega)
  have hX1 : 0 < (descBytes x p s g).length := by omega
  have hX2 : (((descBytes x p s g).length : Int) == 0) = false := by rw [beq_eq_false_iff_ne]; omega
  have hX3 : decide (0 < ((descBytes x p s g).length : Int)) = true := by simp; omega
  clear hX
  generalize descBytes x p s g = X at *
  clear hd
  have t1 : decide ((at_ : Int) < 0) = false := by simp
  have t2 : decide ((l.length : Int) < (at_ : Int)) = false := by simp; omega
  have HPC := Lib.hid hP
  have HRC := Lib.hid hR
  have HTC := Lib.hid hT
  obtain ⟨ae, ce, hfs, hfc, hfb⟩ := full h hc at_ hat
  have HFS := Lib.hid hfs
  have HFB := Lib.hid hfb
  have hfl : (l.drop at_).length ≤ 300 := by rw [List.length_drop]; omega
  clear hP hR hT hfs hfb
  generalize l.drop at_ = m at *
  have HWR : Hid (IntKind.i64.wrap ((at_ : Int) + (8 + 2 * (wd g : Int))) = (at_ : Int) + (8 + 2 * (wd g : Int))) := Lib.hid (IntWalk.i64_in _ (by omega))
  have HWE : Hid ((at_ : Int) + ((8 + wd g + wd g : Nat) : Int) = (at_ : Int) + (8 + 2 * (wd g : Int))) := Lib.hid (by omega)
  rw [HWE.out] at HPC
  have HH := Lib.hid h
  clear h
  have HA := Lib.hid (Cells.new_at w [.int .u32 (x : Nat), .int .i64 (p : Nat), .int .i64 (s : Nat), .bool g] 24 w.heap.size rfl)
  have HZ := Lib.hid ((Below.refl w.heap.size w).alloc (Nat.le_refl _) (.cells #[.int .u32 (x : Nat), .int .i64 (p : Nat), .int .i64 (s : Nat), .bool g] 24))
  go_enter Try.func4, Try.ntmps4
  go_wp2_with fail
  refine (awake_any _).mono ?_
  rintro e w1 ⟨rfl, hb⟩
  have hs := hb.size
  simp only [World.size_alloc] at hs
  have HA := Lib.hid (HA.out.below hb (by simp))
  have HZ := Lib.hid (HZ.out.trans (hb.mono (by simp)))
  have hz0 : w.heap.size ≤ w1.heap.size := by omega
  have hlA : w.heap.size < w1.heap.size := by omega
  clear hb hs
  have k0 := HA.out 0 _ rfl
  have k1 := HA.out 1 _ rfl
  have k2 := HA.out 2 _ rfl
  have k3 := HA.out 3 _ rfl
  go_wp2_with fail
  refine (HRE.out _).mono ?_
  rintro e w2 ⟨u, rfl, ho, hb⟩
  have hs := hb.size
  have HZ := Lib.hid (HZ.out.trans (hb.mono (by omega)))
  have HA := Lib.hid (HA.out.below hb (by omega))
  have HU := Lib.hid ho.byt
  have hlAx : w.heap.size < w2.heap.size := Nat.lt_of_lt_of_le hlA hb.size
  clear hlA
  have hlA := hlAx
  clear hlAx
  have hz1 : w.heap.size ≤ w2.heap.size := by omega
  clear ho hb hs hz0
  have hz0 := hz1
  clear hz1
  obtain ⟨au, cu, hue⟩ := HU.out.slice
  subst hue
  clear k0 k1 k2 k3
  have k0 := HA.out 0 _ rfl
  have k1 := HA.out 1 _ rfl
  have k2 := HA.out 2 _ rfl
  have k3 := HA.out 3 _ rfl
  go_wp2_with fail
  refine (HEN.out _).mono ?_
  rintro e w3 ⟨v, rfl, hv, hb⟩
  have hs := hb.size
  have HZ := Lib.hid (HZ.out.trans (hb.mono (by omega)))
  have HA := Lib.hid (HA.out.below hb (by omega))
  have HV := Lib.hid hv
  have HU := Lib.hid ((HU.out.below hb).mono hb.size)
  have hlAx : w.heap.size < w3.heap.size := Nat.lt_of_lt_of_le hlA hb.size
  clear hlA
  have hlA := hlAx
  clear hlAx
  have hz1 : w.heap.size ≤ w3.heap.size := by omega
  clear hv hb hs hz0
  have hz0 := hz1
  clear hz1
  obtain ⟨av, cv, hve⟩ := HV.out.slice
  subst hve
  clear k0 k1 k2 k3
  have k0 := HA.out 0 _ rfl
  have k1 := HA.out 1 _ rfl
  have k2 := HA.out 2 _ rfl
  have k3 := HA.out 3 _ rfl
  have hcv1 := convert_byt (src := 25) (dst := 9) (e := 5) rfl rfl rfl (HU.out)
  have hcv2 := convert_byt (src := 25) (dst := 9) (e := 5) rfl rfl rfl (HV.out)
  go_wp2_with fail
  clear hcv1 hcv2
  refine (HCK.out _).mono ?_
  rintro e w4 ⟨rfl, hb⟩
  have hs := hb.size
  have HZ := Lib.hid (HZ.out.trans (hb.mono (by omega)))
  have HA := Lib.hid (HA.out.below hb (by omega))
  have hlAx : w.heap.size < w4.heap.size := Nat.lt_of_lt_of_le hlA hb.size
  clear hlA
  have hlA := hlAx
  clear hlAx
  have hz1 : w.heap.size ≤ w4.heap.size := by omega
  clear hb hs hz0
  have hz0 := hz1
  clear hz1
  clear k0 k1 k2 k3
  have k0 := HA.out 0 _ rfl
  have k1 := HA.out 1 _ rfl
  have k2 := HA.out 2 _ rfl
  have k3 := HA.out 3 _ rfl
  have hxx := HX.out
  go_wp2_with fail
  refine (HLN.out x p s _).mono ?_
  rintro e w5 ⟨rfl, hb⟩
  have hs := hb.size
  have HZ := Lib.hid (HZ.out.trans (hb.mono (by omega)))
  have HA := Lib.hid (HA.out.below hb (by omega))
  have hlAx : w.heap.size < w5.heap.size := Nat.lt_of_lt_of_le hlA hb.size
  clear hlA
  have hlA := hlAx
  clear hlAx
  have hz1 : w.heap.size ≤ w5.heap.size := by omega
  clear hb hs hz0
  have hz0 := hz1
  clear hz1
  have hxx2 : (((X.length : Int) != 8 + 2 * (wd g : Int))) = false := by rw [HX.out]; simp
  clear hxx
  clear k0 k1 k2 k3
  have k0 := HA.out 0 _ rfl
  have k1 := HA.out 1 _ rfl
  have k2 := HA.out 2 _ rfl
  have k3 := HA.out 3 _ rfl
  go_wp2_with fail
  refine (HPC.out _ ((HH.out.below HZ.out).mono hz0)).mono ?_
  rintro e w6 ⟨rfl, hb⟩
  have hs := hb.size
  have HZ := Lib.hid (HZ.out.trans (hb.mono (by omega)))
  have HA := Lib.hid (HA.out.below hb (by omega))
  have hlAx : w.heap.size < w6.heap.size := Nat.lt_of_lt_of_le hlA hb.size
  clear hlA
  have hlA := hlAx
  clear hlAx
  have hz1 : w.heap.size ≤ w6.heap.size := by omega
  clear hb hs hz0
  have hz0 := hz1
  clear hz1
  clear k0 k1 k2 k3
  have HY := Lib.hid (Cells.new_at w6 [.int .u32 y0, .int .i64 y1, .int .i64 y2, .bool g] 24 w6.heap.size rfl)
  have hba := (Below.refl w6.heap.size w6).alloc (Nat.le_refl _) (.cells #[.int .u32 y0, .int .i64 y1, .int .i64 y2, .bool g] 24)
  have HA := Lib.hid (HA.out.below hba (by omega))
  have HZ := Lib.hid (HZ.out.trans (hba.mono (by omega)))
  have hlY : w6.heap.size < (w6.alloc (.cells #[.int .u32 y0, .int .i64 y1, .int .i64 y2, .bool g] 24)).heap.size := by simp
  have hlA7 : w.heap.size < (w6.alloc (.cells #[.int .u32 y0, .int .i64 y1, .int .i64 y2, .bool g] 24)).heap.size := by omega
  have hz7 : w.heap.size ≤ (w6.alloc (.cells #[.int .u32 y0, .int .i64 y1, .int .i64 y2, .bool g] 24)).heap.size := by omega
  go_upto_region 10 with (fail)
  clear hba hlA hz0
  generalize w6.alloc (.cells #[.int .u32 y0, .int .i64 y1, .int .i64 y2, .bool g] 24) = w7 at *
  have hlA := hlA7
  have hz0 := hz7
  clear hlA7 hz7
  generalize w6.heap.size = by_ at *
  go_wp2_with fail
  refine Mono.region_below (by kernel_rfl) (by kernel_rfl) (by kernel_rfl) ?_
  refine Mono.rgl_val (v := ?v0) rfl Mono.rr (fun ρ a W hR hd hf => ?h0) ?_
  case h0 =>
    have e1 := Mono.init_get hf (t := 1) (by kernel_rfl)
    clear hd hf
    (go_simp; try with_reducible rfl)
  refine Mono.rgl_val (v := ?v1) rfl Mono.rr (fun ρ a W hR hd hf => ?h1) ?_
  case h1 =>
    have e2 := Mono.init_get hf (t := 2) (by kernel_rfl)
    clear hd hf
    (go_simp; try with_reducible rfl)
  refine Mono.rgl_val (v := .slice ae m.length ce) rfl Mono.rr (fun ρ a W hR hd hf => ?h2) ?_
  case h2 =>
    have e108 := Mono.dep_val hd hf (t := 108) (k := 0) (by kernel_rfl) rfl
    have e109 := Mono.dep_val hd hf (t := 109) (k := 1) (by kernel_rfl) rfl
    have hsl := HFS.out W
    clear hd hf
    (go_simp)
  refine Mono.rgl_val (v := ?v3) rfl Mono.rr (fun ρ a W hR hd hf => ?h3) ?_
  case h3 =>
    have e3 := Mono.init_get hf (t := 3) (by kernel_rfl)
    clear hd hf
    (go_simp; try with_reducible rfl)
  refine Mono.rgl_val (v := ?v4) rfl Mono.rr (fun ρ a W hR hd hf => ?h4) ?_
  case h4 =>
    have e111 := Mono.dep_val hd hf (t := 111) (k := 3) (by kernel_rfl) rfl
    have hk := (HA.out.below hR (by omega) : Cells W _ _) 3 _ rfl
    clear hd hf
    (go_simp; try with_reducible rfl)
  refine Mono.rgl_call (fun x _ => x = .tuple #[.int .u32 y0, .int .i64 y1, .int .i64 y2, .bool true]) rfl Mono.rr (fun _ _ _ h _ => h) (fun ρ a W hR hd hf => ?h5) ?_
  case h5 =>
    have e110 := Mono.dep_val hd hf (t := 110) (k := 2) (by kernel_rfl) rfl
    have e112 := Mono.dep_val hd hf (t := 112) (k := 4) (by kernel_rfl) rfl
    clear hd hf
    refine ⟨_, _, by go_simp; first | rfl | exact ⟨rfl, rfl⟩, ?_⟩
    exact (HRC.out ae ce W (((HFB.out.below HZ.out).mono hz0).below hR |>.mono hR.size) hfc).mono (fun e W' ⟨he, hb⟩ => ⟨_, he, hb, rfl⟩)
  refine Mono.rgl_val (v := ?v6) rfl Mono.rr (fun ρ a W hR hd hf => ?h6) ?_
  case h6 =>
    have e113 := Mono.dep_val hd hf (t := 113) (k := 5) (by kernel_rfl) rfl
    clear hd hf
    (go_simp; try with_reducible rfl)
  refine Mono.rgl_val (v := ?v7) rfl Mono.rr (fun ρ a W hR hd hf => ?h7) ?_
  case h7 =>
    have e107 := Mono.dep_val hd hf (t := 107) (k := 6) (by kernel_rfl) rfl
    clear hd hf
    (go_simp; try with_reducible rfl)
  refine Mono.rgl_val (v := ?v8) rfl Mono.rr (fun ρ a W hR hd hf => ?h8) ?_
  case h8 =>
    have e107 := Mono.dep_val hd hf (t := 107) (k := 6) (by kernel_rfl) rfl
    clear hd hf
    (go_simp; try with_reducible rfl)
  refine Mono.rgl_val (v := ?v9) rfl Mono.rr (fun ρ a W hR hd hf => ?h9) ?_
  case h9 =>
    have e107 := Mono.dep_val hd hf (t := 107) (k := 6) (by kernel_rfl) rfl
    clear hd hf
    (go_simp; try with_reducible rfl)
  refine Mono.rgl_val (v := ?v10) rfl Mono.rr (fun ρ a W hR hd hf => ?h10) ?_
  case h10 =>
    have e107 := Mono.dep_val hd hf (t := 107) (k := 6) (by kernel_rfl) rfl
    clear hd hf
    (go_simp; try with_reducible rfl)
  refine Mono.rgl_val (v := ?v11) rfl Mono.rr (fun ρ a W hR hd hf => ?h11) ?_
  case h11 =>
    have e114 := Mono.dep_val hd hf (t := 114) (k := 7) (by kernel_rfl) rfl
    clear hd hf
    (go_simp; try with_reducible rfl)
  refine Mono.rgl_val (v := ?v12) rfl Mono.rr (fun ρ a W hR hd hf => ?h12) ?_
  case h12 =>
    have e115 := Mono.dep_val hd hf (t := 115) (k := 8) (by kernel_rfl) rfl
    clear hd hf
    (go_simp; try with_reducible rfl)
  refine Mono.rgl_val (v := ?v13) rfl Mono.rr (fun ρ a W hR hd hf => ?h13) ?_
  case h13 =>
    have e116 := Mono.dep_val hd hf (t := 116) (k := 9) (by kernel_rfl) rfl
    clear hd hf
    (go_simp; try with_reducible rfl)
  refine Mono.rgl_val (v := ?v14) rfl Mono.rr (fun ρ a W hR hd hf => ?h14) ?_
  case h14 =>
    have e117 := Mono.dep_val hd hf (t := 117) (k := 10) (by kernel_rfl) rfl
    clear hd hf
    (go_simp; try with_reducible rfl)
  refine Mono.rgl_done rfl (fun ρ W hR ht => ?_)
  obtain ⟨d14, d13, d12, d11, d10, d9, d8, d7, d6, d5, d4, d3, d2, d1, d0, _⟩ := ht
  simp only [List.length_cons, List.length_nil, Nat.reduceAdd] at d0 d1 d2 d3 d4 d5 d6 d7 d8 d9 d10 d11 d12 d13 d14
  simp only [Mono.putAll, Nat.reduceAdd, d0, d1, d2, d3, d4, d5, d6, d7, d8, d9, d10, d11, d12, d13, d14, Act.put, List.setIfInBounds_toArray, List.set_cons_zero, List.set_cons_succ]
  clear d0 d1 d2 d3 d4 d5 d6 d7 d8 d9 d10 d11 d12 d13 d14
  have HA := Lib.hid (HA.out.below hR (by omega))
  have HY := Lib.hid (HY.out.below hR (by omega))
  have HZ := Lib.hid (HZ.out.trans (hR.mono (by omega)))
  have hlA8 : w.heap.size < W.heap.size := Nat.lt_of_lt_of_le hlA hR.size
  have hlY8 : by_ < W.heap.size := Nat.lt_of_lt_of_le hlY hR.size
  clear hR hlA hlY hz0
  have hlA := hlA8
  have hlY := hlY8
  have hz0 : w.heap.size ≤ W.heap.size := by omega
  clear hlA8 hlY8
  obtain ⟨w8, rfl⟩ : ∃ z, z = W := ⟨_, rfl⟩
  have hsl := HFS.out
  go_wp2_with fail
  clear hsl
  refine (over_any ((HFB.out.below HZ.out).mono hz0) (by omega)).mono ?_
  rintro e w9 ⟨rb, rfl, hrb0, hd, hb⟩
  have hrb1 : rb < w9.heap.size := by obtain ⟨_, _, _, _, _, _, _, h6⟩ := hd; exact h6
  have HD := Lib.hid hd
  have HA := Lib.hid (HA.out.below hb (by omega))
  have HY := Lib.hid (HY.out.below hb (by omega))
  have HZ := Lib.hid (HZ.out.trans (hb.mono (by omega)))
  have hs9 := hb.size
  clear hd hb
  have HR := Lib.hid (Own.new_at w9 [.pointer (some ⟨rb, 0, none⟩)] 38 w9.heap.size rfl)
  have hba := (Below.refl w9.heap.size w9).alloc (Nat.le_refl _) (.cells #[.pointer (some ⟨rb, 0, none⟩)] 38)
  have HD := Lib.hid (HD.out.below hba)
  have HA := Lib.hid (HA.out.below hba (by omega))
  have HY := Lib.hid (HY.out.below hba (by omega))
  have HZ := Lib.hid (HZ.out.trans (hba.mono (by omega)))
  have hz9 : w9.heap.size < (w9.alloc (.cells #[.pointer (some ⟨rb, 0, none⟩)] 38)).heap.size := by simp
  go_upto_region 14 with (fail)
  clear hba
  generalize w9.alloc (.cells #[.pointer (some ⟨rb, 0, none⟩)] 38) = w10 at *
  generalize w9.heap.size = br at *
  have HTR := Lib.hid (tryD_ret 14 #[.pointer (some ⟨br, 0, none⟩), .pointer (some ⟨w.heap.size, 0, none⟩)] w10 rb q m y0 y1 y2 g (by omega) (fun W => cf_codes1 _ W) (fun W hW => codes1_ret br w.heap.size rb q m y0 y1 y2 g g W ((hW.cell (p := ⟨br, 0, none⟩) (by show br < _; omega)).trans (HR.out.1 0 _ rfl)) ((hW.cell (p := ⟨w.heap.size, 3, none⟩) (by show w.heap.size < _; omega)).trans (HA.out 3 _ rfl)) (Nat.lt_of_lt_of_le (show rb < w10.heap.size by omega) hW.size) (HTC.out rb) (HD.out.below hW)))
  have hmf : ∀ (fn : Fn) (first cap : Array Value) (w : World), (Instr.makeFunc fn first cap).run Try.prog w = .ok (.func fn first cap) w := fun _ _ _ _ => rfl
  go_wp2_with fail
  refine HTR.out.mono ?_
  rintro e w11 ⟨rfl, hd, hb⟩
  have hs11 := hb.size
  have HA := Lib.hid (HA.out.bx hb (by omega) (by simp; omega))
  have HY := Lib.hid (HY.out.bx hb (by omega) (by simp; omega))
  have HZ := Lib.hid (HZ.out.trans (hb.below (C := w.heap.size) (by omega) (by simp; omega)))
  clear hd hb HTR hmf
  have HQ := Lib.hid (Cells.new_at w11 [.int .u32 y0, .int .i64 y1, .int .i64 y2, .bool g] 24 w11.heap.size rfl)
  have hba := (Below.refl w11.heap.size w11).alloc (Nat.le_refl _) (.cells #[.int .u32 y0, .int .i64 y1, .int .i64 y2, .bool g] 24)
  have HA := Lib.hid (HA.out.below hba (by omega))
  have HY := Lib.hid (HY.out.below hba (by omega))
  have HZ := Lib.hid (HZ.out.trans (hba.mono (by omega)))
  have hz12 : w11.heap.size < (w11.alloc (.cells #[.int .u32 y0, .int .i64 y1, .int .i64 y2, .bool g] 24)).heap.size := by simp
  go_upto_region 15 with (fail)
  clear hba
  generalize w11.alloc (.cells #[.int .u32 y0, .int .i64 y1, .int .i64 y2, .bool g] 24) = w12 at *
  generalize w11.heap.size = bq at *
  have f0 := HY.out 0 _ rfl
  have f1 := HY.out 1 _ rfl
  have f2 := HY.out 2 _ rfl
  have f3 := HY.out 3 _ rfl
  have k0 := HA.out 0 _ rfl
  have k1 := HA.out 1 _ rfl
  have k2 := HA.out 2 _ rfl
  have k3 := HA.out 3 _ rfl
  go_wp2_with fail
  refine (HLN.out y0 y1 y2 _).mono ?_
  rintro e w13 ⟨rfl, hb⟩
  have hs13 := hb.size
  have HY := Lib.hid (HY.out.below hb (by omega))
  have HQ := Lib.hid (HQ.out.below hb (by omega))
  have HZ := Lib.hid (HZ.out.trans (hb.mono (by omega)))
  clear hb
  clear k0 k1 k2 k3
  clear f0 f1 f2 f3
  have f0 := HY.out 0 _ rfl
  have f1 := HY.out 1 _ rfl
  have f2 := HY.out 2 _ rfl
  have f3 := HY.out 3 _ rfl
  have h0 := HQ.out 0 _ rfl
  have hh1 := HQ.out 1 _ rfl
  have h2 := HQ.out 2 _ rfl
  have h3 := HQ.out 3 _ rfl
  have hw := HWR.out
  go_wp2
  go_ret
  exact ⟨rfl, HZ.out⟩
set_option maxHeartbeats 4000000 in
set_option maxRecDepth 100000 in
theorem codes_no_range (x p s : Int) (g : Bool) (ad : Option Addr) (c : Nat) (l : List UInt8) (w : World) (h : Byt w w.heap.size (.slice ad l.length c) l) (hl : l.length ≤ 300) (hc : l.length ≤ c) (hd : descB p s = false) (at_ : Int) (hat : at_ < 0 ∨ (l.length : Int) < at_) : Calls Try.prog 4 #[.agg #[.int .u32 x, .int .i64 p, .int .i64 s, .bool g], .slice ad l.length c, .int .i64 at_] w (lawQ w) := by
  have t0 : decide (300 < (l.length : Int)) = false := by simp; omega
  have HCK := Lib.hid (fun W => dcheck_any x p s g W)
  rw [hd] at HCK
  have HLN := Lib.hid (fun (y0 y1 y2 : Int) W => len_any y0 y1 y2 g W)
  have hwd := wd_bd g
  have HRE := Lib.hid (fun W => renc_no x p s g W hd)
  have HEN := Lib.hid (fun W => denc_no x p s g W hd)
  clear hd
  have HPC := Lib.hid (fun (W : World) hW => dparse_range ad c l at_ g W hW (by omega) hc hat)
  have HH := Lib.hid h
  clear h
  have HA := Lib.hid (Cells.new_at w [.int .u32 x, .int .i64 p, .int .i64 s, .bool g] 24 w.heap.size rfl)
  have HZ := Lib.hid ((Below.refl w.heap.size w).alloc (Nat.le_refl _) (.cells #[.int .u32 x, .int .i64 p, .int .i64 s, .bool g] 24))
  go_enter Try.func4, Try.ntmps4
  go_wp2_with fail
  refine (awake_any _).mono ?_
  rintro e w1 ⟨rfl, hb⟩
  have hs := hb.size
  simp only [World.size_alloc] at hs
  have HA := Lib.hid (HA.out.below hb (by simp))
  have HZ := Lib.hid (HZ.out.trans (hb.mono (by simp)))
  have hz0 : w.heap.size ≤ w1.heap.size := by omega
  have hlA : w.heap.size < w1.heap.size := by omega
  clear hb hs
  have k0 := HA.out 0 _ rfl
  have k1 := HA.out 1 _ rfl
  have k2 := HA.out 2 _ rfl
  have k3 := HA.out 3 _ rfl
  go_wp2_with fail
  refine (HRE.out _).mono ?_
  rintro e w2 ⟨rfl, hw2⟩
  subst w2
  go_wp2_with fail
  refine (HEN.out _).mono ?_
  rintro e w3 ⟨rfl, hb⟩
  have hs := hb.size
  have HZ := Lib.hid (HZ.out.trans (hb.mono (by omega)))
  have HA := Lib.hid (HA.out.below hb (by omega))
  have hlAx : w.heap.size < w3.heap.size := Nat.lt_of_lt_of_le hlA hb.size
  clear hlA
  have hlA := hlAx
  clear hlAx
  have hz1 : w.heap.size ≤ w3.heap.size := by omega
  clear hb hs hz0
  have hz0 := hz1
  clear hz1
  clear k0 k1 k2 k3
  have k0 := HA.out 0 _ rfl
  have k1 := HA.out 1 _ rfl
  have k2 := HA.out 2 _ rfl
  have k3 := HA.out 3 _ rfl
  have hcv1 := convert_byt (src := 25) (dst := 9) (e := 5) rfl rfl rfl ((.inl ⟨none, 0, rfl, rfl, fun _ => rfl⟩ : Byt w3 0 (.slice none 0 0) []))
  go_wp2_with fail
  clear hcv1
  refine (HCK.out _).mono ?_
  rintro e w4 ⟨rfl, hb⟩
  have hs := hb.size
  have HZ := Lib.hid (HZ.out.trans (hb.mono (by omega)))
  have HA := Lib.hid (HA.out.below hb (by omega))
  have hlAx : w.heap.size < w4.heap.size := Nat.lt_of_lt_of_le hlA hb.size
  clear hlA
  have hlA := hlAx
  clear hlAx
  have hz1 : w.heap.size ≤ w4.heap.size := by omega
  clear hb hs hz0
  have hz0 := hz1
  clear hz1
  clear k0 k1 k2 k3
  have k0 := HA.out 0 _ rfl
  have k1 := HA.out 1 _ rfl
  have k2 := HA.out 2 _ rfl
  have k3 := HA.out 3 _ rfl
  go_wp2_with fail
  refine (HPC.out _ ((HH.out.below HZ.out).mono hz0)).mono ?_
  rintro e w6 ⟨rfl, hb⟩
  have hs := hb.size
  have HZ := Lib.hid (HZ.out.trans (hb.mono (by omega)))
  have HA := Lib.hid (HA.out.below hb (by omega))
  have hlAx : w.heap.size < w6.heap.size := Nat.lt_of_lt_of_le hlA hb.size
  clear hlA
  have hlA := hlAx
  clear hlAx
  have hz1 : w.heap.size ≤ w6.heap.size := by omega
  clear hb hs hz0
  have hz0 := hz1
  clear hz1
  clear k0 k1 k2 k3
  have HY := Lib.hid (Cells.new_at w6 [.int .u32 0, .int .i64 0, .int .i64 0, .bool false] 24 w6.heap.size rfl)
  have hba := (Below.refl w6.heap.size w6).alloc (Nat.le_refl _) (.cells #[.int .u32 0, .int .i64 0, .int .i64 0, .bool false] 24)
  have HA := Lib.hid (HA.out.below hba (by omega))
  have HZ := Lib.hid (HZ.out.trans (hba.mono (by omega)))
  have hlY : w6.heap.size < (w6.alloc (.cells #[.int .u32 0, .int .i64 0, .int .i64 0, .bool false] 24)).heap.size := by simp
  have hlA7 : w.heap.size < (w6.alloc (.cells #[.int .u32 0, .int .i64 0, .int .i64 0, .bool false] 24)).heap.size := by omega
  have hz7 : w.heap.size ≤ (w6.alloc (.cells #[.int .u32 0, .int .i64 0, .int .i64 0, .bool false] 24)).heap.size := by omega
  go_upto_region 10 with (fail)
  clear hba hlA hz0
  generalize w6.alloc (.cells #[.int .u32 0, .int .i64 0, .int .i64 0, .bool false] 24) = w7 at *
  have hlA := hlA7
  have hz0 := hz7
  clear hlA7 hz7
  generalize w6.heap.size = by_ at *
  rcases hat with hat | hat
  · have t1 : decide (at_ < 0) = true := by simpa using hat
    clear hat
    have y0 := HY.out 0 _ rfl
    have y1 := HY.out 1 _ rfl
    have y2 := HY.out 2 _ rfl
    have y3 := HY.out 3 _ rfl
    go_wp2
    go_ret
    exact ⟨rfl, HZ.out⟩
  · have t1 : decide (at_ < 0) = false := by simp; omega
    have t2 : decide ((l.length : Int) < at_) = true := by simpa using hat
    clear hat
    have y0 := HY.out 0 _ rfl
    have y1 := HY.out 1 _ rfl
    have y2 := HY.out 2 _ rfl
    have y3 := HY.out 3 _ rfl
    go_wp2
    go_ret
    exact ⟨rfl, HZ.out⟩
set_option maxHeartbeats 4000000 in
set_option maxRecDepth 100000 in
theorem codes_no_fail (x p s : Int) (g : Bool) (ad : Option Addr) (c : Nat) (l : List UInt8) (w : World) (h : Byt w w.heap.size (.slice ad l.length c) l) (hl : l.length ≤ 300) (hc : l.length ≤ c) (hd : descB p s = false) (at_ : Nat) (hat : at_ ≤ l.length) (code code2 : Int) (hcd : code ≠ 0) (hcd2 : code2 ≠ 0) (q : Nat) (hP : ∀ W : World, Byt W W.heap.size (.slice ad l.length c) l → Calls Try.prog 7 #[.slice ad l.length c, .int .i64 (at_ : Nat), .bool g] W fun e w' => e = .returned (.tuple #[.agg #[.int .u32 0, .int .i64 0, .int .i64 0, .bool false], .int .i64 0, .int .i64 code]) ∧ Below W.heap.size W w') (hR : ∀ (ae : Option Addr) (ce : Nat) (W : World), Byt W W.heap.size (.slice ae (l.drop at_).length ce) (l.drop at_) → (l.drop at_).length ≤ ce → Calls Try.prog 11 #[.slice ae (l.drop at_).length ce, .bool g] W fun e w' => e = .returned (.tuple #[.int .u32 0, .int .i64 0, .int .i64 0, .bool false]) ∧ Below W.heap.size W w') (hT : ∀ (rb : Nat) (W : World), RD W rb (l.drop at_) 0 → Calls Try.prog 15 #[.pointer (some ⟨rb, 0, none⟩), .bool g] W fun e w' => e = .panicked (fault code2) ∧ RD w' rb (l.drop at_) q ∧ Bx [rb] W.heap.size W w') : Calls Try.prog 4 #[.agg #[.int .u32 x, .int .i64 p, .int .i64 s, .bool g], .slice ad l.length c, .int .i64 (at_ : Nat)] w (lawQ w) := by
  have t0 : decide (300 < (l.length : Int)) = false := by simp; omega
  have HCK := Lib.hid (fun W => dcheck_any x p s g W)
  rw [hd] at HCK
  have HLN := Lib.hid (fun (y0 y1 y2 : Int) W => len_any y0 y1 y2 g W)
  have hwd := wd_bd g
  have HRE := Lib.hid (fun W => renc_no x p s g W hd)
  have HEN := Lib.hid (fun W => denc_no x p s g W hd)
  clear hd
  have t1 : decide ((at_ : Int) < 0) = false := by simp
  have t2 : decide ((l.length : Int) < (at_ : Int)) = false := by simp; omega
  have HPC := Lib.hid hP
  have HRC := Lib.hid hR
  have HTC := Lib.hid hT
  obtain ⟨ae, ce, hfs, hfc, hfb⟩ := full h hc at_ hat
  have HFS := Lib.hid hfs
  have HFB := Lib.hid hfb
  have hfl : (l.drop at_).length ≤ 300 := by rw [List.length_drop]; omega
  clear hP hR hT hfs hfb
  generalize l.drop at_ = m at *
  have tcd : (code != 0) = true := by simpa using hcd
  have tcd2 : (code2 != 0) = true := by simpa using hcd2
  clear hcd hcd2
  have HH := Lib.hid h
  clear h
  have HA := Lib.hid (Cells.new_at w [.int .u32 x, .int .i64 p, .int .i64 s, .bool g] 24 w.heap.size rfl)
  have HZ := Lib.hid ((Below.refl w.heap.size w).alloc (Nat.le_refl _) (.cells #[.int .u32 x, .int .i64 p, .int .i64 s, .bool g] 24))
  go_enter Try.func4, Try.ntmps4
  go_wp2_with fail
  refine (awake_any _).mono ?_
  rintro e w1 ⟨rfl, hb⟩
  have hs := hb.size
  simp only [World.size_alloc] at hs
  have HA := Lib.hid (HA.out.below hb (by simp))
  have HZ := Lib.hid (HZ.out.trans (hb.mono (by simp)))
  have hz0 : w.heap.size ≤ w1.heap.size := by omega
  have hlA : w.heap.size < w1.heap.size := by omega
  clear hb hs
  have k0 := HA.out 0 _ rfl
  have k1 := HA.out 1 _ rfl
  have k2 := HA.out 2 _ rfl
  have k3 := HA.out 3 _ rfl
  go_wp2_with fail
  refine (HRE.out _).mono ?_
  rintro e w2 ⟨rfl, hw2⟩
  subst w2
  go_wp2_with fail
  refine (HEN.out _).mono ?_
  rintro e w3 ⟨rfl, hb⟩
  have hs := hb.size
  have HZ := Lib.hid (HZ.out.trans (hb.mono (by omega)))
  have HA := Lib.hid (HA.out.below hb (by omega))
  have hlAx : w.heap.size < w3.heap.size := Nat.lt_of_lt_of_le hlA hb.size
  clear hlA
  have hlA := hlAx
  clear hlAx
  have hz1 : w.heap.size ≤ w3.heap.size := by omega
  clear hb hs hz0
  have hz0 := hz1
  clear hz1
  clear k0 k1 k2 k3
  have k0 := HA.out 0 _ rfl
  have k1 := HA.out 1 _ rfl
  have k2 := HA.out 2 _ rfl
  have k3 := HA.out 3 _ rfl
  have hcv1 := convert_byt (src := 25) (dst := 9) (e := 5) rfl rfl rfl ((.inl ⟨none, 0, rfl, rfl, fun _ => rfl⟩ : Byt w3 0 (.slice none 0 0) []))
  go_wp2_with fail
  clear hcv1
  refine (HCK.out _).mono ?_
  rintro e w4 ⟨rfl, hb⟩
  have hs := hb.size
  have HZ := Lib.hid (HZ.out.trans (hb.mono (by omega)))
  have HA := Lib.hid (HA.out.below hb (by omega))
  have hlAx : w.heap.size < w4.heap.size := Nat.lt_of_lt_of_le hlA hb.size
  clear hlA
  have hlA := hlAx
  clear hlAx
  have hz1 : w.heap.size ≤ w4.heap.size := by omega
  clear hb hs hz0
  have hz0 := hz1
  clear hz1
  clear k0 k1 k2 k3
  have k0 := HA.out 0 _ rfl
  have k1 := HA.out 1 _ rfl
  have k2 := HA.out 2 _ rfl
  have k3 := HA.out 3 _ rfl
  go_wp2_with fail
  refine (HPC.out _ ((HH.out.below HZ.out).mono hz0)).mono ?_
  rintro e w6 ⟨rfl, hb⟩
  have hs := hb.size
  have HZ := Lib.hid (HZ.out.trans (hb.mono (by omega)))
  have HA := Lib.hid (HA.out.below hb (by omega))
  have hlAx : w.heap.size < w6.heap.size := Nat.lt_of_lt_of_le hlA hb.size
  clear hlA
  have hlA := hlAx
  clear hlAx
  have hz1 : w.heap.size ≤ w6.heap.size := by omega
  clear hb hs hz0
  have hz0 := hz1
  clear hz1
  clear k0 k1 k2 k3
  have HY := Lib.hid (Cells.new_at w6 [.int .u32 0, .int .i64 0, .int .i64 0, .bool false] 24 w6.heap.size rfl)
  have hba := (Below.refl w6.heap.size w6).alloc (Nat.le_refl _) (.cells #[.int .u32 0, .int .i64 0, .int .i64 0, .bool false] 24)
  have HA := Lib.hid (HA.out.below hba (by omega))
  have HZ := Lib.hid (HZ.out.trans (hba.mono (by omega)))
  have hlY : w6.heap.size < (w6.alloc (.cells #[.int .u32 0, .int .i64 0, .int .i64 0, .bool false] 24)).heap.size := by simp
  have hlA7 : w.heap.size < (w6.alloc (.cells #[.int .u32 0, .int .i64 0, .int .i64 0, .bool false] 24)).heap.size := by omega
  have hz7 : w.heap.size ≤ (w6.alloc (.cells #[.int .u32 0, .int .i64 0, .int .i64 0, .bool false] 24)).heap.size := by omega
  go_upto_region 10 with (fail)
  clear hba hlA hz0
  generalize w6.alloc (.cells #[.int .u32 0, .int .i64 0, .int .i64 0, .bool false] 24) = w7 at *
  have hlA := hlA7
  have hz0 := hz7
  clear hlA7 hz7
  generalize w6.heap.size = by_ at *
  go_wp2_with fail
  refine Mono.region_below (by kernel_rfl) (by kernel_rfl) (by kernel_rfl) ?_
  refine Mono.rgl_val (v := ?v0) rfl Mono.rr (fun ρ a W hR hd hf => ?h0) ?_
  case h0 =>
    have e1 := Mono.init_get hf (t := 1) (by kernel_rfl)
    clear hd hf
    (go_simp; try with_reducible rfl)
  refine Mono.rgl_val (v := ?v1) rfl Mono.rr (fun ρ a W hR hd hf => ?h1) ?_
  case h1 =>
    have e2 := Mono.init_get hf (t := 2) (by kernel_rfl)
    clear hd hf
    (go_simp; try with_reducible rfl)
  refine Mono.rgl_val (v := .slice ae m.length ce) rfl Mono.rr (fun ρ a W hR hd hf => ?h2) ?_
  case h2 =>
    have e108 := Mono.dep_val hd hf (t := 108) (k := 0) (by kernel_rfl) rfl
    have e109 := Mono.dep_val hd hf (t := 109) (k := 1) (by kernel_rfl) rfl
    have hsl := HFS.out W
    clear hd hf
    (go_simp)
  refine Mono.rgl_val (v := ?v3) rfl Mono.rr (fun ρ a W hR hd hf => ?h3) ?_
  case h3 =>
    have e3 := Mono.init_get hf (t := 3) (by kernel_rfl)
    clear hd hf
    (go_simp; try with_reducible rfl)
  refine Mono.rgl_val (v := ?v4) rfl Mono.rr (fun ρ a W hR hd hf => ?h4) ?_
  case h4 =>
    have e111 := Mono.dep_val hd hf (t := 111) (k := 3) (by kernel_rfl) rfl
    have hk := (HA.out.below hR (by omega) : Cells W _ _) 3 _ rfl
    clear hd hf
    (go_simp; try with_reducible rfl)
  refine Mono.rgl_call (fun x _ => x = .tuple #[.int .u32 0, .int .i64 0, .int .i64 0, .bool false]) rfl Mono.rr (fun _ _ _ h _ => h) (fun ρ a W hR hd hf => ?h5) ?_
  case h5 =>
    have e110 := Mono.dep_val hd hf (t := 110) (k := 2) (by kernel_rfl) rfl
    have e112 := Mono.dep_val hd hf (t := 112) (k := 4) (by kernel_rfl) rfl
    clear hd hf
    refine ⟨_, _, by go_simp; first | rfl | exact ⟨rfl, rfl⟩, ?_⟩
    exact (HRC.out ae ce W (((HFB.out.below HZ.out).mono hz0).below hR |>.mono hR.size) hfc).mono (fun e W' ⟨he, hb⟩ => ⟨_, he, hb, rfl⟩)
  refine Mono.rgl_val (v := ?v6) rfl Mono.rr (fun ρ a W hR hd hf => ?h6) ?_
  case h6 =>
    have e113 := Mono.dep_val hd hf (t := 113) (k := 5) (by kernel_rfl) rfl
    clear hd hf
    (go_simp; try with_reducible rfl)
  refine Mono.rgl_val (v := ?v7) rfl Mono.rr (fun ρ a W hR hd hf => ?h7) ?_
  case h7 =>
    have e107 := Mono.dep_val hd hf (t := 107) (k := 6) (by kernel_rfl) rfl
    clear hd hf
    (go_simp; try with_reducible rfl)
  refine Mono.rgl_val (v := ?v8) rfl Mono.rr (fun ρ a W hR hd hf => ?h8) ?_
  case h8 =>
    have e107 := Mono.dep_val hd hf (t := 107) (k := 6) (by kernel_rfl) rfl
    clear hd hf
    (go_simp; try with_reducible rfl)
  refine Mono.rgl_val (v := ?v9) rfl Mono.rr (fun ρ a W hR hd hf => ?h9) ?_
  case h9 =>
    have e107 := Mono.dep_val hd hf (t := 107) (k := 6) (by kernel_rfl) rfl
    clear hd hf
    (go_simp; try with_reducible rfl)
  refine Mono.rgl_val (v := ?v10) rfl Mono.rr (fun ρ a W hR hd hf => ?h10) ?_
  case h10 =>
    have e107 := Mono.dep_val hd hf (t := 107) (k := 6) (by kernel_rfl) rfl
    clear hd hf
    (go_simp; try with_reducible rfl)
  refine Mono.rgl_val (v := ?v11) rfl Mono.rr (fun ρ a W hR hd hf => ?h11) ?_
  case h11 =>
    have e114 := Mono.dep_val hd hf (t := 114) (k := 7) (by kernel_rfl) rfl
    clear hd hf
    (go_simp; try with_reducible rfl)
  refine Mono.rgl_val (v := ?v12) rfl Mono.rr (fun ρ a W hR hd hf => ?h12) ?_
  case h12 =>
    have e115 := Mono.dep_val hd hf (t := 115) (k := 8) (by kernel_rfl) rfl
    clear hd hf
    (go_simp; try with_reducible rfl)
  refine Mono.rgl_val (v := ?v13) rfl Mono.rr (fun ρ a W hR hd hf => ?h13) ?_
  case h13 =>
    have e116 := Mono.dep_val hd hf (t := 116) (k := 9) (by kernel_rfl) rfl
    clear hd hf
    (go_simp; try with_reducible rfl)
  refine Mono.rgl_val (v := ?v14) rfl Mono.rr (fun ρ a W hR hd hf => ?h14) ?_
  case h14 =>
    have e117 := Mono.dep_val hd hf (t := 117) (k := 10) (by kernel_rfl) rfl
    clear hd hf
    (go_simp; try with_reducible rfl)
  refine Mono.rgl_done rfl (fun ρ W hR ht => ?_)
  obtain ⟨d14, d13, d12, d11, d10, d9, d8, d7, d6, d5, d4, d3, d2, d1, d0, _⟩ := ht
  simp only [List.length_cons, List.length_nil, Nat.reduceAdd] at d0 d1 d2 d3 d4 d5 d6 d7 d8 d9 d10 d11 d12 d13 d14
  simp only [Mono.putAll, Nat.reduceAdd, d0, d1, d2, d3, d4, d5, d6, d7, d8, d9, d10, d11, d12, d13, d14, Act.put, List.setIfInBounds_toArray, List.set_cons_zero, List.set_cons_succ]
  clear d0 d1 d2 d3 d4 d5 d6 d7 d8 d9 d10 d11 d12 d13 d14
  have HA := Lib.hid (HA.out.below hR (by omega))
  have HY := Lib.hid (HY.out.below hR (by omega))
  have HZ := Lib.hid (HZ.out.trans (hR.mono (by omega)))
  have hlA8 : w.heap.size < W.heap.size := Nat.lt_of_lt_of_le hlA hR.size
  have hlY8 : by_ < W.heap.size := Nat.lt_of_lt_of_le hlY hR.size
  clear hR hlA hlY hz0
  have hlA := hlA8
  have hlY := hlY8
  have hz0 : w.heap.size ≤ W.heap.size := by omega
  clear hlA8 hlY8
  obtain ⟨w8, rfl⟩ : ∃ z, z = W := ⟨_, rfl⟩
  have hsl := HFS.out
  go_wp2_with fail
  clear hsl
  refine (over_any ((HFB.out.below HZ.out).mono hz0) (by omega)).mono ?_
  rintro e w9 ⟨rb, rfl, hrb0, hd, hb⟩
  have hrb1 : rb < w9.heap.size := by obtain ⟨_, _, _, _, _, _, _, h6⟩ := hd; exact h6
  have HD := Lib.hid hd
  have HA := Lib.hid (HA.out.below hb (by omega))
  have HY := Lib.hid (HY.out.below hb (by omega))
  have HZ := Lib.hid (HZ.out.trans (hb.mono (by omega)))
  have hs9 := hb.size
  clear hd hb
  have HR := Lib.hid (Own.new_at w9 [.pointer (some ⟨rb, 0, none⟩)] 38 w9.heap.size rfl)
  have hba := (Below.refl w9.heap.size w9).alloc (Nat.le_refl _) (.cells #[.pointer (some ⟨rb, 0, none⟩)] 38)
  have HD := Lib.hid (HD.out.below hba)
  have HA := Lib.hid (HA.out.below hba (by omega))
  have HY := Lib.hid (HY.out.below hba (by omega))
  have HZ := Lib.hid (HZ.out.trans (hba.mono (by omega)))
  have hz9 : w9.heap.size < (w9.alloc (.cells #[.pointer (some ⟨rb, 0, none⟩)] 38)).heap.size := by simp
  go_upto_region 14 with (fail)
  clear hba
  generalize w9.alloc (.cells #[.pointer (some ⟨rb, 0, none⟩)] 38) = w10 at *
  generalize w9.heap.size = br at *
  have HTR := Lib.hid (tryD_throw 14 #[.pointer (some ⟨br, 0, none⟩), .pointer (some ⟨w.heap.size, 0, none⟩)] w10 rb q m code2 (by omega) (fun W => cf_codes1 _ W) (fun W hW => codes1_throw br w.heap.size rb q m code2 g W ((hW.cell (p := ⟨br, 0, none⟩) (by show br < _; omega)).trans (HR.out.1 0 _ rfl)) ((hW.cell (p := ⟨w.heap.size, 3, none⟩) (by show w.heap.size < _; omega)).trans (HA.out 3 _ rfl)) (HTC.out rb) (HD.out.below hW)))
  have hmf : ∀ (fn : Fn) (first cap : Array Value) (w : World), (Instr.makeFunc fn first cap).run Try.prog w = .ok (.func fn first cap) w := fun _ _ _ _ => rfl
  go_wp2_with fail
  refine HTR.out.mono ?_
  rintro e w11 ⟨rfl, hd, hb⟩
  have hs11 := hb.size
  have HA := Lib.hid (HA.out.bx hb (by omega) (by simp; omega))
  have HY := Lib.hid (HY.out.bx hb (by omega) (by simp; omega))
  have HZ := Lib.hid (HZ.out.trans (hb.below (C := w.heap.size) (by omega) (by simp; omega)))
  clear hd hb HTR hmf
  have HQ := Lib.hid (Cells.new_at w11 [.int .u32 0, .int .i64 0, .int .i64 0, .bool false] 24 w11.heap.size rfl)
  have hba := (Below.refl w11.heap.size w11).alloc (Nat.le_refl _) (.cells #[.int .u32 0, .int .i64 0, .int .i64 0, .bool false] 24)
  have HA := Lib.hid (HA.out.below hba (by omega))
  have HY := Lib.hid (HY.out.below hba (by omega))
  have HZ := Lib.hid (HZ.out.trans (hba.mono (by omega)))
  have hz12 : w11.heap.size < (w11.alloc (.cells #[.int .u32 0, .int .i64 0, .int .i64 0, .bool false] 24)).heap.size := by simp
  go_upto_region 15 with (fail)
  clear hba
  generalize w11.alloc (.cells #[.int .u32 0, .int .i64 0, .int .i64 0, .bool false] 24) = w12 at *
  generalize w11.heap.size = bq at *
  have y0 := HY.out 0 _ rfl
  have y1 := HY.out 1 _ rfl
  have y2 := HY.out 2 _ rfl
  have y3 := HY.out 3 _ rfl
  go_wp2
  go_ret
  exact ⟨rfl, HZ.out⟩
set_option maxHeartbeats 4000000 in
set_option maxRecDepth 100000 in
theorem codes_no_ok (x p s : Int) (g : Bool) (ad : Option Addr) (c : Nat) (l : List UInt8) (w : World) (h : Byt w w.heap.size (.slice ad l.length c) l) (hl : l.length ≤ 300) (hc : l.length ≤ c) (hd : descB p s = false) (at_ : Nat) (hat : at_ ≤ l.length) (y0 y1 y2 : Int) (q : Nat) (hP : ∀ W : World, Byt W W.heap.size (.slice ad l.length c) l → Calls Try.prog 7 #[.slice ad l.length c, .int .i64 (at_ : Nat), .bool g] W fun e w' => e = .returned (.tuple #[.agg #[.int .u32 y0, .int .i64 y1, .int .i64 y2, .bool g], .int .i64 ((at_ : Int) + ((8 + wd g + wd g : Nat) : Int)), .int .i64 0]) ∧ Below W.heap.size W w') (hR : ∀ (ae : Option Addr) (ce : Nat) (W : World), Byt W W.heap.size (.slice ae (l.drop at_).length ce) (l.drop at_) → (l.drop at_).length ≤ ce → Calls Try.prog 11 #[.slice ae (l.drop at_).length ce, .bool g] W fun e w' => e = .returned (.tuple #[.int .u32 y0, .int .i64 y1, .int .i64 y2, .bool true]) ∧ Below W.heap.size W w') (hT : ∀ (rb : Nat) (W : World), RD W rb (l.drop at_) 0 → Calls Try.prog 15 #[.pointer (some ⟨rb, 0, none⟩), .bool g] W fun e w' => e = .returned (.agg #[.int .u32 y0, .int .i64 y1, .int .i64 y2, .bool g]) ∧ RD w' rb (l.drop at_) q ∧ Bx [rb] W.heap.size W w') : Calls Try.prog 4 #[.agg #[.int .u32 x, .int .i64 p, .int .i64 s, .bool g], .slice ad l.length c, .int .i64 (at_ : Nat)] w (lawQ w) := by
  have t0 : decide (300 < (l.length : Int)) = false := by simp; omega
  have HCK := Lib.hid (fun W => dcheck_any x p s g W)
  rw [hd] at HCK
  have HLN := Lib.hid (fun (y0 y1 y2 : Int) W => len_any y0 y1 y2 g W)
  have hwd := wd_bd g
  have HRE := Lib.hid (fun W => renc_no x p s g W hd)
  have HEN := Lib.hid (fun W => denc_no x p s g W hd)
  clear hd
  have t1 : decide ((at_ : Int) < 0) = false := by simp
  have t2 : decide ((l.length : Int) < (at_ : Int)) = false := by simp; omega
  have HPC := Lib.hid hP
  have HRC := Lib.hid hR
  have HTC := Lib.hid hT
  obtain ⟨ae, ce, hfs, hfc, hfb⟩ := full h hc at_ hat
  have HFS := Lib.hid hfs
  have HFB := Lib.hid hfb
  have hfl : (l.drop at_).length ≤ 300 := by rw [List.length_drop]; omega
  clear hP hR hT hfs hfb
  generalize l.drop at_ = m at *
  have HWR : Hid (IntKind.i64.wrap ((at_ : Int) + (8 + 2 * (wd g : Int))) = (at_ : Int) + (8 + 2 * (wd g : Int))) := Lib.hid (IntWalk.i64_in _ (by omega))
  have HWE : Hid ((at_ : Int) + ((8 + wd g + wd g : Nat) : Int) = (at_ : Int) + (8 + 2 * (wd g : Int))) := Lib.hid (by omega)
  rw [HWE.out] at HPC
  have HH := Lib.hid h
  clear h
  have HA := Lib.hid (Cells.new_at w [.int .u32 x, .int .i64 p, .int .i64 s, .bool g] 24 w.heap.size rfl)
  have HZ := Lib.hid ((Below.refl w.heap.size w).alloc (Nat.le_refl _) (.cells #[.int .u32 x, .int .i64 p, .int .i64 s, .bool g] 24))
  go_enter Try.func4, Try.ntmps4
  go_wp2_with fail
  refine (awake_any _).mono ?_
  rintro e w1 ⟨rfl, hb⟩
  have hs := hb.size
  simp only [World.size_alloc] at hs
  have HA := Lib.hid (HA.out.below hb (by simp))
  have HZ := Lib.hid (HZ.out.trans (hb.mono (by simp)))
  have hz0 : w.heap.size ≤ w1.heap.size := by omega
  have hlA : w.heap.size < w1.heap.size := by omega
  clear hb hs
  have k0 := HA.out 0 _ rfl
  have k1 := HA.out 1 _ rfl
  have k2 := HA.out 2 _ rfl
  have k3 := HA.out 3 _ rfl
  go_wp2_with fail
  refine (HRE.out _).mono ?_
  rintro e w2 ⟨rfl, hw2⟩
  subst w2
  go_wp2_with fail
  refine (HEN.out _).mono ?_
  rintro e w3 ⟨rfl, hb⟩
  have hs := hb.size
  have HZ := Lib.hid (HZ.out.trans (hb.mono (by omega)))
  have HA := Lib.hid (HA.out.below hb (by omega))
  have hlAx : w.heap.size < w3.heap.size := Nat.lt_of_lt_of_le hlA hb.size
  clear hlA
  have hlA := hlAx
  clear hlAx
  have hz1 : w.heap.size ≤ w3.heap.size := by omega
  clear hb hs hz0
  have hz0 := hz1
  clear hz1
  clear k0 k1 k2 k3
  have k0 := HA.out 0 _ rfl
  have k1 := HA.out 1 _ rfl
  have k2 := HA.out 2 _ rfl
  have k3 := HA.out 3 _ rfl
  have hcv1 := convert_byt (src := 25) (dst := 9) (e := 5) rfl rfl rfl ((.inl ⟨none, 0, rfl, rfl, fun _ => rfl⟩ : Byt w3 0 (.slice none 0 0) []))
  go_wp2_with fail
  clear hcv1
  refine (HCK.out _).mono ?_
  rintro e w4 ⟨rfl, hb⟩
  have hs := hb.size
  have HZ := Lib.hid (HZ.out.trans (hb.mono (by omega)))
  have HA := Lib.hid (HA.out.below hb (by omega))
  have hlAx : w.heap.size < w4.heap.size := Nat.lt_of_lt_of_le hlA hb.size
  clear hlA
  have hlA := hlAx
  clear hlAx
  have hz1 : w.heap.size ≤ w4.heap.size := by omega
  clear hb hs hz0
  have hz0 := hz1
  clear hz1
  clear k0 k1 k2 k3
  have k0 := HA.out 0 _ rfl
  have k1 := HA.out 1 _ rfl
  have k2 := HA.out 2 _ rfl
  have k3 := HA.out 3 _ rfl
  go_wp2_with fail
  refine (HPC.out _ ((HH.out.below HZ.out).mono hz0)).mono ?_
  rintro e w6 ⟨rfl, hb⟩
  have hs := hb.size
  have HZ := Lib.hid (HZ.out.trans (hb.mono (by omega)))
  have HA := Lib.hid (HA.out.below hb (by omega))
  have hlAx : w.heap.size < w6.heap.size := Nat.lt_of_lt_of_le hlA hb.size
  clear hlA
  have hlA := hlAx
  clear hlAx
  have hz1 : w.heap.size ≤ w6.heap.size := by omega
  clear hb hs hz0
  have hz0 := hz1
  clear hz1
  clear k0 k1 k2 k3
  have HY := Lib.hid (Cells.new_at w6 [.int .u32 y0, .int .i64 y1, .int .i64 y2, .bool g] 24 w6.heap.size rfl)
  have hba := (Below.refl w6.heap.size w6).alloc (Nat.le_refl _) (.cells #[.int .u32 y0, .int .i64 y1, .int .i64 y2, .bool g] 24)
  have HA := Lib.hid (HA.out.below hba (by omega))
  have HZ := Lib.hid (HZ.out.trans (hba.mono (by omega)))
  have hlY : w6.heap.size < (w6.alloc (.cells #[.int .u32 y0, .int .i64 y1, .int .i64 y2, .bool g] 24)).heap.size := by simp
  have hlA7 : w.heap.size < (w6.alloc (.cells #[.int .u32 y0, .int .i64 y1, .int .i64 y2, .bool g] 24)).heap.size := by omega
  have hz7 : w.heap.size ≤ (w6.alloc (.cells #[.int .u32 y0, .int .i64 y1, .int .i64 y2, .bool g] 24)).heap.size := by omega
  go_upto_region 10 with (fail)
  clear hba hlA hz0
  generalize w6.alloc (.cells #[.int .u32 y0, .int .i64 y1, .int .i64 y2, .bool g] 24) = w7 at *
  have hlA := hlA7
  have hz0 := hz7
  clear hlA7 hz7
  generalize w6.heap.size = by_ at *
  go_wp2_with fail
  refine Mono.region_below (by kernel_rfl) (by kernel_rfl) (by kernel_rfl) ?_
  refine Mono.rgl_val (v := ?v0) rfl Mono.rr (fun ρ a W hR hd hf => ?h0) ?_
  case h0 =>
    have e1 := Mono.init_get hf (t := 1) (by kernel_rfl)
    clear hd hf
    (go_simp; try with_reducible rfl)
  refine Mono.rgl_val (v := ?v1) rfl Mono.rr (fun ρ a W hR hd hf => ?h1) ?_
  case h1 =>
    have e2 := Mono.init_get hf (t := 2) (by kernel_rfl)
    clear hd hf
    (go_simp; try with_reducible rfl)
  refine Mono.rgl_val (v := .slice ae m.length ce) rfl Mono.rr (fun ρ a W hR hd hf => ?h2) ?_
  case h2 =>
    have e108 := Mono.dep_val hd hf (t := 108) (k := 0) (by kernel_rfl) rfl
    have e109 := Mono.dep_val hd hf (t := 109) (k := 1) (by kernel_rfl) rfl
    have hsl := HFS.out W
    clear hd hf
    (go_simp)
  refine Mono.rgl_val (v := ?v3) rfl Mono.rr (fun ρ a W hR hd hf => ?h3) ?_
  case h3 =>
    have e3 := Mono.init_get hf (t := 3) (by kernel_rfl)
    clear hd hf
    (go_simp; try with_reducible rfl)
  refine Mono.rgl_val (v := ?v4) rfl Mono.rr (fun ρ a W hR hd hf => ?h4) ?_
  case h4 =>
    have e111 := Mono.dep_val hd hf (t := 111) (k := 3) (by kernel_rfl) rfl
    have hk := (HA.out.below hR (by omega) : Cells W _ _) 3 _ rfl
    clear hd hf
    (go_simp; try with_reducible rfl)
  refine Mono.rgl_call (fun x _ => x = .tuple #[.int .u32 y0, .int .i64 y1, .int .i64 y2, .bool true]) rfl Mono.rr (fun _ _ _ h _ => h) (fun ρ a W hR hd hf => ?h5) ?_
  case h5 =>
    have e110 := Mono.dep_val hd hf (t := 110) (k := 2) (by kernel_rfl) rfl
    have e112 := Mono.dep_val hd hf (t := 112) (k := 4) (by kernel_rfl) rfl
    clear hd hf
    refine ⟨_, _, by go_simp; first | rfl | exact ⟨rfl, rfl⟩, ?_⟩
    exact (HRC.out ae ce W (((HFB.out.below HZ.out).mono hz0).below hR |>.mono hR.size) hfc).mono (fun e W' ⟨he, hb⟩ => ⟨_, he, hb, rfl⟩)
  refine Mono.rgl_val (v := ?v6) rfl Mono.rr (fun ρ a W hR hd hf => ?h6) ?_
  case h6 =>
    have e113 := Mono.dep_val hd hf (t := 113) (k := 5) (by kernel_rfl) rfl
    clear hd hf
    (go_simp; try with_reducible rfl)
  refine Mono.rgl_val (v := ?v7) rfl Mono.rr (fun ρ a W hR hd hf => ?h7) ?_
  case h7 =>
    have e107 := Mono.dep_val hd hf (t := 107) (k := 6) (by kernel_rfl) rfl
    clear hd hf
    (go_simp; try with_reducible rfl)
  refine Mono.rgl_val (v := ?v8) rfl Mono.rr (fun ρ a W hR hd hf => ?h8) ?_
  case h8 =>
    have e107 := Mono.dep_val hd hf (t := 107) (k := 6) (by kernel_rfl) rfl
    clear hd hf
    (go_simp; try with_reducible rfl)
  refine Mono.rgl_val (v := ?v9) rfl Mono.rr (fun ρ a W hR hd hf => ?h9) ?_
  case h9 =>
    have e107 := Mono.dep_val hd hf (t := 107) (k := 6) (by kernel_rfl) rfl
    clear hd hf
    (go_simp; try with_reducible rfl)
  refine Mono.rgl_val (v := ?v10) rfl Mono.rr (fun ρ a W hR hd hf => ?h10) ?_
  case h10 =>
    have e107 := Mono.dep_val hd hf (t := 107) (k := 6) (by kernel_rfl) rfl
    clear hd hf
    (go_simp; try with_reducible rfl)
  refine Mono.rgl_val (v := ?v11) rfl Mono.rr (fun ρ a W hR hd hf => ?h11) ?_
  case h11 =>
    have e114 := Mono.dep_val hd hf (t := 114) (k := 7) (by kernel_rfl) rfl
    clear hd hf
    (go_simp; try with_reducible rfl)
  refine Mono.rgl_val (v := ?v12) rfl Mono.rr (fun ρ a W hR hd hf => ?h12) ?_
  case h12 =>
    have e115 := Mono.dep_val hd hf (t := 115) (k := 8) (by kernel_rfl) rfl
    clear hd hf
    (go_simp; try with_reducible rfl)
  refine Mono.rgl_val (v := ?v13) rfl Mono.rr (fun ρ a W hR hd hf => ?h13) ?_
  case h13 =>
    have e116 := Mono.dep_val hd hf (t := 116) (k := 9) (by kernel_rfl) rfl
    clear hd hf
    (go_simp; try with_reducible rfl)
  refine Mono.rgl_val (v := ?v14) rfl Mono.rr (fun ρ a W hR hd hf => ?h14) ?_
  case h14 =>
    have e117 := Mono.dep_val hd hf (t := 117) (k := 10) (by kernel_rfl) rfl
    clear hd hf
    (go_simp; try with_reducible rfl)
  refine Mono.rgl_done rfl (fun ρ W hR ht => ?_)
  obtain ⟨d14, d13, d12, d11, d10, d9, d8, d7, d6, d5, d4, d3, d2, d1, d0, _⟩ := ht
  simp only [List.length_cons, List.length_nil, Nat.reduceAdd] at d0 d1 d2 d3 d4 d5 d6 d7 d8 d9 d10 d11 d12 d13 d14
  simp only [Mono.putAll, Nat.reduceAdd, d0, d1, d2, d3, d4, d5, d6, d7, d8, d9, d10, d11, d12, d13, d14, Act.put, List.setIfInBounds_toArray, List.set_cons_zero, List.set_cons_succ]
  clear d0 d1 d2 d3 d4 d5 d6 d7 d8 d9 d10 d11 d12 d13 d14
  have HA := Lib.hid (HA.out.below hR (by omega))
  have HY := Lib.hid (HY.out.below hR (by omega))
  have HZ := Lib.hid (HZ.out.trans (hR.mono (by omega)))
  have hlA8 : w.heap.size < W.heap.size := Nat.lt_of_lt_of_le hlA hR.size
  have hlY8 : by_ < W.heap.size := Nat.lt_of_lt_of_le hlY hR.size
  clear hR hlA hlY hz0
  have hlA := hlA8
  have hlY := hlY8
  have hz0 : w.heap.size ≤ W.heap.size := by omega
  clear hlA8 hlY8
  obtain ⟨w8, rfl⟩ : ∃ z, z = W := ⟨_, rfl⟩
  have hsl := HFS.out
  go_wp2_with fail
  clear hsl
  refine (over_any ((HFB.out.below HZ.out).mono hz0) (by omega)).mono ?_
  rintro e w9 ⟨rb, rfl, hrb0, hd, hb⟩
  have hrb1 : rb < w9.heap.size := by obtain ⟨_, _, _, _, _, _, _, h6⟩ := hd; exact h6
  have HD := Lib.hid hd
  have HA := Lib.hid (HA.out.below hb (by omega))
  have HY := Lib.hid (HY.out.below hb (by omega))
  have HZ := Lib.hid (HZ.out.trans (hb.mono (by omega)))
  have hs9 := hb.size
  clear hd hb
  have HR := Lib.hid (Own.new_at w9 [.pointer (some ⟨rb, 0, none⟩)] 38 w9.heap.size rfl)
  have hba := (Below.refl w9.heap.size w9).alloc (Nat.le_refl _) (.cells #[.pointer (some ⟨rb, 0, none⟩)] 38)
  have HD := Lib.hid (HD.out.below hba)
  have HA := Lib.hid (HA.out.below hba (by omega))
  have HY := Lib.hid (HY.out.below hba (by omega))
  have HZ := Lib.hid (HZ.out.trans (hba.mono (by omega)))
  have hz9 : w9.heap.size < (w9.alloc (.cells #[.pointer (some ⟨rb, 0, none⟩)] 38)).heap.size := by simp
  go_upto_region 14 with (fail)
  clear hba
  generalize w9.alloc (.cells #[.pointer (some ⟨rb, 0, none⟩)] 38) = w10 at *
  generalize w9.heap.size = br at *
  have HTR := Lib.hid (tryD_ret 14 #[.pointer (some ⟨br, 0, none⟩), .pointer (some ⟨w.heap.size, 0, none⟩)] w10 rb q m y0 y1 y2 g (by omega) (fun W => cf_codes1 _ W) (fun W hW => codes1_ret br w.heap.size rb q m y0 y1 y2 g g W ((hW.cell (p := ⟨br, 0, none⟩) (by show br < _; omega)).trans (HR.out.1 0 _ rfl)) ((hW.cell (p := ⟨w.heap.size, 3, none⟩) (by show w.heap.size < _; omega)).trans (HA.out 3 _ rfl)) (Nat.lt_of_lt_of_le (show rb < w10.heap.size by omega) hW.size) (HTC.out rb) (HD.out.below hW)))
  have hmf : ∀ (fn : Fn) (first cap : Array Value) (w : World), (Instr.makeFunc fn first cap).run Try.prog w = .ok (.func fn first cap) w := fun _ _ _ _ => rfl
  go_wp2_with fail
  refine HTR.out.mono ?_
  rintro e w11 ⟨rfl, hd, hb⟩
  have hs11 := hb.size
  have HA := Lib.hid (HA.out.bx hb (by omega) (by simp; omega))
  have HY := Lib.hid (HY.out.bx hb (by omega) (by simp; omega))
  have HZ := Lib.hid (HZ.out.trans (hb.below (C := w.heap.size) (by omega) (by simp; omega)))
  clear hd hb HTR hmf
  have HQ := Lib.hid (Cells.new_at w11 [.int .u32 y0, .int .i64 y1, .int .i64 y2, .bool g] 24 w11.heap.size rfl)
  have hba := (Below.refl w11.heap.size w11).alloc (Nat.le_refl _) (.cells #[.int .u32 y0, .int .i64 y1, .int .i64 y2, .bool g] 24)
  have HA := Lib.hid (HA.out.below hba (by omega))
  have HY := Lib.hid (HY.out.below hba (by omega))
  have HZ := Lib.hid (HZ.out.trans (hba.mono (by omega)))
  have hz12 : w11.heap.size < (w11.alloc (.cells #[.int .u32 y0, .int .i64 y1, .int .i64 y2, .bool g] 24)).heap.size := by simp
  go_upto_region 15 with (fail)
  clear hba
  generalize w11.alloc (.cells #[.int .u32 y0, .int .i64 y1, .int .i64 y2, .bool g] 24) = w12 at *
  generalize w11.heap.size = bq at *
  have f0 := HY.out 0 _ rfl
  have f1 := HY.out 1 _ rfl
  have f2 := HY.out 2 _ rfl
  have f3 := HY.out 3 _ rfl
  have k0 := HA.out 0 _ rfl
  have k1 := HA.out 1 _ rfl
  have k2 := HA.out 2 _ rfl
  have k3 := HA.out 3 _ rfl
  go_wp2_with fail
  refine (HLN.out y0 y1 y2 _).mono ?_
  rintro e w13 ⟨rfl, hb⟩
  have hs13 := hb.size
  have HY := Lib.hid (HY.out.below hb (by omega))
  have HQ := Lib.hid (HQ.out.below hb (by omega))
  have HZ := Lib.hid (HZ.out.trans (hb.mono (by omega)))
  clear hb
  clear k0 k1 k2 k3
  clear f0 f1 f2 f3
  have f0 := HY.out 0 _ rfl
  have f1 := HY.out 1 _ rfl
  have f2 := HY.out 2 _ rfl
  have f3 := HY.out 3 _ rfl
  have h0 := HQ.out 0 _ rfl
  have hh1 := HQ.out 1 _ rfl
  have h2 := HQ.out 2 _ rfl
  have h3 := HQ.out 3 _ rfl
  have hw := HWR.out
  go_wp2
  go_ret
  exact ⟨rfl, HZ.out⟩
end Go.Proofs.Ytodjoccdjmmilaa
