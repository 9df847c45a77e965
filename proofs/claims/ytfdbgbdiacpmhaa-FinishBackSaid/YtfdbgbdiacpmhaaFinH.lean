/- The law FinishBack. -/
import Derived.Test.YtfdbgbdiacpmhaaFinG
namespace Go.Proofs.Ytfdbgbdiacpmhaa
open Go.RowKit
theorem back_drop (A : List UInt8) (n s k : Int) (g : Bool) (m : Nat) (hm : m = (tailBytes n s k g).length) : (A ++ tailBytes n s k g).drop ((A ++ tailBytes n s k g).length - m) = tailBytes n s k g := by
  subst hm
  rw [List.length_append, Nat.add_sub_cancel, List.drop_left]
theorem rd_back (A : List UInt8) (n s k : Int) (g : Bool) (m q j : Nat) (hm : m = (tailBytes n s k g).length) : rd (A ++ tailBytes n s k g) ((A ++ tailBytes n s k g).length - m + q) j = rd (tailBytes n s k g) q j := by
  rw [rd_drop, back_drop A n s k g m hm]
theorem rd_byt {l : List UInt8} {q j v : Nat} (h : (l.drop q).take j = byt j v) (hv : v < 256 ^ j) : rd l q j = v := by
  unfold rd; rw [h, num_byt, Nat.mod_eq_of_lt hv]
theorem parse_back (ad : Option Addr) (c : Nat) (A : List UInt8) (n s k : Nat) (g : Bool) (ht : tailB n s k = true) (hA : A.length ≤ 300) (w : World) (h : Byt w w.heap.size (.slice ad (A ++ tailBytes n s k g).length c) (A ++ tailBytes n s k g)) (hc : (A ++ tailBytes n s k g).length ≤ c) :
    Calls Try.prog 12 #[.slice ad (A ++ tailBytes n s k g).length c] w fun e w' => e = .returned (.tuple #[.agg #[.int .i64 (n : Nat), .int .i64 (s : Nat), .int .i64 (k : Nat), .bool g], .int .i64 (A.length : Nat), .int .i64 0]) ∧ Below w.heap.size w w' := by
  have h' := of_decide_eq_true ht
  cases g with
  | false =>
    have hlen : (tailBytes n s k false).length = 22 := tailBytes_len _ _ _ _
    have hl : (A ++ tailBytes n s k false).length = A.length + 22 := by rw [List.length_append, hlen]
    have e1 : rd (A ++ tailBytes n s k false) ((A ++ tailBytes n s k false).length - 22 + 8) 2 = n := by
      rw [rd_back A n s k false 22 8 2 hlen.symm]; exact rd_byt (v := (n : Int).toNat) rfl (by simp; omega)
    have e2 : rd (A ++ tailBytes n s k false) ((A ++ tailBytes n s k false).length - 22 + 12) 4 = s := by
      rw [rd_back A n s k false 22 12 4 hlen.symm]; exact rd_byt (v := (s : Int).toNat) rfl (by simp; omega)
    have e3 : rd (A ++ tailBytes n s k false) ((A ++ tailBytes n s k false).length - 22 + 16) 4 = k := by
      rw [rd_back A n s k false 22 16 4 hlen.symm]; exact rd_byt (v := (k : Int).toNat) rfl (by simp; omega)
    have hd := back_drop A n s k false 22 hlen.symm
    have := parse_narrow_yes ad c _ w h (by omega) hc (by omega) (magic_narrow hd) (by omega) (by rw [e1, e2, e3]; exact ht) (by rw [e1, e2, e3]; exact decide_eq_true hd.symm)
    rw [e1, e2, e3] at this
    have e4 : (((A ++ tailBytes n s k false).length : Nat) : Int) - 22 = (A.length : Nat) := by omega
    rw [e4] at this
    exact this
  | true =>
    have hlen : (tailBytes n s k true).length = 98 := tailBytes_len _ _ _ _
    have hl : (A ++ tailBytes n s k true).length = A.length + 98 := by rw [List.length_append, hlen]
    have e1 : rd (A ++ tailBytes n s k true) ((A ++ tailBytes n s k true).length - 98 + 24) 8 = n := by
      rw [rd_back A n s k true 98 24 8 hlen.symm]; exact rd_byt (v := (n : Int).toNat) rfl (by simp; omega)
    have e2 : rd (A ++ tailBytes n s k true) ((A ++ tailBytes n s k true).length - 98 + 40) 8 = s := by
      rw [rd_back A n s k true 98 40 8 hlen.symm]; exact rd_byt (v := (s : Int).toNat) rfl (by simp; omega)
    have e3 : rd (A ++ tailBytes n s k true) ((A ++ tailBytes n s k true).length - 98 + 48) 8 = k := by
      rw [rd_back A n s k true 98 48 8 hlen.symm]; exact rd_byt (v := (k : Int).toNat) rfl (by simp; omega)
    have hd := back_drop A n s k true 98 hlen.symm
    obtain ⟨m1, m2⟩ := magic_wide (by omega) hd
    have q1 : IntKind.i64.wrap (n : Int) = n := IntWalk.i64_in _ (by omega)
    have q2 : IntKind.i64.wrap (s : Int) = s := IntWalk.i64_in _ (by omega)
    have q3 : IntKind.i64.wrap (k : Int) = k := IntWalk.i64_in _ (by omega)
    have := parse_wide_yes ad c _ w h (by omega) hc (by omega) m1 m2 (by rw [e1, e2, e3, q1, q2, q3]; exact ht) (by rw [e1, e2, e3, q1, q2, q3]; exact decide_eq_true hd.symm)
    rw [e1, e2, e3, q1, q2, q3] at this
    have e4 : (((A ++ tailBytes n s k true).length : Nat) : Int) - 98 = (A.length : Nat) := by omega
    rw [e4] at this
    exact this
theorem parse_behind (ad : Option Addr) (c : Nat) (A : List UInt8) (n s k : Nat) (g : Bool) (x : UInt8) (hA : A.length ≤ 300) (w : World) (h : Byt w w.heap.size (.slice ad (A ++ tailBytes n s k g ++ [x]).length c) (A ++ tailBytes n s k g ++ [x])) (hc : (A ++ tailBytes n s k g ++ [x]).length ≤ c) :
    Calls Try.prog 12 #[.slice ad (A ++ tailBytes n s k g ++ [x]).length c] w fun e w' => e = .returned (.tuple #[.agg #[.int .i64 0, .int .i64 0, .int .i64 0, .bool false], .int .i64 0, .int .i64 30]) ∧ Below w.heap.size w w' := by
  have hl : (A ++ tailBytes n s k g ++ [x]).length = A.length + (if g then 98 else 22) + 1 := by rw [List.length_append, List.length_append, tailBytes_len]; rfl
  refine parse_magic ad c _ w h (by rw [hl]; split <;> omega) hc (by rw [hl]; split <;> omega) ?_
  have e : (A ++ tailBytes n s k g ++ [x]).length - 22 = A.length + (if g then 77 else 1) := by rw [hl]; cases g <;> simp <;> omega
  rw [e, rd_drop, List.append_assoc, List.drop_left]
  have e2 : rd (tailBytes n s k g ++ [x]) (if g then 77 else 1) 4 = num [75, 5, 6, 0] := by
    cases g <;> rfl
  rw [e2]
  decide
set_option maxHeartbeats 1000000 in
theorem back_none (n s k : Int) (g : Bool) (av : Value) (x : Int) (w : World) (h : tailB n s k = false) : Calls Try.prog 5 #[.agg #[.int .i64 n, .int .i64 s, .int .i64 k, .bool g], av, .int .u8 x] w (lawQ w) := by
  have HE := Lib.hid (fun W => enc_no n s k g W h)
  clear h
  have HA := Lib.hid (Cells.new_at w [.int .i64 n, .int .i64 s, .int .i64 k, .bool g] 23 w.heap.size rfl)
  have HZ := Lib.hid ((Below.refl w.heap.size w).alloc (Nat.le_refl _) (.cells #[.int .i64 n, .int .i64 s, .int .i64 k, .bool g] 23))
  go_enter Try.func5, Try.ntmps5
  go_wp2_with fail
  refine (awake_any _).mono ?_
  rintro e w1 ⟨rfl, hb⟩
  have hs := hb.size
  simp only [World.size_alloc] at hs
  have HA := Lib.hid (HA.out.below hb (by simp))
  have HZ := Lib.hid (HZ.out.trans (hb.mono (by simp)))
  have hz0 : w.heap.size < w1.heap.size := by omega
  clear hb hs
  have k0 := HA.out 0 _ rfl
  have k1 := HA.out 1 _ rfl
  have k2 := HA.out 2 _ rfl
  have k3 := HA.out 3 _ rfl
  go_wp2_with fail
  refine (HE.out _).mono ?_
  rintro e w2 ⟨rfl, hb⟩
  have hs := hb.size
  have HA := Lib.hid (HA.out.below hb (by omega))
  have HZ := Lib.hid (HZ.out.trans (hb.mono (by omega)))
  have hz1 : w.heap.size < w2.heap.size := by omega
  clear hb hs hz0
  have hz0 := hz1
  clear hz1
  clear k0 k1 k2 k3
  go_wp2
  go_ret
  exact ⟨rfl, HZ.out⟩
set_option maxHeartbeats 1000000 in
theorem back_long (n s k : Nat) (g : Bool) (ad : Option Addr) (len c : Nat) (x : Int) (w : World) (h : tailB n s k = true) (hl : 300 < len) : Calls Try.prog 5 #[.agg #[.int .i64 (n : Nat), .int .i64 (s : Nat), .int .i64 (k : Nat), .bool g], .slice ad len c, .int .u8 x] w (lawQ w) := by
  have HE := Lib.hid (fun W => enc_yes n s k g W h)
  have t0 : decide (300 < (len : Int)) = true := by simp; omega
  clear h
  have HA := Lib.hid (Cells.new_at w [.int .i64 (n : Nat), .int .i64 (s : Nat), .int .i64 (k : Nat), .bool g] 23 w.heap.size rfl)
  have HZ := Lib.hid ((Below.refl w.heap.size w).alloc (Nat.le_refl _) (.cells #[.int .i64 (n : Nat), .int .i64 (s : Nat), .int .i64 (k : Nat), .bool g] 23))
  go_enter Try.func5, Try.ntmps5
  go_wp2_with fail
  refine (awake_any _).mono ?_
  rintro e w1 ⟨rfl, hb⟩
  have hs := hb.size
  simp only [World.size_alloc] at hs
  have HA := Lib.hid (HA.out.below hb (by simp))
  have HZ := Lib.hid (HZ.out.trans (hb.mono (by simp)))
  have hz0 : w.heap.size < w1.heap.size := by omega
  clear hb hs
  have k0 := HA.out 0 _ rfl
  have k1 := HA.out 1 _ rfl
  have k2 := HA.out 2 _ rfl
  have k3 := HA.out 3 _ rfl
  go_wp2_with fail
  refine (HE.out _).mono ?_
  rintro e w2 ⟨v, rfl, hv, hb⟩
  have hs := hb.size
  have HA := Lib.hid (HA.out.below hb (by omega))
  have HZ := Lib.hid (HZ.out.trans (hb.mono (by omega)))
  have hz1 : w.heap.size < w2.heap.size := by omega
  clear hv hb hs hz0
  have hz0 := hz1
  clear hz1
  clear k0 k1 k2 k3
  go_wp2
  go_ret
  exact ⟨rfl, HZ.out⟩
set_option maxHeartbeats 2000000 in
theorem back_yes (n s k : Nat) (g : Bool) (ad : Option Addr) (c : Nat) (A : List UInt8) (x : UInt8) (w : World) (h : tailB n s k = true) (hB : Byt w w.heap.size (.slice ad A.length c) A) (hl : A.length ≤ 300) : Calls Try.prog 5 #[.agg #[.int .i64 (n : Nat), .int .i64 (s : Nat), .int .i64 (k : Nat), .bool g], .slice ad A.length c, .int .u8 (x.toNat : Int)] w (lawQ w) := by
  have HE := Lib.hid (fun W => enc_yes n s k g W h)
  have HPB := Lib.hid (fun a c => parse_back a c A n s k g h hl)
  have HPC := Lib.hid (fun a c => parse_behind a c A n s k g x hl)
  have HIN := Lib.hid hB
  have t0 : decide (300 < (A.length : Int)) = false := by simp; omega
  have hxl := tailBytes_le n s k g
  clear h hB
  generalize tailBytes n s k g = X at *
  have HA := Lib.hid (Cells.new_at w [.int .i64 (n : Nat), .int .i64 (s : Nat), .int .i64 (k : Nat), .bool g] 23 w.heap.size rfl)
  have HZ := Lib.hid ((Below.refl w.heap.size w).alloc (Nat.le_refl _) (.cells #[.int .i64 (n : Nat), .int .i64 (s : Nat), .int .i64 (k : Nat), .bool g] 23))
  go_enter Try.func5, Try.ntmps5
  go_wp2_with fail
  refine (awake_any _).mono ?_
  rintro e w1 ⟨rfl, hb⟩
  have hs := hb.size
  simp only [World.size_alloc] at hs
  have HA := Lib.hid (HA.out.below hb (by simp))
  have HZ := Lib.hid (HZ.out.trans (hb.mono (by simp)))
  have hz0 : w.heap.size < w1.heap.size := by omega
  clear hb hs
  have k0 := HA.out 0 _ rfl
  have k1 := HA.out 1 _ rfl
  have k2 := HA.out 2 _ rfl
  have k3 := HA.out 3 _ rfl
  go_wp2_with fail
  refine (HE.out _).mono ?_
  rintro e w2 ⟨v, rfl, hv, hb⟩
  have hs := hb.size
  have HA := Lib.hid (HA.out.below hb (by omega))
  have HZ := Lib.hid (HZ.out.trans (hb.mono (by omega)))
  have HV := Lib.hid hv
  have hz1 : w.heap.size < w2.heap.size := by omega
  clear hv hb hs hz0
  have hz0 := hz1
  clear hz1
  clear k0 k1 k2 k3
  have hbe := (Below.refl w2.heap.size w2).alloc (Nat.le_refl _) (.cells #[] 5)
  have HO := Lib.hid (OB.empty w2 (Nat.le_refl w2.heap.size))
  have HIN2 := Lib.hid ((HIN.out.below (HZ.out.trans (hbe.mono (by omega)))))
  have HV := Lib.hid (HV.out.below hbe)
  have HBE := Lib.hid hbe
  clear hbe
  go_wp2_with (at_builtin; refine append_OB rfl _ _ rfl rfl HO.out rfl HIN2.out (by first | omega | (simp; omega)) (by simp) ?_)
  intro va w3 ho hb
  have HO := Lib.hid ho
  have hs3 := hb.size
  simp only [World.size_alloc] at hs3
  have HV := Lib.hid (HV.out.below hb)
  have HBE := Lib.hid (HBE.out.trans hb)
  clear ho hb
  go_wp2_with (at_builtin; refine append_OB rfl _ _ rfl rfl HO.out rfl HV.out (by first | omega | (simp; omega)) (by omega) ?_)
  intro vb w4 ho hb
  have HO := Lib.hid ho
  have hs4 := hb.size
  have HBE := Lib.hid (HBE.out.trans hb)
  clear ho hb
  try simp only [List.nil_append] at HO
  have HA := Lib.hid (HA.out.below HBE.out (by omega))
  have HZ := Lib.hid (HZ.out.trans (HBE.out.mono (by omega)))
  have hz1 : w.heap.size < w4.heap.size := by omega
  clear hz0 hs3 HBE HV HIN2
  have hz0 := hz1
  clear hz1
  have hlAX : (A ++ X).length ≤ 500 := by rw [List.length_append]; omega
  generalize A ++ X = AX at *
  obtain ⟨aa, ca, hva, hca⟩ := HO.out.form
  subst hva
  go_wp2_with fail
  refine (HPB.out aa ca _ HO.out.byt hca).mono ?_
  rintro e w5 ⟨rfl, hb⟩
  have hs := hb.size
  have HA := Lib.hid (HA.out.below hb (by omega))
  have HZ := Lib.hid (HZ.out.trans (hb.mono (by omega)))
  have HO := Lib.hid (HO.out.below hb)
  have hz1 : w.heap.size < w5.heap.size := by omega
  clear hb hs hz0
  have hz0 := hz1
  clear hz1
  have HT := Lib.hid (Cells.new_at w5 [.int .i64 (n : Nat), .int .i64 (s : Nat), .int .i64 (k : Nat), .bool g] 23 w5.heap.size rfl)
  have hba := (Below.refl w5.heap.size w5).alloc (Nat.le_refl _) (.cells #[.int .i64 (n : Nat), .int .i64 (s : Nat), .int .i64 (k : Nat), .bool g] 23)
  have HA := Lib.hid (HA.out.below hba (by omega))
  have HO := Lib.hid (HO.out.below hba)
  have HZ := Lib.hid (HZ.out.trans (hba.mono (by omega)))
  have hlt : w5.heap.size < (w5.alloc (.cells #[.int .i64 (n : Nat), .int .i64 (s : Nat), .int .i64 (k : Nat), .bool g] 23)).heap.size := by simp
  clear hba
  go_upto_region 8 with (fail)
  generalize w5.alloc (.cells #[.int .i64 (n : Nat), .int .i64 (s : Nat), .int .i64 (k : Nat), .bool g] 23) = w6 at *
  generalize w5.heap.size = b5 at *
  have hbe := (Below.refl w6.heap.size w6).alloc (Nat.le_refl _) (.cells #[] 5)
  have HO2 := Lib.hid (OB.empty w6 (Nat.le_refl w6.heap.size))
  have HBE := Lib.hid hbe
  have HY := Lib.hid (HO.out.byt.below hbe)
  clear hbe
  go_wp2_with (at_builtin; refine append_OB rfl _ _ rfl rfl HO2.out rfl HY.out (by first | omega | (simp; omega)) (by simp) ?_)
  intro vc w7 ho hb
  have HO := Lib.hid ho
  have hs7 := hb.size
  simp only [World.size_alloc] at hs7
  have HBE := Lib.hid (HBE.out.trans hb)
  clear ho hb
  try simp only [List.nil_append] at HO
  have hbx := (Below.refl w7.heap.size w7).alloc (Nat.le_refl _) (.cells #[.int .u8 (x.toNat : Int)] 5)
  have HO := Lib.hid (HO.out.below hbx)
  have HBE := Lib.hid (HBE.out.trans (hbx.mono (by omega)))
  have HX := Lib.hid (one_byte w7 x)
  clear hbx
  go_wp2_with (at_builtin; refine append_OB rfl _ _ rfl rfl HO.out rfl HX.out (by first | omega | (simp; omega)) (by first | omega | (simp; omega)) ?_)
  intro vd w8 ho hb
  have HO := Lib.hid ho
  have hs8 := hb.size
  simp only [World.size_alloc] at hs8
  have HBE := Lib.hid (HBE.out.trans hb)
  clear ho hb
  have HA := Lib.hid (HA.out.below HBE.out (by omega))
  have HT := Lib.hid (HT.out.below HBE.out (by omega))
  have HZ := Lib.hid (HZ.out.trans (HBE.out.mono (by omega)))
  have hz1 : w.heap.size < w8.heap.size := by omega
  have hz5 : b5 < w8.heap.size := by omega
  clear hz0 hs7 hs8 HBE HY HX HO2
  have hz0 := hz1
  clear hz1
  generalize AX ++ [x] = AY at *
  obtain ⟨ae, ce, hve, hce⟩ := HO.out.form
  subst hve
  go_wp2_with fail
  refine (HPC.out ae ce _ HO.out.byt hce).mono ?_
  rintro e w9 ⟨rfl, hb⟩
  have hs := hb.size
  have HA := Lib.hid (HA.out.below hb (by omega))
  have HZ := Lib.hid (HZ.out.trans (hb.mono (by omega)))
  have HT := Lib.hid (HT.out.below hb (by omega))
  have hz9 : b5 < w9.heap.size := Nat.lt_of_lt_of_le hz5 hb.size
  have hz1 : w.heap.size < w9.heap.size := by omega
  clear hb hs hz0
  have hz0 := hz1
  clear hz1
  have k0 := HA.out 0 _ rfl
  have k1 := HA.out 1 _ rfl
  have k2 := HA.out 2 _ rfl
  have k3 := HA.out 3 _ rfl
  have y0 := HT.out 0 _ rfl
  have y1 := HT.out 1 _ rfl
  have y2 := HT.out 2 _ rfl
  have y3 := HT.out 3 _ rfl
  have HZ := Lib.hid (HZ.out.alloc (by omega) (.cells #[.int .i64 0, .int .i64 0, .int .i64 0, .bool false] 23))
  go_wp2
  go_ret
  exact ⟨rfl, HZ.out⟩
theorem fback_walk (n s k : Int) (g : Bool) (ad : Option Addr) (c : Nat) (A : List UInt8) (x : Int) (w : World) (hB : Byt w w.heap.size (.slice ad A.length c) A) (hx : 0 ≤ x ∧ x ≤ 255) : Calls Try.prog 5 #[.agg #[.int .i64 n, .int .i64 s, .int .i64 k, .bool g], .slice ad A.length c, .int .u8 x] w fun e w' => e = .returned (.bool true) ∧ Below w.heap.size w w' := by
  cases h : tailB n s k with
  | false => exact back_none n s k g _ x w h
  | true =>
    have h' := of_decide_eq_true h
    obtain ⟨n, rfl⟩ : ∃ y : Nat, n = y := ⟨n.toNat, by omega⟩
    obtain ⟨s, rfl⟩ : ∃ y : Nat, s = y := ⟨s.toNat, by omega⟩
    obtain ⟨k, rfl⟩ : ∃ y : Nat, k = y := ⟨k.toNat, by omega⟩
    by_cases hl : A.length ≤ 300
    · have e : x = ((UInt8.ofNat x.toNat).toNat : Int) := by
        rw [UInt8.toNat_ofNat']
        have h1 : (2 : Nat) ^ 8 = 256 := by decide
        rw [h1]; omega
      rw [e]
      exact back_yes n s k g ad c A _ w h hB hl
    · exact back_long n s k g ad A.length c x w h (by omega)
end Go.Proofs.Ytfdbgbdiacpmhaa
