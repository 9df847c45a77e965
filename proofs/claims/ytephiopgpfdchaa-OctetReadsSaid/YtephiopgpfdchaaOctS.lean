/- The law OctetReads. -/
import Derived.Test.YtephiopgpfdchaaOctR
import Derived.Test.YtephiopgpfdchaaOctI
namespace Go.Proofs.Ytephiopgpfdchaa
open Go.RowKit
def lawQ (w : World) : Ending → World → Prop := fun e w' => e = .returned (.bool true) ∧ Below w.heap.size w w'
theorem read_arg (rb p : Nat) (l : List UInt8) (k n : Int) (v : Nat) (w : World) (h : RD w rb l p) (hn : n < 0 ∨ k ≠ 0 ∧ (n < 1 ∨ 8 < n)) : Calls Try.prog 18 #[.pointer (some ⟨rb, 0, none⟩), .agg #[.int .i64 k, .int .i64 n, .int .u64 (v : Nat)]] w fun e w' => e = .returned (.tuple #[.slice none 0 0, .int .i64 1]) ∧ RD w' rb l p ∧ Bx [rb] w.heap.size w w' := by
  refine read_throw rb p l k n v p 1 w h (fun bc br W hd hc hr => ?_)
  by_cases h0 : k = 0
  · subst h0; exact r1_bytes_arg rb p l bc br W hd n v (by omega) hc hr
  · by_cases h1 : k = 1
    · subst h1; exact r1_int_arg rb p l bc br W hd n v (by omega) hc hr
    · exact r1_want_arg rb p l bc br W hd k h0 h1 n v (by omega) hc hr
theorem read_short (rb p : Nat) (l : List UInt8) (k n : Int) (v : Nat) (w : World) (h : RD w rb l p) (h0 : 0 ≤ n) (hn : k = 0 ∨ 1 ≤ n ∧ n ≤ 8) (hs : (l.length : Int) - p < n) : Calls Try.prog 18 #[.pointer (some ⟨rb, 0, none⟩), .agg #[.int .i64 k, .int .i64 n, .int .u64 (v : Nat)]] w fun e w' => e = .returned (.tuple #[.slice none 0 0, .int .i64 4]) ∧ RD w' rb l p ∧ Bx [rb] w.heap.size w w' := by
  refine read_throw rb p l k n v p 4 w h (fun bc br W hd hc hr => ?_)
  by_cases h00 : k = 0
  · subst h00; exact r1_bytes_short rb p l bc br W hd n v h0 hs hc hr
  · obtain ⟨m, rfl⟩ : ∃ m : Nat, n = m := ⟨n.toNat, by omega⟩
    by_cases h1 : k = 1
    · subst h1; exact r1_int_short rb p l bc br W hd m v (by omega) (by omega) (by omega) hc hr
    · exact r1_want_short rb p l bc br W hd k h00 h1 m v (by omega) (by omega) (by omega) hc hr
theorem read_c0 (rb p : Nat) (l : List UInt8) (m v : Nat) (w : World) (h : RD w rb l p) (hn : p + m ≤ l.length) : Calls Try.prog 18 #[.pointer (some ⟨rb, 0, none⟩), .agg #[.int .i64 0, .int .i64 (m : Nat), .int .u64 (v : Nat)]] w fun e w' => ∃ a z c, e = .returned (.tuple #[.slice a z c, .int .i64 0]) ∧ Byt w' w'.heap.size (.slice a z c) ((l.drop p).take m) ∧ RD w' rb l (p + m) ∧ Bx [rb] w.heap.size w w' :=
  read_ret rb p l 0 m v (p + m) _ w h (fun bc br W hd hc hr => r1_bytes_yes rb p l bc br W hd m v hn hc hr)
theorem read_c1 (rb p : Nat) (l : List UInt8) (m v : Nat) (w : World) (h : RD w rb l p) (n1 : 1 ≤ m) (n2 : m ≤ 8) (hn : p + m ≤ l.length) : Calls Try.prog 18 #[.pointer (some ⟨rb, 0, none⟩), .agg #[.int .i64 1, .int .i64 (m : Nat), .int .u64 (v : Nat)]] w fun e w' => ∃ a z c, e = .returned (.tuple #[.slice a z c, .int .i64 0]) ∧ Byt w' w'.heap.size (.slice a z c) (byt 8 (rd l p m)) ∧ RD w' rb l (p + m) ∧ Bx [rb] w.heap.size w w' :=
  read_ret rb p l 1 m v (p + m) _ w h (fun bc br W hd hc hr => r1_int_yes rb p l bc br W hd m v n1 n2 hn hc hr)
theorem read_c2 (rb p : Nat) (l : List UInt8) (k : Int) (m v : Nat) (w : World) (h : RD w rb l p) (h0 : k ≠ 0) (h1 : k ≠ 1) (n1 : 1 ≤ m) (n2 : m ≤ 8) (hn : p + m ≤ l.length) (hv : rd l p m = v) : Calls Try.prog 18 #[.pointer (some ⟨rb, 0, none⟩), .agg #[.int .i64 k, .int .i64 (m : Nat), .int .u64 (v : Nat)]] w fun e w' => ∃ a z c, e = .returned (.tuple #[.slice a z c, .int .i64 0]) ∧ Byt w' w'.heap.size (.slice a z c) ([]) ∧ RD w' rb l (p + m) ∧ Bx [rb] w.heap.size w w' :=
  read_ret rb p l k m v (p + m) _ w h (fun bc br W hd hc hr => r1_want_yes rb p l bc br W hd k h0 h1 m v n1 n2 hn hv hc hr)
theorem read_c3 (rb p : Nat) (l : List UInt8) (k : Int) (m v : Nat) (w : World) (h : RD w rb l p) (h0 : k ≠ 0) (h1 : k ≠ 1) (n1 : 1 ≤ m) (n2 : m ≤ 8) (hn : p + m ≤ l.length) (hv : rd l p m ≠ v) : Calls Try.prog 18 #[.pointer (some ⟨rb, 0, none⟩), .agg #[.int .i64 k, .int .i64 (m : Nat), .int .u64 (v : Nat)]] w fun e w' => e = .returned (.tuple #[.slice none 0 0, .int .i64 35]) ∧ RD w' rb l (p + m) ∧ Bx [rb] w.heap.size w w' :=
  read_throw rb p l k m v (p + m) 35 w h (fun bc br W hd hc hr => r1_want_no rb p l bc br W hd k h0 h1 m v n1 n2 hn hv hc hr)
/-- Calls in memory. -/
def CallsAt (w : World) (b off : Nat) (cs : List (Int × Int × Nat)) : Prop := ∀ j, j < cs.length → w.cell? ⟨b, off + j * 3, none⟩ = some (.int .i64 (cs.getD j (0, 0, 0)).1) ∧ w.cell? ⟨b, off + j * 3 + 1, none⟩ = some (.int .i64 (cs.getD j (0, 0, 0)).2.1) ∧ w.cell? ⟨b, off + j * 3 + 2, none⟩ = some (.int .u64 ((cs.getD j (0, 0, 0)).2.2 : Nat))
set_option maxHeartbeats 40000000 in
set_option maxRecDepth 100000 in
theorem reads_any (ad : Option Addr) (c : Nat) (l : List UInt8) (b off cap : Nat) (cs : List (Int × Int × Nat)) (w : World) (h : Byt w w.heap.size (.slice ad l.length c) l) (hl : l.length ≤ 300) (hc : l.length ≤ c) (hcs : cs.length ≤ 50) (hb : b < w.heap.size) (hat : CallsAt w b off cs) :
    Calls Try.prog 5 #[.slice ad l.length c, .slice (some ⟨b, off, none⟩) cs.length cap] w (lawQ w) := by
  have HH := Lib.hid h
  have HAT := Lib.hid hat
  have t0 : decide (300 < (l.length : Int)) = false := by simp; omega
  have t00 : decide (50 < (cs.length : Int)) = false := by simp; omega
  clear h hat
  go_enter Try.func5, Try.ntmps5
  go_wp2_with fail
  refine (awake_any _).mono ?_
  rintro e w1 ⟨rfl, hb1⟩
  have HZ := Lib.hid hb1
  have hz1 := hb1.size
  clear hb1
  go_wp2_with fail
  refine (over_any (HH.out.below HZ.out) (by omega)).mono ?_
  rintro e w2 ⟨rb, rfl, hrb0, hd, hb2⟩
  have hrb1 : rb < w2.heap.size := by obtain ⟨_, _, _, _, _, _, _, h6⟩ := hd; exact h6
  have HD := Lib.hid hd
  have HZ := Lib.hid (HZ.out.trans (hb2.mono hz1))
  have hz2 := hb2.size
  clear hd hb2
  have HIN := Lib.hid (HH.out.below HZ.out)
  go_wp2
  go_loopw [6, 7] (fun t i wr => ∃ p j : Nat, t = .int .i64 (p : Nat) ∧ i = .int .i64 (j : Nat) ∧ j ≤ cs.length ∧ p ≤ l.length ∧ Hid (RD wr rb l p) ∧ Hid (Bx [rb] w2.heap.size w2 wr)) (fun _ i _ => cs.length - (intOf i).toNat)
  case atStart => exact ⟨0, 0, rfl, rfl, Nat.zero_le _, Nat.zero_le _, HD, Lib.hid (Bx.refl _ _ _)⟩
  case round =>
    clear HD
    obtain ⟨p, j, rfl, rfl, hj, hp, HD, HB⟩ := hrel
    have hzr := HB.out.size
    by_cases hlt : j < cs.length
    · have hcell := HAT.out j hlt
      have hbel := HZ.out.trans (HB.out.below (C := w.heap.size) (by omega) (by simp; omega))
      have h0c : wr.cell? ⟨b, off + j * 3, none⟩ = _ := (hbel.cell (p := ⟨b, off + j * 3, none⟩) hb).trans hcell.1
      have h1c : wr.cell? ⟨b, off + j * 3 + 1, none⟩ = _ := (hbel.cell (p := ⟨b, off + j * 3 + 1, none⟩) hb).trans hcell.2.1
      have h2c : wr.cell? ⟨b, off + j * 3 + 2, none⟩ = _ := (hbel.cell (p := ⟨b, off + j * 3 + 2, none⟩) hb).trans hcell.2.2
      clear hcell hbel
      generalize cs.getD j (0, 0, 0) = q at *
      obtain ⟨k, n, v⟩ := q
      simp only at h0c h1c h2c
      by_cases c1 : n < 0
      · have HCAST : Hid (True) := Lib.hid trivial
        have t1 : decide (n < 0) = true := by simpa using c1
        go_upto_region 12 with (fail)
        have hba := (Below.refl wr.heap.size wr).alloc (Nat.le_refl _) (.cells #[.int .i64 k, .int .i64 n, .int .u64 (v : Nat)] 45)
        have HC := Lib.hid (Cells.new_at wr [.int .i64 k, .int .i64 n, .int .u64 (v : Nat)] 45 wr.heap.size rfl)
        have HD := Lib.hid (HD.out.below hba)
        have HB := Lib.hid (HB.out.trans (Bx.of_below (hba.mono hzr)))
        have hz3 : wr.heap.size < (wr.alloc (.cells #[.int .i64 k, .int .i64 n, .int .u64 (v : Nat)] 45)).heap.size := by simp
        clear hba h0c h1c h2c
        generalize wr.alloc (.cells #[.int .i64 k, .int .i64 n, .int .u64 (v : Nat)] 45) = w3 at *
        generalize wr.heap.size = b8 at *
        have k0 := HC.out 0 _ rfl
        have k1 := HC.out 1 _ rfl
        have k2 := HC.out 2 _ rfl
        have HRD := Lib.hid (read_arg rb p l k n v _ HD.out (.inl c1))
        go_wp2_with fail
        refine HRD.out.mono ?_
        rintro e w4 ⟨rfl, hd, hb⟩
        have hs4 := hb.size
        have HD := Lib.hid hd
        have HC := Lib.hid (HC.out.bx hb (by omega) (by simp; omega))
        have HB := Lib.hid (HB.out.trans (hb.mono (by omega)))
        clear hd hb HRD k0 k1 k2
        have hba := (Below.refl w4.heap.size w4).alloc (Nat.le_refl _) (.cells #[] 5)
        have HD := Lib.hid (HD.out.below hba)
        have HC := Lib.hid (HC.out.below hba (by omega))
        have HB := Lib.hid (HB.out.trans (Bx.of_below (hba.mono (by omega))))
        have hz5 : w4.heap.size < (w4.alloc (.cells #[] 5)).heap.size := by simp
        clear hba
        go_upto_region 22 with (fail)
        generalize w4.alloc (.cells #[] 5) = w5 at *
        generalize w4.heap.size = b12 at *
        have k0 := HC.out 0 _ rfl
        have k1 := HC.out 1 _ rfl
        have k2 := HC.out 2 _ rfl
        have hcv1 := convert_byt (src := 22) (dst := 9) (e := 5) rfl rfl rfl ((.inl ⟨none, 0, rfl, rfl, fun _ => rfl⟩ : Byt w5 0 (.slice none 0 0) []))
        have hcv2 := convert_byt (src := 22) (dst := 9) (e := 5) rfl rfl rfl ((.inl ⟨some ⟨b12, 0, none⟩, 0, rfl, rfl, fun h => by cases h⟩ : Byt w5 0 (.slice (some ⟨b12, 0, none⟩) 0 0) []))
        go_wp2_with fail
        refine (at_any HD.out).mono ?_
        rintro e w' ⟨rfl, hw'⟩
        subst w'
        go_wp2_with fail
        refine (left_any HD.out).mono ?_
        rintro e w7 ⟨rfl, nn, rfl⟩
        have HD := Lib.hid (HD.out.drewN nn)
        have HB := Lib.hid (HB.out.trans (Bx.of_below (below_drewN (Below.refl _ _) nn)))
        have hcast := HCAST.out
        go_wp2
        go_roundw
        case rel => exact ⟨p, j + 1, by first | rfl | simp, by go_num, by omega, by omega, HD, HB⟩
        case measure => simp [intOf]; omega
      have t1 : decide (n < 0) = false := by simpa using c1
      by_cases ck : k = 0
      · subst ck
        by_cases cs1 : (l.length : Int) - (p : Int) < n
        · have HCAST : Hid (True) := Lib.hid trivial
          have t2 : decide ((l.length : Int) - (p : Int) < n) = true := by simpa using cs1
          go_upto_region 12 with (fail)
          have hba := (Below.refl wr.heap.size wr).alloc (Nat.le_refl _) (.cells #[.int .i64 0, .int .i64 n, .int .u64 (v : Nat)] 45)
          have HC := Lib.hid (Cells.new_at wr [.int .i64 0, .int .i64 n, .int .u64 (v : Nat)] 45 wr.heap.size rfl)
          have HD := Lib.hid (HD.out.below hba)
          have HB := Lib.hid (HB.out.trans (Bx.of_below (hba.mono hzr)))
          have hz3 : wr.heap.size < (wr.alloc (.cells #[.int .i64 0, .int .i64 n, .int .u64 (v : Nat)] 45)).heap.size := by simp
          clear hba h0c h1c h2c
          generalize wr.alloc (.cells #[.int .i64 0, .int .i64 n, .int .u64 (v : Nat)] 45) = w3 at *
          generalize wr.heap.size = b8 at *
          have k0 := HC.out 0 _ rfl
          have k1 := HC.out 1 _ rfl
          have k2 := HC.out 2 _ rfl
          have HRD := Lib.hid (read_short rb p l 0 n v _ HD.out (by omega) (.inl rfl) cs1)
          go_wp2_with fail
          refine HRD.out.mono ?_
          rintro e w4 ⟨rfl, hd, hb⟩
          have hs4 := hb.size
          have HD := Lib.hid hd
          have HC := Lib.hid (HC.out.bx hb (by omega) (by simp; omega))
          have HB := Lib.hid (HB.out.trans (hb.mono (by omega)))
          clear hd hb HRD k0 k1 k2
          have hba := (Below.refl w4.heap.size w4).alloc (Nat.le_refl _) (.cells #[] 5)
          have HD := Lib.hid (HD.out.below hba)
          have HC := Lib.hid (HC.out.below hba (by omega))
          have HB := Lib.hid (HB.out.trans (Bx.of_below (hba.mono (by omega))))
          have hz5 : w4.heap.size < (w4.alloc (.cells #[] 5)).heap.size := by simp
          clear hba
          go_upto_region 22 with (fail)
          generalize w4.alloc (.cells #[] 5) = w5 at *
          generalize w4.heap.size = b12 at *
          have k0 := HC.out 0 _ rfl
          have k1 := HC.out 1 _ rfl
          have k2 := HC.out 2 _ rfl
          have hcv1 := convert_byt (src := 22) (dst := 9) (e := 5) rfl rfl rfl ((.inl ⟨none, 0, rfl, rfl, fun _ => rfl⟩ : Byt w5 0 (.slice none 0 0) []))
          have hcv2 := convert_byt (src := 22) (dst := 9) (e := 5) rfl rfl rfl ((.inl ⟨some ⟨b12, 0, none⟩, 0, rfl, rfl, fun h => by cases h⟩ : Byt w5 0 (.slice (some ⟨b12, 0, none⟩) 0 0) []))
          go_wp2_with fail
          refine (at_any HD.out).mono ?_
          rintro e w' ⟨rfl, hw'⟩
          subst w'
          go_wp2_with fail
          refine (left_any HD.out).mono ?_
          rintro e w7 ⟨rfl, nn, rfl⟩
          have HD := Lib.hid (HD.out.drewN nn)
          have HB := Lib.hid (HB.out.trans (Bx.of_below (below_drewN (Below.refl _ _) nn)))
          have hcast := HCAST.out
          go_wp2
          go_roundw
          case rel => exact ⟨p, j + 1, by first | rfl | simp, by go_num, by omega, by omega, HD, HB⟩
          case measure => simp [intOf]; omega
        · obtain ⟨m, rfl⟩ : ∃ m : Nat, n = m := ⟨n.toNat, by omega⟩
          have HW : Hid (IntKind.i64.wrap ((p : Int) + (m : Int)) = (p : Int) + m) := Lib.hid (IntWalk.i64_in _ (by omega))
          have hsl := fun W => slice_lh (t := 22) (e := 5) (size := 1) rfl size_u8 ad l.length c (p : Int) ((p : Int) + (m : Int)) (by omega) (by omega) (by omega) W
          have hsb := sub_byt HIN.out p m (by omega)
          rw [show ((p : Int) + (m : Int)).toNat = p + m from by omega, Int.toNat_natCast, show p + m - p = m from by omega] at hsl
          generalize Value.slice (if c = p then ad else ad.map (·.add (p * 1))) m (c - p) = S at *
          have HSB := Lib.hid hsb
          have HSL := Lib.hid hsl
          clear hsb hsl
          have HCAST : Hid (((p + m : Nat) : Int) = (p : Int) + (m : Int)) := Lib.hid (by omega)
          have t2 : decide ((l.length : Int) - (p : Int) < (m : Int)) = false := by simp; omega
          go_upto_region 12 with (fail)
          have hba := (Below.refl wr.heap.size wr).alloc (Nat.le_refl _) (.cells #[.int .i64 0, .int .i64 (m : Nat), .int .u64 (v : Nat)] 45)
          have HC := Lib.hid (Cells.new_at wr [.int .i64 0, .int .i64 (m : Nat), .int .u64 (v : Nat)] 45 wr.heap.size rfl)
          have HD := Lib.hid (HD.out.below hba)
          have HB := Lib.hid (HB.out.trans (Bx.of_below (hba.mono hzr)))
          have hz3 : wr.heap.size < (wr.alloc (.cells #[.int .i64 0, .int .i64 (m : Nat), .int .u64 (v : Nat)] 45)).heap.size := by simp
          clear hba h0c h1c h2c
          generalize wr.alloc (.cells #[.int .i64 0, .int .i64 (m : Nat), .int .u64 (v : Nat)] 45) = w3 at *
          generalize wr.heap.size = b8 at *
          have k0 := HC.out 0 _ rfl
          have k1 := HC.out 1 _ rfl
          have k2 := HC.out 2 _ rfl
          have HRD := Lib.hid (read_c0 rb p l m v _ HD.out (by omega))
          go_wp2_with fail
          refine HRD.out.mono ?_
          rintro e w4 ⟨ga, gz, gc, rfl, hy, hd, hb⟩
          have hs4 := hb.size
          have HD := Lib.hid hd
          have HC := Lib.hid (HC.out.bx hb (by omega) (by simp; omega))
          have HB := Lib.hid (HB.out.trans (hb.mono (by omega)))
          have HY := Lib.hid hy
          clear hd hb HRD k0 k1 k2 hy
          have hba := (Below.refl w4.heap.size w4).alloc (Nat.le_refl _) (.cells #[] 5)
          have HD := Lib.hid (HD.out.below hba)
          have HC := Lib.hid (HC.out.below hba (by omega))
          have HB := Lib.hid (HB.out.trans (Bx.of_below (hba.mono (by omega))))
          have HY5 := Lib.hid ((HY.out.below hba).mono hba.size)
          clear HY
          have hz5 : w4.heap.size < (w4.alloc (.cells #[] 5)).heap.size := by simp
          clear hba
          go_upto_region 22 with (fail)
          generalize w4.alloc (.cells #[] 5) = w5 at *
          generalize w4.heap.size = b12 at *
          have k0 := HC.out 0 _ rfl
          have k1 := HC.out 1 _ rfl
          have k2 := HC.out 2 _ rfl
          have hsl := HSL.out
          have hw := HW.out
          have HS5 := Lib.hid (HSB.out.below (HB.out.below (C := w.heap.size) (by omega) (by simp; omega)))
          have hcv1 := convert_byt (src := 22) (dst := 9) (e := 5) rfl rfl rfl (HY5.out)
          have hcv2 := convert_byt (src := 22) (dst := 9) (e := 5) rfl rfl rfl (HS5.out)
          go_wp2_with fail
          refine (at_any HD.out).mono ?_
          rintro e w' ⟨rfl, hw'⟩
          subst w'
          go_wp2_with fail
          refine (left_any HD.out).mono ?_
          rintro e w7 ⟨rfl, nn, rfl⟩
          have HD := Lib.hid (HD.out.drewN nn)
          have HB := Lib.hid (HB.out.trans (Bx.of_below (below_drewN (Below.refl _ _) nn)))
          have hcast := HCAST.out
          go_wp2
          go_roundw
          case rel => exact ⟨p + m, j + 1, by first | rfl | simp, by go_num, by omega, by omega, HD, HB⟩
          case measure => simp [intOf]; omega
      have d0 : (k != 0) = true := by simpa using ck
      by_cases c2 : n < 1
      · have HCAST : Hid (True) := Lib.hid trivial
        have t3 : decide (n < 1) = true := by simpa using c2
        go_upto_region 12 with (fail)
        have hba := (Below.refl wr.heap.size wr).alloc (Nat.le_refl _) (.cells #[.int .i64 k, .int .i64 n, .int .u64 (v : Nat)] 45)
        have HC := Lib.hid (Cells.new_at wr [.int .i64 k, .int .i64 n, .int .u64 (v : Nat)] 45 wr.heap.size rfl)
        have HD := Lib.hid (HD.out.below hba)
        have HB := Lib.hid (HB.out.trans (Bx.of_below (hba.mono hzr)))
        have hz3 : wr.heap.size < (wr.alloc (.cells #[.int .i64 k, .int .i64 n, .int .u64 (v : Nat)] 45)).heap.size := by simp
        clear hba h0c h1c h2c
        generalize wr.alloc (.cells #[.int .i64 k, .int .i64 n, .int .u64 (v : Nat)] 45) = w3 at *
        generalize wr.heap.size = b8 at *
        have k0 := HC.out 0 _ rfl
        have k1 := HC.out 1 _ rfl
        have k2 := HC.out 2 _ rfl
        have HRD := Lib.hid (read_arg rb p l k n v _ HD.out (.inr ⟨ck, .inl c2⟩))
        go_wp2_with fail
        refine HRD.out.mono ?_
        rintro e w4 ⟨rfl, hd, hb⟩
        have hs4 := hb.size
        have HD := Lib.hid hd
        have HC := Lib.hid (HC.out.bx hb (by omega) (by simp; omega))
        have HB := Lib.hid (HB.out.trans (hb.mono (by omega)))
        clear hd hb HRD k0 k1 k2
        have hba := (Below.refl w4.heap.size w4).alloc (Nat.le_refl _) (.cells #[] 5)
        have HD := Lib.hid (HD.out.below hba)
        have HC := Lib.hid (HC.out.below hba (by omega))
        have HB := Lib.hid (HB.out.trans (Bx.of_below (hba.mono (by omega))))
        have hz5 : w4.heap.size < (w4.alloc (.cells #[] 5)).heap.size := by simp
        clear hba
        go_upto_region 22 with (fail)
        generalize w4.alloc (.cells #[] 5) = w5 at *
        generalize w4.heap.size = b12 at *
        have k0 := HC.out 0 _ rfl
        have k1 := HC.out 1 _ rfl
        have k2 := HC.out 2 _ rfl
        have hcv1 := convert_byt (src := 22) (dst := 9) (e := 5) rfl rfl rfl ((.inl ⟨none, 0, rfl, rfl, fun _ => rfl⟩ : Byt w5 0 (.slice none 0 0) []))
        have hcv2 := convert_byt (src := 22) (dst := 9) (e := 5) rfl rfl rfl ((.inl ⟨some ⟨b12, 0, none⟩, 0, rfl, rfl, fun h => by cases h⟩ : Byt w5 0 (.slice (some ⟨b12, 0, none⟩) 0 0) []))
        go_wp2_with fail
        refine (at_any HD.out).mono ?_
        rintro e w' ⟨rfl, hw'⟩
        subst w'
        go_wp2_with fail
        refine (left_any HD.out).mono ?_
        rintro e w7 ⟨rfl, nn, rfl⟩
        have HD := Lib.hid (HD.out.drewN nn)
        have HB := Lib.hid (HB.out.trans (Bx.of_below (below_drewN (Below.refl _ _) nn)))
        have hcast := HCAST.out
        go_wp2
        go_roundw
        case rel => exact ⟨p, j + 1, by first | rfl | simp, by go_num, by omega, by omega, HD, HB⟩
        case measure => simp [intOf]; omega
      have t3 : decide (n < 1) = false := by simpa using c2
      by_cases c3 : 8 < n
      · have HCAST : Hid (True) := Lib.hid trivial
        have t4 : decide (8 < n) = true := by simpa using c3
        go_upto_region 12 with (fail)
        have hba := (Below.refl wr.heap.size wr).alloc (Nat.le_refl _) (.cells #[.int .i64 k, .int .i64 n, .int .u64 (v : Nat)] 45)
        have HC := Lib.hid (Cells.new_at wr [.int .i64 k, .int .i64 n, .int .u64 (v : Nat)] 45 wr.heap.size rfl)
        have HD := Lib.hid (HD.out.below hba)
        have HB := Lib.hid (HB.out.trans (Bx.of_below (hba.mono hzr)))
        have hz3 : wr.heap.size < (wr.alloc (.cells #[.int .i64 k, .int .i64 n, .int .u64 (v : Nat)] 45)).heap.size := by simp
        clear hba h0c h1c h2c
        generalize wr.alloc (.cells #[.int .i64 k, .int .i64 n, .int .u64 (v : Nat)] 45) = w3 at *
        generalize wr.heap.size = b8 at *
        have k0 := HC.out 0 _ rfl
        have k1 := HC.out 1 _ rfl
        have k2 := HC.out 2 _ rfl
        have HRD := Lib.hid (read_arg rb p l k n v _ HD.out (.inr ⟨ck, .inr c3⟩))
        go_wp2_with fail
        refine HRD.out.mono ?_
        rintro e w4 ⟨rfl, hd, hb⟩
        have hs4 := hb.size
        have HD := Lib.hid hd
        have HC := Lib.hid (HC.out.bx hb (by omega) (by simp; omega))
        have HB := Lib.hid (HB.out.trans (hb.mono (by omega)))
        clear hd hb HRD k0 k1 k2
        have hba := (Below.refl w4.heap.size w4).alloc (Nat.le_refl _) (.cells #[] 5)
        have HD := Lib.hid (HD.out.below hba)
        have HC := Lib.hid (HC.out.below hba (by omega))
        have HB := Lib.hid (HB.out.trans (Bx.of_below (hba.mono (by omega))))
        have hz5 : w4.heap.size < (w4.alloc (.cells #[] 5)).heap.size := by simp
        clear hba
        go_upto_region 22 with (fail)
        generalize w4.alloc (.cells #[] 5) = w5 at *
        generalize w4.heap.size = b12 at *
        have k0 := HC.out 0 _ rfl
        have k1 := HC.out 1 _ rfl
        have k2 := HC.out 2 _ rfl
        have hcv1 := convert_byt (src := 22) (dst := 9) (e := 5) rfl rfl rfl ((.inl ⟨none, 0, rfl, rfl, fun _ => rfl⟩ : Byt w5 0 (.slice none 0 0) []))
        have hcv2 := convert_byt (src := 22) (dst := 9) (e := 5) rfl rfl rfl ((.inl ⟨some ⟨b12, 0, none⟩, 0, rfl, rfl, fun h => by cases h⟩ : Byt w5 0 (.slice (some ⟨b12, 0, none⟩) 0 0) []))
        go_wp2_with fail
        refine (at_any HD.out).mono ?_
        rintro e w' ⟨rfl, hw'⟩
        subst w'
        go_wp2_with fail
        refine (left_any HD.out).mono ?_
        rintro e w7 ⟨rfl, nn, rfl⟩
        have HD := Lib.hid (HD.out.drewN nn)
        have HB := Lib.hid (HB.out.trans (Bx.of_below (below_drewN (Below.refl _ _) nn)))
        have hcast := HCAST.out
        go_wp2
        go_roundw
        case rel => exact ⟨p, j + 1, by first | rfl | simp, by go_num, by omega, by omega, HD, HB⟩
        case measure => simp [intOf]; omega
      have t4 : decide (8 < n) = false := by simpa using c3
      by_cases cs1 : (l.length : Int) - (p : Int) < n
      · have HCAST : Hid (True) := Lib.hid trivial
        have t2 : decide ((l.length : Int) - (p : Int) < n) = true := by simpa using cs1
        go_upto_region 12 with (fail)
        have hba := (Below.refl wr.heap.size wr).alloc (Nat.le_refl _) (.cells #[.int .i64 k, .int .i64 n, .int .u64 (v : Nat)] 45)
        have HC := Lib.hid (Cells.new_at wr [.int .i64 k, .int .i64 n, .int .u64 (v : Nat)] 45 wr.heap.size rfl)
        have HD := Lib.hid (HD.out.below hba)
        have HB := Lib.hid (HB.out.trans (Bx.of_below (hba.mono hzr)))
        have hz3 : wr.heap.size < (wr.alloc (.cells #[.int .i64 k, .int .i64 n, .int .u64 (v : Nat)] 45)).heap.size := by simp
        clear hba h0c h1c h2c
        generalize wr.alloc (.cells #[.int .i64 k, .int .i64 n, .int .u64 (v : Nat)] 45) = w3 at *
        generalize wr.heap.size = b8 at *
        have k0 := HC.out 0 _ rfl
        have k1 := HC.out 1 _ rfl
        have k2 := HC.out 2 _ rfl
        have HRD := Lib.hid (read_short rb p l k n v _ HD.out (by omega) (.inr ⟨by omega, by omega⟩) cs1)
        go_wp2_with fail
        refine HRD.out.mono ?_
        rintro e w4 ⟨rfl, hd, hb⟩
        have hs4 := hb.size
        have HD := Lib.hid hd
        have HC := Lib.hid (HC.out.bx hb (by omega) (by simp; omega))
        have HB := Lib.hid (HB.out.trans (hb.mono (by omega)))
        clear hd hb HRD k0 k1 k2
        have hba := (Below.refl w4.heap.size w4).alloc (Nat.le_refl _) (.cells #[] 5)
        have HD := Lib.hid (HD.out.below hba)
        have HC := Lib.hid (HC.out.below hba (by omega))
        have HB := Lib.hid (HB.out.trans (Bx.of_below (hba.mono (by omega))))
        have hz5 : w4.heap.size < (w4.alloc (.cells #[] 5)).heap.size := by simp
        clear hba
        go_upto_region 22 with (fail)
        generalize w4.alloc (.cells #[] 5) = w5 at *
        generalize w4.heap.size = b12 at *
        have k0 := HC.out 0 _ rfl
        have k1 := HC.out 1 _ rfl
        have k2 := HC.out 2 _ rfl
        have hcv1 := convert_byt (src := 22) (dst := 9) (e := 5) rfl rfl rfl ((.inl ⟨none, 0, rfl, rfl, fun _ => rfl⟩ : Byt w5 0 (.slice none 0 0) []))
        have hcv2 := convert_byt (src := 22) (dst := 9) (e := 5) rfl rfl rfl ((.inl ⟨some ⟨b12, 0, none⟩, 0, rfl, rfl, fun h => by cases h⟩ : Byt w5 0 (.slice (some ⟨b12, 0, none⟩) 0 0) []))
        go_wp2_with fail
        refine (at_any HD.out).mono ?_
        rintro e w' ⟨rfl, hw'⟩
        subst w'
        go_wp2_with fail
        refine (left_any HD.out).mono ?_
        rintro e w7 ⟨rfl, nn, rfl⟩
        have HD := Lib.hid (HD.out.drewN nn)
        have HB := Lib.hid (HB.out.trans (Bx.of_below (below_drewN (Below.refl _ _) nn)))
        have hcast := HCAST.out
        go_wp2
        go_roundw
        case rel => exact ⟨p, j + 1, by first | rfl | simp, by go_num, by omega, by omega, HD, HB⟩
        case measure => simp [intOf]; omega
      obtain ⟨m, rfl⟩ : ∃ m : Nat, n = m := ⟨n.toNat, by omega⟩
      have HW : Hid (IntKind.i64.wrap ((p : Int) + (m : Int)) = (p : Int) + m) := Lib.hid (IntWalk.i64_in _ (by omega))
      have hsl := fun W => slice_lh (t := 22) (e := 5) (size := 1) rfl size_u8 ad l.length c (p : Int) ((p : Int) + (m : Int)) (by omega) (by omega) (by omega) W
      have hsb := sub_byt HIN.out p m (by omega)
      rw [show ((p : Int) + (m : Int)).toNat = p + m from by omega, Int.toNat_natCast, show p + m - p = m from by omega] at hsl
      generalize Value.slice (if c = p then ad else ad.map (·.add (p * 1))) m (c - p) = S at *
      have HSB := Lib.hid hsb
      have HSL := Lib.hid hsl
      clear hsb hsl
      have t2 : decide ((l.length : Int) - (p : Int) < (m : Int)) = false := by simp; omega
      by_cases ck1 : k = 1
      · subst ck1
        have hlt : rd l p m < 18446744073709551616 := Nat.lt_of_lt_of_le (rd_lt l p m) (Nat.le_trans (pow256_le (show m ≤ 8 by omega)) (by decide))
        have HRF := Lib.hid (fun W => refBytes_any (rd l p m) 8 W (by decide) hlt)
        clear hlt
        have HCAST : Hid (((p + m : Nat) : Int) = (p : Int) + (m : Int)) := Lib.hid (by omega)
        go_upto_region 12 with (fail)
        have hba := (Below.refl wr.heap.size wr).alloc (Nat.le_refl _) (.cells #[.int .i64 1, .int .i64 (m : Nat), .int .u64 (v : Nat)] 45)
        have HC := Lib.hid (Cells.new_at wr [.int .i64 1, .int .i64 (m : Nat), .int .u64 (v : Nat)] 45 wr.heap.size rfl)
        have HD := Lib.hid (HD.out.below hba)
        have HB := Lib.hid (HB.out.trans (Bx.of_below (hba.mono hzr)))
        have hz3 : wr.heap.size < (wr.alloc (.cells #[.int .i64 1, .int .i64 (m : Nat), .int .u64 (v : Nat)] 45)).heap.size := by simp
        clear hba h0c h1c h2c
        generalize wr.alloc (.cells #[.int .i64 1, .int .i64 (m : Nat), .int .u64 (v : Nat)] 45) = w3 at *
        generalize wr.heap.size = b8 at *
        have k0 := HC.out 0 _ rfl
        have k1 := HC.out 1 _ rfl
        have k2 := HC.out 2 _ rfl
        have HRD := Lib.hid (read_c1 rb p l m v _ HD.out (by omega) (by omega) (by omega))
        go_wp2_with fail
        refine HRD.out.mono ?_
        rintro e w4 ⟨ga, gz, gc, rfl, hy, hd, hb⟩
        have hs4 := hb.size
        have HD := Lib.hid hd
        have HC := Lib.hid (HC.out.bx hb (by omega) (by simp; omega))
        have HB := Lib.hid (HB.out.trans (hb.mono (by omega)))
        have HY := Lib.hid hy
        clear hd hb HRD k0 k1 k2 hy
        have hba := (Below.refl w4.heap.size w4).alloc (Nat.le_refl _) (.cells #[] 5)
        have HD := Lib.hid (HD.out.below hba)
        have HC := Lib.hid (HC.out.below hba (by omega))
        have HB := Lib.hid (HB.out.trans (Bx.of_below (hba.mono (by omega))))
        have HY5 := Lib.hid ((HY.out.below hba).mono hba.size)
        clear HY
        have hz5 : w4.heap.size < (w4.alloc (.cells #[] 5)).heap.size := by simp
        clear hba
        go_upto_region 22 with (fail)
        generalize w4.alloc (.cells #[] 5) = w5 at *
        generalize w4.heap.size = b12 at *
        have k0 := HC.out 0 _ rfl
        have k1 := HC.out 1 _ rfl
        have k2 := HC.out 2 _ rfl
        have hsl := HSL.out
        have hw := HW.out
        have HS5 := Lib.hid (HSB.out.below (HB.out.below (C := w.heap.size) (by omega) (by simp; omega)))
        go_wp2_with fail
        refine (refNumber_B HS5.out (by rw [List.length_take]; omega)).mono ?_
        rintro e w' ⟨rfl, hw'⟩
        subst w'
        go_wp2_with fail
        refine (HRF.out _).mono ?_
        rintro e w6 ⟨u, rfl, ho, hb⟩
        have HU : Hid (Byt w6 w6.heap.size u (byt 8 (rd l p m))) := Lib.hid (Byt.of_own (by rw [byt_length]; exact ho))
        have hs6 := hb.size
        have HD := Lib.hid (HD.out.below hb)
        have HB := Lib.hid (HB.out.trans (Bx.of_below (hb.mono (by omega))))
        have HY6 := Lib.hid ((HY5.out.below hb).mono hb.size)
        have HC := Lib.hid (HC.out.below hb (by omega))
        clear hb ho k0 k1 k2
        have k0 := HC.out 0 _ rfl
        obtain ⟨ua, uc, hu⟩ := HU.out.slice
        subst hu
        have hcv1 := convert_byt (src := 22) (dst := 9) (e := 5) rfl rfl rfl (HY6.out)
        have hcv2 := convert_byt (src := 22) (dst := 9) (e := 5) rfl rfl rfl (HU.out)
        go_wp2_with fail
        refine (at_any HD.out).mono ?_
        rintro e w' ⟨rfl, hw'⟩
        subst w'
        go_wp2_with fail
        refine (left_any HD.out).mono ?_
        rintro e w7 ⟨rfl, nn, rfl⟩
        have HD := Lib.hid (HD.out.drewN nn)
        have HB := Lib.hid (HB.out.trans (Bx.of_below (below_drewN (Below.refl _ _) nn)))
        have hcast := HCAST.out
        go_wp2
        go_roundw
        case rel => exact ⟨p + m, j + 1, by first | rfl | simp, by go_num, by omega, by omega, HD, HB⟩
        case measure => simp [intOf]; omega
      have d1 : (k == 1) = false := by simpa using ck1
      have d2 : (k != 1) = true := by simpa using ck1
      by_cases cv : rd l p m = v
      · have hv : (((num ((l.drop p).take m) : Nat) : Int) != (v : Int)) = false := by
          have e : num ((l.drop p).take m) = v := cv
          rw [e]; simp
        have HCAST : Hid (((p + m : Nat) : Int) = (p : Int) + (m : Int)) := Lib.hid (by omega)
        go_upto_region 12 with (fail)
        have hba := (Below.refl wr.heap.size wr).alloc (Nat.le_refl _) (.cells #[.int .i64 k, .int .i64 (m : Nat), .int .u64 (v : Nat)] 45)
        have HC := Lib.hid (Cells.new_at wr [.int .i64 k, .int .i64 (m : Nat), .int .u64 (v : Nat)] 45 wr.heap.size rfl)
        have HD := Lib.hid (HD.out.below hba)
        have HB := Lib.hid (HB.out.trans (Bx.of_below (hba.mono hzr)))
        have hz3 : wr.heap.size < (wr.alloc (.cells #[.int .i64 k, .int .i64 (m : Nat), .int .u64 (v : Nat)] 45)).heap.size := by simp
        clear hba h0c h1c h2c
        generalize wr.alloc (.cells #[.int .i64 k, .int .i64 (m : Nat), .int .u64 (v : Nat)] 45) = w3 at *
        generalize wr.heap.size = b8 at *
        have k0 := HC.out 0 _ rfl
        have k1 := HC.out 1 _ rfl
        have k2 := HC.out 2 _ rfl
        have HRD := Lib.hid (read_c2 rb p l k m v _ HD.out ck ck1 (by omega) (by omega) (by omega) cv)
        go_wp2_with fail
        refine HRD.out.mono ?_
        rintro e w4 ⟨ga, gz, gc, rfl, hy, hd, hb⟩
        have hs4 := hb.size
        have HD := Lib.hid hd
        have HC := Lib.hid (HC.out.bx hb (by omega) (by simp; omega))
        have HB := Lib.hid (HB.out.trans (hb.mono (by omega)))
        have HY := Lib.hid hy
        clear hd hb HRD k0 k1 k2 hy
        have hba := (Below.refl w4.heap.size w4).alloc (Nat.le_refl _) (.cells #[] 5)
        have HD := Lib.hid (HD.out.below hba)
        have HC := Lib.hid (HC.out.below hba (by omega))
        have HB := Lib.hid (HB.out.trans (Bx.of_below (hba.mono (by omega))))
        have HY5 := Lib.hid ((HY.out.below hba).mono hba.size)
        clear HY
        have hz5 : w4.heap.size < (w4.alloc (.cells #[] 5)).heap.size := by simp
        clear hba
        go_upto_region 22 with (fail)
        generalize w4.alloc (.cells #[] 5) = w5 at *
        generalize w4.heap.size = b12 at *
        have k0 := HC.out 0 _ rfl
        have k1 := HC.out 1 _ rfl
        have k2 := HC.out 2 _ rfl
        have hsl := HSL.out
        have hw := HW.out
        have HS5 := Lib.hid (HSB.out.below (HB.out.below (C := w.heap.size) (by omega) (by simp; omega)))
        go_wp2_with fail
        go_quiet ((go_at_call 13; exact Calls.quiet_of_same (refNumber_B HS5.out (by rw [List.length_take]; omega))))
        have HD := Lib.hid (HD.out.drewN nq)
        have HB := Lib.hid (HB.out.trans (Bx.of_below (below_drewN (Below.refl _ _) nq)))
        have hz6 : b12 < (w5.drewN nq).heap.size := hz5
        have HY6 : Hid (Byt (w5.drewN nq) (w5.drewN nq).heap.size (.slice ga gz gc) []) := Lib.hid (HY5.out.below (below_drewN (Below.refl _ _) nq))
        clear k0 k1 k2 hsl
        go_upto_region 26 with (fail)
        generalize w5.drewN nq = w6 at *
        have hcv1 := convert_byt (src := 22) (dst := 9) (e := 5) rfl rfl rfl (HY6.out)
        have hcv2 := convert_byt (src := 22) (dst := 9) (e := 5) rfl rfl rfl ((.inl ⟨none, 0, rfl, rfl, fun _ => rfl⟩ : Byt w6 0 (.slice none 0 0) []))
        go_wp2_with fail
        refine (at_any HD.out).mono ?_
        rintro e w' ⟨rfl, hw'⟩
        subst w'
        go_wp2_with fail
        refine (left_any HD.out).mono ?_
        rintro e w7 ⟨rfl, nn, rfl⟩
        have HD := Lib.hid (HD.out.drewN nn)
        have HB := Lib.hid (HB.out.trans (Bx.of_below (below_drewN (Below.refl _ _) nn)))
        have hcast := HCAST.out
        go_wp2
        go_roundw
        case rel => exact ⟨p + m, j + 1, by first | rfl | simp, by go_num, by omega, by omega, HD, HB⟩
        case measure => simp [intOf]; omega
      · have hv : (((num ((l.drop p).take m) : Nat) : Int) != (v : Int)) = true := by have : rd l p m ≠ v := cv; unfold rd at this; simp; omega
        have HCAST : Hid (((p + m : Nat) : Int) = (p : Int) + (m : Int)) := Lib.hid (by omega)
        go_upto_region 12 with (fail)
        have hba := (Below.refl wr.heap.size wr).alloc (Nat.le_refl _) (.cells #[.int .i64 k, .int .i64 (m : Nat), .int .u64 (v : Nat)] 45)
        have HC := Lib.hid (Cells.new_at wr [.int .i64 k, .int .i64 (m : Nat), .int .u64 (v : Nat)] 45 wr.heap.size rfl)
        have HD := Lib.hid (HD.out.below hba)
        have HB := Lib.hid (HB.out.trans (Bx.of_below (hba.mono hzr)))
        have hz3 : wr.heap.size < (wr.alloc (.cells #[.int .i64 k, .int .i64 (m : Nat), .int .u64 (v : Nat)] 45)).heap.size := by simp
        clear hba h0c h1c h2c
        generalize wr.alloc (.cells #[.int .i64 k, .int .i64 (m : Nat), .int .u64 (v : Nat)] 45) = w3 at *
        generalize wr.heap.size = b8 at *
        have k0 := HC.out 0 _ rfl
        have k1 := HC.out 1 _ rfl
        have k2 := HC.out 2 _ rfl
        have HRD := Lib.hid (read_c3 rb p l k m v _ HD.out ck ck1 (by omega) (by omega) (by omega) cv)
        go_wp2_with fail
        refine HRD.out.mono ?_
        rintro e w4 ⟨rfl, hd, hb⟩
        have hs4 := hb.size
        have HD := Lib.hid hd
        have HC := Lib.hid (HC.out.bx hb (by omega) (by simp; omega))
        have HB := Lib.hid (HB.out.trans (hb.mono (by omega)))
        clear hd hb HRD k0 k1 k2
        have hba := (Below.refl w4.heap.size w4).alloc (Nat.le_refl _) (.cells #[] 5)
        have HD := Lib.hid (HD.out.below hba)
        have HC := Lib.hid (HC.out.below hba (by omega))
        have HB := Lib.hid (HB.out.trans (Bx.of_below (hba.mono (by omega))))
        have hz5 : w4.heap.size < (w4.alloc (.cells #[] 5)).heap.size := by simp
        clear hba
        go_upto_region 22 with (fail)
        generalize w4.alloc (.cells #[] 5) = w5 at *
        generalize w4.heap.size = b12 at *
        have k0 := HC.out 0 _ rfl
        have k1 := HC.out 1 _ rfl
        have k2 := HC.out 2 _ rfl
        have hsl := HSL.out
        have hw := HW.out
        have HS5 := Lib.hid (HSB.out.below (HB.out.below (C := w.heap.size) (by omega) (by simp; omega)))
        go_wp2_with fail
        go_quiet ((go_at_call 13; exact Calls.quiet_of_same (refNumber_B HS5.out (by rw [List.length_take]; omega))))
        have HD := Lib.hid (HD.out.drewN nq)
        have HB := Lib.hid (HB.out.trans (Bx.of_below (below_drewN (Below.refl _ _) nq)))
        have hz6 : b12 < (w5.drewN nq).heap.size := hz5
        clear k0 k1 k2 hsl
        go_upto_region 26 with (fail)
        generalize w5.drewN nq = w6 at *
        have hcv1 := convert_byt (src := 22) (dst := 9) (e := 5) rfl rfl rfl ((.inl ⟨none, 0, rfl, rfl, fun _ => rfl⟩ : Byt w6 0 (.slice none 0 0) []))
        have hcv2 := convert_byt (src := 22) (dst := 9) (e := 5) rfl rfl rfl ((.inl ⟨none, 0, rfl, rfl, fun _ => rfl⟩ : Byt w6 0 (.slice none 0 0) []))
        go_wp2_with fail
        refine (at_any HD.out).mono ?_
        rintro e w' ⟨rfl, hw'⟩
        subst w'
        go_wp2_with fail
        refine (left_any HD.out).mono ?_
        rintro e w7 ⟨rfl, nn, rfl⟩
        have HD := Lib.hid (HD.out.drewN nn)
        have HB := Lib.hid (HB.out.trans (Bx.of_below (below_drewN (Below.refl _ _) nn)))
        have hcast := HCAST.out
        go_wp2
        go_roundw
        case rel => exact ⟨p + m, j + 1, by first | rfl | simp, by go_num, by omega, by omega, HD, HB⟩
        case measure => simp [intOf]; omega
    · obtain rfl : j = cs.length := by omega
      have HZ := Lib.hid (HZ.out.trans (HB.out.below (C := w.heap.size) (by omega) (by simp; omega)))
      go_wp2
      go_ret
      exact ⟨rfl, HZ.out⟩
end Go.Proofs.Ytephiopgpfdchaa
