/- Contract of finish's Parse. -/
import Derived.Test.YtfdbgbdiacpmhaaFinC
namespace Go.Proofs.Ytfdbgbdiacpmhaa
open Go.RowKit
/-- The number in some bytes. -/
def rd (l : List UInt8) (p n : Nat) : Nat := num ((l.drop p).take n)
theorem rd_lt (l : List UInt8) (p n : Nat) : rd l p n < 256 ^ n :=
  Nat.lt_of_lt_of_le (num_lt _) (pow256_le (by rw [List.length_take]; omega))
theorem get_at (ad : Option Addr) (c B : Nat) (l : List UInt8) (p : Int) (n q : Nat) (W : World) (h : Byt W B (.slice ad l.length c) l) (hl : l.length ≤ 100000) (hc : l.length ≤ c) (hq : p = q) (h1 : 1 ≤ n) (h8 : n ≤ 8) (hn : q + n ≤ l.length) :
    Calls Try.prog 17 #[.slice ad l.length c, .int .i64 p, .int .i64 (n : Nat)] W fun e w' => e = .returned (.tuple #[.int .u64 (rd l q n : Nat), .bool true]) ∧ w' = W := by
  subst hq
  exact get_yes ad c B l q n W h (by omega) hc (by simp [existsB, rightW]; omega)
theorem equal_any {w : World} {B B' : Nat} {u v : Value} {l m : List UInt8} (h1 : Byt w B u l) (h2 : Byt w B' v m) : Calls Try.prog 18 #[u, v] w fun e w' => e = .returned (.bool (decide (l = m))) ∧ w' = w := by
  have c1 := convert_byt (src := 25) (dst := 9) (e := 5) rfl rfl rfl h1
  have c2 := convert_byt (src := 25) (dst := 9) (e := 5) rfl rfl rfl h2
  have HE : Hid (((str l).toList == (str m).toList) = decide (l = m)) := Lib.hid (by
    rw [ByteArray.toList_eq, ByteArray.toList_eq, Bool.eq_iff_iff]; simp [str])
  clear h1 h2
  go_enter Try.func18, Try.ntmps18
  go_wp2
  go_ret
  exact ⟨by rw [← HE.out]; simp, rfl⟩
set_option maxHeartbeats 4000000 in
set_option maxRecDepth 100000 in
theorem parse_short (ad : Option Addr) (c : Nat) (l : List UInt8) (w : World) (h : Byt w w.heap.size (.slice ad l.length c) l) (hl : l.length ≤ 100000) (hc : l.length ≤ c) (hs : l.length < 22) : Calls Try.prog 12 #[.slice ad l.length c] w fun e w' => e = .returned (.tuple #[.agg #[.int .i64 0, .int .i64 0, .int .i64 0, .bool false], .int .i64 0, .int .i64 4]) ∧ Below w.heap.size w w' := by
  have t0 : decide ((l.length : Int) - 22 < 0) = true := by simp; omega
  have t0' : decide ((l.length : Int) < 22) = true := by simp; omega
  have HH := Lib.hid h
  clear h
  have HP := Lib.hid (Own.new_at w [.int .i64 0, .int .i64 0, .int .i64 0, .bool false] 23 w.heap.size rfl)
  have HB := Lib.hid ((Below.refl w.heap.size w).alloc (Nat.le_refl _) (.cells #[.int .i64 0, .int .i64 0, .int .i64 0, .bool false] 23))
  have HY := Lib.hid (HH.out.below HB.out)
  go_enter Try.func12, Try.ntmps12
  go_wp2
  exact bodyPost_ret (v := .tuple #[.agg #[.int .i64 0, .int .i64 0, .int .i64 0, .bool false], .int .i64 0, .int .i64 4]) (by simp [results, Try.results12, go_sem]) rfl ⟨rfl, HB.out⟩
set_option maxHeartbeats 4000000 in
set_option maxRecDepth 100000 in
theorem parse_magic (ad : Option Addr) (c : Nat) (l : List UInt8) (w : World) (h : Byt w w.heap.size (.slice ad l.length c) l) (hl : l.length ≤ 100000) (hc : l.length ≤ c) (hs : 22 ≤ l.length) (hm : rd l (l.length - 22) 4 ≠ 101010256) : Calls Try.prog 12 #[.slice ad l.length c] w fun e w' => e = .returned (.tuple #[.agg #[.int .i64 0, .int .i64 0, .int .i64 0, .bool false], .int .i64 0, .int .i64 30]) ∧ Below w.heap.size w w' := by
  have G0 := Lib.hid (fun (W : World) (hw : Byt W w.heap.size (.slice ad l.length c) l) => get_at ad c w.heap.size l ((l.length : Int) - 22) 4 (l.length - 22) W hw (by omega) hc (by omega) (by omega) (by omega) (by omega))
  have t0 : decide ((l.length : Int) - 22 < 0) = false := by simp; omega
  have t0' : decide ((l.length : Int) < 22) = false := by simp; omega
  have b_m0 := rd_lt l (l.length - 22) 4
  have B_m0 : (rd l (l.length - 22) 4) < 256 ^ 4 := b_m0
  clear b_m0
  generalize rd l (l.length - 22) 4 = m0 at *
  have t1 : ((m0 : Int) != 101010256) = true := by simp; omega
  clear hm
  have HH := Lib.hid h
  clear h
  have HP := Lib.hid (Own.new_at w [.int .i64 0, .int .i64 0, .int .i64 0, .bool false] 23 w.heap.size rfl)
  have HB := Lib.hid ((Below.refl w.heap.size w).alloc (Nat.le_refl _) (.cells #[.int .i64 0, .int .i64 0, .int .i64 0, .bool false] 23))
  have HY := Lib.hid (HH.out.below HB.out)
  go_enter Try.func12, Try.ntmps12
  go_wp2_with fail
  refine (G0.out _ HY.out).mono ?_
  rintro e w' ⟨rfl, rfl⟩
  go_wp2
  exact bodyPost_ret (v := .tuple #[.agg #[.int .i64 0, .int .i64 0, .int .i64 0, .bool false], .int .i64 0, .int .i64 30]) (by simp [results, Try.results12, go_sem]) rfl ⟨rfl, HB.out⟩
set_option maxHeartbeats 4000000 in
set_option maxRecDepth 100000 in
theorem parse_narrow_no (ad : Option Addr) (c : Nat) (l : List UInt8) (w : World) (h : Byt w w.heap.size (.slice ad l.length c) l) (hl : l.length ≤ 100000) (hc : l.length ≤ c) (hs : 22 ≤ l.length) (hm : rd l (l.length - 22) 4 = 101010256) (hn : rd l (l.length - 22 + 8) 2 ≠ 65535) (ht : tailB (rd l (l.length - 22 + 8) 2 : Nat) (rd l (l.length - 22 + 12) 4 : Nat) (rd l (l.length - 22 + 16) 4 : Nat) = false) : Calls Try.prog 12 #[.slice ad l.length c] w fun e w' => e = .returned (.tuple #[.agg #[.int .i64 0, .int .i64 0, .int .i64 0, .bool false], .int .i64 0, .int .i64 13]) ∧ Below w.heap.size w w' := by
  have G0 := Lib.hid (fun (W : World) (hw : Byt W w.heap.size (.slice ad l.length c) l) => get_at ad c w.heap.size l ((l.length : Int) - 22) 4 (l.length - 22) W hw (by omega) hc (by omega) (by omega) (by omega) (by omega))
  have G1 := Lib.hid (fun (W : World) (hw : Byt W w.heap.size (.slice ad l.length c) l) => get_at ad c w.heap.size l ((l.length : Int) - 22 + 8) 2 (l.length - 22 + 8) W hw (by omega) hc (by omega) (by omega) (by omega) (by omega))
  have G2 := Lib.hid (fun (W : World) (hw : Byt W w.heap.size (.slice ad l.length c) l) => get_at ad c w.heap.size l ((l.length : Int) - 22 + 12) 4 (l.length - 22 + 12) W hw (by omega) hc (by omega) (by omega) (by omega) (by omega))
  have G3 := Lib.hid (fun (W : World) (hw : Byt W w.heap.size (.slice ad l.length c) l) => get_at ad c w.heap.size l ((l.length : Int) - 22 + 16) 4 (l.length - 22 + 16) W hw (by omega) hc (by omega) (by omega) (by omega) (by omega))
  have t0 : decide ((l.length : Int) - 22 < 0) = false := by simp; omega
  have t0' : decide ((l.length : Int) < 22) = false := by simp; omega
  have HM := Lib.hid hm
  rw [HM.out] at G0
  clear hm
  have b_n := rd_lt l (l.length - 22 + 8) 2
  have B_n : (rd l (l.length - 22 + 8) 2) < 65536 := b_n
  clear b_n
  generalize rd l (l.length - 22 + 8) 2 = n at *
  have b_s := rd_lt l (l.length - 22 + 12) 4
  have B_s : (rd l (l.length - 22 + 12) 4) < 4294967296 := b_s
  clear b_s
  generalize rd l (l.length - 22 + 12) 4 = s at *
  have b_k := rd_lt l (l.length - 22 + 16) 4
  have B_k : (rd l (l.length - 22 + 16) 4) < 4294967296 := b_k
  clear b_k
  generalize rd l (l.length - 22 + 16) 4 = k at *
  have t2 : ((n : Int) == 65535) = false := by simp; omega
  clear hn
  have q_n : IntKind.i64.wrap (n : Int) = n := IntWalk.i64_in _ (by omega)
  have q_s : IntKind.i64.wrap (s : Int) = s := IntWalk.i64_in _ (by omega)
  have q_k : IntKind.i64.wrap (k : Int) = k := IntWalk.i64_in _ (by omega)
  have HE := Lib.hid (fun W => enc_no n s k false W ht)
  clear ht
  have HH := Lib.hid h
  clear h
  have HP := Lib.hid (Own.new_at w [.int .i64 0, .int .i64 0, .int .i64 0, .bool false] 23 w.heap.size rfl)
  have HB := Lib.hid ((Below.refl w.heap.size w).alloc (Nat.le_refl _) (.cells #[.int .i64 0, .int .i64 0, .int .i64 0, .bool false] 23))
  have HY := Lib.hid (HH.out.below HB.out)
  go_enter Try.func12, Try.ntmps12
  go_wp2_with fail
  refine (G0.out _ HY.out).mono ?_
  rintro e w' ⟨rfl, rfl⟩
  go_wp2_with fail
  refine (G1.out _ HY.out).mono ?_
  rintro e w' ⟨rfl, rfl⟩
  go_wp2_with fail
  refine (G2.out _ HY.out).mono ?_
  rintro e w' ⟨rfl, rfl⟩
  go_wp2_with fail
  refine (G3.out _ HY.out).mono ?_
  rintro e w' ⟨rfl, rfl⟩
  have HB2 := Lib.hid (HB.out.alloc (by simp) (.cells #[.int .i64 (n : Nat), .int .i64 (s : Nat), .int .i64 (k : Nat), .bool false] 23))
  have HP2 := Lib.hid (HP.out.below ((Below.refl _ _).alloc (Nat.le_refl _) (.cells #[.int .i64 (n : Nat), .int .i64 (s : Nat), .int .i64 (k : Nat), .bool false] 23)) (by simp))
  have HT2 := Lib.hid (Cells.new_at (w.alloc (.cells #[.int .i64 0, .int .i64 0, .int .i64 0, .bool false] 23)) [.int .i64 (n : Nat), .int .i64 (s : Nat), .int .i64 (k : Nat), .bool false] 23 (w.heap.size + 1) (by simp))
  have HY3 := Lib.hid (HH.out.below HB2.out)
  go_wp2_with fail
  refine (HE.out _).mono ?_
  rintro e w1 ⟨rfl, hb⟩
  have hs1 := hb.size
  simp only [World.size_alloc] at hs1
  have HP := Lib.hid (HP2.out.below hb (by simp; omega))
  have HB := Lib.hid (HB2.out.trans (hb.mono (by simp; omega)))
  have HT := Lib.hid (HT2.out.below hb (by simp))
  have HY := Lib.hid (HY3.out.below (hb.mono (by simp; omega)))
  have hlt : w.heap.size + 1 < w1.heap.size := by omega
  clear hb hs1
  have z0 := HP.out.1 0 _ rfl
  have z1 := HP.out.1 1 _ rfl
  have z2 := HP.out.1 2 _ rfl
  have z3 := HP.out.1 3 _ rfl
  have hg := HP.out.2
  go_wp2
  refine bodyPost_ret (v := .tuple #[.agg #[.int .i64 0, .int .i64 0, .int .i64 0, .bool false], .int .i64 0, .int .i64 13]) (by simp [results, Try.results12, go_sem, z0, z1, z2, z3]) rfl ⟨rfl, ?_⟩
  exact ((((HB.out).setCell (by simp) _).setCell (by simp) _).setCell (by simp) _).setCell (by simp) _
set_option maxHeartbeats 4000000 in
set_option maxRecDepth 100000 in
theorem parse_narrow_neq (ad : Option Addr) (c : Nat) (l : List UInt8) (w : World) (h : Byt w w.heap.size (.slice ad l.length c) l) (hl : l.length ≤ 100000) (hc : l.length ≤ c) (hs : 22 ≤ l.length) (hm : rd l (l.length - 22) 4 = 101010256) (hn : rd l (l.length - 22 + 8) 2 ≠ 65535) (ht : tailB (rd l (l.length - 22 + 8) 2 : Nat) (rd l (l.length - 22 + 12) 4 : Nat) (rd l (l.length - 22 + 16) 4 : Nat) = true) (hd : decide (tailBytes (rd l (l.length - 22 + 8) 2 : Nat) (rd l (l.length - 22 + 12) 4 : Nat) (rd l (l.length - 22 + 16) 4 : Nat) false = l.drop (l.length - 22)) = false) : Calls Try.prog 12 #[.slice ad l.length c] w fun e w' => e = .returned (.tuple #[.agg #[.int .i64 0, .int .i64 0, .int .i64 0, .bool false], .int .i64 0, .int .i64 39]) ∧ Below w.heap.size w w' := by
  have G0 := Lib.hid (fun (W : World) (hw : Byt W w.heap.size (.slice ad l.length c) l) => get_at ad c w.heap.size l ((l.length : Int) - 22) 4 (l.length - 22) W hw (by omega) hc (by omega) (by omega) (by omega) (by omega))
  have G1 := Lib.hid (fun (W : World) (hw : Byt W w.heap.size (.slice ad l.length c) l) => get_at ad c w.heap.size l ((l.length : Int) - 22 + 8) 2 (l.length - 22 + 8) W hw (by omega) hc (by omega) (by omega) (by omega) (by omega))
  have G2 := Lib.hid (fun (W : World) (hw : Byt W w.heap.size (.slice ad l.length c) l) => get_at ad c w.heap.size l ((l.length : Int) - 22 + 12) 4 (l.length - 22 + 12) W hw (by omega) hc (by omega) (by omega) (by omega) (by omega))
  have G3 := Lib.hid (fun (W : World) (hw : Byt W w.heap.size (.slice ad l.length c) l) => get_at ad c w.heap.size l ((l.length : Int) - 22 + 16) 4 (l.length - 22 + 16) W hw (by omega) hc (by omega) (by omega) (by omega) (by omega))
  have HD := Lib.hid hd
  clear hd
  have hsl := fun W => slice_l (t := 25) (e := 5) (size := 1) rfl size_u8 ad l.length c ((l.length : Int) - 22) (by omega) (by omega) W
  have hsb := sub_byt h (l.length - 22) (l.length - (l.length - 22)) (by omega)
  rw [show ((l.length : Int) - 22).toNat = l.length - 22 from by omega] at hsl
  rw [List.take_of_length_le (by rw [List.length_drop]; omega)] at hsb
  generalize Value.slice (if c = l.length - 22 then ad else ad.map (·.add ((l.length - 22) * 1))) (l.length - (l.length - 22)) (c - (l.length - 22)) = S at *
  have HSB := Lib.hid hsb
  clear hsb
  have t0 : decide ((l.length : Int) - 22 < 0) = false := by simp; omega
  have t0' : decide ((l.length : Int) < 22) = false := by simp; omega
  have HM := Lib.hid hm
  rw [HM.out] at G0
  clear hm
  have b_n := rd_lt l (l.length - 22 + 8) 2
  have B_n : (rd l (l.length - 22 + 8) 2) < 65536 := b_n
  clear b_n
  generalize rd l (l.length - 22 + 8) 2 = n at *
  have b_s := rd_lt l (l.length - 22 + 12) 4
  have B_s : (rd l (l.length - 22 + 12) 4) < 4294967296 := b_s
  clear b_s
  generalize rd l (l.length - 22 + 12) 4 = s at *
  have b_k := rd_lt l (l.length - 22 + 16) 4
  have B_k : (rd l (l.length - 22 + 16) 4) < 4294967296 := b_k
  clear b_k
  generalize rd l (l.length - 22 + 16) 4 = k at *
  have t2 : ((n : Int) == 65535) = false := by simp; omega
  clear hn
  have q_n : IntKind.i64.wrap (n : Int) = n := IntWalk.i64_in _ (by omega)
  have q_s : IntKind.i64.wrap (s : Int) = s := IntWalk.i64_in _ (by omega)
  have q_k : IntKind.i64.wrap (k : Int) = k := IntWalk.i64_in _ (by omega)
  have HE := Lib.hid (fun W => enc_yes n s k false W ht)
  clear ht
  have HH := Lib.hid h
  clear h
  have HP := Lib.hid (Own.new_at w [.int .i64 0, .int .i64 0, .int .i64 0, .bool false] 23 w.heap.size rfl)
  have HB := Lib.hid ((Below.refl w.heap.size w).alloc (Nat.le_refl _) (.cells #[.int .i64 0, .int .i64 0, .int .i64 0, .bool false] 23))
  have HY := Lib.hid (HH.out.below HB.out)
  go_enter Try.func12, Try.ntmps12
  go_wp2_with fail
  refine (G0.out _ HY.out).mono ?_
  rintro e w' ⟨rfl, rfl⟩
  go_wp2_with fail
  refine (G1.out _ HY.out).mono ?_
  rintro e w' ⟨rfl, rfl⟩
  go_wp2_with fail
  refine (G2.out _ HY.out).mono ?_
  rintro e w' ⟨rfl, rfl⟩
  go_wp2_with fail
  refine (G3.out _ HY.out).mono ?_
  rintro e w' ⟨rfl, rfl⟩
  have HB2 := Lib.hid (HB.out.alloc (by simp) (.cells #[.int .i64 (n : Nat), .int .i64 (s : Nat), .int .i64 (k : Nat), .bool false] 23))
  have HP2 := Lib.hid (HP.out.below ((Below.refl _ _).alloc (Nat.le_refl _) (.cells #[.int .i64 (n : Nat), .int .i64 (s : Nat), .int .i64 (k : Nat), .bool false] 23)) (by simp))
  have HT2 := Lib.hid (Cells.new_at (w.alloc (.cells #[.int .i64 0, .int .i64 0, .int .i64 0, .bool false] 23)) [.int .i64 (n : Nat), .int .i64 (s : Nat), .int .i64 (k : Nat), .bool false] 23 (w.heap.size + 1) (by simp))
  have HY3 := Lib.hid (HH.out.below HB2.out)
  go_wp2_with fail
  refine (HE.out _).mono ?_
  rintro e w1 ⟨v, rfl, hv, hb⟩
  have hs1 := hb.size
  simp only [World.size_alloc] at hs1
  have HP := Lib.hid (HP2.out.below hb (by simp; omega))
  have HB := Lib.hid (HB2.out.trans (hb.mono (by simp; omega)))
  have HT := Lib.hid (HT2.out.below hb (by simp))
  have HY := Lib.hid (HY3.out.below (hb.mono (by simp; omega)))
  have hlt : w.heap.size + 1 < w1.heap.size := by omega
  have HV := Lib.hid hv
  clear hv hb hs1
  have HBB := Lib.hid HB.out
  have HEQ := Lib.hid (equal_any HV.out (HSB.out.below HBB.out))
  rw [HD.out] at HEQ
  go_wp2_with fail
  refine HEQ.out.mono ?_
  rintro e w' ⟨rfl, rfl⟩
  have z0 := HP.out.1 0 _ rfl
  have z1 := HP.out.1 1 _ rfl
  have z2 := HP.out.1 2 _ rfl
  have z3 := HP.out.1 3 _ rfl
  have hg := HP.out.2
  go_wp2
  refine bodyPost_ret (v := .tuple #[.agg #[.int .i64 0, .int .i64 0, .int .i64 0, .bool false], .int .i64 0, .int .i64 39]) (by simp [results, Try.results12, go_sem, z0, z1, z2, z3]) rfl ⟨rfl, ?_⟩
  exact ((((HB.out).setCell (by simp) _).setCell (by simp) _).setCell (by simp) _).setCell (by simp) _
set_option maxHeartbeats 4000000 in
set_option maxRecDepth 100000 in
theorem parse_narrow_yes (ad : Option Addr) (c : Nat) (l : List UInt8) (w : World) (h : Byt w w.heap.size (.slice ad l.length c) l) (hl : l.length ≤ 100000) (hc : l.length ≤ c) (hs : 22 ≤ l.length) (hm : rd l (l.length - 22) 4 = 101010256) (hn : rd l (l.length - 22 + 8) 2 ≠ 65535) (ht : tailB (rd l (l.length - 22 + 8) 2 : Nat) (rd l (l.length - 22 + 12) 4 : Nat) (rd l (l.length - 22 + 16) 4 : Nat) = true) (hd : decide (tailBytes (rd l (l.length - 22 + 8) 2 : Nat) (rd l (l.length - 22 + 12) 4 : Nat) (rd l (l.length - 22 + 16) 4 : Nat) false = l.drop (l.length - 22)) = true) : Calls Try.prog 12 #[.slice ad l.length c] w fun e w' => e = .returned (.tuple #[.agg #[.int .i64 (rd l (l.length - 22 + 8) 2 : Nat), .int .i64 (rd l (l.length - 22 + 12) 4 : Nat), .int .i64 (rd l (l.length - 22 + 16) 4 : Nat), .bool false], .int .i64 ((l.length : Int) - 22), .int .i64 0]) ∧ Below w.heap.size w w' := by
  have G0 := Lib.hid (fun (W : World) (hw : Byt W w.heap.size (.slice ad l.length c) l) => get_at ad c w.heap.size l ((l.length : Int) - 22) 4 (l.length - 22) W hw (by omega) hc (by omega) (by omega) (by omega) (by omega))
  have G1 := Lib.hid (fun (W : World) (hw : Byt W w.heap.size (.slice ad l.length c) l) => get_at ad c w.heap.size l ((l.length : Int) - 22 + 8) 2 (l.length - 22 + 8) W hw (by omega) hc (by omega) (by omega) (by omega) (by omega))
  have G2 := Lib.hid (fun (W : World) (hw : Byt W w.heap.size (.slice ad l.length c) l) => get_at ad c w.heap.size l ((l.length : Int) - 22 + 12) 4 (l.length - 22 + 12) W hw (by omega) hc (by omega) (by omega) (by omega) (by omega))
  have G3 := Lib.hid (fun (W : World) (hw : Byt W w.heap.size (.slice ad l.length c) l) => get_at ad c w.heap.size l ((l.length : Int) - 22 + 16) 4 (l.length - 22 + 16) W hw (by omega) hc (by omega) (by omega) (by omega) (by omega))
  have HD := Lib.hid hd
  clear hd
  have hsl := fun W => slice_l (t := 25) (e := 5) (size := 1) rfl size_u8 ad l.length c ((l.length : Int) - 22) (by omega) (by omega) W
  have hsb := sub_byt h (l.length - 22) (l.length - (l.length - 22)) (by omega)
  rw [show ((l.length : Int) - 22).toNat = l.length - 22 from by omega] at hsl
  rw [List.take_of_length_le (by rw [List.length_drop]; omega)] at hsb
  generalize Value.slice (if c = l.length - 22 then ad else ad.map (·.add ((l.length - 22) * 1))) (l.length - (l.length - 22)) (c - (l.length - 22)) = S at *
  have HSB := Lib.hid hsb
  clear hsb
  have t0 : decide ((l.length : Int) - 22 < 0) = false := by simp; omega
  have t0' : decide ((l.length : Int) < 22) = false := by simp; omega
  have HM := Lib.hid hm
  rw [HM.out] at G0
  clear hm
  have b_n := rd_lt l (l.length - 22 + 8) 2
  have B_n : (rd l (l.length - 22 + 8) 2) < 65536 := b_n
  clear b_n
  generalize rd l (l.length - 22 + 8) 2 = n at *
  have b_s := rd_lt l (l.length - 22 + 12) 4
  have B_s : (rd l (l.length - 22 + 12) 4) < 4294967296 := b_s
  clear b_s
  generalize rd l (l.length - 22 + 12) 4 = s at *
  have b_k := rd_lt l (l.length - 22 + 16) 4
  have B_k : (rd l (l.length - 22 + 16) 4) < 4294967296 := b_k
  clear b_k
  generalize rd l (l.length - 22 + 16) 4 = k at *
  have t2 : ((n : Int) == 65535) = false := by simp; omega
  clear hn
  have q_n : IntKind.i64.wrap (n : Int) = n := IntWalk.i64_in _ (by omega)
  have q_s : IntKind.i64.wrap (s : Int) = s := IntWalk.i64_in _ (by omega)
  have q_k : IntKind.i64.wrap (k : Int) = k := IntWalk.i64_in _ (by omega)
  have HE := Lib.hid (fun W => enc_yes n s k false W ht)
  clear ht
  have HH := Lib.hid h
  clear h
  have HP := Lib.hid (Own.new_at w [.int .i64 0, .int .i64 0, .int .i64 0, .bool false] 23 w.heap.size rfl)
  have HB := Lib.hid ((Below.refl w.heap.size w).alloc (Nat.le_refl _) (.cells #[.int .i64 0, .int .i64 0, .int .i64 0, .bool false] 23))
  have HY := Lib.hid (HH.out.below HB.out)
  go_enter Try.func12, Try.ntmps12
  go_wp2_with fail
  refine (G0.out _ HY.out).mono ?_
  rintro e w' ⟨rfl, rfl⟩
  go_wp2_with fail
  refine (G1.out _ HY.out).mono ?_
  rintro e w' ⟨rfl, rfl⟩
  go_wp2_with fail
  refine (G2.out _ HY.out).mono ?_
  rintro e w' ⟨rfl, rfl⟩
  go_wp2_with fail
  refine (G3.out _ HY.out).mono ?_
  rintro e w' ⟨rfl, rfl⟩
  have HB2 := Lib.hid (HB.out.alloc (by simp) (.cells #[.int .i64 (n : Nat), .int .i64 (s : Nat), .int .i64 (k : Nat), .bool false] 23))
  have HP2 := Lib.hid (HP.out.below ((Below.refl _ _).alloc (Nat.le_refl _) (.cells #[.int .i64 (n : Nat), .int .i64 (s : Nat), .int .i64 (k : Nat), .bool false] 23)) (by simp))
  have HT2 := Lib.hid (Cells.new_at (w.alloc (.cells #[.int .i64 0, .int .i64 0, .int .i64 0, .bool false] 23)) [.int .i64 (n : Nat), .int .i64 (s : Nat), .int .i64 (k : Nat), .bool false] 23 (w.heap.size + 1) (by simp))
  have HY3 := Lib.hid (HH.out.below HB2.out)
  go_wp2_with fail
  refine (HE.out _).mono ?_
  rintro e w1 ⟨v, rfl, hv, hb⟩
  have hs1 := hb.size
  simp only [World.size_alloc] at hs1
  have HP := Lib.hid (HP2.out.below hb (by simp; omega))
  have HB := Lib.hid (HB2.out.trans (hb.mono (by simp; omega)))
  have HT := Lib.hid (HT2.out.below hb (by simp))
  have HY := Lib.hid (HY3.out.below (hb.mono (by simp; omega)))
  have hlt : w.heap.size + 1 < w1.heap.size := by omega
  have HV := Lib.hid hv
  clear hv hb hs1
  have HBB := Lib.hid HB.out
  have HEQ := Lib.hid (equal_any HV.out (HSB.out.below HBB.out))
  rw [HD.out] at HEQ
  go_wp2_with fail
  refine HEQ.out.mono ?_
  rintro e w' ⟨rfl, rfl⟩
  have y0 := HT.out 0 _ rfl
  have y1 := HT.out 1 _ rfl
  have y2 := HT.out 2 _ rfl
  have y3 := HT.out 3 _ rfl
  have z0 := HP.out.1 0 _ rfl
  have z1 := HP.out.1 1 _ rfl
  have z2 := HP.out.1 2 _ rfl
  have z3 := HP.out.1 3 _ rfl
  have hg := HP.out.2
  go_wp2
  refine bodyPost_ret (v := .tuple #[.agg #[.int .i64 (n : Nat), .int .i64 (s : Nat), .int .i64 (k : Nat), .bool false], .int .i64 ((l.length : Int) - 22), .int .i64 0]) (by simp [results, Try.results12, go_sem, z0, z1, z2, z3]) rfl ⟨rfl, ?_⟩
  exact ((((HB.out).setCell (by simp) _).setCell (by simp) _).setCell (by simp) _).setCell (by simp) _
set_option maxHeartbeats 4000000 in
set_option maxRecDepth 100000 in
theorem parse_wide_no (ad : Option Addr) (c : Nat) (l : List UInt8) (w : World) (h : Byt w w.heap.size (.slice ad l.length c) l) (hl : l.length ≤ 100000) (hc : l.length ≤ c) (hs : 98 ≤ l.length) (hm : rd l (l.length - 22) 4 = 101010256) (hn : rd l (l.length - 22 + 8) 2 = 65535) (ht : tailB (IntKind.i64.wrap (rd l (l.length - 98 + 24) 8 : Nat)) (IntKind.i64.wrap (rd l (l.length - 98 + 40) 8 : Nat)) (IntKind.i64.wrap (rd l (l.length - 98 + 48) 8 : Nat)) = false) : Calls Try.prog 12 #[.slice ad l.length c] w fun e w' => e = .returned (.tuple #[.agg #[.int .i64 0, .int .i64 0, .int .i64 0, .bool false], .int .i64 0, .int .i64 13]) ∧ Below w.heap.size w w' := by
  have G0 := Lib.hid (fun (W : World) (hw : Byt W w.heap.size (.slice ad l.length c) l) => get_at ad c w.heap.size l ((l.length : Int) - 22) 4 (l.length - 22) W hw (by omega) hc (by omega) (by omega) (by omega) (by omega))
  have G1 := Lib.hid (fun (W : World) (hw : Byt W w.heap.size (.slice ad l.length c) l) => get_at ad c w.heap.size l ((l.length : Int) - 22 + 8) 2 (l.length - 22 + 8) W hw (by omega) hc (by omega) (by omega) (by omega) (by omega))
  have G2 := Lib.hid (fun (W : World) (hw : Byt W w.heap.size (.slice ad l.length c) l) => get_at ad c w.heap.size l ((l.length : Int) - 22 + 12) 4 (l.length - 22 + 12) W hw (by omega) hc (by omega) (by omega) (by omega) (by omega))
  have G3 := Lib.hid (fun (W : World) (hw : Byt W w.heap.size (.slice ad l.length c) l) => get_at ad c w.heap.size l ((l.length : Int) - 22 + 16) 4 (l.length - 22 + 16) W hw (by omega) hc (by omega) (by omega) (by omega) (by omega))
  have G4 := Lib.hid (fun (W : World) (hw : Byt W w.heap.size (.slice ad l.length c) l) => get_at ad c w.heap.size l ((l.length : Int) - 98 + 24) 8 (l.length - 98 + 24) W hw (by omega) hc (by omega) (by omega) (by omega) (by omega))
  have G5 := Lib.hid (fun (W : World) (hw : Byt W w.heap.size (.slice ad l.length c) l) => get_at ad c w.heap.size l ((l.length : Int) - 98 + 40) 8 (l.length - 98 + 40) W hw (by omega) hc (by omega) (by omega) (by omega) (by omega))
  have G6 := Lib.hid (fun (W : World) (hw : Byt W w.heap.size (.slice ad l.length c) l) => get_at ad c w.heap.size l ((l.length : Int) - 98 + 48) 8 (l.length - 98 + 48) W hw (by omega) hc (by omega) (by omega) (by omega) (by omega))
  have t0 : decide ((l.length : Int) - 22 < 0) = false := by simp; omega
  have t0' : decide ((l.length : Int) < 22) = false := by simp; omega
  have t3 : decide ((l.length : Int) - 98 < 0) = false := by simp; omega
  have t3' : decide ((l.length : Int) < 98) = false := by simp; omega
  have HM := Lib.hid hm
  rw [HM.out] at G0
  clear hm
  have HN := Lib.hid hn
  rw [HN.out] at G1
  clear hn
  have b_s := rd_lt l (l.length - 22 + 12) 4
  have B_s : (rd l (l.length - 22 + 12) 4) < 4294967296 := b_s
  clear b_s
  generalize rd l (l.length - 22 + 12) 4 = s at *
  have b_k := rd_lt l (l.length - 22 + 16) 4
  have B_k : (rd l (l.length - 22 + 16) 4) < 4294967296 := b_k
  clear b_k
  generalize rd l (l.length - 22 + 16) 4 = k at *
  have q_s : IntKind.i64.wrap (s : Int) = s := IntWalk.i64_in _ (by omega)
  have q_k : IntKind.i64.wrap (k : Int) = k := IntWalk.i64_in _ (by omega)
  generalize rd l (l.length - 98 + 24) 8 = n1 at *
  generalize rd l (l.length - 98 + 40) 8 = s1 at *
  generalize rd l (l.length - 98 + 48) 8 = k1 at *
  generalize hn2 : IntKind.i64.wrap (n1 : Int) = n2 at *
  generalize hs2 : IntKind.i64.wrap (s1 : Int) = s2 at *
  generalize hk2 : IntKind.i64.wrap (k1 : Int) = k2 at *
  have HE := Lib.hid (fun W => enc_no n2 s2 k2 true W ht)
  clear ht
  have HH := Lib.hid h
  clear h
  have HP := Lib.hid (Own.new_at w [.int .i64 0, .int .i64 0, .int .i64 0, .bool false] 23 w.heap.size rfl)
  have HB := Lib.hid ((Below.refl w.heap.size w).alloc (Nat.le_refl _) (.cells #[.int .i64 0, .int .i64 0, .int .i64 0, .bool false] 23))
  have HY := Lib.hid (HH.out.below HB.out)
  go_enter Try.func12, Try.ntmps12
  go_wp2_with fail
  refine (G0.out _ HY.out).mono ?_
  rintro e w' ⟨rfl, rfl⟩
  go_wp2_with fail
  refine (G1.out _ HY.out).mono ?_
  rintro e w' ⟨rfl, rfl⟩
  go_wp2_with fail
  refine (G2.out _ HY.out).mono ?_
  rintro e w' ⟨rfl, rfl⟩
  go_wp2_with fail
  refine (G3.out _ HY.out).mono ?_
  rintro e w' ⟨rfl, rfl⟩
  have HB1 := Lib.hid (HB.out.alloc (by simp) (.cells #[.int .i64 65535, .int .i64 (s : Nat), .int .i64 (k : Nat), .bool false] 23))
  have HY2 := Lib.hid (HH.out.below HB1.out)
  go_wp2_with fail
  refine (G4.out _ HY2.out).mono ?_
  rintro e w' ⟨rfl, rfl⟩
  go_wp2_with fail
  refine (G5.out _ HY2.out).mono ?_
  rintro e w' ⟨rfl, rfl⟩
  go_wp2_with fail
  refine (G6.out _ HY2.out).mono ?_
  rintro e w' ⟨rfl, rfl⟩
  have HB2 := Lib.hid (HB.out.alloc (by simp) (.cells #[.int .i64 n2, .int .i64 s2, .int .i64 k2, .bool true] 23))
  have HP2 := Lib.hid (HP.out.below ((Below.refl _ _).alloc (Nat.le_refl _) (.cells #[.int .i64 n2, .int .i64 s2, .int .i64 k2, .bool true] 23)) (by simp))
  have HT2 := Lib.hid (Cells.new_at (w.alloc (.cells #[.int .i64 0, .int .i64 0, .int .i64 0, .bool false] 23)) [.int .i64 n2, .int .i64 s2, .int .i64 k2, .bool true] 23 (w.heap.size + 1) (by simp))
  have HY3 := Lib.hid (HH.out.below HB2.out)
  go_wp2_with fail
  refine (HE.out _).mono ?_
  rintro e w1 ⟨rfl, hb⟩
  have hs1 := hb.size
  simp only [World.size_alloc] at hs1
  have HP := Lib.hid (HP2.out.below hb (by simp; omega))
  have HB := Lib.hid (HB2.out.trans (hb.mono (by simp; omega)))
  have HT := Lib.hid (HT2.out.below hb (by simp))
  have HY := Lib.hid (HY3.out.below (hb.mono (by simp; omega)))
  have hlt : w.heap.size + 1 < w1.heap.size := by omega
  clear hb hs1
  have z0 := HP.out.1 0 _ rfl
  have z1 := HP.out.1 1 _ rfl
  have z2 := HP.out.1 2 _ rfl
  have z3 := HP.out.1 3 _ rfl
  have hg := HP.out.2
  go_wp2
  refine bodyPost_ret (v := .tuple #[.agg #[.int .i64 0, .int .i64 0, .int .i64 0, .bool false], .int .i64 0, .int .i64 13]) (by simp [results, Try.results12, go_sem, z0, z1, z2, z3]) rfl ⟨rfl, ?_⟩
  exact ((((HB.out).setCell (by simp) _).setCell (by simp) _).setCell (by simp) _).setCell (by simp) _
set_option maxHeartbeats 4000000 in
set_option maxRecDepth 100000 in
theorem parse_wide_neq (ad : Option Addr) (c : Nat) (l : List UInt8) (w : World) (h : Byt w w.heap.size (.slice ad l.length c) l) (hl : l.length ≤ 100000) (hc : l.length ≤ c) (hs : 98 ≤ l.length) (hm : rd l (l.length - 22) 4 = 101010256) (hn : rd l (l.length - 22 + 8) 2 = 65535) (ht : tailB (IntKind.i64.wrap (rd l (l.length - 98 + 24) 8 : Nat)) (IntKind.i64.wrap (rd l (l.length - 98 + 40) 8 : Nat)) (IntKind.i64.wrap (rd l (l.length - 98 + 48) 8 : Nat)) = true) (hd : decide (tailBytes (IntKind.i64.wrap (rd l (l.length - 98 + 24) 8 : Nat)) (IntKind.i64.wrap (rd l (l.length - 98 + 40) 8 : Nat)) (IntKind.i64.wrap (rd l (l.length - 98 + 48) 8 : Nat)) true = l.drop (l.length - 98)) = false) : Calls Try.prog 12 #[.slice ad l.length c] w fun e w' => e = .returned (.tuple #[.agg #[.int .i64 0, .int .i64 0, .int .i64 0, .bool false], .int .i64 0, .int .i64 39]) ∧ Below w.heap.size w w' := by
  have G0 := Lib.hid (fun (W : World) (hw : Byt W w.heap.size (.slice ad l.length c) l) => get_at ad c w.heap.size l ((l.length : Int) - 22) 4 (l.length - 22) W hw (by omega) hc (by omega) (by omega) (by omega) (by omega))
  have G1 := Lib.hid (fun (W : World) (hw : Byt W w.heap.size (.slice ad l.length c) l) => get_at ad c w.heap.size l ((l.length : Int) - 22 + 8) 2 (l.length - 22 + 8) W hw (by omega) hc (by omega) (by omega) (by omega) (by omega))
  have G2 := Lib.hid (fun (W : World) (hw : Byt W w.heap.size (.slice ad l.length c) l) => get_at ad c w.heap.size l ((l.length : Int) - 22 + 12) 4 (l.length - 22 + 12) W hw (by omega) hc (by omega) (by omega) (by omega) (by omega))
  have G3 := Lib.hid (fun (W : World) (hw : Byt W w.heap.size (.slice ad l.length c) l) => get_at ad c w.heap.size l ((l.length : Int) - 22 + 16) 4 (l.length - 22 + 16) W hw (by omega) hc (by omega) (by omega) (by omega) (by omega))
  have G4 := Lib.hid (fun (W : World) (hw : Byt W w.heap.size (.slice ad l.length c) l) => get_at ad c w.heap.size l ((l.length : Int) - 98 + 24) 8 (l.length - 98 + 24) W hw (by omega) hc (by omega) (by omega) (by omega) (by omega))
  have G5 := Lib.hid (fun (W : World) (hw : Byt W w.heap.size (.slice ad l.length c) l) => get_at ad c w.heap.size l ((l.length : Int) - 98 + 40) 8 (l.length - 98 + 40) W hw (by omega) hc (by omega) (by omega) (by omega) (by omega))
  have G6 := Lib.hid (fun (W : World) (hw : Byt W w.heap.size (.slice ad l.length c) l) => get_at ad c w.heap.size l ((l.length : Int) - 98 + 48) 8 (l.length - 98 + 48) W hw (by omega) hc (by omega) (by omega) (by omega) (by omega))
  have HD := Lib.hid hd
  clear hd
  have hsl := fun W => slice_l (t := 25) (e := 5) (size := 1) rfl size_u8 ad l.length c ((l.length : Int) - 98) (by omega) (by omega) W
  have hsb := sub_byt h (l.length - 98) (l.length - (l.length - 98)) (by omega)
  rw [show ((l.length : Int) - 98).toNat = l.length - 98 from by omega] at hsl
  rw [List.take_of_length_le (by rw [List.length_drop]; omega)] at hsb
  generalize Value.slice (if c = l.length - 98 then ad else ad.map (·.add ((l.length - 98) * 1))) (l.length - (l.length - 98)) (c - (l.length - 98)) = S at *
  have HSB := Lib.hid hsb
  clear hsb
  have t0 : decide ((l.length : Int) - 22 < 0) = false := by simp; omega
  have t0' : decide ((l.length : Int) < 22) = false := by simp; omega
  have t3 : decide ((l.length : Int) - 98 < 0) = false := by simp; omega
  have t3' : decide ((l.length : Int) < 98) = false := by simp; omega
  have HM := Lib.hid hm
  rw [HM.out] at G0
  clear hm
  have HN := Lib.hid hn
  rw [HN.out] at G1
  clear hn
  have b_s := rd_lt l (l.length - 22 + 12) 4
  have B_s : (rd l (l.length - 22 + 12) 4) < 4294967296 := b_s
  clear b_s
  generalize rd l (l.length - 22 + 12) 4 = s at *
  have b_k := rd_lt l (l.length - 22 + 16) 4
  have B_k : (rd l (l.length - 22 + 16) 4) < 4294967296 := b_k
  clear b_k
  generalize rd l (l.length - 22 + 16) 4 = k at *
  have q_s : IntKind.i64.wrap (s : Int) = s := IntWalk.i64_in _ (by omega)
  have q_k : IntKind.i64.wrap (k : Int) = k := IntWalk.i64_in _ (by omega)
  generalize rd l (l.length - 98 + 24) 8 = n1 at *
  generalize rd l (l.length - 98 + 40) 8 = s1 at *
  generalize rd l (l.length - 98 + 48) 8 = k1 at *
  generalize hn2 : IntKind.i64.wrap (n1 : Int) = n2 at *
  generalize hs2 : IntKind.i64.wrap (s1 : Int) = s2 at *
  generalize hk2 : IntKind.i64.wrap (k1 : Int) = k2 at *
  have ht' := of_decide_eq_true ht
  obtain ⟨n3, rfl⟩ : ∃ x : Nat, n2 = x := ⟨n2.toNat, by omega⟩
  obtain ⟨s3, rfl⟩ : ∃ x : Nat, s2 = x := ⟨s2.toNat, by omega⟩
  obtain ⟨k3, rfl⟩ : ∃ x : Nat, k2 = x := ⟨k2.toNat, by omega⟩
  clear ht'
  have HE := Lib.hid (fun W => enc_yes n3 s3 k3 true W ht)
  clear ht
  have HH := Lib.hid h
  clear h
  have HP := Lib.hid (Own.new_at w [.int .i64 0, .int .i64 0, .int .i64 0, .bool false] 23 w.heap.size rfl)
  have HB := Lib.hid ((Below.refl w.heap.size w).alloc (Nat.le_refl _) (.cells #[.int .i64 0, .int .i64 0, .int .i64 0, .bool false] 23))
  have HY := Lib.hid (HH.out.below HB.out)
  go_enter Try.func12, Try.ntmps12
  go_wp2_with fail
  refine (G0.out _ HY.out).mono ?_
  rintro e w' ⟨rfl, rfl⟩
  go_wp2_with fail
  refine (G1.out _ HY.out).mono ?_
  rintro e w' ⟨rfl, rfl⟩
  go_wp2_with fail
  refine (G2.out _ HY.out).mono ?_
  rintro e w' ⟨rfl, rfl⟩
  go_wp2_with fail
  refine (G3.out _ HY.out).mono ?_
  rintro e w' ⟨rfl, rfl⟩
  have HB1 := Lib.hid (HB.out.alloc (by simp) (.cells #[.int .i64 65535, .int .i64 (s : Nat), .int .i64 (k : Nat), .bool false] 23))
  have HY2 := Lib.hid (HH.out.below HB1.out)
  go_wp2_with fail
  refine (G4.out _ HY2.out).mono ?_
  rintro e w' ⟨rfl, rfl⟩
  go_wp2_with fail
  refine (G5.out _ HY2.out).mono ?_
  rintro e w' ⟨rfl, rfl⟩
  go_wp2_with fail
  refine (G6.out _ HY2.out).mono ?_
  rintro e w' ⟨rfl, rfl⟩
  have HB2 := Lib.hid (HB.out.alloc (by simp) (.cells #[.int .i64 (n3 : Nat), .int .i64 (s3 : Nat), .int .i64 (k3 : Nat), .bool true] 23))
  have HP2 := Lib.hid (HP.out.below ((Below.refl _ _).alloc (Nat.le_refl _) (.cells #[.int .i64 (n3 : Nat), .int .i64 (s3 : Nat), .int .i64 (k3 : Nat), .bool true] 23)) (by simp))
  have HT2 := Lib.hid (Cells.new_at (w.alloc (.cells #[.int .i64 0, .int .i64 0, .int .i64 0, .bool false] 23)) [.int .i64 (n3 : Nat), .int .i64 (s3 : Nat), .int .i64 (k3 : Nat), .bool true] 23 (w.heap.size + 1) (by simp))
  have HY3 := Lib.hid (HH.out.below HB2.out)
  go_wp2_with fail
  refine (HE.out _).mono ?_
  rintro e w1 ⟨v, rfl, hv, hb⟩
  have hs1 := hb.size
  simp only [World.size_alloc] at hs1
  have HP := Lib.hid (HP2.out.below hb (by simp; omega))
  have HB := Lib.hid (HB2.out.trans (hb.mono (by simp; omega)))
  have HT := Lib.hid (HT2.out.below hb (by simp))
  have HY := Lib.hid (HY3.out.below (hb.mono (by simp; omega)))
  have hlt : w.heap.size + 1 < w1.heap.size := by omega
  have HV := Lib.hid hv
  clear hv hb hs1
  have HBB := Lib.hid HB.out
  have HEQ := Lib.hid (equal_any HV.out (HSB.out.below HBB.out))
  rw [HD.out] at HEQ
  go_wp2_with fail
  refine HEQ.out.mono ?_
  rintro e w' ⟨rfl, rfl⟩
  have z0 := HP.out.1 0 _ rfl
  have z1 := HP.out.1 1 _ rfl
  have z2 := HP.out.1 2 _ rfl
  have z3 := HP.out.1 3 _ rfl
  have hg := HP.out.2
  go_wp2
  refine bodyPost_ret (v := .tuple #[.agg #[.int .i64 0, .int .i64 0, .int .i64 0, .bool false], .int .i64 0, .int .i64 39]) (by simp [results, Try.results12, go_sem, z0, z1, z2, z3]) rfl ⟨rfl, ?_⟩
  exact ((((HB.out).setCell (by simp) _).setCell (by simp) _).setCell (by simp) _).setCell (by simp) _
set_option maxHeartbeats 4000000 in
set_option maxRecDepth 100000 in
theorem parse_wide_yes (ad : Option Addr) (c : Nat) (l : List UInt8) (w : World) (h : Byt w w.heap.size (.slice ad l.length c) l) (hl : l.length ≤ 100000) (hc : l.length ≤ c) (hs : 98 ≤ l.length) (hm : rd l (l.length - 22) 4 = 101010256) (hn : rd l (l.length - 22 + 8) 2 = 65535) (ht : tailB (IntKind.i64.wrap (rd l (l.length - 98 + 24) 8 : Nat)) (IntKind.i64.wrap (rd l (l.length - 98 + 40) 8 : Nat)) (IntKind.i64.wrap (rd l (l.length - 98 + 48) 8 : Nat)) = true) (hd : decide (tailBytes (IntKind.i64.wrap (rd l (l.length - 98 + 24) 8 : Nat)) (IntKind.i64.wrap (rd l (l.length - 98 + 40) 8 : Nat)) (IntKind.i64.wrap (rd l (l.length - 98 + 48) 8 : Nat)) true = l.drop (l.length - 98)) = true) : Calls Try.prog 12 #[.slice ad l.length c] w fun e w' => e = .returned (.tuple #[.agg #[.int .i64 (IntKind.i64.wrap (rd l (l.length - 98 + 24) 8 : Nat)), .int .i64 (IntKind.i64.wrap (rd l (l.length - 98 + 40) 8 : Nat)), .int .i64 (IntKind.i64.wrap (rd l (l.length - 98 + 48) 8 : Nat)), .bool true], .int .i64 ((l.length : Int) - 98), .int .i64 0]) ∧ Below w.heap.size w w' := by
  have G0 := Lib.hid (fun (W : World) (hw : Byt W w.heap.size (.slice ad l.length c) l) => get_at ad c w.heap.size l ((l.length : Int) - 22) 4 (l.length - 22) W hw (by omega) hc (by omega) (by omega) (by omega) (by omega))
  have G1 := Lib.hid (fun (W : World) (hw : Byt W w.heap.size (.slice ad l.length c) l) => get_at ad c w.heap.size l ((l.length : Int) - 22 + 8) 2 (l.length - 22 + 8) W hw (by omega) hc (by omega) (by omega) (by omega) (by omega))
  have G2 := Lib.hid (fun (W : World) (hw : Byt W w.heap.size (.slice ad l.length c) l) => get_at ad c w.heap.size l ((l.length : Int) - 22 + 12) 4 (l.length - 22 + 12) W hw (by omega) hc (by omega) (by omega) (by omega) (by omega))
  have G3 := Lib.hid (fun (W : World) (hw : Byt W w.heap.size (.slice ad l.length c) l) => get_at ad c w.heap.size l ((l.length : Int) - 22 + 16) 4 (l.length - 22 + 16) W hw (by omega) hc (by omega) (by omega) (by omega) (by omega))
  have G4 := Lib.hid (fun (W : World) (hw : Byt W w.heap.size (.slice ad l.length c) l) => get_at ad c w.heap.size l ((l.length : Int) - 98 + 24) 8 (l.length - 98 + 24) W hw (by omega) hc (by omega) (by omega) (by omega) (by omega))
  have G5 := Lib.hid (fun (W : World) (hw : Byt W w.heap.size (.slice ad l.length c) l) => get_at ad c w.heap.size l ((l.length : Int) - 98 + 40) 8 (l.length - 98 + 40) W hw (by omega) hc (by omega) (by omega) (by omega) (by omega))
  have G6 := Lib.hid (fun (W : World) (hw : Byt W w.heap.size (.slice ad l.length c) l) => get_at ad c w.heap.size l ((l.length : Int) - 98 + 48) 8 (l.length - 98 + 48) W hw (by omega) hc (by omega) (by omega) (by omega) (by omega))
  have HD := Lib.hid hd
  clear hd
  have hsl := fun W => slice_l (t := 25) (e := 5) (size := 1) rfl size_u8 ad l.length c ((l.length : Int) - 98) (by omega) (by omega) W
  have hsb := sub_byt h (l.length - 98) (l.length - (l.length - 98)) (by omega)
  rw [show ((l.length : Int) - 98).toNat = l.length - 98 from by omega] at hsl
  rw [List.take_of_length_le (by rw [List.length_drop]; omega)] at hsb
  generalize Value.slice (if c = l.length - 98 then ad else ad.map (·.add ((l.length - 98) * 1))) (l.length - (l.length - 98)) (c - (l.length - 98)) = S at *
  have HSB := Lib.hid hsb
  clear hsb
  have t0 : decide ((l.length : Int) - 22 < 0) = false := by simp; omega
  have t0' : decide ((l.length : Int) < 22) = false := by simp; omega
  have t3 : decide ((l.length : Int) - 98 < 0) = false := by simp; omega
  have t3' : decide ((l.length : Int) < 98) = false := by simp; omega
  have HM := Lib.hid hm
  rw [HM.out] at G0
  clear hm
  have HN := Lib.hid hn
  rw [HN.out] at G1
  clear hn
  have b_s := rd_lt l (l.length - 22 + 12) 4
  have B_s : (rd l (l.length - 22 + 12) 4) < 4294967296 := b_s
  clear b_s
  generalize rd l (l.length - 22 + 12) 4 = s at *
  have b_k := rd_lt l (l.length - 22 + 16) 4
  have B_k : (rd l (l.length - 22 + 16) 4) < 4294967296 := b_k
  clear b_k
  generalize rd l (l.length - 22 + 16) 4 = k at *
  have q_s : IntKind.i64.wrap (s : Int) = s := IntWalk.i64_in _ (by omega)
  have q_k : IntKind.i64.wrap (k : Int) = k := IntWalk.i64_in _ (by omega)
  generalize rd l (l.length - 98 + 24) 8 = n1 at *
  generalize rd l (l.length - 98 + 40) 8 = s1 at *
  generalize rd l (l.length - 98 + 48) 8 = k1 at *
  generalize hn2 : IntKind.i64.wrap (n1 : Int) = n2 at *
  generalize hs2 : IntKind.i64.wrap (s1 : Int) = s2 at *
  generalize hk2 : IntKind.i64.wrap (k1 : Int) = k2 at *
  have ht' := of_decide_eq_true ht
  obtain ⟨n3, rfl⟩ : ∃ x : Nat, n2 = x := ⟨n2.toNat, by omega⟩
  obtain ⟨s3, rfl⟩ : ∃ x : Nat, s2 = x := ⟨s2.toNat, by omega⟩
  obtain ⟨k3, rfl⟩ : ∃ x : Nat, k2 = x := ⟨k2.toNat, by omega⟩
  clear ht'
  have HE := Lib.hid (fun W => enc_yes n3 s3 k3 true W ht)
  clear ht
  have HH := Lib.hid h
  clear h
  have HP := Lib.hid (Own.new_at w [.int .i64 0, .int .i64 0, .int .i64 0, .bool false] 23 w.heap.size rfl)
  have HB := Lib.hid ((Below.refl w.heap.size w).alloc (Nat.le_refl _) (.cells #[.int .i64 0, .int .i64 0, .int .i64 0, .bool false] 23))
  have HY := Lib.hid (HH.out.below HB.out)
  go_enter Try.func12, Try.ntmps12
  go_wp2_with fail
  refine (G0.out _ HY.out).mono ?_
  rintro e w' ⟨rfl, rfl⟩
  go_wp2_with fail
  refine (G1.out _ HY.out).mono ?_
  rintro e w' ⟨rfl, rfl⟩
  go_wp2_with fail
  refine (G2.out _ HY.out).mono ?_
  rintro e w' ⟨rfl, rfl⟩
  go_wp2_with fail
  refine (G3.out _ HY.out).mono ?_
  rintro e w' ⟨rfl, rfl⟩
  have HB1 := Lib.hid (HB.out.alloc (by simp) (.cells #[.int .i64 65535, .int .i64 (s : Nat), .int .i64 (k : Nat), .bool false] 23))
  have HY2 := Lib.hid (HH.out.below HB1.out)
  go_wp2_with fail
  refine (G4.out _ HY2.out).mono ?_
  rintro e w' ⟨rfl, rfl⟩
  go_wp2_with fail
  refine (G5.out _ HY2.out).mono ?_
  rintro e w' ⟨rfl, rfl⟩
  go_wp2_with fail
  refine (G6.out _ HY2.out).mono ?_
  rintro e w' ⟨rfl, rfl⟩
  have HB2 := Lib.hid (HB.out.alloc (by simp) (.cells #[.int .i64 (n3 : Nat), .int .i64 (s3 : Nat), .int .i64 (k3 : Nat), .bool true] 23))
  have HP2 := Lib.hid (HP.out.below ((Below.refl _ _).alloc (Nat.le_refl _) (.cells #[.int .i64 (n3 : Nat), .int .i64 (s3 : Nat), .int .i64 (k3 : Nat), .bool true] 23)) (by simp))
  have HT2 := Lib.hid (Cells.new_at (w.alloc (.cells #[.int .i64 0, .int .i64 0, .int .i64 0, .bool false] 23)) [.int .i64 (n3 : Nat), .int .i64 (s3 : Nat), .int .i64 (k3 : Nat), .bool true] 23 (w.heap.size + 1) (by simp))
  have HY3 := Lib.hid (HH.out.below HB2.out)
  go_wp2_with fail
  refine (HE.out _).mono ?_
  rintro e w1 ⟨v, rfl, hv, hb⟩
  have hs1 := hb.size
  simp only [World.size_alloc] at hs1
  have HP := Lib.hid (HP2.out.below hb (by simp; omega))
  have HB := Lib.hid (HB2.out.trans (hb.mono (by simp; omega)))
  have HT := Lib.hid (HT2.out.below hb (by simp))
  have HY := Lib.hid (HY3.out.below (hb.mono (by simp; omega)))
  have hlt : w.heap.size + 1 < w1.heap.size := by omega
  have HV := Lib.hid hv
  clear hv hb hs1
  have HBB := Lib.hid HB.out
  have HEQ := Lib.hid (equal_any HV.out (HSB.out.below HBB.out))
  rw [HD.out] at HEQ
  go_wp2_with fail
  refine HEQ.out.mono ?_
  rintro e w' ⟨rfl, rfl⟩
  have y0 := HT.out 0 _ rfl
  have y1 := HT.out 1 _ rfl
  have y2 := HT.out 2 _ rfl
  have y3 := HT.out 3 _ rfl
  have z0 := HP.out.1 0 _ rfl
  have z1 := HP.out.1 1 _ rfl
  have z2 := HP.out.1 2 _ rfl
  have z3 := HP.out.1 3 _ rfl
  have hg := HP.out.2
  go_wp2
  refine bodyPost_ret (v := .tuple #[.agg #[.int .i64 (n3 : Nat), .int .i64 (s3 : Nat), .int .i64 (k3 : Nat), .bool true], .int .i64 ((l.length : Int) - 98), .int .i64 0]) (by simp [results, Try.results12, go_sem, z0, z1, z2, z3]) rfl ⟨rfl, ?_⟩
  exact ((((HB.out).setCell (by simp) _).setCell (by simp) _).setCell (by simp) _).setCell (by simp) _
set_option maxHeartbeats 4000000 in
set_option maxRecDepth 100000 in
theorem parse_wide_short (ad : Option Addr) (c : Nat) (l : List UInt8) (w : World) (h : Byt w w.heap.size (.slice ad l.length c) l) (hl : l.length ≤ 100000) (hc : l.length ≤ c) (hs : 22 ≤ l.length) (hs2 : l.length < 98) (hm : rd l (l.length - 22) 4 = 101010256) (hn : rd l (l.length - 22 + 8) 2 = 65535) : Calls Try.prog 12 #[.slice ad l.length c] w fun e w' => e = .returned (.tuple #[.agg #[.int .i64 0, .int .i64 0, .int .i64 0, .bool false], .int .i64 0, .int .i64 4]) ∧ Below w.heap.size w w' := by
  have G0 := Lib.hid (fun (W : World) (hw : Byt W w.heap.size (.slice ad l.length c) l) => get_at ad c w.heap.size l ((l.length : Int) - 22) 4 (l.length - 22) W hw (by omega) hc (by omega) (by omega) (by omega) (by omega))
  have G1 := Lib.hid (fun (W : World) (hw : Byt W w.heap.size (.slice ad l.length c) l) => get_at ad c w.heap.size l ((l.length : Int) - 22 + 8) 2 (l.length - 22 + 8) W hw (by omega) hc (by omega) (by omega) (by omega) (by omega))
  have G2 := Lib.hid (fun (W : World) (hw : Byt W w.heap.size (.slice ad l.length c) l) => get_at ad c w.heap.size l ((l.length : Int) - 22 + 12) 4 (l.length - 22 + 12) W hw (by omega) hc (by omega) (by omega) (by omega) (by omega))
  have G3 := Lib.hid (fun (W : World) (hw : Byt W w.heap.size (.slice ad l.length c) l) => get_at ad c w.heap.size l ((l.length : Int) - 22 + 16) 4 (l.length - 22 + 16) W hw (by omega) hc (by omega) (by omega) (by omega) (by omega))
  have t0 : decide ((l.length : Int) - 22 < 0) = false := by simp; omega
  have t0' : decide ((l.length : Int) < 22) = false := by simp; omega
  have t3 : decide ((l.length : Int) - 98 < 0) = true := by simp; omega
  have t3' : decide ((l.length : Int) < 98) = true := by simp; omega
  have HM := Lib.hid hm
  rw [HM.out] at G0
  clear hm
  have HN := Lib.hid hn
  rw [HN.out] at G1
  clear hn
  have b_s := rd_lt l (l.length - 22 + 12) 4
  have B_s : (rd l (l.length - 22 + 12) 4) < 4294967296 := b_s
  clear b_s
  generalize rd l (l.length - 22 + 12) 4 = s at *
  have b_k := rd_lt l (l.length - 22 + 16) 4
  have B_k : (rd l (l.length - 22 + 16) 4) < 4294967296 := b_k
  clear b_k
  generalize rd l (l.length - 22 + 16) 4 = k at *
  have q_s : IntKind.i64.wrap (s : Int) = s := IntWalk.i64_in _ (by omega)
  have q_k : IntKind.i64.wrap (k : Int) = k := IntWalk.i64_in _ (by omega)
  have HH := Lib.hid h
  clear h
  have HP := Lib.hid (Own.new_at w [.int .i64 0, .int .i64 0, .int .i64 0, .bool false] 23 w.heap.size rfl)
  have HB := Lib.hid ((Below.refl w.heap.size w).alloc (Nat.le_refl _) (.cells #[.int .i64 0, .int .i64 0, .int .i64 0, .bool false] 23))
  have HY := Lib.hid (HH.out.below HB.out)
  go_enter Try.func12, Try.ntmps12
  go_wp2_with fail
  refine (G0.out _ HY.out).mono ?_
  rintro e w' ⟨rfl, rfl⟩
  go_wp2_with fail
  refine (G1.out _ HY.out).mono ?_
  rintro e w' ⟨rfl, rfl⟩
  go_wp2_with fail
  refine (G2.out _ HY.out).mono ?_
  rintro e w' ⟨rfl, rfl⟩
  go_wp2_with fail
  refine (G3.out _ HY.out).mono ?_
  rintro e w' ⟨rfl, rfl⟩
  have HB1 := Lib.hid (HB.out.alloc (by simp) (.cells #[.int .i64 65535, .int .i64 (s : Nat), .int .i64 (k : Nat), .bool false] 23))
  go_wp2
  exact bodyPost_ret (v := .tuple #[.agg #[.int .i64 0, .int .i64 0, .int .i64 0, .bool false], .int .i64 0, .int .i64 4]) (by simp [results, Try.results12, go_sem]) rfl ⟨rfl, HB1.out⟩
end Go.Proofs.Ytfdbgbdiacpmhaa
