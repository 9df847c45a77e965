/- Contract of desc's Parse. -/
import Derived.Test.YtodjoccdjmmilaaDescB
namespace Go.Proofs.Ytodjoccdjmmilaa
open Go.RowKit
theorem cf_parse1 (cap : Array Value) (w : World) : (callFunc 18 cap).run Try.prog w = .ok (.enter 18 cap) w := by kernel_rfl
set_option maxHeartbeats 1000000 in
theorem parse1_ret (br bg rb q : Nat) (m : List UInt8) (x0 x1 x2 : Int) (x3 g : Bool) (W : World) (hr : W.cell? ⟨br, 0, none⟩ = some (.pointer (some ⟨rb, 0, none⟩))) (hg : W.cell? ⟨bg, 0, none⟩ = some (.bool g)) (hrb : rb < W.heap.size)
    (hcall : ∀ w : World, RD w rb m 0 → Calls Try.prog 15 #[.pointer (some ⟨rb, 0, none⟩), .bool g] w fun e w' => e = .returned (.agg #[.int .u32 x0, .int .i64 x1, .int .i64 x2, .bool x3]) ∧ RD w' rb m q ∧ Bx [rb] w.heap.size w w') (hd : RD W rb m 0) :
    Calls Try.prog 18 #[.pointer (some ⟨br, 0, none⟩), .pointer (some ⟨bg, 0, none⟩)] W fun e w' => e = .returned (.agg #[.int .u32 x0, .int .i64 x1, .int .i64 x2, .bool x3]) ∧ RD w' rb m q ∧ Bx [rb] W.heap.size W w' := by
  have HC := Lib.hid hcall
  have HBA := Lib.hid ((Below.refl W.heap.size W).alloc (Nat.le_refl _) (.cells #[.int .u32 0, .int .i64 0, .int .i64 0, .bool false] 24))
  have HD := Lib.hid (hd.below HBA.out)
  have HO := Lib.hid (Own.new_at W [.int .u32 0, .int .i64 0, .int .i64 0, .bool false] 24 W.heap.size rfl)
  have hbr : br < W.heap.size := World.block_lt_of_cell? W ⟨br, 0, none⟩ hr
  have hbg : bg < W.heap.size := World.block_lt_of_cell? W ⟨bg, 0, none⟩ hg
  clear hcall hd
  go_enter Try.func18, Try.ntmps18
  go_wp2_with fail
  refine (HC.out _ HD.out).mono ?_
  rintro e w1 ⟨rfl, hd, hb⟩
  have hs := hb.size
  simp only [World.size_alloc] at hs
  have HD := Lib.hid hd
  have HO := Lib.hid (HO.out.bx hb (by simp) (by simp; omega))
  have HB := Lib.hid ((Bx.of_below HBA.out : Bx [rb] W.heap.size W _).trans (hb.mono (by simp)))
  clear hd hb
  have z0 := HO.out.1 0 _ rfl
  have z1 := HO.out.1 1 _ rfl
  have z2 := HO.out.1 2 _ rfl
  have z3 := HO.out.1 3 _ rfl
  have hf := HO.out.2
  go_wp2
  refine bodyPost_ret (v := .agg #[.int .u32 x0, .int .i64 x1, .int .i64 x2, .bool x3]) (by simp [results, Try.results18, go_sem, z0, z1, z2, z3]) rfl ⟨rfl, ?_, ?_⟩
  · exact ((((HD.out.set_other (b := W.heap.size) hrb 0 _).set_other (b := W.heap.size) hrb 1 _).set_other (b := W.heap.size) hrb 2 _).set_other (b := W.heap.size) hrb 3 _)
  · exact ((((HB.out.setCell (.inr (by simp)) _).setCell (.inr (by simp)) _).setCell (.inr (by simp)) _).setCell (.inr (by simp)) _)
theorem parse1_throw (br bg rb q : Nat) (m : List UInt8) (c : Int) (g : Bool) (W : World) (hr : W.cell? ⟨br, 0, none⟩ = some (.pointer (some ⟨rb, 0, none⟩))) (hg : W.cell? ⟨bg, 0, none⟩ = some (.bool g))
    (hcall : ∀ w : World, RD w rb m 0 → Calls Try.prog 15 #[.pointer (some ⟨rb, 0, none⟩), .bool g] w fun e w' => e = .panicked (fault c) ∧ RD w' rb m q ∧ Bx [rb] w.heap.size w w') (hd : RD W rb m 0) :
    Calls Try.prog 18 #[.pointer (some ⟨br, 0, none⟩), .pointer (some ⟨bg, 0, none⟩)] W fun e w' => e = .panicked (fault c) ∧ RD w' rb m q ∧ Bx [rb] W.heap.size W w' := by
  have HC := Lib.hid hcall
  have HBA := Lib.hid ((Below.refl W.heap.size W).alloc (Nat.le_refl _) (.cells #[.int .u32 0, .int .i64 0, .int .i64 0, .bool false] 24))
  have HD := Lib.hid (hd.below HBA.out)
  have hbr : br < W.heap.size := World.block_lt_of_cell? W ⟨br, 0, none⟩ hr
  have hbg : bg < W.heap.size := World.block_lt_of_cell? W ⟨bg, 0, none⟩ hg
  clear hcall hd
  go_enter Try.func18, Try.ntmps18
  go_wp2_with fail
  refine (HC.out _ HD.out).mono ?_
  rintro e w1 ⟨rfl, hd, hb⟩
  have HD := Lib.hid hd
  have HB := Lib.hid ((Bx.of_below HBA.out : Bx [rb] W.heap.size W _).trans (hb.mono (by simp)))
  clear hd hb
  go_wp2
  exact ⟨rfl, rfl, HD.out, HB.out⟩
set_option maxHeartbeats 2000000 in
theorem dparse_failA (ad : Option Addr) (c : Nat) (l : List UInt8) (at_ : Nat) (g : Bool) (w : World) (h : Byt w w.heap.size (.slice ad l.length c) l) (hl : l.length ≤ 100000) (hc : l.length ≤ c) (hat : at_ ≤ l.length) (hmn : l.length ≤ at_ + 24) (code : Int) (q : Nat) (hcd : code ≠ 0) (hcall : ∀ (rb : Nat) (w : World), RD w rb ((l.drop at_).take 24) 0 → Calls Try.prog 15 #[.pointer (some ⟨rb, 0, none⟩), .bool g] w fun e w' => e = .panicked (fault code) ∧ RD w' rb ((l.drop at_).take 24) q ∧ Bx [rb] w.heap.size w w') :
    Calls Try.prog 7 #[.slice ad l.length c, .int .i64 (at_ : Nat), .bool g] w fun e w' => e = .returned (.tuple #[.agg #[.int .u32 0, .int .i64 0, .int .i64 0, .bool false], .int .i64 0, .int .i64 code]) ∧ Below w.heap.size w w' := by
  have t0 : decide ((at_ : Int) < 0) = false := by simp
  have t1 : decide ((l.length : Int) < (at_ : Int)) = false := by simp; omega
  have d1 : decide ((l.length : Int) ≤ (at_ : Int) + 24) = true := by simp; omega
  have d2 : decide ((at_ : Int) + 24 < (l.length : Int)) = false := by simp; omega
  have hsl := fun W => slice_lh (t := 25) (e := 5) (size := 1) rfl size_u8 ad l.length c (at_ : Int) (l.length : Int) (by omega) (by omega) (by omega) W
  have hsb := sub_byt h at_ (l.length - at_) (by omega)
  rw [Int.toNat_natCast, show ((l.length : Int)).toNat = l.length from by omega] at hsl
  have hm24 : (l.drop at_).take (l.length - at_) = (l.drop at_).take 24 := by
    rw [List.take_eq_take_iff, List.length_drop]; omega
  rw [hm24] at hsb
  generalize Value.slice (if c = at_ then ad else ad.map (·.add (at_ * 1))) (l.length - at_) (c - at_) = S at *
  have hlm : ((l.drop at_).take 24).length ≤ 24 := List.length_take_le _ _
  generalize (l.drop at_).take 24 = m at *
  have HSB := Lib.hid hsb
  clear hsb h hm24
  have d3 : (l.length : Int) ≤ (at_ : Int) + 24 := by omega
  have hmin : min (l.length : Int) ((at_ : Int) + 24) = (l.length : Int) := by omega
  clear hmn
  have HC := Lib.hid hcall
  have tc : (code != 0) = true := by simpa using hcd
  clear hcd hcall
  have HB := Lib.hid (((Below.refl w.heap.size w).alloc (Nat.le_refl _) (.cells #[.bool g] 4)).alloc (by simp) (.cells #[.int .u32 0, .int .i64 0, .int .i64 0, .bool false] 24))
  have HG := Lib.hid ((Cells.new_at w [.bool g] 4 w.heap.size rfl).below ((Below.refl _ _).alloc (Nat.le_refl _) (.cells #[.int .u32 0, .int .i64 0, .int .i64 0, .bool false] 24)) (by simp))
  have HO := Lib.hid (Own.new_at (w.alloc (.cells #[.bool g] 4)) [.int .u32 0, .int .i64 0, .int .i64 0, .bool false] 24 (w.heap.size + 1) (by simp))
  have hmf : ∀ (fn : Fn) (first cap : Array Value) (w : World), (Instr.makeFunc fn first cap).run Try.prog w = .ok (.func fn first cap) w := fun _ _ _ _ => rfl
  go_enter Try.func7, Try.ntmps7
  go_wp2_with fail
  refine (over_any (HSB.out.below HB.out) (by omega)).mono ?_
  rintro e w1 ⟨rb, rfl, hrb0, hd, hb⟩
  simp only [World.size_alloc] at hrb0
  have hs := hb.size
  simp only [World.size_alloc] at hs
  have hrb1 : rb < w1.heap.size := by obtain ⟨_, _, _, _, _, _, _, h6⟩ := hd; exact h6
  have HD := Lib.hid hd
  have HG := Lib.hid (HG.out.below hb (by simp; omega))
  have HO := Lib.hid (HO.out.below hb (by simp))
  have HB := Lib.hid (HB.out.trans (hb.mono (by simp; omega)))
  clear hd hb
  have HR := Lib.hid (Own.new_at w1 [.pointer (some ⟨rb, 0, none⟩)] 38 w1.heap.size rfl)
  have hba := (Below.refl w1.heap.size w1).alloc (Nat.le_refl _) (.cells #[.pointer (some ⟨rb, 0, none⟩)] 38)
  have HD := Lib.hid (HD.out.below hba)
  have HG := Lib.hid (HG.out.below hba (by omega))
  have HO := Lib.hid (HO.out.below hba (by omega))
  have HB := Lib.hid (HB.out.trans (hba.mono (by omega)))
  have hz1 : w1.heap.size < (w1.alloc (.cells #[.pointer (some ⟨rb, 0, none⟩)] 38)).heap.size := by simp
  go_upto_region 4 with (fail)
  clear hba
  generalize w1.alloc (.cells #[.pointer (some ⟨rb, 0, none⟩)] 38) = w2 at *
  generalize w1.heap.size = br at *
  have HTR := Lib.hid (tryD_throw 18 #[.pointer (some ⟨br, 0, none⟩), .pointer (some ⟨w.heap.size, 0, none⟩)] w2 rb q m code (by omega) (fun W => cf_parse1 _ W) (fun W hW => parse1_throw br w.heap.size rb q m code g W ((hW.cell (p := ⟨br, 0, none⟩) (by show br < _; omega)).trans (HR.out.1 0 _ rfl)) ((hW.cell (p := ⟨w.heap.size, 0, none⟩) (by show w.heap.size < _; omega)).trans (HG.out 0 _ rfl)) (HC.out rb) (HD.out.below hW)))
  go_wp2_with fail
  refine HTR.out.mono ?_
  rintro e w3 ⟨rfl, hd, hb⟩
  have hs3 := hb.size
  have HD := Lib.hid hd
  have HR := Lib.hid (HR.out.bx hb (by omega) (by simp; omega))
  have HO := Lib.hid (HO.out.bx hb (by omega) (by simp; omega))
  have HB := Lib.hid (HB.out.trans (hb.below (C := w.heap.size) (by omega) (by simp; omega)))
  clear hd hb HTR
  have HT := Lib.hid (Own.new_at w3 [.int .u32 0, .int .i64 0, .int .i64 0, .bool false] 24 w3.heap.size rfl)
  have hba := (Below.refl w3.heap.size w3).alloc (Nat.le_refl _) (.cells #[.int .u32 0, .int .i64 0, .int .i64 0, .bool false] 24)
  have HD := Lib.hid (HD.out.below hba)
  have HR := Lib.hid (HR.out.below hba (by omega))
  have HO := Lib.hid (HO.out.below hba (by omega))
  have HB := Lib.hid (HB.out.trans (hba.mono (by omega)))
  have hz3 : w3.heap.size < (w3.alloc (.cells #[.int .u32 0, .int .i64 0, .int .i64 0, .bool false] 24)).heap.size := by simp
  go_upto_region 5 with (fail)
  clear hba
  generalize w3.alloc (.cells #[.int .u32 0, .int .i64 0, .int .i64 0, .bool false] 24) = w4 at *
  generalize w3.heap.size = bt at *
  have z0 := HO.out.1 0 _ rfl
  have z1 := HO.out.1 1 _ rfl
  have z2 := HO.out.1 2 _ rfl
  have z3 := HO.out.1 3 _ rfl
  have hfz := HO.out.2
  go_wp2
  refine bodyPost_ret (v := .tuple #[.agg #[.int .u32 0, .int .i64 0, .int .i64 0, .bool false], .int .i64 0, .int .i64 code]) (by simp [results, Try.results7, go_sem, z0, z1, z2, z3]) rfl ⟨rfl, ?_⟩
  exact ((((HB.out).setCell (by simp) _).setCell (by simp) _).setCell (by simp) _).setCell (by simp) _
set_option maxHeartbeats 2000000 in
theorem dparse_failB (ad : Option Addr) (c : Nat) (l : List UInt8) (at_ : Nat) (g : Bool) (w : World) (h : Byt w w.heap.size (.slice ad l.length c) l) (hl : l.length ≤ 100000) (hc : l.length ≤ c) (hat : at_ ≤ l.length) (hmn : at_ + 24 < l.length) (code : Int) (q : Nat) (hcd : code ≠ 0) (hcall : ∀ (rb : Nat) (w : World), RD w rb ((l.drop at_).take 24) 0 → Calls Try.prog 15 #[.pointer (some ⟨rb, 0, none⟩), .bool g] w fun e w' => e = .panicked (fault code) ∧ RD w' rb ((l.drop at_).take 24) q ∧ Bx [rb] w.heap.size w w') :
    Calls Try.prog 7 #[.slice ad l.length c, .int .i64 (at_ : Nat), .bool g] w fun e w' => e = .returned (.tuple #[.agg #[.int .u32 0, .int .i64 0, .int .i64 0, .bool false], .int .i64 0, .int .i64 code]) ∧ Below w.heap.size w w' := by
  have t0 : decide ((at_ : Int) < 0) = false := by simp
  have t1 : decide ((l.length : Int) < (at_ : Int)) = false := by simp; omega
  have d1 : decide ((l.length : Int) ≤ (at_ : Int) + 24) = false := by simp; omega
  have d2 : decide ((at_ : Int) + 24 < (l.length : Int)) = true := by simp; omega
  have hsl := fun W => slice_lh (t := 25) (e := 5) (size := 1) rfl size_u8 ad l.length c (at_ : Int) ((at_ : Int) + 24) (by omega) (by omega) (by omega) W
  have hsb := sub_byt h at_ ((at_ + 24) - at_) (by omega)
  rw [Int.toNat_natCast, show (((at_ : Int) + 24)).toNat = (at_ + 24) from by omega] at hsl
  have hm24 : (l.drop at_).take ((at_ + 24) - at_) = (l.drop at_).take 24 := by
    rw [List.take_eq_take_iff, List.length_drop]; omega
  rw [hm24] at hsb
  generalize Value.slice (if c = at_ then ad else ad.map (·.add (at_ * 1))) ((at_ + 24) - at_) (c - at_) = S at *
  have hlm : ((l.drop at_).take 24).length ≤ 24 := List.length_take_le _ _
  generalize (l.drop at_).take 24 = m at *
  have HSB := Lib.hid hsb
  clear hsb h hm24
  have d3 : (at_ : Int) + 24 < (l.length : Int) := by omega
  have hmin : min (l.length : Int) ((at_ : Int) + 24) = ((at_ : Int) + 24) := by omega
  clear hmn
  have HC := Lib.hid hcall
  have tc : (code != 0) = true := by simpa using hcd
  clear hcd hcall
  have HB := Lib.hid (((Below.refl w.heap.size w).alloc (Nat.le_refl _) (.cells #[.bool g] 4)).alloc (by simp) (.cells #[.int .u32 0, .int .i64 0, .int .i64 0, .bool false] 24))
  have HG := Lib.hid ((Cells.new_at w [.bool g] 4 w.heap.size rfl).below ((Below.refl _ _).alloc (Nat.le_refl _) (.cells #[.int .u32 0, .int .i64 0, .int .i64 0, .bool false] 24)) (by simp))
  have HO := Lib.hid (Own.new_at (w.alloc (.cells #[.bool g] 4)) [.int .u32 0, .int .i64 0, .int .i64 0, .bool false] 24 (w.heap.size + 1) (by simp))
  have hmf : ∀ (fn : Fn) (first cap : Array Value) (w : World), (Instr.makeFunc fn first cap).run Try.prog w = .ok (.func fn first cap) w := fun _ _ _ _ => rfl
  go_enter Try.func7, Try.ntmps7
  go_wp2_with fail
  refine (over_any (HSB.out.below HB.out) (by omega)).mono ?_
  rintro e w1 ⟨rb, rfl, hrb0, hd, hb⟩
  simp only [World.size_alloc] at hrb0
  have hs := hb.size
  simp only [World.size_alloc] at hs
  have hrb1 : rb < w1.heap.size := by obtain ⟨_, _, _, _, _, _, _, h6⟩ := hd; exact h6
  have HD := Lib.hid hd
  have HG := Lib.hid (HG.out.below hb (by simp; omega))
  have HO := Lib.hid (HO.out.below hb (by simp))
  have HB := Lib.hid (HB.out.trans (hb.mono (by simp; omega)))
  clear hd hb
  have HR := Lib.hid (Own.new_at w1 [.pointer (some ⟨rb, 0, none⟩)] 38 w1.heap.size rfl)
  have hba := (Below.refl w1.heap.size w1).alloc (Nat.le_refl _) (.cells #[.pointer (some ⟨rb, 0, none⟩)] 38)
  have HD := Lib.hid (HD.out.below hba)
  have HG := Lib.hid (HG.out.below hba (by omega))
  have HO := Lib.hid (HO.out.below hba (by omega))
  have HB := Lib.hid (HB.out.trans (hba.mono (by omega)))
  have hz1 : w1.heap.size < (w1.alloc (.cells #[.pointer (some ⟨rb, 0, none⟩)] 38)).heap.size := by simp
  go_upto_region 4 with (fail)
  clear hba
  generalize w1.alloc (.cells #[.pointer (some ⟨rb, 0, none⟩)] 38) = w2 at *
  generalize w1.heap.size = br at *
  have HTR := Lib.hid (tryD_throw 18 #[.pointer (some ⟨br, 0, none⟩), .pointer (some ⟨w.heap.size, 0, none⟩)] w2 rb q m code (by omega) (fun W => cf_parse1 _ W) (fun W hW => parse1_throw br w.heap.size rb q m code g W ((hW.cell (p := ⟨br, 0, none⟩) (by show br < _; omega)).trans (HR.out.1 0 _ rfl)) ((hW.cell (p := ⟨w.heap.size, 0, none⟩) (by show w.heap.size < _; omega)).trans (HG.out 0 _ rfl)) (HC.out rb) (HD.out.below hW)))
  go_wp2_with fail
  refine HTR.out.mono ?_
  rintro e w3 ⟨rfl, hd, hb⟩
  have hs3 := hb.size
  have HD := Lib.hid hd
  have HR := Lib.hid (HR.out.bx hb (by omega) (by simp; omega))
  have HO := Lib.hid (HO.out.bx hb (by omega) (by simp; omega))
  have HB := Lib.hid (HB.out.trans (hb.below (C := w.heap.size) (by omega) (by simp; omega)))
  clear hd hb HTR
  have HT := Lib.hid (Own.new_at w3 [.int .u32 0, .int .i64 0, .int .i64 0, .bool false] 24 w3.heap.size rfl)
  have hba := (Below.refl w3.heap.size w3).alloc (Nat.le_refl _) (.cells #[.int .u32 0, .int .i64 0, .int .i64 0, .bool false] 24)
  have HD := Lib.hid (HD.out.below hba)
  have HR := Lib.hid (HR.out.below hba (by omega))
  have HO := Lib.hid (HO.out.below hba (by omega))
  have HB := Lib.hid (HB.out.trans (hba.mono (by omega)))
  have hz3 : w3.heap.size < (w3.alloc (.cells #[.int .u32 0, .int .i64 0, .int .i64 0, .bool false] 24)).heap.size := by simp
  go_upto_region 5 with (fail)
  clear hba
  generalize w3.alloc (.cells #[.int .u32 0, .int .i64 0, .int .i64 0, .bool false] 24) = w4 at *
  generalize w3.heap.size = bt at *
  have z0 := HO.out.1 0 _ rfl
  have z1 := HO.out.1 1 _ rfl
  have z2 := HO.out.1 2 _ rfl
  have z3 := HO.out.1 3 _ rfl
  have hfz := HO.out.2
  go_wp2
  refine bodyPost_ret (v := .tuple #[.agg #[.int .u32 0, .int .i64 0, .int .i64 0, .bool false], .int .i64 0, .int .i64 code]) (by simp [results, Try.results7, go_sem, z0, z1, z2, z3]) rfl ⟨rfl, ?_⟩
  exact ((((HB.out).setCell (by simp) _).setCell (by simp) _).setCell (by simp) _).setCell (by simp) _
theorem dparse_range (ad : Option Addr) (c : Nat) (l : List UInt8) (at_ : Int) (g : Bool) (w : World) (h : Byt w w.heap.size (.slice ad l.length c) l) (hl : l.length ≤ 100000) (hc : l.length ≤ c) (hat : at_ < 0 ∨ (l.length : Int) < at_) : Calls Try.prog 7 #[.slice ad l.length c, .int .i64 at_, .bool g] w fun e w' => e = .returned (.tuple #[.agg #[.int .u32 0, .int .i64 0, .int .i64 0, .bool false], .int .i64 0, .int .i64 2]) ∧ Below w.heap.size w w' := by
  have HB := Lib.hid (((Below.refl w.heap.size w).alloc (Nat.le_refl _) (.cells #[.bool g] 4)).alloc (by simp) (.cells #[.int .u32 0, .int .i64 0, .int .i64 0, .bool false] 24))
  clear h
  by_cases h0 : at_ < 0
  · have t0 : decide (at_ < 0) = true := by simpa using h0
    go_enter Try.func7, Try.ntmps7
    go_wp2
    exact bodyPost_ret (v := .tuple #[.agg #[.int .u32 0, .int .i64 0, .int .i64 0, .bool false], .int .i64 0, .int .i64 2]) (by simp [results, Try.results7, go_sem]) rfl ⟨rfl, HB.out⟩
  · have t0 : decide (at_ < 0) = false := by simpa using h0
    have t1 : decide ((l.length : Int) < at_) = true := by simp; omega
    clear h0 hat
    go_enter Try.func7, Try.ntmps7
    go_wp2
    exact bodyPost_ret (v := .tuple #[.agg #[.int .u32 0, .int .i64 0, .int .i64 0, .bool false], .int .i64 0, .int .i64 2]) (by simp [results, Try.results7, go_sem]) rfl ⟨rfl, HB.out⟩
set_option maxHeartbeats 2000000 in
theorem dparse_yesA (ad : Option Addr) (c : Nat) (l : List UInt8) (at_ : Nat) (g : Bool) (w : World) (h : Byt w w.heap.size (.slice ad l.length c) l) (hl : l.length ≤ 100000) (hc : l.length ≤ c) (hat : at_ ≤ l.length) (hmn : l.length ≤ at_ + 24) (x p s : Int) (q : Nat) (hq : q ≤ 100) (hcall : ∀ (rb : Nat) (w : World), RD w rb ((l.drop at_).take 24) 0 → Calls Try.prog 15 #[.pointer (some ⟨rb, 0, none⟩), .bool g] w fun e w' => e = .returned (.agg #[.int .u32 x, .int .i64 p, .int .i64 s, .bool g]) ∧ RD w' rb ((l.drop at_).take 24) q ∧ Bx [rb] w.heap.size w w') :
    Calls Try.prog 7 #[.slice ad l.length c, .int .i64 (at_ : Nat), .bool g] w fun e w' => e = .returned (.tuple #[.agg #[.int .u32 x, .int .i64 p, .int .i64 s, .bool g], .int .i64 ((at_ : Int) + (q : Int)), .int .i64 0]) ∧ Below w.heap.size w w' := by
  have HWR : Hid (IntKind.i64.wrap ((at_ : Int) + (q : Int)) = (at_ : Int) + q) := Lib.hid (IntWalk.i64_in _ (by omega))
  have t0 : decide ((at_ : Int) < 0) = false := by simp
  have t1 : decide ((l.length : Int) < (at_ : Int)) = false := by simp; omega
  have d1 : decide ((l.length : Int) ≤ (at_ : Int) + 24) = true := by simp; omega
  have d2 : decide ((at_ : Int) + 24 < (l.length : Int)) = false := by simp; omega
  have hsl := fun W => slice_lh (t := 25) (e := 5) (size := 1) rfl size_u8 ad l.length c (at_ : Int) (l.length : Int) (by omega) (by omega) (by omega) W
  have hsb := sub_byt h at_ (l.length - at_) (by omega)
  rw [Int.toNat_natCast, show ((l.length : Int)).toNat = l.length from by omega] at hsl
  have hm24 : (l.drop at_).take (l.length - at_) = (l.drop at_).take 24 := by
    rw [List.take_eq_take_iff, List.length_drop]; omega
  rw [hm24] at hsb
  generalize Value.slice (if c = at_ then ad else ad.map (·.add (at_ * 1))) (l.length - at_) (c - at_) = S at *
  have hlm : ((l.drop at_).take 24).length ≤ 24 := List.length_take_le _ _
  generalize (l.drop at_).take 24 = m at *
  have HSB := Lib.hid hsb
  clear hsb h hm24
  have d3 : (l.length : Int) ≤ (at_ : Int) + 24 := by omega
  have hmin : min (l.length : Int) ((at_ : Int) + 24) = (l.length : Int) := by omega
  clear hmn
  have HC := Lib.hid hcall
  clear hcall
  have HB := Lib.hid (((Below.refl w.heap.size w).alloc (Nat.le_refl _) (.cells #[.bool g] 4)).alloc (by simp) (.cells #[.int .u32 0, .int .i64 0, .int .i64 0, .bool false] 24))
  have HG := Lib.hid ((Cells.new_at w [.bool g] 4 w.heap.size rfl).below ((Below.refl _ _).alloc (Nat.le_refl _) (.cells #[.int .u32 0, .int .i64 0, .int .i64 0, .bool false] 24)) (by simp))
  have HO := Lib.hid (Own.new_at (w.alloc (.cells #[.bool g] 4)) [.int .u32 0, .int .i64 0, .int .i64 0, .bool false] 24 (w.heap.size + 1) (by simp))
  have hmf : ∀ (fn : Fn) (first cap : Array Value) (w : World), (Instr.makeFunc fn first cap).run Try.prog w = .ok (.func fn first cap) w := fun _ _ _ _ => rfl
  go_enter Try.func7, Try.ntmps7
  go_wp2_with fail
  refine (over_any (HSB.out.below HB.out) (by omega)).mono ?_
  rintro e w1 ⟨rb, rfl, hrb0, hd, hb⟩
  simp only [World.size_alloc] at hrb0
  have hs := hb.size
  simp only [World.size_alloc] at hs
  have hrb1 : rb < w1.heap.size := by obtain ⟨_, _, _, _, _, _, _, h6⟩ := hd; exact h6
  have HD := Lib.hid hd
  have HG := Lib.hid (HG.out.below hb (by simp; omega))
  have HO := Lib.hid (HO.out.below hb (by simp))
  have HB := Lib.hid (HB.out.trans (hb.mono (by simp; omega)))
  clear hd hb
  have HR := Lib.hid (Own.new_at w1 [.pointer (some ⟨rb, 0, none⟩)] 38 w1.heap.size rfl)
  have hba := (Below.refl w1.heap.size w1).alloc (Nat.le_refl _) (.cells #[.pointer (some ⟨rb, 0, none⟩)] 38)
  have HD := Lib.hid (HD.out.below hba)
  have HG := Lib.hid (HG.out.below hba (by omega))
  have HO := Lib.hid (HO.out.below hba (by omega))
  have HB := Lib.hid (HB.out.trans (hba.mono (by omega)))
  have hz1 : w1.heap.size < (w1.alloc (.cells #[.pointer (some ⟨rb, 0, none⟩)] 38)).heap.size := by simp
  go_upto_region 4 with (fail)
  clear hba
  generalize w1.alloc (.cells #[.pointer (some ⟨rb, 0, none⟩)] 38) = w2 at *
  generalize w1.heap.size = br at *
  have HTR := Lib.hid (tryD_ret 18 #[.pointer (some ⟨br, 0, none⟩), .pointer (some ⟨w.heap.size, 0, none⟩)] w2 rb q m x p s g (by omega) (fun W => cf_parse1 _ W) (fun W hW => parse1_ret br w.heap.size rb q m x p s g g W ((hW.cell (p := ⟨br, 0, none⟩) (by show br < _; omega)).trans (HR.out.1 0 _ rfl)) ((hW.cell (p := ⟨w.heap.size, 0, none⟩) (by show w.heap.size < _; omega)).trans (HG.out 0 _ rfl)) (Nat.lt_of_lt_of_le (show rb < w2.heap.size by omega) hW.size) (HC.out rb) (HD.out.below hW)))
  go_wp2_with fail
  refine HTR.out.mono ?_
  rintro e w3 ⟨rfl, hd, hb⟩
  have hs3 := hb.size
  have HD := Lib.hid hd
  have HR := Lib.hid (HR.out.bx hb (by omega) (by simp; omega))
  have HO := Lib.hid (HO.out.bx hb (by omega) (by simp; omega))
  have HB := Lib.hid (HB.out.trans (hb.below (C := w.heap.size) (by omega) (by simp; omega)))
  clear hd hb HTR
  have HT := Lib.hid (Own.new_at w3 [.int .u32 x, .int .i64 p, .int .i64 s, .bool g] 24 w3.heap.size rfl)
  have hba := (Below.refl w3.heap.size w3).alloc (Nat.le_refl _) (.cells #[.int .u32 x, .int .i64 p, .int .i64 s, .bool g] 24)
  have HD := Lib.hid (HD.out.below hba)
  have HR := Lib.hid (HR.out.below hba (by omega))
  have HO := Lib.hid (HO.out.below hba (by omega))
  have HB := Lib.hid (HB.out.trans (hba.mono (by omega)))
  have hz3 : w3.heap.size < (w3.alloc (.cells #[.int .u32 x, .int .i64 p, .int .i64 s, .bool g] 24)).heap.size := by simp
  go_upto_region 5 with (fail)
  clear hba
  generalize w3.alloc (.cells #[.int .u32 x, .int .i64 p, .int .i64 s, .bool g] 24) = w4 at *
  generalize w3.heap.size = bt at *
  have y0 := HT.out.1 0 _ rfl
  have y1 := HT.out.1 1 _ rfl
  have y2 := HT.out.1 2 _ rfl
  have y3 := HT.out.1 3 _ rfl
  have z0 := HO.out.1 0 _ rfl
  have z1 := HO.out.1 1 _ rfl
  have z2 := HO.out.1 2 _ rfl
  have z3 := HO.out.1 3 _ rfl
  have hfz := HO.out.2
  have hzW : w.heap.size + 1 < w4.heap.size := by omega
  have kr := HR.out.1 0 _ rfl
  have hw := HWR.out
  go_wp2_with fail
  go_region_with ((go_at_call 19; refine (at_any (HD.out.drewN 1)).mono ?_; rintro e w' ⟨rfl, hw'⟩; subst w'))
  all_goals
    go_wp2
    refine bodyPost_ret (v := .tuple #[.agg #[.int .u32 x, .int .i64 p, .int .i64 s, .bool g], .int .i64 ((at_ : Int) + (q : Int)), .int .i64 0]) (by simp [results, Try.results7, go_sem, z0, z1, z2, z3]) rfl ⟨rfl, ?_⟩
    exact ((((HB.out.drew).setCell (by simp) _).setCell (by simp) _).setCell (by simp) _).setCell (by simp) _
set_option maxHeartbeats 2000000 in
theorem dparse_yesB (ad : Option Addr) (c : Nat) (l : List UInt8) (at_ : Nat) (g : Bool) (w : World) (h : Byt w w.heap.size (.slice ad l.length c) l) (hl : l.length ≤ 100000) (hc : l.length ≤ c) (hat : at_ ≤ l.length) (hmn : at_ + 24 < l.length) (x p s : Int) (q : Nat) (hq : q ≤ 100) (hcall : ∀ (rb : Nat) (w : World), RD w rb ((l.drop at_).take 24) 0 → Calls Try.prog 15 #[.pointer (some ⟨rb, 0, none⟩), .bool g] w fun e w' => e = .returned (.agg #[.int .u32 x, .int .i64 p, .int .i64 s, .bool g]) ∧ RD w' rb ((l.drop at_).take 24) q ∧ Bx [rb] w.heap.size w w') :
    Calls Try.prog 7 #[.slice ad l.length c, .int .i64 (at_ : Nat), .bool g] w fun e w' => e = .returned (.tuple #[.agg #[.int .u32 x, .int .i64 p, .int .i64 s, .bool g], .int .i64 ((at_ : Int) + (q : Int)), .int .i64 0]) ∧ Below w.heap.size w w' := by
  have HWR : Hid (IntKind.i64.wrap ((at_ : Int) + (q : Int)) = (at_ : Int) + q) := Lib.hid (IntWalk.i64_in _ (by omega))
  have t0 : decide ((at_ : Int) < 0) = false := by simp
  have t1 : decide ((l.length : Int) < (at_ : Int)) = false := by simp; omega
  have d1 : decide ((l.length : Int) ≤ (at_ : Int) + 24) = false := by simp; omega
  have d2 : decide ((at_ : Int) + 24 < (l.length : Int)) = true := by simp; omega
  have hsl := fun W => slice_lh (t := 25) (e := 5) (size := 1) rfl size_u8 ad l.length c (at_ : Int) ((at_ : Int) + 24) (by omega) (by omega) (by omega) W
  have hsb := sub_byt h at_ ((at_ + 24) - at_) (by omega)
  rw [Int.toNat_natCast, show (((at_ : Int) + 24)).toNat = (at_ + 24) from by omega] at hsl
  have hm24 : (l.drop at_).take ((at_ + 24) - at_) = (l.drop at_).take 24 := by
    rw [List.take_eq_take_iff, List.length_drop]; omega
  rw [hm24] at hsb
  generalize Value.slice (if c = at_ then ad else ad.map (·.add (at_ * 1))) ((at_ + 24) - at_) (c - at_) = S at *
  have hlm : ((l.drop at_).take 24).length ≤ 24 := List.length_take_le _ _
  generalize (l.drop at_).take 24 = m at *
  have HSB := Lib.hid hsb
  clear hsb h hm24
  have d3 : (at_ : Int) + 24 < (l.length : Int) := by omega
  have hmin : min (l.length : Int) ((at_ : Int) + 24) = ((at_ : Int) + 24) := by omega
  clear hmn
  have HC := Lib.hid hcall
  clear hcall
  have HB := Lib.hid (((Below.refl w.heap.size w).alloc (Nat.le_refl _) (.cells #[.bool g] 4)).alloc (by simp) (.cells #[.int .u32 0, .int .i64 0, .int .i64 0, .bool false] 24))
  have HG := Lib.hid ((Cells.new_at w [.bool g] 4 w.heap.size rfl).below ((Below.refl _ _).alloc (Nat.le_refl _) (.cells #[.int .u32 0, .int .i64 0, .int .i64 0, .bool false] 24)) (by simp))
  have HO := Lib.hid (Own.new_at (w.alloc (.cells #[.bool g] 4)) [.int .u32 0, .int .i64 0, .int .i64 0, .bool false] 24 (w.heap.size + 1) (by simp))
  have hmf : ∀ (fn : Fn) (first cap : Array Value) (w : World), (Instr.makeFunc fn first cap).run Try.prog w = .ok (.func fn first cap) w := fun _ _ _ _ => rfl
  go_enter Try.func7, Try.ntmps7
  go_wp2_with fail
  refine (over_any (HSB.out.below HB.out) (by omega)).mono ?_
  rintro e w1 ⟨rb, rfl, hrb0, hd, hb⟩
  simp only [World.size_alloc] at hrb0
  have hs := hb.size
  simp only [World.size_alloc] at hs
  have hrb1 : rb < w1.heap.size := by obtain ⟨_, _, _, _, _, _, _, h6⟩ := hd; exact h6
  have HD := Lib.hid hd
  have HG := Lib.hid (HG.out.below hb (by simp; omega))
  have HO := Lib.hid (HO.out.below hb (by simp))
  have HB := Lib.hid (HB.out.trans (hb.mono (by simp; omega)))
  clear hd hb
  have HR := Lib.hid (Own.new_at w1 [.pointer (some ⟨rb, 0, none⟩)] 38 w1.heap.size rfl)
  have hba := (Below.refl w1.heap.size w1).alloc (Nat.le_refl _) (.cells #[.pointer (some ⟨rb, 0, none⟩)] 38)
  have HD := Lib.hid (HD.out.below hba)
  have HG := Lib.hid (HG.out.below hba (by omega))
  have HO := Lib.hid (HO.out.below hba (by omega))
  have HB := Lib.hid (HB.out.trans (hba.mono (by omega)))
  have hz1 : w1.heap.size < (w1.alloc (.cells #[.pointer (some ⟨rb, 0, none⟩)] 38)).heap.size := by simp
  go_upto_region 4 with (fail)
  clear hba
  generalize w1.alloc (.cells #[.pointer (some ⟨rb, 0, none⟩)] 38) = w2 at *
  generalize w1.heap.size = br at *
  have HTR := Lib.hid (tryD_ret 18 #[.pointer (some ⟨br, 0, none⟩), .pointer (some ⟨w.heap.size, 0, none⟩)] w2 rb q m x p s g (by omega) (fun W => cf_parse1 _ W) (fun W hW => parse1_ret br w.heap.size rb q m x p s g g W ((hW.cell (p := ⟨br, 0, none⟩) (by show br < _; omega)).trans (HR.out.1 0 _ rfl)) ((hW.cell (p := ⟨w.heap.size, 0, none⟩) (by show w.heap.size < _; omega)).trans (HG.out 0 _ rfl)) (Nat.lt_of_lt_of_le (show rb < w2.heap.size by omega) hW.size) (HC.out rb) (HD.out.below hW)))
  go_wp2_with fail
  refine HTR.out.mono ?_
  rintro e w3 ⟨rfl, hd, hb⟩
  have hs3 := hb.size
  have HD := Lib.hid hd
  have HR := Lib.hid (HR.out.bx hb (by omega) (by simp; omega))
  have HO := Lib.hid (HO.out.bx hb (by omega) (by simp; omega))
  have HB := Lib.hid (HB.out.trans (hb.below (C := w.heap.size) (by omega) (by simp; omega)))
  clear hd hb HTR
  have HT := Lib.hid (Own.new_at w3 [.int .u32 x, .int .i64 p, .int .i64 s, .bool g] 24 w3.heap.size rfl)
  have hba := (Below.refl w3.heap.size w3).alloc (Nat.le_refl _) (.cells #[.int .u32 x, .int .i64 p, .int .i64 s, .bool g] 24)
  have HD := Lib.hid (HD.out.below hba)
  have HR := Lib.hid (HR.out.below hba (by omega))
  have HO := Lib.hid (HO.out.below hba (by omega))
  have HB := Lib.hid (HB.out.trans (hba.mono (by omega)))
  have hz3 : w3.heap.size < (w3.alloc (.cells #[.int .u32 x, .int .i64 p, .int .i64 s, .bool g] 24)).heap.size := by simp
  go_upto_region 5 with (fail)
  clear hba
  generalize w3.alloc (.cells #[.int .u32 x, .int .i64 p, .int .i64 s, .bool g] 24) = w4 at *
  generalize w3.heap.size = bt at *
  have y0 := HT.out.1 0 _ rfl
  have y1 := HT.out.1 1 _ rfl
  have y2 := HT.out.1 2 _ rfl
  have y3 := HT.out.1 3 _ rfl
  have z0 := HO.out.1 0 _ rfl
  have z1 := HO.out.1 1 _ rfl
  have z2 := HO.out.1 2 _ rfl
  have z3 := HO.out.1 3 _ rfl
  have hfz := HO.out.2
  have hzW : w.heap.size + 1 < w4.heap.size := by omega
  have kr := HR.out.1 0 _ rfl
  have hw := HWR.out
  go_wp2_with fail
  go_region_with ((go_at_call 19; refine (at_any (HD.out.drewN 1)).mono ?_; rintro e w' ⟨rfl, hw'⟩; subst w'))
  all_goals
    go_wp2
    refine bodyPost_ret (v := .tuple #[.agg #[.int .u32 x, .int .i64 p, .int .i64 s, .bool g], .int .i64 ((at_ : Int) + (q : Int)), .int .i64 0]) (by simp [results, Try.results7, go_sem, z0, z1, z2, z3]) rfl ⟨rfl, ?_⟩
    exact ((((HB.out.drew).setCell (by simp) _).setCell (by simp) _).setCell (by simp) _).setCell (by simp) _
theorem dparse_fail (ad : Option Addr) (c : Nat) (l : List UInt8) (at_ : Nat) (g : Bool) (w : World) (h : Byt w w.heap.size (.slice ad l.length c) l) (hl : l.length ≤ 100000) (hc : l.length ≤ c) (hat : at_ ≤ l.length) (code : Int) (q : Nat) (hcd : code ≠ 0) (hcall : ∀ (rb : Nat) (w : World), RD w rb ((l.drop at_).take 24) 0 → Calls Try.prog 15 #[.pointer (some ⟨rb, 0, none⟩), .bool g] w fun e w' => e = .panicked (fault code) ∧ RD w' rb ((l.drop at_).take 24) q ∧ Bx [rb] w.heap.size w w') : Calls Try.prog 7 #[.slice ad l.length c, .int .i64 (at_ : Nat), .bool g] w fun e w' => e = .returned (.tuple #[.agg #[.int .u32 0, .int .i64 0, .int .i64 0, .bool false], .int .i64 0, .int .i64 code]) ∧ Below w.heap.size w w' := by
  by_cases hmn : l.length ≤ at_ + 24
  · exact dparse_failA ad c l at_ g w h hl hc hat hmn code q hcd hcall
  · exact dparse_failB ad c l at_ g w h hl hc hat (by omega) code q hcd hcall
theorem dparse_yes (ad : Option Addr) (c : Nat) (l : List UInt8) (at_ : Nat) (g : Bool) (w : World) (h : Byt w w.heap.size (.slice ad l.length c) l) (hl : l.length ≤ 100000) (hc : l.length ≤ c) (hat : at_ ≤ l.length) (x p s : Int) (q : Nat) (hq : q ≤ 100) (hcall : ∀ (rb : Nat) (w : World), RD w rb ((l.drop at_).take 24) 0 → Calls Try.prog 15 #[.pointer (some ⟨rb, 0, none⟩), .bool g] w fun e w' => e = .returned (.agg #[.int .u32 x, .int .i64 p, .int .i64 s, .bool g]) ∧ RD w' rb ((l.drop at_).take 24) q ∧ Bx [rb] w.heap.size w w') : Calls Try.prog 7 #[.slice ad l.length c, .int .i64 (at_ : Nat), .bool g] w fun e w' => e = .returned (.tuple #[.agg #[.int .u32 x, .int .i64 p, .int .i64 s, .bool g], .int .i64 ((at_ : Int) + (q : Int)), .int .i64 0]) ∧ Below w.heap.size w w' := by
  by_cases hmn : l.length ≤ at_ + 24
  · exact dparse_yesA ad c l at_ g w h hl hc hat hmn x p s q hq hcall
  · exact dparse_yesB ad c l at_ g w h hl hc hat (by omega) x p s q hq hcall
end Go.Proofs.Ytodjoccdjmmilaa
