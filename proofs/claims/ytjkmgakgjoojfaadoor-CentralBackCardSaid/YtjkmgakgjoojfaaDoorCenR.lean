/- The law CentralReads: the walk. -/
import Derived.Test.YtjkmgakgjoojfaaDoorCenL
import Derived.Test.YtjkmgakgjoojfaaDoorCenZM
import Derived.Test.YtjkmgakgjoojfaaDoorCenH
namespace Go.Proofs.YtjkmgakgjoojfaaDoor
set_option maxRecDepth 100000
set_option linter.unusedVariables false
set_option linter.unusedSimpArgs false
open Go.RowKit
theorem cf_cread1 (cap : Array Value) (w : World) : (callFunc 16 cap).run Tryd.prog w = .ok (.enter 16 cap) w := by kernel_rfl
set_option maxHeartbeats 2000000 in
theorem cread1_ret (br rb q : Nat) (m : List UInt8) (nm : ByteArray) (y mo da ho mi se me cr pk sz : Int) (gw gl : Bool) (pl : Int) (W : World) (hr : W.cell? ⟨br, 0, none⟩ = some (.pointer (some ⟨rb, 0, none⟩))) (hrb : rb < W.heap.size)
    (hcall : ∀ w : World, RD w rb m 0 → Amb w → Calls Tryd.prog 17 #[.pointer (some ⟨rb, 0, none⟩)] w fun e w' => e = .returned (.agg #[.string nm, .int .i64 y, .int .i64 mo, .int .i64 da, .int .i64 ho, .int .i64 mi, .int .i64 se, .int .i64 me, .int .u32 cr, .int .i64 pk, .int .i64 sz, .bool gw, .bool gl, .int .i64 pl]) ∧ RD w' rb m q ∧ Bx [rb] w.heap.size w w') (hd : RD W rb m 0) (hA : Amb W) :
    Calls Tryd.prog 16 #[.pointer (some ⟨br, 0, none⟩)] W fun e w' => e = .returned (.agg #[.string nm, .int .i64 y, .int .i64 mo, .int .i64 da, .int .i64 ho, .int .i64 mi, .int .i64 se, .int .i64 me, .int .u32 cr, .int .i64 pk, .int .i64 sz, .bool gw, .bool gl, .int .i64 pl]) ∧ RD w' rb m q ∧ Bx [rb] W.heap.size W w' := by
  have HC := Lib.hid hcall
  have HBA := Lib.hid ((Below.refl W.heap.size W).alloc (Nat.le_refl _) (.cells #[.string ByteArray.empty, .int .i64 0, .int .i64 0, .int .i64 0, .int .i64 0, .int .i64 0, .int .i64 0, .int .i64 0, .int .u32 0, .int .i64 0, .int .i64 0, .bool false, .bool false, .int .i64 0] 28))
  have HD := Lib.hid (hd.below HBA.out)
  have HA := Lib.hid (hA.below HBA.out)
  have HO := Lib.hid (Own.new_at W [.string ByteArray.empty, .int .i64 0, .int .i64 0, .int .i64 0, .int .i64 0, .int .i64 0, .int .i64 0, .int .i64 0, .int .u32 0, .int .i64 0, .int .i64 0, .bool false, .bool false, .int .i64 0] 28 W.heap.size rfl)
  have hbr : br < W.heap.size := World.block_lt_of_cell? W ⟨br, 0, none⟩ hr
  clear hcall hd hA
  go_enter Tryd.func16, Tryd.ntmps16
  go_wp2_with fail
  refine (HC.out _ HD.out HA.out).mono ?_
  rintro e w1 ⟨rfl, hd, hb⟩
  have hs := hb.size
  simp only [World.size_alloc] at hs
  have HD := Lib.hid hd
  have HO := Lib.hid (HO.out.bx hb (by simp) (by simp; omega))
  have HB := Lib.hid ((Bx.of_below HBA.out : Bx [rb] W.heap.size W _).trans (hb.mono (by simp)))
  clear hd hb
  have z0 := HO.out.1 0 _ rfl
  have z1 := HO.out.1 1 _ rfl
  have z2 := HO.out.1 2 _ rfl
  have z3 := HO.out.1 3 _ rfl
  have z4 := HO.out.1 4 _ rfl
  have z5 := HO.out.1 5 _ rfl
  have z6 := HO.out.1 6 _ rfl
  have z7 := HO.out.1 7 _ rfl
  have z8 := HO.out.1 8 _ rfl
  have z9 := HO.out.1 9 _ rfl
  have z10 := HO.out.1 10 _ rfl
  have z11 := HO.out.1 11 _ rfl
  have z12 := HO.out.1 12 _ rfl
  have z13 := HO.out.1 13 _ rfl
  have hf := HO.out.2
  go_wp2
  refine bodyPost_ret (v := .agg #[.string nm, .int .i64 y, .int .i64 mo, .int .i64 da, .int .i64 ho, .int .i64 mi, .int .i64 se, .int .i64 me, .int .u32 cr, .int .i64 pk, .int .i64 sz, .bool gw, .bool gl, .int .i64 pl]) (by simp [results, Tryd.results16, go_sem, z0, z1, z2, z3, z4, z5, z6, z7, z8, z9, z10, z11, z12, z13] <;> rfl) rfl ⟨rfl, ?_, ?_⟩
  · exact ((((((((((((((HD.out.set_other (b := W.heap.size) hrb 0 _).set_other (b := W.heap.size) hrb 1 _).set_other (b := W.heap.size) hrb 2 _).set_other (b := W.heap.size) hrb 3 _).set_other (b := W.heap.size) hrb 4 _).set_other (b := W.heap.size) hrb 5 _).set_other (b := W.heap.size) hrb 6 _).set_other (b := W.heap.size) hrb 7 _).set_other (b := W.heap.size) hrb 8 _).set_other (b := W.heap.size) hrb 9 _).set_other (b := W.heap.size) hrb 10 _).set_other (b := W.heap.size) hrb 11 _).set_other (b := W.heap.size) hrb 12 _).set_other (b := W.heap.size) hrb 13 _)
  · exact ((((((((((((((HB.out.setCell (.inr (by simp)) _).setCell (.inr (by simp)) _).setCell (.inr (by simp)) _).setCell (.inr (by simp)) _).setCell (.inr (by simp)) _).setCell (.inr (by simp)) _).setCell (.inr (by simp)) _).setCell (.inr (by simp)) _).setCell (.inr (by simp)) _).setCell (.inr (by simp)) _).setCell (.inr (by simp)) _).setCell (.inr (by simp)) _).setCell (.inr (by simp)) _).setCell (.inr (by simp)) _)
theorem cread1_throw (br rb : Nat) (m : List UInt8) (W : World) (hr : W.cell? ⟨br, 0, none⟩ = some (.pointer (some ⟨rb, 0, none⟩)))
    (hcall : ∀ w : World, RD w rb m 0 → Amb w → Calls Tryd.prog 17 #[.pointer (some ⟨rb, 0, none⟩)] w fun e w' => ∃ c q, c ≠ 0 ∧ e = .panicked (fault c) ∧ RD w' rb m q ∧ Bx [rb] w.heap.size w w') (hd : RD W rb m 0) (hA : Amb W) :
    Calls Tryd.prog 16 #[.pointer (some ⟨br, 0, none⟩)] W fun e w' => ∃ c q, c ≠ 0 ∧ e = .panicked (fault c) ∧ RD w' rb m q ∧ Bx [rb] W.heap.size W w' := by
  have HC := Lib.hid hcall
  have HBA := Lib.hid ((Below.refl W.heap.size W).alloc (Nat.le_refl _) (.cells #[.string ByteArray.empty, .int .i64 0, .int .i64 0, .int .i64 0, .int .i64 0, .int .i64 0, .int .i64 0, .int .i64 0, .int .u32 0, .int .i64 0, .int .i64 0, .bool false, .bool false, .int .i64 0] 28))
  have HD := Lib.hid (hd.below HBA.out)
  have HA := Lib.hid (hA.below HBA.out)
  have hbr : br < W.heap.size := World.block_lt_of_cell? W ⟨br, 0, none⟩ hr
  clear hcall hd hA
  go_enter Tryd.func16, Tryd.ntmps16
  go_wp2_with fail
  refine (HC.out _ HD.out HA.out).mono ?_
  rintro e w1 ⟨c, q, hc, rfl, hd, hb⟩
  have HD := Lib.hid hd
  have HB := Lib.hid ((Bx.of_below HBA.out : Bx [rb] W.heap.size W _).trans (hb.mono (by simp)))
  clear hd hb
  go_wp2
  exact ⟨rfl, c, q, hc, rfl, HD.out, HB.out⟩
theorem cparse_yes' (ad : Option Addr) (c : Nat) (l : List UInt8) (at_ : Nat) (w : World) (h : Byt w w.heap.size (.slice ad l.length c) l) (hl : l.length ≤ 100000) (hc : l.length ≤ c) (hA : Amb w) (hat : at_ ≤ l.length) (ha : ACD (l.drop at_)) : Calls Tryd.prog 12 #[.slice ad l.length c, .int .i64 (at_ : Nat)] w fun e w' => e = .returned (.tuple #[hdrC (l.drop at_), .int .i64 ((at_ : Int) + (endC (l.drop at_) : Nat)), .int .i64 0]) ∧ Below w.heap.size w w' := by
  refine (cparse_any ad c l at_ w h hl hc hA hat).mono fun e w' hq => ?_
  obtain ⟨e1, e2⟩ := hdrC_take ha
  rcases hq with ⟨_, h1, h2⟩ | ⟨h0, _⟩
  · rw [e1, e2] at h1; exact ⟨h1, h2⟩
  · exact absurd ((acd_take _).2 ha) h0
theorem cparse_no' (ad : Option Addr) (c : Nat) (l : List UInt8) (at_ : Nat) (w : World) (h : Byt w w.heap.size (.slice ad l.length c) l) (hl : l.length ≤ 100000) (hc : l.length ≤ c) (hA : Amb w) (hat : at_ ≤ l.length) (ha : ¬ ACD (l.drop at_)) : Calls Tryd.prog 12 #[.slice ad l.length c, .int .i64 (at_ : Nat)] w fun e w' => ∃ k : Int, k ≠ 0 ∧ e = .returned (.tuple #[.agg #[.string ByteArray.empty, .int .i64 0, .int .i64 0, .int .i64 0, .int .i64 0, .int .i64 0, .int .i64 0, .int .i64 0, .int .u32 0, .int .i64 0, .int .i64 0, .bool false, .bool false, .int .i64 0], .int .i64 0, .int .i64 k]) ∧ Below w.heap.size w w' := by
  refine (cparse_any ad c l at_ w h hl hc hA hat).mono fun e w' hq => ?_
  rcases hq with ⟨h0, _⟩ | ⟨_, h1⟩
  · exact absurd ((acd_take _).1 h0) ha
  · exact h1
theorem cr_long (ad : Option Addr) (c : Nat) (l : List UInt8) (at_ : Int) (w : World) (_h : Byt w w.heap.size (.slice ad l.length c) l) (hm : l.length ≤ 9223372036854775807) (hl : 1000 < l.length) (_hc : l.length ≤ c) (hA : Amb w) : Calls Tryd.prog 4 #[.slice ad l.length c, .int .i64 at_] w (CQ (.bool true) w) := by
  have t0 : decide (1000 < (l.length : Int)) = true := by simp; omega
  have HA := Lib.hid (fun W => awakeC_any W)
  have HA2 := Lib.hid hA
  clear hl hA
  go_enter Tryd.func4, Tryd.ntmps4
  go_wp2_with (fail)
  refine (HA.out _ HA2.out).mono ?_
  rintro e w1 ⟨rfl, hb⟩
  have HB := Lib.hid hb
  clear hb
  go_wp2_with (fail)
  go_ret
  exact ⟨rfl, HB.out⟩
theorem cr_range (ad : Option Addr) (c : Nat) (l : List UInt8) (at_ : Int) (w : World) (h : Byt w w.heap.size (.slice ad l.length c) l) (hl : l.length ≤ 1000) (hc : l.length ≤ c) (hA : Amb w) (hat : at_ < 0 ∨ (l.length : Int) < at_) : Calls Tryd.prog 4 #[.slice ad l.length c, .int .i64 at_] w (CQ (.bool true) w) := by
  have t0 : decide (1000 < (l.length : Int)) = false := by simp; omega
  have HA := Lib.hid (awakeC_any w hA)
  have HPA := Lib.hid (fun (W : World) (hB : Below w.heap.size w W) => cparse_range ad c l at_ W ((h.below hB).mono hB.size) (by omega) hc hat)
  have h2 : decide (at_ < 0) = true ∨ (decide (at_ < 0) = false ∧ decide ((l.length : Int) < at_) = true) := by
    by_cases h0 : at_ < 0
    · left; simpa using h0
    · right; simp; omega
  clear h hl hA hat
  rcases h2 with t1 | ⟨t1, t2⟩
  all_goals
    go_enter Tryd.func4, Tryd.ntmps4
    go_wp2_with (fail)
    refine HA.out.mono ?_
    rintro e w1 ⟨rfl, hb⟩
    have HB := Lib.hid hb
    have hz1 := hb.size
    clear hb
    go_wp2_with (fail)
    refine (HPA.out _ HB.out).mono ?_
    rintro e w2 ⟨rfl, hb⟩
    have HB := Lib.hid (HB.out.trans (hb.mono hz1))
    have hz2 := hb.size
    clear hb
    have HT := Lib.hid (Own.new_at w2 [.string ByteArray.empty, .int .i64 0, .int .i64 0, .int .i64 0, .int .i64 0, .int .i64 0, .int .i64 0, .int .i64 0, .int .u32 0, .int .i64 0, .int .i64 0, .bool false, .bool false, .int .i64 0] 28 w2.heap.size rfl)
    have hba := (Below.refl w2.heap.size w2).alloc (Nat.le_refl _) (.cells #[.string ByteArray.empty, .int .i64 0, .int .i64 0, .int .i64 0, .int .i64 0, .int .i64 0, .int .i64 0, .int .i64 0, .int .u32 0, .int .i64 0, .int .i64 0, .bool false, .bool false, .int .i64 0] 28)
    have HB := Lib.hid (HB.out.trans (hba.mono (by omega)))
    go_upto_region 6 with (fail)
    clear hba
    generalize w2.alloc (.cells #[.string ByteArray.empty, .int .i64 0, .int .i64 0, .int .i64 0, .int .i64 0, .int .i64 0, .int .i64 0, .int .i64 0, .int .u32 0, .int .i64 0, .int .i64 0, .bool false, .bool false, .int .i64 0] 28) = w3 at *
    generalize w2.heap.size = b5 at *
    have y0 := HT.out.1 0 _ rfl
    have y1 := HT.out.1 1 _ rfl
    have y2 := HT.out.1 2 _ rfl
    have y3 := HT.out.1 3 _ rfl
    have y4 := HT.out.1 4 _ rfl
    have y5 := HT.out.1 5 _ rfl
    have y6 := HT.out.1 6 _ rfl
    have y7 := HT.out.1 7 _ rfl
    have y8 := HT.out.1 8 _ rfl
    have y9 := HT.out.1 9 _ rfl
    have y10 := HT.out.1 10 _ rfl
    have y11 := HT.out.1 11 _ rfl
    have y12 := HT.out.1 12 _ rfl
    have y13 := HT.out.1 13 _ rfl
    go_wp2_with (fail)
    go_ret
    exact ⟨rfl, HB.out⟩
set_option maxHeartbeats 8000000 in
set_option maxRecDepth 100000 in
theorem cr_yes (ad : Option Addr) (c : Nat) (l : List UInt8) (at_ : Nat) (w : World) (h : Byt w w.heap.size (.slice ad l.length c) l) (hl : l.length ≤ 1000) (hc : l.length ≤ c) (hA : Amb w) (hat : at_ ≤ l.length) (ha : ACD (l.drop at_)) : Calls Tryd.prog 4 #[.slice ad l.length c, .int .i64 (at_ : Nat)] w (CQ (.bool true) w) := by
  have t0 : decide (1000 < (l.length : Int)) = false := by simp; omega
  have t1 : decide ((at_ : Int) < 0) = false := by simp
  have t2 : decide ((l.length : Int) < (at_ : Int)) = false := by simp; omega
  have HAW := Lib.hid (awakeC_any w hA)
  have hA3 := hA.1
  have HA := Lib.hid hA
  obtain ⟨a1, c1, hsl, hc1, hby⟩ := cut_end h hc at_ hat
  rw [← List.length_drop] at hsl hc1 hby
  have hml : (l.drop at_).length ≤ 1000 := by rw [List.length_drop]; omega
  have HPA := Lib.hid (fun (W : World) (hB : Below w.heap.size w W) => cparse_yes' ad c l at_ W ((h.below hB).mono hB.size) (by omega) hc (hA.below hB) hat ha)
  have HPG := Lib.hid (fun (W : World) (hB : Below w.heap.size w W) => rparseC_yes' a1 c1 (l.drop at_) W ((hby.below hB).mono hB.size) (by omega) hc1 ha)
  have HRD := Lib.hid (fun (rb : Nat) (W : World) (h3 : 3 ≤ rb) (hd : RD W rb (l.drop at_) 0) (hA : Amb W) => readC_yes' rb (l.drop at_) W hd hA h3 ha)
  have hq30 : 46 ≤ endC (l.drop at_) := by unfold endC; omega
  have hqw : endC (l.drop at_) ≤ 1000 := Nat.le_trans (acd_end ha) (by omega)
  have HY := Lib.hid hby
  clear h hby hA ha
  generalize l.drop at_ = m at *
  obtain ⟨nm, y, mo, da, ho, mi, se, me, cr, pk, sz, gw, gl, pl, hH⟩ : ∃ (nm : ByteArray) (y mo da ho mi se me cr pk sz : Int) (gw gl : Bool) (pl : Int), hdrC m = .agg #[.string nm, .int .i64 y, .int .i64 mo, .int .i64 da, .int .i64 ho, .int .i64 mi, .int .i64 se, .int .i64 me, .int .u32 cr, .int .i64 pk, .int .i64 sz, .bool gw, .bool gl, .int .i64 pl] ∧ hdr29 m = .agg #[.string nm, .int .i64 y, .int .i64 mo, .int .i64 da, .int .i64 ho, .int .i64 mi, .int .i64 se, .int .i64 me, .int .u32 cr, .int .i64 pk, .int .i64 sz, .bool gw, .bool gl] ∧ plC m = pl := ⟨_, _, _, _, _, _, _, _, _, _, _, _, _, _, rfl, rfl, rfl⟩
  rw [hH.1] at HPA HRD
  rw [hH.2.1, hH.2.2] at HPG
  clear hH
  generalize endC m = q at *
  have qq : ((q : Int) == 0) = false := by simp; omega
  have QW : Hid (IntKind.i64.wrap ((at_ : Int) + (q : Int)) = (at_ : Int) + q) := Lib.hid (IntWalk.i64_in _ (by omega))
  have hmf : ∀ (fn : Fn) (first cap : Array Value) (w : World), (Instr.makeFunc fn first cap).run Tryd.prog w = .ok (.func fn first cap) w := fun _ _ _ _ => rfl
  go_enter Tryd.func4, Tryd.ntmps4
  go_wp2_with (fail)
  refine HAW.out.mono ?_
  rintro e w1 ⟨rfl, hb⟩
  have HB := Lib.hid hb
  have hz1 := hb.size
  clear hb
  go_wp2_with (fail)
  refine (HPA.out _ HB.out).mono ?_
  rintro e w2 ⟨rfl, hb⟩
  have HB := Lib.hid (HB.out.trans (hb.mono hz1))
  have hz2 := hb.size
  clear hb
  have HT5 := Lib.hid (Own.new_at w2 [.string nm, .int .i64 y, .int .i64 mo, .int .i64 da, .int .i64 ho, .int .i64 mi, .int .i64 se, .int .i64 me, .int .u32 cr, .int .i64 pk, .int .i64 sz, .bool gw, .bool gl, .int .i64 pl] 28 w2.heap.size rfl)
  have hba := (Below.refl w2.heap.size w2).alloc (Nat.le_refl _) (.cells #[.string nm, .int .i64 y, .int .i64 mo, .int .i64 da, .int .i64 ho, .int .i64 mi, .int .i64 se, .int .i64 me, .int .u32 cr, .int .i64 pk, .int .i64 sz, .bool gw, .bool gl, .int .i64 pl] 28)
  have HB := Lib.hid (HB.out.trans (hba.mono (by omega)))
  have hz_w3 : w2.heap.size < (w2.alloc (.cells #[.string nm, .int .i64 y, .int .i64 mo, .int .i64 da, .int .i64 ho, .int .i64 mi, .int .i64 se, .int .i64 me, .int .u32 cr, .int .i64 pk, .int .i64 sz, .bool gw, .bool gl, .int .i64 pl] 28)).heap.size := by simp
  go_upto_region 6 with (fail)
  clear hba 
  generalize w2.alloc (.cells #[.string nm, .int .i64 y, .int .i64 mo, .int .i64 da, .int .i64 ho, .int .i64 mi, .int .i64 se, .int .i64 me, .int .u32 cr, .int .i64 pk, .int .i64 sz, .bool gw, .bool gl, .int .i64 pl] 28) = w3 at *
  generalize w2.heap.size = b5 at *
  go_wp2_with (fail)
  refine (HPG.out _ HB.out).mono ?_
  rintro e w4 ⟨rfl, hb⟩
  have HB := Lib.hid (HB.out.trans (hb.mono (by omega)))
  have HT5 := Lib.hid (HT5.out.below hb (by omega))
  have hz4 := hb.size
  clear hb
  have HT8 := Lib.hid (Own.new_at w4 [.string nm, .int .i64 y, .int .i64 mo, .int .i64 da, .int .i64 ho, .int .i64 mi, .int .i64 se, .int .i64 me, .int .u32 cr, .int .i64 pk, .int .i64 sz, .bool gw, .bool gl] 30 w4.heap.size rfl)
  have hba := (Below.refl w4.heap.size w4).alloc (Nat.le_refl _) (.cells #[.string nm, .int .i64 y, .int .i64 mo, .int .i64 da, .int .i64 ho, .int .i64 mi, .int .i64 se, .int .i64 me, .int .u32 cr, .int .i64 pk, .int .i64 sz, .bool gw, .bool gl] 30)
  have HT5 := Lib.hid (HT5.out.below hba (by omega))
  have HB := Lib.hid (HB.out.trans (hba.mono (by omega)))
  have hz_w5 : w4.heap.size < (w4.alloc (.cells #[.string nm, .int .i64 y, .int .i64 mo, .int .i64 da, .int .i64 ho, .int .i64 mi, .int .i64 se, .int .i64 me, .int .u32 cr, .int .i64 pk, .int .i64 sz, .bool gw, .bool gl] 30)).heap.size := by simp
  go_upto_region 9 with (fail)
  clear hba 
  generalize w4.alloc (.cells #[.string nm, .int .i64 y, .int .i64 mo, .int .i64 da, .int .i64 ho, .int .i64 mi, .int .i64 se, .int .i64 me, .int .u32 cr, .int .i64 pk, .int .i64 sz, .bool gw, .bool gl] 30) = w5 at *
  generalize w4.heap.size = b8 at *
  go_wp2_with (fail)
  refine (over_any (HY.out.below HB.out) (by omega)).mono ?_
  rintro e w6 ⟨rb, rfl, hrb0, hd, hb⟩
  have hz6 := hb.size
  have hrb1 : rb < w6.heap.size := by obtain ⟨_, _, _, _, _, _, _, h6⟩ := hd; exact h6
  have HD := Lib.hid hd
  have HB := Lib.hid (HB.out.trans (hb.mono (by omega)))
  have HT5 := Lib.hid (HT5.out.below hb (by omega))
  have HT8 := Lib.hid (HT8.out.below hb (by omega))
  clear hb hd
  have HD := Lib.hid (HD.out.below ((Below.refl w6.heap.size w6).alloc (Nat.le_refl _) (.cells #[.pointer (some ⟨rb, 0, none⟩)] 44)))
  have HR := Lib.hid (Own.new_at w6 [.pointer (some ⟨rb, 0, none⟩)] 44 w6.heap.size rfl)
  have hba := (Below.refl w6.heap.size w6).alloc (Nat.le_refl _) (.cells #[.pointer (some ⟨rb, 0, none⟩)] 44)
  have HT5 := Lib.hid (HT5.out.below hba (by omega))
  have HT8 := Lib.hid (HT8.out.below hba (by omega))
  have HB := Lib.hid (HB.out.trans (hba.mono (by omega)))
  have hz_w7 : w6.heap.size < (w6.alloc (.cells #[.pointer (some ⟨rb, 0, none⟩)] 44)).heap.size := by simp
  go_upto_region 10 with (fail)
  clear hba hsl
  generalize w6.alloc (.cells #[.pointer (some ⟨rb, 0, none⟩)] 44) = w7 at *
  generalize w6.heap.size = br at *
  have hrb2 : rb < w7.heap.size := by omega
  have hrw : w.heap.size ≤ rb := by omega
  have HTR := Lib.hid (tryC_ret 16 #[.pointer (some ⟨br, 0, none⟩)] w7 rb q m nm y mo da ho mi se me cr pk sz gw gl pl hrb2 (fun W => cf_cread1 _ W) (fun W hW => cread1_ret br rb q m nm y mo da ho mi se me cr pk sz gw gl pl W ((hW.cell (p := ⟨br, 0, none⟩) (by show br < _; omega)).trans (HR.out.1 0 _ rfl)) (Nat.lt_of_lt_of_le hrb2 hW.size) (fun w' h1 h2 => HRD.out rb w' (by omega) h1 h2) (HD.out.below hW) (HA.out.below (HB.out.trans (hW.mono (by omega))))))
  go_wp2_with fail
  refine HTR.out.mono ?_
  rintro e w8 ⟨rfl, hd, hb⟩
  have hz8 := hb.size
  have HD := Lib.hid hd
  have HR := Lib.hid (HR.out.bx hb (by omega) (by simp; omega))
  have HT5 := Lib.hid (HT5.out.bx hb (by omega) (by simp; omega))
  have HT8 := Lib.hid (HT8.out.bx hb (by omega) (by simp; omega))
  have HB := Lib.hid (HB.out.trans (hb.below (C := w.heap.size) (by omega) (by simp; omega)))
  clear hd hb HTR
  have HD := Lib.hid (HD.out.below ((Below.refl w8.heap.size w8).alloc (Nat.le_refl _) (.cells #[.string nm, .int .i64 y, .int .i64 mo, .int .i64 da, .int .i64 ho, .int .i64 mi, .int .i64 se, .int .i64 me, .int .u32 cr, .int .i64 pk, .int .i64 sz, .bool gw, .bool gl, .int .i64 pl] 28)))
  have HT12 := Lib.hid (Own.new_at w8 [.string nm, .int .i64 y, .int .i64 mo, .int .i64 da, .int .i64 ho, .int .i64 mi, .int .i64 se, .int .i64 me, .int .u32 cr, .int .i64 pk, .int .i64 sz, .bool gw, .bool gl, .int .i64 pl] 28 w8.heap.size rfl)
  have hba := (Below.refl w8.heap.size w8).alloc (Nat.le_refl _) (.cells #[.string nm, .int .i64 y, .int .i64 mo, .int .i64 da, .int .i64 ho, .int .i64 mi, .int .i64 se, .int .i64 me, .int .u32 cr, .int .i64 pk, .int .i64 sz, .bool gw, .bool gl, .int .i64 pl] 28)
  have HT5 := Lib.hid (HT5.out.below hba (by omega))
  have HT8 := Lib.hid (HT8.out.below hba (by omega))
  have HR := Lib.hid (HR.out.below hba (by omega))
  have HB := Lib.hid (HB.out.trans (hba.mono (by omega)))
  have hz_w9 : w8.heap.size < (w8.alloc (.cells #[.string nm, .int .i64 y, .int .i64 mo, .int .i64 da, .int .i64 ho, .int .i64 mi, .int .i64 se, .int .i64 me, .int .u32 cr, .int .i64 pk, .int .i64 sz, .bool gw, .bool gl, .int .i64 pl] 28)).heap.size := by simp
  go_upto_region 11 with (fail)
  clear hba 
  generalize w8.alloc (.cells #[.string nm, .int .i64 y, .int .i64 mo, .int .i64 da, .int .i64 ho, .int .i64 mi, .int .i64 se, .int .i64 me, .int .u32 cr, .int .i64 pk, .int .i64 sz, .bool gw, .bool gl, .int .i64 pl] 28) = w9 at *
  generalize w8.heap.size = b12 at *
  go_wp2_with (fail)
  refine Mono.region_below (by kernel_rfl) (by kernel_rfl) (by kernel_rfl) ?_
  refine Mono.rgl_val (v := ?v0) rfl Mono.rr (fun ρ a W hR hd hf => ?h0) ?_
  case h0 =>
    have e7 := Mono.init_get hf (t := 7) (by kernel_rfl)
    clear hd hf
    (go_simp; try with_reducible rfl)
  refine Mono.rgl_val (v := ?v1) rfl Mono.rr (fun ρ a W hR hd hf => ?h1) ?_
  case h1 =>
    have e79 := Mono.dep_val hd hf (t := 79) (k := 0) (by kernel_rfl) rfl
    clear hd hf
    (go_simp; try with_reducible rfl)
  refine Mono.rgl_val (v := ?v2) rfl Mono.rr (fun ρ a W hR hd hf => ?h2) ?_
  case h2 =>
    have e80 := Mono.dep_val hd hf (t := 80) (k := 1) (by kernel_rfl) rfl
    clear hd hf
    (go_simp; try with_reducible rfl)
  refine Mono.rgl_valg (v := ?v3) rfl Mono.rr (fun ρ W hd => Mono.guard_val hd (t := 81) (k := 2) (by kernel_rfl) rfl) (fun ρ a W hR hd hf => ?h3) ?_
  case h3 =>
    have e6 := Mono.init_get hf (t := 6) (by kernel_rfl)
    clear hd hf
    (go_simp; try with_reducible rfl)
  refine Mono.rgl_valg (v := ?v4) rfl Mono.rr (fun ρ W hd => Mono.guard_val hd (t := 81) (k := 2) (by kernel_rfl) rfl) (fun ρ a W hR hd hf => ?h4) ?_
  case h4 =>
    have e1 := Mono.init_get hf (t := 1) (by kernel_rfl)
    clear hd hf
    (go_simp; try with_reducible rfl)
  refine Mono.rgl_valg (v := ?v5) rfl Mono.rr (fun ρ W hd => Mono.guard_val hd (t := 81) (k := 2) (by kernel_rfl) rfl) (fun ρ a W hR hd hf => ?h5) ?_
  case h5 =>
    have e10 := Mono.init_get hf (t := 10) (by kernel_rfl)
    clear hd hf
    (go_simp; try with_reducible rfl)
  refine Mono.rgl_valg (v := ?v6) rfl Mono.rr (fun ρ W hd => Mono.guard_val hd (t := 81) (k := 2) (by kernel_rfl) rfl) (fun ρ a W hR hd hf => ?h6) ?_
  case h6 =>
    have e83 := Mono.dep_val hd hf (t := 83) (k := 4) (by kernel_rfl) rfl
    have e84 := Mono.dep_val hd hf (t := 84) (k := 5) (by kernel_rfl) rfl
    have hq := QW.out
    clear hd hf
    (go_simp; try with_reducible rfl)
  refine Mono.rgl_valg (v := ?v7) rfl Mono.rr (fun ρ W hd => Mono.guard_val hd (t := 81) (k := 2) (by kernel_rfl) rfl) (fun ρ a W hR hd hf => ?h7) ?_
  case h7 =>
    have e82 := Mono.dep_val hd hf (t := 82) (k := 3) (by kernel_rfl) rfl
    have e85 := Mono.dep_val hd hf (t := 85) (k := 6) (by kernel_rfl) rfl
    clear hd hf
    (go_simp; try with_reducible rfl)
  refine Mono.rgl_val (v := ?v8) rfl Mono.rr (fun ρ a W hR hd hf => ?h8) ?_
  case h8 =>
    have e81 := Mono.dep_val hd hf (t := 81) (k := 2) (by kernel_rfl) rfl
    have e86 := Mono.dep_val hd hf (t := 86) (k := 7) (by kernel_rfl) rfl
    clear hd hf
    (go_simp; try with_reducible rfl)
  refine Mono.rgl_val (v := ?v9) rfl Mono.rr (fun ρ a W hR hd hf => ?h9) ?_
  case h9 =>
    have e87 := Mono.dep_val hd hf (t := 87) (k := 8) (by kernel_rfl) rfl
    clear hd hf
    (go_simp; try with_reducible rfl)
  refine Mono.rgl_valg (v := ?v10) rfl Mono.rr (fun ρ W hd => Mono.guard_val hd (t := 88) (k := 9) (by kernel_rfl) rfl) (fun ρ a W hR hd hf => ?h10) ?_
  case h10 =>
    have e5 := Mono.init_get hf (t := 5) (by kernel_rfl)
    clear hd hf
    (go_simp; try with_reducible rfl)
  refine Mono.rgl_valg (v := ?v11) rfl Mono.rr (fun ρ W hd => Mono.guard_val hd (t := 88) (k := 9) (by kernel_rfl) rfl) (fun ρ a W hR hd hf => ?h11) ?_
  case h11 =>
    have e89 := Mono.dep_val hd hf (t := 89) (k := 10) (by kernel_rfl) rfl
    have hk0 := (HT5.out.below hR (by omega)).1 0 _ rfl
    have hk1 := (HT5.out.below hR (by omega)).1 1 _ rfl
    have hk2 := (HT5.out.below hR (by omega)).1 2 _ rfl
    have hk3 := (HT5.out.below hR (by omega)).1 3 _ rfl
    have hk4 := (HT5.out.below hR (by omega)).1 4 _ rfl
    have hk5 := (HT5.out.below hR (by omega)).1 5 _ rfl
    have hk6 := (HT5.out.below hR (by omega)).1 6 _ rfl
    have hk7 := (HT5.out.below hR (by omega)).1 7 _ rfl
    have hk8 := (HT5.out.below hR (by omega)).1 8 _ rfl
    have hk9 := (HT5.out.below hR (by omega)).1 9 _ rfl
    have hk10 := (HT5.out.below hR (by omega)).1 10 _ rfl
    have hk11 := (HT5.out.below hR (by omega)).1 11 _ rfl
    have hk12 := (HT5.out.below hR (by omega)).1 12 _ rfl
    clear hd hf
    (go_simp; try with_reducible rfl)
  refine Mono.rgl_callg (fun x _ => x = .agg #[.string nm, .int .i64 y, .int .i64 mo, .int .i64 da, .int .i64 ho, .int .i64 mi, .int .i64 se, .int .i64 me, .int .u32 cr, .int .i64 pk, .int .i64 sz, .bool gw, .bool gl]) rfl Mono.rr (fun _ _ _ h _ => h) (fun ρ W hd => Mono.guard_val hd (t := 88) (k := 9) (by kernel_rfl) rfl) (fun ρ a W hR hd hf => ?h12) ?_
  case h12 =>
    have e90 := Mono.dep_val hd hf (t := 90) (k := 11) (by kernel_rfl) rfl
    clear hd hf
    refine ⟨_, _, by go_simp; first | rfl | exact ⟨rfl, rfl⟩, ?_⟩
    exact (ref_any nm y mo da ho mi se me cr pk sz gw gl W).mono (fun e W' ⟨he, hb⟩ => ⟨_, he, hb, rfl⟩)
  refine Mono.rgl_valg (v := ?v13) rfl Mono.rr (fun ρ W hd => Mono.guard_val hd (t := 88) (k := 9) (by kernel_rfl) rfl) (fun ρ a W hR hd hf => ?h13) ?_
  case h13 =>
    have e8 := Mono.init_get hf (t := 8) (by kernel_rfl)
    have hk0 := (HT8.out.below hR (by omega)).1 0 _ rfl
    have hk1 := (HT8.out.below hR (by omega)).1 1 _ rfl
    have hk2 := (HT8.out.below hR (by omega)).1 2 _ rfl
    have hk3 := (HT8.out.below hR (by omega)).1 3 _ rfl
    have hk4 := (HT8.out.below hR (by omega)).1 4 _ rfl
    have hk5 := (HT8.out.below hR (by omega)).1 5 _ rfl
    have hk6 := (HT8.out.below hR (by omega)).1 6 _ rfl
    have hk7 := (HT8.out.below hR (by omega)).1 7 _ rfl
    have hk8 := (HT8.out.below hR (by omega)).1 8 _ rfl
    have hk9 := (HT8.out.below hR (by omega)).1 9 _ rfl
    have hk10 := (HT8.out.below hR (by omega)).1 10 _ rfl
    have hk11 := (HT8.out.below hR (by omega)).1 11 _ rfl
    have hk12 := (HT8.out.below hR (by omega)).1 12 _ rfl
    clear hd hf
    (go_simp; try with_reducible rfl)
  refine Mono.rgl_valg (v := ?v14) rfl Mono.rr (fun ρ W hd => Mono.guard_val hd (t := 88) (k := 9) (by kernel_rfl) rfl) (fun ρ a W hR hd hf => ?h14) ?_
  case h14 =>
    have e91 := Mono.dep_val hd hf (t := 91) (k := 12) (by kernel_rfl) rfl
    have e92 := Mono.dep_val hd hf (t := 92) (k := 13) (by kernel_rfl) rfl
    clear hd hf
    (go_simp; try with_reducible rfl)
  refine Mono.rgl_val (v := ?v15) rfl Mono.rr (fun ρ a W hR hd hf => ?h15) ?_
  case h15 =>
    have e88 := Mono.dep_val hd hf (t := 88) (k := 9) (by kernel_rfl) rfl
    have e93 := Mono.dep_val hd hf (t := 93) (k := 14) (by kernel_rfl) rfl
    clear hd hf
    (go_simp; try with_reducible rfl)
  refine Mono.rgl_val (v := ?v16) rfl Mono.rr (fun ρ a W hR hd hf => ?h16) ?_
  case h16 =>
    have e94 := Mono.dep_val hd hf (t := 94) (k := 15) (by kernel_rfl) rfl
    clear hd hf
    (go_simp; try with_reducible rfl)
  refine Mono.rgl_valg (v := ?v17) rfl Mono.rr (fun ρ W hd => Mono.guard_val hd (t := 95) (k := 16) (by kernel_rfl) rfl) (fun ρ a W hR hd hf => ?h17) ?_
  case h17 =>
    have e5 := Mono.init_get hf (t := 5) (by kernel_rfl)
    clear hd hf
    (go_simp; try with_reducible rfl)
  refine Mono.rgl_valg (v := ?v18) rfl Mono.rr (fun ρ W hd => Mono.guard_val hd (t := 95) (k := 16) (by kernel_rfl) rfl) (fun ρ a W hR hd hf => ?h18) ?_
  case h18 =>
    have e96 := Mono.dep_val hd hf (t := 96) (k := 17) (by kernel_rfl) rfl
    have hk := (HT5.out.below hR (by omega)).1 13 _ rfl
    clear hd hf
    (go_simp; try with_reducible rfl)
  refine Mono.rgl_valg (v := ?v19) rfl Mono.rr (fun ρ W hd => Mono.guard_val hd (t := 95) (k := 16) (by kernel_rfl) rfl) (fun ρ a W hR hd hf => ?h19) ?_
  case h19 =>
    have e9 := Mono.init_get hf (t := 9) (by kernel_rfl)
    clear hd hf
    (go_simp; try with_reducible rfl)
  refine Mono.rgl_valg (v := ?v20) rfl Mono.rr (fun ρ W hd => Mono.guard_val hd (t := 95) (k := 16) (by kernel_rfl) rfl) (fun ρ a W hR hd hf => ?h20) ?_
  case h20 =>
    have e97 := Mono.dep_val hd hf (t := 97) (k := 18) (by kernel_rfl) rfl
    have e98 := Mono.dep_val hd hf (t := 98) (k := 19) (by kernel_rfl) rfl
    clear hd hf
    (go_simp; try with_reducible rfl)
  refine Mono.rgl_val (v := ?v21) rfl Mono.rr (fun ρ a W hR hd hf => ?h21) ?_
  case h21 =>
    have e95 := Mono.dep_val hd hf (t := 95) (k := 16) (by kernel_rfl) rfl
    have e99 := Mono.dep_val hd hf (t := 99) (k := 20) (by kernel_rfl) rfl
    clear hd hf
    (go_simp; try with_reducible rfl)
  refine Mono.rgl_val (v := ?v22) rfl Mono.rr (fun ρ a W hR hd hf => ?h22) ?_
  case h22 =>
    have e100 := Mono.dep_val hd hf (t := 100) (k := 21) (by kernel_rfl) rfl
    clear hd hf
    (go_simp; try with_reducible rfl)
  refine Mono.rgl_valg (v := ?v23) rfl Mono.rr (fun ρ W hd => Mono.guard_val hd (t := 101) (k := 22) (by kernel_rfl) rfl) (fun ρ a W hR hd hf => ?h23) ?_
  case h23 =>
    have e13 := Mono.init_get hf (t := 13) (by kernel_rfl)
    clear hd hf
    (go_simp; try with_reducible rfl)
  refine Mono.rgl_valg (v := ?v24) rfl Mono.rr (fun ρ W hd => Mono.guard_val hd (t := 101) (k := 22) (by kernel_rfl) rfl) (fun ρ a W hR hd hf => ?h24) ?_
  case h24 =>
    have e102 := Mono.dep_val hd hf (t := 102) (k := 23) (by kernel_rfl) rfl
    clear hd hf
    (go_simp; try with_reducible rfl)
  refine Mono.rgl_val (v := ?v25) rfl Mono.rr (fun ρ a W hR hd hf => ?h25) ?_
  case h25 =>
    have e101 := Mono.dep_val hd hf (t := 101) (k := 22) (by kernel_rfl) rfl
    have e103 := Mono.dep_val hd hf (t := 103) (k := 24) (by kernel_rfl) rfl
    clear hd hf
    (go_simp; try with_reducible rfl)
  refine Mono.rgl_val (v := ?v26) rfl Mono.rr (fun ρ a W hR hd hf => ?h26) ?_
  case h26 =>
    have e104 := Mono.dep_val hd hf (t := 104) (k := 25) (by kernel_rfl) rfl
    clear hd hf
    (go_simp; try with_reducible rfl)
  refine Mono.rgl_valg (v := ?v27) rfl Mono.rr (fun ρ W hd => Mono.guard_val hd (t := 105) (k := 26) (by kernel_rfl) rfl) (fun ρ a W hR hd hf => ?h27) ?_
  case h27 =>
    have e12 := Mono.init_get hf (t := 12) (by kernel_rfl)
    have hk0 := (HT12.out.below hR (by omega)).1 0 _ rfl
    have hk1 := (HT12.out.below hR (by omega)).1 1 _ rfl
    have hk2 := (HT12.out.below hR (by omega)).1 2 _ rfl
    have hk3 := (HT12.out.below hR (by omega)).1 3 _ rfl
    have hk4 := (HT12.out.below hR (by omega)).1 4 _ rfl
    have hk5 := (HT12.out.below hR (by omega)).1 5 _ rfl
    have hk6 := (HT12.out.below hR (by omega)).1 6 _ rfl
    have hk7 := (HT12.out.below hR (by omega)).1 7 _ rfl
    have hk8 := (HT12.out.below hR (by omega)).1 8 _ rfl
    have hk9 := (HT12.out.below hR (by omega)).1 9 _ rfl
    have hk10 := (HT12.out.below hR (by omega)).1 10 _ rfl
    have hk11 := (HT12.out.below hR (by omega)).1 11 _ rfl
    have hk12 := (HT12.out.below hR (by omega)).1 12 _ rfl
    have hk13 := (HT12.out.below hR (by omega)).1 13 _ rfl
    clear hd hf
    (go_simp; try with_reducible rfl)
  refine Mono.rgl_valg (v := ?v28) rfl Mono.rr (fun ρ W hd => Mono.guard_val hd (t := 105) (k := 26) (by kernel_rfl) rfl) (fun ρ a W hR hd hf => ?h28) ?_
  case h28 =>
    have e5 := Mono.init_get hf (t := 5) (by kernel_rfl)
    have hk0 := (HT5.out.below hR (by omega)).1 0 _ rfl
    have hk1 := (HT5.out.below hR (by omega)).1 1 _ rfl
    have hk2 := (HT5.out.below hR (by omega)).1 2 _ rfl
    have hk3 := (HT5.out.below hR (by omega)).1 3 _ rfl
    have hk4 := (HT5.out.below hR (by omega)).1 4 _ rfl
    have hk5 := (HT5.out.below hR (by omega)).1 5 _ rfl
    have hk6 := (HT5.out.below hR (by omega)).1 6 _ rfl
    have hk7 := (HT5.out.below hR (by omega)).1 7 _ rfl
    have hk8 := (HT5.out.below hR (by omega)).1 8 _ rfl
    have hk9 := (HT5.out.below hR (by omega)).1 9 _ rfl
    have hk10 := (HT5.out.below hR (by omega)).1 10 _ rfl
    have hk11 := (HT5.out.below hR (by omega)).1 11 _ rfl
    have hk12 := (HT5.out.below hR (by omega)).1 12 _ rfl
    have hk13 := (HT5.out.below hR (by omega)).1 13 _ rfl
    clear hd hf
    (go_simp; try with_reducible rfl)
  refine Mono.rgl_valg (v := ?v29) rfl Mono.rr (fun ρ W hd => Mono.guard_val hd (t := 105) (k := 26) (by kernel_rfl) rfl) (fun ρ a W hR hd hf => ?h29) ?_
  case h29 =>
    have e106 := Mono.dep_val hd hf (t := 106) (k := 27) (by kernel_rfl) rfl
    have e107 := Mono.dep_val hd hf (t := 107) (k := 28) (by kernel_rfl) rfl
    clear hd hf
    (go_simp; try with_reducible rfl)
  refine Mono.rgl_val (v := ?v30) rfl Mono.rr (fun ρ a W hR hd hf => ?h30) ?_
  case h30 =>
    have e105 := Mono.dep_val hd hf (t := 105) (k := 26) (by kernel_rfl) rfl
    have e108 := Mono.dep_val hd hf (t := 108) (k := 29) (by kernel_rfl) rfl
    clear hd hf
    (go_simp; try with_reducible rfl)
  refine Mono.rgl_val (v := ?v31) rfl Mono.rr (fun ρ a W hR hd hf => ?h31) ?_
  case h31 =>
    have e109 := Mono.dep_val hd hf (t := 109) (k := 30) (by kernel_rfl) rfl
    clear hd hf
    (go_simp; try with_reducible rfl)
  refine Mono.rgl_valg (v := ?v32) rfl Mono.rr (fun ρ W hd => Mono.guard_val hd (t := 110) (k := 31) (by kernel_rfl) rfl) (fun ρ a W hR hd hf => ?h32) ?_
  case h32 =>
    have e11 := Mono.init_get hf (t := 11) (by kernel_rfl)
    have hk := (HR.out.below hR (by omega)).1 0 _ rfl
    clear hd hf
    (go_simp; try with_reducible rfl)
  refine Mono.rgl_callg (fun x _ => x = .int .i64 (q : Nat)) rfl Mono.rr (fun _ _ _ h _ => h) (fun ρ W hd => Mono.guard_val hd (t := 110) (k := 31) (by kernel_rfl) rfl) (fun ρ a W hR hd hf => ?h33) ?_
  case h33 =>
    have e111 := Mono.dep_val hd hf (t := 111) (k := 32) (by kernel_rfl) rfl
    clear hd hf
    refine ⟨_, _, by go_simp; first | rfl | exact ⟨rfl, rfl⟩, ?_⟩
    exact (at_any (HD.out.below hR)).mono (fun e W' ⟨he, hw⟩ => ⟨_, he, hw ▸ Mono.rr _, rfl⟩)
  refine Mono.rgl_valg (v := ?v34) rfl Mono.rr (fun ρ W hd => Mono.guard_val hd (t := 110) (k := 31) (by kernel_rfl) rfl) (fun ρ a W hR hd hf => ?h34) ?_
  case h34 =>
    have e10 := Mono.init_get hf (t := 10) (by kernel_rfl)
    clear hd hf
    (go_simp; try with_reducible rfl)
  refine Mono.rgl_valg (v := ?v35) rfl Mono.rr (fun ρ W hd => Mono.guard_val hd (t := 110) (k := 31) (by kernel_rfl) rfl) (fun ρ a W hR hd hf => ?h35) ?_
  case h35 =>
    have e112 := Mono.dep_val hd hf (t := 112) (k := 33) (by kernel_rfl) rfl
    have e113 := Mono.dep_val hd hf (t := 113) (k := 34) (by kernel_rfl) rfl
    clear hd hf
    (go_simp; try with_reducible rfl)
  refine Mono.rgl_val (v := ?v36) rfl Mono.rr (fun ρ a W hR hd hf => ?h36) ?_
  case h36 =>
    have e110 := Mono.dep_val hd hf (t := 110) (k := 31) (by kernel_rfl) rfl
    have e114 := Mono.dep_val hd hf (t := 114) (k := 35) (by kernel_rfl) rfl
    clear hd hf
    (go_simp; try with_reducible rfl)
  refine Mono.rgl_val (v := ?v37) rfl Mono.rr (fun ρ a W hR hd hf => ?h37) ?_
  case h37 =>
    have e115 := Mono.dep_val hd hf (t := 115) (k := 36) (by kernel_rfl) rfl
    clear hd hf
    (go_simp; try with_reducible rfl)
  refine Mono.rgl_done rfl (fun ρ W hR ht => ?_)
  obtain ⟨d37, d36, d35, d34, d33, d32, d31, d30, d29, d28, d27, d26, d25, d24, d23, d22, d21, d20, d19, d18, d17, d16, d15, d14, d13, d12, d11, d10, d9, d8, d7, d6, d5, d4, d3, d2, d1, d0, _⟩ := ht
  simp only [List.length_cons, List.length_nil, Nat.reduceAdd] at d0 d1 d2 d3 d4 d5 d6 d7 d8 d9 d10 d11 d12 d13 d14 d15 d16 d17 d18 d19 d20 d21 d22 d23 d24 d25 d26 d27 d28 d29 d30 d31 d32 d33 d34 d35 d36 d37
  simp only [Mono.putAll, Nat.reduceAdd, d0, d1, d2, d3, d4, d5, d6, d7, d8, d9, d10, d11, d12, d13, d14, d15, d16, d17, d18, d19, d20, d21, d22, d23, d24, d25, d26, d27, d28, d29, d30, d31, d32, d33, d34, d35, d36, d37, Act.put, List.setIfInBounds_toArray, List.set_cons_zero, List.set_cons_succ]
  clear d0 d1 d2 d3 d4 d5 d6 d7 d8 d9 d10 d11 d12 d13 d14 d15 d16 d17 d18 d19 d20 d21 d22 d23 d24 d25 d26 d27 d28 d29 d30 d31 d32 d33 d34 d35 d36 d37
  have HB := Lib.hid (HB.out.trans (hR.mono (by omega)))
  clear hR
  go_wp2_with (fail)
  go_ret
  exact ⟨rfl, HB.out⟩
set_option maxHeartbeats 8000000 in
set_option maxRecDepth 100000 in
theorem cr_no (ad : Option Addr) (c : Nat) (l : List UInt8) (at_ : Nat) (w : World) (h : Byt w w.heap.size (.slice ad l.length c) l) (hl : l.length ≤ 1000) (hc : l.length ≤ c) (hA : Amb w) (hat : at_ ≤ l.length) (ha : ¬ ACD (l.drop at_)) : Calls Tryd.prog 4 #[.slice ad l.length c, .int .i64 (at_ : Nat)] w (CQ (.bool true) w) := by
  have t0 : decide (1000 < (l.length : Int)) = false := by simp; omega
  have t1 : decide ((at_ : Int) < 0) = false := by simp
  have t2 : decide ((l.length : Int) < (at_ : Int)) = false := by simp; omega
  have HAW := Lib.hid (awakeC_any w hA)
  have hA3 := hA.1
  have HA := Lib.hid hA
  obtain ⟨a1, c1, hsl, hc1, hby⟩ := cut_end h hc at_ hat
  rw [← List.length_drop] at hsl hc1 hby
  have hml : (l.drop at_).length ≤ 1000 := by rw [List.length_drop]; omega
  have HPA := Lib.hid (fun (W : World) (hB : Below w.heap.size w W) => cparse_no' ad c l at_ W ((h.below hB).mono hB.size) (by omega) hc (hA.below hB) hat ha)
  have HPG := Lib.hid (fun (W : World) (hB : Below w.heap.size w W) => rparseC_no' a1 c1 (l.drop at_) W ((hby.below hB).mono hB.size) (by omega) hc1 ha)
  have HRD := Lib.hid (fun (rb : Nat) (W : World) (h3 : 3 ≤ rb) (hd : RD W rb (l.drop at_) 0) (hA : Amb W) => readC_no' rb (l.drop at_) W hd hA h3 ha)
  have HY := Lib.hid hby
  clear h hby hA ha
  generalize l.drop at_ = m at *
  have hmf : ∀ (fn : Fn) (first cap : Array Value) (w : World), (Instr.makeFunc fn first cap).run Tryd.prog w = .ok (.func fn first cap) w := fun _ _ _ _ => rfl
  go_enter Tryd.func4, Tryd.ntmps4
  go_wp2_with (fail)
  refine HAW.out.mono ?_
  rintro e w1 ⟨rfl, hb⟩
  have HB := Lib.hid hb
  have hz1 := hb.size
  clear hb
  go_wp2_with (fail)
  refine (HPA.out _ HB.out).mono ?_
  rintro e w2 ⟨k1, hk1, rfl, hb⟩
  have HB := Lib.hid (HB.out.trans (hb.mono hz1))
  have hz2 := hb.size
  clear hb
  have tk1 : (k1 != 0) = true := by simpa using hk1
  have HK1 := Lib.hid hk1
  clear hk1
  have HT5 := Lib.hid (Own.new_at w2 [.string ByteArray.empty, .int .i64 0, .int .i64 0, .int .i64 0, .int .i64 0, .int .i64 0, .int .i64 0, .int .i64 0, .int .u32 0, .int .i64 0, .int .i64 0, .bool false, .bool false, .int .i64 0] 28 w2.heap.size rfl)
  have hba := (Below.refl w2.heap.size w2).alloc (Nat.le_refl _) (.cells #[.string ByteArray.empty, .int .i64 0, .int .i64 0, .int .i64 0, .int .i64 0, .int .i64 0, .int .i64 0, .int .i64 0, .int .u32 0, .int .i64 0, .int .i64 0, .bool false, .bool false, .int .i64 0] 28)
  have HB := Lib.hid (HB.out.trans (hba.mono (by omega)))
  have hz_w3 : w2.heap.size < (w2.alloc (.cells #[.string ByteArray.empty, .int .i64 0, .int .i64 0, .int .i64 0, .int .i64 0, .int .i64 0, .int .i64 0, .int .i64 0, .int .u32 0, .int .i64 0, .int .i64 0, .bool false, .bool false, .int .i64 0] 28)).heap.size := by simp
  go_upto_region 6 with (fail)
  clear hba 
  generalize w2.alloc (.cells #[.string ByteArray.empty, .int .i64 0, .int .i64 0, .int .i64 0, .int .i64 0, .int .i64 0, .int .i64 0, .int .i64 0, .int .u32 0, .int .i64 0, .int .i64 0, .bool false, .bool false, .int .i64 0] 28) = w3 at *
  generalize w2.heap.size = b5 at *
  go_wp2_with (fail)
  refine (HPG.out _ HB.out).mono ?_
  rintro e w4 ⟨rfl, hb⟩
  have HB := Lib.hid (HB.out.trans (hb.mono (by omega)))
  have HT5 := Lib.hid (HT5.out.below hb (by omega))
  have hz4 := hb.size
  clear hb
  have HT8 := Lib.hid (Own.new_at w4 [.string ByteArray.empty, .int .i64 0, .int .i64 0, .int .i64 0, .int .i64 0, .int .i64 0, .int .i64 0, .int .i64 0, .int .u32 0, .int .i64 0, .int .i64 0, .bool false, .bool false] 30 w4.heap.size rfl)
  have hba := (Below.refl w4.heap.size w4).alloc (Nat.le_refl _) (.cells #[.string ByteArray.empty, .int .i64 0, .int .i64 0, .int .i64 0, .int .i64 0, .int .i64 0, .int .i64 0, .int .i64 0, .int .u32 0, .int .i64 0, .int .i64 0, .bool false, .bool false] 30)
  have HT5 := Lib.hid (HT5.out.below hba (by omega))
  have HB := Lib.hid (HB.out.trans (hba.mono (by omega)))
  have hz_w5 : w4.heap.size < (w4.alloc (.cells #[.string ByteArray.empty, .int .i64 0, .int .i64 0, .int .i64 0, .int .i64 0, .int .i64 0, .int .i64 0, .int .i64 0, .int .u32 0, .int .i64 0, .int .i64 0, .bool false, .bool false] 30)).heap.size := by simp
  go_upto_region 9 with (fail)
  clear hba 
  generalize w4.alloc (.cells #[.string ByteArray.empty, .int .i64 0, .int .i64 0, .int .i64 0, .int .i64 0, .int .i64 0, .int .i64 0, .int .i64 0, .int .u32 0, .int .i64 0, .int .i64 0, .bool false, .bool false] 30) = w5 at *
  generalize w4.heap.size = b8 at *
  go_wp2_with (fail)
  refine (over_any (HY.out.below HB.out) (by omega)).mono ?_
  rintro e w6 ⟨rb, rfl, hrb0, hd, hb⟩
  have hz6 := hb.size
  have hrb1 : rb < w6.heap.size := by obtain ⟨_, _, _, _, _, _, _, h6⟩ := hd; exact h6
  have HD := Lib.hid hd
  have HB := Lib.hid (HB.out.trans (hb.mono (by omega)))
  have HT5 := Lib.hid (HT5.out.below hb (by omega))
  have HT8 := Lib.hid (HT8.out.below hb (by omega))
  clear hb hd
  have HD := Lib.hid (HD.out.below ((Below.refl w6.heap.size w6).alloc (Nat.le_refl _) (.cells #[.pointer (some ⟨rb, 0, none⟩)] 44)))
  have HR := Lib.hid (Own.new_at w6 [.pointer (some ⟨rb, 0, none⟩)] 44 w6.heap.size rfl)
  have hba := (Below.refl w6.heap.size w6).alloc (Nat.le_refl _) (.cells #[.pointer (some ⟨rb, 0, none⟩)] 44)
  have HT5 := Lib.hid (HT5.out.below hba (by omega))
  have HT8 := Lib.hid (HT8.out.below hba (by omega))
  have HB := Lib.hid (HB.out.trans (hba.mono (by omega)))
  have hz_w7 : w6.heap.size < (w6.alloc (.cells #[.pointer (some ⟨rb, 0, none⟩)] 44)).heap.size := by simp
  go_upto_region 10 with (fail)
  clear hba hsl
  generalize w6.alloc (.cells #[.pointer (some ⟨rb, 0, none⟩)] 44) = w7 at *
  generalize w6.heap.size = br at *
  have hrb2 : rb < w7.heap.size := by omega
  have hrw : w.heap.size ≤ rb := by omega
  have HTR := Lib.hid (tryC_throw 16 #[.pointer (some ⟨br, 0, none⟩)] w7 rb m hrb2 (fun W => cf_cread1 _ W) (fun W hW => cread1_throw br rb m W ((hW.cell (p := ⟨br, 0, none⟩) (by show br < _; omega)).trans (HR.out.1 0 _ rfl)) (fun w' h1 h2 => HRD.out rb w' (by omega) h1 h2) (HD.out.below hW) (HA.out.below (HB.out.trans (hW.mono (by omega))))))
  go_wp2_with fail
  refine HTR.out.mono ?_
  rintro e w8 ⟨k2, q2, hk2, rfl, hd, hb⟩
  have hz8 := hb.size
  have HD := Lib.hid hd
  have HR := Lib.hid (HR.out.bx hb (by omega) (by simp; omega))
  have HT5 := Lib.hid (HT5.out.bx hb (by omega) (by simp; omega))
  have HT8 := Lib.hid (HT8.out.bx hb (by omega) (by simp; omega))
  have HB := Lib.hid (HB.out.trans (hb.below (C := w.heap.size) (by omega) (by simp; omega)))
  clear hd hb HTR
  have tk2 : (k2 != 0) = true := by simpa using hk2
  clear hk2
  have HD := Lib.hid (HD.out.below ((Below.refl w8.heap.size w8).alloc (Nat.le_refl _) (.cells #[.string ByteArray.empty, .int .i64 0, .int .i64 0, .int .i64 0, .int .i64 0, .int .i64 0, .int .i64 0, .int .i64 0, .int .u32 0, .int .i64 0, .int .i64 0, .bool false, .bool false, .int .i64 0] 28)))
  have HT12 := Lib.hid (Own.new_at w8 [.string ByteArray.empty, .int .i64 0, .int .i64 0, .int .i64 0, .int .i64 0, .int .i64 0, .int .i64 0, .int .i64 0, .int .u32 0, .int .i64 0, .int .i64 0, .bool false, .bool false, .int .i64 0] 28 w8.heap.size rfl)
  have hba := (Below.refl w8.heap.size w8).alloc (Nat.le_refl _) (.cells #[.string ByteArray.empty, .int .i64 0, .int .i64 0, .int .i64 0, .int .i64 0, .int .i64 0, .int .i64 0, .int .i64 0, .int .u32 0, .int .i64 0, .int .i64 0, .bool false, .bool false, .int .i64 0] 28)
  have HT5 := Lib.hid (HT5.out.below hba (by omega))
  have HT8 := Lib.hid (HT8.out.below hba (by omega))
  have HR := Lib.hid (HR.out.below hba (by omega))
  have HB := Lib.hid (HB.out.trans (hba.mono (by omega)))
  have hz_w9 : w8.heap.size < (w8.alloc (.cells #[.string ByteArray.empty, .int .i64 0, .int .i64 0, .int .i64 0, .int .i64 0, .int .i64 0, .int .i64 0, .int .i64 0, .int .u32 0, .int .i64 0, .int .i64 0, .bool false, .bool false, .int .i64 0] 28)).heap.size := by simp
  go_upto_region 11 with (fail)
  clear hba 
  generalize w8.alloc (.cells #[.string ByteArray.empty, .int .i64 0, .int .i64 0, .int .i64 0, .int .i64 0, .int .i64 0, .int .i64 0, .int .i64 0, .int .u32 0, .int .i64 0, .int .i64 0, .bool false, .bool false, .int .i64 0] 28) = w9 at *
  generalize w8.heap.size = b12 at *
  have y0 := HT5.out.1 0 _ rfl
  have y1 := HT5.out.1 1 _ rfl
  have y2 := HT5.out.1 2 _ rfl
  have y3 := HT5.out.1 3 _ rfl
  have y4 := HT5.out.1 4 _ rfl
  have y5 := HT5.out.1 5 _ rfl
  have y6 := HT5.out.1 6 _ rfl
  have y7 := HT5.out.1 7 _ rfl
  have y8 := HT5.out.1 8 _ rfl
  have y9 := HT5.out.1 9 _ rfl
  have y10 := HT5.out.1 10 _ rfl
  have y11 := HT5.out.1 11 _ rfl
  have y12 := HT5.out.1 12 _ rfl
  have y13 := HT5.out.1 13 _ rfl
  go_wp2_with (fail)
  go_ret
  exact ⟨rfl, HB.out⟩
theorem cr_walk (ad : Option Addr) (c : Nat) (l : List UInt8) (at_ : Int) (w : World) (h : Byt w w.heap.size (.slice ad l.length c) l) (hm : l.length ≤ maxLen) (hc : l.length ≤ c) (hA : Amb w) : Calls Tryd.prog 4 #[.slice ad l.length c, .int .i64 at_] w (CQ (.bool true) w) := by
  unfold maxLen at hm
  by_cases hl : 1000 < l.length
  · exact cr_long ad c l at_ w h (by omega) hl hc hA
  · by_cases hr : at_ < 0 ∨ (l.length : Int) < at_
    · exact cr_range ad c l at_ w h (by omega) hc hA hr
    · obtain ⟨n, rfl⟩ : ∃ n : Nat, at_ = n := ⟨at_.toNat, by omega⟩
      by_cases ha : ACD (l.drop n)
      · exact cr_yes ad c l n w h (by omega) hc hA (by omega) ha
      · exact cr_no ad c l n w h (by omega) hc hA (by omega) ha
end Go.Proofs.YtjkmgakgjoojfaaDoor
