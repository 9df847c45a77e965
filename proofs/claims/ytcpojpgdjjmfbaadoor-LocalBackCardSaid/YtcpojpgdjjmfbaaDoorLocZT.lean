/- Statement LocalBack of layer 27: what was written is read, but for what is told later; cut off it is not. No condition but what the row lists. -/
import Derived.Test.YtcpojpgdjjmfbaaDoorLocZL
import Derived.Test.YtcpojpgdjjmfbaaDoorLocZR
import Derived.Test.YtcpojpgdjjmfbaaDoorTie
import Derived.Test.YtcpojpgdjjmfbaaDoorCards
import Derived.SevenTiedAt
import Derived.Test.YtcpojpgdjjmfbaaDoorLawZ
namespace Go.Proofs.YtcpojpgdjjmfbaaDoor
set_option maxRecDepth 100000
set_option linter.unusedVariables false
set_option linter.unusedSimpArgs false
open Go.RowKit
theorem fN_later (nm : ByteArray) (g : Bool) : (fN nm g / 8 % 2 == 1) = g := by
  unfold fN; cases g <;> cases asc nm <;> rfl
theorem fN_u16 (nm : ByteArray) (g : Bool) : fN nm g < 65536 := Nat.lt_of_le_of_lt (fN_le nm g) (by decide)
theorem tm_back {y mo da ho mi se : Int} (h : Dos.rightB y mo da ho mi se = true) :
    1980 + ((dN y mo da : Nat) : Int) / 512 = y ∧ ((dN y mo da : Nat) : Int) / 32 % 16 = mo ∧ ((dN y mo da : Nat) : Int) % 32 = da ∧ ((cN ho mi se : Nat) : Int) / 2048 = ho ∧ ((cN ho mi se : Nat) : Int) / 32 % 64 = mi ∧ ((cN ho mi se : Nat) : Int) % 32 * 2 = se := by
  obtain ⟨e1, e2, _, _⟩ := dc_bd h
  obtain ⟨h1, h2, h3, h4, h5, h6, h7, h8, h9, h10, h11, h12, h13⟩ := Dos.right_elim h
  have h14 := (Dos.days_le y mo).2
  rw [← e1, ← e2]
  unfold Dos.dateOf Dos.clockOf
  refine ⟨?_, ?_, ?_, ?_, ?_, ?_⟩ <;> omega
theorem lcode_zero {b r : Bool} {me pk sz : Int} (h : lcode b r me pk sz = 0) (g : Bool) : lcode b r me (cond g 0 pk) (cond g 0 sz) = 0 := by
  cases g with
  | false => exact h
  | true =>
    obtain ⟨hb, hr, hm, _⟩ := lcode_0 h
    subst hb hr
    show lcode true true me 0 0 = 0
    rcases hm with rfl | rfl <;> decide
section
variable (nm : ByteArray) (y mo da ho mi se : Int) (me cr pk sz : Nat) (gw gl : Bool)
/-- The record of a header. -/
def recH : List UInt8 := recB nm (dN y mo da) (cN ho mi se) me cr pk sz (fN nm gl) gw gl
structure RecIs (l : List UInt8) : Prop where
  fn : rd l 26 2 = nm.size
  fnm : nmOf l = nm
  fgw : gwOf l = gw
  fgl : glOf l = gl
  m0 : rd l 0 4 = 67324752
  m4 : rd l 4 2 = cond gw 45 20
  m6 : rd l 6 2 = fN nm gl
  m8 : rd l 8 2 = me
  m10 : rd l 10 2 = cN ho mi se
  m12 : rd l 12 2 = dN y mo da
  m14 : rd l 14 4 = cond gl 0 cr
  m28 : rd l 28 2 = cond gw 20 0
  fwd : gw = true → WP l (30 + nm.size) (rd l 18 4) (rd l 22 4)
  fpk : pkL l = (cond gl 0 pk : Nat)
  fsz : szL l = (cond gl 0 sz : Nat)
theorem recIs (h : lcode (chk nm) (Dos.rightB y mo da ho mi se) me pk sz = 0) (hcr : cr < 4294967296) (l : List UInt8) (hl : (recH nm y mo da ho mi se me cr pk sz gw gl).length ≤ l.length) (ht : l.take (recH nm y mo da ho mi se me cr pk sz gw gl).length = recH nm y mo da ho mi se me cr pk sz gw gl) :
    RecIs nm y mo da ho mi se me cr pk sz gw gl l := by
  obtain ⟨hb, hr, hm, h1, h2, h3, h4, h5⟩ := lcode_0 h
  obtain ⟨_, _, hD, hC⟩ := dc_bd hr
  have hns := chk_size hb
  unfold recH at hl ht
  rw [recB_len] at hl
  obtain ⟨⟨m0, m4, m6, m8, m10, m12, m14, m18, m22, m26, m28, _⟩, hnm, hB⟩ := (rec_iff l nm _ _ _ _ _ _ _ gw gl hl (by omega) (by omega) (by omega) hcr (by omega) (by omega) (fN_u16 nm gl) (by omega)).1 ht
  simp only [Nat.zero_add, Nat.reduceAdd] at m4 m6 m8 m10 m12 m14 m18 m22 m26 m28
  have hg : gwOf l = gw := by unfold gwOf; rw [m4]; cases gw <;> rfl
  have hg2 : glOf l = gl := by unfold glOf; rw [m6]; exact fN_later nm gl
  have e1 : nmOf l = nm := by
    unfold nmOf
    rw [m26, hnm]
    rfl
  have hw : gw = true → WP l (30 + nm.size) (rd l 18 4) (rd l 22 4) ∧ rd l (34 + nm.size) 8 = cond gl 0 sz ∧ rd l (42 + nm.size) 8 = cond gl 0 pk := by
    intro hgw
    obtain ⟨k0, k2, k4, k12, _⟩ := hB hgw
    rw [hgw] at m18 m22 hl
    rw [show 30 + nm.size + 2 + 2 = 34 + nm.size by omega] at k4 k12
    rw [show 34 + nm.size + 8 = 42 + nm.size by omega] at k12
    have hl' : 30 + nm.size + 20 ≤ l.length := hl
    exact ⟨⟨m18, m22, by omega, k0, k2⟩, k4, k12⟩
  have hp0 : cond gl 0 pk ≤ 67108864 := by cases gl <;> simp <;> omega
  have hs0 : cond gl 0 sz ≤ 67108864 := by cases gl <;> simp <;> omega
  refine ⟨m26, e1, hg, hg2, m0, m4, m6, m8, m10, m12, m14, m28, fun hgw => (hw hgw).1, ?_, ?_⟩
  · unfold pkL
    rw [hg, m26]
    cases hgw : gw with
    | true =>
      have := (hw hgw).2.2
      show wd8 l (42 + nm.size) = _
      rw [wd8_small (by rw [this]; exact hp0), this]
    | false =>
      rw [hgw] at m18
      show ((rd l 18 4 : Nat) : Int) = _
      rw [m18]; rfl
  · unfold szL
    rw [hg, m26]
    cases hgw : gw with
    | true =>
      have := (hw hgw).2.1
      show wd8 l (34 + nm.size) = _
      rw [wd8_small (by rw [this]; exact hs0), this]
    | false =>
      rw [hgw] at m22
      show ((rd l 22 4 : Nat) : Int) = _
      rw [m22]; rfl
/-- A record, with whatever behind it, is one; and it tells the header, but for what is told later. -/
theorem rec_acc (h : lcode (chk nm) (Dos.rightB y mo da ho mi se) me pk sz = 0) (hcr : cr < 4294967296) (rest : List UInt8) :
    ACC (recH nm y mo da ho mi se me cr pk sz gw gl ++ rest) ∧
    hdrOf (recH nm y mo da ho mi se me cr pk sz gw gl ++ rest) = .agg #[.string nm, .int .i64 y, .int .i64 mo, .int .i64 da, .int .i64 ho, .int .i64 mi, .int .i64 se, .int .i64 (me : Nat), .int .u32 (cond gl 0 cr : Nat), .int .i64 (cond gl 0 pk : Nat), .int .i64 (cond gl 0 sz : Nat), .bool gw, .bool gl] ∧
    endOf (recH nm y mo da ho mi se me cr pk sz gw gl ++ rest) = (recH nm y mo da ho mi se me cr pk sz gw gl).length := by
  have hlen : (recH nm y mo da ho mi se me cr pk sz gw gl).length = 30 + nm.size + cond gw 20 0 := recB_len _ _ _ _ _ _ _ _ _ _
  have R := recIs nm y mo da ho mi se me cr pk sz gw gl h hcr (recH nm y mo da ho mi se me cr pk sz gw gl ++ rest) (by rw [List.length_append]; omega) List.take_left
  have hl2 : 30 + nm.size + cond gw 20 0 ≤ (recH nm y mo da ho mi se me cr pk sz gw gl ++ rest).length := by rw [List.length_append]; omega
  generalize recH nm y mo da ho mi se me cr pk sz gw gl ++ rest = l at *
  have hr := (lcode_0 h).2.1
  obtain ⟨t1, t2, t3, t4, t5, t6⟩ := tm_back hr
  have hz := lcode_zero h gl
  refine ⟨⟨?_, R.m0, ?_, ?_, ?_, ?_, ?_, ?_, ?_⟩, ?_, ?_⟩
  · rw [R.fn]; omega
  · unfold tmB; rw [R.m12, R.m10, t1, t2, t3, t4, t5, t6]; exact hr
  · rw [R.m4, R.fgw]; unfold verI; cases gw <;> rfl
  · rw [R.m6, R.fnm, R.fgl]; exact (fN_eq nm gl).symm
  · rw [R.m28, R.fgw]
  · rw [R.fgw, R.fn]; exact R.fwd
  · rw [R.fgl]
    intro hg
    rw [R.m14, R.fpk, R.fsz, hg]
    exact ⟨rfl, rfl, rfl⟩
  · rw [R.fnm, R.m8, R.fpk, R.fsz]
    rw [hr] at hz
    cases gl <;> exact hz
  · unfold hdrOf hdrV
    rw [R.fnm, R.m12, R.m10, R.m8, R.m14, R.fpk, R.fsz, R.fgw, R.fgl, t1, t2, t3, t4, t5, t6]
  · unfold endOf
    rw [R.fn, R.fgw, hlen]
theorem rec_cut (h : lcode (chk nm) (Dos.rightB y mo da ho mi se) me pk sz = 0) (hcr : cr < 4294967296) (k : Nat) (hk : k < (recH nm y mo da ho mi se me cr pk sz gw gl).length) : ¬ ACC ((recH nm y mo da ho mi se me cr pk sz gw gl).take k) := by
  intro a
  have R := recIs nm y mo da ho mi se me cr pk sz gw gl h hcr (recH nm y mo da ho mi se me cr pk sz gw gl) (Nat.le_refl _) (List.take_of_length_le (Nat.le_refl _))
  have hlen : (recH nm y mo da ho mi se me cr pk sz gw gl).length = 30 + nm.size + cond gw 20 0 := recB_len _ _ _ _ _ _ _ _ _ _
  generalize recH nm y mo da ho mi se me cr pk sz gw gl = l at *
  have hkl : (l.take k).length = k := by rw [List.length_take]; omega
  have h1 := a.len
  rw [hkl] at h1
  have e26 := rd_take l k 26 2 (by omega)
  have e4 := rd_take l k 4 2 (by omega)
  rw [e26, R.fn] at h1
  have hg : gwOf (l.take k) = gw := by
    have := R.fgw
    unfold gwOf at this ⊢
    rw [e4]; exact this
  cases hgw : gw with
  | false => rw [hgw] at hlen; simp at hlen; omega
  | true =>
    rw [hgw] at hlen hg
    have h2 := (a.wd hg).2.2.1
    rw [e26, R.fn, hkl] at h2
    simp at hlen
    omega
end
end Go.Proofs.YtcpojpgdjjmfbaaDoor
namespace Go.Proofs.YtcpojpgdjjmfbaaDoor
set_option maxRecDepth 100000
set_option linter.unusedVariables false
set_option linter.unusedSimpArgs false
open Go.RowKit
set_option maxHeartbeats 2000000 in
theorem lb_none (nm : ByteArray) (y mo da ho mi se me cr pk sz : Int) (gw gl : Bool) (ab : Option Addr) (cb : Nat) (B : List UInt8) (cu : Nat) (w : World) (hAm : Amb w) (h : (lcode (chk nm) (Dos.rightB y mo da ho mi se) me pk sz != 0) = true) : Calls Tryd.prog 5 #[.agg #[.string nm, .int .i64 y, .int .i64 mo, .int .i64 da, .int .i64 ho, .int .i64 mi, .int .i64 se, .int .i64 me, .int .u32 cr, .int .i64 pk, .int .i64 sz, .bool gw, .bool gl], .slice ab B.length cb, .int .u8 (cu : Nat)] w (CQ (.bool true) w) := by
  have HE := Lib.hid (fun W hA => lenc_no nm y mo da ho mi se me cr pk sz gw gl _ W hA rfl h)
  generalize lcode (chk nm) (Dos.rightB y mo da ho mi se) me pk sz = code at *
  have HA := Lib.hid (Own.new_at w [.string nm, .int .i64 y, .int .i64 mo, .int .i64 da, .int .i64 ho, .int .i64 mi, .int .i64 se, .int .i64 me, .int .u32 cr, .int .i64 pk, .int .i64 sz, .bool gw, .bool gl] 26 w.heap.size rfl)
  have HZ := Lib.hid ((Below.refl w.heap.size w).alloc (Nat.le_refl _) (.cells #[.string nm, .int .i64 y, .int .i64 mo, .int .i64 da, .int .i64 ho, .int .i64 mi, .int .i64 se, .int .i64 me, .int .u32 cr, .int .i64 pk, .int .i64 sz, .bool gw, .bool gl] 26))
  have HM := Lib.hid (fun (W : World) (hB : Below w.heap.size w W) => hAm.below hB)
  have HAW := Lib.hid (fun W => awake_any W)
  clear hAm
  go_enter Tryd.func5, Tryd.ntmps5
  go_wp2_with fail
  refine (HAW.out _ (HM.out _ HZ.out)).mono ?_
  rintro e w1 ⟨rfl, hb⟩
  have hs := hb.size
  simp only [World.size_alloc] at hs
  have HA := Lib.hid (HA.out.below hb (by simp))
  have HZ := Lib.hid (HZ.out.trans (hb.mono (by simp)))
  have hz0 : w.heap.size < w1.heap.size := by omega
  clear hb hs
  have k0 := HA.out.1 0 _ rfl
  have k1 := HA.out.1 1 _ rfl
  have k2 := HA.out.1 2 _ rfl
  have k3 := HA.out.1 3 _ rfl
  have k4 := HA.out.1 4 _ rfl
  have k5 := HA.out.1 5 _ rfl
  have k6 := HA.out.1 6 _ rfl
  have k7 := HA.out.1 7 _ rfl
  have k8 := HA.out.1 8 _ rfl
  have k9 := HA.out.1 9 _ rfl
  have k10 := HA.out.1 10 _ rfl
  have k11 := HA.out.1 11 _ rfl
  have k12 := HA.out.1 12 _ rfl
  go_wp2_with fail
  refine (HE.out _ (HM.out _ HZ.out)).mono ?_
  rintro e w2 ⟨rfl, hb⟩
  have hs := hb.size
  have HA := Lib.hid (HA.out.below hb (by omega))
  have HZ := Lib.hid (HZ.out.trans (hb.mono (by omega)))
  have hz1 : w.heap.size < w2.heap.size := by omega
  clear hb hs hz0 
  have hz0 := hz1
  clear hz1
  clear k0 k1 k2 k3 k4 k5 k6 k7 k8 k9 k10 k11 k12
  go_wp2_with (fail)
  go_ret
  exact ⟨rfl, HZ.out⟩
set_option maxHeartbeats 2000000 in
theorem lb_long (nm : ByteArray) (y mo da ho mi se : Int) (me cr pk sz : Nat) (gw gl : Bool) (ab : Option Addr) (cb : Nat) (B : List UInt8) (cu : Nat) (w : World) (hAm : Amb w) (hcr : cr < 4294967296) (h : lcode (chk nm) (Dos.rightB y mo da ho mi se) me pk sz = 0) (hl : 300 < B.length) : Calls Tryd.prog 5 #[.agg #[.string nm, .int .i64 y, .int .i64 mo, .int .i64 da, .int .i64 ho, .int .i64 mi, .int .i64 se, .int .i64 (me : Nat), .int .u32 (cr : Nat), .int .i64 (pk : Nat), .int .i64 (sz : Nat), .bool gw, .bool gl], .slice ab B.length cb, .int .u8 (cu : Nat)] w (CQ (.bool true) w) := by
  have HE := Lib.hid (fun W hA => lenc_any nm y mo da ho mi se me cr pk sz gw gl W hA hcr h)
  have t1 : decide (300 < (B.length : Int)) = true := by simp; omega
  generalize recB nm (dN y mo da) (cN ho mi se) me cr pk sz (fN nm gl) gw gl = X at *
  clear h hl
  have HA := Lib.hid (Own.new_at w [.string nm, .int .i64 y, .int .i64 mo, .int .i64 da, .int .i64 ho, .int .i64 mi, .int .i64 se, .int .i64 (me : Nat), .int .u32 (cr : Nat), .int .i64 (pk : Nat), .int .i64 (sz : Nat), .bool gw, .bool gl] 26 w.heap.size rfl)
  have HZ := Lib.hid ((Below.refl w.heap.size w).alloc (Nat.le_refl _) (.cells #[.string nm, .int .i64 y, .int .i64 mo, .int .i64 da, .int .i64 ho, .int .i64 mi, .int .i64 se, .int .i64 (me : Nat), .int .u32 (cr : Nat), .int .i64 (pk : Nat), .int .i64 (sz : Nat), .bool gw, .bool gl] 26))
  have HM := Lib.hid (fun (W : World) (hB : Below w.heap.size w W) => hAm.below hB)
  have HAW := Lib.hid (fun W => awake_any W)
  clear hAm
  go_enter Tryd.func5, Tryd.ntmps5
  go_wp2_with fail
  refine (HAW.out _ (HM.out _ HZ.out)).mono ?_
  rintro e w1 ⟨rfl, hb⟩
  have hs := hb.size
  simp only [World.size_alloc] at hs
  have HA := Lib.hid (HA.out.below hb (by simp))
  have HZ := Lib.hid (HZ.out.trans (hb.mono (by simp)))
  have hz0 : w.heap.size < w1.heap.size := by omega
  clear hb hs
  have k0 := HA.out.1 0 _ rfl
  have k1 := HA.out.1 1 _ rfl
  have k2 := HA.out.1 2 _ rfl
  have k3 := HA.out.1 3 _ rfl
  have k4 := HA.out.1 4 _ rfl
  have k5 := HA.out.1 5 _ rfl
  have k6 := HA.out.1 6 _ rfl
  have k7 := HA.out.1 7 _ rfl
  have k8 := HA.out.1 8 _ rfl
  have k9 := HA.out.1 9 _ rfl
  have k10 := HA.out.1 10 _ rfl
  have k11 := HA.out.1 11 _ rfl
  have k12 := HA.out.1 12 _ rfl
  go_wp2_with fail
  refine (HE.out _ (HM.out _ HZ.out)).mono ?_
  rintro e w2 ⟨v, rfl, hv, hb⟩
  have hs := hb.size
  have HA := Lib.hid (HA.out.below hb (by omega))
  have HZ := Lib.hid (HZ.out.trans (hb.mono (by omega)))
  have hz1 : w.heap.size < w2.heap.size := by omega
  clear hb hs hz0 hv
  have hz0 := hz1
  clear hz1
  clear k0 k1 k2 k3 k4 k5 k6 k7 k8 k9 k10 k11 k12
  go_wp2_with (fail)
  go_ret
  exact ⟨rfl, HZ.out⟩
set_option maxHeartbeats 8000000 in
set_option maxRecDepth 100000 in
theorem lb_yes_f (nm : ByteArray) (y mo da ho mi se : Int) (me cr pk sz : Nat) (gw : Bool) (ab : Option Addr) (cb : Nat) (B : List UInt8) (cu : Nat) (w : World) (hAm : Amb w) (hB : Byt w w.heap.size (.slice ab B.length cb) B) (hcu : cu < 256) (hcr : cr < 4294967296) (h : lcode (chk nm) (Dos.rightB y mo da ho mi se) me pk sz = 0) (hl : B.length ≤ 300) : Calls Tryd.prog 5 #[.agg #[.string nm, .int .i64 y, .int .i64 mo, .int .i64 da, .int .i64 ho, .int .i64 mi, .int .i64 se, .int .i64 (me : Nat), .int .u32 (cr : Nat), .int .i64 (pk : Nat), .int .i64 (sz : Nat), .bool gw, .bool false], .slice ab B.length cb, .int .u8 (cu : Nat)] w (CQ (.bool true) w) := by
  have HE := Lib.hid (fun W hA => lenc_any nm y mo da ho mi se me cr pk sz gw false W hA hcr h)
  obtain ⟨ha, hH, hE⟩ := rec_acc nm y mo da ho mi se me cr pk sz gw false h hcr B
  have hcut := rec_cut nm y mo da ho mi se me cr pk sz gw false h hcr
  have hlen : (recH nm y mo da ho mi se me cr pk sz gw false).length = 30 + nm.size + cond gw 20 0 := recB_len _ _ _ _ _ _ _ _ _ _
  have hnz := chk_size (lcode_0 h).1
  have hX : (recH nm y mo da ho mi se me cr pk sz gw false).length ≤ 305 ∧ 31 ≤ (recH nm y mo da ho mi se me cr pk sz gw false).length := by
    rw [hlen]; cases gw <;> simp <;> omega
  change Hid (∀ W : World, Amb W → Calls Tryd.prog _ _ W (fun e w' => ∃ v, _ ∧ OB W.heap.size w' v (recH nm y mo da ho mi se me cr pk sz gw false) ∧ _)) at HE
  generalize recH nm y mo da ho mi se me cr pk sz gw false = X at *
  have hH : hdrOf (X ++ B) = .agg #[.string nm, .int .i64 y, .int .i64 mo, .int .i64 da, .int .i64 ho, .int .i64 mi, .int .i64 se, .int .i64 (me : Nat), .int .u32 (cr : Nat), .int .i64 (pk : Nat), .int .i64 (sz : Nat), .bool gw, .bool false] := hH
  have HPB : Hid (∀ (a : Option Addr) (c : Nat) (W : World), Amb W → Byt W W.heap.size (.slice a (X ++ B).length c) (X ++ B) → (X ++ B).length ≤ c → Calls Tryd.prog 16 #[.slice a (X ++ B).length c, .int .i64 0] W fun e w' => e = .returned (.tuple #[.agg #[.string nm, .int .i64 y, .int .i64 mo, .int .i64 da, .int .i64 ho, .int .i64 mi, .int .i64 se, .int .i64 (me : Nat), .int .u32 (cr : Nat), .int .i64 (pk : Nat), .int .i64 (sz : Nat), .bool gw, .bool false], .int .i64 (X.length : Nat), .int .i64 0]) ∧ Below W.heap.size W w') := Lib.hid (fun a c W hA hW hc => by
    have := lparse_yes' a c (X ++ B) 0 W hW (by rw [List.length_append]; omega) hc hA (Nat.zero_le _) (by rw [List.drop_zero]; exact ha)
    rw [List.drop_zero, hH, hE, show ((0 : Nat) : Int) + ((X.length : Nat) : Int) = ((X.length : Nat) : Int) by omega] at this
    exact this)
  obtain ⟨k, hk⟩ : ∃ k, k = cu % X.length := ⟨_, rfl⟩
  have hkl : k < X.length := by rw [hk]; exact Nat.mod_lt _ (by omega)
  have HPC : Hid (∀ (a : Option Addr) (c : Nat) (W : World), Amb W → Byt W W.heap.size (.slice a k c) (X.take k) → k ≤ c → Calls Tryd.prog 16 #[.slice a k c, .int .i64 0] W fun e w' => ∃ z : Int, z ≠ 0 ∧ e = .returned (.tuple #[.agg #[.string ByteArray.empty, .int .i64 0, .int .i64 0, .int .i64 0, .int .i64 0, .int .i64 0, .int .i64 0, .int .i64 0, .int .u32 0, .int .i64 0, .int .i64 0, .bool false, .bool false], .int .i64 0, .int .i64 z]) ∧ Below W.heap.size W w') := Lib.hid (fun a c W hA hW hc => by
    have hlt : (X.take k).length = k := by rw [List.length_take]; omega
    have := lparse_no' a c (X.take k) 0 W (by rw [hlt]; exact hW) (by rw [hlt]; omega) (by rw [hlt]; exact hc) hA (Nat.zero_le _) (by rw [List.drop_zero]; exact hcut k hkl)
    rw [hlt] at this
    exact this)
  have HQ : Hid (IntKind.i64.wrap (cu : Int) = cu ∧ (cu : Int).tmod (X.length : Int) = (k : Int) ∧ IntKind.i64.wrap (k : Int) = k ∧ (cu : Int) % (X.length : Int) = (k : Int)) := Lib.hid ⟨IntWalk.i64_in _ (by omega), by rw [Int.tmod_eq_emod_of_nonneg (by omega), hk]; omega, IntWalk.i64_in _ (by omega), by rw [hk]; omega⟩
  have t1 : decide (300 < (B.length : Int)) = false := by simp; omega
  have t2 : ((X.length : Int) == 0) = false := by rw [beq_eq_false_iff_ne]; omega
  have HB0 := Lib.hid hB
  clear h hB hH hE ha hcut hlen hnz hk hcr hcu
  have HA := Lib.hid (Own.new_at w [.string nm, .int .i64 y, .int .i64 mo, .int .i64 da, .int .i64 ho, .int .i64 mi, .int .i64 se, .int .i64 (me : Nat), .int .u32 (cr : Nat), .int .i64 (pk : Nat), .int .i64 (sz : Nat), .bool gw, .bool false] 26 w.heap.size rfl)
  have HZ := Lib.hid ((Below.refl w.heap.size w).alloc (Nat.le_refl _) (.cells #[.string nm, .int .i64 y, .int .i64 mo, .int .i64 da, .int .i64 ho, .int .i64 mi, .int .i64 se, .int .i64 (me : Nat), .int .u32 (cr : Nat), .int .i64 (pk : Nat), .int .i64 (sz : Nat), .bool gw, .bool false] 26))
  have HM := Lib.hid (fun (W : World) (hB : Below w.heap.size w W) => hAm.below hB)
  have HAW := Lib.hid (fun W => awake_any W)
  clear hAm
  go_enter Tryd.func5, Tryd.ntmps5
  go_wp2_with fail
  refine (HAW.out _ (HM.out _ HZ.out)).mono ?_
  rintro e w1 ⟨rfl, hb⟩
  have hs := hb.size
  simp only [World.size_alloc] at hs
  have HA := Lib.hid (HA.out.below hb (by simp))
  have HZ := Lib.hid (HZ.out.trans (hb.mono (by simp)))
  have hz0 : w.heap.size < w1.heap.size := by omega
  clear hb hs
  have k0 := HA.out.1 0 _ rfl
  have k1 := HA.out.1 1 _ rfl
  have k2 := HA.out.1 2 _ rfl
  have k3 := HA.out.1 3 _ rfl
  have k4 := HA.out.1 4 _ rfl
  have k5 := HA.out.1 5 _ rfl
  have k6 := HA.out.1 6 _ rfl
  have k7 := HA.out.1 7 _ rfl
  have k8 := HA.out.1 8 _ rfl
  have k9 := HA.out.1 9 _ rfl
  have k10 := HA.out.1 10 _ rfl
  have k11 := HA.out.1 11 _ rfl
  have k12 := HA.out.1 12 _ rfl
  go_wp2_with fail
  refine (HE.out _ (HM.out _ HZ.out)).mono ?_
  rintro e w2 ⟨v, rfl, hv, hb⟩
  have hs := hb.size
  have HA := Lib.hid (HA.out.below hb (by omega))
  have HZ := Lib.hid (HZ.out.trans (hb.mono (by omega)))
  have HV := Lib.hid hv.byt
  have hz1 : w.heap.size < w2.heap.size := by omega
  clear hb hs hz0 hv
  have hz0 := hz1
  clear hz1
  clear k0 k1 k2 k3 k4 k5 k6 k7 k8 k9 k10 k11 k12
  obtain ⟨av, cv, hve⟩ := HV.out.slice
  subst hve
  have hbe := (Below.refl w2.heap.size w2).alloc (Nat.le_refl _) (.cells #[] 5)
  have HO := Lib.hid (OB.empty w2 (Nat.le_refl w2.heap.size))
  have HIN3 := Lib.hid ((HB0.out.below (HZ.out.trans (hbe.mono (by omega)))))
  have HV2 := Lib.hid (HV.out.below hbe)
  have HBE := Lib.hid hbe
  clear hbe
  go_wp2_with (at_builtin; refine append_OB rfl _ _ rfl rfl HO.out rfl HV2.out (by first | omega | (simp; omega)) (by simp) ?_)
  intro vb w4 ho hb
  have HO := Lib.hid ho
  have hs4 := hb.size
  simp only [World.size_alloc] at hs4
  have HIN3 := Lib.hid (HIN3.out.below (hb.mono (by omega)))
  have HBE := Lib.hid (HBE.out.trans hb)
  clear ho hb
  try simp only [List.nil_append] at HO
  go_wp2_with (at_builtin; refine append_OB rfl _ _ rfl rfl HO.out rfl HIN3.out (by omega) (by omega) ?_)
  intro vc w4b ho hb
  have HO := Lib.hid ho
  have hs4b := hb.size
  have HBE := Lib.hid (HBE.out.trans hb)
  clear ho hb
  have HV := Lib.hid ((HV.out.below HBE.out).mono (show w2.heap.size ≤ w4b.heap.size by omega))
  have HA := Lib.hid (HA.out.below HBE.out (by omega))
  have HZ := Lib.hid (HZ.out.trans (HBE.out.mono (by omega)))
  have hz1 : w.heap.size < w4b.heap.size := by omega
  clear hz0 hs4 hs4b HBE HV2 HIN3
  have hz0 := hz1
  clear hz1
  generalize X ++ B = AX at *
  obtain ⟨aa, ca, hva, hca⟩ := HO.out.form
  subst hva
  go_wp2_with fail
  refine (HPB.out aa ca _ (HM.out _ HZ.out) HO.out.byt hca).mono ?_
  rintro e w5 ⟨rfl, hb⟩
  have hs := hb.size
  have HA := Lib.hid (HA.out.below hb (by omega))
  have HZ := Lib.hid (HZ.out.trans (hb.mono (by omega)))
  have HV := Lib.hid ((HV.out.below hb).mono hb.size)
  have hz1 : w.heap.size < w5.heap.size := by omega
  clear hb hs hz0 
  have hz0 := hz1
  clear hz1
  clear HO hca
  have HT := Lib.hid (Own.new_at w5 [.string nm, .int .i64 y, .int .i64 mo, .int .i64 da, .int .i64 ho, .int .i64 mi, .int .i64 se, .int .i64 (me : Nat), .int .u32 (cr : Nat), .int .i64 (pk : Nat), .int .i64 (sz : Nat), .bool gw, .bool false] 26 w5.heap.size rfl)
  have hba := (Below.refl w5.heap.size w5).alloc (Nat.le_refl _) (.cells #[.string nm, .int .i64 y, .int .i64 mo, .int .i64 da, .int .i64 ho, .int .i64 mi, .int .i64 se, .int .i64 (me : Nat), .int .u32 (cr : Nat), .int .i64 (pk : Nat), .int .i64 (sz : Nat), .bool gw, .bool false] 26)
  have HA := Lib.hid (HA.out.below hba (by omega))
  have HV := Lib.hid (HV.out.below (hba.mono (by omega)))
  have HZ := Lib.hid (HZ.out.trans (hba.mono (by omega)))
  have hz_w6 : w5.heap.size < (w5.alloc (.cells #[.string nm, .int .i64 y, .int .i64 mo, .int .i64 da, .int .i64 ho, .int .i64 mi, .int .i64 se, .int .i64 (me : Nat), .int .u32 (cr : Nat), .int .i64 (pk : Nat), .int .i64 (sz : Nat), .bool gw, .bool false] 26)).heap.size := by simp
  clear hba
  go_upto_region 9 with (fail)
  generalize w5.alloc (.cells #[.string nm, .int .i64 y, .int .i64 mo, .int .i64 da, .int .i64 ho, .int .i64 mi, .int .i64 se, .int .i64 (me : Nat), .int .u32 (cr : Nat), .int .i64 (pk : Nat), .int .i64 (sz : Nat), .bool gw, .bool false] 26) = w6 at *
  generalize w5.heap.size = b9 at *
  have k0 := HA.out.1 0 _ rfl
  have k1 := HA.out.1 1 _ rfl
  have k2 := HA.out.1 2 _ rfl
  have k3 := HA.out.1 3 _ rfl
  have k4 := HA.out.1 4 _ rfl
  have k5 := HA.out.1 5 _ rfl
  have k6 := HA.out.1 6 _ rfl
  have k7 := HA.out.1 7 _ rfl
  have k8 := HA.out.1 8 _ rfl
  have k9 := HA.out.1 9 _ rfl
  have k10 := HA.out.1 10 _ rfl
  have k11 := HA.out.1 11 _ rfl
  have k12 := HA.out.1 12 _ rfl
  have HW := Lib.hid (Own.new_at w6 [.string nm, .int .i64 y, .int .i64 mo, .int .i64 da, .int .i64 ho, .int .i64 mi, .int .i64 se, .int .i64 (me : Nat), .int .u32 (cr : Nat), .int .i64 (pk : Nat), .int .i64 (sz : Nat), .bool gw, .bool false] 26 w6.heap.size rfl)
  have hba := (Below.refl w6.heap.size w6).alloc (Nat.le_refl _) (.cells #[.string nm, .int .i64 y, .int .i64 mo, .int .i64 da, .int .i64 ho, .int .i64 mi, .int .i64 se, .int .i64 (me : Nat), .int .u32 (cr : Nat), .int .i64 (pk : Nat), .int .i64 (sz : Nat), .bool gw, .bool false] 26)
  have HA := Lib.hid (HA.out.below hba (by omega))
  have HT := Lib.hid (HT.out.below hba (by omega))
  have HV := Lib.hid (HV.out.below (hba.mono (by omega)))
  have HZ := Lib.hid (HZ.out.trans (hba.mono (by omega)))
  have hz_w7 : w6.heap.size < (w6.alloc (.cells #[.string nm, .int .i64 y, .int .i64 mo, .int .i64 da, .int .i64 ho, .int .i64 mi, .int .i64 se, .int .i64 (me : Nat), .int .u32 (cr : Nat), .int .i64 (pk : Nat), .int .i64 (sz : Nat), .bool gw, .bool false] 26)).heap.size := by simp
  clear hba
  go_upto_region 10 with (fail)
  generalize w6.alloc (.cells #[.string nm, .int .i64 y, .int .i64 mo, .int .i64 da, .int .i64 ho, .int .i64 mi, .int .i64 se, .int .i64 (me : Nat), .int .u32 (cr : Nat), .int .i64 (pk : Nat), .int .i64 (sz : Nat), .bool gw, .bool false] 26) = w7 at *
  generalize w6.heap.size = b12 at *
  clear k0 k1 k2 k3 k4 k5 k6 k7 k8 k9 k10 k11 k12
  have kk := HA.out.1 12 _ rfl
  go_upto_region 12 with (fail)
  clear kk
  have hz2 := hz_w7
  obtain ⟨w8, rfl⟩ : ∃ z : World, z = w7 := ⟨_, rfl⟩
  have hcv : X.length ≤ cv := by
    rcases HV.out with ⟨a', c', hv, h2, _⟩ | ⟨b, off, c', hv, h3, _⟩
    · rw [h2]; exact Nat.zero_le _
    · injection hv with _ _ h5; omega
  obtain ⟨ak, ck, hsl, hck, hsb⟩ := cut_head HV.out hcv k (by omega)
  have HSB := Lib.hid hsb
  obtain ⟨q1, q2, q3, q4⟩ := HQ.out
  clear hsb hcv
  go_wp2_with (fail)
  refine (HPC.out ak ck _ (HM.out _ HZ.out) (HSB.out.mono (by omega)) hck).mono ?_
  rintro e w9 ⟨z, hz, rfl, hb⟩
  have tz : (z != 0) = true := by simpa using hz
  have HT := Lib.hid (HT.out.below hb (by omega))
  have HW := Lib.hid (HW.out.below hb (by omega))
  have HZ := Lib.hid (HZ.out.trans (hb.mono (by omega)))
  have hz9 : w.heap.size < w9.heap.size := by have := hb.size; omega
  have hz10 : b9 < w9.heap.size ∧ b12 < w9.heap.size := by have := hb.size; omega
  clear hb hz q1 q2 q3 q4 hsl HSB
  have HT := Lib.hid (HT.out.below ((Below.refl w9.heap.size w9).alloc (Nat.le_refl _) (.cells #[.string ByteArray.empty, .int .i64 0, .int .i64 0, .int .i64 0, .int .i64 0, .int .i64 0, .int .i64 0, .int .i64 0, .int .u32 0, .int .i64 0, .int .i64 0, .bool false, .bool false] 26)) hz10.1)
  have HW := Lib.hid (HW.out.below ((Below.refl w9.heap.size w9).alloc (Nat.le_refl _) (.cells #[.string ByteArray.empty, .int .i64 0, .int .i64 0, .int .i64 0, .int .i64 0, .int .i64 0, .int .i64 0, .int .i64 0, .int .u32 0, .int .i64 0, .int .i64 0, .bool false, .bool false] 26)) hz10.2)
  have HZ := Lib.hid (HZ.out.alloc (Nat.le_of_lt hz9) (.cells #[.string ByteArray.empty, .int .i64 0, .int .i64 0, .int .i64 0, .int .i64 0, .int .i64 0, .int .i64 0, .int .i64 0, .int .u32 0, .int .i64 0, .int .i64 0, .bool false, .bool false] 26))
  go_upto_region 13 with (fail)
  generalize w9.alloc (.cells #[.string ByteArray.empty, .int .i64 0, .int .i64 0, .int .i64 0, .int .i64 0, .int .i64 0, .int .i64 0, .int .i64 0, .int .u32 0, .int .i64 0, .int .i64 0, .bool false, .bool false] 26) = w10 at *
  have y0 := HT.out.1 0 _ rfl
  have y1 := HT.out.1 1 _ rfl
  have y2 := HT.out.1 2 _ rfl
  have y3 := HT.out.1 3 _ rfl
  have y4 := HT.out.1 4 _ rfl
  have y5 := HT.out.1 5 _ rfl
  have y6 := HT.out.1 6 _ rfl
  have y7 := HT.out.1 7 _ rfl
  have y8 := HT.out.1 8 _ rfl
  have y9 := HT.out.1 9 _ rfl
  have y10 := HT.out.1 10 _ rfl
  have y11 := HT.out.1 11 _ rfl
  have y12 := HT.out.1 12 _ rfl
  have x0 := HW.out.1 0 _ rfl
  have x1 := HW.out.1 1 _ rfl
  have x2 := HW.out.1 2 _ rfl
  have x3 := HW.out.1 3 _ rfl
  have x4 := HW.out.1 4 _ rfl
  have x5 := HW.out.1 5 _ rfl
  have x6 := HW.out.1 6 _ rfl
  have x7 := HW.out.1 7 _ rfl
  have x8 := HW.out.1 8 _ rfl
  have x9 := HW.out.1 9 _ rfl
  have x10 := HW.out.1 10 _ rfl
  have x11 := HW.out.1 11 _ rfl
  have x12 := HW.out.1 12 _ rfl
  go_wp2_with (fail)
  go_ret
  exact ⟨rfl, HZ.out⟩
set_option maxHeartbeats 8000000 in
set_option maxRecDepth 100000 in
theorem lb_yes_t (nm : ByteArray) (y mo da ho mi se : Int) (me cr pk sz : Nat) (gw : Bool) (ab : Option Addr) (cb : Nat) (B : List UInt8) (cu : Nat) (w : World) (hAm : Amb w) (hB : Byt w w.heap.size (.slice ab B.length cb) B) (hcu : cu < 256) (hcr : cr < 4294967296) (h : lcode (chk nm) (Dos.rightB y mo da ho mi se) me pk sz = 0) (hl : B.length ≤ 300) : Calls Tryd.prog 5 #[.agg #[.string nm, .int .i64 y, .int .i64 mo, .int .i64 da, .int .i64 ho, .int .i64 mi, .int .i64 se, .int .i64 (me : Nat), .int .u32 (cr : Nat), .int .i64 (pk : Nat), .int .i64 (sz : Nat), .bool gw, .bool true], .slice ab B.length cb, .int .u8 (cu : Nat)] w (CQ (.bool true) w) := by
  have HE := Lib.hid (fun W hA => lenc_any nm y mo da ho mi se me cr pk sz gw true W hA hcr h)
  obtain ⟨ha, hH, hE⟩ := rec_acc nm y mo da ho mi se me cr pk sz gw true h hcr B
  have hcut := rec_cut nm y mo da ho mi se me cr pk sz gw true h hcr
  have hlen : (recH nm y mo da ho mi se me cr pk sz gw true).length = 30 + nm.size + cond gw 20 0 := recB_len _ _ _ _ _ _ _ _ _ _
  have hnz := chk_size (lcode_0 h).1
  have hX : (recH nm y mo da ho mi se me cr pk sz gw true).length ≤ 305 ∧ 31 ≤ (recH nm y mo da ho mi se me cr pk sz gw true).length := by
    rw [hlen]; cases gw <;> simp <;> omega
  change Hid (∀ W : World, Amb W → Calls Tryd.prog _ _ W (fun e w' => ∃ v, _ ∧ OB W.heap.size w' v (recH nm y mo da ho mi se me cr pk sz gw true) ∧ _)) at HE
  generalize recH nm y mo da ho mi se me cr pk sz gw true = X at *
  have hH : hdrOf (X ++ B) = .agg #[.string nm, .int .i64 y, .int .i64 mo, .int .i64 da, .int .i64 ho, .int .i64 mi, .int .i64 se, .int .i64 (me : Nat), .int .u32 0, .int .i64 0, .int .i64 0, .bool gw, .bool true] := hH
  have HPB : Hid (∀ (a : Option Addr) (c : Nat) (W : World), Amb W → Byt W W.heap.size (.slice a (X ++ B).length c) (X ++ B) → (X ++ B).length ≤ c → Calls Tryd.prog 16 #[.slice a (X ++ B).length c, .int .i64 0] W fun e w' => e = .returned (.tuple #[.agg #[.string nm, .int .i64 y, .int .i64 mo, .int .i64 da, .int .i64 ho, .int .i64 mi, .int .i64 se, .int .i64 (me : Nat), .int .u32 0, .int .i64 0, .int .i64 0, .bool gw, .bool true], .int .i64 (X.length : Nat), .int .i64 0]) ∧ Below W.heap.size W w') := Lib.hid (fun a c W hA hW hc => by
    have := lparse_yes' a c (X ++ B) 0 W hW (by rw [List.length_append]; omega) hc hA (Nat.zero_le _) (by rw [List.drop_zero]; exact ha)
    rw [List.drop_zero, hH, hE, show ((0 : Nat) : Int) + ((X.length : Nat) : Int) = ((X.length : Nat) : Int) by omega] at this
    exact this)
  obtain ⟨k, hk⟩ : ∃ k, k = cu % X.length := ⟨_, rfl⟩
  have hkl : k < X.length := by rw [hk]; exact Nat.mod_lt _ (by omega)
  have HPC : Hid (∀ (a : Option Addr) (c : Nat) (W : World), Amb W → Byt W W.heap.size (.slice a k c) (X.take k) → k ≤ c → Calls Tryd.prog 16 #[.slice a k c, .int .i64 0] W fun e w' => ∃ z : Int, z ≠ 0 ∧ e = .returned (.tuple #[.agg #[.string ByteArray.empty, .int .i64 0, .int .i64 0, .int .i64 0, .int .i64 0, .int .i64 0, .int .i64 0, .int .i64 0, .int .u32 0, .int .i64 0, .int .i64 0, .bool false, .bool false], .int .i64 0, .int .i64 z]) ∧ Below W.heap.size W w') := Lib.hid (fun a c W hA hW hc => by
    have hlt : (X.take k).length = k := by rw [List.length_take]; omega
    have := lparse_no' a c (X.take k) 0 W (by rw [hlt]; exact hW) (by rw [hlt]; omega) (by rw [hlt]; exact hc) hA (Nat.zero_le _) (by rw [List.drop_zero]; exact hcut k hkl)
    rw [hlt] at this
    exact this)
  have HQ : Hid (IntKind.i64.wrap (cu : Int) = cu ∧ (cu : Int).tmod (X.length : Int) = (k : Int) ∧ IntKind.i64.wrap (k : Int) = k ∧ (cu : Int) % (X.length : Int) = (k : Int)) := Lib.hid ⟨IntWalk.i64_in _ (by omega), by rw [Int.tmod_eq_emod_of_nonneg (by omega), hk]; omega, IntWalk.i64_in _ (by omega), by rw [hk]; omega⟩
  have t1 : decide (300 < (B.length : Int)) = false := by simp; omega
  have t2 : ((X.length : Int) == 0) = false := by rw [beq_eq_false_iff_ne]; omega
  have HB0 := Lib.hid hB
  clear h hB hH hE ha hcut hlen hnz hk hcr hcu
  have HA := Lib.hid (Own.new_at w [.string nm, .int .i64 y, .int .i64 mo, .int .i64 da, .int .i64 ho, .int .i64 mi, .int .i64 se, .int .i64 (me : Nat), .int .u32 (cr : Nat), .int .i64 (pk : Nat), .int .i64 (sz : Nat), .bool gw, .bool true] 26 w.heap.size rfl)
  have HZ := Lib.hid ((Below.refl w.heap.size w).alloc (Nat.le_refl _) (.cells #[.string nm, .int .i64 y, .int .i64 mo, .int .i64 da, .int .i64 ho, .int .i64 mi, .int .i64 se, .int .i64 (me : Nat), .int .u32 (cr : Nat), .int .i64 (pk : Nat), .int .i64 (sz : Nat), .bool gw, .bool true] 26))
  have HM := Lib.hid (fun (W : World) (hB : Below w.heap.size w W) => hAm.below hB)
  have HAW := Lib.hid (fun W => awake_any W)
  clear hAm
  go_enter Tryd.func5, Tryd.ntmps5
  go_wp2_with fail
  refine (HAW.out _ (HM.out _ HZ.out)).mono ?_
  rintro e w1 ⟨rfl, hb⟩
  have hs := hb.size
  simp only [World.size_alloc] at hs
  have HA := Lib.hid (HA.out.below hb (by simp))
  have HZ := Lib.hid (HZ.out.trans (hb.mono (by simp)))
  have hz0 : w.heap.size < w1.heap.size := by omega
  clear hb hs
  have k0 := HA.out.1 0 _ rfl
  have k1 := HA.out.1 1 _ rfl
  have k2 := HA.out.1 2 _ rfl
  have k3 := HA.out.1 3 _ rfl
  have k4 := HA.out.1 4 _ rfl
  have k5 := HA.out.1 5 _ rfl
  have k6 := HA.out.1 6 _ rfl
  have k7 := HA.out.1 7 _ rfl
  have k8 := HA.out.1 8 _ rfl
  have k9 := HA.out.1 9 _ rfl
  have k10 := HA.out.1 10 _ rfl
  have k11 := HA.out.1 11 _ rfl
  have k12 := HA.out.1 12 _ rfl
  go_wp2_with fail
  refine (HE.out _ (HM.out _ HZ.out)).mono ?_
  rintro e w2 ⟨v, rfl, hv, hb⟩
  have hs := hb.size
  have HA := Lib.hid (HA.out.below hb (by omega))
  have HZ := Lib.hid (HZ.out.trans (hb.mono (by omega)))
  have HV := Lib.hid hv.byt
  have hz1 : w.heap.size < w2.heap.size := by omega
  clear hb hs hz0 hv
  have hz0 := hz1
  clear hz1
  clear k0 k1 k2 k3 k4 k5 k6 k7 k8 k9 k10 k11 k12
  obtain ⟨av, cv, hve⟩ := HV.out.slice
  subst hve
  have hbe := (Below.refl w2.heap.size w2).alloc (Nat.le_refl _) (.cells #[] 5)
  have HO := Lib.hid (OB.empty w2 (Nat.le_refl w2.heap.size))
  have HIN3 := Lib.hid ((HB0.out.below (HZ.out.trans (hbe.mono (by omega)))))
  have HV2 := Lib.hid (HV.out.below hbe)
  have HBE := Lib.hid hbe
  clear hbe
  go_wp2_with (at_builtin; refine append_OB rfl _ _ rfl rfl HO.out rfl HV2.out (by first | omega | (simp; omega)) (by simp) ?_)
  intro vb w4 ho hb
  have HO := Lib.hid ho
  have hs4 := hb.size
  simp only [World.size_alloc] at hs4
  have HIN3 := Lib.hid (HIN3.out.below (hb.mono (by omega)))
  have HBE := Lib.hid (HBE.out.trans hb)
  clear ho hb
  try simp only [List.nil_append] at HO
  go_wp2_with (at_builtin; refine append_OB rfl _ _ rfl rfl HO.out rfl HIN3.out (by omega) (by omega) ?_)
  intro vc w4b ho hb
  have HO := Lib.hid ho
  have hs4b := hb.size
  have HBE := Lib.hid (HBE.out.trans hb)
  clear ho hb
  have HV := Lib.hid ((HV.out.below HBE.out).mono (show w2.heap.size ≤ w4b.heap.size by omega))
  have HA := Lib.hid (HA.out.below HBE.out (by omega))
  have HZ := Lib.hid (HZ.out.trans (HBE.out.mono (by omega)))
  have hz1 : w.heap.size < w4b.heap.size := by omega
  clear hz0 hs4 hs4b HBE HV2 HIN3
  have hz0 := hz1
  clear hz1
  generalize X ++ B = AX at *
  obtain ⟨aa, ca, hva, hca⟩ := HO.out.form
  subst hva
  go_wp2_with fail
  refine (HPB.out aa ca _ (HM.out _ HZ.out) HO.out.byt hca).mono ?_
  rintro e w5 ⟨rfl, hb⟩
  have hs := hb.size
  have HA := Lib.hid (HA.out.below hb (by omega))
  have HZ := Lib.hid (HZ.out.trans (hb.mono (by omega)))
  have HV := Lib.hid ((HV.out.below hb).mono hb.size)
  have hz1 : w.heap.size < w5.heap.size := by omega
  clear hb hs hz0 
  have hz0 := hz1
  clear hz1
  clear HO hca
  have HT := Lib.hid (Own.new_at w5 [.string nm, .int .i64 y, .int .i64 mo, .int .i64 da, .int .i64 ho, .int .i64 mi, .int .i64 se, .int .i64 (me : Nat), .int .u32 0, .int .i64 0, .int .i64 0, .bool gw, .bool true] 26 w5.heap.size rfl)
  have hba := (Below.refl w5.heap.size w5).alloc (Nat.le_refl _) (.cells #[.string nm, .int .i64 y, .int .i64 mo, .int .i64 da, .int .i64 ho, .int .i64 mi, .int .i64 se, .int .i64 (me : Nat), .int .u32 0, .int .i64 0, .int .i64 0, .bool gw, .bool true] 26)
  have HA := Lib.hid (HA.out.below hba (by omega))
  have HV := Lib.hid (HV.out.below (hba.mono (by omega)))
  have HZ := Lib.hid (HZ.out.trans (hba.mono (by omega)))
  have hz_w6 : w5.heap.size < (w5.alloc (.cells #[.string nm, .int .i64 y, .int .i64 mo, .int .i64 da, .int .i64 ho, .int .i64 mi, .int .i64 se, .int .i64 (me : Nat), .int .u32 0, .int .i64 0, .int .i64 0, .bool gw, .bool true] 26)).heap.size := by simp
  clear hba
  go_upto_region 9 with (fail)
  generalize w5.alloc (.cells #[.string nm, .int .i64 y, .int .i64 mo, .int .i64 da, .int .i64 ho, .int .i64 mi, .int .i64 se, .int .i64 (me : Nat), .int .u32 0, .int .i64 0, .int .i64 0, .bool gw, .bool true] 26) = w6 at *
  generalize w5.heap.size = b9 at *
  have k0 := HA.out.1 0 _ rfl
  have k1 := HA.out.1 1 _ rfl
  have k2 := HA.out.1 2 _ rfl
  have k3 := HA.out.1 3 _ rfl
  have k4 := HA.out.1 4 _ rfl
  have k5 := HA.out.1 5 _ rfl
  have k6 := HA.out.1 6 _ rfl
  have k7 := HA.out.1 7 _ rfl
  have k8 := HA.out.1 8 _ rfl
  have k9 := HA.out.1 9 _ rfl
  have k10 := HA.out.1 10 _ rfl
  have k11 := HA.out.1 11 _ rfl
  have k12 := HA.out.1 12 _ rfl
  have HW := Lib.hid (Own.new_at w6 [.string nm, .int .i64 y, .int .i64 mo, .int .i64 da, .int .i64 ho, .int .i64 mi, .int .i64 se, .int .i64 (me : Nat), .int .u32 (cr : Nat), .int .i64 (pk : Nat), .int .i64 (sz : Nat), .bool gw, .bool true] 26 w6.heap.size rfl)
  have hba := (Below.refl w6.heap.size w6).alloc (Nat.le_refl _) (.cells #[.string nm, .int .i64 y, .int .i64 mo, .int .i64 da, .int .i64 ho, .int .i64 mi, .int .i64 se, .int .i64 (me : Nat), .int .u32 (cr : Nat), .int .i64 (pk : Nat), .int .i64 (sz : Nat), .bool gw, .bool true] 26)
  have HA := Lib.hid (HA.out.below hba (by omega))
  have HT := Lib.hid (HT.out.below hba (by omega))
  have HV := Lib.hid (HV.out.below (hba.mono (by omega)))
  have HZ := Lib.hid (HZ.out.trans (hba.mono (by omega)))
  have hz_w7 : w6.heap.size < (w6.alloc (.cells #[.string nm, .int .i64 y, .int .i64 mo, .int .i64 da, .int .i64 ho, .int .i64 mi, .int .i64 se, .int .i64 (me : Nat), .int .u32 (cr : Nat), .int .i64 (pk : Nat), .int .i64 (sz : Nat), .bool gw, .bool true] 26)).heap.size := by simp
  clear hba
  go_upto_region 10 with (fail)
  generalize w6.alloc (.cells #[.string nm, .int .i64 y, .int .i64 mo, .int .i64 da, .int .i64 ho, .int .i64 mi, .int .i64 se, .int .i64 (me : Nat), .int .u32 (cr : Nat), .int .i64 (pk : Nat), .int .i64 (sz : Nat), .bool gw, .bool true] 26) = w7 at *
  generalize w6.heap.size = b12 at *
  clear k0 k1 k2 k3 k4 k5 k6 k7 k8 k9 k10 k11 k12
  have k12 := HW.out.1 12 _ rfl
  have y8 := HW.out.1 8 _ rfl
  have y9 := HW.out.1 9 _ rfl
  have y10 := HW.out.1 10 _ rfl
  have kk := HA.out.1 12 _ rfl
  have hfr := HW.out.2
  go_upto_region 12 with (fail)
  clear k12 y8 y9 y10 hfr kk
  have HV := Lib.hid (HV.out.below (B := b9) ((((Below.refl b9 w7).setCell (p := ⟨b12, 8, none⟩) (by show b9 ≤ b12; omega) (.int .u32 0)).setCell (p := ⟨b12, 9, none⟩) (by show b9 ≤ b12; omega) (.int .i64 0)).setCell (p := ⟨b12, 10, none⟩) (by show b9 ≤ b12; omega) (.int .i64 0)))
  have HW := Lib.hid (((HW.out.set 8 (.int .u32 0) (by simp)).set 9 (.int .i64 0) (by simp)).set 10 (.int .i64 0) (by simp))
  have HA := Lib.hid (((HA.out.other (c := b12) (by omega) 8 (.int .u32 0)).other (c := b12) (by omega) 9 (.int .i64 0)).other (c := b12) (by omega) 10 (.int .i64 0))
  have HT := Lib.hid (((HT.out.other (c := b12) (by omega) 8 (.int .u32 0)).other (c := b12) (by omega) 9 (.int .i64 0)).other (c := b12) (by omega) 10 (.int .i64 0))
  have HZ := Lib.hid (((HZ.out.setCell (p := ⟨b12, 8, none⟩) (by show w.heap.size ≤ b12; omega) (.int .u32 0)).setCell (p := ⟨b12, 9, none⟩) (by show w.heap.size ≤ b12; omega) (.int .i64 0)).setCell (p := ⟨b12, 10, none⟩) (by show w.heap.size ≤ b12; omega) (.int .i64 0))
  have hz2 : b12 < (((w7.setCell ⟨b12, 8, none⟩ (.int .u32 0)).setCell ⟨b12, 9, none⟩ (.int .i64 0)).setCell ⟨b12, 10, none⟩ (.int .i64 0)).heap.size := by simpa using hz_w7
  generalize (((w7.setCell ⟨b12, 8, none⟩ (.int .u32 0)).setCell ⟨b12, 9, none⟩ (.int .i64 0)).setCell ⟨b12, 10, none⟩ (.int .i64 0)) = w8 at *
  simp only [List.set_cons_zero, List.set_cons_succ] at HW
  have hcv : X.length ≤ cv := by
    rcases HV.out with ⟨a', c', hv, h2, _⟩ | ⟨b, off, c', hv, h3, _⟩
    · rw [h2]; exact Nat.zero_le _
    · injection hv with _ _ h5; omega
  obtain ⟨ak, ck, hsl, hck, hsb⟩ := cut_head HV.out hcv k (by omega)
  have HSB := Lib.hid hsb
  obtain ⟨q1, q2, q3, q4⟩ := HQ.out
  clear hsb hcv
  go_wp2_with (fail)
  refine (HPC.out ak ck _ (HM.out _ HZ.out) (HSB.out.mono (by omega)) hck).mono ?_
  rintro e w9 ⟨z, hz, rfl, hb⟩
  have tz : (z != 0) = true := by simpa using hz
  have HT := Lib.hid (HT.out.below hb (by omega))
  have HW := Lib.hid (HW.out.below hb (by omega))
  have HZ := Lib.hid (HZ.out.trans (hb.mono (by omega)))
  have hz9 : w.heap.size < w9.heap.size := by have := hb.size; omega
  have hz10 : b9 < w9.heap.size ∧ b12 < w9.heap.size := by have := hb.size; omega
  clear hb hz q1 q2 q3 q4 hsl HSB
  have HT := Lib.hid (HT.out.below ((Below.refl w9.heap.size w9).alloc (Nat.le_refl _) (.cells #[.string ByteArray.empty, .int .i64 0, .int .i64 0, .int .i64 0, .int .i64 0, .int .i64 0, .int .i64 0, .int .i64 0, .int .u32 0, .int .i64 0, .int .i64 0, .bool false, .bool false] 26)) hz10.1)
  have HW := Lib.hid (HW.out.below ((Below.refl w9.heap.size w9).alloc (Nat.le_refl _) (.cells #[.string ByteArray.empty, .int .i64 0, .int .i64 0, .int .i64 0, .int .i64 0, .int .i64 0, .int .i64 0, .int .i64 0, .int .u32 0, .int .i64 0, .int .i64 0, .bool false, .bool false] 26)) hz10.2)
  have HZ := Lib.hid (HZ.out.alloc (Nat.le_of_lt hz9) (.cells #[.string ByteArray.empty, .int .i64 0, .int .i64 0, .int .i64 0, .int .i64 0, .int .i64 0, .int .i64 0, .int .i64 0, .int .u32 0, .int .i64 0, .int .i64 0, .bool false, .bool false] 26))
  go_upto_region 13 with (fail)
  generalize w9.alloc (.cells #[.string ByteArray.empty, .int .i64 0, .int .i64 0, .int .i64 0, .int .i64 0, .int .i64 0, .int .i64 0, .int .i64 0, .int .u32 0, .int .i64 0, .int .i64 0, .bool false, .bool false] 26) = w10 at *
  have y0 := HT.out.1 0 _ rfl
  have y1 := HT.out.1 1 _ rfl
  have y2 := HT.out.1 2 _ rfl
  have y3 := HT.out.1 3 _ rfl
  have y4 := HT.out.1 4 _ rfl
  have y5 := HT.out.1 5 _ rfl
  have y6 := HT.out.1 6 _ rfl
  have y7 := HT.out.1 7 _ rfl
  have y8 := HT.out.1 8 _ rfl
  have y9 := HT.out.1 9 _ rfl
  have y10 := HT.out.1 10 _ rfl
  have y11 := HT.out.1 11 _ rfl
  have y12 := HT.out.1 12 _ rfl
  have x0 := HW.out.1 0 _ rfl
  have x1 := HW.out.1 1 _ rfl
  have x2 := HW.out.1 2 _ rfl
  have x3 := HW.out.1 3 _ rfl
  have x4 := HW.out.1 4 _ rfl
  have x5 := HW.out.1 5 _ rfl
  have x6 := HW.out.1 6 _ rfl
  have x7 := HW.out.1 7 _ rfl
  have x8 := HW.out.1 8 _ rfl
  have x9 := HW.out.1 9 _ rfl
  have x10 := HW.out.1 10 _ rfl
  have x11 := HW.out.1 11 _ rfl
  have x12 := HW.out.1 12 _ rfl
  go_wp2_with (fail)
  go_ret
  exact ⟨rfl, HZ.out⟩
theorem lb_walk (nm : ByteArray) (y mo da ho mi se me cr pk sz : Int) (gw gl : Bool) (ab : Option Addr) (cb : Nat) (B : List UInt8) (cu : Int) (w : World) (hAm : Amb w) (hB : Byt w w.heap.size (.slice ab B.length cb) B) (hcu0 : 0 ≤ cu) (hcu1 : cu ≤ 255) (hcr0 : 0 ≤ cr) (hcr1 : cr ≤ 4294967295) : Calls Tryd.prog 5 #[.agg #[.string nm, .int .i64 y, .int .i64 mo, .int .i64 da, .int .i64 ho, .int .i64 mi, .int .i64 se, .int .i64 me, .int .u32 cr, .int .i64 pk, .int .i64 sz, .bool gw, .bool gl], .slice ab B.length cb, .int .u8 cu] w (CQ (.bool true) w) := by
  obtain ⟨cu, rfl⟩ : ∃ x : Nat, cu = x := ⟨cu.toNat, by omega⟩
  by_cases h : lcode (chk nm) (Dos.rightB y mo da ho mi se) me pk sz = 0
  · have h' := lcode_0 h
    obtain ⟨cr, rfl⟩ : ∃ x : Nat, cr = x := ⟨cr.toNat, by omega⟩
    obtain ⟨pk, rfl⟩ : ∃ x : Nat, pk = x := ⟨pk.toNat, by omega⟩
    obtain ⟨sz, rfl⟩ : ∃ x : Nat, sz = x := ⟨sz.toNat, by omega⟩
    obtain ⟨me, rfl⟩ : ∃ x : Nat, me = x := ⟨me.toNat, by omega⟩
    by_cases hl : B.length ≤ 300
    · cases gl with
      | false => exact lb_yes_f nm y mo da ho mi se me cr pk sz gw ab cb B cu w hAm hB (by omega) (by omega) h hl
      | true => exact lb_yes_t nm y mo da ho mi se me cr pk sz gw ab cb B cu w hAm hB (by omega) (by omega) h hl
    · exact lb_long nm y mo da ho mi se me cr pk sz gw gl ab cb B cu w hAm (by omega) h (by omega)
  · exact lb_none nm y mo da ho mi se me cr pk sz gw gl ab cb B cu w hAm (by simpa using h)
end Go.Proofs.YtcpojpgdjjmfbaaDoor
namespace Go.Proofs.YtcpojpgdjjmfbaaDoor.localBack
set_option maxRecDepth 100000
set_option linter.unusedVariables false
set_option linter.unusedSimpArgs false
open Go.ChangeShapes Go.WideShapes Go.ChangeAt Go.RowKit Go.ChangeMaps 
set_option linter.unusedVariables false
set_option maxRecDepth 100000 in
theorem lifted (os : Os) (started : os.Started) (H : Type) (enc : TypeId × Value → H) :
    ReturnsInHanded {} Tryd.checked os 5 .any (fun w args => (Rows.localBackSpec.pre enc Tryd.prog Tryd.f5 Rows.localBackRow.domain false w args ∧ laidMetH Tryd.prog laidN w) ∧ sizedMet enc Tryd.prog Tryd.f5 (OpenSpec.ofChange Rows.localBackSpec) false w args)
      (Rows.localBackSpec.post enc Tryd.prog Tryd.f5 false true false false) := by
  refine returns_laid (C := Tryd.checked) (X := fun w _ => laidMetH Tryd.prog laidN w) (fun _ _ _ hh h => h.of_heap hh) own started (by kernel_rfl) Tryd.func5
    (ChangeSpec.witness_shaped (enc := enc) (C := Tryd.checked) (os := os) (X := fun w _ => laidMetH Tryd.prog laidN w) false (World.laidAll Tryd.prog os laidN) #[.agg #[.string ByteArray.empty, .int .i64 0, .int .i64 0, .int .i64 0, .int .i64 0, .int .i64 0, .int .i64 0, .int .i64 0, .int .u32 0, .int .i64 0, .int .i64 0, .bool false, .bool false], .slice none 0 0, .int .u8 0] 8 (World.laidAll_os _ _ _)
      (World.shaped_of_ZipB (by kernel_rfl) (by kernel_rfl)) (by kernel_rfl) (by kernel_rfl) (by kernel_rfl) (laid_met os _)) ?_
  intro W base args ds gs before hval0 hW hL hsh
  have hval : ∀ (j : Nat) t v, Tryd.f5.params[j]? = some t → args[j]? = some v → Value.okWide Tryd.prog W .any base t v := hval0
  have hW' := hW
  obtain ⟨p, q, hA0, hV, rfl, hfz, hnd⟩ := hW
  have hA : DataW.TrodAll enc Tryd.prog W 0 (fun _ => true) true Tryd.f5.params.toList args.toList ds p := hA0
  rw [Tryd.params5] at hA hval
  obtain ⟨v0, vs0, d0, ds0, p0, q0, hargs, rfl, rfl, h0, r0⟩ := trodAll_cons hA
  obtain ⟨v1, vs1, d1, ds1, p1, q1, rfl, rfl, rfl, h1, r1⟩ := trodAll_cons r0
  obtain ⟨v2, vs2, d2, ds2, p2, q2, rfl, rfl, rfl, h2, r2⟩ := trodAll_cons r1
  obtain ⟨rfl, rfl, rfl⟩ := trodAll_nil r2
  obtain rfl : args = #[v0, v1, v2] := by cases args; simp_all
  obtain ⟨rfl, rfl⟩ := trodVars_none hV
  obtain ⟨nm, y, mo, da, ho, mi, se, me, cr, pk, sz, gw, gl, rfl, hnm, wcr⟩ := hdr_open (hval 0 26 v0 rfl rfl) h0
  obtain ⟨ad1', len1', cap1', rfl⟩ := okWide_slice Tryd.underlying31 (hval 1 31 v1 rfl rfl)
  obtain ⟨fuel1, hf1⟩ := h1
  obtain ⟨ab, cb, B, he1, hc1, hBB, hm⟩ := bytes_open hf1
  rw [he1] at hBB hW' ⊢
  obtain ⟨k, rfl, rfl, rfl, wk⟩ := open_int Tryd.underlying5 (hval 2 5 v2 rfl rfl) h2
  refine (lb_walk nm y mo da ho mi se me cr pk sz gw gl ab cb B k W (amb_of hL hsh) hBB (u8_bd wk).1 (u8_bd wk).2 (u32_bd wcr).1 (u32_bd wcr).2).mono fun e W' ⟨he, hb⟩ => ?_
  subst he
  exact ⟨_, rfl, law_post rfl hW' ⟨⟨by kernel_rfl, by kernel_rfl⟩, ⟨by kernel_rfl, by kernel_rfl⟩, ⟨by kernel_rfl, by kernel_rfl⟩, trivial⟩ (by kernel_rfl) rfl hb⟩
theorem holds : Rows.LocalBackSaid :=
  OpenClaim.holds_of_wide 5 Tryd.f5 rfl rfl rfl rfl rfl rfl rfl ⟨rfl, rfl, rfl, rfl, rfl⟩ rfl rfl rfl rfl rfl (by kernel_rfl) Tryd.func5 (by kernel_rfl)
    (of_decide_eq_true (by kernel_rfl)) (by unfold Func.isWrapper; first | (rw [if_pos (by decide +kernel)]; kernel_rfl) | (rw [if_neg (by decide +kernel)]; exact ⟨rfl, rfl⟩))
    (fun os started H enc _ => lifted os started H enc)
theorem proved : Rows.LocalBackCardSaid :=
  Claim7.holds_tied_plain_at .later [] [.data, .pinned] true (true, "88dd1f70a1219e16588789b1159d5ecbdbfc68bb26d13095164674a6e4ba440e") true holds (fun _ h => by cases h) (by kernel_rfl) (fun _ h => by cases h) localBack_row_tie rfl ⟨rfl, rfl⟩ (by kernel_rfl) rfl
    (fun f fn hf hfn => by
      obtain rfl : f = 5 := Option.some.inj ((show Tryd.prog.funcNamed "punnet/punnetlaw27.LocalBack" = some 5 by kernel_rfl).symm.trans hf) |>.symm
      obtain rfl : fn = Tryd.f5 := (Option.some.inj (Tryd.func5.symm.trans hfn)).symm
      exact ⟨by kernel_rfl, fun j t ht => by
        rw [Tryd.params5] at ht
        have hm : t ∈ [26, 31, 5] := by simpa using Array.mem_of_getElem? ht
        have hall : ([26, 31, 5].all fun u => !Tryd.prog.wantsStandIn u) = true := by kernel_rfl
        exact (show Tryd.prog.wantsStandIn t = false by simpa using List.all_eq_true.1 hall t hm)⟩)
    (by kernel_rfl)
#print axioms proved
end Go.Proofs.YtcpojpgdjjmfbaaDoor.localBack
