/- What was written is read: plain. -/
import Derived.Test.YtjkmgakgjoojfaaDoorCenH
namespace Go.Proofs.YtjkmgakgjoojfaaDoor
set_option maxRecDepth 100000
set_option linter.unusedVariables false
set_option linter.unusedSimpArgs false
open Go.RowKit
theorem fN_later (nm : ByteArray) (g : Bool) : (fN nm g / 8 % 2 == 1) = g := by
  unfold fN; cases g <;> cases asc nm <;> rfl
theorem tm_back {y mo da ho mi se : Int} (h : Dos.rightB y mo da ho mi se = true) :
    1980 + ((dN y mo da : Nat) : Int) / 512 = y ∧ ((dN y mo da : Nat) : Int) / 32 % 16 = mo ∧ ((dN y mo da : Nat) : Int) % 32 = da ∧ ((cN ho mi se : Nat) : Int) / 2048 = ho ∧ ((cN ho mi se : Nat) : Int) / 32 % 64 = mi ∧ ((cN ho mi se : Nat) : Int) % 32 * 2 = se := by
  obtain ⟨e1, e2, _, _⟩ := dc_bd h
  obtain ⟨h1, h2, h3, h4, h5, h6, h7, h8, h9, h10, h11, h12, h13⟩ := Dos.right_elim h
  have h14 := (Dos.days_le y mo).2
  rw [← e1, ← e2]
  unfold Dos.dateOf Dos.clockOf
  refine ⟨?_, ?_, ?_, ?_, ?_, ?_⟩ <;> omega
section
variable (nm : ByteArray) (y mo da ho mi se : Int) (me cr pk sz : Nat) (gw gl : Bool) (pl : Nat)
/-- The record of a header. -/
def recHC : List UInt8 := recC nm (dN y mo da) (cN ho mi se) me cr pk sz (fN nm gl) pl gw
structure RecCIs (l : List UInt8) : Prop where
  fn : rd l 28 2 = nm.size
  fnm : nmC l = nm
  fgw : gwC l = gw
  fgl : glC l = gl
  m0 : rd l 0 4 = 33639248
  m4 : rd l 4 2 = 788
  m6 : rd l 6 2 = cond gw 45 20
  m8 : rd l 8 2 = fN nm gl
  m10 : rd l 10 2 = me
  m12 : rd l 12 2 = cN ho mi se
  m14 : rd l 14 2 = dN y mo da
  m16 : rd l 16 4 = cr
  m30 : rd l 30 2 = cond gw 28 0
  m32 : rd l 32 2 = 0
  m34 : rd l 34 2 = 0
  m36 : rd l 36 2 = 0
  m38 : rd l 38 4 = 2175008768
  fwd : gw = true → WPC l (46 + nm.size) (rd l 20 4) (rd l 24 4) (rd l 42 4)
  fpk : pkC l = (pk : Nat)
  fsz : szC l = (sz : Nat)
  fpl : plC l = (pl : Nat)
theorem recCIs (h : ccode (lcode (chk nm) (Dos.rightB y mo da ho mi se) (me : Nat) (pk : Nat) (sz : Nat)) (pl : Nat) = 0) (hcr : cr < 4294967296) (l : List UInt8) (hl : (recHC nm y mo da ho mi se me cr pk sz gw gl pl).length ≤ l.length) (ht : l.take (recHC nm y mo da ho mi se me cr pk sz gw gl pl).length = recHC nm y mo da ho mi se me cr pk sz gw gl pl) :
    RecCIs nm y mo da ho mi se me cr pk sz gw gl pl l := by
  obtain ⟨h0, _, hp1⟩ := ccode_0 h
  obtain ⟨hb, hr, hm, h1, h2, h3, h4, h5⟩ := lcode_0 h0
  obtain ⟨_, _, hD, hC⟩ := dc_bd hr
  have hns := chk_size hb
  have hfl := fN_le nm gl
  unfold recHC at hl ht
  rw [recC_len] at hl
  obtain ⟨⟨m0, m4, m6, m8, m10, m12, m14, m16, m20, m24, m28, m30, m32, m34, m36, m38, m42, _⟩, hnm, hB⟩ := (recC_iff l nm _ _ _ _ _ _ _ _ gw hl (by omega) (by omega) (by omega) hcr (by omega) (by omega) (by omega) (by omega) (by omega)).1 ht
  simp only [Nat.zero_add, Nat.reduceAdd] at m4 m6 m8 m10 m12 m14 m16 m20 m24 m28 m30 m32 m34 m36 m38 m42
  have hg : gwC l = gw := by unfold gwC; rw [m6]; cases gw <;> rfl
  have hg2 : glC l = gl := by unfold glC; rw [m8]; exact fN_later nm gl
  have e1 : nmC l = nm := by
    unfold nmC
    rw [m28, hnm]
    rfl
  have hw : gw = true → WPC l (46 + nm.size) (rd l 20 4) (rd l 24 4) (rd l 42 4) ∧ rd l (50 + nm.size) 8 = sz ∧ rd l (58 + nm.size) 8 = pk ∧ rd l (66 + nm.size) 8 = pl := by
    intro hgw
    obtain ⟨k0, k2, k4, k12, k20, _⟩ := hB hgw
    rw [hgw] at m20 m24 m42 hl
    rw [show 46 + nm.size + 2 + 2 = 50 + nm.size by omega] at k4 k12 k20
    rw [show 50 + nm.size + 8 = 58 + nm.size by omega] at k12 k20
    rw [show 58 + nm.size + 8 = 66 + nm.size by omega] at k20
    have hl' : 46 + nm.size + 28 ≤ l.length := hl
    exact ⟨⟨m20, m24, m42, by omega, k0, k2⟩, k4, k12, k20⟩
  refine ⟨m28, e1, hg, hg2, m0, m4, m6, m8, m10, m12, m14, m16, m30, m32, m34, m36, m38, fun hgw => (hw hgw).1, ?_, ?_, ?_⟩
  · unfold pkC
    rw [hg, m28]
    cases hgw : gw with
    | true =>
      have := (hw hgw).2.2.1
      show wd8 l (58 + nm.size) = _
      rw [wd8_mid (by rw [this]; omega), this]
    | false =>
      rw [hgw] at m20
      show ((rd l 20 4 : Nat) : Int) = _
      rw [m20]; rfl
  · unfold szC
    rw [hg, m28]
    cases hgw : gw with
    | true =>
      have := (hw hgw).2.1
      show wd8 l (50 + nm.size) = _
      rw [wd8_mid (by rw [this]; omega), this]
    | false =>
      rw [hgw] at m24
      show ((rd l 24 4 : Nat) : Int) = _
      rw [m24]; rfl
  · unfold plC
    rw [hg, m28]
    cases hgw : gw with
    | true =>
      have := (hw hgw).2.2.2
      show wd8 l (66 + nm.size) = _
      rw [wd8_mid (by rw [this]; omega), this]
    | false =>
      rw [hgw] at m42
      show ((rd l 42 4 : Nat) : Int) = _
      rw [m42]; rfl
/-- A record, with whatever behind it, is one; and it tells the header. -/
theorem recC_acd (h : ccode (lcode (chk nm) (Dos.rightB y mo da ho mi se) (me : Nat) (pk : Nat) (sz : Nat)) (pl : Nat) = 0) (hcr : cr < 4294967296) (rest : List UInt8) :
    ACD (recHC nm y mo da ho mi se me cr pk sz gw gl pl ++ rest) ∧
    hdrC (recHC nm y mo da ho mi se me cr pk sz gw gl pl ++ rest) = .agg #[.string nm, .int .i64 y, .int .i64 mo, .int .i64 da, .int .i64 ho, .int .i64 mi, .int .i64 se, .int .i64 (me : Nat), .int .u32 (cr : Nat), .int .i64 (pk : Nat), .int .i64 (sz : Nat), .bool gw, .bool gl, .int .i64 (pl : Nat)] ∧
    endC (recHC nm y mo da ho mi se me cr pk sz gw gl pl ++ rest) = (recHC nm y mo da ho mi se me cr pk sz gw gl pl).length := by
  have hlen : (recHC nm y mo da ho mi se me cr pk sz gw gl pl).length = 46 + nm.size + cond gw 28 0 := recC_len _ _ _ _ _ _ _ _ _ _
  have R := recCIs nm y mo da ho mi se me cr pk sz gw gl pl h hcr (recHC nm y mo da ho mi se me cr pk sz gw gl pl ++ rest) (by rw [List.length_append]; omega) List.take_left
  have hl2 : 46 + nm.size + cond gw 28 0 ≤ (recHC nm y mo da ho mi se me cr pk sz gw gl pl ++ rest).length := by rw [List.length_append]; omega
  generalize recHC nm y mo da ho mi se me cr pk sz gw gl pl ++ rest = l at *
  have hr := (lcode_0 (ccode_0 h).1).2.1
  obtain ⟨t1, t2, t3, t4, t5, t6⟩ := tm_back hr
  refine ⟨⟨?_, R.m0, R.m4, ?_, ?_, ?_, R.m32, R.m34, R.m36, R.m38, ?_, ?_, ?_⟩, ?_, ?_⟩
  · rw [R.fn]; omega
  · unfold tmB; rw [R.m12, R.m14, t1, t2, t3, t4, t5, t6]; exact hr
  · rw [R.m6, R.fgw]; unfold verI; cases gw <;> rfl
  · rw [R.m8, R.fnm, R.fgl]; exact (fN_eq nm gl).symm
  · rw [R.m30, R.fgw]
  · rw [R.fgw, R.fn]; exact R.fwd
  · rw [R.fnm, R.m10, R.fpk, R.fsz, R.fpl]
    rw [hr] at h
    exact h
  · unfold hdrC hcV
    rw [R.fnm, R.m12, R.m14, R.m10, R.m16, R.fpk, R.fsz, R.fpl, R.fgw, R.fgl, t1, t2, t3, t4, t5, t6]
  · unfold endC
    rw [R.fn, R.fgw, hlen]
theorem recC_cut (h : ccode (lcode (chk nm) (Dos.rightB y mo da ho mi se) (me : Nat) (pk : Nat) (sz : Nat)) (pl : Nat) = 0) (hcr : cr < 4294967296) (k : Nat) (hk : k < (recHC nm y mo da ho mi se me cr pk sz gw gl pl).length) : ¬ ACD ((recHC nm y mo da ho mi se me cr pk sz gw gl pl).take k) := by
  intro a
  have R := recCIs nm y mo da ho mi se me cr pk sz gw gl pl h hcr (recHC nm y mo da ho mi se me cr pk sz gw gl pl) (Nat.le_refl _) (List.take_of_length_le (Nat.le_refl _))
  have hlen : (recHC nm y mo da ho mi se me cr pk sz gw gl pl).length = 46 + nm.size + cond gw 28 0 := recC_len _ _ _ _ _ _ _ _ _ _
  generalize recHC nm y mo da ho mi se me cr pk sz gw gl pl = l at *
  have hkl : (l.take k).length = k := by rw [List.length_take]; omega
  have h1 := a.len
  rw [hkl] at h1
  have e28 := rd_take l k 28 2 (by omega)
  have e6 := rd_take l k 6 2 (by omega)
  rw [e28, R.fn] at h1
  have hg : gwC (l.take k) = gw := by
    have := R.fgw
    unfold gwC at this ⊢
    rw [e6]; exact this
  cases hgw : gw with
  | false => rw [hgw] at hlen; simp at hlen; omega
  | true =>
    rw [hgw] at hlen hg
    have h2 := (a.wd hg).2.2.2.1
    rw [e28, R.fn, hkl] at h2
    simp at hlen
    omega
end
end Go.Proofs.YtjkmgakgjoojfaaDoor
