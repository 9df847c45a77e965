/- What bytes begin with a central record: plain. -/
import Derived.Test.YtjkmgakgjoojfaaDoorCenN
import Derived.Test.YtjkmgakgjoojfaaDoorCenD
namespace Go.Proofs.YtjkmgakgjoojfaaDoor
set_option maxRecDepth 100000
set_option linter.unusedVariables false
set_option linter.unusedSimpArgs false
open Go.RowKit
/-- The numbers ahead of the name, and those behind it. -/
def csA (nz D C me cr pk sz f pl : Nat) (gw : Bool) : List (Nat × Nat) := [(4, 33639248), (2, 788), (2, cond gw 45 20), (2, f), (2, me), (2, C), (2, D), (4, cr), (4, cond gw 4294967295 pk), (4, cond gw 4294967295 sz), (2, nz), (2, cond gw 28 0), (2, 0), (2, 0), (2, 0), (4, 2175008768), (4, cond gw 4294967295 pl)]
def csB (pk sz pl : Nat) : List (Nat × Nat) := [(2, 1), (2, 24), (8, sz), (8, pk), (8, pl)]
theorem recC_ns (nm : ByteArray) (D C me cr pk sz f pl : Nat) (gw : Bool) : recC nm D C me cr pk sz f pl gw = fl (csA nm.size D C me cr pk sz f pl gw) ++ (nm.data.toList ++ cond gw (fl (csB pk sz pl)) []) := by
  unfold recC csA csB
  cases gw <;> simp [bys_fl, fl, List.append_assoc]
theorem recC_iff (l : List UInt8) (nm : ByteArray) (D C me cr pk sz f pl : Nat) (gw : Bool) (hl : 46 + nm.size + cond gw 28 0 ≤ l.length) (hD : D < 65536) (hC : C < 65536) (hme : me < 65536) (hcr : cr < 4294967296) (hpk : pk < 4294967296) (hsz : sz < 4294967296) (hf : f < 65536) (hpl : pl < 4294967296) (hnm : nm.size < 65536) :
    l.take (recC nm D C me cr pk sz f pl gw).length = recC nm D C me cr pk sz f pl gw ↔
    MT l 0 (csA nm.size D C me cr pk sz f pl gw) ∧ (l.drop 46).take nm.size = nm.data.toList ∧ (gw = true → MT l (46 + nm.size) (csB pk sz pl)) := by
  have hA : wsum (csA nm.size D C me cr pk sz f pl gw) = 46 := rfl
  have sA : small (csA nm.size D C me cr pk sz f pl gw) := by
    unfold csA small
    cases gw <;> simp [small] <;> omega
  have hn : nm.data.toList.length = nm.size := Array.length_toList
  rw [MT_iff l _ 0 (by rw [hA]; omega) sA, hA, List.drop_zero]
  rw [recC_len, recC_ns]
  have h46 : (fl (csA nm.size D C me cr pk sz f pl gw)).length = 46 := by rw [fl_length, hA]
  rw [show 46 + nm.size + cond gw 28 0 = 46 + (nm.size + cond gw 28 0) by omega, take_split _ _ _ _ _ h46]
  refine and_congr Iff.rfl ?_
  rw [take_split _ _ _ _ _ hn, List.drop_drop]
  refine and_congr Iff.rfl ?_
  cases gw with
  | false => simp
  | true =>
    have sB : small (csB pk sz pl) := by
      unfold csB small
      simp [small]
      omega
    have hB : wsum (csB pk sz pl) = 28 := rfl
    have hl' : 46 + nm.size + 28 ≤ l.length := hl
    rw [MT_iff l _ (46 + nm.size) (by rw [hB]; omega) sB, hB]
    simp
def pkNC (l : List UInt8) : Nat := cond (gwC l) (rd l (58 + rd l 28 2) 8) (rd l 20 4)
def szNC (l : List UInt8) : Nat := cond (gwC l) (rd l (50 + rd l 28 2) 8) (rd l 24 4)
def plNC (l : List UInt8) : Nat := cond (gwC l) (rd l (66 + rd l 28 2) 8) (rd l 42 4)
theorem wd8_mid {l : List UInt8} {p : Nat} (h : rd l p 8 ≤ 8589934592) : wd8 l p = (rd l p 8 : Nat) := IntWalk.i64_in _ (by omega)
/-- The record that the page would write of a header that bytes tell. -/
def recCO (l : List UInt8) : List UInt8 := recC (nmC l) (rd l 14 2) (rd l 12 2) (rd l 10 2) (rd l 16 4) (pkNC l) (szNC l) (fN (nmC l) (glC l)) (plNC l) (gwC l)
theorem nmC_size (l : List UInt8) (h : 46 + rd l 28 2 ≤ l.length) : (nmC l).size = rd l 28 2 := by
  show ((l.drop 46).take (rd l 28 2)).length = _
  rw [List.length_take, List.length_drop]; omega
structure PAD (l : List UInt8) : Prop where
  len : 46 + rd l 28 2 ≤ l.length
  tm : tmB (rd l 14 2) (rd l 12 2) = true
  wd : gwC l = true → 74 + rd l 28 2 ≤ l.length ∧ szNC l ≤ 8589934592 ∧ pkNC l ≤ 8589934592 ∧ plNC l ≤ 8589934592
  ck : ccode (lcode (chk (nmC l)) true (rd l 10 2 : Nat) (pkNC l : Nat) (szNC l : Nat)) (plNC l : Nat) = 0
  fit : (recCO l).length ≤ l.length
  eq : l.take (recCO l).length = recCO l
theorem pkC_ge {l : List UInt8} (h : 0 ≤ pkC l) : pkC l = (pkNC l : Nat) := by
  unfold pkC pkNC at *
  revert h
  cases gwC l with
  | false => exact fun _ => rfl
  | true => exact fun h => wd8_back h
theorem szC_ge {l : List UInt8} (h : 0 ≤ szC l) : szC l = (szNC l : Nat) := by
  unfold szC szNC at *
  revert h
  cases gwC l with
  | false => exact fun _ => rfl
  | true => exact fun h => wd8_back h
theorem plC_ge {l : List UInt8} (h : 0 ≤ plC l) : plC l = (plNC l : Nat) := by
  unfold plC plNC at *
  revert h
  cases gwC l with
  | false => exact fun _ => rfl
  | true => exact fun h => wd8_back h
theorem pkC_le {l : List UInt8} (h : gwC l = true → pkNC l ≤ 8589934592) : pkC l = (pkNC l : Nat) := by
  unfold pkC pkNC at *
  cases hg : gwC l with
  | false => rfl
  | true => exact wd8_mid (by have := h hg; rw [hg] at this; exact this)
theorem szC_le {l : List UInt8} (h : gwC l = true → szNC l ≤ 8589934592) : szC l = (szNC l : Nat) := by
  unfold szC szNC at *
  cases hg : gwC l with
  | false => rfl
  | true => exact wd8_mid (by have := h hg; rw [hg] at this; exact this)
theorem plC_le {l : List UInt8} (h : gwC l = true → plNC l ≤ 8589934592) : plC l = (plNC l : Nat) := by
  unfold plC plNC at *
  cases hg : gwC l with
  | false => rfl
  | true => exact wd8_mid (by have := h hg; rw [hg] at this; exact this)
theorem ck_bd {b : Bool} {me pk sz pl : Nat} (hc : ccode (lcode b true (me : Nat) (pk : Nat) (sz : Nat)) (pl : Nat) = 0) : pk < 4294967296 ∧ sz < 4294967296 ∧ pl < 4294967296 := by
  obtain ⟨h0, h1, h2⟩ := ccode_0 hc
  have := lcode_0 h0
  omega
/-- All that the record's bytes must be. -/
theorem recC_all (l : List UInt8) (hlen : 46 + rd l 28 2 + cond (gwC l) 28 0 ≤ l.length) (hb : pkNC l < 4294967296 ∧ szNC l < 4294967296 ∧ plNC l < 4294967296) :
    l.take (recCO l).length = recCO l ↔ MT l 0 (csA (nmC l).size (rd l 14 2) (rd l 12 2) (rd l 10 2) (rd l 16 4) (pkNC l) (szNC l) (fN (nmC l) (glC l)) (plNC l) (gwC l)) ∧ (l.drop 46).take (nmC l).size = (nmC l).data.toList ∧ (gwC l = true → MT l (46 + (nmC l).size) (csB (pkNC l) (szNC l) (plNC l))) := by
  have hn := nmC_size l (by omega)
  have b1 : rd l 14 2 < 65536 := rd_lt l 14 2
  have b2 : rd l 12 2 < 65536 := rd_lt l 12 2
  have b3 : rd l 10 2 < 65536 := rd_lt l 10 2
  have b4 : rd l 16 4 < 4294967296 := rd_lt l 16 4
  have b5 : rd l 28 2 < 65536 := rd_lt l 28 2
  exact recC_iff l _ _ _ _ _ _ _ _ _ _ (by rw [hn]; exact hlen) b1 b2 b3 b4 hb.1 hb.2.1 (Nat.lt_of_le_of_lt (fN_le _ _) (by decide)) hb.2.2 (by rw [hn]; exact b5)
theorem PAD.acd {l : List UInt8} (p : PAD l) : ACD l := by
  have hb := ck_bd p.ck
  have hn := nmC_size l p.len
  have hlen : 46 + rd l 28 2 + cond (gwC l) 28 0 ≤ l.length := by
    cases hg : gwC l with
    | false => have := p.len; simpa using this
    | true => have := (p.wd hg).1; show 46 + rd l 28 2 + 28 ≤ _; omega
  obtain ⟨h1, h2, h3⟩ := (recC_all l hlen hb).1 p.eq
  have hpk := pkC_le (fun h => (p.wd h).2.2.1)
  have hsz := szC_le (fun h => (p.wd h).2.1)
  have hpl := plC_le (fun h => (p.wd h).2.2.2)
  obtain ⟨m0, m4, m6, m8, m10, m12, m14, m16, m20, m24, m28, m30, m32, m34, m36, m38, m42, _⟩ := h1
  simp only [Nat.zero_add, Nat.reduceAdd] at m4 m6 m8 m20 m24 m30 m32 m34 m36 m38 m42
  refine ⟨p.len, m0, m4, p.tm, ?_, ?_, m32, m34, m36, m38, m30, ?_, ?_⟩
  · unfold verI
    rw [m6]; cases gwC l <;> rfl
  · rw [m8]; exact (fN_eq _ _).symm
  · intro hg
    obtain ⟨k0, k2, _⟩ := h3 hg
    rw [hg] at m20 m24 m42
    rw [hn] at k0 k2
    exact ⟨m20, m24, m42, by have := (p.wd hg).1; omega, k0, k2⟩
  · rw [hpk, hsz, hpl]; exact p.ck
theorem ACD.pad {l : List UInt8} (p : ACD l) : PAD l := by
  have hn := nmC_size l p.len
  obtain ⟨hc0, hp0, hp1⟩ := ccode_0 p.ck
  have hl0 := lcode_0 hc0
  have hpk := pkC_ge hl0.2.2.2.2.2.1
  have hsz := szC_ge hl0.2.2.2.1
  have hpl := plC_ge hp0
  have hck : ccode (lcode (chk (nmC l)) true (rd l 10 2 : Nat) (pkNC l : Nat) (szNC l : Nat)) (plNC l : Nat) = 0 := by rw [← hpk, ← hsz, ← hpl]; exact p.ck
  have hb := ck_bd hck
  have hlen : 46 + rd l 28 2 + cond (gwC l) 28 0 ≤ l.length := by
    cases hg : gwC l with
    | false => have := p.len; simpa using this
    | true => have := (p.wd hg).2.2.2.1; show 46 + rd l 28 2 + 28 ≤ _; omega
  have hv : gwC l = true → rd l 6 2 = 45 := by intro h; unfold gwC at h; simpa using h
  have hv' : gwC l = false → rd l 6 2 = 20 := by
    intro h
    have := p.ver
    rw [h] at this
    have h2 : (rd l 6 2 : Int) = 20 := this
    omega
  have hfl : rd l 8 2 = fN (nmC l) (glC l) := by
    have h1 := p.fl
    rw [fN_eq] at h1
    omega
  refine ⟨p.len, p.tm, fun hg => ?_, hck, ?_, ?_⟩
  · have := (p.wd hg).2.2.2.1
    refine ⟨by omega, ?_, ?_, ?_⟩ <;> omega
  · unfold recCO
    rw [recC_len, hn]; exact hlen
  · refine (recC_all l hlen hb).2 ⟨?_, ?_, ?_⟩
    · unfold csA
      simp only [MT, Nat.zero_add, Nat.reduceAdd]
      refine ⟨p.mg, p.mkr, ?_, hfl, trivial, trivial, trivial, trivial, ?_, ?_, hn.symm, p.ex, p.z1, p.z2, p.z3, p.ou, ?_, trivial⟩
      · cases hg : gwC l with
        | false => exact hv' hg
        | true => exact hv hg
      · cases hg : gwC l with
        | true => exact (p.wd hg).1
        | false => unfold pkNC; rw [hg]; rfl
      · cases hg : gwC l with
        | true => exact (p.wd hg).2.1
        | false => unfold szNC; rw [hg]; rfl
      · cases hg : gwC l with
        | true => exact (p.wd hg).2.2.1
        | false => unfold plNC; rw [hg]; rfl
    · rw [hn]; rfl
    · intro hg
      obtain ⟨w1, w2, w3, w4, w5, w6⟩ := p.wd hg
      have e1 : pkNC l = rd l (58 + rd l 28 2) 8 := by unfold pkNC; rw [hg]; rfl
      have e2 : szNC l = rd l (50 + rd l 28 2) 8 := by unfold szNC; rw [hg]; rfl
      have e3 : plNC l = rd l (66 + rd l 28 2) 8 := by unfold plNC; rw [hg]; rfl
      unfold csB
      rw [hn]
      simp only [MT]
      refine ⟨w5, w6, ?_, ?_, ?_, trivial⟩
      · rw [show 46 + rd l 28 2 + 2 + 2 = 50 + rd l 28 2 by omega, ← e2]
      · rw [show 46 + rd l 28 2 + 2 + 2 + 8 = 58 + rd l 28 2 by omega, ← e1]
      · rw [show 46 + rd l 28 2 + 2 + 2 + 8 + 8 = 66 + rd l 28 2 by omega, ← e3]
theorem acd_pad (l : List UInt8) : ACD l ↔ PAD l := ⟨ACD.pad, PAD.acd⟩
theorem endC_rec (l : List UInt8) (h : 46 + rd l 28 2 ≤ l.length) : (recCO l).length = endC l := by
  unfold recCO endC
  rw [recC_len, nmC_size l h]
theorem acd_small {l : List UInt8} (a : ACD l) : rd l 28 2 ≤ 255 := by
  obtain ⟨hc0, _, _⟩ := ccode_0 a.ck
  have h1 := (chk_size (lcode_0 hc0).1).2
  rw [nmC_size l a.len] at h1
  exact h1
theorem acd_end {m : List UInt8} (h : ACD m) : endC m ≤ 329 := by
  have := acd_small h
  unfold endC
  cases gwC m <;> simp <;> omega
/-- Bytes that are cut off behind the longest record. -/
theorem acd_take_iff (l : List UInt8) (h : rd l 28 2 ≤ 255) : (ACD (l.take 329) ↔ ACD l) ∧ hdrC (l.take 329) = hdrC l ∧ endC (l.take 329) = endC l := by
  have e28 := rd_take l 329 28 2 (by omega)
  have eg : gwC (l.take 329) = gwC l := by unfold gwC; rw [rd_take l 329 6 2 (by omega)]
  have el : glC (l.take 329) = glC l := by unfold glC; rw [rd_take l 329 8 2 (by omega)]
  have en : nmC (l.take 329) = nmC l := by unfold nmC; rw [e28, List.drop_take, List.take_take, Nat.min_eq_left (by omega)]
  have ep : pkC (l.take 329) = pkC l := by
    unfold pkC wd8; rw [eg, e28, rd_take l 329 20 4 (by omega), rd_take l 329 (58 + rd l 28 2) 8 (by omega)]
  have es : szC (l.take 329) = szC l := by
    unfold szC wd8; rw [eg, e28, rd_take l 329 24 4 (by omega), rd_take l 329 (50 + rd l 28 2) 8 (by omega)]
  have ea : plC (l.take 329) = plC l := by
    unfold plC wd8; rw [eg, e28, rd_take l 329 42 4 (by omega), rd_take l 329 (66 + rd l 28 2) 8 (by omega)]
  have hl (k : Nat) (hk : k ≤ 329) : k ≤ (l.take 329).length ↔ k ≤ l.length := by rw [List.length_take]; omega
  have ew : WPC (l.take 329) (46 + rd l 28 2) (rd l 20 4) (rd l 24 4) (rd l 42 4) ↔ WPC l (46 + rd l 28 2) (rd l 20 4) (rd l 24 4) (rd l 42 4) := by
    unfold WPC
    rw [hl _ (by omega), rd_take l 329 (46 + rd l 28 2) 2 (by omega), rd_take l 329 (46 + rd l 28 2 + 2) 2 (by omega)]
  have e0 := rd_take l 329 0 4 (by omega)
  have e4 := rd_take l 329 4 2 (by omega)
  have e6 := rd_take l 329 6 2 (by omega)
  have e8 := rd_take l 329 8 2 (by omega)
  have e10 := rd_take l 329 10 2 (by omega)
  have e12 := rd_take l 329 12 2 (by omega)
  have e14 := rd_take l 329 14 2 (by omega)
  have e16 := rd_take l 329 16 4 (by omega)
  have e20 := rd_take l 329 20 4 (by omega)
  have e24 := rd_take l 329 24 4 (by omega)
  have e30 := rd_take l 329 30 2 (by omega)
  have e32 := rd_take l 329 32 2 (by omega)
  have e34 := rd_take l 329 34 2 (by omega)
  have e36 := rd_take l 329 36 2 (by omega)
  have e38 := rd_take l 329 38 4 (by omega)
  have e42 := rd_take l 329 42 4 (by omega)
  refine ⟨⟨?_, ?_⟩, ?_, ?_⟩
  · rintro ⟨a1, a2, a3, a4, a5, a6, a7, a8, a9, a10, a11, a12, a13⟩
    rw [e28] at a1; rw [e0] at a2; rw [e4] at a3; rw [e14, e12] at a4; rw [e6, eg] at a5; rw [e8, en, el] at a6; rw [e32] at a7; rw [e34] at a8; rw [e36] at a9; rw [e38] at a10; rw [e30, eg] at a11; rw [eg, e28, e20, e24, e42] at a12; rw [en, e10, ep, es, ea] at a13
    exact ⟨(hl _ (by omega)).1 a1, a2, a3, a4, a5, a6, a7, a8, a9, a10, a11, fun h => ew.1 (a12 h), a13⟩
  · rintro ⟨a1, a2, a3, a4, a5, a6, a7, a8, a9, a10, a11, a12, a13⟩
    refine ⟨?_, ?_, ?_, ?_, ?_, ?_, ?_, ?_, ?_, ?_, ?_, ?_, ?_⟩
    · rw [e28]; exact (hl _ (by omega)).2 a1
    · rw [e0]; exact a2
    · rw [e4]; exact a3
    · rw [e14, e12]; exact a4
    · rw [e6, eg]; exact a5
    · rw [e8, en, el]; exact a6
    · rw [e32]; exact a7
    · rw [e34]; exact a8
    · rw [e36]; exact a9
    · rw [e38]; exact a10
    · rw [e30, eg]; exact a11
    · rw [eg, e28, e20, e24, e42]; exact fun h => ew.2 (a12 h)
    · rw [en, e10, ep, es, ea]; exact a13
  · unfold hdrC
    rw [en, ep, es, ea, eg, el, e12, e14, e10, e16]
  · unfold endC
    rw [eg, e28]
theorem acd_take (l : List UInt8) : ACD (l.take 329) ↔ ACD l := by
  constructor
  · intro a
    have := acd_small a
    rw [rd_take l 329 28 2 (by omega)] at this
    exact (acd_take_iff l this).1.1 a
  · intro a
    exact (acd_take_iff l (acd_small a)).1.2 a
theorem hdrC_take {l : List UInt8} (a : ACD l) : hdrC (l.take 329) = hdrC l ∧ endC (l.take 329) = endC l := (acd_take_iff l (acd_small a)).2
end Go.Proofs.YtjkmgakgjoojfaaDoor
