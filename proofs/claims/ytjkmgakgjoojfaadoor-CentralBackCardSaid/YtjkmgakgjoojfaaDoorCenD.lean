/- central.Header.Encode and the page's, joined; the law's awake. -/
import Derived.Test.YtjkmgakgjoojfaaDoorCenB
import Derived.Test.YtjkmgakgjoojfaaDoorCenC
import Derived.Test.YtjkmgakgjoojfaaDoorLocZ
namespace Go.Proofs.YtjkmgakgjoojfaaDoor
set_option maxRecDepth 100000
set_option linter.unusedVariables false
set_option linter.unusedSimpArgs false
open Go.RowKit
/-- A header's record. -/
def recC (nm : ByteArray) (D C me cr pk sz f pl : Nat) (gw : Bool) : List UInt8 :=
  (((((bys 4 [(33639248 : Int)] ++ bys 2 [(788 : Int), cond gw (45 : Int) 20, (f : Int), (me : Int), (C : Int), (D : Int)]) ++ bys 4 [(cr : Int), cond gw (4294967295 : Int) pk, cond gw (4294967295 : Int) sz]) ++ bys 2 [(nm.size : Int), cond gw (28 : Int) 0, (0 : Int), (0 : Int), (0 : Int)]) ++ bys 4 [(2175008768 : Int), cond gw (4294967295 : Int) pl]) ++ nm.data.toList) ++
    cond gw (bys 2 [(1 : Int), (24 : Int)] ++ bys 8 [(sz : Int), (pk : Int), (pl : Int)]) []
theorem recC_len (nm : ByteArray) (D C me cr pk sz f pl : Nat) (gw : Bool) : (recC nm D C me cr pk sz f pl gw).length = 46 + nm.size + cond gw 28 0 := by
  have : nm.data.size = nm.size := rfl
  unfold recC
  cases gw <;> simp only [cond_true, cond_false, List.length_append, bys_length, List.length_cons, List.length_nil, Array.length_toList] <;> omega
theorem recC_t (nm : ByteArray) (D C me cr pk sz f pl : Nat) : recC nm D C me cr pk sz f pl true = (((((((((byt 4 33639248 ++ bys 2 [(788 : Int), (45 : Int), (f : Int), (me : Int), (C : Int), (D : Int)]) ++ bys 4 [(cr : Int), (4294967295 : Int), (4294967295 : Int)]) ++ bys 2 [(nm.size : Int), (28 : Int), (0 : Int), (0 : Int), (0 : Int)]) ++ byt 4 2175008768) ++ byt 4 4294967295) ++ nm.data.toList) ++ byt 2 1) ++ byt 2 24) ++ bys 8 [(sz : Int), (pk : Int), (pl : Int)]) := by
  unfold recC bys
  simp only [cond_true, cond_false, List.flatMap_cons, List.flatMap_nil, Int.toNat_natCast, List.append_nil, List.append_assoc]
  rfl
theorem recC_f (nm : ByteArray) (D C me cr pk sz f pl : Nat) : recC nm D C me cr pk sz f pl false = ((((((byt 4 33639248 ++ bys 2 [(788 : Int), (20 : Int), (f : Int), (me : Int), (C : Int), (D : Int)]) ++ bys 4 [(cr : Int), (pk : Int), (sz : Int)]) ++ bys 2 [(nm.size : Int), (0 : Int), (0 : Int), (0 : Int), (0 : Int)]) ++ byt 4 2175008768) ++ byt 4 pl) ++ nm.data.toList) := by
  unfold recC bys
  simp only [cond_true, cond_false, List.flatMap_cons, List.flatMap_nil, Int.toNat_natCast, List.append_nil, List.append_assoc]
  rfl
theorem cenc_any (nm : ByteArray) (y mo da ho mi se : Int) (me cr pk sz : Nat) (gw gl : Bool) (pl : Nat) (w : World) (hA : Amb w) (hcr : cr < 4294967296) (h : ccode (lcode (chk nm) (Dos.rightB y mo da ho mi se) (me : Nat) (pk : Nat) (sz : Nat)) (pl : Nat) = 0) :
    Calls Tryd.prog 9 #[.agg #[.string nm, .int .i64 y, .int .i64 mo, .int .i64 da, .int .i64 ho, .int .i64 mi, .int .i64 se, .int .i64 (me : Nat), .int .u32 (cr : Nat), .int .i64 (pk : Nat), .int .i64 (sz : Nat), .bool gw, .bool gl, .int .i64 (pl : Nat)]] w fun e w' => ∃ v, e = .returned (.tuple #[v, .int .i64 0]) ∧ OB w.heap.size w' v (recC nm (dN y mo da) (cN ho mi se) me cr pk sz (fN nm gl) pl gw) ∧ Below w.heap.size w w' := by
  obtain ⟨h0, _, hpl⟩ := ccode_0 h
  obtain ⟨h1, h2, h3, h4, h5, h6, h7, h8⟩ := lcode_0 h0
  have hn := chk_size h1
  obtain ⟨d1, d2, d3, d4⟩ := dc_bd h2
  have HK : Hid (∀ W, Amb W → Calls Tryd.prog 10 #[.agg #[.string nm, .int .i64 y, .int .i64 mo, .int .i64 da, .int .i64 ho, .int .i64 mi, .int .i64 se, .int .i64 (me : Nat), .int .u32 (cr : Nat), .int .i64 (pk : Nat), .int .i64 (sz : Nat), .bool gw, .bool gl, .int .i64 (pl : Nat)]] W (CQ (.int .i64 0) W)) := Lib.hid fun W hA => by
    have := ccheck_any nm y mo da ho mi se me cr pk sz gw gl pl W hA
    rw [h] at this
    exact this
  have HE : Hid (∀ W, Calls Tryd.prog 20 #[.agg #[.int .i64 y, .int .i64 mo, .int .i64 da, .int .i64 ho, .int .i64 mi, .int .i64 se]] W fun e w' => e = .returned (.tuple #[.int .u16 (dN y mo da : Nat), .int .u16 (cN ho mi se : Nat), .int .i64 0]) ∧ Below W.heap.size W w') := Lib.hid fun W => by
    have := Dos.encode_yes y mo da ho mi se W h2
    rw [d1, d2] at this
    exact this
  have HF : Hid (∀ W, Calls Tryd.prog 23 #[.agg #[.string nm, .int .i64 y, .int .i64 mo, .int .i64 da, .int .i64 ho, .int .i64 mi, .int .i64 se, .int .i64 (me : Nat), .int .u32 (cr : Nat), .int .i64 (pk : Nat), .int .i64 (sz : Nat), .bool gw, .bool gl]] W (CQ (.int .i64 (fN nm gl : Nat)) W)) := Lib.hid fun W => by
    have := flags_any nm y mo da ho mi se me cr pk sz gw gl W (by omega)
    rw [fN_eq] at this
    exact this
  have HV : Hid (∀ W, Calls Tryd.prog 22 #[.agg #[.string nm, .int .i64 y, .int .i64 mo, .int .i64 da, .int .i64 ho, .int .i64 mi, .int .i64 se, .int .i64 (me : Nat), .int .u32 (cr : Nat), .int .i64 (pk : Nat), .int .i64 (sz : Nat), .bool gw, .bool gl]] W (CQ (.int .i64 (verI gw)) W)) := Lib.hid fun W => version_any nm y mo da ho mi se me cr pk sz gw gl W
  have hfl := fN_le nm gl
  cases gw
  · refine (cenc_f nm y mo da ho mi se me cr pk sz pl _ _ _ gl w hA (by omega) (by omega) hcr (by omega) (by omega) (by omega) hfl d3 d4 HK HE HV HF).mono fun e w' ⟨v, h1, h2, h3⟩ => ⟨v, h1, ?_, h3⟩
    rw [recC_f]
    exact h2
  · refine (cenc_t nm y mo da ho mi se me cr pk sz pl _ _ _ gl w hA (by omega) (by omega) hcr (by omega) (by omega) (by omega) hfl d3 d4 HK HE HV HF).mono fun e w' ⟨v, h1, h2, h3⟩ => ⟨v, h1, ?_, h3⟩
    rw [recC_t]
    exact h2
theorem refCenc_any (nm : ByteArray) (y mo da ho mi se : Int) (me cr pk sz : Nat) (gw gl : Bool) (pl : Nat) (w : World) (hcr : cr < 4294967296) (h : ccode (lcode (chk nm) (Dos.rightB y mo da ho mi se) (me : Nat) (pk : Nat) (sz : Nat)) (pl : Nat) = 0) :
    Calls Tryd.prog 11 #[.agg #[.string nm, .int .i64 y, .int .i64 mo, .int .i64 da, .int .i64 ho, .int .i64 mi, .int .i64 se, .int .i64 (me : Nat), .int .u32 (cr : Nat), .int .i64 (pk : Nat), .int .i64 (sz : Nat), .bool gw, .bool gl], .int .i64 (pl : Nat)] w fun e w' => ∃ v, e = .returned v ∧ OB w.heap.size w' v (recC nm (dN y mo da) (cN ho mi se) me cr pk sz (fN nm gl) pl gw) ∧ Below w.heap.size w w' := by
  obtain ⟨h0, _, hpl⟩ := ccode_0 h
  obtain ⟨h1, h2, h3, h4, h5, h6, h7, h8⟩ := lcode_0 h0
  have hn := chk_size h1
  obtain ⟨d1, d2, d3, d4⟩ := dc_bd h2
  have HE : Hid (∀ W, Calls Tryd.prog 25 #[.agg #[.int .i64 y, .int .i64 mo, .int .i64 da, .int .i64 ho, .int .i64 mi, .int .i64 se]] W fun e w' => e = .returned (.tuple #[.int .i64 (dN y mo da : Nat), .int .i64 (cN ho mi se : Nat)]) ∧ Below W.heap.size W w') := Lib.hid fun W => by
    have := Dos.refEncode_any y mo da ho mi se W h2
    rw [d1, d2] at this
    exact this
  have HF : Hid (∀ W, Calls Tryd.prog 28 #[.agg #[.string nm, .int .i64 y, .int .i64 mo, .int .i64 da, .int .i64 ho, .int .i64 mi, .int .i64 se, .int .i64 (me : Nat), .int .u32 (cr : Nat), .int .i64 (pk : Nat), .int .i64 (sz : Nat), .bool gw, .bool gl]] W (CQ (.int .i64 (fN nm gl : Nat)) W)) := Lib.hid fun W => by
    have := refFlags_any nm y mo da ho mi se me cr pk sz gw gl W (by omega)
    rw [fN_eq] at this
    exact this
  have HV : Hid (∀ W, Calls Tryd.prog 27 #[.agg #[.string nm, .int .i64 y, .int .i64 mo, .int .i64 da, .int .i64 ho, .int .i64 mi, .int .i64 se, .int .i64 (me : Nat), .int .u32 (cr : Nat), .int .i64 (pk : Nat), .int .i64 (sz : Nat), .bool gw, .bool gl]] W (CQ (.int .i64 (verI gw)) W)) := Lib.hid fun W => refVersion_any nm y mo da ho mi se me cr pk sz gw gl W
  have hfl := fN_le nm gl
  cases gw
  · exact refCenc_f nm y mo da ho mi se me cr pk sz pl _ _ _ gl w (by omega) (by omega) hcr (by omega) (by omega) (by omega) hfl d3 d4 HE HV HF
  · exact refCenc_t nm y mo da ho mi se me cr pk sz pl _ _ _ gl w (by omega) (by omega) hcr (by omega) (by omega) (by omega) hfl d3 d4 HE HV HF
theorem cenc_no (nm : ByteArray) (y mo da ho mi se me cr pk sz : Int) (gw gl : Bool) (pl : Int) (c : Int) (w : World) (hA : Amb w) (hc : ccode (lcode (chk nm) (Dos.rightB y mo da ho mi se) me pk sz) pl = c) (h : (c != 0) = true) :
    Calls Tryd.prog 9 #[.agg #[.string nm, .int .i64 y, .int .i64 mo, .int .i64 da, .int .i64 ho, .int .i64 mi, .int .i64 se, .int .i64 me, .int .u32 cr, .int .i64 pk, .int .i64 sz, .bool gw, .bool gl, .int .i64 pl]] w (CQ (.tuple #[.slice none 0 0, .int .i64 c]) w) := by
  have HC := ccheck_any nm y mo da ho mi se me cr pk sz gw gl pl
  rw [hc] at HC
  have HK := Lib.hid HC
  have HA := Lib.hid hA
  have HB := Lib.hid ((Below.refl w.heap.size w).alloc (Nat.le_refl _) (.cells #[.string nm, .int .i64 y, .int .i64 mo, .int .i64 da, .int .i64 ho, .int .i64 mi, .int .i64 se, .int .i64 me, .int .u32 cr, .int .i64 pk, .int .i64 sz, .bool gw, .bool gl, .int .i64 pl] 28))
  clear HC hA hc
  go_enter Tryd.func9, Tryd.ntmps9
  go_wp2_with (fail)
  refine (HK.out _ (HA.out.below HB.out)).mono ?_
  rintro e w1 ⟨rfl, b1⟩
  have HB1 := Lib.hid (HB.out.trans (b1.mono (by simp)))
  clear b1
  go_wp2_with (fail)
  go_ret2
  exact ⟨rfl, HB1.out⟩
set_option maxHeartbeats 1000000 in
theorem awakeC_any (w : World) (hA : Amb w) : Calls Tryd.prog 6 #[] w (CQ (.bool true) w) := by
  have H1 := cenc_any ⟨#[97]⟩ 2000 1 1 0 0 0 0 0 0 0 false false 0 w hA (by decide) (by kernel_rfl)
  have hl := recC_len ⟨#[97]⟩ (dN 2000 1 1) (cN 0 0 0) 0 0 0 0 (fN ⟨#[97]⟩ false) 0 false
  generalize recC ⟨#[97]⟩ (dN 2000 1 1) (cN 0 0 0) 0 0 0 0 (fN ⟨#[97]⟩ false) 0 false = l at *
  have hl : l.length = 47 := hl
  have K1 := Lib.hid H1
  have HL := Lib.hid hl
  clear H1 hl hA
  go_enter Tryd.func6, Tryd.ntmps6
  go_wp2_with (fail)
  refine K1.out.mono ?_
  rintro e w1 ⟨v, rfl, ho, b1⟩
  obtain ⟨a, cap, rfl, _⟩ := ho.form
  have B1 := Lib.hid b1
  clear b1 ho
  rw [HL.out]
  go_wp2_with (fail)
  go_ret
  exact ⟨rfl, B1.out⟩
end Go.Proofs.YtjkmgakgjoojfaaDoor
