/- local.Header.Encode and the page's, joined; the law's awake; LocalWrites. -/
import Derived.Test.YtcpojpgdjjmfbaaDoorLocB
import Derived.Test.YtcpojpgdjjmfbaaDoorLocC
namespace Go.Proofs.YtcpojpgdjjmfbaaDoor
set_option linter.unusedVariables false
set_option linter.unusedSimpArgs false
set_option maxRecDepth 100000
open Go.RowKit
/-- A header's record. -/
def recB (nm : ByteArray) (D C me cr pk sz f : Nat) (gw gl : Bool) : List UInt8 :=
  ((((bys 4 [(67324752 : Int)] ++ bys 2 [cond gw (45 : Int) 20, (f : Int), (me : Int), (C : Int), (D : Int)]) ++ bys 4 [cond gl (0 : Int) cr, cond gw (4294967295 : Int) (cond gl (0 : Int) pk), cond gw (4294967295 : Int) (cond gl (0 : Int) sz)]) ++ bys 2 [(nm.size : Int), cond gw (20 : Int) 0]) ++ nm.data.toList) ++
    cond gw (bys 2 [(1 : Int), (16 : Int)] ++ bys 8 [cond gl (0 : Int) sz, cond gl (0 : Int) pk]) []
theorem recB_len (nm : ByteArray) (D C me cr pk sz f : Nat) (gw gl : Bool) : (recB nm D C me cr pk sz f gw gl).length = 30 + nm.size + cond gw 20 0 := by
  have : nm.data.size = nm.size := rfl
  unfold recB
  cases gw <;> simp only [cond_true, cond_false, List.length_append, bys_length, List.length_cons, List.length_nil, Array.length_toList] <;> omega
theorem chk_size {nm : ByteArray} (h : chk nm = true) : 1 ≤ nm.size ∧ nm.size ≤ 255 := by
  unfold chk at h
  simp only [Bool.and_eq_true, decide_eq_true_eq] at h
  omega
def fN (nm : ByteArray) (g : Bool) : Nat := cond g 8 0 + cond (asc nm) 0 2048
theorem fN_eq (nm : ByteArray) (g : Bool) : flagI nm g = (fN nm g : Int) := by
  unfold flagI fN; cases g <;> cases asc nm <;> rfl
theorem fN_le (nm : ByteArray) (g : Bool) : fN nm g ≤ 4000 := by
  unfold fN; cases g <;> cases asc nm <;> decide
def dN (y mo da : Int) : Nat := (Dos.dateOf y mo da).toNat
def cN (ho mi se : Int) : Nat := (Dos.clockOf ho mi se).toNat
theorem dc_bd {y mo da ho mi se : Int} (h : Dos.rightB y mo da ho mi se = true) : Dos.dateOf y mo da = (dN y mo da : Nat) ∧ Dos.clockOf ho mi se = (cN ho mi se : Nat) ∧ dN y mo da ≤ 65535 ∧ cN ho mi se ≤ 65535 := by
  have h1 := Dos.right_elim h
  have h2 := Dos.days_le y mo
  unfold dN cN Dos.dateOf Dos.clockOf
  omega
theorem recB_ff (nm : ByteArray) (D C me cr pk sz f : Nat) : recB nm D C me cr pk sz f false false = (((((byt 4 67324752 ++ bys 2 [(20 : Int), (f : Int), (me : Int), (C : Int), (D : Int)]) ++ bys 4 [(cr : Int), (pk : Int), (sz : Int)]) ++ byt 2 nm.size) ++ byt 2 0) ++ nm.data.toList) := by
  unfold recB bys
  simp only [cond_true, cond_false, List.flatMap_cons, List.flatMap_nil, Int.toNat_natCast, List.append_nil, List.append_assoc]
  rfl
theorem recB_ft (nm : ByteArray) (D C me cr pk sz f : Nat) : recB nm D C me cr pk sz f false true = (((((byt 4 67324752 ++ bys 2 [(20 : Int), (f : Int), (me : Int), (C : Int), (D : Int)]) ++ bys 4 [(0 : Int), (0 : Int), (0 : Int)]) ++ byt 2 nm.size) ++ byt 2 0) ++ nm.data.toList) := by
  unfold recB bys
  simp only [cond_true, cond_false, List.flatMap_cons, List.flatMap_nil, Int.toNat_natCast, List.append_nil, List.append_assoc]
  rfl
theorem recB_tf (nm : ByteArray) (D C me cr pk sz f : Nat) : recB nm D C me cr pk sz f true false = ((((((((((byt 4 67324752 ++ bys 2 [(45 : Int), (f : Int), (me : Int), (C : Int), (D : Int)]) ++ bys 4 [(cr : Int), (4294967295 : Int), (4294967295 : Int)]) ++ byt 2 nm.size) ++ byt 2 20) ++ nm.data.toList)) ++ byt 2 1) ++ byt 2 16) ++ byt 8 sz) ++ byt 8 pk) := by
  unfold recB bys
  simp only [cond_true, cond_false, List.flatMap_cons, List.flatMap_nil, Int.toNat_natCast, List.append_nil, List.append_assoc]
  rfl
theorem recB_tt (nm : ByteArray) (D C me cr pk sz f : Nat) : recB nm D C me cr pk sz f true true = ((((((((((byt 4 67324752 ++ bys 2 [(45 : Int), (f : Int), (me : Int), (C : Int), (D : Int)]) ++ bys 4 [(0 : Int), (4294967295 : Int), (4294967295 : Int)]) ++ byt 2 nm.size) ++ byt 2 20) ++ nm.data.toList)) ++ byt 2 1) ++ byt 2 16) ++ byt 8 0) ++ byt 8 0) := by
  unfold recB bys
  simp only [cond_true, cond_false, List.flatMap_cons, List.flatMap_nil, Int.toNat_natCast, List.append_nil, List.append_assoc]
  rfl
theorem lenc_any (nm : ByteArray) (y mo da ho mi se : Int) (me cr pk sz : Nat) (gw gl : Bool) (w : World) (hA : Amb w) (hcr : cr < 4294967296) (h : lcode (chk nm) (Dos.rightB y mo da ho mi se) me pk sz = 0) :
    Calls Tryd.prog 9 #[.agg #[.string nm, .int .i64 y, .int .i64 mo, .int .i64 da, .int .i64 ho, .int .i64 mi, .int .i64 se, .int .i64 (me : Nat), .int .u32 (cr : Nat), .int .i64 (pk : Nat), .int .i64 (sz : Nat), .bool gw, .bool gl]] w fun e w' => ∃ v, e = .returned (.tuple #[v, .int .i64 0]) ∧ OB w.heap.size w' v (recB nm (dN y mo da) (cN ho mi se) me cr pk sz (fN nm gl) gw gl) ∧ Below w.heap.size w w' := by
  obtain ⟨h1, h2, h3, h4, h5, h6, h7, h8⟩ := lcode_0 h
  have hn := chk_size h1
  obtain ⟨d1, d2, d3, d4⟩ := dc_bd h2
  have HK : Hid (∀ W, Amb W → Calls Tryd.prog 10 #[.agg #[.string nm, .int .i64 y, .int .i64 mo, .int .i64 da, .int .i64 ho, .int .i64 mi, .int .i64 se, .int .i64 (me : Nat), .int .u32 (cr : Nat), .int .i64 (pk : Nat), .int .i64 (sz : Nat), .bool gw, .bool gl]] W (CQ (.int .i64 0) W)) := Lib.hid fun W hA => by
    have := lcheck_any nm y mo da ho mi se me cr pk sz gw gl W hA
    rw [h] at this
    exact this
  have HE : Hid (∀ W, Calls Tryd.prog 25 #[.agg #[.int .i64 y, .int .i64 mo, .int .i64 da, .int .i64 ho, .int .i64 mi, .int .i64 se]] W fun e w' => e = .returned (.tuple #[.int .u16 (dN y mo da : Nat), .int .u16 (cN ho mi se : Nat), .int .i64 0]) ∧ Below W.heap.size W w') := Lib.hid fun W => by
    have := Dos.encode_yes y mo da ho mi se W h2
    rw [d1, d2] at this
    exact this
  have HF : Hid (∀ W, Calls Tryd.prog 13 #[.agg #[.string nm, .int .i64 y, .int .i64 mo, .int .i64 da, .int .i64 ho, .int .i64 mi, .int .i64 se, .int .i64 (me : Nat), .int .u32 (cr : Nat), .int .i64 (pk : Nat), .int .i64 (sz : Nat), .bool gw, .bool gl]] W (CQ (.int .i64 (fN nm gl : Nat)) W)) := Lib.hid fun W => by
    have := flags_any nm y mo da ho mi se me cr pk sz gw gl W (by omega)
    rw [fN_eq] at this
    exact this
  have HV : Hid (∀ W, Calls Tryd.prog 11 #[.agg #[.string nm, .int .i64 y, .int .i64 mo, .int .i64 da, .int .i64 ho, .int .i64 mi, .int .i64 se, .int .i64 (me : Nat), .int .u32 (cr : Nat), .int .i64 (pk : Nat), .int .i64 (sz : Nat), .bool gw, .bool gl]] W (CQ (.int .i64 (verI gw)) W)) := Lib.hid fun W => version_any nm y mo da ho mi se me cr pk sz gw gl W
  have hfl := fN_le nm gl
  cases gw <;> cases gl
  · refine (lenc_ff nm y mo da ho mi se me cr pk sz _ _ _ w hA (by omega) (by omega) hcr (by omega) (by omega) hfl d3 d4 HK HE HV HF).mono fun e w' ⟨v, h1, h2, h3⟩ => ⟨v, h1, ?_, h3⟩
    have e : recB nm (dN y mo da) (cN ho mi se) me cr pk sz (fN nm false) false false = _ := recB_ff _ _ _ _ _ _ _ _
    rw [e]
    exact h2
  · refine (lenc_ft nm y mo da ho mi se me cr pk sz _ _ _ w hA (by omega) (by omega) hcr (by omega) (by omega) hfl d3 d4 HK HE HV HF).mono fun e w' ⟨v, h1, h2, h3⟩ => ⟨v, h1, ?_, h3⟩
    have e : recB nm (dN y mo da) (cN ho mi se) me cr pk sz (fN nm true) false true = _ := recB_ft _ _ _ _ _ _ _ _
    rw [e]
    exact h2
  · refine (lenc_tf nm y mo da ho mi se me cr pk sz _ _ _ w hA (by omega) (by omega) hcr (by omega) (by omega) hfl d3 d4 HK HE HV HF).mono fun e w' ⟨v, h1, h2, h3⟩ => ⟨v, h1, ?_, h3⟩
    have e : recB nm (dN y mo da) (cN ho mi se) me cr pk sz (fN nm false) true false = _ := recB_tf _ _ _ _ _ _ _ _
    rw [e]
    exact h2
  · refine (lenc_tt nm y mo da ho mi se me cr pk sz _ _ _ w hA (by omega) (by omega) hcr (by omega) (by omega) hfl d3 d4 HK HE HV HF).mono fun e w' ⟨v, h1, h2, h3⟩ => ⟨v, h1, ?_, h3⟩
    have e : recB nm (dN y mo da) (cN ho mi se) me cr pk sz (fN nm true) true true = _ := recB_tt _ _ _ _ _ _ _ _
    rw [e]
    exact h2
theorem refLenc_any (nm : ByteArray) (y mo da ho mi se : Int) (me cr pk sz : Nat) (gw gl : Bool) (w : World) (hcr : cr < 4294967296) (h : lcode (chk nm) (Dos.rightB y mo da ho mi se) me pk sz = 0) :
    Calls Tryd.prog 15 #[.agg #[.string nm, .int .i64 y, .int .i64 mo, .int .i64 da, .int .i64 ho, .int .i64 mi, .int .i64 se, .int .i64 (me : Nat), .int .u32 (cr : Nat), .int .i64 (pk : Nat), .int .i64 (sz : Nat), .bool gw, .bool gl]] w fun e w' => ∃ v, e = .returned v ∧ OB w.heap.size w' v (recB nm (dN y mo da) (cN ho mi se) me cr pk sz (fN nm gl) gw gl) ∧ Below w.heap.size w w' := by
  obtain ⟨h1, h2, h3, h4, h5, h6, h7, h8⟩ := lcode_0 h
  have hn := chk_size h1
  obtain ⟨d1, d2, d3, d4⟩ := dc_bd h2
  have HE : Hid (∀ W, Calls Tryd.prog 30 #[.agg #[.int .i64 y, .int .i64 mo, .int .i64 da, .int .i64 ho, .int .i64 mi, .int .i64 se]] W fun e w' => e = .returned (.tuple #[.int .i64 (dN y mo da : Nat), .int .i64 (cN ho mi se : Nat)]) ∧ Below W.heap.size W w') := Lib.hid fun W => by
    have := Dos.refEncode_any y mo da ho mi se W h2
    rw [d1, d2] at this
    exact this
  have HF : Hid (∀ W, Calls Tryd.prog 14 #[.agg #[.string nm, .int .i64 y, .int .i64 mo, .int .i64 da, .int .i64 ho, .int .i64 mi, .int .i64 se, .int .i64 (me : Nat), .int .u32 (cr : Nat), .int .i64 (pk : Nat), .int .i64 (sz : Nat), .bool gw, .bool gl]] W (CQ (.int .i64 (fN nm gl : Nat)) W)) := Lib.hid fun W => by
    have := refFlags_any nm y mo da ho mi se me cr pk sz gw gl W (by omega)
    rw [fN_eq] at this
    exact this
  have HV : Hid (∀ W, Calls Tryd.prog 12 #[.agg #[.string nm, .int .i64 y, .int .i64 mo, .int .i64 da, .int .i64 ho, .int .i64 mi, .int .i64 se, .int .i64 (me : Nat), .int .u32 (cr : Nat), .int .i64 (pk : Nat), .int .i64 (sz : Nat), .bool gw, .bool gl]] W (CQ (.int .i64 (verI gw)) W)) := Lib.hid fun W => refVersion_any nm y mo da ho mi se me cr pk sz gw gl W
  have hfl := fN_le nm gl
  cases gw <;> cases gl
  · exact refLenc_ff nm y mo da ho mi se me cr pk sz _ _ _ w (by omega) (by omega) hcr (by omega) (by omega) hfl d3 d4 HE HV (Lib.hid fun W => told_f nm y mo da ho mi se me cr pk sz _ W) HF
  · exact refLenc_ft nm y mo da ho mi se me cr pk sz _ _ _ w (by omega) (by omega) hcr (by omega) (by omega) hfl d3 d4 HE HV (Lib.hid fun W => told_t nm y mo da ho mi se me cr pk sz _ W) HF
  · exact refLenc_tf nm y mo da ho mi se me cr pk sz _ _ _ w (by omega) (by omega) hcr (by omega) (by omega) hfl d3 d4 HE HV (Lib.hid fun W => told_f nm y mo da ho mi se me cr pk sz _ W) HF
  · exact refLenc_tt nm y mo da ho mi se me cr pk sz _ _ _ w (by omega) (by omega) hcr (by omega) (by omega) hfl d3 d4 HE HV (Lib.hid fun W => told_t nm y mo da ho mi se me cr pk sz _ W) HF
theorem lenc_no (nm : ByteArray) (y mo da ho mi se me cr pk sz : Int) (gw gl : Bool) (c : Int) (w : World) (hA : Amb w) (hc : lcode (chk nm) (Dos.rightB y mo da ho mi se) me pk sz = c) (h : (c != 0) = true) :
    Calls Tryd.prog 9 #[.agg #[.string nm, .int .i64 y, .int .i64 mo, .int .i64 da, .int .i64 ho, .int .i64 mi, .int .i64 se, .int .i64 me, .int .u32 cr, .int .i64 pk, .int .i64 sz, .bool gw, .bool gl]] w (CQ (.tuple #[.slice none 0 0, .int .i64 c]) w) := by
  have HC := lcheck_any nm y mo da ho mi se me cr pk sz gw gl
  rw [hc] at HC
  have HK := Lib.hid HC
  have HA := Lib.hid hA
  have HB := Lib.hid ((Below.refl w.heap.size w).alloc (Nat.le_refl _) (.cells #[.string nm, .int .i64 y, .int .i64 mo, .int .i64 da, .int .i64 ho, .int .i64 mi, .int .i64 se, .int .i64 me, .int .u32 cr, .int .i64 pk, .int .i64 sz, .bool gw, .bool gl] 26))
  clear HC hA hc
  go_enter Tryd.func9, Tryd.ntmps9
  go_wp2_with (fail)
  refine (HK.out _ (HA.out.below HB.out)).mono ?_
  rintro e w1 ⟨rfl, b1⟩
  have HB1 := Lib.hid (HB.out.trans (b1.mono (by simp)))
  clear b1
  go_wp2_with (fail)
  go_ret2
  exact ⟨rfl, HB1.out⟩
set_option maxHeartbeats 1000000 in
theorem awake_any (w : World) (hA : Amb w) : Calls Tryd.prog 6 #[] w (CQ (.bool true) w) := by
  have H1 := lenc_any ⟨#[97]⟩ 2000 1 1 0 0 0 0 0 0 0 false false w hA (by decide) (by kernel_rfl)
  have hl := recB_len ⟨#[97]⟩ (dN 2000 1 1) (cN 0 0 0) 0 0 0 0 (fN ⟨#[97]⟩ false) false false
  generalize recB ⟨#[97]⟩ (dN 2000 1 1) (cN 0 0 0) 0 0 0 0 (fN ⟨#[97]⟩ false) false false = l at *
  have hl : l.length = 31 := hl
  have K1 := Lib.hid H1
  have HL := Lib.hid hl
  clear H1 hl hA
  go_enter Tryd.func6, Tryd.ntmps6
  go_wp2_with (fail)
  refine K1.out.mono ?_
  rintro e w1 ⟨v, rfl, ho, b1⟩
  obtain ⟨a, cap, rfl, _⟩ := ho.form
  have B1 := Lib.hid b1
  clear b1 ho
  rw [HL.out]
  go_wp2_with (fail)
  go_ret
  exact ⟨rfl, B1.out⟩
end Go.Proofs.YtcpojpgdjjmfbaaDoor
