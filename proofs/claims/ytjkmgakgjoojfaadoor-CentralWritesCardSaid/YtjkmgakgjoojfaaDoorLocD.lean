/- local.Header.Encode and the page's, joined; the law's awake; LocalWrites. -/
import Derived.Test.YtjkmgakgjoojfaaDoorLocB
import Derived.Test.YtjkmgakgjoojfaaDoorLocC
namespace Go.Proofs.YtjkmgakgjoojfaaDoor
set_option maxRecDepth 100000
set_option linter.unusedVariables false
set_option linter.unusedSimpArgs false
open Go.RowKit
/-- A header's record. -/
def recB (nm : ByteArray) (D C me cr pk sz f : Nat) (gw gl : Bool) : List UInt8 :=
  ((((bys 4 [(67324752 : Int)] ++ bys 2 [cond gw (45 : Int) 20, (f : Int), (me : Int), (C : Int), (D : Int)]) ++ bys 4 [cond gl (0 : Int) cr, cond gw (4294967295 : Int) (cond gl (0 : Int) pk), cond gw (4294967295 : Int) (cond gl (0 : Int) sz)]) ++ bys 2 [(nm.size : Int), cond gw (20 : Int) 0]) ++ nm.data.toList) ++
    cond gw (bys 2 [(1 : Int), (16 : Int)] ++ bys 8 [cond gl (0 : Int) sz, cond gl (0 : Int) pk]) []
theorem recB_len (nm : ByteArray) (D C me cr pk sz f : Nat) (gw gl : Bool) : (recB nm D C me cr pk sz f gw gl).length = 30 + nm.size + cond gw 20 0 := by
  have : nm.data.size = nm.size := rfl
  unfold recB
  cases gw <;> simp only [cond_true, cond_false, List.length_append, bys_length, List.length_cons, List.length_nil, Array.length_toList] <;> omega
theorem chk_size {nm : ByteArray} (h : chk nm = true) : 1 ≤ nm.size ∧ nm.size ≤ 255 := by
  unfold chk at h
  simp only [Bool.and_eq_true, decide_eq_true_eq] at h
  omega
def fN (nm : ByteArray) (g : Bool) : Nat := cond g 8 0 + cond (asc nm) 0 2048
theorem fN_eq (nm : ByteArray) (g : Bool) : flagI nm g = (fN nm g : Int) := by
  unfold flagI fN; cases g <;> cases asc nm <;> rfl
theorem fN_le (nm : ByteArray) (g : Bool) : fN nm g ≤ 4000 := by
  unfold fN; cases g <;> cases asc nm <;> decide
def dN (y mo da : Int) : Nat := (Dos.dateOf y mo da).toNat
def cN (ho mi se : Int) : Nat := (Dos.clockOf ho mi se).toNat
theorem dc_bd {y mo da ho mi se : Int} (h : Dos.rightB y mo da ho mi se = true) : Dos.dateOf y mo da = (dN y mo da : Nat) ∧ Dos.clockOf ho mi se = (cN ho mi se : Nat) ∧ dN y mo da ≤ 65535 ∧ cN ho mi se ≤ 65535 := by
  have h1 := Dos.right_elim h
  have h2 := Dos.days_le y mo
  unfold dN cN Dos.dateOf Dos.clockOf
  omega
theorem recB_ff (nm : ByteArray) (D C me cr pk sz f : Nat) : recB nm D C me cr pk sz f false false = (((((byt 4 67324752 ++ bys 2 [(20 : Int), (f : Int), (me : Int), (C : Int), (D : Int)]) ++ bys 4 [(cr : Int), (pk : Int), (sz : Int)]) ++ byt 2 nm.size) ++ byt 2 0) ++ nm.data.toList) := by
  unfold recB bys
  simp only [cond_true, cond_false, List.flatMap_cons, List.flatMap_nil, Int.toNat_natCast, List.append_nil, List.append_assoc]
  rfl
theorem recB_ft (nm : ByteArray) (D C me cr pk sz f : Nat) : recB nm D C me cr pk sz f false true = (((((byt 4 67324752 ++ bys 2 [(20 : Int), (f : Int), (me : Int), (C : Int), (D : Int)]) ++ bys 4 [(0 : Int), (0 : Int), (0 : Int)]) ++ byt 2 nm.size) ++ byt 2 0) ++ nm.data.toList) := by
  unfold recB bys
  simp only [cond_true, cond_false, List.flatMap_cons, List.flatMap_nil, Int.toNat_natCast, List.append_nil, List.append_assoc]
  rfl
theorem recB_tf (nm : ByteArray) (D C me cr pk sz f : Nat) : recB nm D C me cr pk sz f true false = ((((((((((byt 4 67324752 ++ bys 2 [(45 : Int), (f : Int), (me : Int), (C : Int), (D : Int)]) ++ bys 4 [(cr : Int), (4294967295 : Int), (4294967295 : Int)]) ++ byt 2 nm.size) ++ byt 2 20) ++ nm.data.toList)) ++ byt 2 1) ++ byt 2 16) ++ byt 8 sz) ++ byt 8 pk) := by
  unfold recB bys
  simp only [cond_true, cond_false, List.flatMap_cons, List.flatMap_nil, Int.toNat_natCast, List.append_nil, List.append_assoc]
  rfl
theorem recB_tt (nm : ByteArray) (D C me cr pk sz f : Nat) : recB nm D C me cr pk sz f true true = ((((((((((byt 4 67324752 ++ bys 2 [(45 : Int), (f : Int), (me : Int), (C : Int), (D : Int)]) ++ bys 4 [(0 : Int), (4294967295 : Int), (4294967295 : Int)]) ++ byt 2 nm.size) ++ byt 2 20) ++ nm.data.toList)) ++ byt 2 1) ++ byt 2 16) ++ byt 8 0) ++ byt 8 0) := by
  unfold recB bys
  simp only [cond_true, cond_false, List.flatMap_cons, List.flatMap_nil, Int.toNat_natCast, List.append_nil, List.append_assoc]
  rfl
end Go.Proofs.YtjkmgakgjoojfaaDoor
