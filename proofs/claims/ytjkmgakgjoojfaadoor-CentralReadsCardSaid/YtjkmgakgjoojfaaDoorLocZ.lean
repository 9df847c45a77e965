/- Bytes that are cut off behind the longest record: plain. -/
import Derived.Test.YtjkmgakgjoojfaaDoorLocA
import Derived.Test.YtjkmgakgjoojfaaDoorLocP
import Derived.Deep.QuietTactic
import Derived.BigQuiet
import Derived.Test.YtjkmgakgjoojfaaDoorRdB
import Derived.Laws.BitsAllLaws
namespace Go.Proofs.YtjkmgakgjoojfaaDoor
set_option maxRecDepth 100000
set_option linter.unusedVariables false
set_option linter.unusedSimpArgs false
open Go.RowKit
end Go.Proofs.YtjkmgakgjoojfaaDoor
namespace Go.Proofs.YtjkmgakgjoojfaaDoor
set_option maxRecDepth 100000
set_option linter.unusedVariables false
set_option linter.unusedSimpArgs false
open Go.RowKit
set_option maxHeartbeats 1000000 in
theorem ref_any (nm : ByteArray) (y mo da ho mi se me cr pk sz : Int) (gw gl : Bool) (w : World) : Calls Tryd.prog 7 #[.agg #[.string nm, .int .i64 y, .int .i64 mo, .int .i64 da, .int .i64 ho, .int .i64 mi, .int .i64 se, .int .i64 me, .int .u32 cr, .int .i64 pk, .int .i64 sz, .bool gw, .bool gl]] w (CQ (.agg #[.string nm, .int .i64 y, .int .i64 mo, .int .i64 da, .int .i64 ho, .int .i64 mi, .int .i64 se, .int .i64 me, .int .u32 cr, .int .i64 pk, .int .i64 sz, .bool gw, .bool gl]) w) := by
  have HB := Lib.hid (fun o o2 => ((Below.refl w.heap.size w).alloc (Nat.le_refl _) o).alloc (by simp) o2)
  go_enter Tryd.func7, Tryd.ntmps7
  go_wp2_with (fail)
  exact bodyPost_ret (v := .agg #[.string nm, .int .i64 y, .int .i64 mo, .int .i64 da, .int .i64 ho, .int .i64 mi, .int .i64 se, .int .i64 me, .int .u32 cr, .int .i64 pk, .int .i64 sz, .bool gw, .bool gl]) (by simp [results, Tryd.results7, go_sem]) rfl ⟨rfl, HB.out _ _⟩
end Go.Proofs.YtjkmgakgjoojfaaDoor
namespace Go.Proofs.YtjkmgakgjoojfaaDoor
set_option maxRecDepth 100000
set_option linter.unusedVariables false
set_option linter.unusedSimpArgs false
open Go.RowKit
/-- A header's record. -/
def recB (nm : ByteArray) (D C me cr pk sz f : Nat) (gw gl : Bool) : List UInt8 :=
  ((((bys 4 [(67324752 : Int)] ++ bys 2 [cond gw (45 : Int) 20, (f : Int), (me : Int), (C : Int), (D : Int)]) ++ bys 4 [cond gl (0 : Int) cr, cond gw (4294967295 : Int) (cond gl (0 : Int) pk), cond gw (4294967295 : Int) (cond gl (0 : Int) sz)]) ++ bys 2 [(nm.size : Int), cond gw (20 : Int) 0]) ++ nm.data.toList) ++
    cond gw (bys 2 [(1 : Int), (16 : Int)] ++ bys 8 [cond gl (0 : Int) sz, cond gl (0 : Int) pk]) []
theorem recB_len (nm : ByteArray) (D C me cr pk sz f : Nat) (gw gl : Bool) : (recB nm D C me cr pk sz f gw gl).length = 30 + nm.size + cond gw 20 0 := by
  have : nm.data.size = nm.size := rfl
  unfold recB
  cases gw <;> simp only [cond_true, cond_false, List.length_append, bys_length, List.length_cons, List.length_nil, Array.length_toList] <;> omega
theorem chk_size {nm : ByteArray} (h : chk nm = true) : 1 ≤ nm.size ∧ nm.size ≤ 255 := by
  unfold chk at h
  simp only [Bool.and_eq_true, decide_eq_true_eq] at h
  omega
def fN (nm : ByteArray) (g : Bool) : Nat := cond g 8 0 + cond (asc nm) 0 2048
theorem fN_eq (nm : ByteArray) (g : Bool) : flagI nm g = (fN nm g : Int) := by
  unfold flagI fN; cases g <;> cases asc nm <;> rfl
theorem fN_le (nm : ByteArray) (g : Bool) : fN nm g ≤ 4000 := by
  unfold fN; cases g <;> cases asc nm <;> decide
def dN (y mo da : Int) : Nat := (Dos.dateOf y mo da).toNat
def cN (ho mi se : Int) : Nat := (Dos.clockOf ho mi se).toNat
theorem dc_bd {y mo da ho mi se : Int} (h : Dos.rightB y mo da ho mi se = true) : Dos.dateOf y mo da = (dN y mo da : Nat) ∧ Dos.clockOf ho mi se = (cN ho mi se : Nat) ∧ dN y mo da ≤ 65535 ∧ cN ho mi se ≤ 65535 := by
  have h1 := Dos.right_elim h
  have h2 := Dos.days_le y mo
  unfold dN cN Dos.dateOf Dos.clockOf
  omega
theorem recB_ff (nm : ByteArray) (D C me cr pk sz f : Nat) : recB nm D C me cr pk sz f false false = (((((byt 4 67324752 ++ bys 2 [(20 : Int), (f : Int), (me : Int), (C : Int), (D : Int)]) ++ bys 4 [(cr : Int), (pk : Int), (sz : Int)]) ++ byt 2 nm.size) ++ byt 2 0) ++ nm.data.toList) := by
  unfold recB bys
  simp only [cond_true, cond_false, List.flatMap_cons, List.flatMap_nil, Int.toNat_natCast, List.append_nil, List.append_assoc]
  rfl
theorem recB_ft (nm : ByteArray) (D C me cr pk sz f : Nat) : recB nm D C me cr pk sz f false true = (((((byt 4 67324752 ++ bys 2 [(20 : Int), (f : Int), (me : Int), (C : Int), (D : Int)]) ++ bys 4 [(0 : Int), (0 : Int), (0 : Int)]) ++ byt 2 nm.size) ++ byt 2 0) ++ nm.data.toList) := by
  unfold recB bys
  simp only [cond_true, cond_false, List.flatMap_cons, List.flatMap_nil, Int.toNat_natCast, List.append_nil, List.append_assoc]
  rfl
theorem recB_tf (nm : ByteArray) (D C me cr pk sz f : Nat) : recB nm D C me cr pk sz f true false = ((((((((((byt 4 67324752 ++ bys 2 [(45 : Int), (f : Int), (me : Int), (C : Int), (D : Int)]) ++ bys 4 [(cr : Int), (4294967295 : Int), (4294967295 : Int)]) ++ byt 2 nm.size) ++ byt 2 20) ++ nm.data.toList)) ++ byt 2 1) ++ byt 2 16) ++ byt 8 sz) ++ byt 8 pk) := by
  unfold recB bys
  simp only [cond_true, cond_false, List.flatMap_cons, List.flatMap_nil, Int.toNat_natCast, List.append_nil, List.append_assoc]
  rfl
theorem recB_tt (nm : ByteArray) (D C me cr pk sz f : Nat) : recB nm D C me cr pk sz f true true = ((((((((((byt 4 67324752 ++ bys 2 [(45 : Int), (f : Int), (me : Int), (C : Int), (D : Int)]) ++ bys 4 [(0 : Int), (4294967295 : Int), (4294967295 : Int)]) ++ byt 2 nm.size) ++ byt 2 20) ++ nm.data.toList)) ++ byt 2 1) ++ byt 2 16) ++ byt 8 0) ++ byt 8 0) := by
  unfold recB bys
  simp only [cond_true, cond_false, List.flatMap_cons, List.flatMap_nil, Int.toNat_natCast, List.append_nil, List.append_assoc]
  rfl
end Go.Proofs.YtjkmgakgjoojfaaDoor
namespace Go.Proofs.YtjkmgakgjoojfaaDoor
set_option maxRecDepth 100000
set_option linter.unusedVariables false
set_option linter.unusedSimpArgs false
open Go.RowKit
theorem must_yes (y mo da ho mi se : Int) (w : World) : Calls Tryd.prog 53 #[.agg #[.int .i64 y, .int .i64 mo, .int .i64 da, .int .i64 ho, .int .i64 mi, .int .i64 se], .int .i64 0] w (CQ (.agg #[.int .i64 y, .int .i64 mo, .int .i64 da, .int .i64 ho, .int .i64 mi, .int .i64 se]) w) := by
  have HB := Lib.hid (fun o o2 => ((Below.refl w.heap.size w).alloc (Nat.le_refl _) o).alloc (by simp) o2)
  go_enter Tryd.func53, Tryd.ntmps53
  go_wp2_with (fail)
  exact bodyPost_ret (v := .agg #[.int .i64 y, .int .i64 mo, .int .i64 da, .int .i64 ho, .int .i64 mi, .int .i64 se]) (by simp [results, Tryd.results53, go_sem]) rfl ⟨rfl, HB.out _ _⟩
theorem must_no (y mo da ho mi se : Int) (w : World) : Calls Tryd.prog 53 #[.agg #[.int .i64 y, .int .i64 mo, .int .i64 da, .int .i64 ho, .int .i64 mi, .int .i64 se], .int .i64 34] w fun e w' => e = .panicked (fault 34) ∧ Below w.heap.size w w' := by
  have HB := Lib.hid (fun o o2 => ((Below.refl w.heap.size w).alloc (Nat.le_refl _) o).alloc (by simp) o2)
  go_enter Tryd.func53, Tryd.ntmps53
  go_wp2_with (fail)
  refine (throw_any _ _).mono ?_
  rintro e w' ⟨rfl, rfl⟩
  go_wp2_with (fail)
  exact ⟨rfl, rfl, HB.out _ _⟩
/-- May a date and a clock be? -/
def tmB (D C : Nat) : Bool := Dos.rightB (1980 + (D : Int) / 512) ((D : Int) / 32 % 16) ((D : Int) % 32) ((C : Int) / 2048) ((C : Int) / 32 % 64) ((C : Int) % 32 * 2)
/-- What readTime does at a place. -/
def RTQ (rb : Nat) (l : List UInt8) (p : Nat) (C D : Nat) (w : World) (e : Ending) (w' : World) : Prop :=
  (p + 4 ≤ l.length ∧ tmB D C = true ∧ e = .returned (.agg #[.int .i64 (1980 + (D : Int) / 512), .int .i64 ((D : Int) / 32 % 16), .int .i64 ((D : Int) % 32), .int .i64 ((C : Int) / 2048), .int .i64 ((C : Int) / 32 % 64), .int .i64 ((C : Int) % 32 * 2)]) ∧ RD w' rb l (p + 4) ∧ Bx [rb] w.heap.size w w') ∨
  (¬ (p + 4 ≤ l.length ∧ tmB D C = true) ∧ ∃ c q, c ≠ 0 ∧ e = .panicked (fault c) ∧ RD w' rb l q ∧ Bx [rb] w.heap.size w w')
theorem and_p3 (f : Nat) : f &&& 2 ^ 3 = if f.testBit 3 = true then 2 ^ 3 else 0 := by
  apply Nat.eq_of_testBit_eq
  intro i
  rw [Nat.testBit_and, Nat.testBit_two_pow]
  by_cases e : 3 = i
  · subst e
    cases h : f.testBit 3
    · simp
    · simp; decide
  · simp [e]
    split
    · rw [show (8 : Nat) = 2 ^ 3 from rfl, Nat.testBit_two_pow]
      simp [e]
    · simp
theorem and8 (f : Nat) (h : f < 65536) : bits .and .i64 (f : Int) 8 = ((f / 8 % 2 * 8 : Nat) : Int) := by
  have h1 : (BitVec.ofInt 64 (f : Int)).toNat = f := by
    rw [BitVec.ofInt_natCast, BitVec.toNat_ofNat]; exact Nat.mod_eq_of_lt (by omega)
  have h2 : (BitVec.ofInt 64 (8 : Int)).toNat = 2 ^ 3 := by decide
  show IntKind.i64.wrap ((BitVec.ofInt 64 (f : Int) &&& BitVec.ofInt 64 (8 : Int)).toNat : Int) = _
  rw [BitVec.toNat_and, h1, h2, and_p3, Nat.testBit_eq_decide_div_mod_eq, IntKind.wrap_i64]
  by_cases c : f / 2 ^ 3 % 2 = 1
  · have c' : f / 8 % 2 = 1 := c
    simp [c']
  · have c' : f / 8 % 2 = 0 := by have : f / 2 ^ 3 % 2 = f / 8 % 2 := rfl; omega
    simp [c']
/-- When the sizes behind the name may be read. -/
def WP (l : List UInt8) (p pk sz : Nat) : Prop := pk = 4294967295 ∧ sz = 4294967295 ∧ p + 20 ≤ l.length ∧ rd l p 2 = 1 ∧ rd l (p + 2) 2 = 16
def wd8 (l : List UInt8) (p : Nat) : Int := IntKind.i64.wrap (rd l p 8 : Nat)
def RWQ (rb hb : Nat) (l : List UInt8) (p : Nat) (pk sz : Nat) (cs : List Value) (w : World) (e : Ending) (w' : World) : Prop :=
  (WP l p pk sz ∧ e = .returned (.tuple #[]) ∧ RD w' rb l (p + 20) ∧ Own w' hb cs ∧ Bx [rb, hb] w.heap.size w w') ∨
  (¬ WP l p pk sz ∧ ∃ c q, c ≠ 0 ∧ e = .panicked (fault c) ∧ RD w' rb l q ∧ Bx [rb, hb] w.heap.size w w')
theorem Bx.two {rb hb B : Nat} {a b : World} (h : Bx [rb] B a b) : Bx [rb, hb] B a b := h.weak (fun k _ hk => by simp at hk; simp [hk])
end Go.Proofs.YtjkmgakgjoojfaaDoor
namespace Go.Proofs.YtjkmgakgjoojfaaDoor
set_option maxRecDepth 100000
set_option linter.unusedVariables false
set_option linter.unusedSimpArgs false
open Go.RowKit
/-- What bytes say of a header. -/
def nmOf (l : List UInt8) : ByteArray := str ((l.drop 30).take (rd l 26 2))
def gwOf (l : List UInt8) : Bool := rd l 4 2 == 45
def glOf (l : List UInt8) : Bool := rd l 6 2 / 8 % 2 == 1
def pkL (l : List UInt8) : Int := cond (gwOf l) (wd8 l (42 + rd l 26 2)) (rd l 18 4 : Nat)
def szL (l : List UInt8) : Int := cond (gwOf l) (wd8 l (34 + rd l 26 2)) (rd l 22 4 : Nat)
structure ACC (l : List UInt8) : Prop where
  len : 30 + rd l 26 2 ≤ l.length
  mg : rd l 0 4 = 67324752
  tm : tmB (rd l 12 2) (rd l 10 2) = true
  ver : (rd l 4 2 : Int) = verI (gwOf l)
  fl : (rd l 6 2 : Int) = flagI (nmOf l) (glOf l)
  ex : rd l 28 2 = cond (gwOf l) 20 0
  wd : gwOf l = true → WP l (30 + rd l 26 2) (rd l 18 4) (rd l 22 4)
  lt : glOf l = true → rd l 14 4 = 0 ∧ pkL l = 0 ∧ szL l = 0
  ck : lcode (chk (nmOf l)) true (rd l 8 2 : Nat) (pkL l) (szL l) = 0
def hdrV (nm : ByteArray) (C D me cr : Nat) (pk sz : Int) (gw gl : Bool) : Value := .agg #[.string nm, .int .i64 (1980 + (D : Int) / 512), .int .i64 ((D : Int) / 32 % 16), .int .i64 ((D : Int) % 32), .int .i64 ((C : Int) / 2048), .int .i64 ((C : Int) / 32 % 64), .int .i64 ((C : Int) % 32 * 2), .int .i64 (me : Nat), .int .u32 (cr : Nat), .int .i64 pk, .int .i64 sz, .bool gw, .bool gl]
def hdrOf (l : List UInt8) : Value := hdrV (nmOf l) (rd l 10 2) (rd l 12 2) (rd l 8 2) (rd l 14 4) (pkL l) (szL l) (gwOf l) (glOf l)
def endOf (l : List UInt8) : Nat := 30 + rd l 26 2 + cond (gwOf l) 20 0
end Go.Proofs.YtjkmgakgjoojfaaDoor
namespace Go.Proofs.YtjkmgakgjoojfaaDoor
set_option maxRecDepth 100000
set_option linter.unusedVariables false
set_option linter.unusedSimpArgs false
open Go.RowKit
theorem rd_eq (l : List UInt8) (p n x : Nat) (hp : p + n ≤ l.length) (hx : x < 256 ^ n) : rd l p n = x ↔ (l.drop p).take n = byt n x := by
  unfold rd
  have hl : ((l.drop p).take n).length = n := by rw [List.length_take, List.length_drop]; omega
  constructor
  · intro h
    rw [← h, byt_num _ _ hl]
  · intro h
    rw [h, num_byt, Nat.mod_eq_of_lt hx]
/-- Numbers of so many bytes each, one behind the other. -/
def MT (l : List UInt8) (p : Nat) : List (Nat × Nat) → Prop
  | [] => True
  | (n, x) :: r => rd l p n = x ∧ MT l (p + n) r
def fl : List (Nat × Nat) → List UInt8
  | [] => []
  | (n, x) :: r => byt n x ++ fl r
def wsum : List (Nat × Nat) → Nat
  | [] => 0
  | (n, _) :: r => n + wsum r
def small : List (Nat × Nat) → Prop
  | [] => True
  | (n, x) :: r => x < 256 ^ n ∧ small r
theorem fl_length : ∀ v, (fl v).length = wsum v
  | [] => rfl
  | (n, x) :: r => by simp [fl, wsum, byt_length, fl_length r]
theorem take_split (l A B : List UInt8) (a b : Nat) (ha : A.length = a) : l.take (a + b) = A ++ B ↔ l.take a = A ∧ (l.drop a).take b = B := by
  rw [List.take_add]
  constructor
  · intro h
    by_cases hl : a ≤ l.length
    · have h1 : (l.take a).length = A.length := by rw [List.length_take]; omega
      exact List.append_inj h h1
    · have h2 := congrArg List.length h
      have h3 : (l.drop a).take b = [] := by rw [List.drop_eq_nil_of_le (by omega)]; simp
      rw [h3] at h h2 ⊢
      simp only [List.length_append, List.length_take, List.length_nil] at h2
      omega
  · rintro ⟨h1, h2⟩
    rw [h1, h2]
theorem MT_iff (l : List UInt8) : ∀ (v : List (Nat × Nat)) (p : Nat), p + wsum v ≤ l.length → small v → (MT l p v ↔ (l.drop p).take (wsum v) = fl v)
  | [], p, _, _ => by simp [MT, wsum, fl]
  | (n, x) :: r, p, hp, hs => by
    unfold wsum at hp
    rw [MT, wsum, fl, take_split _ _ _ _ _ (byt_length n x), List.drop_drop, rd_eq l p n x (by omega) hs.1, MT_iff l r (p + n) (by omega) hs.2]
theorem bys_fl (n : Nat) : ∀ l : List Int, bys n l = fl (l.map fun x => (n, x.toNat))
  | [] => rfl
  | x :: l => by
    show byt n x.toNat ++ bys n l = _
    rw [bys_fl n l]
    rfl
theorem fl_append : ∀ u v, fl (u ++ v) = fl u ++ fl v
  | [], v => rfl
  | (n, x) :: u, v => by simp [fl, fl_append u v]
/-- The numbers ahead of the name, and those behind it. -/
def nsA (nz D C me cr pk sz f : Nat) (gw gl : Bool) : List (Nat × Nat) := [(4, 67324752), (2, cond gw 45 20), (2, f), (2, me), (2, C), (2, D), (4, cond gl 0 cr), (4, cond gw 4294967295 (cond gl 0 pk)), (4, cond gw 4294967295 (cond gl 0 sz)), (2, nz), (2, cond gw 20 0)]
def nsB (pk sz : Nat) (gl : Bool) : List (Nat × Nat) := [(2, 1), (2, 16), (8, cond gl 0 sz), (8, cond gl 0 pk)]
theorem recB_ns (nm : ByteArray) (D C me cr pk sz f : Nat) (gw gl : Bool) : recB nm D C me cr pk sz f gw gl = fl (nsA nm.size D C me cr pk sz f gw gl) ++ (nm.data.toList ++ cond gw (fl (nsB pk sz gl)) []) := by
  unfold recB nsA nsB
  cases gw <;> cases gl <;> simp [bys_fl, fl, List.append_assoc]
theorem rec_iff (l : List UInt8) (nm : ByteArray) (D C me cr pk sz f : Nat) (gw gl : Bool) (hl : 30 + nm.size + cond gw 20 0 ≤ l.length) (hD : D < 65536) (hC : C < 65536) (hme : me < 65536) (hcr : cr < 4294967296) (hpk : pk < 4294967296) (hsz : sz < 4294967296) (hf : f < 65536) (hnm : nm.size < 65536) :
    l.take (recB nm D C me cr pk sz f gw gl).length = recB nm D C me cr pk sz f gw gl ↔
    MT l 0 (nsA nm.size D C me cr pk sz f gw gl) ∧ (l.drop 30).take nm.size = nm.data.toList ∧ (gw = true → MT l (30 + nm.size) (nsB pk sz gl)) := by
  have hA : wsum (nsA nm.size D C me cr pk sz f gw gl) = 30 := rfl
  have sA : small (nsA nm.size D C me cr pk sz f gw gl) := by
    unfold nsA small
    cases gw <;> cases gl <;> simp [small] <;> omega
  have hn : nm.data.toList.length = nm.size := Array.length_toList
  rw [MT_iff l _ 0 (by rw [hA]; omega) sA, hA, List.drop_zero]
  rw [recB_len, recB_ns]
  have h30 : (fl (nsA nm.size D C me cr pk sz f gw gl)).length = 30 := by rw [fl_length, hA]
  rw [show 30 + nm.size + cond gw 20 0 = 30 + (nm.size + cond gw 20 0) by omega, take_split _ _ _ _ _ h30]
  refine and_congr Iff.rfl ?_
  rw [take_split _ _ _ _ _ hn, List.drop_drop]
  refine and_congr Iff.rfl ?_
  cases gw with
  | false => simp
  | true =>
    have sB : small (nsB pk sz gl) := by
      unfold nsB small
      cases gl <;> simp [small] <;> omega
    have hB : wsum (nsB pk sz gl) = 20 := rfl
    have hl' : 30 + nm.size + 20 ≤ l.length := hl
    rw [MT_iff l _ (30 + nm.size) (by rw [hB]; omega) sB, hB]
    simp
end Go.Proofs.YtjkmgakgjoojfaaDoor
namespace Go.Proofs.YtjkmgakgjoojfaaDoor
set_option maxRecDepth 100000
set_option linter.unusedVariables false
set_option linter.unusedSimpArgs false
open Go.RowKit
def pkN (l : List UInt8) : Nat := cond (gwOf l) (rd l (42 + rd l 26 2) 8) (rd l 18 4)
def szN (l : List UInt8) : Nat := cond (gwOf l) (rd l (34 + rd l 26 2) 8) (rd l 22 4)
theorem wd8_small {l : List UInt8} {p : Nat} (h : rd l p 8 ≤ 67108864) : wd8 l p = (rd l p 8 : Nat) := IntWalk.i64_in _ (by omega)
theorem wd8_back {l : List UInt8} {p : Nat} (h0 : 0 ≤ wd8 l p) : wd8 l p = (rd l p 8 : Nat) := by
  have hb : rd l p 8 < 18446744073709551616 := rd_lt l p 8
  unfold wd8 at *
  rw [IntKind.wrap_i64] at *
  omega
/-- The record that the page would write of a header that bytes tell. -/
def recOf (l : List UInt8) : List UInt8 := recB (nmOf l) (rd l 12 2) (rd l 10 2) (rd l 8 2) (rd l 14 4) (pkN l) (szN l) (fN (nmOf l) (glOf l)) (gwOf l) (glOf l)
theorem nm_size (l : List UInt8) (h : 30 + rd l 26 2 ≤ l.length) : (nmOf l).size = rd l 26 2 := by
  show ((l.drop 30).take (rd l 26 2)).length = _
  rw [List.length_take, List.length_drop]; omega
structure PAC (l : List UInt8) : Prop where
  len : 30 + rd l 26 2 ≤ l.length
  tm : tmB (rd l 12 2) (rd l 10 2) = true
  wd : gwOf l = true → 50 + rd l 26 2 ≤ l.length ∧ szN l ≤ 67108864 ∧ pkN l ≤ 67108864
  ck : lcode (chk (nmOf l)) true (rd l 8 2 : Nat) (pkN l : Nat) (szN l : Nat) = 0
  lt : glOf l = true → rd l 14 4 = 0 ∧ pkN l = 0 ∧ szN l = 0
  fit : (recOf l).length ≤ l.length
  eq : l.take (recOf l).length = recOf l
theorem flag_eq (l : List UInt8) : (fN (nmOf l) (glOf l) : Int) = flagI (nmOf l) (glOf l) := (fN_eq _ _).symm
theorem pk_ge {l : List UInt8} (h : 0 ≤ pkL l) : pkL l = (pkN l : Nat) := by
  unfold pkL pkN at *
  revert h
  cases gwOf l with
  | false => exact fun _ => rfl
  | true => exact fun h => wd8_back h
theorem sz_ge {l : List UInt8} (h : 0 ≤ szL l) : szL l = (szN l : Nat) := by
  unfold szL szN at *
  revert h
  cases gwOf l with
  | false => exact fun _ => rfl
  | true => exact fun h => wd8_back h
theorem pk_le {l : List UInt8} (h : gwOf l = true → pkN l ≤ 67108864) : pkL l = (pkN l : Nat) := by
  unfold pkL pkN at *
  cases hg : gwOf l with
  | false => rfl
  | true => exact wd8_small (by have := h hg; rw [hg] at this; exact this)
theorem sz_le {l : List UInt8} (h : gwOf l = true → szN l ≤ 67108864) : szL l = (szN l : Nat) := by
  unfold szL szN at *
  cases hg : gwOf l with
  | false => rfl
  | true => exact wd8_small (by have := h hg; rw [hg] at this; exact this)
theorem pk_bd (l : List UInt8) (hc : lcode (chk (nmOf l)) true (rd l 8 2 : Nat) (pkN l : Nat) (szN l : Nat) = 0) : pkN l < 4294967296 ∧ szN l < 4294967296 := by
  have := lcode_0 hc; omega
/-- All that the record's bytes must be. -/
theorem rec_all (l : List UInt8) (hlen : 30 + rd l 26 2 + cond (gwOf l) 20 0 ≤ l.length) (hb : pkN l < 4294967296 ∧ szN l < 4294967296) :
    l.take (recOf l).length = recOf l ↔ MT l 0 (nsA (nmOf l).size (rd l 12 2) (rd l 10 2) (rd l 8 2) (rd l 14 4) (pkN l) (szN l) (fN (nmOf l) (glOf l)) (gwOf l) (glOf l)) ∧ (l.drop 30).take (nmOf l).size = (nmOf l).data.toList ∧ (gwOf l = true → MT l (30 + (nmOf l).size) (nsB (pkN l) (szN l) (glOf l))) := by
  have hn := nm_size l (by omega)
  have b1 : rd l 12 2 < 65536 := rd_lt l 12 2
  have b2 : rd l 10 2 < 65536 := rd_lt l 10 2
  have b3 : rd l 8 2 < 65536 := rd_lt l 8 2
  have b4 : rd l 14 4 < 4294967296 := rd_lt l 14 4
  have b5 : rd l 26 2 < 65536 := rd_lt l 26 2
  exact rec_iff l _ _ _ _ _ _ _ _ _ _ (by rw [hn]; exact hlen) b1 b2 b3 b4 hb.1 hb.2 (Nat.lt_of_le_of_lt (fN_le _ _) (by decide)) (by rw [hn]; exact b5)
theorem PAC.acc {l : List UInt8} (p : PAC l) : ACC l := by
  have hb := pk_bd l p.ck
  have hn := nm_size l p.len
  have hlen : 30 + rd l 26 2 + cond (gwOf l) 20 0 ≤ l.length := by
    cases hg : gwOf l with
    | false => have := p.len; simpa using this
    | true => have := (p.wd hg).1; show 30 + rd l 26 2 + 20 ≤ _; omega
  obtain ⟨h1, h2, h3⟩ := (rec_all l hlen hb).1 p.eq
  have hpk := pk_le (fun h => (p.wd h).2.2)
  have hsz := sz_le (fun h => (p.wd h).2.1)
  obtain ⟨m0, m4, m6, m8, m10, m12, m14, m18, m22, m26, m28, _⟩ := h1
  simp only [Nat.zero_add, Nat.reduceAdd] at m4 m6 m18 m22 m28
  refine ⟨p.len, m0, p.tm, ?_, ?_, m28, ?_, ?_, ?_⟩
  · unfold verI
    rw [m4]; cases gwOf l <;> rfl
  · rw [m6]; exact flag_eq l
  · intro hg
    obtain ⟨k0, k2, _⟩ := h3 hg
    rw [hg] at m18 m22
    rw [hn] at k0 k2
    exact ⟨m18, m22, by have := (p.wd hg).1; omega, k0, k2⟩
  · intro hg
    obtain ⟨a, b, c⟩ := p.lt hg
    rw [hpk, hsz, b, c]
    exact ⟨a, rfl, rfl⟩
  · rw [hpk, hsz]; exact p.ck
theorem ACC.pac {l : List UInt8} (p : ACC l) : PAC l := by
  have hn := nm_size l p.len
  have hl0 := lcode_0 p.ck
  have hpk := pk_ge hl0.2.2.2.2.2.1
  have hsz := sz_ge hl0.2.2.2.1
  have hck : lcode (chk (nmOf l)) true (rd l 8 2 : Nat) (pkN l : Nat) (szN l : Nat) = 0 := by rw [← hpk, ← hsz]; exact p.ck
  have hb := pk_bd l hck
  have hlen : 30 + rd l 26 2 + cond (gwOf l) 20 0 ≤ l.length := by
    cases hg : gwOf l with
    | false => have := p.len; simpa using this
    | true => have := (p.wd hg).2.2.1; show 30 + rd l 26 2 + 20 ≤ _; omega
  have hlt : glOf l = true → rd l 14 4 = 0 ∧ pkN l = 0 ∧ szN l = 0 := by
    intro hg
    obtain ⟨a, b, c⟩ := p.lt hg
    rw [hpk] at b; rw [hsz] at c
    exact ⟨a, by omega, by omega⟩
  have hv : gwOf l = true → rd l 4 2 = 45 := by intro h; unfold gwOf at h; simpa using h
  have hv' : gwOf l = false → rd l 4 2 = 20 := by
    intro h
    have := p.ver
    rw [h] at this
    have h2 : (rd l 4 2 : Int) = 20 := this
    omega
  have hfl : rd l 6 2 = fN (nmOf l) (glOf l) := by
    have h1 := p.fl
    rw [← flag_eq] at h1
    omega
  refine ⟨p.len, p.tm, fun hg => ?_, hck, hlt, ?_, ?_⟩
  · have := (p.wd hg).2.2.1
    refine ⟨by omega, ?_, ?_⟩ <;> omega
  · unfold recOf
    rw [recB_len, hn]; exact hlen
  · refine (rec_all l hlen hb).2 ⟨?_, ?_, ?_⟩
    · unfold nsA
      simp only [MT, Nat.zero_add, Nat.reduceAdd]
      refine ⟨p.mg, ?_, hfl, trivial, trivial, trivial, ?_, ?_, ?_, hn.symm, p.ex, trivial⟩
      · cases hg : gwOf l with
        | false => exact hv' hg
        | true => exact hv hg
      · cases hg : glOf l with
        | false => rfl
        | true => exact (hlt hg).1
      · cases hg : gwOf l with
        | true => exact (p.wd hg).1
        | false =>
          have e : pkN l = rd l 18 4 := by unfold pkN; rw [hg]; rfl
          cases hl : glOf l with
          | false => exact e.symm
          | true => show rd l 18 4 = 0; rw [← e]; exact (hlt hl).2.1
      · cases hg : gwOf l with
        | true => exact (p.wd hg).2.1
        | false =>
          have e : szN l = rd l 22 4 := by unfold szN; rw [hg]; rfl
          cases hl : glOf l with
          | false => exact e.symm
          | true => show rd l 22 4 = 0; rw [← e]; exact (hlt hl).2.2
    · rw [hn]; rfl
    · intro hg
      obtain ⟨w1, w2, w3, w4, w5⟩ := p.wd hg
      have e1 : pkN l = rd l (42 + rd l 26 2) 8 := by unfold pkN; rw [hg]; rfl
      have e2 : szN l = rd l (34 + rd l 26 2) 8 := by unfold szN; rw [hg]; rfl
      unfold nsB
      rw [hn]
      simp only [MT]
      refine ⟨w4, w5, ?_, ?_, trivial⟩
      · rw [show 30 + rd l 26 2 + 2 + 2 = 34 + rd l 26 2 by omega, ← e2]
        cases hl : glOf l with
        | false => rfl
        | true => exact (hlt hl).2.2
      · rw [show 30 + rd l 26 2 + 2 + 2 + 8 = 42 + rd l 26 2 by omega, ← e1]
        cases hl : glOf l with
        | false => rfl
        | true => exact (hlt hl).2.1
theorem acc_pac (l : List UInt8) : ACC l ↔ PAC l := ⟨ACC.pac, PAC.acc⟩
theorem date_back (D : Nat) : dN (1980 + (D : Int) / 512) ((D : Int) / 32 % 16) ((D : Int) % 32) = D := by
  unfold dN Dos.dateOf; omega
theorem clock_back (C : Nat) : cN ((C : Int) / 2048) ((C : Int) / 32 % 64) ((C : Int) % 32 * 2) = C := by
  unfold cN Dos.clockOf; omega
theorem endOf_rec (l : List UInt8) (h : 30 + rd l 26 2 ≤ l.length) : (recOf l).length = endOf l := by
  unfold recOf endOf
  rw [recB_len, nm_size l h]
end Go.Proofs.YtjkmgakgjoojfaaDoor
namespace Go.Proofs.YtjkmgakgjoojfaaDoor
set_option maxRecDepth 100000
set_option linter.unusedVariables false
set_option linter.unusedSimpArgs false
open Go.RowKit
theorem rd_take (l : List UInt8) (k p n : Nat) (h : p + n ≤ k) : rd (l.take k) p n = rd l p n := by
  unfold rd
  rw [List.drop_take, List.take_take, Nat.min_eq_left (by omega)]
theorem nm_take (l : List UInt8) (h : rd l 26 2 ≤ 255) : nmOf (l.take 305) = nmOf l := by
  unfold nmOf
  rw [rd_take l 305 26 2 (by omega), List.drop_take, List.take_take, Nat.min_eq_left (by omega)]
theorem pk_take (l : List UInt8) (h : rd l 26 2 ≤ 255) : pkL (l.take 305) = pkL l := by
  unfold pkL gwOf wd8
  rw [rd_take l 305 26 2 (by omega), rd_take l 305 4 2 (by omega), rd_take l 305 18 4 (by omega), rd_take l 305 (42 + rd l 26 2) 8 (by omega)]
theorem sz_take (l : List UInt8) (h : rd l 26 2 ≤ 255) : szL (l.take 305) = szL l := by
  unfold szL gwOf wd8
  rw [rd_take l 305 26 2 (by omega), rd_take l 305 4 2 (by omega), rd_take l 305 22 4 (by omega), rd_take l 305 (34 + rd l 26 2) 8 (by omega)]
theorem gw_take (l : List UInt8) : gwOf (l.take 305) = gwOf l := by
  unfold gwOf; rw [rd_take l 305 4 2 (by omega)]
theorem gl_take (l : List UInt8) : glOf (l.take 305) = glOf l := by
  unfold glOf; rw [rd_take l 305 6 2 (by omega)]
theorem len_take (l : List UInt8) (k : Nat) (hk : k ≤ 305) : k ≤ (l.take 305).length ↔ k ≤ l.length := by
  rw [List.length_take]; omega
theorem acc_take_iff (l : List UInt8) (h : rd l 26 2 ≤ 255) : ACC (l.take 305) ↔ ACC l := by
  have e26 := rd_take l 305 26 2 (by omega)
  have e0 := rd_take l 305 0 4 (by omega)
  have e12 := rd_take l 305 12 2 (by omega)
  have e10 := rd_take l 305 10 2 (by omega)
  have e4 := rd_take l 305 4 2 (by omega)
  have e6 := rd_take l 305 6 2 (by omega)
  have e28 := rd_take l 305 28 2 (by omega)
  have e18 := rd_take l 305 18 4 (by omega)
  have e22 := rd_take l 305 22 4 (by omega)
  have e14 := rd_take l 305 14 4 (by omega)
  have e8 := rd_take l 305 8 2 (by omega)
  have en := nm_take l h
  have ep := pk_take l h
  have es := sz_take l h
  have eg := gw_take l
  have el := gl_take l
  have ew : WP (l.take 305) (30 + rd l 26 2) (rd l 18 4) (rd l 22 4) ↔ WP l (30 + rd l 26 2) (rd l 18 4) (rd l 22 4) := by
    unfold WP
    rw [len_take l _ (by omega), rd_take l 305 (30 + rd l 26 2) 2 (by omega), rd_take l 305 (30 + rd l 26 2 + 2) 2 (by omega)]
  have hl := len_take l (30 + rd l 26 2) (by omega)
  constructor
  · rintro ⟨a1, a2, a3, a4, a5, a6, a7, a8, a9⟩
    rw [e26] at a1; rw [e0] at a2; rw [e12, e10] at a3; rw [e4, eg] at a4; rw [e6, en, el] at a5; rw [e28, eg] at a6; rw [eg, e26, e18, e22] at a7; rw [el, e14, ep, es] at a8; rw [en, e8, ep, es] at a9
    exact ⟨hl.1 a1, a2, a3, a4, a5, a6, fun h => ew.1 (a7 h), a8, a9⟩
  · rintro ⟨a1, a2, a3, a4, a5, a6, a7, a8, a9⟩
    refine ⟨?_, ?_, ?_, ?_, ?_, ?_, ?_, ?_, ?_⟩
    · rw [e26]; exact hl.2 a1
    · rw [e0]; exact a2
    · rw [e12, e10]; exact a3
    · rw [e4, eg]; exact a4
    · rw [e6, en, el]; exact a5
    · rw [e28, eg]; exact a6
    · rw [eg, e26, e18, e22]; exact fun h => ew.2 (a7 h)
    · rw [el, e14, ep, es]; exact a8
    · rw [en, e8, ep, es]; exact a9
theorem acc_small {l : List UInt8} (a : ACC l) : rd l 26 2 ≤ 255 := by
  have h1 := (chk_size (lcode_0 a.ck).1).2
  rw [nm_size l a.len] at h1
  exact h1
theorem acc_take (l : List UInt8) : ACC (l.take 305) ↔ ACC l := by
  constructor
  · intro a
    have := acc_small a
    rw [rd_take l 305 26 2 (by omega)] at this
    exact (acc_take_iff l this).1 a
  · intro a
    exact (acc_take_iff l (acc_small a)).2 a
theorem hdr_take {l : List UInt8} (a : ACC l) : hdrOf (l.take 305) = hdrOf l ∧ endOf (l.take 305) = endOf l := by
  have h := acc_small a
  unfold hdrOf endOf
  rw [nm_take l h, pk_take l h, sz_take l h, gw_take l, gl_take l, rd_take l 305 10 2 (by omega), rd_take l 305 12 2 (by omega), rd_take l 305 8 2 (by omega), rd_take l 305 14 4 (by omega), rd_take l 305 26 2 (by omega)]
  exact ⟨rfl, rfl⟩
end Go.Proofs.YtjkmgakgjoojfaaDoor
