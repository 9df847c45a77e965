/- Contracts of octet's Reader. -/
import Derived.Test.YtcpojpgdjjmfbaaDoorTrapA
import Derived.Test.YtcpojpgdjjmfbaaDoorOb
import Derived.Deep.QuietTactic
import Derived.BigQuiet
import Derived.Deep.Cut
namespace Go.Proofs.YtcpojpgdjjmfbaaDoor
set_option linter.unusedVariables false
set_option linter.unusedSimpArgs false
set_option maxRecDepth 100000
open Go.RowKit
theorem check_no (c : Int) (w : World) : Calls Tryd.prog 44 #[.bool false, .int .i64 c] w fun e w' => e = .panicked (fault c) ∧ w = w' := by
  go_enter Tryd.func44, Tryd.ntmps44
  go_wp2_with fail
  refine (throw_any c _).mono ?_
  rintro e w' ⟨rfl, rfl⟩
  go_wp2
  exact ⟨rfl, rfl, rfl⟩
theorem check_yes (c : Int) (w : World) : Calls Tryd.prog 44 #[.bool true, .int .i64 c] w fun e w' => e = .returned (.tuple #[]) ∧ w = w' := by
  go_enter Tryd.func44, Tryd.ntmps44
  go_wp2
  go_end0
  exact ⟨rfl, rfl⟩
/-- The number in some bytes. -/
def rd (l : List UInt8) (p n : Nat) : Nat := num ((l.drop p).take n)
theorem rd_lt (l : List UInt8) (p n : Nat) : rd l p n < 256 ^ n :=
  Nat.lt_of_lt_of_le (num_lt _) (pow256_le (by rw [List.length_take]; omega))
theorem gr_trans' {a b c : World} {row : Option Nat} (h : a.grownBy b row) (k : b.grownBy c row) : a.grownBy c row := gr_trans h k (fun _ h => .inl h)
/-- A reader of bytes at a place. -/
def RD (w : World) (rb : Nat) (l : List UInt8) (p : Nat) : Prop :=
  ∃ a cap, Own w rb [.slice a l.length cap, .int .i64 (p : Nat)] ∧ Byt w rb (.slice a l.length cap) l ∧ l.length ≤ cap ∧ p ≤ l.length ∧ l.length ≤ 100000 ∧ rb < w.heap.size
theorem RD.below {w w' : World} {rb p : Nat} {l : List UInt8} (h : RD w rb l p) (hb : Below w.heap.size w w') : RD w' rb l p := by
  obtain ⟨a, cap, h1, h2, h3, h4, h5, h6⟩ := h
  exact ⟨a, cap, h1.below hb h6, h2.below (hb.mono (Nat.le_of_lt h6)), h3, h4, h5, Nat.lt_of_lt_of_le h6 hb.size⟩
/-- A reader is kept by what changes other blocks alone. -/
theorem RD.kept {w w' : World} {rb p : Nat} {l : List UInt8} {row : Option Nat} (h : RD w rb l p) (hg : w.grownBy w' row) (hr : ∀ k, row = some k → rb < k) : RD w' rb l p := by
  obtain ⟨a, cap, h1, h2, h3, h4, h5, h6⟩ := h
  have hb : Below (rb + 1) w w' := gr_below hg (rb + 1) (by omega) (fun i hi => by have := hr i hi; omega)
  exact ⟨a, cap, h1.below hb (by omega), h2.below (hb.mono (by omega)), h3, h4, h5, Nat.lt_of_lt_of_le h6 hg.size⟩
/-- Below block B nothing has changed but in some blocks. -/
structure Bx (S : List Nat) (B : Nat) (a b : World) : Prop where
  os : b.os = a.os
  tape : b.tape = a.tape
  output : b.output = a.output
  size : a.heap.size ≤ b.heap.size
  block : ∀ k, k < B → k ∉ S → b.heap[k]? = a.heap[k]?
theorem Bx.refl (S : List Nat) (B : Nat) (a : World) : Bx S B a a := ⟨rfl, rfl, rfl, Nat.le_refl _, fun _ _ _ => rfl⟩
theorem Bx.of_below {S : List Nat} {B : Nat} {a b : World} (h : Below B a b) : Bx S B a b := ⟨h.os, h.tape, h.output, h.size, fun k hk _ => h.block k hk⟩
theorem Bx.of_gr {rb : Nat} {a b : World} (h : a.grownBy b (some rb)) : Bx [rb] a.heap.size a b := ⟨h.os, h.tape, h.output, h.size, fun k hk hn => h.block k hk (by simpa using hn)⟩
theorem Bx.mono {S : List Nat} {B B' : Nat} {a b : World} (h : Bx S B a b) (hB : B' ≤ B) : Bx S B' a b := ⟨h.os, h.tape, h.output, h.size, fun k hk hn => h.block k (by omega) hn⟩
theorem Bx.weak {S T : List Nat} {B : Nat} {a b : World} (h : Bx S B a b) (hT : ∀ k, k < B → k ∈ S → k ∈ T) : Bx T B a b := ⟨h.os, h.tape, h.output, h.size, fun k hk hn => h.block k hk (fun hs => hn (hT k hk hs))⟩
theorem Bx.trans {S : List Nat} {B : Nat} {a b c : World} (h : Bx S B a b) (k : Bx S B b c) : Bx S B a c :=
  ⟨k.os.trans h.os, k.tape.trans h.tape, k.output.trans h.output, Nat.le_trans h.size k.size, fun i hi hn => (k.block i hi hn).trans (h.block i hi hn)⟩
theorem Bx.setCell {S : List Nat} {B : Nat} {a b : World} (h : Bx S B a b) {p : Addr} (hp : p.block ∈ S ∨ B ≤ p.block) (v : Value) : Bx S B a (b.setCell p v) :=
  ⟨h.os, h.tape, h.output, by simpa [World.setCell] using h.size, fun k hk hn => (Below.heap_setCell b p v k (by rintro rfl; rcases hp with hp | hp; exact hn hp; omega)).trans (h.block k hk hn)⟩
theorem Bx.alloc {S : List Nat} {B : Nat} {a b : World} (h : Bx S B a b) (hB : B ≤ b.heap.size) (o : Obj) : Bx S B a (b.alloc o) := h.trans (Bx.of_below ((Below.refl _ _).alloc hB o))
theorem Bx.cell {S : List Nat} {B : Nat} {a b : World} (h : Bx S B a b) {p : Addr} (hp : p.block < B) (hn : p.block ∉ S) : b.cell? p = a.cell? p := World.cell?_of_block (h.block _ hp hn)
theorem Bx.frozen {S : List Nat} {B : Nat} {a b : World} (h : Bx S B a b) {p : Addr} (hp : p.block < B) (hn : p.block ∉ S) : b.frozen? p = a.frozen? p := World.frozen?_of_block (h.block _ hp hn)
theorem Bx.below {S : List Nat} {B : Nat} {a b : World} (h : Bx S B a b) {C : Nat} (hC : C ≤ B) (hS : ∀ k ∈ S, C ≤ k) : Below C a b := ⟨h.os, h.tape, h.output, h.size, fun k hk => h.block k (by omega) (fun hs => by have := hS k hs; omega)⟩
theorem Cells.bx {S : List Nat} {w w' : World} {b B : Nat} {cs : List Value} (h : Cells w b cs) (hb : Bx S B w w') (hB : b < B) (hn : b ∉ S) : Cells w' b cs := fun j v hj => (hb.cell (p := ⟨b, j, none⟩) hB hn).trans (h j v hj)
theorem Own.bx {S : List Nat} {w w' : World} {b B : Nat} {cs : List Value} (h : Own w b cs) (hb : Bx S B w w') (hB : b < B) (hn : b ∉ S) : Own w' b cs :=
  ⟨h.1.bx hb hB hn, fun j => (hb.frozen (p := ⟨b, j, none⟩) hB hn).trans (h.2 j)⟩
theorem RD.set_other {w : World} {rb p : Nat} {l : List UInt8} (h : RD w rb l p) {b : Nat} (hb : rb < b) (j : Nat) (v : Value) : RD (w.setCell ⟨b, j, none⟩ v) rb l p := by
  obtain ⟨a, cap, h1, h2, h3, h4, h5, h6⟩ := h
  exact ⟨a, cap, h1.other (by omega) j v, h2.below ((Below.refl rb w).setCell (p := ⟨b, j, none⟩) (Nat.le_of_lt hb) _), h3, h4, h5, by simpa using h6⟩
theorem RD.bx {S : List Nat} {w w' : World} {rb p B : Nat} {l : List UInt8} (h : RD w rb l p) (hb : Bx S B w w') (hB : rb < B) (hS : ∀ k ∈ S, rb < k) : RD w' rb l p := by
  obtain ⟨a, cap, h1, h2, h3, h4, h5, h6⟩ := h
  have hbl : Below (rb + 1) w w' := hb.below (by omega) (fun k hk => by have := hS k hk; omega)
  exact ⟨a, cap, h1.below hbl (by omega), h2.below (hbl.mono (by omega)), h3, h4, h5, Nat.lt_of_lt_of_le h6 hb.size⟩
theorem at_any {w : World} {rb p : Nat} {l : List UInt8} (h : RD w rb l p) : Calls Tryd.prog 22 #[.pointer (some ⟨rb, 0, none⟩)] w fun e w' => e = .returned (.int .i64 (p : Nat)) ∧ w' = w := by
  obtain ⟨a, cap, h1, h2, h3, h4, h5, h6⟩ := h
  have k1 := h1.1 1 _ rfl
  clear h1 h2
  go_enter Tryd.func22, Tryd.ntmps22
  go_wp2
  go_ret
  exact ⟨rfl, rfl⟩
theorem left_any {w : World} {rb p : Nat} {l : List UInt8} (h : RD w rb l p) : Calls Tryd.prog 57 #[.pointer (some ⟨rb, 0, none⟩)] w fun e w' => e = .returned (.int .i64 ((l.length : Int) - (p : Int))) ∧ ∃ n, w' = w.drewN n := by
  obtain ⟨a, cap, h1, h2, h3, h4, h5, h6⟩ := h
  have k0 := h1.1 0 _ rfl
  have k1 := h1.1 1 _ rfl
  have hw : IntKind.i64.wrap ((l.length : Int) - (p : Int)) = (l.length : Int) - p := IntWalk.i64_in _ (by omega)
  clear h1 h2
  go_enter Tryd.func57, Tryd.ntmps57
  go_wp2
  go_quiet (fail)
  go_wp2
  go_ret
  exact ⟨rfl, _, rfl⟩
theorem RD.drewN {w : World} {rb p : Nat} {l : List UInt8} (h : RD w rb l p) (n : Nat) : RD (w.drewN n) rb l p := h.below (below_drewN (Below.refl _ _) n)
theorem gr_drewN (w : World) (n : Nat) (row : Option Nat) : w.grownBy (w.drewN n) row := gr_of_below (below_drewN (Below.refl _ _) n) row
theorem RD.moved {w : World} {rb p : Nat} {l : List UInt8} (h : RD w rb l p) (q : Nat) (hq : q ≤ l.length) : RD (w.setCell ⟨rb, 1, none⟩ (.int .i64 (q : Nat))) rb l q := by
  obtain ⟨a, cap, h1, h2, h3, h4, h5, h6⟩ := h
  refine ⟨a, cap, h1.set 1 _ (by simp), ?_, h3, hq, h5, by simpa using h6⟩
  exact h2.below ((Below.refl rb w).setCell (p := ⟨rb, 1, none⟩) (Nat.le_refl _) _)
set_option maxHeartbeats 1000000 in
theorem int_yes {w : World} {rb p : Nat} {l : List UInt8} (h : RD w rb l p) (n : Nat) (n1 : 1 ≤ n) (n2 : n ≤ 8) (hn : p + n ≤ l.length) :
    Calls Tryd.prog 41 #[.pointer (some ⟨rb, 0, none⟩), .int .i64 (n : Nat)] w fun e w' => e = .returned (.int .u64 (rd l p n : Nat)) ∧ RD w' rb l (p + n) ∧ Bx [rb] w.heap.size w w' := by
  have HR := Lib.hid (fun W => right_any (n : Int) W)
  rw [rightW_true (by omega) (by omega)] at HR
  have HRD := Lib.hid h
  obtain ⟨a, cap, h1, h2, h3, h4, h5, h6⟩ := h
  have hw : IntKind.i64.wrap ((p : Int) + (n : Int)) = (p : Int) + n := IntWalk.i64_in _ (by omega)
  have hsl := fun W => slice_lh (t := 31) (e := 5) (size := 1) rfl size_u8 a l.length cap (p : Int) ((p : Int) + (n : Int)) (by omega) (by omega) (by omega) W
  have hsb := sub_byt h2 p n (by omega)
  rw [show ((p : Int) + (n : Int)).toNat = p + n from by omega, Int.toNat_natCast, show p + n - p = n from by omega] at hsl
  generalize Value.slice (if cap = p then a else a.map (·.add (p * 1))) n (cap - p) = S at *
  have HSB := Lib.hid hsb
  have t1 : decide ((n : Int) ≤ (l.length : Int) - (p : Int)) = true := by simp; omega
  have HK := Lib.hid h1
  clear h2 hsb h1
  have HSL := Lib.hid hsl
  have HW := Lib.hid hw
  clear hsl hw
  go_enter Tryd.func41, Tryd.ntmps41
  go_wp2_with fail
  refine (HR.out _).mono ?_
  rintro e w' ⟨rfl, hw'⟩
  subst w'
  go_wp2_with fail
  refine (check_yes _ _).mono ?_
  rintro e w' ⟨rfl, rfl⟩
  go_wp2_with fail
  refine (left_any HRD.out).mono ?_
  rintro e w1 ⟨rfl, m, rfl⟩
  go_wp2_with fail
  refine (check_yes _ _).mono ?_
  rintro e w' ⟨rfl, rfl⟩
  have HD1 := Lib.hid (HRD.out.drewN m)
  have HG1 := Lib.hid (gr_drewN w m (some rb))
  have HK1 := Lib.hid (HK.out.below (below_drewN (Below.refl w.heap.size w) m) h6)
  have HSB1 := Lib.hid (HSB.out.below (below_drewN (Below.refl rb w) m))
  have h6' : rb < (w.drewN m).heap.size := h6
  clear h6
  generalize w.drewN m = w1 at *
  have k0 := HK1.out.1 0 _ rfl
  have k1 := HK1.out.1 1 _ rfl
  have hsl := HSL.out
  have hw := HW.out
  go_wp2_with fail
  go_quiet ((go_at_call 58; exact Calls.quiet_of_same (decode_B HSB1.out (by rw [List.length_take]; omega))))
  have HD2 := Lib.hid (HD1.out.drewN nq)
  have HG2 := Lib.hid (gr_trans' HG1.out (gr_drewN w1 nq (some rb)))
  have HK2 := Lib.hid (HK1.out.below (below_drewN (Below.refl w1.heap.size w1) nq) h6')
  have h6 : rb < (w1.drewN nq).heap.size := h6'
  clear h6' k0 k1 hsl
  go_upto_region 4 with (fail)
  generalize w1.drewN nq = w2 at *
  have k0 := HK2.out.1 0 _ rfl
  have k1 := HK2.out.1 1 _ rfl
  have hf := HK2.out.2
  go_wp2
  go_ret
  refine ⟨rfl, ?_, ?_⟩
  · have := HD2.out.moved (p + n) hn
    simpa using this
  · exact Bx.of_gr (only_setCell HG2.out (.inl rfl) _)
theorem int_arg {w : World} {rb p : Nat} {l : List UInt8} (h : RD w rb l p) (n : Int) (hn : n < 1 ∨ 8 < n) :
    Calls Tryd.prog 41 #[.pointer (some ⟨rb, 0, none⟩), .int .i64 n] w fun e w' => e = .panicked (fault 1) ∧ RD w' rb l p ∧ Bx [rb] w.heap.size w w' := by
  have HR := Lib.hid (fun W => right_any n W)
  rw [rightW_false hn] at HR
  have HRD := Lib.hid h
  clear h hn
  go_enter Tryd.func41, Tryd.ntmps41
  go_wp2_with fail
  refine (HR.out _).mono ?_
  rintro e w' ⟨rfl, hw'⟩
  subst w'
  go_wp2_with fail
  refine (check_no _ _).mono ?_
  rintro e w' ⟨rfl, rfl⟩
  go_wp2
  exact ⟨rfl, rfl, HRD.out, Bx.refl _ _ _⟩
theorem int_short {w : World} {rb p : Nat} {l : List UInt8} (h : RD w rb l p) (n : Nat) (n1 : 1 ≤ n) (n2 : n ≤ 8) (hn : l.length < p + n) :
    Calls Tryd.prog 41 #[.pointer (some ⟨rb, 0, none⟩), .int .i64 (n : Nat)] w fun e w' => e = .panicked (fault 4) ∧ RD w' rb l p ∧ Bx [rb] w.heap.size w w' := by
  have HR := Lib.hid (fun W => right_any (n : Int) W)
  rw [rightW_true (by omega) (by omega)] at HR
  have HRD := Lib.hid h
  have t1 : decide ((n : Int) ≤ (l.length : Int) - (p : Int)) = false := by simp; omega
  clear h
  go_enter Tryd.func41, Tryd.ntmps41
  go_wp2_with fail
  refine (HR.out _).mono ?_
  rintro e w' ⟨rfl, hw'⟩
  subst w'
  go_wp2_with fail
  refine (check_yes _ _).mono ?_
  rintro e w' ⟨rfl, rfl⟩
  go_wp2_with fail
  refine (left_any HRD.out).mono ?_
  rintro e w1 ⟨rfl, m, rfl⟩
  go_wp2_with fail
  refine (check_no _ _).mono ?_
  rintro e w' ⟨rfl, rfl⟩
  go_wp2
  exact ⟨rfl, rfl, HRD.out.drewN m, Bx.of_gr (gr_drewN w m _)⟩
/-- What reading an integer comes to. -/
theorem want_yes {w : World} {rb p : Nat} {l : List UInt8} (h : RD w rb l p) (n : Nat) (v c : Int) (n1 : 1 ≤ n) (n2 : n ≤ 8) (hn : p + n ≤ l.length) (hv : ((rd l p n : Nat) : Int) = v) :
    Calls Tryd.prog 40 #[.pointer (some ⟨rb, 0, none⟩), .int .i64 (n : Nat), .int .u64 v, .int .i64 c] w fun e w' => e = .returned (.tuple #[]) ∧ RD w' rb l (p + n) ∧ Bx [rb] w.heap.size w w' := by
  have HI := Lib.hid (int_yes h n n1 n2 hn)
  rw [hv] at HI
  clear h hv
  go_enter Tryd.func40, Tryd.ntmps40
  go_wp2_with fail
  refine HI.out.mono ?_
  rintro e w1 ⟨rfl, hd, hb⟩
  have HD := Lib.hid hd
  have HB := Lib.hid hb
  clear hd hb
  go_wp2_with fail
  refine (check_yes _ _).mono ?_
  rintro e w' ⟨rfl, rfl⟩
  go_wp2
  go_end0
  exact ⟨rfl, HD.out, HB.out⟩
theorem want_no {w : World} {rb p : Nat} {l : List UInt8} (h : RD w rb l p) (n : Nat) (v c : Int) (n1 : 1 ≤ n) (n2 : n ≤ 8) (hn : p + n ≤ l.length) (hv : ((rd l p n : Nat) : Int) ≠ v) :
    Calls Tryd.prog 40 #[.pointer (some ⟨rb, 0, none⟩), .int .i64 (n : Nat), .int .u64 v, .int .i64 c] w fun e w' => e = .panicked (fault c) ∧ RD w' rb l (p + n) ∧ Bx [rb] w.heap.size w w' := by
  have HI := Lib.hid (int_yes h n n1 n2 hn)
  generalize ((rd l p n : Nat) : Int) = x at *
  have t : (x == v) = false := by simpa using hv
  clear h hv
  go_enter Tryd.func40, Tryd.ntmps40
  go_wp2_with fail
  refine HI.out.mono ?_
  rintro e w1 ⟨rfl, hd, hb⟩
  have HD := Lib.hid hd
  have HB := Lib.hid hb
  clear hd hb
  go_wp2_with fail
  refine (check_no _ _).mono ?_
  rintro e w' ⟨rfl, rfl⟩
  go_wp2
  exact ⟨rfl, rfl, HD.out, HB.out⟩
theorem want_arg {w : World} {rb p : Nat} {l : List UInt8} (h : RD w rb l p) (n : Int) (v c : Int) (hn : n < 1 ∨ 8 < n) :
    Calls Tryd.prog 40 #[.pointer (some ⟨rb, 0, none⟩), .int .i64 n, .int .u64 v, .int .i64 c] w fun e w' => e = .panicked (fault 1) ∧ RD w' rb l p ∧ Bx [rb] w.heap.size w w' := by
  have HI := Lib.hid (int_arg h n hn)
  clear h hn
  go_enter Tryd.func40, Tryd.ntmps40
  go_wp2_with fail
  refine HI.out.mono ?_
  rintro e w1 ⟨rfl, hd, hb⟩
  have HD := Lib.hid hd
  have HB := Lib.hid hb
  clear hd hb
  go_wp2
  exact ⟨rfl, rfl, HD.out, HB.out⟩
theorem want_short {w : World} {rb p : Nat} {l : List UInt8} (h : RD w rb l p) (n : Nat) (v c : Int) (n1 : 1 ≤ n) (n2 : n ≤ 8) (hn : l.length < p + n) :
    Calls Tryd.prog 40 #[.pointer (some ⟨rb, 0, none⟩), .int .i64 (n : Nat), .int .u64 v, .int .i64 c] w fun e w' => e = .panicked (fault 4) ∧ RD w' rb l p ∧ Bx [rb] w.heap.size w w' := by
  have HI := Lib.hid (int_short h n n1 n2 hn)
  clear h
  go_enter Tryd.func40, Tryd.ntmps40
  go_wp2_with fail
  refine HI.out.mono ?_
  rintro e w1 ⟨rfl, hd, hb⟩
  have HD := Lib.hid hd
  have HB := Lib.hid hb
  clear hd hb
  go_wp2
  exact ⟨rfl, rfl, HD.out, HB.out⟩
set_option maxHeartbeats 1000000 in
theorem over_any {w : World} {B : Nat} {v : Value} {l : List UInt8} (h : Byt w B v l) (hl : l.length ≤ 100000) :
    Calls Tryd.prog 18 #[v] w fun e w' => ∃ rb, e = .returned (.pointer (some ⟨rb, 0, none⟩)) ∧ w.heap.size ≤ rb ∧ RD w' rb l 0 ∧ Below w.heap.size w w' := by
  have HC := Lib.hid (clone_any h (by omega))
  clear h
  go_enter Tryd.func18, Tryd.ntmps18
  go_wp2_with fail
  refine HC.out.mono ?_
  rintro e w1 ⟨u, rfl, ho, hb⟩
  have HO : Hid (OB w.heap.size w1 u l) := ho
  have HB := Lib.hid hb
  clear ho hb
  obtain ⟨a, cap, hu, hc⟩ := HO.out.form
  subst hu
  go_wp2
  go_ret
  refine ⟨w1.heap.size, rfl, HB.out.size, ?_, HB.out.alloc HB.out.size _⟩
  refine ⟨a, cap, Own.new_at w1 [.slice a l.length cap, .int .i64 0] 70 w1.heap.size rfl, ?_, hc, Nat.zero_le _, hl, by simp⟩
  exact (HO.out.byt).below ((Below.refl _ _).alloc (Nat.le_refl _) _)
end Go.Proofs.YtcpojpgdjjmfbaaDoor
