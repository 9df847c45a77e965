/- Contracts of the law's read. -/
import Derived.Test.YtephiopgpfdchaaTryB
import Derived.Test.YtephiopgpfdchaaRdB
namespace Go.Proofs.Ytephiopgpfdchaa
open Go.RowKit
theorem cf_read1 (cap : Array Value) (w : World) : (callFunc 26 cap).run Try.prog w = .ok (.enter 26 cap) w := by kernel_rfl
set_option maxHeartbeats 1000000 in
theorem r1_bytes_yes (rb p : Nat) (l : List UInt8) (bc br : Nat) (w : World) (h : RD w rb l p) (n : Nat) (v : Nat) (hn : p + n ≤ l.length) (hc : Cells w bc [.int .i64 0, .int .i64 (n : Nat), .int .u64 (v : Nat)]) (hr : w.cell? ⟨br, 0, none⟩ = some (.pointer (some ⟨rb, 0, none⟩))) :
    Calls Try.prog 26 #[.pointer (some ⟨bc, 0, none⟩), .pointer (some ⟨br, 0, none⟩)] w (RetB rb (p + n) l ((l.drop p).take n) w) := by
  have k0 := hc 0 _ rfl
  have k1 := hc 1 _ rfl
  have k2 := hc 2 _ rfl
  have HC := Lib.hid (bytes_yes h n hn)
  clear hc h
  go_enter Try.func26, Try.ntmps26
  go_wp2_with fail
  refine (HC.out).mono ?_
  rintro e w1 ⟨a, m, c, rfl, ho, hd, hb⟩
  have HD := Lib.hid hd
  have HB := Lib.hid hb
  have HO := Lib.hid ho
  clear hd hb ho
  go_wp2
  go_ret
  exact ⟨a, m, c, rfl, HO.out, HD.out, HB.out⟩
set_option maxHeartbeats 1000000 in
theorem r1_bytes_arg (rb p : Nat) (l : List UInt8) (bc br : Nat) (w : World) (h : RD w rb l p) (n : Int) (v : Nat) (hn : n < 0) (hc : Cells w bc [.int .i64 0, .int .i64 n, .int .u64 (v : Nat)]) (hr : w.cell? ⟨br, 0, none⟩ = some (.pointer (some ⟨rb, 0, none⟩))) :
    Calls Try.prog 26 #[.pointer (some ⟨bc, 0, none⟩), .pointer (some ⟨br, 0, none⟩)] w (ThrowB rb p l 1 w) := by
  have k0 := hc 0 _ rfl
  have k1 := hc 1 _ rfl
  have k2 := hc 2 _ rfl
  have HC := Lib.hid (bytes_arg h n hn)
  clear hc h
  go_enter Try.func26, Try.ntmps26
  go_wp2_with fail
  refine (HC.out).mono ?_
  rintro e w1 ⟨rfl, hd, hb⟩
  have HD := Lib.hid hd
  have HB := Lib.hid hb
  clear hd hb
  go_wp2
  exact ⟨rfl, rfl, HD.out, HB.out⟩
set_option maxHeartbeats 1000000 in
theorem r1_bytes_short (rb p : Nat) (l : List UInt8) (bc br : Nat) (w : World) (h : RD w rb l p) (n : Int) (v : Nat) (h0 : 0 ≤ n) (hn : (l.length : Int) - p < n) (hc : Cells w bc [.int .i64 0, .int .i64 n, .int .u64 (v : Nat)]) (hr : w.cell? ⟨br, 0, none⟩ = some (.pointer (some ⟨rb, 0, none⟩))) :
    Calls Try.prog 26 #[.pointer (some ⟨bc, 0, none⟩), .pointer (some ⟨br, 0, none⟩)] w (ThrowB rb p l 4 w) := by
  have k0 := hc 0 _ rfl
  have k1 := hc 1 _ rfl
  have k2 := hc 2 _ rfl
  have HC := Lib.hid (bytes_short h n h0 hn)
  clear hc h
  go_enter Try.func26, Try.ntmps26
  go_wp2_with fail
  refine (HC.out).mono ?_
  rintro e w1 ⟨rfl, hd, hb⟩
  have HD := Lib.hid hd
  have HB := Lib.hid hb
  clear hd hb
  go_wp2
  exact ⟨rfl, rfl, HD.out, HB.out⟩
set_option maxHeartbeats 1000000 in
theorem r1_int_yes (rb p : Nat) (l : List UInt8) (bc br : Nat) (w : World) (h : RD w rb l p) (n : Nat) (v : Nat) (n1 : 1 ≤ n) (n2 : n ≤ 8) (hn : p + n ≤ l.length) (hc : Cells w bc [.int .i64 1, .int .i64 (n : Nat), .int .u64 (v : Nat)]) (hr : w.cell? ⟨br, 0, none⟩ = some (.pointer (some ⟨rb, 0, none⟩))) :
    Calls Try.prog 26 #[.pointer (some ⟨bc, 0, none⟩), .pointer (some ⟨br, 0, none⟩)] w (RetB rb (p + n) l (byt 8 (rd l p n)) w) := by
  have k0 := hc 0 _ rfl
  have k1 := hc 1 _ rfl
  have k2 := hc 2 _ rfl
  have HC := Lib.hid (int_yes h n n1 n2 hn)
  have hlt : rd l p n < 18446744073709551616 := Nat.lt_of_lt_of_le (rd_lt l p n) (Nat.le_trans (pow256_le n2) (by decide))
  have HRF := Lib.hid (fun W => refBytes_any (rd l p n) 8 W (by decide) hlt)
  clear hlt
  generalize rd l p n = x at *
  clear hc h
  go_enter Try.func26, Try.ntmps26
  go_wp2_with fail
  refine (HC.out).mono ?_
  rintro e w1 ⟨rfl, hd, hb⟩
  have HD := Lib.hid hd
  have HB := Lib.hid hb
  have hs := hb.size
  clear hd hb
  go_wp2_with fail
  refine (HRF.out _).mono ?_
  rintro e w2 ⟨u, rfl, ho, hb⟩
  have HD := Lib.hid (HD.out.below hb)
  have HB := Lib.hid (HB.out.trans (Bx.of_below (hb.mono hs)))
  have HO : Hid (OB w.heap.size w2 u (byt 8 x)) := Lib.hid (OB.mono (base := w1.heap.size) (by show w2.ownsRow _ _ _ _ _ _; rw [byt_length]; exact ho) hs)
  clear hb ho
  obtain ⟨a, c, hu, _⟩ := HO.out.form
  subst hu
  go_wp2
  go_ret
  exact ⟨_, _, _, rfl, HO.out, HD.out, HB.out⟩
set_option maxHeartbeats 1000000 in
theorem r1_int_arg (rb p : Nat) (l : List UInt8) (bc br : Nat) (w : World) (h : RD w rb l p) (n : Int) (v : Nat) (hn : n < 1 ∨ 8 < n) (hc : Cells w bc [.int .i64 1, .int .i64 n, .int .u64 (v : Nat)]) (hr : w.cell? ⟨br, 0, none⟩ = some (.pointer (some ⟨rb, 0, none⟩))) :
    Calls Try.prog 26 #[.pointer (some ⟨bc, 0, none⟩), .pointer (some ⟨br, 0, none⟩)] w (ThrowB rb p l 1 w) := by
  have k0 := hc 0 _ rfl
  have k1 := hc 1 _ rfl
  have k2 := hc 2 _ rfl
  have HC := Lib.hid (int_arg h n hn)
  clear hc h
  go_enter Try.func26, Try.ntmps26
  go_wp2_with fail
  refine (HC.out).mono ?_
  rintro e w1 ⟨rfl, hd, hb⟩
  have HD := Lib.hid hd
  have HB := Lib.hid hb
  clear hd hb
  go_wp2
  exact ⟨rfl, rfl, HD.out, HB.out⟩
set_option maxHeartbeats 1000000 in
theorem r1_int_short (rb p : Nat) (l : List UInt8) (bc br : Nat) (w : World) (h : RD w rb l p) (n : Nat) (v : Nat) (n1 : 1 ≤ n) (n2 : n ≤ 8) (hn : l.length < p + n) (hc : Cells w bc [.int .i64 1, .int .i64 (n : Nat), .int .u64 (v : Nat)]) (hr : w.cell? ⟨br, 0, none⟩ = some (.pointer (some ⟨rb, 0, none⟩))) :
    Calls Try.prog 26 #[.pointer (some ⟨bc, 0, none⟩), .pointer (some ⟨br, 0, none⟩)] w (ThrowB rb p l 4 w) := by
  have k0 := hc 0 _ rfl
  have k1 := hc 1 _ rfl
  have k2 := hc 2 _ rfl
  have HC := Lib.hid (int_short h n n1 n2 hn)
  clear hc h
  go_enter Try.func26, Try.ntmps26
  go_wp2_with fail
  refine (HC.out).mono ?_
  rintro e w1 ⟨rfl, hd, hb⟩
  have HD := Lib.hid hd
  have HB := Lib.hid hb
  clear hd hb
  go_wp2
  exact ⟨rfl, rfl, HD.out, HB.out⟩
set_option maxHeartbeats 1000000 in
theorem r1_want_yes (rb p : Nat) (l : List UInt8) (bc br : Nat) (w : World) (h : RD w rb l p) (k : Int) (hk0 : k ≠ 0) (hk1 : k ≠ 1) (n : Nat) (v : Nat) (n1 : 1 ≤ n) (n2 : n ≤ 8) (hn : p + n ≤ l.length) (hv : rd l p n = v) (hc : Cells w bc [.int .i64 k, .int .i64 (n : Nat), .int .u64 (v : Nat)]) (hr : w.cell? ⟨br, 0, none⟩ = some (.pointer (some ⟨rb, 0, none⟩))) :
    Calls Try.prog 26 #[.pointer (some ⟨bc, 0, none⟩), .pointer (some ⟨br, 0, none⟩)] w (RetB rb (p + n) l ([]) w) := by
  have d0 : (k == 0) = false := by simpa using hk0
  have d1 : (k == 1) = false := by simpa using hk1
  have k0 := hc 0 _ rfl
  have k1 := hc 1 _ rfl
  have k2 := hc 2 _ rfl
  have HC := Lib.hid (want_yes h n (v : Int) 35 n1 n2 hn (by rw [hv]))
  clear hv
  clear hc h hk0 hk1
  go_enter Try.func26, Try.ntmps26
  go_wp2_with fail
  refine (HC.out).mono ?_
  rintro e w1 ⟨rfl, hd, hb⟩
  have HD := Lib.hid hd
  have HB := Lib.hid hb
  clear hd hb
  go_wp2
  go_ret
  exact ⟨none, 0, 0, rfl, OB.nil _ _, HD.out, HB.out⟩
set_option maxHeartbeats 1000000 in
theorem r1_want_no (rb p : Nat) (l : List UInt8) (bc br : Nat) (w : World) (h : RD w rb l p) (k : Int) (hk0 : k ≠ 0) (hk1 : k ≠ 1) (n : Nat) (v : Nat) (n1 : 1 ≤ n) (n2 : n ≤ 8) (hn : p + n ≤ l.length) (hv : rd l p n ≠ v) (hc : Cells w bc [.int .i64 k, .int .i64 (n : Nat), .int .u64 (v : Nat)]) (hr : w.cell? ⟨br, 0, none⟩ = some (.pointer (some ⟨rb, 0, none⟩))) :
    Calls Try.prog 26 #[.pointer (some ⟨bc, 0, none⟩), .pointer (some ⟨br, 0, none⟩)] w (ThrowB rb (p + n) l 35 w) := by
  have d0 : (k == 0) = false := by simpa using hk0
  have d1 : (k == 1) = false := by simpa using hk1
  have k0 := hc 0 _ rfl
  have k1 := hc 1 _ rfl
  have k2 := hc 2 _ rfl
  have HC := Lib.hid (want_no h n (v : Int) 35 n1 n2 hn (by omega))
  clear hv
  clear hc h hk0 hk1
  go_enter Try.func26, Try.ntmps26
  go_wp2_with fail
  refine (HC.out).mono ?_
  rintro e w1 ⟨rfl, hd, hb⟩
  have HD := Lib.hid hd
  have HB := Lib.hid hb
  clear hd hb
  go_wp2
  exact ⟨rfl, rfl, HD.out, HB.out⟩
set_option maxHeartbeats 1000000 in
theorem r1_want_arg (rb p : Nat) (l : List UInt8) (bc br : Nat) (w : World) (h : RD w rb l p) (k : Int) (hk0 : k ≠ 0) (hk1 : k ≠ 1) (n : Int) (v : Nat) (hn : n < 1 ∨ 8 < n) (hc : Cells w bc [.int .i64 k, .int .i64 n, .int .u64 (v : Nat)]) (hr : w.cell? ⟨br, 0, none⟩ = some (.pointer (some ⟨rb, 0, none⟩))) :
    Calls Try.prog 26 #[.pointer (some ⟨bc, 0, none⟩), .pointer (some ⟨br, 0, none⟩)] w (ThrowB rb p l 1 w) := by
  have d0 : (k == 0) = false := by simpa using hk0
  have d1 : (k == 1) = false := by simpa using hk1
  have k0 := hc 0 _ rfl
  have k1 := hc 1 _ rfl
  have k2 := hc 2 _ rfl
  have HC := Lib.hid (want_arg h n (v : Int) 35 hn)
  clear hc h hk0 hk1
  go_enter Try.func26, Try.ntmps26
  go_wp2_with fail
  refine (HC.out).mono ?_
  rintro e w1 ⟨rfl, hd, hb⟩
  have HD := Lib.hid hd
  have HB := Lib.hid hb
  clear hd hb
  go_wp2
  exact ⟨rfl, rfl, HD.out, HB.out⟩
set_option maxHeartbeats 1000000 in
theorem r1_want_short (rb p : Nat) (l : List UInt8) (bc br : Nat) (w : World) (h : RD w rb l p) (k : Int) (hk0 : k ≠ 0) (hk1 : k ≠ 1) (n : Nat) (v : Nat) (n1 : 1 ≤ n) (n2 : n ≤ 8) (hn : l.length < p + n) (hc : Cells w bc [.int .i64 k, .int .i64 (n : Nat), .int .u64 (v : Nat)]) (hr : w.cell? ⟨br, 0, none⟩ = some (.pointer (some ⟨rb, 0, none⟩))) :
    Calls Try.prog 26 #[.pointer (some ⟨bc, 0, none⟩), .pointer (some ⟨br, 0, none⟩)] w (ThrowB rb p l 4 w) := by
  have d0 : (k == 0) = false := by simpa using hk0
  have d1 : (k == 1) = false := by simpa using hk1
  have k0 := hc 0 _ rfl
  have k1 := hc 1 _ rfl
  have k2 := hc 2 _ rfl
  have HC := Lib.hid (want_short h n (v : Int) 35 n1 n2 hn)
  clear hc h hk0 hk1
  go_enter Try.func26, Try.ntmps26
  go_wp2_with fail
  refine (HC.out).mono ?_
  rintro e w1 ⟨rfl, hd, hb⟩
  have HD := Lib.hid hd
  have HB := Lib.hid hb
  clear hd hb
  go_wp2
  exact ⟨rfl, rfl, HD.out, HB.out⟩
set_option maxHeartbeats 1000000 in
theorem read_ret (rb p : Nat) (l : List UInt8) (k n : Int) (v : Nat) (q : Nat) (out : List UInt8) (w : World) (h : RD w rb l p)
    (hcall : ∀ (bc br : Nat) (W : World), RD W rb l p → Cells W bc [.int .i64 k, .int .i64 n, .int .u64 (v : Nat)] → W.cell? ⟨br, 0, none⟩ = some (.pointer (some ⟨rb, 0, none⟩)) → Calls Try.prog 26 #[.pointer (some ⟨bc, 0, none⟩), .pointer (some ⟨br, 0, none⟩)] W (RetB rb q l out W)) :
    Calls Try.prog 18 #[.pointer (some ⟨rb, 0, none⟩), .agg #[.int .i64 k, .int .i64 n, .int .u64 (v : Nat)]] w fun e w' => ∃ a m c, e = .returned (.tuple #[.slice a m c, .int .i64 0]) ∧ Byt w' w'.heap.size (.slice a m c) out ∧ RD w' rb l q ∧ Bx [rb] w.heap.size w w' := by
  have hmf : ∀ (fn : Fn) (first cap : Array Value) (w : World), (Instr.makeFunc fn first cap).run Try.prog w = .ok (.func fn first cap) w := fun _ _ _ _ => rfl
  have hrb : rb < w.heap.size := by obtain ⟨_, _, _, _, _, _, _, h6⟩ := h; exact h6
  have hb0 := ((Below.refl w.heap.size w).alloc (Nat.le_refl _) (.cells #[.pointer (some ⟨rb, 0, none⟩)] 42)).alloc (by simp) (.cells #[.int .i64 k, .int .i64 n, .int .u64 (v : Nat)] 45)
  have hd0 := h.below hb0
  have hr0 := (Cells.new_at w [.pointer (some ⟨rb, 0, none⟩)] 42 w.heap.size rfl).below ((Below.refl _ _).alloc (Nat.le_refl _) (.cells #[.int .i64 k, .int .i64 n, .int .u64 (v : Nat)] 45)) (by simp)
  have hc0 := Cells.new_at (w.alloc (.cells #[.pointer (some ⟨rb, 0, none⟩)] 42)) [.int .i64 k, .int .i64 n, .int .u64 (v : Nat)] 45 (w.heap.size + 1) (by simp)
  have hsz : ((w.alloc (.cells #[.pointer (some ⟨rb, 0, none⟩)] 42)).alloc (.cells #[.int .i64 k, .int .i64 n, .int .u64 (v : Nat)] 45)).heap.size = w.heap.size + 2 := by simp
  have HT := Lib.hid (tryB_ret 26 _ _ rb q l out (by rw [hsz]; omega) (fun W => cf_read1 #[.pointer (some ⟨w.heap.size + 1, 0, none⟩), .pointer (some ⟨w.heap.size, 0, none⟩)] W) (fun W hW => hcall (w.heap.size + 1) w.heap.size W (hd0.below hW) (hc0.below hW (by rw [hsz]; omega)) ((hW.cell (p := ⟨w.heap.size, 0, none⟩) (by rw [hsz]; show w.heap.size < _; omega)).trans (hr0 0 _ rfl))))
  have HB0 := Lib.hid hb0
  clear hcall h hd0 hr0 hc0 hsz hb0
  go_enter Try.func18, Try.ntmps18
  go_wp2_with fail
  refine HT.out.mono ?_
  rintro e w3 ⟨a, m, c, rfl, hy, hd, hb⟩
  have HD := Lib.hid hd
  have HB := Lib.hid ((Bx.of_below HB0.out : Bx [rb] w.heap.size w _).trans (hb.mono (by simp; omega)))
  have HY := Lib.hid hy
  clear hd hb hy hmf
  go_wp2
  go_ret2
  exact ⟨a, m, c, rfl, HY.out, HD.out, HB.out⟩
set_option maxHeartbeats 1000000 in
theorem read_throw (rb p : Nat) (l : List UInt8) (k n : Int) (v : Nat) (q : Nat) (c : Int) (w : World) (h : RD w rb l p)
    (hcall : ∀ (bc br : Nat) (W : World), RD W rb l p → Cells W bc [.int .i64 k, .int .i64 n, .int .u64 (v : Nat)] → W.cell? ⟨br, 0, none⟩ = some (.pointer (some ⟨rb, 0, none⟩)) → Calls Try.prog 26 #[.pointer (some ⟨bc, 0, none⟩), .pointer (some ⟨br, 0, none⟩)] W (ThrowB rb q l c W)) :
    Calls Try.prog 18 #[.pointer (some ⟨rb, 0, none⟩), .agg #[.int .i64 k, .int .i64 n, .int .u64 (v : Nat)]] w fun e w' => e = .returned (.tuple #[.slice none 0 0, .int .i64 c]) ∧ RD w' rb l q ∧ Bx [rb] w.heap.size w w' := by
  have hmf : ∀ (fn : Fn) (first cap : Array Value) (w : World), (Instr.makeFunc fn first cap).run Try.prog w = .ok (.func fn first cap) w := fun _ _ _ _ => rfl
  have hrb : rb < w.heap.size := by obtain ⟨_, _, _, _, _, _, _, h6⟩ := h; exact h6
  have hb0 := ((Below.refl w.heap.size w).alloc (Nat.le_refl _) (.cells #[.pointer (some ⟨rb, 0, none⟩)] 42)).alloc (by simp) (.cells #[.int .i64 k, .int .i64 n, .int .u64 (v : Nat)] 45)
  have hd0 := h.below hb0
  have hr0 := (Cells.new_at w [.pointer (some ⟨rb, 0, none⟩)] 42 w.heap.size rfl).below ((Below.refl _ _).alloc (Nat.le_refl _) (.cells #[.int .i64 k, .int .i64 n, .int .u64 (v : Nat)] 45)) (by simp)
  have hc0 := Cells.new_at (w.alloc (.cells #[.pointer (some ⟨rb, 0, none⟩)] 42)) [.int .i64 k, .int .i64 n, .int .u64 (v : Nat)] 45 (w.heap.size + 1) (by simp)
  have hsz : ((w.alloc (.cells #[.pointer (some ⟨rb, 0, none⟩)] 42)).alloc (.cells #[.int .i64 k, .int .i64 n, .int .u64 (v : Nat)] 45)).heap.size = w.heap.size + 2 := by simp
  have HT := Lib.hid (tryB_throw 26 _ _ rb q l c (by rw [hsz]; omega) (fun W => cf_read1 #[.pointer (some ⟨w.heap.size + 1, 0, none⟩), .pointer (some ⟨w.heap.size, 0, none⟩)] W) (fun W hW => hcall (w.heap.size + 1) w.heap.size W (hd0.below hW) (hc0.below hW (by rw [hsz]; omega)) ((hW.cell (p := ⟨w.heap.size, 0, none⟩) (by rw [hsz]; show w.heap.size < _; omega)).trans (hr0 0 _ rfl))))
  have HB0 := Lib.hid hb0
  clear hcall h hd0 hr0 hc0 hsz hb0
  go_enter Try.func18, Try.ntmps18
  go_wp2_with fail
  refine HT.out.mono ?_
  rintro e w3 ⟨rfl, hd, hb⟩
  have HD := Lib.hid hd
  have HB := Lib.hid ((Bx.of_below HB0.out : Bx [rb] w.heap.size w _).trans (hb.mono (by simp; omega)))

  clear hd hb hmf
  go_wp2
  go_ret2
  exact ⟨rfl, HD.out, HB.out⟩
end Go.Proofs.Ytephiopgpfdchaa
