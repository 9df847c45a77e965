/- Contracts of the checks, and of finish's Encode. -/
import Derived.Test.YtfdbgbdiacpmhaaFinA
namespace Go.Proofs.Ytfdbgbdiacpmhaa
open Go.RowKit
/-- May a tail be? -/
def tailB (n s a : Int) : Bool := decide (0 ≤ n ∧ n ≤ 1000 ∧ 0 ≤ s ∧ s < 4294967295 ∧ 0 ≤ a ∧ a < 4294967295)
theorem tailB_no {n s a : Int} (h : ¬ (0 ≤ n ∧ n ≤ 1000 ∧ 0 ≤ s ∧ s < 4294967295 ∧ 0 ≤ a ∧ a < 4294967295)) : tailB n s a = false := decide_eq_false h
theorem tailB_yes {n s a : Int} (h : 0 ≤ n ∧ n ≤ 1000 ∧ 0 ≤ s ∧ s < 4294967295 ∧ 0 ≤ a ∧ a < 4294967295) : tailB n s a = true := decide_eq_true h
set_option maxHeartbeats 1000000 in
theorem check_0 (n s a : Int) (g : Bool) (w : World)  (b0 : n < 0) : Calls Try.prog 10 #[.agg #[.int .i64 n, .int .i64 s, .int .i64 a, .bool g]] w fun e w' => e = .returned (Value.int .i64 13) ∧ Below w.heap.size w w' := by
  have c0 : decide (n < 0) = true := by simp; omega
  have HB := Lib.hid ((Below.refl w.heap.size w).alloc (Nat.le_refl _) (.cells #[.int .i64 n, .int .i64 s, .int .i64 a, .bool g] 23))
  go_enter Try.func10, Try.ntmps10
  go_wp2
  go_ret
  exact ⟨by simp, HB.out⟩
set_option maxHeartbeats 1000000 in
theorem check_1 (n s a : Int) (g : Bool) (w : World) (b0 : 0 ≤ n) (b1 : 1000 < n) : Calls Try.prog 10 #[.agg #[.int .i64 n, .int .i64 s, .int .i64 a, .bool g]] w fun e w' => e = .returned (Value.int .i64 13) ∧ Below w.heap.size w w' := by
  have c0 : decide (n < 0) = false := by simp; omega
  have c1 : decide (1000 < n) = true := by simp; omega
  have HB := Lib.hid ((Below.refl w.heap.size w).alloc (Nat.le_refl _) (.cells #[.int .i64 n, .int .i64 s, .int .i64 a, .bool g] 23))
  go_enter Try.func10, Try.ntmps10
  go_wp2
  go_ret
  exact ⟨by simp, HB.out⟩
set_option maxHeartbeats 1000000 in
theorem check_2 (n s a : Int) (g : Bool) (w : World) (b0 : 0 ≤ n) (b1 : n ≤ 1000) (b2 : s < 0) : Calls Try.prog 10 #[.agg #[.int .i64 n, .int .i64 s, .int .i64 a, .bool g]] w fun e w' => e = .returned (Value.int .i64 13) ∧ Below w.heap.size w w' := by
  have c0 : decide (n < 0) = false := by simp; omega
  have c1 : decide (1000 < n) = false := by simp; omega
  have c2 : decide (s < 0) = true := by simp; omega
  have HB := Lib.hid ((Below.refl w.heap.size w).alloc (Nat.le_refl _) (.cells #[.int .i64 n, .int .i64 s, .int .i64 a, .bool g] 23))
  go_enter Try.func10, Try.ntmps10
  go_wp2
  go_ret
  exact ⟨by simp, HB.out⟩
set_option maxHeartbeats 1000000 in
theorem check_3 (n s a : Int) (g : Bool) (w : World) (b0 : 0 ≤ n) (b1 : n ≤ 1000) (b2 : 0 ≤ s) (b3 : 4294967295 ≤ s) : Calls Try.prog 10 #[.agg #[.int .i64 n, .int .i64 s, .int .i64 a, .bool g]] w fun e w' => e = .returned (Value.int .i64 13) ∧ Below w.heap.size w w' := by
  have c0 : decide (n < 0) = false := by simp; omega
  have c1 : decide (1000 < n) = false := by simp; omega
  have c2 : decide (s < 0) = false := by simp; omega
  have c3 : decide (4294967295 ≤ s) = true := by simp; omega
  have HB := Lib.hid ((Below.refl w.heap.size w).alloc (Nat.le_refl _) (.cells #[.int .i64 n, .int .i64 s, .int .i64 a, .bool g] 23))
  go_enter Try.func10, Try.ntmps10
  go_wp2
  go_ret
  exact ⟨by simp, HB.out⟩
set_option maxHeartbeats 1000000 in
theorem check_4 (n s a : Int) (g : Bool) (w : World) (b0 : 0 ≤ n) (b1 : n ≤ 1000) (b2 : 0 ≤ s) (b3 : s < 4294967295) (b4 : a < 0) : Calls Try.prog 10 #[.agg #[.int .i64 n, .int .i64 s, .int .i64 a, .bool g]] w fun e w' => e = .returned (Value.int .i64 13) ∧ Below w.heap.size w w' := by
  have c0 : decide (n < 0) = false := by simp; omega
  have c1 : decide (1000 < n) = false := by simp; omega
  have c2 : decide (s < 0) = false := by simp; omega
  have c3 : decide (4294967295 ≤ s) = false := by simp; omega
  have c4 : decide (a < 0) = true := by simp; omega
  have HB := Lib.hid ((Below.refl w.heap.size w).alloc (Nat.le_refl _) (.cells #[.int .i64 n, .int .i64 s, .int .i64 a, .bool g] 23))
  go_enter Try.func10, Try.ntmps10
  go_wp2
  go_ret
  exact ⟨by simp, HB.out⟩
set_option maxHeartbeats 1000000 in
theorem check_5 (n s a : Int) (g : Bool) (w : World) (b0 : 0 ≤ n) (b1 : n ≤ 1000) (b2 : 0 ≤ s) (b3 : s < 4294967295) (b4 : 0 ≤ a) (b5 : 4294967295 ≤ a) : Calls Try.prog 10 #[.agg #[.int .i64 n, .int .i64 s, .int .i64 a, .bool g]] w fun e w' => e = .returned (Value.int .i64 13) ∧ Below w.heap.size w w' := by
  have c0 : decide (n < 0) = false := by simp; omega
  have c1 : decide (1000 < n) = false := by simp; omega
  have c2 : decide (s < 0) = false := by simp; omega
  have c3 : decide (4294967295 ≤ s) = false := by simp; omega
  have c4 : decide (a < 0) = false := by simp; omega
  have c5 : decide (4294967295 ≤ a) = true := by simp; omega
  have HB := Lib.hid ((Below.refl w.heap.size w).alloc (Nat.le_refl _) (.cells #[.int .i64 n, .int .i64 s, .int .i64 a, .bool g] 23))
  go_enter Try.func10, Try.ntmps10
  go_wp2
  go_ret
  exact ⟨by simp, HB.out⟩
set_option maxHeartbeats 1000000 in
theorem check_6 (n s a : Int) (g : Bool) (w : World) (b0 : 0 ≤ n) (b1 : n ≤ 1000) (b2 : 0 ≤ s) (b3 : s < 4294967295) (b4 : 0 ≤ a) (b5 : a < 4294967295) : Calls Try.prog 10 #[.agg #[.int .i64 n, .int .i64 s, .int .i64 a, .bool g]] w fun e w' => e = .returned (Value.int .i64 0) ∧ Below w.heap.size w w' := by
  have c0 : decide (n < 0) = false := by simp; omega
  have c1 : decide (1000 < n) = false := by simp; omega
  have c2 : decide (s < 0) = false := by simp; omega
  have c3 : decide (4294967295 ≤ s) = false := by simp; omega
  have c4 : decide (a < 0) = false := by simp; omega
  have c5 : decide (4294967295 ≤ a) = false := by simp; omega
  have HB := Lib.hid ((Below.refl w.heap.size w).alloc (Nat.le_refl _) (.cells #[.int .i64 n, .int .i64 s, .int .i64 a, .bool g] 23))
  go_enter Try.func10, Try.ntmps10
  go_wp2
  go_ret
  exact ⟨by simp, HB.out⟩
theorem check_any (n s a : Int) (g : Bool) (w : World) : Calls Try.prog 10 #[.agg #[.int .i64 n, .int .i64 s, .int .i64 a, .bool g]] w fun e w' => e = .returned (Value.int .i64 (if tailB n s a then 0 else 13)) ∧ Below w.heap.size w w' := by
  by_cases b0 : n < 0
  · rw [tailB_no (by omega)]; exact check_0 n s a g w  b0
  by_cases b1 : 1000 < n
  · rw [tailB_no (by omega)]; exact check_1 n s a g w (by omega) b1
  by_cases b2 : s < 0
  · rw [tailB_no (by omega)]; exact check_2 n s a g w (by omega) (by omega) b2
  by_cases b3 : 4294967295 ≤ s
  · rw [tailB_no (by omega)]; exact check_3 n s a g w (by omega) (by omega) (by omega) b3
  by_cases b4 : a < 0
  · rw [tailB_no (by omega)]; exact check_4 n s a g w (by omega) (by omega) (by omega) (by omega) b4
  by_cases b5 : 4294967295 ≤ a
  · rw [tailB_no (by omega)]; exact check_5 n s a g w (by omega) (by omega) (by omega) (by omega) (by omega) b5
  rw [tailB_yes (by omega)]; exact check_6 n s a g w (by omega) (by omega) (by omega) (by omega) (by omega) (by omega)
set_option maxHeartbeats 1000000 in
theorem refCheck_0 (n s a : Int) (g : Bool) (w : World)  (b0 : n < 0) : Calls Try.prog 8 #[.agg #[.int .i64 n, .int .i64 s, .int .i64 a, .bool g]] w fun e w' => e = .returned (.bool false) ∧ Below w.heap.size w w' := by
  have c0 : decide (0 ≤ n) = false := by simp; omega
  have HB := Lib.hid ((Below.refl w.heap.size w).alloc (Nat.le_refl _) (.cells #[.int .i64 n, .int .i64 s, .int .i64 a, .bool g] 30))
  go_enter Try.func8, Try.ntmps8
  go_wp2
  go_ret
  exact ⟨by simp, HB.out⟩
set_option maxHeartbeats 1000000 in
theorem refCheck_1 (n s a : Int) (g : Bool) (w : World) (b0 : 0 ≤ n) (b1 : 1000 < n) : Calls Try.prog 8 #[.agg #[.int .i64 n, .int .i64 s, .int .i64 a, .bool g]] w fun e w' => e = .returned (.bool false) ∧ Below w.heap.size w w' := by
  have c0 : decide (0 ≤ n) = true := by simp; omega
  have c1 : decide (n ≤ 1000) = false := by simp; omega
  have HB := Lib.hid ((Below.refl w.heap.size w).alloc (Nat.le_refl _) (.cells #[.int .i64 n, .int .i64 s, .int .i64 a, .bool g] 30))
  go_enter Try.func8, Try.ntmps8
  go_wp2
  go_ret
  exact ⟨by simp, HB.out⟩
set_option maxHeartbeats 1000000 in
theorem refCheck_2 (n s a : Int) (g : Bool) (w : World) (b0 : 0 ≤ n) (b1 : n ≤ 1000) (b2 : s < 0) : Calls Try.prog 8 #[.agg #[.int .i64 n, .int .i64 s, .int .i64 a, .bool g]] w fun e w' => e = .returned (.bool false) ∧ Below w.heap.size w w' := by
  have c0 : decide (0 ≤ n) = true := by simp; omega
  have c1 : decide (n ≤ 1000) = true := by simp; omega
  have c2 : decide (0 ≤ s) = false := by simp; omega
  have HB := Lib.hid ((Below.refl w.heap.size w).alloc (Nat.le_refl _) (.cells #[.int .i64 n, .int .i64 s, .int .i64 a, .bool g] 30))
  go_enter Try.func8, Try.ntmps8
  go_wp2
  go_ret
  exact ⟨by simp, HB.out⟩
set_option maxHeartbeats 1000000 in
theorem refCheck_3 (n s a : Int) (g : Bool) (w : World) (b0 : 0 ≤ n) (b1 : n ≤ 1000) (b2 : 0 ≤ s) (b3 : 4294967295 ≤ s) : Calls Try.prog 8 #[.agg #[.int .i64 n, .int .i64 s, .int .i64 a, .bool g]] w fun e w' => e = .returned (.bool false) ∧ Below w.heap.size w w' := by
  have c0 : decide (0 ≤ n) = true := by simp; omega
  have c1 : decide (n ≤ 1000) = true := by simp; omega
  have c2 : decide (0 ≤ s) = true := by simp; omega
  have c3 : decide (s < 4294967295) = false := by simp; omega
  have HB := Lib.hid ((Below.refl w.heap.size w).alloc (Nat.le_refl _) (.cells #[.int .i64 n, .int .i64 s, .int .i64 a, .bool g] 30))
  go_enter Try.func8, Try.ntmps8
  go_wp2
  go_ret
  exact ⟨by simp, HB.out⟩
set_option maxHeartbeats 1000000 in
theorem refCheck_4 (n s a : Int) (g : Bool) (w : World) (b0 : 0 ≤ n) (b1 : n ≤ 1000) (b2 : 0 ≤ s) (b3 : s < 4294967295) (b4 : a < 0) : Calls Try.prog 8 #[.agg #[.int .i64 n, .int .i64 s, .int .i64 a, .bool g]] w fun e w' => e = .returned (.bool false) ∧ Below w.heap.size w w' := by
  have c0 : decide (0 ≤ n) = true := by simp; omega
  have c1 : decide (n ≤ 1000) = true := by simp; omega
  have c2 : decide (0 ≤ s) = true := by simp; omega
  have c3 : decide (s < 4294967295) = true := by simp; omega
  have c4 : decide (0 ≤ a) = false := by simp; omega
  have HB := Lib.hid ((Below.refl w.heap.size w).alloc (Nat.le_refl _) (.cells #[.int .i64 n, .int .i64 s, .int .i64 a, .bool g] 30))
  go_enter Try.func8, Try.ntmps8
  go_wp2
  go_ret
  exact ⟨by simp, HB.out⟩
set_option maxHeartbeats 1000000 in
theorem refCheck_5 (n s a : Int) (g : Bool) (w : World) (b0 : 0 ≤ n) (b1 : n ≤ 1000) (b2 : 0 ≤ s) (b3 : s < 4294967295) (b4 : 0 ≤ a) (b5 : 4294967295 ≤ a) : Calls Try.prog 8 #[.agg #[.int .i64 n, .int .i64 s, .int .i64 a, .bool g]] w fun e w' => e = .returned (.bool false) ∧ Below w.heap.size w w' := by
  have c0 : decide (0 ≤ n) = true := by simp; omega
  have c1 : decide (n ≤ 1000) = true := by simp; omega
  have c2 : decide (0 ≤ s) = true := by simp; omega
  have c3 : decide (s < 4294967295) = true := by simp; omega
  have c4 : decide (0 ≤ a) = true := by simp; omega
  have c5 : decide (a < 4294967295) = false := by simp; omega
  have HB := Lib.hid ((Below.refl w.heap.size w).alloc (Nat.le_refl _) (.cells #[.int .i64 n, .int .i64 s, .int .i64 a, .bool g] 30))
  go_enter Try.func8, Try.ntmps8
  go_wp2
  go_ret
  exact ⟨by simp, HB.out⟩
set_option maxHeartbeats 1000000 in
theorem refCheck_6 (n s a : Int) (g : Bool) (w : World) (b0 : 0 ≤ n) (b1 : n ≤ 1000) (b2 : 0 ≤ s) (b3 : s < 4294967295) (b4 : 0 ≤ a) (b5 : a < 4294967295) : Calls Try.prog 8 #[.agg #[.int .i64 n, .int .i64 s, .int .i64 a, .bool g]] w fun e w' => e = .returned (.bool true) ∧ Below w.heap.size w w' := by
  have c0 : decide (0 ≤ n) = true := by simp; omega
  have c1 : decide (n ≤ 1000) = true := by simp; omega
  have c2 : decide (0 ≤ s) = true := by simp; omega
  have c3 : decide (s < 4294967295) = true := by simp; omega
  have c4 : decide (0 ≤ a) = true := by simp; omega
  have c5 : decide (a < 4294967295) = true := by simp; omega
  have HB := Lib.hid ((Below.refl w.heap.size w).alloc (Nat.le_refl _) (.cells #[.int .i64 n, .int .i64 s, .int .i64 a, .bool g] 30))
  go_enter Try.func8, Try.ntmps8
  go_wp2
  go_ret
  exact ⟨by simp, HB.out⟩
theorem refCheck_any (n s a : Int) (g : Bool) (w : World) : Calls Try.prog 8 #[.agg #[.int .i64 n, .int .i64 s, .int .i64 a, .bool g]] w fun e w' => e = .returned (.bool (tailB n s a)) ∧ Below w.heap.size w w' := by
  by_cases b0 : n < 0
  · rw [tailB_no (by omega)]; exact refCheck_0 n s a g w  b0
  by_cases b1 : 1000 < n
  · rw [tailB_no (by omega)]; exact refCheck_1 n s a g w (by omega) b1
  by_cases b2 : s < 0
  · rw [tailB_no (by omega)]; exact refCheck_2 n s a g w (by omega) (by omega) b2
  by_cases b3 : 4294967295 ≤ s
  · rw [tailB_no (by omega)]; exact refCheck_3 n s a g w (by omega) (by omega) (by omega) b3
  by_cases b4 : a < 0
  · rw [tailB_no (by omega)]; exact refCheck_4 n s a g w (by omega) (by omega) (by omega) (by omega) b4
  by_cases b5 : 4294967295 ≤ a
  · rw [tailB_no (by omega)]; exact refCheck_5 n s a g w (by omega) (by omega) (by omega) (by omega) (by omega) b5
  rw [tailB_yes (by omega)]; exact refCheck_6 n s a g w (by omega) (by omega) (by omega) (by omega) (by omega) (by omega)

theorem ref_any (n s a : Int) (g : Bool) (w : World) : Calls Try.prog 9 #[.agg #[.int .i64 n, .int .i64 s, .int .i64 a, .bool g]] w fun e w' => e = .returned (.agg #[.int .i64 n, .int .i64 s, .int .i64 a, .bool g]) ∧ Below w.heap.size w w' := by
  have HB := Lib.hid (((Below.refl w.heap.size w).alloc (Nat.le_refl _) (.cells #[.int .i64 n, .int .i64 s, .int .i64 a, .bool g] 23)).alloc (by simp) (.cells #[.int .i64 n, .int .i64 s, .int .i64 a, .bool g] 30))
  go_enter Try.func9, Try.ntmps9
  go_wp2
  exact bodyPost_ret (v := .agg #[.int .i64 n, .int .i64 s, .int .i64 a, .bool g]) (by simp [results, Try.results9, go_sem]) rfl ⟨rfl, HB.out⟩
/-- Numbers, each with how many bytes it has. -/
def encN (ws : List (Int × Int)) : List UInt8 := ws.flatMap fun p => byt p.1.toNat p.2.toNat
def ncells (ws : List (Int × Int)) : List Value := ws.flatMap fun p => [.int .i64 p.1, .int .u64 p.2]
theorem encN_snoc (ws : List (Int × Int)) (j : Nat) (h : j < ws.length) : encN (ws.take (j + 1)) = encN (ws.take j) ++ byt (ws.getD j (0, 0)).1.toNat (ws.getD j (0, 0)).2.toNat := by
  unfold encN
  rw [List.take_succ_eq_append_getElem h, List.flatMap_append]
  simp [h]
theorem encN_len : ∀ (ws : List (Int × Int)), (∀ p ∈ ws, p.1 ≤ 8) → (encN ws).length ≤ 8 * ws.length
  | [], _ => by simp [encN]
  | p :: ws, h => by
    have h1 := encN_len ws fun q hq => h q (List.mem_cons_of_mem _ hq)
    have h2 := h p List.mem_cons_self
    show (byt p.1.toNat p.2.toNat ++ encN ws).length ≤ _
    rw [List.length_append, byt_length, List.length_cons]
    omega
theorem ncells_one (ws : List (Int × Int)) : ∀ u ∈ ncells ws, u.oneCell' = true := by
  intro u hu
  simp only [ncells, List.mem_flatMap] at hu
  obtain ⟨p, _, hp⟩ := hu
  simp only [List.mem_cons, List.not_mem_nil, or_false] at hp
  rcases hp with rfl | rfl <;> rfl
theorem ncells_get : ∀ (ws : List (Int × Int)) (j : Nat), j < ws.length → (ncells ws)[j * 2]? = some (.int .i64 (ws.getD j (0, 0)).1) ∧ (ncells ws)[j * 2 + 1]? = some (.int .u64 (ws.getD j (0, 0)).2)
  | p :: ws, 0, _ => ⟨rfl, rfl⟩
  | p :: ws, j + 1, h => by
    have := ncells_get ws j (by simpa using h)
    have e : ncells (p :: ws) = .int .i64 p.1 :: .int .u64 p.2 :: ncells ws := rfl
    rw [e, show (j + 1) * 2 = j * 2 + 1 + 1 from by omega, show j * 2 + 1 + 1 + 1 = (j * 2 + 1) + 1 + 1 from rfl]
    simpa using this
def narrowL (n s a : Int) : List (Int × Int) := [(4, 101010256), (2, 0), (2, 0), (2, n), (2, n), (4, s), (4, a), (2, 0)]
def wideL (n s a : Int) : List (Int × Int) := [(4, 101075792), (8, 44), (2, 813), (2, 45), (4, 0), (4, 0), (8, n), (8, n), (8, s), (8, a), (4, 117853008), (4, 0), (8, a + s), (4, 1)]
theorem info_num : (Try.prog.info? 45).map (fun i => (i.zero, i.size, i.bytes)) = some (some (.agg #[.int .i64 0, .int .u64 0]), 2, 16) := by kernel_rfl
set_option maxHeartbeats 1000000 in
theorem wide_any (n s a : Nat) (w : World) (hn : n ≤ 1000) (hs : s < 4294967295) (ha : a < 4294967295) : Calls Try.prog 14 #[.agg #[.int .i64 (n : Nat), .int .i64 (s : Nat), .int .i64 (a : Nat), .bool true]] w fun e w' => ∃ v, e = .returned v ∧ w'.ownsRow w.heap.size 45 2 v 14 (ncells (wideL n s a)) ∧ Below w.heap.size w w' := by
  have q1 : IntKind.u64.wrap (n : Int) = n := by rw [IntKind.wrap_u64]; omega
  have q2 : IntKind.u64.wrap (s : Int) = s := by rw [IntKind.wrap_u64]; omega
  have q3 : IntKind.u64.wrap (a : Int) = a := by rw [IntKind.wrap_u64]; omega
  have q4 : IntKind.u64.wrap ((a : Int) + (s : Int)) = a + s := by rw [IntKind.wrap_u64]; omega
  have HB := Lib.hid ((Below.refl w.heap.size w).alloc (Nat.le_refl _) (.cells #[.int .i64 (n : Nat), .int .i64 (s : Nat), .int .i64 (a : Nat), .bool true] 23))
  go_enter Try.func14, Try.ntmps14
  go_wp2
  go_quiet (fail)
  have HB := Lib.hid (below_drewN HB.out nq)
  have hz := HB.out.size
  go_upto_region 2 with (fail)
  generalize (w.alloc (.cells #[.int .i64 (n : Nat), .int .i64 (s : Nat), .int .i64 (a : Nat), .bool true] 23)).drewN nq = wq at *
  have HO := Lib.hid (World.ownsRow_lit (base := w.heap.size) (e := 45) (size := 2) wq (ncells (wideL n s a)).toArray 14 hz (by decide) rfl)
  have HB := Lib.hid (HB.out.alloc hz (.cells (ncells (wideL n s a)).toArray 45))
  go_wp2
  go_ret
  exact ⟨_, rfl, HO.out, HB.out⟩
set_option maxHeartbeats 2000000 in
theorem enc_narrow (n s a : Nat) (w : World) (hn : n ≤ 1000) (hs : s < 4294967295) (ha : a < 4294967295) : Calls Try.prog 7 #[.agg #[.int .i64 (n : Nat), .int .i64 (s : Nat), .int .i64 (a : Nat), .bool false]] w fun e w' => ∃ v, e = .returned (.tuple #[v, .int .i64 0]) ∧ Byt w' w'.heap.size v (encN (narrowL n s a)) ∧ Below w.heap.size w w' := by
  have HCK := Lib.hid (fun W => check_6 n s a false W (by omega) (by omega) (by omega) (by omega) (by omega) (by omega))
  have q1 : IntKind.u64.wrap (n : Int) = n := by rw [IntKind.wrap_u64]; omega
  have q2 : IntKind.u64.wrap (s : Int) = s := by rw [IntKind.wrap_u64]; omega
  have q3 : IntKind.u64.wrap (a : Int) = a := by rw [IntKind.wrap_u64]; omega
  have hn0 : 0 ≤ (n : Int) := by omega
  have HC0 := Lib.hid (Cells.new_at w [.int .i64 (n : Nat), .int .i64 (s : Nat), .int .i64 (a : Nat), .bool false] 23 w.heap.size rfl)
  have HB := Lib.hid ((Below.refl w.heap.size w).alloc (Nat.le_refl _) (.cells #[.int .i64 (n : Nat), .int .i64 (s : Nat), .int .i64 (a : Nat), .bool false] 23))
  obtain ⟨i0, hi, hz0, hz1, hz2⟩ := info_parts info_num
  go_enter Try.func7, Try.ntmps7
  go_wp2_with fail
  refine (HCK.out _).mono ?_
  rintro e w1 ⟨rfl, hb⟩
  have hs1 := hb.size
  simp only [World.size_alloc] at hs1
  have HC1 := Lib.hid (HC0.out.below hb (by simp))
  have HB := Lib.hid (HB.out.trans (hb.mono (by simp)))
  clear hb
  have k0 := HC1.out 0 _ rfl
  have k1 := HC1.out 1 _ rfl
  have k2 := HC1.out 2 _ rfl
  have k3 := HC1.out 3 _ rfl
  go_wp2_with fail
  go_quiet (fail)
  have HB := Lib.hid (below_drewN HB.out nq)
  have HC1 := Lib.hid (HC1.out.below (below_drewN (Below.refl w1.heap.size w1) nq) (by omega))
  have hs1' : w.heap.size < (w1.drewN nq).heap.size := hs1
  clear k0 k1 k2 k3 hs1
  have hs1 := hs1'
  clear hs1'
  generalize w1.drewN nq = w2 at *
  have k3 := HC1.out 3 _ rfl
  have HOW := Lib.hid (World.ownsRow_nil w2 w.heap.size 45 2)
  have hz : w.heap.size ≤ w2.heap.size := by omega
  have HNL : Hid ((ncells (narrowL n s a)).length = 16) := Lib.hid rfl
  go_wp2_with (at_builtin; refine wpList_append_own _ rfl _ _ 41 rfl w.heap.size 45 i0 (.agg #[.int .i64 0, .int .u64 0]) 2 16 Try.underlying41 hi hz0 hz1 hz2 rfl (by decide) _ 0 _ rfl (HOW.out.alloc _) ⟨w2.heap.size, 0, none⟩ 8 8 (ncells (narrowL n s a)) rfl rfl ?c1 ?c2 ?c3 ?c4 ?c5 ?_)
  case c1 =>
    intro k u hk
    have hp : (⟨w2.heap.size, 0, none⟩ : Addr).add k = ⟨w2.heap.size, k, none⟩ := by unfold Addr.add; split <;> simp_all
    rw [hp, World.cell?_alloc_at _ _ _ _ rfl]
    change (ncells (narrowL n s a)).toArray[k]? = some u
    simpa using hk
  case c2 => exact ncells_one _
  case c3 => decide
  case c4 => decide
  case c5 => simp; omega
  intro v4 w4 ho hgr _
  have hbg : Below w.heap.size w2 w4 := Below.grown ((Below.refl _ _).alloc (by omega) _) hgr (by simp; omega) (fun k hk => (HOW.out.lt k hk).1)
  have HB := Lib.hid (HB.out.trans hbg)
  clear hbg hgr k3 HC1
  have ho : w4.ownsRow w.heap.size 45 2 v4 (narrowL n s a).length (ncells (narrowL n s a)) := ho
  have HL : Hid ((narrowL n s a).length = 8) := Lib.hid rfl
  have HGE := Lib.hid (ncells_get (narrowL n s a))
  have HOK : Hid (∀ p ∈ (narrowL n s a), 1 ≤ p.1 ∧ p.1 ≤ 8 ∧ 0 ≤ p.2 ∧ p.2 < 18446744073709551616) := Lib.hid (by rintro ⟨p1, p2⟩ hp; simp only [narrowL, wideL, List.cons_append, List.nil_append, List.mem_cons, List.not_mem_nil, or_false, Prod.mk.injEq] at hp; omega)
  generalize hws : (narrowL n s a) = ws at *
  have HWS := Lib.hid hws
  clear hws
  obtain ⟨gb, cap, rfl, hgb1, hgb2⟩ := World.ownsRow.form ho (by rw [HL.out]; omega)
  have hwl : ws.length ≤ 100 := by rw [HL.out]; omega
  have HCL := Lib.hid (fun j hj => World.ownsRow.cellAt ho j hj)
  clear ho
  go_wp2
  go_loopw [9, 47] (fun o i wr => ∃ j : Nat, j ≤ ws.length ∧ i = .int .i64 j ∧ Hid (Byt wr wr.heap.size o (encN (ws.take j))) ∧ Hid (Below w4.heap.size w4 wr)) (fun _ i _ => ws.length - (intOf i).toNat)
  case atStart => exact ⟨0, Nat.zero_le _, rfl, Lib.hid (.inl ⟨none, 0, rfl, rfl, fun _ => rfl⟩), Lib.hid (Below.refl _ _)⟩
  case round =>
    obtain ⟨j, hj, rfl, HO, HBW⟩ := hrel
    by_cases hlt : j < ws.length
    · have hk0 : wr.cell? ⟨gb, j * 2, none⟩ = _ := (HBW.out.cell (p := ⟨gb, j * 2, none⟩) hgb2).trans ((HCL.out (j * 2) (by omega)).trans (HGE.out j (by omega)).1)
      have hk1 : wr.cell? ⟨gb, j * 2 + 1, none⟩ = _ := (HBW.out.cell (p := ⟨gb, j * 2 + 1, none⟩) hgb2).trans ((HCL.out (j * 2 + 1) (by omega)).trans (HGE.out j (by omega)).2)
      have hz := HBW.out.size
      have hmem : ws.getD j (0, 0) ∈ ws := by rw [List.getD_eq_getElem?_getD, List.getElem?_eq_getElem (by omega)]; exact List.getElem_mem _
      have hxx := HOK.out _ hmem
      have HSN := Lib.hid (encN_snoc ws j (by omega))
      have hle : (encN (ws.take j)).length ≤ 8 * 22 := Nat.le_trans (encN_len _ (fun p hp => (HOK.out p (List.mem_of_mem_take hp)).2.1)) (Nat.mul_le_mul_left _ (by rw [List.length_take]; have := HL.out; omega))
      clear hmem
      generalize ws.getD j (0, 0) = p at *
      obtain ⟨p1, p2⟩ := p
      obtain ⟨x, rfl⟩ : ∃ x : Nat, p1 = x := ⟨p1.toNat, by omega⟩
      obtain ⟨y, rfl⟩ : ∃ y : Nat, p2 = y := ⟨p2.toNat, by omega⟩
      simp only [Int.toNat_natCast] at HSN
      obtain ⟨ao, co, he⟩ := HO.out.slice
      subst he
      have HAP := Lib.hid (fun (W : World) (h : Byt W W.heap.size (.slice ao (encN (ws.take j)).length co) (encN (ws.take j))) => append_yes ao co (encN (ws.take j)) x y W h (Nat.le_refl _) (by omega) (by omega) (by omega) (by omega))
      have HO1 := Lib.hid ((HO.out.below ((Below.refl _ _).alloc (Nat.le_refl _) (.cells #[.int .i64 (x : Nat), .int .u64 (y : Nat)] 45))).mono (by simp) : Byt _ (wr.alloc (.cells #[.int .i64 (x : Nat), .int .u64 (y : Nat)] 45)).heap.size _ _)
      go_wp2_with fail
      refine (HAP.out _ HO1.out).mono ?_
      rintro e w5 ⟨u, rfl, ho, hb⟩
      have HO2 := Lib.hid (Byt.of_own ho)
      have HB5 := Lib.hid (HBW.out.trans ((((Below.refl wr.heap.size wr).alloc (Nat.le_refl _) _).trans (hb.mono (by simp))).mono hz))
      clear ho hb hk0 hk1
      go_wp2
      go_roundw
      case rel => exact ⟨j + 1, by omega, by go_num, Lib.hid (by rw [HSN.out]; exact HO2.out), HB5⟩
      case measure => simp [intOf]; omega
    · obtain rfl : j = ws.length := by omega
      go_wp2
      go_ret2
      have h1 := HO.out
      rw [List.take_of_length_le (by omega)] at h1
      rw [← HWS.out] at h1
      exact ⟨_, rfl, h1, HB.out.trans (HBW.out.mono HB.out.size)⟩
set_option maxHeartbeats 2000000 in
theorem enc_wide (n s a : Nat) (w : World) (hn : n ≤ 1000) (hs : s < 4294967295) (ha : a < 4294967295) : Calls Try.prog 7 #[.agg #[.int .i64 (n : Nat), .int .i64 (s : Nat), .int .i64 (a : Nat), .bool true]] w fun e w' => ∃ v, e = .returned (.tuple #[v, .int .i64 0]) ∧ Byt w' w'.heap.size v (encN (wideL n s a ++ narrowL 65535 4294967295 4294967295)) ∧ Below w.heap.size w w' := by
  have HCK := Lib.hid (fun W => check_6 n s a true W (by omega) (by omega) (by omega) (by omega) (by omega) (by omega))
  have q1 : IntKind.u64.wrap (n : Int) = n := by rw [IntKind.wrap_u64]; omega
  have q2 : IntKind.u64.wrap (s : Int) = s := by rw [IntKind.wrap_u64]; omega
  have q3 : IntKind.u64.wrap (a : Int) = a := by rw [IntKind.wrap_u64]; omega
  have hn0 : 0 ≤ (n : Int) := by omega
  have HC0 := Lib.hid (Cells.new_at w [.int .i64 (n : Nat), .int .i64 (s : Nat), .int .i64 (a : Nat), .bool true] 23 w.heap.size rfl)
  have HB := Lib.hid ((Below.refl w.heap.size w).alloc (Nat.le_refl _) (.cells #[.int .i64 (n : Nat), .int .i64 (s : Nat), .int .i64 (a : Nat), .bool true] 23))
  obtain ⟨i0, hi, hz0, hz1, hz2⟩ := info_parts info_num
  go_enter Try.func7, Try.ntmps7
  go_wp2_with fail
  refine (HCK.out _).mono ?_
  rintro e w1 ⟨rfl, hb⟩
  have hs1 := hb.size
  simp only [World.size_alloc] at hs1
  have HC1 := Lib.hid (HC0.out.below hb (by simp))
  have HB := Lib.hid (HB.out.trans (hb.mono (by simp)))
  clear hb
  have k0 := HC1.out 0 _ rfl
  have k1 := HC1.out 1 _ rfl
  have k2 := HC1.out 2 _ rfl
  have k3 := HC1.out 3 _ rfl
  go_wp2_with fail
  go_quiet (fail)
  have HB := Lib.hid (below_drewN HB.out nq)
  have HC1 := Lib.hid (HC1.out.below (below_drewN (Below.refl w1.heap.size w1) nq) (by omega))
  have hs1' : w.heap.size < (w1.drewN nq).heap.size := hs1
  clear k0 k1 k2 k3 hs1
  have hs1 := hs1'
  clear hs1'
  generalize w1.drewN nq = w2 at *
  have k3 := HC1.out 3 _ rfl
  have k0 := HC1.out 0 _ rfl
  have k1 := HC1.out 1 _ rfl
  have k2 := HC1.out 2 _ rfl
  have HWD := Lib.hid (fun W => wide_any n s a W hn hs ha)
  go_wp2_with fail
  refine (HWD.out _).mono ?_
  rintro e w3 ⟨u, rfl, ho, hb⟩
  have hs3 := hb.size
  have HB := Lib.hid (HB.out.trans (hb.mono (by omega)))
  have HOW := Lib.hid (World.ownsRow.mono ho (show w.heap.size ≤ w2.heap.size by omega))
  have hz : w.heap.size ≤ w3.heap.size := by omega
  clear ho hb k0 k1 k2 k3 HC1
  have HNL : Hid ((ncells (narrowL 65535 4294967295 4294967295)).length = 16) := Lib.hid rfl
  go_wp2_with (at_builtin; refine wpList_append_own _ rfl _ _ 41 rfl w.heap.size 45 i0 (.agg #[.int .i64 0, .int .u64 0]) 2 16 Try.underlying41 hi hz0 hz1 hz2 rfl (by decide) _ 14 _ rfl (HOW.out.alloc _) ⟨w3.heap.size, 0, none⟩ 8 8 (ncells (narrowL 65535 4294967295 4294967295)) rfl rfl ?c1 ?c2 ?c3 ?c4 ?c5 ?_)
  case c1 =>
    intro k u hk
    have hp : (⟨w3.heap.size, 0, none⟩ : Addr).add k = ⟨w3.heap.size, k, none⟩ := by unfold Addr.add; split <;> simp_all
    rw [hp, World.cell?_alloc_at _ _ _ _ rfl]
    change (ncells (narrowL 65535 4294967295 4294967295)).toArray[k]? = some u
    simpa using hk
  case c2 => exact ncells_one _
  case c3 => decide
  case c4 => decide
  case c5 => simp; omega
  intro v4 w4 ho hgr _
  have hbg : Below w.heap.size w3 w4 := Below.grown ((Below.refl _ _).alloc (by omega) _) hgr (by simp; omega) (fun k hk => (HOW.out.lt k hk).1)
  have HB := Lib.hid (HB.out.trans hbg)
  clear hbg hgr 
  have ho : w4.ownsRow w.heap.size 45 2 v4 (wideL n s a ++ narrowL 65535 4294967295 4294967295).length (ncells (wideL n s a ++ narrowL 65535 4294967295 4294967295)) := ho
  have HL : Hid ((wideL n s a ++ narrowL 65535 4294967295 4294967295).length = 22) := Lib.hid rfl
  have HGE := Lib.hid (ncells_get (wideL n s a ++ narrowL 65535 4294967295 4294967295))
  have HOK : Hid (∀ p ∈ (wideL n s a ++ narrowL 65535 4294967295 4294967295), 1 ≤ p.1 ∧ p.1 ≤ 8 ∧ 0 ≤ p.2 ∧ p.2 < 18446744073709551616) := Lib.hid (by rintro ⟨p1, p2⟩ hp; simp only [narrowL, wideL, List.cons_append, List.nil_append, List.mem_cons, List.not_mem_nil, or_false, Prod.mk.injEq] at hp; omega)
  generalize hws : (wideL n s a ++ narrowL 65535 4294967295 4294967295) = ws at *
  have HWS := Lib.hid hws
  clear hws
  obtain ⟨gb, cap, rfl, hgb1, hgb2⟩ := World.ownsRow.form ho (by rw [HL.out]; omega)
  have hwl : ws.length ≤ 100 := by rw [HL.out]; omega
  have HCL := Lib.hid (fun j hj => World.ownsRow.cellAt ho j hj)
  clear ho
  go_wp2
  go_loopw [9, 47] (fun o i wr => ∃ j : Nat, j ≤ ws.length ∧ i = .int .i64 j ∧ Hid (Byt wr wr.heap.size o (encN (ws.take j))) ∧ Hid (Below w4.heap.size w4 wr)) (fun _ i _ => ws.length - (intOf i).toNat)
  case atStart => exact ⟨0, Nat.zero_le _, rfl, Lib.hid (.inl ⟨none, 0, rfl, rfl, fun _ => rfl⟩), Lib.hid (Below.refl _ _)⟩
  case round =>
    obtain ⟨j, hj, rfl, HO, HBW⟩ := hrel
    by_cases hlt : j < ws.length
    · have hk0 : wr.cell? ⟨gb, j * 2, none⟩ = _ := (HBW.out.cell (p := ⟨gb, j * 2, none⟩) hgb2).trans ((HCL.out (j * 2) (by omega)).trans (HGE.out j (by omega)).1)
      have hk1 : wr.cell? ⟨gb, j * 2 + 1, none⟩ = _ := (HBW.out.cell (p := ⟨gb, j * 2 + 1, none⟩) hgb2).trans ((HCL.out (j * 2 + 1) (by omega)).trans (HGE.out j (by omega)).2)
      have hz := HBW.out.size
      have hmem : ws.getD j (0, 0) ∈ ws := by rw [List.getD_eq_getElem?_getD, List.getElem?_eq_getElem (by omega)]; exact List.getElem_mem _
      have hxx := HOK.out _ hmem
      have HSN := Lib.hid (encN_snoc ws j (by omega))
      have hle : (encN (ws.take j)).length ≤ 8 * 22 := Nat.le_trans (encN_len _ (fun p hp => (HOK.out p (List.mem_of_mem_take hp)).2.1)) (Nat.mul_le_mul_left _ (by rw [List.length_take]; have := HL.out; omega))
      clear hmem
      generalize ws.getD j (0, 0) = p at *
      obtain ⟨p1, p2⟩ := p
      obtain ⟨x, rfl⟩ : ∃ x : Nat, p1 = x := ⟨p1.toNat, by omega⟩
      obtain ⟨y, rfl⟩ : ∃ y : Nat, p2 = y := ⟨p2.toNat, by omega⟩
      simp only [Int.toNat_natCast] at HSN
      obtain ⟨ao, co, he⟩ := HO.out.slice
      subst he
      have HAP := Lib.hid (fun (W : World) (h : Byt W W.heap.size (.slice ao (encN (ws.take j)).length co) (encN (ws.take j))) => append_yes ao co (encN (ws.take j)) x y W h (Nat.le_refl _) (by omega) (by omega) (by omega) (by omega))
      have HO1 := Lib.hid ((HO.out.below ((Below.refl _ _).alloc (Nat.le_refl _) (.cells #[.int .i64 (x : Nat), .int .u64 (y : Nat)] 45))).mono (by simp) : Byt _ (wr.alloc (.cells #[.int .i64 (x : Nat), .int .u64 (y : Nat)] 45)).heap.size _ _)
      go_wp2_with fail
      refine (HAP.out _ HO1.out).mono ?_
      rintro e w5 ⟨u, rfl, ho, hb⟩
      have HO2 := Lib.hid (Byt.of_own ho)
      have HB5 := Lib.hid (HBW.out.trans ((((Below.refl wr.heap.size wr).alloc (Nat.le_refl _) _).trans (hb.mono (by simp))).mono hz))
      clear ho hb hk0 hk1
      go_wp2
      go_roundw
      case rel => exact ⟨j + 1, by omega, by go_num, Lib.hid (by rw [HSN.out]; exact HO2.out), HB5⟩
      case measure => simp [intOf]; omega
    · obtain rfl : j = ws.length := by omega
      go_wp2
      go_ret2
      have h1 := HO.out
      rw [List.take_of_length_le (by omega)] at h1
      rw [← HWS.out] at h1
      exact ⟨_, rfl, h1, HB.out.trans (HBW.out.mono HB.out.size)⟩
end Go.Proofs.Ytfdbgbdiacpmhaa
