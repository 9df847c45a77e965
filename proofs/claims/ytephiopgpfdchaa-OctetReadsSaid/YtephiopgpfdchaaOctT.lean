/- The law OctetReads, whatever the input; its arguments. -/
import Derived.Test.YtephiopgpfdchaaOctS
import Derived.Test.YtephiopgpfdchaaOctO
import Derived.Deep.Slices
import Derived.Deep.Fields
import Derived.ChangeSame
namespace Go.Proofs.Ytephiopgpfdchaa
open Go.RowKit Go.ChangeShapes Go.WideShapes Go.Deep
set_option maxHeartbeats 1000000 in
set_option maxRecDepth 100000 in
theorem reads_nil (ad : Option Addr) (c : Nat) (l : List UInt8) (a : Option Addr) (cap : Nat) (w : World) (h : Byt w w.heap.size (.slice ad l.length c) l) (hl : l.length ≤ 300) :
    Calls Try.prog 5 #[.slice ad l.length c, .slice a 0 cap] w (lawQ w) := by
  have HH := Lib.hid h
  have t0 : decide (300 < (l.length : Int)) = false := by simp; omega
  clear h
  go_enter Try.func5, Try.ntmps5
  go_wp2_with fail
  refine (awake_any _).mono ?_
  rintro e w1 ⟨rfl, hb1⟩
  have HZ := Lib.hid hb1
  have hz1 := hb1.size
  clear hb1
  go_wp2_with fail
  refine (over_any (HH.out.below HZ.out) (by omega)).mono ?_
  rintro e w2 ⟨rb, rfl, hrb0, hd, hb2⟩
  have HZ := Lib.hid (HZ.out.trans (hb2.mono hz1))
  clear hd hb2
  go_wp2
  refine wp_loop_rounds 1 ?_
  rw [rounds_succ]
  go_wp2
  go_ret
  exact ⟨rfl, HZ.out⟩
set_option maxRecDepth 100000 in
theorem reads_long (ad a : Option Addr) (n m c cap : Nat) (w : World) (hl : 300 < n ∨ 50 < m) : Calls Try.prog 5 #[.slice ad n c, .slice a m cap] w (lawQ w) := by
  by_cases h1 : 300 < n
  · have t0 : decide (300 < (n : Int)) = true := by simp; omega
    go_enter Try.func5, Try.ntmps5
    go_wp2_with fail
    refine (awake_any _).mono ?_
    rintro e w1 ⟨rfl, hb1⟩
    have HZ := Lib.hid hb1
    clear hb1
    go_wp2
    go_ret
    exact ⟨rfl, HZ.out⟩
  · have t0 : decide (300 < (n : Int)) = false := by simp; omega
    have t1 : decide (50 < (m : Int)) = true := by simp; omega
    go_enter Try.func5, Try.ntmps5
    go_wp2_with fail
    refine (awake_any _).mono ?_
    rintro e w1 ⟨rfl, hb1⟩
    have HZ := Lib.hid hb1
    clear hb1
    go_wp2
    go_ret
    exact ⟨rfl, HZ.out⟩
/-- The value reads as calls. -/
def Cls (w : World) (B : Nat) (v : Value) (l : List (Int × Int × Nat)) : Prop :=
  (∃ a cap, v = .slice a 0 cap ∧ l = []) ∨ ∃ b off cap, v = .slice (some ⟨b, off, none⟩) l.length cap ∧ b < B ∧ CallsAt w b off l
theorem reads_walk (ad : Option Addr) (c : Nat) (l : List UInt8) (cv : Value) (cs : List (Int × Int × Nat)) (w : World) (h : Byt w w.heap.size (.slice ad l.length c) l) (hc : l.length ≤ c) (hcs : Cls w w.heap.size cv cs) :
    Calls Try.prog 5 #[.slice ad l.length c, cv] w fun e w' => e = .returned (.bool true) ∧ Below w.heap.size w w' := by
  rcases hcs with ⟨a, cap, rfl, _⟩ | ⟨b, off, cap, rfl, hb, hat⟩
  · by_cases hl : l.length ≤ 300
    · exact reads_nil ad c l a cap w h hl
    · exact reads_long ad a l.length 0 c cap w (by omega)
  · by_cases hl : l.length ≤ 300 ∧ cs.length ≤ 50
    · exact reads_any ad c l b off cap cs w h hl.1 hc hl.2 hb hat
    · exact reads_long ad _ l.length cs.length c cap w (by omega)
section
variable {H : Type} {enc : TypeId × Value → H} {w : World} {base : Nat} {spare : Nat → Bool} {held : Bool}
theorem call_cell {fuel : Nat} {cs : List Value} {x : DataW H × List MemPlace} (h : DataW.trod enc Try.prog w base spare held fuel 45 cs = some x) : ∃ (k c : Int) (v : Nat), cs = [.int .i64 k, .int .i64 c, .int .u64 (v : Nat)] := by
  obtain ⟨ys, n', hn', hy, hlen, hyl, hf⟩ := DataW.trod_struct Try.underlying45 h
  have hl : cs.length = 3 := hlen.trans (by kernel_rfl)
  match cs, hl with
  | [c0, c1, c2], _ =>
    have h0 := hf 0 _ rfl
    have h1 := hf 1 _ rfl
    have h2 := hf 2 _ rfl
    obtain ⟨k, e0, _⟩ := DataW.trod_int Try.underlying3 (h0.trans (List.getElem?_eq_getElem (by rw [hyl]; decide)))
    obtain ⟨c, e1, _⟩ := DataW.trod_int Try.underlying3 (h1.trans (List.getElem?_eq_getElem (by rw [hyl]; decide)))
    obtain ⟨v, e2, _, wv⟩ := DataW.trod_int Try.underlying24 (h2.trans (List.getElem?_eq_getElem (by rw [hyl]; decide)))
    have q1 : Try.prog.cellsOf 3 = 1 := by kernel_rfl
    have q2 : Try.prog.cellsOf 24 = 1 := by kernel_rfl
    simp [q1] at e0 e1
    simp [q2] at e2
    have := u64_bd wv
    exact ⟨k, c, v.toNat, by rw [e0, e1, e2, Int.toNat_of_nonneg this.1]⟩
theorem calls_open {fuel : Nat} {v : Value} {x : DataW H × List MemPlace} (h : DataW.trod enc Try.prog w base spare held fuel 41 [v] = some x) : ∃ l, Cls w w.heap.size v l := by
  have c2 : Try.prog.cellsOf 45 = 3 := by kernel_rfl
  rcases open_slice Try.underlying41 h with ⟨h0, _⟩ | ⟨a, len, cap, m, n, D, Pl, hcs, hb, hl, hm, hmm, hx, hi⟩
  · injection h0 with h0
    exact ⟨[], .inl ⟨none, 0, h0, rfl⟩⟩
  · injection hcs with hv
    have hlm : len ≤ m := by rw [hmm]; split <;> omega
    have key : ∀ i, i < len → ∃ (k c : Int) (u : Nat), w.cell? (a.add (i * 3)) = some (.int .i64 k) ∧ w.cell? (a.add (i * 3 + 1)) = some (.int .i64 c) ∧ w.cell? (a.add (i * 3 + 2)) = some (.int .u64 (u : Nat)) := by
      intro i hil
      obtain ⟨cs', hc, ht⟩ := hi i (by omega)
      rw [c2] at hc
      obtain ⟨k, c, u, rfl⟩ := call_cell ht
      obtain ⟨_, _, hat⟩ := World.cells?_some hc
      have h0 := hat 0 (by omega)
      have h1 := hat 1 (by omega)
      have h2 := hat 2 (by omega)
      rw [Go.Deep.add_add] at h0 h1 h2
      exact ⟨k, c, u, h0, h1, h2⟩
    by_cases hz : len = 0
    · exact ⟨[], .inl ⟨some a, cap, by rw [hv, hz], rfl⟩⟩
    · have hsp : a.spot = none := by
        obtain ⟨k, c, u, h0, _⟩ := key 0 (by omega)
        simp only [Nat.zero_mul, Addr.add] at h0
        unfold World.cell? at h0
        cases hs : a.spot with
        | none => rfl
        | some s =>
          exfalso
          simp only [if_true, hs] at h0
          split at h0 <;> simp at h0
      have hbl : a.block < w.heap.size := by
        obtain ⟨k, c, u, h0, _⟩ := key 0 (by omega)
        simp only [Nat.zero_mul, Addr.add] at h0
        exact World.block_lt_of_cell? w _ h0
      have hadd : ∀ n, a.add n = ⟨a.block, a.off + n, none⟩ := by
        intro n
        unfold Addr.add
        split
        · rename_i h; subst h; cases a; simp_all
        · rfl
      have build : ∀ n, n ≤ len → ∃ l : List (Int × Int × Nat), l.length = n ∧ ∀ j, j < n → w.cell? ⟨a.block, a.off + j * 3, none⟩ = some (.int .i64 (l.getD j (0, 0, 0)).1) ∧ w.cell? ⟨a.block, a.off + j * 3 + 1, none⟩ = some (.int .i64 (l.getD j (0, 0, 0)).2.1) ∧ w.cell? ⟨a.block, a.off + j * 3 + 2, none⟩ = some (.int .u64 ((l.getD j (0, 0, 0)).2.2 : Nat)) := by
        intro n
        induction n with
        | zero => intro _; exact ⟨[], rfl, fun j hj => by omega⟩
        | succ n ih =>
          intro hn
          obtain ⟨l, hl1, hl2⟩ := ih (by omega)
          obtain ⟨k, c, u, h0, h1, h2⟩ := key n (by omega)
          refine ⟨l ++ [(k, c, u)], by simp [hl1], fun j hj => ?_⟩
          by_cases hjn : j < n
          · have := hl2 j hjn
            rw [show (l ++ [(k, c, u)]).getD j (0, 0, 0) = l.getD j (0, 0, 0) from by simp [List.getElem?_append, hl1, hjn]]
            exact this
          · obtain rfl : j = n := by omega
            rw [show (l ++ [(k, c, u)]).getD j (0, 0, 0) = (k, c, u) from by simp [← hl1]]
            rw [hadd] at h0 h1 h2
            exact ⟨h0, h1, h2⟩
      obtain ⟨l, hl1, hl2⟩ := build len (Nat.le_refl _)
      refine ⟨l, .inr ⟨a.block, a.off, cap, ?_, hbl, fun j hj => hl2 j (by omega)⟩⟩
      rw [hv, hl1]
      cases a
      simp only at hsp
      rw [hsp]
end
end Go.Proofs.Ytephiopgpfdchaa
