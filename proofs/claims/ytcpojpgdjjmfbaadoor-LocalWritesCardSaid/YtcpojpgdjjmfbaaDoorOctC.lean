/- Contracts of octet's Get and of slices.Clone. -/
import Derived.Test.YtcpojpgdjjmfbaaDoorOctB
namespace Go.Proofs.YtcpojpgdjjmfbaaDoor
set_option linter.unusedVariables false
set_option linter.unusedSimpArgs false
set_option maxRecDepth 100000
open Go.RowKit
theorem decode_B {w : World} {B : Nat} {v : Value} {l : List UInt8} (h : Byt w B v l) (hl : l.length ≤ 8) :
    Calls Tryd.prog 58 #[v] w fun e w' => e = .returned (.int .u64 (num l : Nat)) ∧ w' = w := by
  rcases h with ⟨a, cap, rfl, rfl, _⟩ | ⟨b, off, cap, rfl, hc, hb, hs⟩
  · exact decode_nil a cap w
  · exact decode_any b off cap l w hl hs
theorem existsB_elim {len : Nat} {p n : Int} (h : existsB len p n = true) : 1 ≤ n ∧ n ≤ 8 ∧ 0 ≤ p ∧ p + n ≤ len := by
  simp only [existsB, Bool.and_eq_true, decide_eq_true_eq] at h
  have := rightW_elim h.1.1
  omega
theorem info_u8 : (Tryd.prog.info? 5).map (fun i => (i.zero, i.size, i.bytes)) = some (some (.int .u8 0), 1, 1) := by kernel_rfl
theorem size_u8 (W : World) : (sizeOf 5).run Tryd.prog W = .ok 1 W := by kernel_rfl
/-- Bytes' cells. -/
def bcells (l : List UInt8) : List Value := l.map fun c => .int .u8 (c.toNat : Int)
theorem bcells_length (l : List UInt8) : (bcells l).length = l.length := List.length_map _
theorem bcells_one (l : List UInt8) : ∀ u ∈ bcells l, u.oneCell' = true := by
  intro u hu
  obtain ⟨c, _, rfl⟩ := List.mem_map.1 hu
  rfl
theorem Byt.of_own {w : World} {base : Nat} {v : Value} {l : List UInt8} (h : w.ownsRow base 5 1 v l.length (bcells l)) : Byt w w.heap.size v l := by
  obtain ⟨_, h⟩ := h
  rcases h with ⟨rfl, h0⟩ | ⟨g, cap, cur, rfl, hg, hh, hnc, _, hcs, htk⟩
  · exact .inl ⟨none, 0, rfl, List.length_eq_zero_iff.1 h0, fun _ => rfl⟩
  · refine .inr ⟨g, 0, cap, rfl, hnc, (Array.getElem?_eq_some_iff.1 hh).1, fun j hj => ?_⟩
    have h1 : (cur.toList.take (l.length * 1))[j]? = some (.int .u8 ((l.getD j 0).toNat : Int)) := by
      rw [htk]; simp [bcells, hj]
    rw [List.getElem?_take] at h1
    split at h1
    · simp only [World.cell?, hh]
      simpa using h1
    · cases h1
/-- Where bytes come from when they are appended. -/
theorem Byt.news {w : World} {B : Nat} {a : Addr} {n cap : Nat} {l : List UInt8} (h : Byt w B (.slice (some a) n cap) l) : n = l.length ∧ ∀ j u, (bcells l)[j]? = some u → w.cell? (a.add j) = some u := by
  rcases h with ⟨a', cap', hv, rfl, _⟩ | ⟨b, off, cap', hv, _, _, hs⟩
  · injection hv with _ hn _
    exact ⟨hn, fun j u hj => by simp [bcells] at hj⟩
  · injection hv with ha hn _
    injection ha with ha
    subst ha
    refine ⟨hn, fun j u hj => ?_⟩
    have hj' : j < l.length := by
      have := (List.getElem?_eq_some_iff.1 hj).1
      rwa [bcells_length] at this
    have hplain : (⟨b, off, none⟩ : Addr).add j = ⟨b, off + j, none⟩ := by unfold Addr.add; split <;> simp_all
    rw [hplain, hs j hj']
    simp only [bcells, List.getElem?_map, List.getElem?_eq_getElem hj', Option.map_some, Option.some.injEq] at hj
    rw [← hj]
    simp [hj']
set_option maxHeartbeats 400000 in
theorem clone_any {w : World} {B : Nat} {v : Value} {l : List UInt8} (h : Byt w B v l) (hl : l.length ≤ 100000000) :
    Calls Tryd.prog 37 #[v] w fun e w' => ∃ v', e = .returned v' ∧ w'.ownsRow w.heap.size 5 1 v' l.length (bcells l) ∧ Below w.heap.size w w' := by
  obtain ⟨i0, hi, hz0, hz1, hz2⟩ := info_parts info_u8
  obtain ⟨a, cap, rfl⟩ := h.slice
  have heq := fun W => Lib.run_eql_slice_nil (P := Tryd.prog) W 31 5 a l.length cap 0 0 rfl
  cases a with
  | none =>
    have hl0 : l = [] := by
      rcases h with ⟨a', cap', hv, rfl, _⟩ | ⟨b, off, cap', hv, _⟩
      · rfl
      · injection hv with ha; cases ha
    subst hl0
    clear h
    simp only [List.length_nil] at heq
    go_enter Tryd.func37, Tryd.ntmps37
    go_wp2
    go_ret
    exact ⟨_, rfl, World.ownsRow_nil _ _ _ _, Below.refl _ _⟩
  | some a =>
    obtain ⟨_, hnews⟩ := h.news
    have hlt : l ≠ [] → a.block < w.heap.size := by
      intro hne
      have := hnews 0 ((bcells l).getD 0 (.int .u8 0)) (by cases l with | nil => exact absurd rfl hne | cons x xs => rfl)
      rw [show a.add 0 = a from rfl] at this
      exact World.block_lt_of_cell? w _ this
    have HN := Lib.hid hnews
    have HLT := Lib.hid hlt
    clear hnews hlt h
    go_enter Tryd.func37, Tryd.ntmps37
    go_wp2_with (at_builtin; refine wpList_append_own _ rfl _ _ 31 rfl w.heap.size 5 i0 (.int .u8 0) 1 1 Tryd.underlying31 hi hz0 hz1 hz2 rfl (by decide) _ 0 [] rfl ?c0 a l.length cap (bcells l) rfl ?c2 ?c1 (bcells_one l) ?c3 ?c4 ?c5 ?_)
    case c0 => exact ⟨rfl, .inr ⟨w.heap.size, 0, #[], rfl, Nat.le_refl _, heap_alloc_new _ _, Nat.le_refl _, Nat.zero_le _, rfl, rfl⟩⟩
    case c2 => rw [bcells_length]
    case c1 =>
      intro j u hj
      have hne : l ≠ [] := by rintro rfl; simp [bcells] at hj
      have hb : Below w.heap.size w (w.alloc (.cells #[] 5)) := (Below.refl _ _).alloc (Nat.le_refl _) _
      rw [hb.cell (p := a.add j) (by unfold Addr.add; split <;> exact HLT.out hne)]
      exact HN.out j u hj
    case c3 => unfold maxLen; omega
    case c4 => omega
    intro v' w1 hown hgrow _
    have HB : Hid (Below w.heap.size w w1) := Below.grown ((Below.refl _ _).alloc (Nat.le_refl _) _) hgrow (by simp) (by simp [Value.ownBlock])
    clear hgrow
    go_wp2
    go_ret
    exact ⟨_, rfl, hown, HB.out⟩
end Go.Proofs.YtcpojpgdjjmfbaaDoor
