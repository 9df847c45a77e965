/- Contracts of punnetlaw01.code, plain and of run at no steps. -/
import Derived.Test.YtkoimdlnkaphcaaTrapC
import Derived.Deep.RegionHeld3
import Derived.Deep.AppendLies
import Derived.OwnWalk
namespace Go.Proofs.Ytkoimdlnkaphcaa
open Go.RowKit Plain
/-- An error's number that isn't 0. -/
def low6 (n : Int) : Int := bits .and .i64 n 63
theorem low6_bd (n : Int) : 0 ≤ low6 n ∧ low6 n ≤ 63 := by
  unfold low6
  have h : bits .and .i64 n 63 = IntKind.i64.wrap ((BitVec.ofInt 64 n &&& BitVec.ofInt 64 63).toNat : Int) := rfl
  rw [h, BitVec.toNat_and]
  have h2 : (BitVec.ofInt 64 n).toNat &&& (BitVec.ofInt 64 63).toNat ≤ 63 := Nat.le_trans Nat.and_le_right (by decide)
  rw [IntKind.wrap_i64]
  omega
theorem code_any (n : Int) (w : World) :
    Calls Try.prog 21 #[.int .i64 n] w fun e w' => e = .returned (.int .i64 (1 + low6 n)) ∧ w' = w := by
  have hb := low6_bd n
  have hd : bits .and .i64 n 63 = low6 n := rfl
  go_enter Try.func21, Try.ntmps21
  go_wp2
  go_ret
  exact ⟨rfl, rfl⟩
def fixed (x : St) : St := (x.1, 1 + low6 x.2)
theorem good_fixed (l : List St) : good (l.map fixed) := by
  intro x hx
  obtain ⟨y, _, rfl⟩ := List.mem_map.1 hx
  have := low6_bd y.2
  show 1 + low6 y.2 ≠ 0
  omega
def stepCells (l : List St) : List Value := l.flatMap fun x => [.int .i64 x.1, .int .i64 x.2]
theorem info_step : (Try.prog.info? 38).map (fun i => (i.zero, i.size, i.bytes)) = some (some (.agg #[.int .i64 0, .int .i64 0]), 2, 16) := by kernel_rfl
theorem stepCells_snoc {l : List St} {j : Nat} (h : j < l.length) : stepCells ((l.take (j + 1)).map fixed) = stepCells ((l.take j).map fixed) ++ [.int .i64 (l.getD j (0, 0)).1, .int .i64 (1 + low6 (l.getD j (0, 0)).2)] := by
  rw [List.take_succ_eq_append_getElem h, List.map_append]
  unfold stepCells
  rw [List.flatMap_append]
  simp only [List.map_cons, List.map_nil, List.flatMap_cons, List.flatMap_nil, fixed, List.append_nil, List.getD_eq_getElem?_getD, List.getElem?_eq_getElem h, Option.getD_some]
set_option maxHeartbeats 1000000 in
theorem plain_any (b off cap : Nat) (l : List St) (w : World) (hl : l.length ≤ 1000) (hb : b < w.heap.size) (hs : StepsAt w b off l) :
    Calls Try.prog 8 #[.slice (some ⟨b, off, none⟩) l.length cap] w fun e w' => ∃ v, e = .returned v ∧ w'.ownsRow w.heap.size 38 2 v l.length (stepCells (l.map fixed)) ∧ Below w.heap.size w w' := by
  have HS := Lib.hid hs
  clear hs
  obtain ⟨i0, hi, hz0, hz1, hz2⟩ := info_parts info_step
  go_enter Try.func8, Try.ntmps8
  go_wp2
  go_loopw [3, 4] (fun v iv wr => ∃ j : Nat, j ≤ l.length ∧ iv = .int .i64 j ∧ wr.ownsRow w.heap.size 38 2 v j (stepCells ((l.take j).map fixed)) ∧ Below w.heap.size w wr) (fun _ iv _ => l.length - (intOf iv).toNat)
  case atStart => exact ⟨0, by omega, rfl, World.ownsRow_nil _ _ _ _, Below.refl _ _⟩
  case round =>
    obtain ⟨j, hj, rfl, hown, hbel⟩ := hrel
    by_cases hlt : j < l.length
    · obtain ⟨hc0, hc1⟩ := HS.out j hlt
      rw [← hbel.cell (p := ⟨b, _, none⟩) hb] at hc0 hc1
      have HSN := Lib.hid (stepCells_snoc hlt)
      generalize l.getD j (0, 0) = x at *
      obtain ⟨kd, cd⟩ := x
      go_wp2
      have ag : some b ≠ Value.ownBlock _ := fun e => absurd (hown.lt b e.symm).1 (by omega)
      have hwr : b < wr.heap.size := by have := hbel.size; omega
      have hi0' : (0 : Int) ≤ (j : Int) := Int.natCast_nonneg _
      have hi1 : (j : Int) < (l.length : Int) := by omega
      go_region_held3 (fun w' => w'.cell? ⟨b, off + j * 2, none⟩ = some (.int .i64 kd) ∧ w'.cell? ⟨b, off + j * 2 + 1, none⟩ = some (.int .i64 cd))
        (first
          | go_keep
          | (go_split_ands
             refine ⟨?_, ?_⟩
             · (rw [hgrow.cell_far _ (by simp; omega) ag]; assumption)
             · (rw [hgrow.cell_far _ (by simp; omega) ag]; assumption)))
        ((first
          | (go_at_call 21; refine (code_any cd _).mono ?_; rintro e w' ⟨rfl, rfl⟩)
          | (refine step_append_lies _ (by rfl) _ _ _ (by rfl) w.heap.size 38 i0 _ 2 16 Try.underlying22 hi hz0 hz1 hz2 rfl (by omega) _ j _ (by rfl) ((hown.alloc _).drew)
              ⟨wr.heap.size, 0, none⟩ 1 1 [.int .i64 kd, .int .i64 (1 + low6 cd)] (by rfl) (by rfl) (World.news_of_block (cs := #[.int .i64 kd, .int .i64 (1 + low6 cd)]) (t := 38) (fr := (0, 0)) (heap_alloc_new wr _)) (by simp [Value.oneCell'])
              (by omega) (by unfold maxLen; omega) (by omega) (by have := hbel.size; simp; omega) (wr.heap.size + 1) (by simp) ?_; intro gg cap w1 hown1 hgrow hat hlt)))
      go_wp2
      go_roundw
      case rel =>
        refine ⟨j + 1, by omega, by go_num, ?_, ?_⟩
        · rw [HSN.out]; exact hown1
        · refine Below.grown ((hbel.alloc (by have := hbel.size; omega) _).drew) hgrow (by have := hbel.size; simp; omega) (fun k hk => (hown.lt k hk).1)
      case measure => simp [intOf]; omega
    · go_wp2
      go_ret
      refine ⟨_, rfl, ?_, hbel⟩
      obtain rfl : j = l.length := by omega
      rw [List.take_length] at hown
      exact hown
theorem plain_nil (a : Option Addr) (cap : Nat) (w : World) :
    Calls Try.prog 8 #[.slice a 0 cap] w fun e w' => e = .returned (.slice none 0 0) ∧ w = w' := by
  go_enter Try.func8, Try.ntmps8
  go_wp2
  refine wp_loop_rounds 1 ?_
  rw [rounds_succ]
  go_wp2
  go_ret
  exact ⟨rfl, rfl⟩
theorem run_nil (a : Option Addr) (cap nb : Nat) (x : Int) (w : World) (hnb : nb < w.heap.size) (hc : w.cell? ⟨nb, 0, none⟩ = some (.int .i64 x)) (hf : w.frozen? ⟨nb, 0, none⟩ = false) :
    Calls Try.prog 12 #[.slice a 0 cap, .pointer (some ⟨nb, 0, none⟩)] w (RunPost w nb x (run [])) := by
  go_enter Try.func12, Try.ntmps12
  go_wp2
  refine wp_loop_rounds 1 ?_
  rw [rounds_succ]
  go_wp2
  go_end0
  exact ⟨by simp [run, RunEnd], by rw [cell_alloc_old hc hnb]; simp [run], frozen_alloc_old hf hnb _, only_alloc (only_refl _ _) _⟩
end Go.Proofs.Ytkoimdlnkaphcaa
