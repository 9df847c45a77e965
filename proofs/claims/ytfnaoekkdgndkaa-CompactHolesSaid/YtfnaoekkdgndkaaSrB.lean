/- Sorting by exchanges, in memory: rows of elements of one cell. -/
import Derived.Test.YtfnaoekkdgndkaaSrA
import Derived.Test.YtfnaoekkdgndkaaCpE
import Derived.Test.YtfnaoekkdgndkaaMono
import Derived.Test.YtfnaoekkdgndkaaMonoT
import Derived.Test.YtfnaoekkdgndkaaCells
import Derived.Lib.Hide
import Derived.OwnWalk
import Derived.IntWalk
import Derived.BigQuiet
import Derived.BigRegion
import Derived.Laws.Rows
import Derived.Deep.DeepCutAuto
namespace Go.Proofs.Ytfnaoekkdgndkaa
set_option maxRecDepth 100000
set_option linter.unusedVariables false
set_option linter.unusedSimpArgs false
open Go.RowKit
/-- A row of places, none of its cells frozen. -/
structure Arr (w : World) (b n : Nat) (f : Nat → El) : Prop where
  cell : ∀ k, k < n → ∀ i v, (pcC (f k))[i]? = some v → w.cell? ⟨b, k * 4 + i, none⟩ = some v
  free : ∀ k, w.frozen? ⟨b, k, none⟩ = false
  lt : b < w.heap.size
def enc (x : El) : Value := .agg #[.int .i64 (x.a : Nat), .int .i64 (x.l : Nat), .int .i64 (x.o : Nat), .int .i64 (x.i : Nat)]
/-- A place stored. -/
def put4 (w : World) (blk k : Nat) (x : El) : World := (((w.setCell ⟨blk, k * 4, none⟩ (.int .i64 (x.a : Nat))).setCell ⟨blk, k * 4 + 1, none⟩ (.int .i64 (x.l : Nat))).setCell ⟨blk, k * 4 + 2, none⟩ (.int .i64 (x.o : Nat))).setCell ⟨blk, k * 4 + 3, none⟩ (.int .i64 (x.i : Nat))
section
variable {w w' : World} {b n : Nat} {f : Nat → El}
theorem Arr.four (h : Arr w b n f) (k : Nat) (hk : k < n) : w.cell? ⟨b, k * 4, none⟩ = some (.int .i64 ((f k).a : Nat)) ∧ w.cell? ⟨b, k * 4 + 1, none⟩ = some (.int .i64 ((f k).l : Nat)) ∧ w.cell? ⟨b, k * 4 + 2, none⟩ = some (.int .i64 ((f k).o : Nat)) ∧ w.cell? ⟨b, k * 4 + 3, none⟩ = some (.int .i64 ((f k).i : Nat)) :=
  ⟨h.cell k hk 0 _ rfl, h.cell k hk 1 _ rfl, h.cell k hk 2 _ rfl, h.cell k hk 3 _ rfl⟩
theorem Arr.frees (h : Arr w b n f) (k : Nat) : w.frozen? ⟨b, k * 4, none⟩ = false ∧ w.frozen? ⟨b, k * 4 + 1, none⟩ = false ∧ w.frozen? ⟨b, k * 4 + 2, none⟩ = false ∧ w.frozen? ⟨b, k * 4 + 3, none⟩ = false :=
  ⟨h.free _, h.free _, h.free _, h.free _⟩
theorem Arr.below (h : Arr w b n f) {B : Nat} (hb : Below B w w') (hB : b < B) : Arr w' b n f :=
  ⟨fun k hk i v hv => (hb.cell (p := ⟨b, k * 4 + i, none⟩) hB).trans (h.cell k hk i v hv), fun k => (hb.frozen (p := ⟨b, k, none⟩) hB).trans (h.free k), Nat.lt_of_lt_of_le h.lt hb.size⟩
theorem Arr.up (h : Arr w b n f) (hb : Below w.heap.size w w') : Arr w' b n f := h.below hb h.lt
theorem Arr.kept (h : Arr w b n f) {row : Option Nat} (hg : w.grownBy w' row) (hne : some b ≠ row) : Arr w' b n f :=
  ⟨fun k hk i v hv => hg.cell (h.cell k hk i v hv) hne, fun k => (World.frozen?_of_block (hg.block b h.lt hne)).trans (h.free k), Nat.lt_of_lt_of_le h.lt hg.size⟩
theorem put4_cell (w : World) (b k : Nat) (x : El) (hw : ∀ i, i < 4 → ∃ u, w.cell? ⟨b, k * 4 + i, none⟩ = some u) (i : Nat) (v : Value) (hv : (pcC x)[i]? = some v) : (put4 w b k x).cell? ⟨b, k * 4 + i, none⟩ = some v := by
  have hi : i < 4 := by
    have := (List.getElem?_eq_some_iff.1 hv).1
    exact this
  obtain ⟨u, hu⟩ := hw i hi
  unfold put4
  rcases (show i = 0 ∨ i = 1 ∨ i = 2 ∨ i = 3 by omega) with rfl | rfl | rfl | rfl
  · simp only [pcC, List.getElem?_cons_zero, Option.some.injEq] at hv
    subst hv
    rw [World.cell?_setCell_other _ _ _ _ (by simp <;> omega), World.cell?_setCell_other _ _ _ _ (by simp <;> omega), World.cell?_setCell_other _ _ _ _ (by simp <;> omega)]
    exact World.cell?_setCell_same _ _ _ hu
  · simp only [pcC, List.getElem?_cons_succ, List.getElem?_cons_zero, Option.some.injEq] at hv
    subst hv
    rw [World.cell?_setCell_other _ _ _ _ (by simp <;> omega), World.cell?_setCell_other _ _ _ _ (by simp <;> omega)]
    exact World.cell?_setCell_same _ _ _ (by rw [World.cell?_setCell_other _ _ _ _ (by simp <;> omega)]; exact hu)
  · simp only [pcC, List.getElem?_cons_succ, List.getElem?_cons_zero, Option.some.injEq] at hv
    subst hv
    rw [World.cell?_setCell_other _ _ _ _ (by simp <;> omega)]
    exact World.cell?_setCell_same _ _ _ (by rw [World.cell?_setCell_other _ _ _ _ (by simp <;> omega), World.cell?_setCell_other _ _ _ _ (by simp <;> omega)]; exact hu)
  · simp only [pcC, List.getElem?_cons_succ, List.getElem?_cons_zero, Option.some.injEq] at hv
    subst hv
    exact World.cell?_setCell_same _ _ _ (by rw [World.cell?_setCell_other _ _ _ _ (by simp <;> omega), World.cell?_setCell_other _ _ _ _ (by simp <;> omega), World.cell?_setCell_other _ _ _ _ (by simp <;> omega)]; exact hu)
theorem put4_other (w : World) (b k : Nat) (x : El) (j i : Nat) (hj : j ≠ k) (hi : i < 4) : (put4 w b k x).cell? ⟨b, j * 4 + i, none⟩ = w.cell? ⟨b, j * 4 + i, none⟩ := by
  unfold put4
  rw [World.cell?_setCell_other _ _ _ _ (by simp <;> omega), World.cell?_setCell_other _ _ _ _ (by simp <;> omega), World.cell?_setCell_other _ _ _ _ (by simp <;> omega), World.cell?_setCell_other _ _ _ _ (by simp <;> omega)]
theorem Arr.set (h : Arr w b n f) (k : Nat) (hk : k < n) (x : El) : Arr (put4 w b k x) b n (updF f k x) := by
  refine ⟨fun j hj i v hv => ?_, fun j => by unfold put4; rw [World.frozen?_setCell, World.frozen?_setCell, World.frozen?_setCell, World.frozen?_setCell]; exact h.free j, by unfold put4; simpa using h.lt⟩
  unfold updF at hv
  have hi : i < 4 := by
    have := (List.getElem?_eq_some_iff.1 hv).1
    split at this <;> exact this
  by_cases e : j = k
  · subst e
    rw [if_pos rfl] at hv
    refine put4_cell _ _ _ _ (fun q hq => ?_) i v hv
    exact ⟨_, h.cell j hk q ((pcC (f j))[q]'(by rw [pcC_len]; exact hq)) (List.getElem?_eq_getElem _)⟩
  · rw [if_neg e] at hv
    rw [put4_other _ _ _ _ _ _ e hi]
    exact h.cell j hj i v hv
theorem updF_swp (f : Nat → El) (i j : Nat) : updF (updF f i (f j)) j (f i) = swp f i j := by
  by_cases e : i = j
  · subst e
    funext k
    unfold updF swp
    split
    · rfl
    · rfl
  · exact (swp_upd f i j e).symm
theorem Arr.swap (h : Arr w b n f) (i j : Nat) (hi : i < n) (hj : j < n) : Arr (put4 (put4 w b i (f j)) b j (f i)) b n (swp f i j) := by
  rw [← updF_swp]
  exact (h.set i hi (f j)).set j hj (f i)
theorem Arr.sub (h : Arr w b n f) {m : Nat} (hm : m ≤ n) : Arr w b m f := ⟨fun k hk => h.cell k (by omega), h.free, h.lt⟩
end
/-- Only the block b of what was there is written. -/
abbrev Gr (b : Nat) (w w' : World) : Prop := w.grownBy w' (some b)
theorem Gr.refl (b : Nat) (w : World) : Gr b w w := World.grownBy.refl w _
theorem Gr.trans {b : Nat} {w w' w'' : World} (h : Gr b w w') (h' : Gr b w' w'') : Gr b w w'' :=
  ⟨h'.os.trans h.os, h'.tape.trans h.tape, h'.output.trans h.output, Nat.le_trans h.size h'.size, fun k hk hne => (h'.block k (Nat.lt_of_lt_of_le hk h.size) hne).trans (h.block k hk hne)⟩
theorem Gr.up {b : Nat} {w w' w'' : World} (h : Gr b w w') (h' : Below w'.heap.size w' w'') : Gr b w w'' :=
  h.trans ⟨h'.os, h'.tape, h'.output, h'.size, fun k hk _ => h'.block k hk⟩
theorem Gr.set {b : Nat} {w w' : World} (h : Gr b w w') (k : Nat) (v : Value) : Gr b w (w'.setCell ⟨b, k, none⟩ v) := by
  have hb : Below b w' (w'.setCell ⟨b, k, none⟩ v) := (Below.refl b w').setCell (p := ⟨b, k, none⟩) (Nat.le_refl _) v
  refine h.trans ⟨hb.os, hb.tape, hb.output, hb.size, fun j hj hne => ?_⟩
  exact heap_setCell_other w' ⟨b, k, none⟩ j v (fun e => hne (by rw [e]))
theorem Gr.put4 {b : Nat} {w w' : World} (h : Gr b w w') (k : Nat) (x : El) : Gr b w (put4 w' b k x) := by
  unfold Go.Proofs.Ytfnaoekkdgndkaa.put4
  exact (((h.set _ _).set _ _).set _ _).set _ _
theorem Gr.below {b B : Nat} {w w' : World} (h : Gr b w w') (hB : B ≤ b) (hB' : B ≤ w.heap.size) : Below B w w' :=
  (Below.refl B w).grown h hB' (fun k hk => by cases hk; exact hB)
set_option maxHeartbeats 4000000 in
theorem swapRange_any (blk n cap a b m : Nat) (f : Nat → El) (fv : Value) (w : World) (hA : Arr w blk n f) (hn : n ≤ 1000000) (ha : a + m ≤ n) (hb : b + m ≤ n) (hd : a + m ≤ b ∨ b + m ≤ a) :
    Calls Try.prog 32 #[.slice (some ⟨blk, 0, none⟩) n cap, .int .i64 (a : Nat), .int .i64 (b : Nat), .int .i64 (m : Nat), fv] w fun e w' => e = .returned (.tuple #[]) ∧ Arr w' blk n (swR f a b m) ∧ Gr blk w w' := by
  have HA := Lib.hid hA
  clear hA
  go_enter Try.func32, Try.ntmps32
  go_wp2_with (fail)
  go_loopw [10] (fun i wr => ∃ j : Nat, i = .int .i64 j ∧ j ≤ m ∧ Hid (Arr wr blk n (swR f a b j)) ∧ Hid (Gr blk w wr)) (fun i _ => m - (intOf i).toNat)
  case atStart => exact ⟨0, rfl, by omega, Lib.hid (by rw [swR_start]; exact HA.out), Lib.hid (Gr.refl _ _)⟩
  case round =>
    clear HA
    obtain ⟨i, rfl, hi, HA, HG⟩ := hrel
    by_cases hlt : i < m
    rotate_left
    · have d1 : decide (i < m) = false := decide_eq_false (by omega)
      have d2 : decide ((i : Int) < (m : Int)) = false := decide_eq_false (by omega)
      have e : i = m := by omega
      subst e
      clear hlt
      go_wp2_with (fail)
      go_end0
      exact ⟨by rfl, HA.out, HG.out⟩
    have d1 : decide (i < m) = true := decide_eq_true hlt
    have d2 : decide ((i : Int) < (m : Int)) = true := decide_eq_true (by omega)
    have q1 : IntKind.i64.wrap ((i : Int) + 1) = (i : Int) + 1 := IntWalk.i64_in _ (by omega)
    have q2 : IntKind.i64.wrap ((a : Int) + (i : Int)) = ((a + i : Nat) : Int) := by rw [IntWalk.i64_in _ (by omega)]; omega
    have q3 : IntKind.i64.wrap ((b : Int) + (i : Int)) = ((b + i : Nat) : Int) := by rw [IntWalk.i64_in _ (by omega)]; omega
    have b1 : a + i < n := by omega
    have b2 : b + i < n := by omega
    have b3 : ((a + i : Nat) : Int) < (n : Int) := by omega
    have b4 : ((b + i : Nat) : Int) < (n : Int) := by omega
    have HST := Lib.hid (swR_step f a b i m hlt hd)
    generalize hga : a + i = ai at *
    generalize hgb : b + i = bi at *
    have HGA := Lib.hid hga
    have HGB := Lib.hid hgb
    clear hga hgb
    generalize swR f a b i = g at *
    obtain ⟨wo, rfl⟩ : ∃ z : World, z = wr := ⟨_, rfl⟩
    go_upto_region 3 with (fail)
    obtain ⟨c10, c11, c12, c13⟩ := HA.out.four ai b1
    obtain ⟨c20, c21, c22, c23⟩ := HA.out.four bi b2
    obtain ⟨f10, f11, f12, f13⟩ := HA.out.frees ai
    obtain ⟨f20, f21, f22, f23⟩ := HA.out.frees bi
    have hne : ai ≠ bi := by have := HGA.out; have := HGB.out; omega
    obtain ⟨x1, hx1⟩ : ∃ z, g ai = z := ⟨_, rfl⟩
    obtain ⟨x2, hx2⟩ : ∃ z, g bi = z := ⟨_, rfl⟩
    rw [hx1] at c10 c11 c12 c13
    rw [hx2] at c20 c21 c22 c23
    have HX1 := Lib.hid hx1
    have HX2 := Lib.hid hx2
    clear hx1 hx2
    go_region
    all_goals
      have HA2 : Hid (Arr ((((((((wo.setCell ⟨blk, ai * 4, none⟩ (.int .i64 (x2.a : Nat))).setCell ⟨blk, ai * 4 + 1, none⟩ (.int .i64 (x2.l : Nat))).setCell ⟨blk, ai * 4 + 2, none⟩ (.int .i64 (x2.o : Nat))).setCell ⟨blk, ai * 4 + 3, none⟩ (.int .i64 (x2.i : Nat))).setCell ⟨blk, bi * 4, none⟩ (.int .i64 (x1.a : Nat))).setCell ⟨blk, bi * 4 + 1, none⟩ (.int .i64 (x1.l : Nat))).setCell ⟨blk, bi * 4 + 2, none⟩ (.int .i64 (x1.o : Nat))).setCell ⟨blk, bi * 4 + 3, none⟩ (.int .i64 (x1.i : Nat))).drew blk n (swR f a b (i + 1))) := Lib.hid (by
        rw [← HST.out]
        have h1 := HA.out.swap ai bi b1 b2
        rw [HX1.out, HX2.out] at h1
        exact h1.up (Below.refl _ _).drew)
      have HG2 : Hid (Gr blk w ((((((((wo.setCell ⟨blk, ai * 4, none⟩ (.int .i64 (x2.a : Nat))).setCell ⟨blk, ai * 4 + 1, none⟩ (.int .i64 (x2.l : Nat))).setCell ⟨blk, ai * 4 + 2, none⟩ (.int .i64 (x2.o : Nat))).setCell ⟨blk, ai * 4 + 3, none⟩ (.int .i64 (x2.i : Nat))).setCell ⟨blk, bi * 4, none⟩ (.int .i64 (x1.a : Nat))).setCell ⟨blk, bi * 4 + 1, none⟩ (.int .i64 (x1.l : Nat))).setCell ⟨blk, bi * 4 + 2, none⟩ (.int .i64 (x1.o : Nat))).setCell ⟨blk, bi * 4 + 3, none⟩ (.int .i64 (x1.i : Nat))).drew) := Lib.hid (((HG.out.put4 ai x2).put4 bi x1).up (Below.refl _ _).drew)
      generalize ((((((((wo.setCell ⟨blk, ai * 4, none⟩ (.int .i64 (x2.a : Nat))).setCell ⟨blk, ai * 4 + 1, none⟩ (.int .i64 (x2.l : Nat))).setCell ⟨blk, ai * 4 + 2, none⟩ (.int .i64 (x2.o : Nat))).setCell ⟨blk, ai * 4 + 3, none⟩ (.int .i64 (x2.i : Nat))).setCell ⟨blk, bi * 4, none⟩ (.int .i64 (x1.a : Nat))).setCell ⟨blk, bi * 4 + 1, none⟩ (.int .i64 (x1.l : Nat))).setCell ⟨blk, bi * 4 + 2, none⟩ (.int .i64 (x1.o : Nat))).setCell ⟨blk, bi * 4 + 3, none⟩ (.int .i64 (x1.i : Nat))).drew = w2 at *
      clear c10 c11 c12 c13 c20 c21 c22 c23 f10 f11 f12 f13 f20 f21 f22 f23 b3 b4 q2 q3
      go_wp2_with (fail)
      go_roundw
      case rel => exact ⟨i + 1, rfl, hlt, HA2, HG2⟩
      case measure => simp [intOf] <;> omega
set_option maxHeartbeats 4000000 in
theorem rotate_any (blk n cap s m e : Nat) (f : Nat → El) (fv : Value) (w : World) (hA : Arr w blk n f) (hn : n ≤ 1000000) (h1 : s < m) (h2 : m < e) (h3 : e ≤ n) :
    Calls Try.prog 31 #[.slice (some ⟨blk, 0, none⟩) n cap, .int .i64 (s : Nat), .int .i64 (m : Nat), .int .i64 (e : Nat), fv] w fun r w' => r = .returned (.tuple #[]) ∧ Arr w' blk n (rotF f s m e) ∧ Gr blk w w' := by
  have HA := Lib.hid hA
  have q1 : IntKind.i64.wrap ((m : Int) - (s : Int)) = ((m - s : Nat) : Int) := by rw [IntWalk.i64_in _ (by omega)]; omega
  have q2 : IntKind.i64.wrap ((e : Int) - (m : Int)) = ((e - m : Nat) : Int) := by rw [IntWalk.i64_in _ (by omega)]; omega
  have HS : Hid (rotF f (m - (m - s)) m (m + (e - m)) = rotF f s m e) := Lib.hid (by rw [show m - (m - s) = s by omega, show m + (e - m) = e by omega])
  clear hA
  go_enter Try.func31, Try.ntmps31
  go_wp2_with (fail)
  have b1 : m - s ≤ m := by omega
  have b2 : m + (e - m) ≤ n := by omega
  have b3 : 0 < m - s := by omega
  have b4 : 0 < e - m := by omega
  generalize m - s = i0 at *
  generalize e - m = j0 at *
  clear q1 q2
  go_loopw [10, 11] (fun x y wr => ∃ (i j : Nat) (g : Nat → El), x = .int .i64 i ∧ y = .int .i64 j ∧ 0 < i ∧ 0 < j ∧ i ≤ m ∧ m + j ≤ n ∧ Hid (rotF g (m - i) m (m + j) = rotF f s m e) ∧ Hid (Arr wr blk n g) ∧ Hid (Gr blk w wr)) (fun x y _ => (intOf x).toNat + (intOf y).toNat)
  case atStart => exact ⟨i0, j0, f, rfl, rfl, b3, b4, b1, b2, HS, HA, Lib.hid (Gr.refl _ _)⟩
  case round =>
    clear HA HS b1 b2 b3 b4
    obtain ⟨i, j, g, rfl, rfl, i1, j1, i2, j2, HS, HA, HG⟩ := hrel
    obtain ⟨wo, rfl⟩ : ∃ z : World, z = wr := ⟨_, rfl⟩
    have q3 : IntKind.i64.wrap ((m : Int) - (i : Int)) = ((m - i : Nat) : Int) := by rw [IntWalk.i64_in _ (by omega)]; omega
    rcases Nat.lt_trichotomy i j with hc | hc | hc
    · have d1 : ((i : Int) != (j : Int)) = true := by simp; omega
      have d2 : decide ((j : Int) < (i : Int)) = false := decide_eq_false (by omega)
      have q4 : IntKind.i64.wrap ((m : Int) + (j : Int)) = (m : Int) + (j : Int) := by rw [IntWalk.i64_in _ (by omega)]
      have q5 : IntKind.i64.wrap ((m : Int) + (j : Int) - (i : Int)) = ((m + j - i : Nat) : Int) := by rw [IntWalk.i64_in _ (by omega)]; omega
      have q6 : IntKind.i64.wrap ((j : Int) - (i : Int)) = ((j - i : Nat) : Int) := by rw [IntWalk.i64_in _ (by omega)]; omega
      have HW := Lib.hid (swapRange_any blk n cap (m - i) (m + j - i) i g fv wo HA.out hn (by omega) (by omega) (.inl (by omega)))
      have HS : Hid (rotF (swR g (m - i) (m + j - i) i) (m - i) m (m + (j - i)) = rotF f s m e) := Lib.hid (by
        have := rotF_less g m i j hc i2
        rw [show m + (j - i) = m + j - i by omega, this]
        exact HS.out)
      have b5 : 0 < j - i := by omega
      have b6 : m + (j - i) ≤ n := by omega
      have b7 : i + (j - i) < i + j := by omega
      generalize swR g (m - i) (m + j - i) i = g' at *
      obtain ⟨mi, hmi⟩ : ∃ z, m - i = z := ⟨_, rfl⟩
      rw [hmi] at q3 HW
      clear hmi
      generalize m + j - i = mj at *
      generalize j - i = ji at *
      go_wp2_with (fail)
      refine HW.out.mono ?_
      rintro r w1 ⟨rfl, ha, hg⟩
      have HA := Lib.hid ha
      have HG := Lib.hid (HG.out.trans hg)
      clear ha hg HW
      go_wp2_with (fail)
      go_roundw
      case rel => exact ⟨i, ji, g', rfl, rfl, i1, b5, i2, b6, HS, HA, HG⟩
      case measure => simp [intOf] <;> omega
    · subst hc
      have d1 : ((i : Int) != (i : Int)) = false := by simp
      have HW := Lib.hid (swapRange_any blk n cap (m - i) m i g fv wo HA.out hn (by omega) (by omega) (.inl (by omega)))
      have HS2 : Hid (swR g (m - i) m i = rotF f s m e) := Lib.hid (by rw [rotF_even g m i i2]; exact HS.out)
      clear HS
      generalize swR g (m - i) m i = g' at *
      generalize m - i = mi at *
      go_wp2_with (fail)
      refine HW.out.mono ?_
      rintro r w1 ⟨rfl, ha, hg⟩
      rw [HS2.out] at ha
      have HA := Lib.hid ha
      have HG := Lib.hid (HG.out.trans hg)
      clear ha hg HW
      go_wp2_with (fail)
      go_end0
      exact ⟨by rfl, HA.out, HG.out⟩
    · have d1 : ((i : Int) != (j : Int)) = true := by simp; omega
      have d2 : decide ((j : Int) < (i : Int)) = true := decide_eq_true (by omega)
      have q6 : IntKind.i64.wrap ((i : Int) - (j : Int)) = ((i - j : Nat) : Int) := by rw [IntWalk.i64_in _ (by omega)]; omega
      have HW := Lib.hid (swapRange_any blk n cap (m - i) m j g fv wo HA.out hn (by omega) (by omega) (.inl (by omega)))
      have HS : Hid (rotF (swR g (m - i) m j) (m - (i - j)) m (m + j) = rotF f s m e) := Lib.hid (by
        have := rotF_more g m i j hc i2
        rw [show m - (i - j) = m - i + j by omega, this]
        exact HS.out)
      have b5 : 0 < i - j := by omega
      have b6 : i - j ≤ m := by omega
      have b7 : i - j + j < i + j := by omega
      generalize swR g (m - i) m j = g' at *
      obtain ⟨mi, hmi⟩ : ∃ z, m - i = z := ⟨_, rfl⟩
      rw [hmi] at q3 HW
      clear hmi
      generalize i - j = ij at *
      go_wp2_with (fail)
      refine HW.out.mono ?_
      rintro r w1 ⟨rfl, ha, hg⟩
      have HA := Lib.hid ha
      have HG := Lib.hid (HG.out.trans hg)
      clear ha hg HW
      go_wp2_with (fail)
      go_roundw
      case rel => exact ⟨ij, j, g', rfl, rfl, b5, j1, b6, j2, HS, HA, HG⟩
      case measure => simp [intOf] <;> omega
end Go.Proofs.Ytfnaoekkdgndkaa
