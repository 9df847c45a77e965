/- linear.isTimely. -/
import Derived.Test.YtmcbgjkogggneaaDoorLkI
import Derived.RangeFuncWrites
namespace Go.Proofs.YtmcbgjkogggneaaDoor
set_option maxRecDepth 100000
set_option linter.unusedVariables false
set_option linter.unusedSimpArgs false
open Go.RowKit Go.Shelf
attribute [local go_sem] Oper.semAt_some
def badT (en : Bool) (le : Int) (c : CallV) : Bool := en && decide (le < c.beg)
def updT (en : Bool) (le : Int) (c : CallV) : Bool × Int := if 0 ≤ c.fin ∧ (en = false ∨ c.fin < le) then (true, c.fin) else (en, le)
def stepT {n : Nat} (cv : Nat → CallV) (s : Bool × Bool × Int) (x : At n) : Bool × Bool × Int := (s.1 && !badT s.2.1 s.2.2 (cv x.1.2), updT s.2.1 s.2.2 (cv x.1.2))
/-- What isTimely holds behind the ones that have come. -/
def tmS {n : Nat} (cv : Nat → CallV) (pre : List (At n)) : Bool × Bool × Int := pre.foldl (stepT cv) (true, false, 0)
theorem tmS_snoc {n : Nat} (cv : Nat → CallV) (pre : List (At n)) (x : At n) : tmS cv (pre ++ [x]) = stepT cv (tmS cv pre) x := by unfold tmS; rw [List.foldl_append]; rfl
theorem tmS_false {n : Nat} (cv : Nat → CallV) (r : List (At n)) : ∀ s : Bool × Bool × Int, s.1 = false → (r.foldl (stepT cv) s).1 = false := by
  induction r with
  | nil => intro s h; exact h
  | cons x r ih =>
    intro s h
    refine ih _ ?_
    show (s.1 && _) = false
    rw [h]
    rfl
theorem tmS_take {n : Nat} (cv : Nat → CallV) (L : List (At n)) (k : Nat) (h : (tmS cv (L.take k)).1 = false) : (tmS cv L).1 = false := by
  have e : L = L.take k ++ L.drop k := (List.take_append_drop k L).symm
  rw [e]
  unfold tmS at h ⊢
  rw [List.foldl_append]
  exact tmS_false cv _ _ h
set_option maxRecDepth 100000 in
set_option maxHeartbeats 4000000 in
theorem isTimely_in (n m : Nat) (cv : Nat → CallV) (o : Nat → Nat) (L : List (At n)) (hL : IsBw n m o L) (v u : Value) (B : Nat) (w : World) (h : Sl w B 6 v n (ccells n cv)) (hu : Sl w B 1 u m (icells m o)) (hB : B ≤ w.heap.size) (hn : n ≤ 20) (hm : m ≤ 30) :
    CallsIn Fence.wide 6 Tryd.prog 22 #[v, u] w fun e W' => e = .returned (.bool (tmS cv L).1) ∧ Below w.heap.size w W' := by
  obtain ⟨a, cap, rfl, hcap⟩ := h.form
  obtain ⟨a2, cap2, rfl, hcap2⟩ := hu.form
  have HC := Lib.hid (fun (W : World) (hW : Below w.heap.size w W) => h.below (hW.mono hB))
  refine callsIn_of_wp_marks Tryd.func22 rfl trivial ?_ rfl
  simp only [Tryd.ntmps22, List.size_toArray, List.length_cons, List.length_nil, Nat.reduceAdd, Nat.reduceSub, Array.replicate_succ, Array.replicate_zero, List.push_toArray, List.append_toArray, List.nil_append, List.cons_append]
  gi_wp2_with (refine ⟨trivial, ?_⟩; gi_at_call 33; refine (backward_in Fence.wide 5 trivial rfl _ _ _ _).mono ?_; rintro e w' ⟨rfl, rfl⟩)
  have b2 := Boxed.new w 22 (.slice a n cap)
  have b4 := Boxed.new (w.alloc (.cells #[.slice a n cap] 22)) 4 (.bool false)
  have b5 := Boxed.new ((w.alloc (.cells #[.slice a n cap] 22)).alloc (.cells #[.bool false] 4)) 4 (.bool false)
  have b6 := Boxed.new (((w.alloc (.cells #[.slice a n cap] 22)).alloc (.cells #[.bool false] 4)).alloc (.cells #[.bool false] 4)) 3 (.int .i64 0)
  have bs := Boxed.new ((((w.alloc (.cells #[.slice a n cap] 22)).alloc (.cells #[.bool false] 4)).alloc (.cells #[.bool false] 4)).alloc (.cells #[.int .i64 0] 3)) 23 (.slice a2 m cap2)
  simp only [World.size_alloc] at b4 b5 b6 bs
  have hB0 : Below w.heap.size w (((((w.alloc (.cells #[.slice a n cap] 22)).alloc (.cells #[.bool false] 4)).alloc (.cells #[.bool false] 4)).alloc (.cells #[.int .i64 0] 3)).alloc (.cells #[.slice a2 m cap2] 23)) := (((((Below.refl _ w).alloc (Nat.le_refl _) _).alloc (by simp) _).alloc (by simp <;> omega) _).alloc (by simp <;> omega) _).alloc (by simp <;> omega) _
  refine wpIn_rangeFunc_ownG rfl (by omega) (gf := 45) (lb := #[.pointer (some ⟨w.heap.size + 1 + 1 + 1 + 1, 0, none⟩)]) rfl trivial (enters_of Tryd.func45 (by kernel_rfl) rfl)
    (back_stops Fence.wide 5 trivial rfl (by omega) (w.heap.size + 1 + 1 + 1 + 1) w.heap.size n m a2 cap2 o L hL (by omega) _ (by simp) (by simp; omega) bs.cell (hu.below (hB0.mono hB) |>.mono hB)) (fun h1 h2 => ⟨h1.1.trans h2.1, h2.2.trans h1.2⟩) (fun W l o o' hl ho h1 h2 => ⟨belowK_b (by simp; omega) W l o o' hl ho h1 h2, (belowK_b (n₀ := w.heap.size + 1 + 1 + 1 + 1 + 1) (by simp) W l o o' hl ho h1 h2).cell (p := ⟨w.heap.size + 1 + 1 + 1 + 1, 0, none⟩) (Nat.lt_succ_self _)⟩) (Below.refl _ _) (fun _ => rfl)
    (fun pre W => ((tmS cv pre).1 = true ∧ (W.cell? ⟨w.heap.size, 0, none⟩ = some (.slice a n cap) ∧ W.cell? ⟨w.heap.size + 1 + 1 + 1 + 1, 0, none⟩ = some (.slice a2 m cap2)) ∧ (W.cell? ⟨w.heap.size + 1, 0, none⟩ = some (.bool false) ∧ W.frozen? ⟨w.heap.size + 1, 0, none⟩ = false) ∧ (W.cell? ⟨w.heap.size + 1 + 1, 0, none⟩ = some (.bool (tmS cv pre).2.1) ∧ W.frozen? ⟨w.heap.size + 1 + 1, 0, none⟩ = false) ∧ (W.cell? ⟨w.heap.size + 1 + 1 + 1, 0, none⟩ = some (.int .i64 (tmS cv pre).2.2) ∧ W.frozen? ⟨w.heap.size + 1 + 1 + 1, 0, none⟩ = false)) ∧ Below w.heap.size w W)
    (fun c pre W => (c = .ret ∧ (tmS cv pre).1 = false ∧ W.cell? ⟨w.heap.size + 1, 0, none⟩ = some (.bool false)) ∧ Below w.heap.size w W)
    (OwnFrom.and (Own.from (fun s A B row hs hg hr => ⟨hs.1, ⟨cell_kept hs.2.1.1 hg hr, cell_kept hs.2.1.2 hg hr⟩, ⟨cell_kept hs.2.2.1.1 hg hr, (frozen_kept hs.2.2.1.1 hg hr).trans hs.2.2.1.2⟩, ⟨cell_kept hs.2.2.2.1.1 hg hr, (frozen_kept hs.2.2.2.1.1 hg hr).trans hs.2.2.2.1.2⟩, ⟨cell_kept hs.2.2.2.2.1 hg hr, (frozen_kept hs.2.2.2.2.1 hg hr).trans hs.2.2.2.2.2⟩⟩) _) (ownFrom_below (Nat.le_refl _) (by simp; omega)))
    (fun c => OwnFrom.and (Own.from (fun s A B row hs hg hr => ⟨hs.1, hs.2.1, cell_kept hs.2.2 hg hr⟩) _) (ownFrom_below (Nat.le_refl _) (by simp; omega)))
    ⟨⟨rfl, ⟨((((b2.alloc _).alloc _).alloc _).alloc _).cell, bs.cell⟩, ⟨(((b4.alloc _).alloc _).alloc _).cell, (((b4.alloc _).alloc _).alloc _).frozen⟩, ⟨((b5.alloc _).alloc _).cell, ((b5.alloc _).alloc _).frozen⟩, ⟨(b6.alloc _).cell, (b6.alloc _).frozen⟩⟩, hB0⟩
    (fun x => { tmps := #[.slice a n cap, .slice a2 m cap2, .pointer (some ⟨w.heap.size, 0, none⟩), undef, .pointer (some ⟨w.heap.size + 1, 0, none⟩), .pointer (some ⟨w.heap.size + 1 + 1, 0, none⟩), .pointer (some ⟨w.heap.size + 1 + 1 + 1, 0, none⟩), undef, .int .i64 (x.1.2 : Int), undef, .slice a2 m cap2, .func (.func 45) #[] #[.pointer (some ⟨w.heap.size + 1 + 1 + 1 + 1, 0, none⟩)], .int .i64 (x.1.1 : Int), .int .i64 (x.1.2 : Int), undef, undef, undef, undef, undef, undef, undef, undef, undef, undef, undef, undef, undef, undef, undef, undef, undef, undef, undef, undef, undef, undef, undef, undef, undef], defers := [] }) ?assign ?body ?done ?stop
  case assign =>
    intro l x W K hK
    gi_wp2
    exact hK
  case body =>
    rintro l pre x W ⟨⟨hok, ⟨g2, g7⟩, ⟨g4, f4⟩, ⟨g5, f5⟩, ⟨g6, f6⟩⟩, hBW⟩ _
    obtain ⟨⟨xi, k⟩, hkn⟩ := x
    simp only at hkn
    have hki : (k : Int) < (n : Int) := by omega
    obtain ⟨b, off, rfl, _⟩ := sl_cells (HC.out W hBW) (by omega)
    obtain ⟨c0, c1, c2, c3, c4, c5⟩ := call_cells (HC.out W hBW) hkn
    have HSN : Hid (tmS cv (pre ++ [(⟨(xi, k), hkn⟩ : At n)]) = ((tmS cv pre).1 && !badT (tmS cv pre).2.1 (tmS cv pre).2.2 (cv k), updT (tmS cv pre).2.1 (tmS cv pre).2.2 (cv k))) := Lib.hid (tmS_snoc cv pre (⟨(xi, k), hkn⟩ : At n))
    have HM := Lib.hid (must_any (cv k))
    have hmx : Tryd.prog.follows .mixedOrders = true := by kernel_rfl
    have HAL := Lib.hid ((Below.refl W.heap.size W).alloc (Nat.le_refl _) (.cells #[.int .i64 (cv k).kind, .string (cv k).name, .bool (cv k).told, .slice (cv k).na (cv k).nn (cv k).nc, .int .i64 (cv k).beg, .int .i64 (cv k).fin] 32))
    unfold CallV.agg at HM
    have hblt : b < W.heap.size := World.block_lt_of_cell? W _ c0
    have l2 : w.heap.size < W.heap.size := World.block_lt_of_cell? W _ g2
    have l4 : w.heap.size + 1 < W.heap.size := World.block_lt_of_cell? W _ g4
    have l5 : w.heap.size + 1 + 1 < W.heap.size := World.block_lt_of_cell? W _ g5
    have l6 : w.heap.size + 1 + 1 + 1 < W.heap.size := World.block_lt_of_cell? W _ g6
    have l7 : w.heap.size + 1 + 1 + 1 + 1 < W.heap.size := World.block_lt_of_cell? W _ g7
    rw [hok] at HSN
    obtain ⟨en, hen⟩ : ∃ en, (tmS cv pre).2.1 = en := ⟨_, rfl⟩
    obtain ⟨le, hle⟩ : ∃ le, (tmS cv pre).2.2 = le := ⟨_, rfl⟩
    rw [hen, hle] at HSN
    rw [hen] at g5
    rw [hle] at g6
    clear hen hle hok
    dsimp only
    cases en with
    | true =>
      by_cases hbd : le < (cv k).beg
      · have d1 : decide (le < (cv k).beg) = true := decide_eq_true hbd
        gi_wp2
        refine ⟨((KeepsOthers.setCell _ _ _).from _).trans (KeepsFrom.of_grownBy (grown_of_below' ((Below.refl _ _).alloc (Nat.le_refl _) _)) (fun j e => by cases e)), ⟨rfl, by rw [HSN.out]; simp [badT, d1], ?_⟩, (hBW.setCell (by simp; try omega) _).alloc (by simp; try omega) _⟩
        rw [World.cell?_alloc_old _ _ _ (by simp; omega)]
        exact World.cell?_setCell_same' _ _ _ (by rw [g4]; rfl)
      · have d1 : decide (le < (cv k).beg) = false := decide_eq_false hbd
        by_cases hf : 0 ≤ (cv k).fin
        · have d2 : decide (0 ≤ (cv k).fin) = true := decide_eq_true hf
          rw [d2] at HM
          by_cases hlf : (cv k).fin < le
          · have d3 : decide ((cv k).fin < le) = true := decide_eq_true hlf
            have HU : Hid (updT true le (cv k) = (true, (cv k).fin)) := Lib.hid (by unfold updT; rw [if_pos ⟨hf, .inr hlf⟩])
            clear hf hlf hbd
            gi_wp2_with (refine ⟨trivial, ?_⟩; gi_at_call 14; refine (CallsIn.inRound l (callsIn_wide.2 (HM.out _))).mono ?_; rintro e w3 ⟨rfl, hb3⟩; have hx : Below W.heap.size W w3 := HAL.out.trans (hb3.mono (by simp)); have k5 := (hx.cell (p := ⟨w.heap.size + 1 + 1, 0, none⟩) l5).trans g5; have q5 := (hx.frozen (p := ⟨w.heap.size + 1 + 1, 0, none⟩) l5).trans f5; have k6 := (hx.cell (p := ⟨w.heap.size + 1 + 1 + 1, 0, none⟩) l6).trans g6; have q6 := (hx.frozen (p := ⟨w.heap.size + 1 + 1 + 1, 0, none⟩) l6).trans f6; have kc : w3.cell? ⟨W.heap.size, 5, none⟩ = some (.int .i64 (cv k).fin) := (hb3.cell (p := ⟨W.heap.size, 5, none⟩) (by simp)).trans (by rw [World.cell?_alloc_at _ _ _ _ rfl]; rfl); have HX := Lib.hid hx; clear hx hb3)
            gi_region_with_o (fail)
            all_goals try gi_wp2
            all_goals
              refine ⟨(KeepsFrom.of_grownBy (grown_of_below' HX.out) (fun j e => by cases e)).trans (((KeepsOthers.setCell _ _ _).from _).trans (((KeepsOthers.setCell _ _ _).from _).trans ((KeepsOthers.drew _).from _))), ⟨(((HX.out.mono (Nat.le_of_lt l2)).setCell (by simp; try omega) _).setCell (by simp; try omega) _).drew, ?_⟩, ⟨by rw [HSN.out]; simp [badT, d1], ⟨?_, ?_⟩, ⟨?_, ?_⟩, ⟨?_, ?_⟩, ⟨?_, ?_⟩⟩, (((hBW.trans (HX.out.mono (Nat.le_of_lt l2))).setCell (by simp; try omega) _).setCell (by simp; try omega) _).drew⟩
              · show World.cell? (World.setCell (World.setCell w3 _ _) _ _) _ = _; rw [World.cell?_setCell_other _ _ _ _ (by simp <;> omega), World.cell?_setCell_other _ _ _ _ (by simp <;> omega)]; exact HX.out.cell (p := ⟨w.heap.size + 1 + 1 + 1 + 1, 0, none⟩) l7
              · show World.cell? (World.setCell (World.setCell w3 _ _) _ _) _ = _; rw [World.cell?_setCell_other _ _ _ _ (by simp <;> omega), World.cell?_setCell_other _ _ _ _ (by simp <;> omega)]; exact (HX.out.cell (p := ⟨w.heap.size, 0, none⟩) l2).trans g2
              · show World.cell? (World.setCell (World.setCell w3 _ _) _ _) _ = _; rw [World.cell?_setCell_other _ _ _ _ (by simp <;> omega), World.cell?_setCell_other _ _ _ _ (by simp <;> omega)]; exact (HX.out.cell (p := ⟨w.heap.size + 1 + 1 + 1 + 1, 0, none⟩) l7).trans g7
              · show World.cell? (World.setCell (World.setCell w3 _ _) _ _) _ = _; rw [World.cell?_setCell_other _ _ _ _ (by simp <;> omega), World.cell?_setCell_other _ _ _ _ (by simp <;> omega)]; exact (HX.out.cell (p := ⟨w.heap.size + 1, 0, none⟩) l4).trans g4
              · show World.frozen? (World.setCell (World.setCell w3 _ _) _ _) _ = _; rw [World.frozen?_setCell, World.frozen?_setCell]; exact (HX.out.frozen (p := ⟨w.heap.size + 1, 0, none⟩) l4).trans f4
              · rw [HSN.out, HU.out]; show World.cell? (World.setCell (World.setCell w3 _ _) _ _) _ = _; first | (rw [World.cell?_setCell_other _ _ _ _ (by simp <;> omega)]; exact World.cell?_setCell_same' _ _ _ (by rw [k5]; rfl)) | exact World.cell?_setCell_same' _ _ _ (by rw [World.cell?_setCell_other _ _ _ _ (by simp <;> omega), k5]; rfl)
              · show World.frozen? (World.setCell (World.setCell w3 _ _) _ _) _ = _; rw [World.frozen?_setCell, World.frozen?_setCell]; exact q5
              · rw [HSN.out, HU.out]; show World.cell? (World.setCell (World.setCell w3 _ _) _ _) _ = _; first | exact World.cell?_setCell_same' _ _ _ (by rw [World.cell?_setCell_other _ _ _ _ (by simp <;> omega), k6]; rfl) | (rw [World.cell?_setCell_other _ _ _ _ (by simp <;> omega)]; exact World.cell?_setCell_same' _ _ _ (by rw [k6]; rfl))
              · show World.frozen? (World.setCell (World.setCell w3 _ _) _ _) _ = _; rw [World.frozen?_setCell, World.frozen?_setCell]; exact q6
          · have d3 : decide ((cv k).fin < le) = false := decide_eq_false hlf
            have HU : Hid (updT true le (cv k) = (true, le)) := Lib.hid (by unfold updT; rw [if_neg (by rintro ⟨_, h | h⟩ <;> first | cases h | omega)])
            clear hf hlf hbd
            gi_wp2_with (refine ⟨trivial, ?_⟩; gi_at_call 14; refine (CallsIn.inRound l (callsIn_wide.2 (HM.out _))).mono ?_; rintro e w3 ⟨rfl, hb3⟩; have hx : Below W.heap.size W w3 := HAL.out.trans (hb3.mono (by simp)); have k5 := (hx.cell (p := ⟨w.heap.size + 1 + 1, 0, none⟩) l5).trans g5; have q5 := (hx.frozen (p := ⟨w.heap.size + 1 + 1, 0, none⟩) l5).trans f5; have k6 := (hx.cell (p := ⟨w.heap.size + 1 + 1 + 1, 0, none⟩) l6).trans g6; have q6 := (hx.frozen (p := ⟨w.heap.size + 1 + 1 + 1, 0, none⟩) l6).trans f6; have kc : w3.cell? ⟨W.heap.size, 5, none⟩ = some (.int .i64 (cv k).fin) := (hb3.cell (p := ⟨W.heap.size, 5, none⟩) (by simp)).trans (by rw [World.cell?_alloc_at _ _ _ _ rfl]; rfl); have HX := Lib.hid hx; clear hx hb3)
            exact ⟨KeepsFrom.of_grownBy (grown_of_below' HX.out) (fun j e => by cases e), ⟨HX.out.mono (Nat.le_of_lt l2), HX.out.cell (p := ⟨w.heap.size + 1 + 1 + 1 + 1, 0, none⟩) l7⟩, ⟨by rw [HSN.out]; simp [badT, d1], ⟨(HX.out.cell (p := ⟨w.heap.size, 0, none⟩) l2).trans g2, (HX.out.cell (p := ⟨w.heap.size + 1 + 1 + 1 + 1, 0, none⟩) l7).trans g7⟩, ⟨(HX.out.cell (p := ⟨w.heap.size + 1, 0, none⟩) l4).trans g4, (HX.out.frozen (p := ⟨w.heap.size + 1, 0, none⟩) l4).trans f4⟩, ⟨by rw [HSN.out, HU.out]; exact k5, q5⟩, ⟨by rw [HSN.out, HU.out]; exact k6, q6⟩⟩, hBW.trans (HX.out.mono (Nat.le_of_lt l2))⟩
        · have d2 : decide (0 ≤ (cv k).fin) = false := decide_eq_false hf
          rw [d2] at HM
          have HU : Hid (updT true le (cv k) = (true, le)) := Lib.hid (by unfold updT; rw [if_neg (by rintro ⟨h, _⟩; omega)])
          clear hf hbd
          gi_wp2_with (refine ⟨trivial, ?_⟩; gi_at_call 14; refine (CallsIn.inRound l (callsIn_wide.2 (HM.out _))).mono ?_; rintro e w3 ⟨rfl, hb3⟩; have hx : Below W.heap.size W w3 := HAL.out.trans (hb3.mono (by simp)); have k5 := (hx.cell (p := ⟨w.heap.size + 1 + 1, 0, none⟩) l5).trans g5; have q5 := (hx.frozen (p := ⟨w.heap.size + 1 + 1, 0, none⟩) l5).trans f5; have k6 := (hx.cell (p := ⟨w.heap.size + 1 + 1 + 1, 0, none⟩) l6).trans g6; have q6 := (hx.frozen (p := ⟨w.heap.size + 1 + 1 + 1, 0, none⟩) l6).trans f6; have kc : w3.cell? ⟨W.heap.size, 5, none⟩ = some (.int .i64 (cv k).fin) := (hb3.cell (p := ⟨W.heap.size, 5, none⟩) (by simp)).trans (by rw [World.cell?_alloc_at _ _ _ _ rfl]; rfl); have HX := Lib.hid hx; clear hx hb3)
          exact ⟨KeepsFrom.of_grownBy (grown_of_below' HX.out) (fun j e => by cases e), ⟨HX.out.mono (Nat.le_of_lt l2), HX.out.cell (p := ⟨w.heap.size + 1 + 1 + 1 + 1, 0, none⟩) l7⟩, ⟨by rw [HSN.out]; simp [badT, d1], ⟨(HX.out.cell (p := ⟨w.heap.size, 0, none⟩) l2).trans g2, (HX.out.cell (p := ⟨w.heap.size + 1 + 1 + 1 + 1, 0, none⟩) l7).trans g7⟩, ⟨(HX.out.cell (p := ⟨w.heap.size + 1, 0, none⟩) l4).trans g4, (HX.out.frozen (p := ⟨w.heap.size + 1, 0, none⟩) l4).trans f4⟩, ⟨by rw [HSN.out, HU.out]; exact k5, q5⟩, ⟨by rw [HSN.out, HU.out]; exact k6, q6⟩⟩, hBW.trans (HX.out.mono (Nat.le_of_lt l2))⟩
    | false =>
      have d1 : True := trivial
      by_cases hf : 0 ≤ (cv k).fin
      · have d2 : decide (0 ≤ (cv k).fin) = true := decide_eq_true hf
        rw [d2] at HM
        have HU : Hid (updT false le (cv k) = (true, (cv k).fin)) := Lib.hid (by unfold updT; rw [if_pos ⟨hf, .inl rfl⟩])
        clear hf
        gi_wp2_with (refine ⟨trivial, ?_⟩; gi_at_call 14; refine (CallsIn.inRound l (callsIn_wide.2 (HM.out _))).mono ?_; rintro e w3 ⟨rfl, hb3⟩; have hx : Below W.heap.size W w3 := HAL.out.trans (hb3.mono (by simp)); have k5 := (hx.cell (p := ⟨w.heap.size + 1 + 1, 0, none⟩) l5).trans g5; have q5 := (hx.frozen (p := ⟨w.heap.size + 1 + 1, 0, none⟩) l5).trans f5; have k6 := (hx.cell (p := ⟨w.heap.size + 1 + 1 + 1, 0, none⟩) l6).trans g6; have q6 := (hx.frozen (p := ⟨w.heap.size + 1 + 1 + 1, 0, none⟩) l6).trans f6; have kc : w3.cell? ⟨W.heap.size, 5, none⟩ = some (.int .i64 (cv k).fin) := (hb3.cell (p := ⟨W.heap.size, 5, none⟩) (by simp)).trans (by rw [World.cell?_alloc_at _ _ _ _ rfl]; rfl); have HX := Lib.hid hx; clear hx hb3)
        gi_region_with_o (fail)
        all_goals try gi_wp2
        all_goals
          refine ⟨(KeepsFrom.of_grownBy (grown_of_below' HX.out) (fun j e => by cases e)).trans (((KeepsOthers.setCell _ _ _).from _).trans (((KeepsOthers.setCell _ _ _).from _).trans ((KeepsOthers.drew _).from _))), ⟨(((HX.out.mono (Nat.le_of_lt l2)).setCell (by simp; try omega) _).setCell (by simp; try omega) _).drew, ?_⟩, ⟨by rw [HSN.out]; simp [badT, d1], ⟨?_, ?_⟩, ⟨?_, ?_⟩, ⟨?_, ?_⟩, ⟨?_, ?_⟩⟩, (((hBW.trans (HX.out.mono (Nat.le_of_lt l2))).setCell (by simp; try omega) _).setCell (by simp; try omega) _).drew⟩
          · show World.cell? (World.setCell (World.setCell w3 _ _) _ _) _ = _; rw [World.cell?_setCell_other _ _ _ _ (by simp <;> omega), World.cell?_setCell_other _ _ _ _ (by simp <;> omega)]; exact HX.out.cell (p := ⟨w.heap.size + 1 + 1 + 1 + 1, 0, none⟩) l7
          · show World.cell? (World.setCell (World.setCell w3 _ _) _ _) _ = _; rw [World.cell?_setCell_other _ _ _ _ (by simp <;> omega), World.cell?_setCell_other _ _ _ _ (by simp <;> omega)]; exact (HX.out.cell (p := ⟨w.heap.size, 0, none⟩) l2).trans g2
          · show World.cell? (World.setCell (World.setCell w3 _ _) _ _) _ = _; rw [World.cell?_setCell_other _ _ _ _ (by simp <;> omega), World.cell?_setCell_other _ _ _ _ (by simp <;> omega)]; exact (HX.out.cell (p := ⟨w.heap.size + 1 + 1 + 1 + 1, 0, none⟩) l7).trans g7
          · show World.cell? (World.setCell (World.setCell w3 _ _) _ _) _ = _; rw [World.cell?_setCell_other _ _ _ _ (by simp <;> omega), World.cell?_setCell_other _ _ _ _ (by simp <;> omega)]; exact (HX.out.cell (p := ⟨w.heap.size + 1, 0, none⟩) l4).trans g4
          · show World.frozen? (World.setCell (World.setCell w3 _ _) _ _) _ = _; rw [World.frozen?_setCell, World.frozen?_setCell]; exact (HX.out.frozen (p := ⟨w.heap.size + 1, 0, none⟩) l4).trans f4
          · rw [HSN.out, HU.out]; show World.cell? (World.setCell (World.setCell w3 _ _) _ _) _ = _; first | (rw [World.cell?_setCell_other _ _ _ _ (by simp <;> omega)]; exact World.cell?_setCell_same' _ _ _ (by rw [k5]; rfl)) | exact World.cell?_setCell_same' _ _ _ (by rw [World.cell?_setCell_other _ _ _ _ (by simp <;> omega), k5]; rfl)
          · show World.frozen? (World.setCell (World.setCell w3 _ _) _ _) _ = _; rw [World.frozen?_setCell, World.frozen?_setCell]; exact q5
          · rw [HSN.out, HU.out]; show World.cell? (World.setCell (World.setCell w3 _ _) _ _) _ = _; first | exact World.cell?_setCell_same' _ _ _ (by rw [World.cell?_setCell_other _ _ _ _ (by simp <;> omega), k6]; rfl) | (rw [World.cell?_setCell_other _ _ _ _ (by simp <;> omega)]; exact World.cell?_setCell_same' _ _ _ (by rw [k6]; rfl))
          · show World.frozen? (World.setCell (World.setCell w3 _ _) _ _) _ = _; rw [World.frozen?_setCell, World.frozen?_setCell]; exact q6
      · have d2 : decide (0 ≤ (cv k).fin) = false := decide_eq_false hf
        rw [d2] at HM
        have HU : Hid (updT false le (cv k) = (false, le)) := Lib.hid (by unfold updT; rw [if_neg (by rintro ⟨h, _⟩; omega)])
        clear hf
        gi_wp2_with (refine ⟨trivial, ?_⟩; gi_at_call 14; refine (CallsIn.inRound l (callsIn_wide.2 (HM.out _))).mono ?_; rintro e w3 ⟨rfl, hb3⟩; have hx : Below W.heap.size W w3 := HAL.out.trans (hb3.mono (by simp)); have k5 := (hx.cell (p := ⟨w.heap.size + 1 + 1, 0, none⟩) l5).trans g5; have q5 := (hx.frozen (p := ⟨w.heap.size + 1 + 1, 0, none⟩) l5).trans f5; have k6 := (hx.cell (p := ⟨w.heap.size + 1 + 1 + 1, 0, none⟩) l6).trans g6; have q6 := (hx.frozen (p := ⟨w.heap.size + 1 + 1 + 1, 0, none⟩) l6).trans f6; have kc : w3.cell? ⟨W.heap.size, 5, none⟩ = some (.int .i64 (cv k).fin) := (hb3.cell (p := ⟨W.heap.size, 5, none⟩) (by simp)).trans (by rw [World.cell?_alloc_at _ _ _ _ rfl]; rfl); have HX := Lib.hid hx; clear hx hb3)
        exact ⟨KeepsFrom.of_grownBy (grown_of_below' HX.out) (fun j e => by cases e), ⟨HX.out.mono (Nat.le_of_lt l2), HX.out.cell (p := ⟨w.heap.size + 1 + 1 + 1 + 1, 0, none⟩) l7⟩, ⟨by rw [HSN.out]; simp [badT, d1], ⟨(HX.out.cell (p := ⟨w.heap.size, 0, none⟩) l2).trans g2, (HX.out.cell (p := ⟨w.heap.size + 1 + 1 + 1 + 1, 0, none⟩) l7).trans g7⟩, ⟨(HX.out.cell (p := ⟨w.heap.size + 1, 0, none⟩) l4).trans g4, (HX.out.frozen (p := ⟨w.heap.size + 1, 0, none⟩) l4).trans f4⟩, ⟨by rw [HSN.out, HU.out]; exact k5, q5⟩, ⟨by rw [HSN.out, HU.out]; exact k6, q6⟩⟩, hBW.trans (HX.out.mono (Nat.le_of_lt l2))⟩
  case done =>
    rintro D ys W hD rfl ⟨⟨hok, _, ⟨g4, f4⟩, _, _⟩, hBW⟩ hK
    gi_wp2
    have hK' := (KeepsOthers.setCell W ⟨w.heap.size + 1, 0, none⟩ (.bool true)).same D _ hK rfl
    refine ⟨by simp, .inl ⟨_, _, rfl, run_takeDeferred hK', ?_⟩⟩
    have hc5 := cell_kept (World.cell?_setCell_same' W ⟨w.heap.size + 1, 0, none⟩ (.bool true) (by rw [g4]; rfl)) (grownBy_putObj' _ D (.deferred none)) (fun r e => by cases e; exact ⟨_, hK', rfl⟩)
    refine ⟨.bool true, ?_, by rw [hok], (hBW.setCell (p := ⟨w.heap.size + 1, 0, none⟩) (by simp) _).trans (belowK_b (w := w) (Nat.le_refl _) _ D _ _ (by simp at hD; omega) hK' rfl rfl)⟩
    simp [results, Tryd.f22, go_sem, hc5]
  case stop =>
    rintro D c pre W hD ⟨k, hk, rfl⟩ ⟨⟨rfl, hbad, g4⟩, hBW⟩ hK
    gi_wp2
    refine ⟨by simp, .inl ⟨_, _, rfl, run_takeDeferred hK, ?_⟩⟩
    have hc5 := cell_kept g4 (grownBy_putObj' _ D (.deferred none)) (fun r e => by cases e; exact ⟨_, hK, rfl⟩)
    refine ⟨.bool false, ?_, by rw [tmS_take cv L k hbad], hBW.trans (belowK_b (w := w) (Nat.le_refl _) W D _ _ (by simp at hD; omega) hK rfl rfl)⟩
    simp [results, Tryd.f22, go_sem, hc5]
end Go.Proofs.YtmcbgjkogggneaaDoor
