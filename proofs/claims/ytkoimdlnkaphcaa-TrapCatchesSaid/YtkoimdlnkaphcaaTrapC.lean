/- Contract of punnetlaw01.run. -/
import Derived.Test.YtkoimdlnkaphcaaTrapB
import Derived.Test.YtkoimdlnkaphcaaTrapT
namespace Go.Proofs.Ytkoimdlnkaphcaa
open Go.RowKit Plain
theorem cf_run1 (cap : Array Value) (w : World) : (callFunc 31 cap).run Try.prog w = .ok (.enter 31 cap) w := by kernel_rfl
def RunEnd (r : Int × Int) : Ending := if r.2 = 0 then .returned (.tuple #[]) else .panicked (fault r.2)
def RunPost (w : World) (nb : Nat) (x : Int) (r : Int × Int) (e : Ending) (w' : World) : Prop :=
  e = RunEnd r ∧ w'.cell? ⟨nb, 0, none⟩ = some (.int .i64 (x + r.1)) ∧ w'.frozen? ⟨nb, 0, none⟩ = false ∧ w.grownBy w' (some nb)
theorem run1_of (p6 p3 : Addr) (a : Option Addr) (len cap : Nat) (n : Addr) (W : World) (R : Ending → World → Prop) (h6 : W.cell? p6 = some (.slice a len cap)) (h3 : W.cell? p3 = some (.pointer (some n)))
    (h : Calls Try.prog 12 #[.slice a len cap, .pointer (some n)] W R) (hR : ∀ e w, R e w → e = .returned (.tuple #[]) ∨ ∃ c, e = .panicked (fault c)) :
    Calls Try.prog 31 #[.pointer (some p6), .pointer (some p3)] W R := by
  have H := Lib.hid h
  have HR := Lib.hid hR
  clear h hR
  go_enter Try.func31, Try.ntmps31
  go_wp2_with fail
  refine H.out.mono fun e w1 hr => ?_
  rcases HR.out e w1 hr with rfl | ⟨c, rfl⟩
  · simp only
    go_wp2
    go_end0
    exact hr
  · simp only
    go_wp2
    exact ⟨rfl, hr⟩
theorem runEnd_cases (r : Int × Int) : (r.2 = 0 ∧ RunEnd r = .returned (.tuple #[])) ∨ (¬ r.2 = 0 ∧ RunEnd r = .panicked (fault r.2)) := by
  unfold RunEnd
  by_cases h : r.2 = 0
  · exact .inl ⟨h, if_pos h⟩
  · exact .inr ⟨h, if_neg h⟩
def CatchPost (w : World) (nb : Nat) (y : Int) (r : Int × Int) (e : Ending) (w' : World) : Prop :=
  e = .returned (.int .i64 r.2) ∧ w'.cell? ⟨nb, 0, none⟩ = some (.int .i64 (y + r.1)) ∧ w'.frozen? ⟨nb, 0, none⟩ = false ∧ w.grownBy w' (some nb)
theorem catch_runs (g : FuncId) (cap : Array Value) (w : World) (nb : Nat) (y : Int) (r : Int × Int) (hcf : ∀ W : World, (callFunc g cap).run Try.prog W = .ok (.enter g cap) W) (hnb : nb < w.heap.size)
    (h : Calls Try.prog g cap (w.alloc (.cells #[.int .i64 0] 27)) (RunPost (w.alloc (.cells #[.int .i64 0] 27)) nb y r)) :
    Calls Try.prog 10 #[.func (.func g) #[] cap] w (CatchPost w nb y r) := by
  refine (catch_any g cap w _ hcf h ?_).mono ?_
  · rintro e w1 ⟨rfl, h1, h2, h3⟩
    have hne : some w.heap.size ≠ some nb := by simp; omega
    refine ⟨?_, ?_, ?_, ?_⟩
    · rw [gr_cell h3 (p := ⟨w.heap.size, 0, none⟩) (by simp) hne]; simp
    · rw [gr_frozen h3 (p := ⟨w.heap.size, 0, none⟩) (by simp) hne]; simp
    · have := h3.size; simp at this; omega
    · rcases runEnd_cases r with ⟨_, hr⟩ | ⟨_, hr⟩
      · exact .inl hr
      · exact .inr ⟨_, hr⟩
  · rintro e w' ⟨e1, w1, ⟨rfl, h1, h2, h3⟩, hg, he⟩
    have hs := h3.size
    simp at hs
    have hne : some nb ≠ some w.heap.size := by simp; omega
    refine ⟨?_, ?_, ?_, ?_⟩
    · rcases runEnd_cases r with ⟨hz, hr⟩ | ⟨hz, hr⟩
      · rw [hr] at he
        rcases he with ⟨_, rfl⟩ | ⟨c, hc, _⟩
        · rw [hz]
        · cases hc
      · rw [hr] at he
        rcases he with ⟨hc, _⟩ | ⟨c, hc, rfl⟩
        · cases hc
        · have := fault_inj (Ending.panicked.inj hc)
          rw [this]
    · rw [gr_cell hg (p := ⟨nb, 0, none⟩) (by show nb < _; omega) hne]; exact h1
    · rw [gr_frozen hg (p := ⟨nb, 0, none⟩) (by show nb < _; omega) hne]; exact h2
    · refine gr_trans (gr_trans (only_alloc (only_refl w (some nb)) (.cells #[.int .i64 0] 27)) h3 (fun i hi => .inl hi)) hg (fun i hi => .inr ?_)
      injection hi with hi
      omega
theorem run_le (N : Nat) : ∀ l : List St, l.length ≤ N → 0 ≤ (run l).1 ∧ (run l).1 ≤ 1000 * l.length := by
  induction N with
  | zero =>
    intro l hl
    have : l = [] := List.length_eq_zero_iff.1 (by omega)
    subst this; simp [run]
  | succ N ih =>
    intro l hl
    cases l with
    | nil => simp [run]
    | cons x xs =>
      simp only [List.length_cons] at hl ⊢
      have i1 := ih xs (by omega)
      have i2 := ih (xs.take (endAt xs 0)) (by simp; omega)
      have i3 := ih (xs.drop (endAt xs 0 + 1)) (by simp; omega)
      simp only [List.length_take, List.length_drop] at i2 i3
      rw [run]
      split
      · simp only; omega
      · split
        · simp only; omega
        · split
          · simp only
            split <;> omega
          · omega
theorem run_step {l : List St} {j : Nat} (h : j < l.length) : run (l.drop j) =
    if (l.getD j (0, 0)).1 = 0 then ((run (l.drop (j + 1))).1 + 1, (run (l.drop (j + 1))).2)
    else if (l.getD j (0, 0)).1 = 1 then (0, (l.getD j (0, 0)).2)
    else if (l.getD j (0, 0)).1 = 3 then
      ((run ((l.drop (j + 1)).take (endAt (l.drop (j + 1)) 0))).1 + (if (run ((l.drop (j + 1)).take (endAt (l.drop (j + 1)) 0))).2 = 0 then 0 else 1000) + (run (l.drop (j + 1 + (endAt (l.drop (j + 1)) 0 + 1)))).1, (run (l.drop (j + 1 + (endAt (l.drop (j + 1)) 0 + 1)))).2)
    else run (l.drop (j + 1)) := by
  conv => lhs; rw [drop_cons h, run]
  rw [List.drop_drop]
def RunRel (w : World) (l : List St) (x : Int) (nb : Nat) (iv : Value) (wr : World) : Prop :=
  ∃ (j : Nat) (y : Int), j ≤ l.length + 1 ∧ iv = .int .i64 j ∧ 0 ≤ y ∧ y + 1000 * (l.length - j : Nat) ≤ 4000000000 ∧ wr.cell? ⟨nb, 0, none⟩ = some (.int .i64 y) ∧ wr.frozen? ⟨nb, 0, none⟩ = false ∧
    wr.cell? ⟨w.heap.size, 0, none⟩ = some (.pointer (some ⟨nb, 0, none⟩)) ∧ (w.alloc (.cells #[.pointer (some ⟨nb, 0, none⟩)] 30)).grownBy wr (some nb) ∧ Hid (run l = (y - x + (run (l.drop j)).1, (run (l.drop j)).2))
theorem catch_within (wr : World) (b off cap nb nh E : Nat) (y : Int) (l : List St) (hE : l.length = E) (hs : StepsAt wr b off l) (hb : b < wr.heap.size) (hnb : nb < wr.heap.size) (hnh : nh < wr.heap.size)
    (hcn : wr.cell? ⟨nb, 0, none⟩ = some (.int .i64 y)) (hfn : wr.frozen? ⟨nb, 0, none⟩ = false) (hcb : wr.cell? ⟨nh, 0, none⟩ = some (.pointer (some ⟨nb, 0, none⟩)))
    (ih : ∀ W : World, nb < W.heap.size → b < W.heap.size → StepsAt W b off l → W.cell? ⟨nb, 0, none⟩ = some (.int .i64 y) → W.frozen? ⟨nb, 0, none⟩ = false →
      Calls Try.prog 12 #[.slice (some ⟨b, off, none⟩) l.length cap, .pointer (some ⟨nb, 0, none⟩)] W (RunPost W nb y (run l))) :
    Calls Try.prog 10 #[.func (.func 31) #[] #[.pointer (some ⟨wr.heap.size, 0, none⟩), .pointer (some ⟨nh, 0, none⟩)]] (wr.alloc (.cells #[.slice (some ⟨b, off, none⟩) E cap] 22))
      (CatchPost (wr.alloc (.cells #[.slice (some ⟨b, off, none⟩) E cap] 22)) nb y (run l)) := by
  subst hE
  generalize hW : wr.alloc (.cells #[.slice (some ⟨b, off, none⟩) l.length cap] 22) = W
  have hbel : Below wr.heap.size wr (W.alloc (.cells #[.int .i64 0] 27)) := by
    subst hW; exact ((Below.refl _ _).alloc (Nat.le_refl _) _).alloc (by simp) _
  have hsz : W.heap.size = wr.heap.size + 1 := by subst hW; simp
  have h6 : (W.alloc (.cells #[.int .i64 0] 27)).cell? ⟨wr.heap.size, 0, none⟩ = some (.slice (some ⟨b, off, none⟩) l.length cap) := by
    refine cell_alloc_old ?_ (by show wr.heap.size < _; omega) _
    subst hW; simp
  refine catch_runs _ _ W nb y (run l) (fun W => cf_run1 _ W) (by omega) ?_
  refine run1_of _ _ _ _ _ ⟨nb, 0, none⟩ _ _ h6 ((hbel.cell (p := ⟨nh, 0, none⟩) hnh).trans hcb) ?_ ?_
  · have hsz2 := hbel.size
    refine ih _ (by omega) (by omega) (fun i hi => ?_) ((hbel.cell (p := ⟨nb, 0, none⟩) hnb).trans hcn) ((hbel.frozen (p := ⟨nb, 0, none⟩) hnb).trans hfn)
    rw [hbel.cell (p := ⟨b, _, none⟩) hb, hbel.cell (p := ⟨b, _, none⟩) hb]
    exact hs i hi
  · rintro e w1 ⟨rfl, _, _, _⟩
    rcases runEnd_cases (run l) with ⟨_, hr⟩ | ⟨_, hr⟩
    · exact .inl hr
    · exact .inr ⟨_, hr⟩
theorem slice_lh {t e size : Nat} (ht : Try.prog.underlying t = some (.slice e)) (he : ∀ W : World, (sizeOf e).run Try.prog W = .ok size W) (a : Option Addr) (len cap : Nat) (l h : Int) (h0 : 0 ≤ l) (h1 : l ≤ h) (h2 : h ≤ cap) (W : World) :
    (Instr.slice t (.slice a len cap) (some (.int .i64 l)) (some (.int .i64 h)) none).run Try.prog W = .ok (.slice (if cap = l.toNat then a else a.map (·.add (l.toNat * size))) (h.toNat - l.toNat) (cap - l.toNat)) W := by
  have eh : (h.toNat : Int) = h := Int.toNat_of_nonneg (by omega)
  simp [Instr.slice, run_underlying ht, Instr.sliceBounds, run_sliceBound, h0, h1, h2, eh, he, (by omega : 0 ≤ h), Result.andThen]
theorem slice_steps (b off cap j E len : Nat) (h : j + 1 + E ≤ cap) : ∃ off' cap', (∀ W : World, (Instr.slice 22 (.slice (some ⟨b, off, none⟩) len cap) (some (.int .i64 ((j : Int) + 1))) (some (.int .i64 ((j : Int) + 1 + (E : Int)))) none).run Try.prog W =
    .ok (.slice (some ⟨b, off', none⟩) E cap') W) ∧ E ≤ cap' ∧ (E = 0 ∨ off' = off + (j + 1) * 2) := by
  have hs := fun W => slice_lh (t := 22) (e := 38) (size := 2) rfl (fun W => rfl) (some ⟨b, off, none⟩) len cap ((j : Int) + 1) ((j : Int) + 1 + (E : Int)) (by omega) (by omega) (by omega) W
  rw [show ((j : Int) + 1).toNat = j + 1 from by omega, show ((j : Int) + 1 + (E : Int)).toNat - (j + 1) = E from by omega] at hs
  by_cases hc : cap = j + 1
  · refine ⟨off, cap - (j + 1), fun W => ?_, by omega, by omega⟩
    rw [hs, if_pos hc]
  · refine ⟨off + (j + 1) * 2, cap - (j + 1), fun W => ?_, by omega, .inr rfl⟩
    rw [hs, if_neg hc]
    simp [Addr.add]
theorem stepsAt_sub {w : World} {b off : Nat} {l : List St} (h : StepsAt w b off l) (k E : Nat) : StepsAt w b (off + k * 2) ((l.drop k).take E) := by
  intro i hi
  have hi' : i < E ∧ k + i < l.length := by simp at hi; omega
  have := h (k + i) (by omega)
  have e : ((l.drop k).take E).getD i (0, 0) = l.getD (k + i) (0, 0) := by simp [List.getElem?_drop, hi'.1]
  rw [e, show off + k * 2 + i * 2 = off + (k + i) * 2 from by omega]
  exact this
set_option maxHeartbeats 1000000 in
theorem run_any (N : Nat) : ∀ (l : List St) (b off cap nb : Nat) (x : Int) (w : World), l.length < N → good l → l.length ≤ cap → l.length ≤ 1000 → 0 ≤ x → x + 1000 * l.length ≤ 4000000000 → b ≠ nb → nb < w.heap.size → b < w.heap.size →
    StepsAt w b off l → w.cell? ⟨nb, 0, none⟩ = some (.int .i64 x) → w.frozen? ⟨nb, 0, none⟩ = false →
    Calls Try.prog 12 #[.slice (some ⟨b, off, none⟩) l.length cap, .pointer (some ⟨nb, 0, none⟩)] w (RunPost w nb x (run l)) := by
  induction N with
  | zero =>
    intro l b off cap nb x w hN
    omega
  | succ N ih =>
    intro l b off cap nb x w hN hg hcap hl hx0 hx1 hne hnb hb hs hcell hfz
    have IH := Lib.hid ih
    clear ih
    have HG := Lib.hid hg
    clear hg
    have HS := Lib.hid hs
    clear hs
    have HC := Lib.hid hcell
    have HF := Lib.hid hfz
    have hmf : ∀ (fn : Fn) (first cap : Array Value) (w : World), (Instr.makeFunc fn first cap).run Try.prog w = .ok (.func fn first cap) w := fun _ _ _ _ => rfl
    go_enter Try.func12, Try.ntmps12
    go_wp2
    clear hcell hfz
    go_loopw [4] (fun iv wr => RunRel w l x nb iv wr) (fun iv _ => l.length - (intOf iv).toNat)
    case atStart =>
      refine ⟨0, x, by omega, rfl, hx0, by simpa using hx1, cell_alloc_old HC.out hnb _, frozen_alloc_old HF.out hnb _, ?_, only_refl _ _, ?_⟩
      · simp
      · show _ = _; simp
    case round =>
      obtain ⟨j, y, hj, rfl, hy0, hy1, hcn, hfn, hcb, hgr, hrel⟩ := hrel
      by_cases hlt : j < l.length
      · obtain ⟨hc0, hc1⟩ := HS.out j hlt
        have hw0 : wr.heap[b]? = w.heap[b]? := by
          rw [hgr.block b (by simp; omega) (by simpa using hne), Below.heap_alloc _ _ _ hb]
        rw [← World.cell?_of_block (w := w) (w' := wr) (a := ⟨b, _, none⟩) hw0] at hc0
        rw [← World.cell?_of_block (w := w) (w' := wr) (a := ⟨b, _, none⟩) hw0] at hc1
        have HW0 := Lib.hid hw0
        clear hw0
        have HST := Lib.hid (run_step hlt)
        have hgd := HG.out (l.getD j (0, 0)) (by simp [hlt])
        generalize l.getD j (0, 0) = xx at *
        obtain ⟨kd, cd⟩ := xx
        have hgd' : ¬ cd = 0 := hgd
        have hnbr : nb < wr.heap.size := by have := hgr.size; simp at this; omega
        have hsz : w.heap.size < wr.heap.size := by have := hgr.size; simp at this; omega
        go_wp2_with fail
        · have h0 : kd = 0 := by simpa using ‹(kd == 0) = true›
          go_roundw
          case rel =>
            refine ⟨j + 1, y + 1, by omega, rfl, by omega, by omega, World.cell?_setCell_same _ _ _ hcn, by simpa using hfn, ?_, only_setCell hgr (.inl rfl) _, ?_⟩
            · rw [World.cell?_setCell_other _ _ _ _ (by simp only [ne_eq, Addr.mk.injEq]; omega)]; exact hcb
            · have h1 := HST.out; have h2 := hrel.out; show run l = _; rw [h2, h1, if_pos h0]; simp only [Prod.mk.injEq, and_true]; omega
          case measure => simp [intOf]; omega
        · have h0 : ¬ kd = 0 := by simpa using ‹(kd == 0) = false›
          have h1 : kd = 1 := by simpa using ‹(kd == 1) = true›
          have hfin : run l = (y - x, cd) := by
            have h3 := HST.out; have h2 := hrel.out; rw [h2, h3, if_neg h0, if_pos h1]; simp
          have HF2 := Lib.hid hfin
          clear hfin h0 h1
          refine (throw_any cd _).mono ?_
          rintro e w' ⟨rfl, rfl⟩
          go_wp2
          refine ⟨rfl, ?_⟩
          rw [HF2.out]
          refine ⟨?_, ?_, hfn, ?_⟩
          · simp [RunEnd, hgd']
          · rw [hcn]; simp only; rw [show x + (y - x) = y from by omega]
          · exact gr_trans (only_alloc (only_refl _ _) _) hgr (fun i hi => .inl hi)
        · have h0 : ¬ kd = 0 := by simpa using ‹(kd == 0) = false›
          have h1 : ¬ kd = 1 := by simpa using ‹(kd == 1) = false›
          have h3 : kd = 3 := by simpa using ‹(kd == 3) = true›
          have hst2 := HST.out
          rw [if_neg h0, if_neg h1, if_pos h3] at hst2
          have HST2 := Lib.hid hst2
          clear hst2 h0 h1 h3
          have hSr : StepsAt wr b off l := fun i hi => by
            rw [World.cell?_of_block (a := ⟨b, _, none⟩) HW0.out, World.cell?_of_block (a := ⟨b, _, none⟩) HW0.out]; exact HS.out i hi
          have HSr := Lib.hid hSr
          clear hSr
          refine (end_any b off cap l (j + 1) _ hl (by omega) HSr.out).mono ?_
          rintro e w' ⟨rfl, rfl⟩
          have hle := endAt_le (l.drop (j + 1)) 0
          rw [List.length_drop] at hle
          have hgw : good ((l.drop (j + 1)).take (endAt (l.drop (j + 1)) 0)) := good_take (good_drop HG.out _) _
          have hlw : ((l.drop (j + 1)).take (endAt (l.drop (j + 1)) 0)).length = endAt (l.drop (j + 1)) 0 := by rw [List.length_take, List.length_drop]; omega
          have hbr := run_le N ((l.drop (j + 1)).take (endAt (l.drop (j + 1)) 0)) (by omega)
          rw [hlw] at hbr
          have hcw := fun (cap' off' : Nat) (hle' : endAt (l.drop (j + 1)) 0 ≤ cap') (hs' : StepsAt wr b off' ((l.drop (j + 1)).take (endAt (l.drop (j + 1)) 0))) =>
            catch_within wr b off' cap' nb w.heap.size _ y _ hlw hs' (by omega) hnbr hsz hcn hfn hcb
              (fun W h1 h2 h3 h4 h5 => IH.out _ b off' cap' nb y W (by omega) hgw (by omega) (by omega) hy0 (by omega) hne h1 h2 h3 h4 h5)
          have hs1 := stepsAt_sub HSr.out (j + 1) (endAt (l.drop (j + 1)) 0)
          clear hlw hgw
          have HCW := Lib.hid hcw
          have HS1 := Lib.hid hs1
          have HRL := Lib.hid hrel
          clear hcw hs1 hrel HSr
          generalize hE : endAt (l.drop (j + 1)) 0 = E at *
          clear hE
          generalize run ((l.drop (j + 1)).take E) = r at *
          obtain ⟨r1, r2⟩ := r
          simp only at hbr
          have HCB := Lib.hid hcb
          clear hcn hfn hcb hc0 hc1
          obtain ⟨off', cap', hsl, hsc, hso⟩ := slice_steps b off cap j E l.length (by omega)
          have hsw : StepsAt wr b off' ((l.drop (j + 1)).take E) := by
            rcases hso with h | h
            · rw [h]; intro i hi; simp at hi
            · rw [h]; exact HS1.out
          have HSW := Lib.hid hsw
          clear hsw hso
          go_wp2_with fail
          refine (HCW.out cap' off' hsc HSW.out).mono ?_
          rintro e w2 ⟨rfl, hc2, hf2, hg2⟩
          simp only at hc2
          have hgr2 := gr_trans (only_alloc hgr _) hg2 (fun i hi => .inl hi)
          have hcb2 : w2.cell? ⟨w.heap.size, 0, none⟩ = some (.pointer (some ⟨nb, 0, none⟩)) := by
            rw [gr_cell hg2 (p := ⟨w.heap.size, 0, none⟩) (by simp; omega) (by simp; omega)]
            exact cell_alloc_old HCB.out hsz _
          by_cases hz : r2 = 0
          · have hzb : (r2 != 0) = false := by simp [hz]
            have HZ := Lib.hid hz
            clear hz
            go_wp2
            go_roundw
            case rel =>
              refine ⟨j + 1 + (E + 1), y + r1, by omega, by go_num, by omega, by omega, hc2, hf2, hcb2, hgr2, ?_⟩
              have h4 := HST2.out; have h2 := HRL.out; show run l = _; rw [h2, h4, if_pos HZ.out]; simp only [Prod.mk.injEq, and_true]; omega
            case measure => simp [intOf]; omega
          · have hzb : (r2 != 0) = true := by simp [hz]
            have HZ := Lib.hid hz
            clear hz
            go_wp2
            go_roundw
            case rel =>
              refine ⟨j + 1 + (E + 1), y + r1 + 1000, by omega, by go_num, by omega, by omega, World.cell?_setCell_same _ _ _ hc2, by simpa using hf2, ?_, only_setCell hgr2 (.inl rfl) _, ?_⟩
              · rw [World.cell?_setCell_other _ _ _ _ (by simp only [ne_eq, Addr.mk.injEq]; omega)]; exact hcb2
              · have h4 := HST2.out; have h2 := HRL.out; show run l = _; rw [h2, h4, if_neg HZ.out]; simp only [Prod.mk.injEq, and_true]; omega
            case measure => simp [intOf]; omega
        · have h0 : ¬ kd = 0 := by simpa using ‹(kd == 0) = false›
          have h1 : ¬ kd = 1 := by simpa using ‹(kd == 1) = false›
          have h3 : ¬ kd = 3 := by simpa using ‹(kd == 3) = false›
          go_roundw
          case rel =>
            refine ⟨j + 1, y, by omega, rfl, by omega, by omega, hcn, hfn, hcb, hgr, ?_⟩
            have h4 := HST.out; have h2 := hrel.out; show run l = _; rw [h2, h4, if_neg h0, if_neg h1, if_neg h3]
          case measure => simp [intOf]; omega
      · go_wp2
        go_end0
        have h2 := hrel.out
        rw [List.drop_eq_nil_of_le (show l.length ≤ j by omega)] at h2
        simp only [run] at h2
        rw [h2]
        refine ⟨rfl, ?_, hfn, ?_⟩
        · rw [hcn]; simp only; rw [show x + (y - x + 0) = y from by omega]
        · exact gr_trans (only_alloc (only_refl _ _) _) hgr (fun i hi => .inl hi)
end Go.Proofs.Ytkoimdlnkaphcaa
