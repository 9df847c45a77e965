/- The reference's may. -/
import Derived.Test.YtmcbgjkogggneaaDoorLsI
namespace Go.Proofs.YtmcbgjkogggneaaDoor
set_option maxRecDepth 100000
set_option linter.unusedVariables false
set_option linter.unusedSimpArgs false
open Go.RowKit
def toI (p : Nat → Nat) : Nat → Int := fun i => (p i : Int)
/-- What the reference asks of an order's last call. -/
def MayP (n m : Nat) (cv : Nat → CallV) (nm : Nat → List ByteArray) (p : Nat → Nat) : Prop :=
  (∀ q, q < m + 1 → canB (cv (p q)) = true) ∧ (st cv nm p (m + 1)).2 = true ∧ ∀ k, k < n → k ≠ p m → befB (cv k) (cv (p m)) = true → ∃ q, q < m + 1 ∧ p q = k
set_option maxHeartbeats 16000000 in
theorem may_any (n m : Nat) (cv : Nat → CallV) (nm : Nat → List ByteArray) (p : Nat → Nat) (v u : Value) (B : Nat) (w : World) (h : CallsAt w B n v cv nm) (hu : Sl w B 1 u (m + 1) (icellsI (m + 1) (toI p))) (hp : ∀ i, i < m + 1 → p i < n) (hB : B ≤ w.heap.size) (hn : n ≤ 20) (hm : m ≤ 29) :
    Calls Tryd.prog 29 #[v, u] w (IsB (MayP n m cv nm p) w) := by
  obtain ⟨m1, hm1⟩ : ∃ z, m + 1 = z := ⟨_, rfl⟩
  have q0 : IntKind.i64.wrap ((m1 : Int) - 1) = (m : Int) := by rw [IntWalk.i64_in _ (by omega)]; omega
  have hmi : (m : Int) < (m1 : Int) := by omega
  have HMP : Hid (MayP n m cv nm p ↔ ((∀ q, q < m1 → canB (cv (p q)) = true) ∧ (st cv nm p m1).2 = true ∧ ∀ k, k < n → k ≠ p m → befB (cv k) (cv (p m)) = true → ∃ q, q < m1 ∧ p q = k)) := Lib.hid (by unfold MayP; rw [hm1])
  rw [hm1] at hu hp
  have hmm : m < m1 := by omega
  have hm30 : m1 ≤ 30 := by omega
  clear hm1
  generalize MayP n m cv nm p = MP at *
  obtain ⟨a, cap, rfl, hcap⟩ := h.sl.form
  obtain ⟨a2, cap2, rfl, hcap2⟩ := hu.form
  have HC := Lib.hid (fun (W : World) (hW : Below w.heap.size w W) => h.below (hW.mono hB))
  have HU := Lib.hid (fun (W : World) (hW : Below w.heap.size w W) => hu.below (hW.mono hB))
  have HP := Lib.hid hp
  clear h hu hp
  go_enter Tryd.func29, Tryd.ntmps29
  go_wp2_with (fail)
  go_loopw [5, 6] (fun v i wr => ∃ j : Nat, i = .int .i64 j ∧ j ≤ m1 ∧ Hid (∀ q, q < j → canB (cv (p q)) = true) ∧ Hid ((st cv nm p j).2 = true) ∧ Hid (Sl wr wr.heap.size 1 v (st cv nm p j).1.length (scells (st cv nm p j).1)) ∧ Hid (Below w.heap.size w wr)) (fun _ i _ => m1 - (intOf i).toNat)
  case atStart => exact ⟨0, rfl, Nat.zero_le _, Lib.hid (fun i hi => absurd hi (Nat.not_lt_zero _)), Lib.hid rfl, Lib.hid Sl.nil, Lib.hid (Below.refl _ _)⟩
  case round =>
    obtain ⟨j, rfl, hj, HRA, HT, HSL, HBO⟩ := hrel
    obtain ⟨wo, rfl⟩ : ∃ z : World, z = wr := ⟨_, rfl⟩
    have hzo := HBO.out.size
    by_cases hlt : j < m1
    rotate_left
    · have d1 : decide (j < m1) = false := decide_eq_false hlt
      have d2 : decide ((j : Int) < (m1 : Int)) = false := decide_eq_false (by omega)
      obtain rfl : j = m1 := by omega
      obtain ⟨b1, o1, rfl, hk1⟩ := sl_cells (HU.out wo HBO.out) (by omega)
      have k1 : wo.cell? ⟨b1, o1 + m, none⟩ = some (.int .i64 (p m : Nat)) := hk1 m _ (icellsI_get (toI p) hmm)
      have hxn := HP.out m hmm
      obtain ⟨x, hx⟩ : ∃ x, p m = x := ⟨_, rfl⟩
      rw [hx] at k1 hxn HMP
      have hxi : (x : Int) < (n : Int) := by omega
      clear hlt HSL hk1
      go_wp2_with (fail)
      go_loopw [10] (fun i wr => ∃ k : Nat, i = .int .i64 k ∧ k ≤ n ∧ Hid (∀ q, q < k → q ≠ x → befB (cv q) (cv x) = true → ∃ r, r < j ∧ p r = q) ∧ Hid (Below w.heap.size w wr)) (fun i _ => n - (intOf i).toNat)
      case atStart => exact ⟨0, rfl, Nat.zero_le _, Lib.hid (fun q hq => absurd hq (Nat.not_lt_zero _)), HBO⟩
      case round =>
        obtain ⟨k, rfl, hk, HOK, HB5⟩ := hrel
        obtain ⟨w5, rfl⟩ : ∃ z : World, z = wr := ⟨_, rfl⟩
        have hz5 := HB5.out.size
        by_cases hlt : k < n
        rotate_left
        · have d1 : decide (k < n) = false := decide_eq_false hlt
          have d2 : decide ((k : Int) < (n : Int)) = false := decide_eq_false (by omega)
          go_wp2_with (fail)
          go_ret
          exact IsB.yes (HMP.out.2 ⟨HRA.out, HT.out, fun q hq => HOK.out q (by omega)⟩) HB5.out
        have d1 : decide (k < n) = true := decide_eq_true hlt
        have d2 : decide ((k : Int) < (n : Int)) = true := decide_eq_true (by omega)
        have q1 : IntKind.i64.wrap ((k : Int) + 1) = (k : Int) + 1 := IntWalk.i64_in _ (by omega)
        have hki : (k : Int) < (n : Int) := by omega
        obtain ⟨b, off, rfl, _⟩ := sl_cells (HC.out w5 HB5.out).sl (by omega)
        have HCK := Lib.hid (fun (W : World) (hW : Below w5.heap.size w5 W) => call_cells (HC.out W (HB5.out.trans (hW.mono hz5))).sl hlt)
        have HCX := Lib.hid (fun (W : World) (hW : Below w5.heap.size w5 W) => call_cells (HC.out W (HB5.out.trans (hW.mono hz5))).sl hxn)
        have HPL := Lib.hid (fun (W : World) (hW : Below w5.heap.size w5 W) => place_any j (toI p) k _ B W (HU.out W (HB5.out.trans (hW.mono hz5))) (by omega))
        have HBF := Lib.hid (refBefore_any (cv k) (cv x))
        unfold CallV.agg at HBF
        have HIN : Hid ((k ≠ x → befB (cv k) (cv x) = true → ∃ r, r < j ∧ p r = k) → ∀ q, q < k + 1 → q ≠ x → befB (cv q) (cv x) = true → ∃ r, r < j ∧ p r = q) := Lib.hid (fun h q hq => by
          by_cases e : q = k
          · subst e; exact h
          · exact HOK.out q (by omega))
        have HNI : Hid (k ≠ x → befB (cv k) (cv x) = true → ¬ (∃ r, r < j ∧ p r = k) → ¬ MP) := Lib.hid (fun h1 h2 h3 h => h3 ((HMP.out.1 h).2.2 k hlt h1 h2))
        have HPS : Hid (placeF (toI p) j k j < 0 ↔ ¬ ∃ r, r < j ∧ p r = k) := Lib.hid (by
          rcases placeF_spec (toI p) j k with ⟨h1, h2⟩ | ⟨i, h1, h2, h3, _⟩
          · rw [h1]
            exact ⟨fun _ ⟨r, hr, e⟩ => h2 r hr (by unfold toI; rw [e]), fun _ => by omega⟩
          · rw [h2]
            exact ⟨fun h => by omega, fun h => absurd ⟨i, h1, Int.ofNat_inj.1 h3⟩ h⟩)
        generalize placeF (toI p) j k j = pl at *
        generalize hbk : befB (cv k) (cv x) = bk at *
        clear hbk
        by_cases hkx : k = x
        · have e1 : ((k : Int) != (x : Int)) = false := by simp; omega
          have HOK2 := Lib.hid (HIN.out (fun h => absurd hkx h))
          clear hkx HNI HIN HOK
          go_upto_region 13 with (fail)
          refine Mono.region_below (by kernel_rfl) (by kernel_rfl) (by kernel_rfl) ?_
          refine Mono.rgl_val (v := ?va0) rfl Mono.rr (fun ρ a W hR hd hf => ?ha0) ?_
          case ha0 =>
            have e10 := Mono.init_get hf (t := 10) (by kernel_rfl)
            clear hd hf
            (go_simp; try with_reducible rfl)
          refine Mono.rgl_val (v := ?va1) rfl Mono.rr (fun ρ a W hR hd hf => ?ha1) ?_
          case ha1 =>
            have e9 := Mono.init_get hf (t := 9) (by kernel_rfl)
            clear hd hf
            (go_simp; try with_reducible rfl)
          refine Mono.rgl_val (v := ?va2) rfl Mono.rr (fun ρ a W hR hd hf => ?ha2) ?_
          case ha2 =>
            have e55 := Mono.dep_val hd hf (t := 55) (k := 0) (by kernel_rfl) rfl
            have e56 := Mono.dep_val hd hf (t := 56) (k := 1) (by kernel_rfl) rfl
            clear hd hf
            (go_simp; try with_reducible rfl)
          refine Mono.rgl_val (v := ?va3) rfl Mono.rr (fun ρ a W hR hd hf => ?ha3) ?_
          case ha3 =>
            have e57 := Mono.dep_val hd hf (t := 57) (k := 2) (by kernel_rfl) rfl
            clear hd hf
            (go_simp; try with_reducible rfl)
          refine Mono.rgl_skip rfl (by decide) (fun ρ W hd => Mono.guard_val hd (t := 58) (k := 3) (by kernel_rfl) rfl) ?_
          refine Mono.rgl_skip rfl (by decide) (fun ρ W hd => Mono.guard_val hd (t := 58) (k := 3) (by kernel_rfl) rfl) ?_
          refine Mono.rgl_skip rfl (by decide) (fun ρ W hd => Mono.guard_val hd (t := 58) (k := 3) (by kernel_rfl) rfl) ?_
          refine Mono.rgl_skip rfl (by decide) (fun ρ W hd => Mono.guard_val hd (t := 58) (k := 3) (by kernel_rfl) rfl) ?_
          refine Mono.rgl_skip rfl (by decide) (fun ρ W hd => Mono.guard_val hd (t := 58) (k := 3) (by kernel_rfl) rfl) ?_
          refine Mono.rgl_skip rfl (by decide) (fun ρ W hd => Mono.guard_val hd (t := 58) (k := 3) (by kernel_rfl) rfl) ?_
          refine Mono.rgl_skip rfl (by decide) (fun ρ W hd => Mono.guard_val hd (t := 58) (k := 3) (by kernel_rfl) rfl) ?_
          refine Mono.rgl_skip rfl (by decide) (fun ρ W hd => Mono.guard_val hd (t := 58) (k := 3) (by kernel_rfl) rfl) ?_
          refine Mono.rgl_skip rfl (by decide) (fun ρ W hd => Mono.guard_val hd (t := 58) (k := 3) (by kernel_rfl) rfl) ?_
          refine Mono.rgl_val (v := ?va13) rfl Mono.rr (fun ρ a W hR hd hf => ?ha13) ?_
          case ha13 =>
            have e58 := Mono.dep_val hd hf (t := 58) (k := 3) (by kernel_rfl) rfl
            have e67 := Mono.dep_val hd hf (t := 67) (k := 12) (by kernel_rfl) rfl
            clear hd hf
            (go_simp; try with_reducible rfl)
          refine Mono.rgl_val (v := ?va14) rfl Mono.rr (fun ρ a W hR hd hf => ?ha14) ?_
          case ha14 =>
            have e68 := Mono.dep_val hd hf (t := 68) (k := 13) (by kernel_rfl) rfl
            clear hd hf
            (go_simp; try with_reducible rfl)
          refine Mono.rgl_skip rfl (by decide) (fun ρ W hd => Mono.guard_val hd (t := 69) (k := 14) (by kernel_rfl) rfl) ?_
          refine Mono.rgl_skip rfl (by decide) (fun ρ W hd => Mono.guard_val hd (t := 69) (k := 14) (by kernel_rfl) rfl) ?_
          refine Mono.rgl_skip rfl (by decide) (fun ρ W hd => Mono.guard_val hd (t := 69) (k := 14) (by kernel_rfl) rfl) ?_
          refine Mono.rgl_skip rfl (by decide) (fun ρ W hd => Mono.guard_val hd (t := 69) (k := 14) (by kernel_rfl) rfl) ?_
          refine Mono.rgl_val (v := ?va19) rfl Mono.rr (fun ρ a W hR hd hf => ?ha19) ?_
          case ha19 =>
            have e69 := Mono.dep_val hd hf (t := 69) (k := 14) (by kernel_rfl) rfl
            have e73 := Mono.dep_val hd hf (t := 73) (k := 18) (by kernel_rfl) rfl
            clear hd hf
            (go_simp; try with_reducible rfl)
          refine Mono.rgl_done rfl (fun ρ W hR ht => ?_)
          obtain ⟨da19, da18, da17, da16, da15, da14, da13, da12, da11, da10, da9, da8, da7, da6, da5, da4, da3, da2, da1, da0, _⟩ := ht
          simp only [List.length_cons, List.length_nil, Nat.reduceAdd] at da0 da1 da2 da3 da4 da5 da6 da7 da8 da9 da10 da11 da12 da13 da14 da15 da16 da17 da18 da19
          simp only [Mono.putAll, Nat.reduceAdd, da0, da1, da2, da3, da4, da5, da6, da7, da8, da9, da10, da11, da12, da13, da14, da15, da16, da17, da18, da19, Act.put, List.setIfInBounds_toArray, List.set_cons_zero, List.set_cons_succ]
          clear da0 da1 da2 da3 da4 da5 da6 da7 da8 da9 da10 da11 da12 da13 da14 da15 da16 da17 da18 da19
          have HB6 := Lib.hid (HB5.out.trans (hR.mono hz5))
          clear hR
          go_wp2_with (fail)
          go_roundw
          case rel => exact ⟨k + 1, rfl, by omega, HOK2, HB6⟩
          case measure => simp [intOf] <;> omega
        have e1 : ((k : Int) != (x : Int)) = true := by simp; omega
        cases bk with
        | false =>
          have HOK2 := Lib.hid (HIN.out (fun _ h => by cases h))
          clear HNI HIN HOK
          go_upto_region 13 with (fail)
          refine Mono.region_below (by kernel_rfl) (by kernel_rfl) (by kernel_rfl) ?_
          refine Mono.rgl_val (v := ?vb0) rfl Mono.rr (fun ρ a W hR hd hf => ?hb0) ?_
          case hb0 =>
            have e10 := Mono.init_get hf (t := 10) (by kernel_rfl)
            clear hd hf
            (go_simp; try with_reducible rfl)
          refine Mono.rgl_val (v := ?vb1) rfl Mono.rr (fun ρ a W hR hd hf => ?hb1) ?_
          case hb1 =>
            have e9 := Mono.init_get hf (t := 9) (by kernel_rfl)
            clear hd hf
            (go_simp; try with_reducible rfl)
          refine Mono.rgl_val (v := ?vb2) rfl Mono.rr (fun ρ a W hR hd hf => ?hb2) ?_
          case hb2 =>
            have e55 := Mono.dep_val hd hf (t := 55) (k := 0) (by kernel_rfl) rfl
            have e56 := Mono.dep_val hd hf (t := 56) (k := 1) (by kernel_rfl) rfl
            clear hd hf
            (go_simp; try with_reducible rfl)
          refine Mono.rgl_val (v := ?vb3) rfl Mono.rr (fun ρ a W hR hd hf => ?hb3) ?_
          case hb3 =>
            have e57 := Mono.dep_val hd hf (t := 57) (k := 2) (by kernel_rfl) rfl
            clear hd hf
            (go_simp; try with_reducible rfl)
          refine Mono.rgl_valg (v := ?vb4) rfl Mono.rr (fun ρ W hd => Mono.guard_val hd (t := 58) (k := 3) (by kernel_rfl) rfl) (fun ρ a W hR hd hf => ?hb4) ?_
          case hb4 =>
            have e0 := Mono.init_get hf (t := 0) (by kernel_rfl)
            clear hd hf
            (go_simp; try with_reducible rfl)
          refine Mono.rgl_valg (v := ?vb5) rfl Mono.rr (fun ρ W hd => Mono.guard_val hd (t := 58) (k := 3) (by kernel_rfl) rfl) (fun ρ a W hR hd hf => ?hb5) ?_
          case hb5 =>
            have e10 := Mono.init_get hf (t := 10) (by kernel_rfl)
            clear hd hf
            (go_simp; try with_reducible rfl)
          refine Mono.rgl_valg (v := ?vb6) rfl Mono.rr (fun ρ W hd => Mono.guard_val hd (t := 58) (k := 3) (by kernel_rfl) rfl) (fun ρ a W hR hd hf => ?hb6) ?_
          case hb6 =>
            have e59 := Mono.dep_val hd hf (t := 59) (k := 4) (by kernel_rfl) rfl
            have e60 := Mono.dep_val hd hf (t := 60) (k := 5) (by kernel_rfl) rfl
            clear hd hf
            (go_simp; try with_reducible rfl)
          refine Mono.rgl_valg (v := ?vb7) rfl Mono.rr (fun ρ W hd => Mono.guard_val hd (t := 58) (k := 3) (by kernel_rfl) rfl) (fun ρ a W hR hd hf => ?hb7) ?_
          case hb7 =>
            have e61 := Mono.dep_val hd hf (t := 61) (k := 6) (by kernel_rfl) rfl
            obtain ⟨g0, g1, g2, g3, g4, g5⟩ := HCK.out W hR
            clear hd hf
            (go_simp; try with_reducible rfl)
          refine Mono.rgl_valg (v := ?vb8) rfl Mono.rr (fun ρ W hd => Mono.guard_val hd (t := 58) (k := 3) (by kernel_rfl) rfl) (fun ρ a W hR hd hf => ?hb8) ?_
          case hb8 =>
            have e0 := Mono.init_get hf (t := 0) (by kernel_rfl)
            clear hd hf
            (go_simp; try with_reducible rfl)
          refine Mono.rgl_valg (v := ?vb9) rfl Mono.rr (fun ρ W hd => Mono.guard_val hd (t := 58) (k := 3) (by kernel_rfl) rfl) (fun ρ a W hR hd hf => ?hb9) ?_
          case hb9 =>
            have e9 := Mono.init_get hf (t := 9) (by kernel_rfl)
            clear hd hf
            (go_simp; try with_reducible rfl)
          refine Mono.rgl_valg (v := ?vb10) rfl Mono.rr (fun ρ W hd => Mono.guard_val hd (t := 58) (k := 3) (by kernel_rfl) rfl) (fun ρ a W hR hd hf => ?hb10) ?_
          case hb10 =>
            have e63 := Mono.dep_val hd hf (t := 63) (k := 8) (by kernel_rfl) rfl
            have e64 := Mono.dep_val hd hf (t := 64) (k := 9) (by kernel_rfl) rfl
            clear hd hf
            (go_simp; try with_reducible rfl)
          refine Mono.rgl_valg (v := ?vb11) rfl Mono.rr (fun ρ W hd => Mono.guard_val hd (t := 58) (k := 3) (by kernel_rfl) rfl) (fun ρ a W hR hd hf => ?hb11) ?_
          case hb11 =>
            have e65 := Mono.dep_val hd hf (t := 65) (k := 10) (by kernel_rfl) rfl
            obtain ⟨g0, g1, g2, g3, g4, g5⟩ := HCX.out W hR
            clear hd hf
            (go_simp; try with_reducible rfl)
          refine Mono.rgl_callg (fun x _ => x = .bool false) rfl Mono.rr (fun _ _ _ h _ => h) (fun ρ W hd => Mono.guard_val hd (t := 58) (k := 3) (by kernel_rfl) rfl) (fun ρ a W hR hd hf => ?hb12) ?_
          case hb12 =>
            have e62 := Mono.dep_val hd hf (t := 62) (k := 7) (by kernel_rfl) rfl
            have e66 := Mono.dep_val hd hf (t := 66) (k := 11) (by kernel_rfl) rfl
            clear hd hf
            refine ⟨_, _, by go_simp; first | rfl | exact ⟨rfl, rfl⟩, ?_⟩
            exact (HBF.out W).mono (by rintro e w' ⟨rfl, hb⟩; exact ⟨_, rfl, hb, rfl⟩)
          refine Mono.rgl_val (v := ?vb13) rfl Mono.rr (fun ρ a W hR hd hf => ?hb13) ?_
          case hb13 =>
            have e58 := Mono.dep_val hd hf (t := 58) (k := 3) (by kernel_rfl) rfl
            have e67 := Mono.dep_val hd hf (t := 67) (k := 12) (by kernel_rfl) rfl
            clear hd hf
            (go_simp; try with_reducible rfl)
          refine Mono.rgl_val (v := ?vb14) rfl Mono.rr (fun ρ a W hR hd hf => ?hb14) ?_
          case hb14 =>
            have e68 := Mono.dep_val hd hf (t := 68) (k := 13) (by kernel_rfl) rfl
            clear hd hf
            (go_simp; try with_reducible rfl)
          refine Mono.rgl_skip rfl (by decide) (fun ρ W hd => Mono.guard_val hd (t := 69) (k := 14) (by kernel_rfl) rfl) ?_
          refine Mono.rgl_skip rfl (by decide) (fun ρ W hd => Mono.guard_val hd (t := 69) (k := 14) (by kernel_rfl) rfl) ?_
          refine Mono.rgl_skip rfl (by decide) (fun ρ W hd => Mono.guard_val hd (t := 69) (k := 14) (by kernel_rfl) rfl) ?_
          refine Mono.rgl_skip rfl (by decide) (fun ρ W hd => Mono.guard_val hd (t := 69) (k := 14) (by kernel_rfl) rfl) ?_
          refine Mono.rgl_val (v := ?vb19) rfl Mono.rr (fun ρ a W hR hd hf => ?hb19) ?_
          case hb19 =>
            have e69 := Mono.dep_val hd hf (t := 69) (k := 14) (by kernel_rfl) rfl
            have e73 := Mono.dep_val hd hf (t := 73) (k := 18) (by kernel_rfl) rfl
            clear hd hf
            (go_simp; try with_reducible rfl)
          refine Mono.rgl_done rfl (fun ρ W hR ht => ?_)
          obtain ⟨db19, db18, db17, db16, db15, db14, db13, db12, db11, db10, db9, db8, db7, db6, db5, db4, db3, db2, db1, db0, _⟩ := ht
          simp only [List.length_cons, List.length_nil, Nat.reduceAdd] at db0 db1 db2 db3 db4 db5 db6 db7 db8 db9 db10 db11 db12 db13 db14 db15 db16 db17 db18 db19
          simp only [Mono.putAll, Nat.reduceAdd, db0, db1, db2, db3, db4, db5, db6, db7, db8, db9, db10, db11, db12, db13, db14, db15, db16, db17, db18, db19, Act.put, List.setIfInBounds_toArray, List.set_cons_zero, List.set_cons_succ]
          clear db0 db1 db2 db3 db4 db5 db6 db7 db8 db9 db10 db11 db12 db13 db14 db15 db16 db17 db18 db19
          have HB6 := Lib.hid (HB5.out.trans (hR.mono hz5))
          clear hR
          go_wp2_with (fail)
          go_roundw
          case rel => exact ⟨k + 1, rfl, by omega, HOK2, HB6⟩
          case measure => simp [intOf] <;> omega
        | true =>
          by_cases hpl : pl < 0
          · have e3 : decide (pl < 0) = true := decide_eq_true hpl
            have HNO := Lib.hid (HNI.out hkx rfl (HPS.out.1 hpl))
            clear hkx HNI HIN HOK hpl
            go_upto_region 13 with (fail)
            refine Mono.region_below (by kernel_rfl) (by kernel_rfl) (by kernel_rfl) ?_
            refine Mono.rgl_val (v := ?vc0) rfl Mono.rr (fun ρ a W hR hd hf => ?hc0) ?_
            case hc0 =>
              have e10 := Mono.init_get hf (t := 10) (by kernel_rfl)
              clear hd hf
              (go_simp; try with_reducible rfl)
            refine Mono.rgl_val (v := ?vc1) rfl Mono.rr (fun ρ a W hR hd hf => ?hc1) ?_
            case hc1 =>
              have e9 := Mono.init_get hf (t := 9) (by kernel_rfl)
              clear hd hf
              (go_simp; try with_reducible rfl)
            refine Mono.rgl_val (v := ?vc2) rfl Mono.rr (fun ρ a W hR hd hf => ?hc2) ?_
            case hc2 =>
              have e55 := Mono.dep_val hd hf (t := 55) (k := 0) (by kernel_rfl) rfl
              have e56 := Mono.dep_val hd hf (t := 56) (k := 1) (by kernel_rfl) rfl
              clear hd hf
              (go_simp; try with_reducible rfl)
            refine Mono.rgl_val (v := ?vc3) rfl Mono.rr (fun ρ a W hR hd hf => ?hc3) ?_
            case hc3 =>
              have e57 := Mono.dep_val hd hf (t := 57) (k := 2) (by kernel_rfl) rfl
              clear hd hf
              (go_simp; try with_reducible rfl)
            refine Mono.rgl_valg (v := ?vc4) rfl Mono.rr (fun ρ W hd => Mono.guard_val hd (t := 58) (k := 3) (by kernel_rfl) rfl) (fun ρ a W hR hd hf => ?hc4) ?_
            case hc4 =>
              have e0 := Mono.init_get hf (t := 0) (by kernel_rfl)
              clear hd hf
              (go_simp; try with_reducible rfl)
            refine Mono.rgl_valg (v := ?vc5) rfl Mono.rr (fun ρ W hd => Mono.guard_val hd (t := 58) (k := 3) (by kernel_rfl) rfl) (fun ρ a W hR hd hf => ?hc5) ?_
            case hc5 =>
              have e10 := Mono.init_get hf (t := 10) (by kernel_rfl)
              clear hd hf
              (go_simp; try with_reducible rfl)
            refine Mono.rgl_valg (v := ?vc6) rfl Mono.rr (fun ρ W hd => Mono.guard_val hd (t := 58) (k := 3) (by kernel_rfl) rfl) (fun ρ a W hR hd hf => ?hc6) ?_
            case hc6 =>
              have e59 := Mono.dep_val hd hf (t := 59) (k := 4) (by kernel_rfl) rfl
              have e60 := Mono.dep_val hd hf (t := 60) (k := 5) (by kernel_rfl) rfl
              clear hd hf
              (go_simp; try with_reducible rfl)
            refine Mono.rgl_valg (v := ?vc7) rfl Mono.rr (fun ρ W hd => Mono.guard_val hd (t := 58) (k := 3) (by kernel_rfl) rfl) (fun ρ a W hR hd hf => ?hc7) ?_
            case hc7 =>
              have e61 := Mono.dep_val hd hf (t := 61) (k := 6) (by kernel_rfl) rfl
              obtain ⟨g0, g1, g2, g3, g4, g5⟩ := HCK.out W hR
              clear hd hf
              (go_simp; try with_reducible rfl)
            refine Mono.rgl_valg (v := ?vc8) rfl Mono.rr (fun ρ W hd => Mono.guard_val hd (t := 58) (k := 3) (by kernel_rfl) rfl) (fun ρ a W hR hd hf => ?hc8) ?_
            case hc8 =>
              have e0 := Mono.init_get hf (t := 0) (by kernel_rfl)
              clear hd hf
              (go_simp; try with_reducible rfl)
            refine Mono.rgl_valg (v := ?vc9) rfl Mono.rr (fun ρ W hd => Mono.guard_val hd (t := 58) (k := 3) (by kernel_rfl) rfl) (fun ρ a W hR hd hf => ?hc9) ?_
            case hc9 =>
              have e9 := Mono.init_get hf (t := 9) (by kernel_rfl)
              clear hd hf
              (go_simp; try with_reducible rfl)
            refine Mono.rgl_valg (v := ?vc10) rfl Mono.rr (fun ρ W hd => Mono.guard_val hd (t := 58) (k := 3) (by kernel_rfl) rfl) (fun ρ a W hR hd hf => ?hc10) ?_
            case hc10 =>
              have e63 := Mono.dep_val hd hf (t := 63) (k := 8) (by kernel_rfl) rfl
              have e64 := Mono.dep_val hd hf (t := 64) (k := 9) (by kernel_rfl) rfl
              clear hd hf
              (go_simp; try with_reducible rfl)
            refine Mono.rgl_valg (v := ?vc11) rfl Mono.rr (fun ρ W hd => Mono.guard_val hd (t := 58) (k := 3) (by kernel_rfl) rfl) (fun ρ a W hR hd hf => ?hc11) ?_
            case hc11 =>
              have e65 := Mono.dep_val hd hf (t := 65) (k := 10) (by kernel_rfl) rfl
              obtain ⟨g0, g1, g2, g3, g4, g5⟩ := HCX.out W hR
              clear hd hf
              (go_simp; try with_reducible rfl)
            refine Mono.rgl_callg (fun x _ => x = .bool true) rfl Mono.rr (fun _ _ _ h _ => h) (fun ρ W hd => Mono.guard_val hd (t := 58) (k := 3) (by kernel_rfl) rfl) (fun ρ a W hR hd hf => ?hc12) ?_
            case hc12 =>
              have e62 := Mono.dep_val hd hf (t := 62) (k := 7) (by kernel_rfl) rfl
              have e66 := Mono.dep_val hd hf (t := 66) (k := 11) (by kernel_rfl) rfl
              clear hd hf
              refine ⟨_, _, by go_simp; first | rfl | exact ⟨rfl, rfl⟩, ?_⟩
              exact (HBF.out W).mono (by rintro e w' ⟨rfl, hb⟩; exact ⟨_, rfl, hb, rfl⟩)
            refine Mono.rgl_val (v := ?vc13) rfl Mono.rr (fun ρ a W hR hd hf => ?hc13) ?_
            case hc13 =>
              have e58 := Mono.dep_val hd hf (t := 58) (k := 3) (by kernel_rfl) rfl
              have e67 := Mono.dep_val hd hf (t := 67) (k := 12) (by kernel_rfl) rfl
              clear hd hf
              (go_simp; try with_reducible rfl)
            refine Mono.rgl_val (v := ?vc14) rfl Mono.rr (fun ρ a W hR hd hf => ?hc14) ?_
            case hc14 =>
              have e68 := Mono.dep_val hd hf (t := 68) (k := 13) (by kernel_rfl) rfl
              clear hd hf
              (go_simp; try with_reducible rfl)
            refine Mono.rgl_valg (v := ?vc15) rfl Mono.rr (fun ρ W hd => Mono.guard_val hd (t := 69) (k := 14) (by kernel_rfl) rfl) (fun ρ a W hR hd hf => ?hc15) ?_
            case hc15 =>
              have e1 := Mono.init_get hf (t := 1) (by kernel_rfl)
              clear hd hf
              (go_simp; try with_reducible rfl)
            refine Mono.rgl_valg (v := ?vc16) rfl Mono.rr (fun ρ W hd => Mono.guard_val hd (t := 69) (k := 14) (by kernel_rfl) rfl) (fun ρ a W hR hd hf => ?hc16) ?_
            case hc16 =>
              have e10 := Mono.init_get hf (t := 10) (by kernel_rfl)
              clear hd hf
              (go_simp; try with_reducible rfl)
            refine Mono.rgl_callg (fun x _ => x = .int .i64 pl) rfl Mono.rr (fun _ _ _ h _ => h) (fun ρ W hd => Mono.guard_val hd (t := 69) (k := 14) (by kernel_rfl) rfl) (fun ρ a W hR hd hf => ?hc17) ?_
            case hc17 =>
              have e70 := Mono.dep_val hd hf (t := 70) (k := 15) (by kernel_rfl) rfl
              have e71 := Mono.dep_val hd hf (t := 71) (k := 16) (by kernel_rfl) rfl
              clear hd hf
              refine ⟨_, _, by go_simp; first | rfl | exact ⟨rfl, rfl⟩, ?_⟩
              exact (HPL.out W hR).mono (by rintro e w' ⟨rfl, rfl⟩; exact ⟨_, rfl, Below.refl _ _, rfl⟩)
            refine Mono.rgl_valg (v := ?vc18) rfl Mono.rr (fun ρ W hd => Mono.guard_val hd (t := 69) (k := 14) (by kernel_rfl) rfl) (fun ρ a W hR hd hf => ?hc18) ?_
            case hc18 =>
              have e72 := Mono.dep_val hd hf (t := 72) (k := 17) (by kernel_rfl) rfl
              clear hd hf
              (go_simp; try with_reducible rfl)
            refine Mono.rgl_val (v := ?vc19) rfl Mono.rr (fun ρ a W hR hd hf => ?hc19) ?_
            case hc19 =>
              have e69 := Mono.dep_val hd hf (t := 69) (k := 14) (by kernel_rfl) rfl
              have e73 := Mono.dep_val hd hf (t := 73) (k := 18) (by kernel_rfl) rfl
              clear hd hf
              (go_simp; try with_reducible rfl)
            refine Mono.rgl_done rfl (fun ρ W hR ht => ?_)
            obtain ⟨dc19, dc18, dc17, dc16, dc15, dc14, dc13, dc12, dc11, dc10, dc9, dc8, dc7, dc6, dc5, dc4, dc3, dc2, dc1, dc0, _⟩ := ht
            simp only [List.length_cons, List.length_nil, Nat.reduceAdd] at dc0 dc1 dc2 dc3 dc4 dc5 dc6 dc7 dc8 dc9 dc10 dc11 dc12 dc13 dc14 dc15 dc16 dc17 dc18 dc19
            simp only [Mono.putAll, Nat.reduceAdd, dc0, dc1, dc2, dc3, dc4, dc5, dc6, dc7, dc8, dc9, dc10, dc11, dc12, dc13, dc14, dc15, dc16, dc17, dc18, dc19, Act.put, List.setIfInBounds_toArray, List.set_cons_zero, List.set_cons_succ]
            clear dc0 dc1 dc2 dc3 dc4 dc5 dc6 dc7 dc8 dc9 dc10 dc11 dc12 dc13 dc14 dc15 dc16 dc17 dc18 dc19
            have HB6 := Lib.hid (HB5.out.trans (hR.mono hz5))
            clear hR
            go_wp2_with (fail)
            go_ret
            exact IsB.no HNO.out HB6.out
          · have e3 : decide (pl < 0) = false := decide_eq_false hpl
            have HOK2 := Lib.hid (HIN.out (fun _ _ => Classical.not_not.1 fun h => hpl (HPS.out.2 h)))
            clear hkx HNI HIN HOK hpl
            go_upto_region 13 with (fail)
            refine Mono.region_below (by kernel_rfl) (by kernel_rfl) (by kernel_rfl) ?_
            refine Mono.rgl_val (v := ?vd0) rfl Mono.rr (fun ρ a W hR hd hf => ?hd0) ?_
            case hd0 =>
              have e10 := Mono.init_get hf (t := 10) (by kernel_rfl)
              clear hd hf
              (go_simp; try with_reducible rfl)
            refine Mono.rgl_val (v := ?vd1) rfl Mono.rr (fun ρ a W hR hd hf => ?hd1) ?_
            case hd1 =>
              have e9 := Mono.init_get hf (t := 9) (by kernel_rfl)
              clear hd hf
              (go_simp; try with_reducible rfl)
            refine Mono.rgl_val (v := ?vd2) rfl Mono.rr (fun ρ a W hR hd hf => ?hd2) ?_
            case hd2 =>
              have e55 := Mono.dep_val hd hf (t := 55) (k := 0) (by kernel_rfl) rfl
              have e56 := Mono.dep_val hd hf (t := 56) (k := 1) (by kernel_rfl) rfl
              clear hd hf
              (go_simp; try with_reducible rfl)
            refine Mono.rgl_val (v := ?vd3) rfl Mono.rr (fun ρ a W hR hd hf => ?hd3) ?_
            case hd3 =>
              have e57 := Mono.dep_val hd hf (t := 57) (k := 2) (by kernel_rfl) rfl
              clear hd hf
              (go_simp; try with_reducible rfl)
            refine Mono.rgl_valg (v := ?vd4) rfl Mono.rr (fun ρ W hd => Mono.guard_val hd (t := 58) (k := 3) (by kernel_rfl) rfl) (fun ρ a W hR hd hf => ?hd4) ?_
            case hd4 =>
              have e0 := Mono.init_get hf (t := 0) (by kernel_rfl)
              clear hd hf
              (go_simp; try with_reducible rfl)
            refine Mono.rgl_valg (v := ?vd5) rfl Mono.rr (fun ρ W hd => Mono.guard_val hd (t := 58) (k := 3) (by kernel_rfl) rfl) (fun ρ a W hR hd hf => ?hd5) ?_
            case hd5 =>
              have e10 := Mono.init_get hf (t := 10) (by kernel_rfl)
              clear hd hf
              (go_simp; try with_reducible rfl)
            refine Mono.rgl_valg (v := ?vd6) rfl Mono.rr (fun ρ W hd => Mono.guard_val hd (t := 58) (k := 3) (by kernel_rfl) rfl) (fun ρ a W hR hd hf => ?hd6) ?_
            case hd6 =>
              have e59 := Mono.dep_val hd hf (t := 59) (k := 4) (by kernel_rfl) rfl
              have e60 := Mono.dep_val hd hf (t := 60) (k := 5) (by kernel_rfl) rfl
              clear hd hf
              (go_simp; try with_reducible rfl)
            refine Mono.rgl_valg (v := ?vd7) rfl Mono.rr (fun ρ W hd => Mono.guard_val hd (t := 58) (k := 3) (by kernel_rfl) rfl) (fun ρ a W hR hd hf => ?hd7) ?_
            case hd7 =>
              have e61 := Mono.dep_val hd hf (t := 61) (k := 6) (by kernel_rfl) rfl
              obtain ⟨g0, g1, g2, g3, g4, g5⟩ := HCK.out W hR
              clear hd hf
              (go_simp; try with_reducible rfl)
            refine Mono.rgl_valg (v := ?vd8) rfl Mono.rr (fun ρ W hd => Mono.guard_val hd (t := 58) (k := 3) (by kernel_rfl) rfl) (fun ρ a W hR hd hf => ?hd8) ?_
            case hd8 =>
              have e0 := Mono.init_get hf (t := 0) (by kernel_rfl)
              clear hd hf
              (go_simp; try with_reducible rfl)
            refine Mono.rgl_valg (v := ?vd9) rfl Mono.rr (fun ρ W hd => Mono.guard_val hd (t := 58) (k := 3) (by kernel_rfl) rfl) (fun ρ a W hR hd hf => ?hd9) ?_
            case hd9 =>
              have e9 := Mono.init_get hf (t := 9) (by kernel_rfl)
              clear hd hf
              (go_simp; try with_reducible rfl)
            refine Mono.rgl_valg (v := ?vd10) rfl Mono.rr (fun ρ W hd => Mono.guard_val hd (t := 58) (k := 3) (by kernel_rfl) rfl) (fun ρ a W hR hd hf => ?hd10) ?_
            case hd10 =>
              have e63 := Mono.dep_val hd hf (t := 63) (k := 8) (by kernel_rfl) rfl
              have e64 := Mono.dep_val hd hf (t := 64) (k := 9) (by kernel_rfl) rfl
              clear hd hf
              (go_simp; try with_reducible rfl)
            refine Mono.rgl_valg (v := ?vd11) rfl Mono.rr (fun ρ W hd => Mono.guard_val hd (t := 58) (k := 3) (by kernel_rfl) rfl) (fun ρ a W hR hd hf => ?hd11) ?_
            case hd11 =>
              have e65 := Mono.dep_val hd hf (t := 65) (k := 10) (by kernel_rfl) rfl
              obtain ⟨g0, g1, g2, g3, g4, g5⟩ := HCX.out W hR
              clear hd hf
              (go_simp; try with_reducible rfl)
            refine Mono.rgl_callg (fun x _ => x = .bool true) rfl Mono.rr (fun _ _ _ h _ => h) (fun ρ W hd => Mono.guard_val hd (t := 58) (k := 3) (by kernel_rfl) rfl) (fun ρ a W hR hd hf => ?hd12) ?_
            case hd12 =>
              have e62 := Mono.dep_val hd hf (t := 62) (k := 7) (by kernel_rfl) rfl
              have e66 := Mono.dep_val hd hf (t := 66) (k := 11) (by kernel_rfl) rfl
              clear hd hf
              refine ⟨_, _, by go_simp; first | rfl | exact ⟨rfl, rfl⟩, ?_⟩
              exact (HBF.out W).mono (by rintro e w' ⟨rfl, hb⟩; exact ⟨_, rfl, hb, rfl⟩)
            refine Mono.rgl_val (v := ?vd13) rfl Mono.rr (fun ρ a W hR hd hf => ?hd13) ?_
            case hd13 =>
              have e58 := Mono.dep_val hd hf (t := 58) (k := 3) (by kernel_rfl) rfl
              have e67 := Mono.dep_val hd hf (t := 67) (k := 12) (by kernel_rfl) rfl
              clear hd hf
              (go_simp; try with_reducible rfl)
            refine Mono.rgl_val (v := ?vd14) rfl Mono.rr (fun ρ a W hR hd hf => ?hd14) ?_
            case hd14 =>
              have e68 := Mono.dep_val hd hf (t := 68) (k := 13) (by kernel_rfl) rfl
              clear hd hf
              (go_simp; try with_reducible rfl)
            refine Mono.rgl_valg (v := ?vd15) rfl Mono.rr (fun ρ W hd => Mono.guard_val hd (t := 69) (k := 14) (by kernel_rfl) rfl) (fun ρ a W hR hd hf => ?hd15) ?_
            case hd15 =>
              have e1 := Mono.init_get hf (t := 1) (by kernel_rfl)
              clear hd hf
              (go_simp; try with_reducible rfl)
            refine Mono.rgl_valg (v := ?vd16) rfl Mono.rr (fun ρ W hd => Mono.guard_val hd (t := 69) (k := 14) (by kernel_rfl) rfl) (fun ρ a W hR hd hf => ?hd16) ?_
            case hd16 =>
              have e10 := Mono.init_get hf (t := 10) (by kernel_rfl)
              clear hd hf
              (go_simp; try with_reducible rfl)
            refine Mono.rgl_callg (fun x _ => x = .int .i64 pl) rfl Mono.rr (fun _ _ _ h _ => h) (fun ρ W hd => Mono.guard_val hd (t := 69) (k := 14) (by kernel_rfl) rfl) (fun ρ a W hR hd hf => ?hd17) ?_
            case hd17 =>
              have e70 := Mono.dep_val hd hf (t := 70) (k := 15) (by kernel_rfl) rfl
              have e71 := Mono.dep_val hd hf (t := 71) (k := 16) (by kernel_rfl) rfl
              clear hd hf
              refine ⟨_, _, by go_simp; first | rfl | exact ⟨rfl, rfl⟩, ?_⟩
              exact (HPL.out W hR).mono (by rintro e w' ⟨rfl, rfl⟩; exact ⟨_, rfl, Below.refl _ _, rfl⟩)
            refine Mono.rgl_valg (v := ?vd18) rfl Mono.rr (fun ρ W hd => Mono.guard_val hd (t := 69) (k := 14) (by kernel_rfl) rfl) (fun ρ a W hR hd hf => ?hd18) ?_
            case hd18 =>
              have e72 := Mono.dep_val hd hf (t := 72) (k := 17) (by kernel_rfl) rfl
              clear hd hf
              (go_simp; try with_reducible rfl)
            refine Mono.rgl_val (v := ?vd19) rfl Mono.rr (fun ρ a W hR hd hf => ?hd19) ?_
            case hd19 =>
              have e69 := Mono.dep_val hd hf (t := 69) (k := 14) (by kernel_rfl) rfl
              have e73 := Mono.dep_val hd hf (t := 73) (k := 18) (by kernel_rfl) rfl
              clear hd hf
              (go_simp; try with_reducible rfl)
            refine Mono.rgl_done rfl (fun ρ W hR ht => ?_)
            obtain ⟨dd19, dd18, dd17, dd16, dd15, dd14, dd13, dd12, dd11, dd10, dd9, dd8, dd7, dd6, dd5, dd4, dd3, dd2, dd1, dd0, _⟩ := ht
            simp only [List.length_cons, List.length_nil, Nat.reduceAdd] at dd0 dd1 dd2 dd3 dd4 dd5 dd6 dd7 dd8 dd9 dd10 dd11 dd12 dd13 dd14 dd15 dd16 dd17 dd18 dd19
            simp only [Mono.putAll, Nat.reduceAdd, dd0, dd1, dd2, dd3, dd4, dd5, dd6, dd7, dd8, dd9, dd10, dd11, dd12, dd13, dd14, dd15, dd16, dd17, dd18, dd19, Act.put, List.setIfInBounds_toArray, List.set_cons_zero, List.set_cons_succ]
            clear dd0 dd1 dd2 dd3 dd4 dd5 dd6 dd7 dd8 dd9 dd10 dd11 dd12 dd13 dd14 dd15 dd16 dd17 dd18 dd19
            have HB6 := Lib.hid (HB5.out.trans (hR.mono hz5))
            clear hR
            go_wp2_with (fail)
            go_roundw
            case rel => exact ⟨k + 1, rfl, by omega, HOK2, HB6⟩
            case measure => simp [intOf] <;> omega
    have d1 : decide (j < m1) = true := decide_eq_true hlt
    have d2 : decide ((j : Int) < (m1 : Int)) = true := decide_eq_true (by omega)
    have q1 : IntKind.i64.wrap ((j : Int) + 1) = (j : Int) + 1 := IntWalk.i64_in _ (by omega)
    have hbi : (j : Int) < (m1 : Int) := by omega
    obtain ⟨b1, o1, rfl, hk1⟩ := sl_cells (HU.out wo HBO.out) (by omega)
    have k1 : wo.cell? ⟨b1, o1 + j, none⟩ = some (.int .i64 (p j : Nat)) := hk1 j _ (icellsI_get (toI p) hlt)
    have hk2 := fun (W : World) (hW : Below w.heap.size w W) => sl_same (HU.out W hW) (by omega) j _ (icellsI_get (toI p) hlt)
    have hxn := HP.out j hlt
    obtain ⟨x, hx⟩ : ∃ x, p j = x := ⟨_, rfl⟩
    have hk2' : Hid (∀ W, Below w.heap.size w W → W.cell? ⟨b1, o1 + j, none⟩ = some (.int .i64 (x : Nat))) := Lib.hid (by rw [← hx]; exact hk2)
    have HX := Lib.hid hx
    rw [hx] at k1 hxn
    have hxi : (x : Int) < (n : Int) := by omega
    obtain ⟨b, off, rfl, hk0⟩ := sl_cells (HC.out wo HBO.out).sl (by omega)
    have HCC := HC.out wo HBO.out
    obtain ⟨c0, c1, c2, c3, c4, c5⟩ := call_cells HCC.sl hxn
    obtain ⟨lv, lc, hlv, _⟩ := HSL.out.form
    subst hlv
    have hl := st_len cv nm p j
    have HTL := Lib.hid (tells_any (st cv nm p j).1 (nm x) (cv x) _ wo.heap.size wo HSL.out ((HCC.names x hxn).mono (Nat.le_trans hB hzo)) (HCC.len x hxn) (Nat.le_refl _) (by omega) (by have := HCC.few x hxn; omega))
    have hst := st_succ cv nm p j
    rw [hx, HT.out, Bool.true_and] at hst
    have HST := Lib.hid hst
    have HCAN := Lib.hid (refCan_any (cv x))
    unfold CallV.agg at HTL HCAN
    clear hst hl HCC hk0 hk1 hk2 hx
    go_wp2_with (fail)
    refine HTL.out.mono ?_
    rintro e w6 ⟨v6, rfl, hs6, hb6⟩
    have HS6 := Lib.hid hs6
    have HB6 := Lib.hid (HBO.out.trans (hb6.mono hzo))
    have k1 := hk2'.out w6 HB6.out
    clear hs6 hb6 HTL c0 c1 c2 c3 c4 c5
    obtain ⟨c0, c1, c2, c3, c4, c5⟩ := call_cells (HC.out w6 HB6.out).sl hxn
    cases hok : (tells (st cv nm p j).1 (cv x) (nm x)).2 with
    | false =>
      have HNO : Hid (¬ MP) := Lib.hid (fun q => by
        have h1 := st_false cv nm p (i := j + 1) (by rw [HST.out]; exact hok) m1 hlt
        rw [(HMP.out.1 q).2.1] at h1
        cases h1)
      clear hok
      go_wp2_with (fail)
      go_ret
      exact IsB.no HNO.out HB6.out
    | true =>
      have HT2 : Hid ((st cv nm p (j + 1)).2 = true) := Lib.hid (by rw [HST.out]; exact hok)
      have HSL2 : Hid (Sl w6 w6.heap.size 1 v6 (st cv nm p (j + 1)).1.length (scells (st cv nm p (j + 1)).1)) := Lib.hid (by rw [HST.out]; exact HS6.out)
      clear hok HS6
      go_wp2_with (fail)
      refine (HCAN.out w6).mono ?_
      rintro e w7 ⟨rfl, hb7⟩
      have HB7 := Lib.hid (HB6.out.trans (hb7.mono HB6.out.size))
      have HSL7 := Lib.hid ((HSL2.out.below hb7).mono hb7.size)
      clear hb7 HCAN c0 c1 c2 c3 c4 c5 k1
      cases hcan : canB (cv x) with
      | false =>
        have HNO : Hid (¬ MP) := Lib.hid (fun q => by
          have h1 := (HMP.out.1 q).1 j hlt
          rw [HX.out, hcan] at h1
          cases h1)
        clear hcan
        go_wp2_with (fail)
        go_ret
        exact IsB.no HNO.out HB7.out
      | true =>
        have HRA2 : Hid (∀ q, q < j + 1 → canB (cv (p q)) = true) := Lib.hid (fun q hq => by
          by_cases e : q = j
          · subst e; rw [HX.out]; exact hcan
          · exact HRA.out q (by omega))
        clear hcan
        go_wp2_with (fail)
        go_roundw
        case rel => exact ⟨j + 1, rfl, by omega, HRA2, HT2, HSL7, HB7⟩
        case measure => simp [intOf] <;> omega
end Go.Proofs.YtmcbgjkogggneaaDoor
