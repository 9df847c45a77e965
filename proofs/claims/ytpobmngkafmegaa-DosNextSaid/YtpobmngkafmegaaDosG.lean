/- Contracts of the page's fields and Compare. -/
import Derived.Test.YtpobmngkafmegaaDosF
namespace Go.Proofs.Ytpobmngkafmegaa
open Go.RowKit
theorem fields_any (y m d h i s : Int) (w : World) : Calls Try.prog 22 #[.agg #[.int .i64 y, .int .i64 m, .int .i64 d, .int .i64 h, .int .i64 i, .int .i64 s]] w fun e w' => ∃ v, e = .returned v ∧ SI w' v [y, m, d, h, i, s] ∧ Below w.heap.size w w' := by
  go_enter Try.func22, Try.ntmps22
  go_wp2
  go_ret
  exact ⟨_, rfl, by have := SI.new (w.alloc (.cells #[.int .i64 y, .int .i64 m, .int .i64 d, .int .i64 h, .int .i64 i, .int .i64 s] 23)) [y, m, d, h, i, s] 3; simpa using this, ((Below.refl _ _).alloc (Nat.le_refl _) _).alloc (by simp) _⟩
theorem sg_eq (a : Int) : sg a a = 0 := by simp [sg]
theorem sg_ne {a b : Int} (h : a ≠ b) : sg a b ≠ 0 := by unfold sg; split; omega; split <;> omega
def zs (l m : List Int) : List Int := List.zipWith sg l m
theorem zs_length {l m : List Int} (h : l.length = m.length) : (zs l m).length = l.length := by simp [zs, h]
theorem zs_getD {l m : List Int} (h : l.length = m.length) {j : Nat} (hj : j < l.length) : (zs l m).getD j 0 = sg (l.getD j 0) (m.getD j 0) := by
  simp [zs, List.getElem?_zipWith, hj, h ▸ hj]
set_option maxHeartbeats 1000000 in
theorem refCompare_any (y m d h i s y' m' d' h' i' s' : Int) (w : World) : Calls Try.prog 14 #[.agg #[.int .i64 y, .int .i64 m, .int .i64 d, .int .i64 h, .int .i64 i, .int .i64 s], .agg #[.int .i64 y', .int .i64 m', .int .i64 d', .int .i64 h', .int .i64 i', .int .i64 s']] w fun e w' => e = .returned (.int .i64 (cmpT y m d h i s y' m' d' h' i' s')) ∧ Below w.heap.size w w' := by
  have HA := Lib.hid ((Cells.new w [.int .i64 y, .int .i64 m, .int .i64 d, .int .i64 h, .int .i64 i, .int .i64 s] 23).below ((Below.refl _ _).alloc (Nat.le_refl _) (.cells #[.int .i64 y', .int .i64 m', .int .i64 d', .int .i64 h', .int .i64 i', .int .i64 s'] 23)) (by simp))
  have HB := Lib.hid (Cells.new_at (w.alloc (.cells #[.int .i64 y, .int .i64 m, .int .i64 d, .int .i64 h, .int .i64 i, .int .i64 s] 23)) [.int .i64 y', .int .i64 m', .int .i64 d', .int .i64 h', .int .i64 i', .int .i64 s'] 23 (w.heap.size + 1) (by simp))
  have HT : Hid (cmpT y m d h i s y' m' d' h' i' s' = fnz (zs [y, m, d, h, i, s] [y', m', d', h', i', s'])) := rfl
  generalize cmpT y m d h i s y' m' d' h' i' s' = T at *
  go_enter Try.func14, Try.ntmps14
  go_wp2
  refine Mono.region_below (by kernel_rfl) (by kernel_rfl) (by kernel_rfl) ?_
  refine Mono.rgl_val (v := ?v0) rfl Mono.rr (fun ρ a W hR hd hf => ?h0) ?_
  case h0 =>
    have e2 := Mono.init_get hf (t := 2) (by kernel_rfl)
    have hk0 := (HA.out.below hR (by simp; omega) : Cells W _ _) 0 _ rfl
    have hk1 := (HA.out.below hR (by simp; omega) : Cells W _ _) 1 _ rfl
    have hk2 := (HA.out.below hR (by simp; omega) : Cells W _ _) 2 _ rfl
    have hk3 := (HA.out.below hR (by simp; omega) : Cells W _ _) 3 _ rfl
    have hk4 := (HA.out.below hR (by simp; omega) : Cells W _ _) 4 _ rfl
    have hk5 := (HA.out.below hR (by simp; omega) : Cells W _ _) 5 _ rfl
    clear hd hf
    (go_simp; try with_reducible rfl)
  refine Mono.rgl_call (fun v W => SI W v [y, m, d, h, i, s]) rfl Mono.rr hstSI (fun ρ a W hR hd hf => ?h1) ?_
  case h1 =>
    have e8 := Mono.dep_val hd hf (t := 8) (k := 0) (by kernel_rfl) rfl
    clear hd hf
    refine ⟨_, _, by go_simp; first | rfl | exact ⟨rfl, rfl⟩, ?_⟩
    exact (fields_any _ _ _ _ _ _ W).mono (fun e W' ⟨v, he, hs, hb⟩ => ⟨v, he, hb, hs⟩)
  refine Mono.rgl_val (v := ?v2) rfl Mono.rr (fun ρ a W hR hd hf => ?h2) ?_
  case h2 =>
    have e3 := Mono.init_get hf (t := 3) (by kernel_rfl)
    have hk0 := (HB.out.below hR (by simp) : Cells W _ _) 0 _ rfl
    have hk1 := (HB.out.below hR (by simp) : Cells W _ _) 1 _ rfl
    have hk2 := (HB.out.below hR (by simp) : Cells W _ _) 2 _ rfl
    have hk3 := (HB.out.below hR (by simp) : Cells W _ _) 3 _ rfl
    have hk4 := (HB.out.below hR (by simp) : Cells W _ _) 4 _ rfl
    have hk5 := (HB.out.below hR (by simp) : Cells W _ _) 5 _ rfl
    clear hd hf
    (go_simp; try with_reducible rfl)
  refine Mono.rgl_call (fun v W => SI W v [y', m', d', h', i', s']) rfl Mono.rr hstSI (fun ρ a W hR hd hf => ?h3) ?_
  case h3 =>
    have e10 := Mono.dep_val hd hf (t := 10) (k := 2) (by kernel_rfl) rfl
    clear hd hf
    refine ⟨_, _, by go_simp; first | rfl | exact ⟨rfl, rfl⟩, ?_⟩
    exact (fields_any _ _ _ _ _ _ W).mono (fun e W' ⟨v, he, hs, hb⟩ => ⟨v, he, hb, hs⟩)
  refine Mono.rgl_pred (fun v W => SI W v [y, m, d, h, i, s]) rfl hstSI (fun ρ a W hR hd hf => ?h4) ?_
  case h4 =>
    obtain ⟨e9, d1⟩ := Mono.dep_get hd hf (t := 9) (k := 1) (by kernel_rfl)
    replace d1 : (fun v W => SI W v [y, m, d, h, i, s]) (ρ 1) W := d1
    clear hd hf
    exact ⟨ρ 1, W, by go_simp, Mono.rr W, d1⟩
  refine Mono.rgl_pred (fun v W => SI W v [y', m', d', h', i', s']) rfl hstSI (fun ρ a W hR hd hf => ?h5) ?_
  case h5 =>
    obtain ⟨e11, d3⟩ := Mono.dep_get hd hf (t := 11) (k := 3) (by kernel_rfl)
    replace d3 : (fun v W => SI W v [y', m', d', h', i', s']) (ρ 3) W := d3
    clear hd hf
    exact ⟨ρ 3, W, by go_simp, Mono.rr W, d3⟩
  refine Mono.rgl_done rfl (fun ρ W hR ht => ?_)
  obtain ⟨d5, d4, d3, d2, d1, d0, _⟩ := ht
  replace d1 : (fun v W => SI W v [y, m, d, h, i, s]) (ρ 1) W := d1
  replace d3 : (fun v W => SI W v [y', m', d', h', i', s']) (ρ 3) W := d3
  replace d4 : (fun v W => SI W v [y, m, d, h, i, s]) (ρ 4) W := d4
  replace d5 : (fun v W => SI W v [y', m', d', h', i', s']) (ρ 5) W := d5
  simp only [List.length_cons, List.length_nil, Nat.reduceAdd] at d0 d2
  simp only [Mono.putAll, Nat.reduceAdd, d0, d2, Act.put, List.setIfInBounds_toArray, List.set_cons_zero, List.set_cons_succ]
  clear d0 d2
  generalize ρ 1 = r1 at *
  generalize ρ 3 = r3 at *
  generalize ρ 4 = r4 at *
  generalize ρ 5 = r5 at *
  have HZ : Hid (Below w.heap.size w W) := (((Below.refl _ _).alloc (Nat.le_refl _) _).alloc (by simp) _).trans (hR.mono (by simp; omega))
  clear hR HA HB d1 d3
  generalize hla : [y, m, d, h, i, s] = la at *
  generalize hlb : [y', m', d', h', i', s'] = lb at *
  have hl1 : la.length = 6 := by rw [← hla]; rfl
  have hl2 : lb.length = 6 := by rw [← hlb]; rfl
  have HL1 := Lib.hid hl1
  have HL2 := Lib.hid hl2
  clear hla hlb
  obtain ⟨b1, o1, c1, e1, hb1, hc1⟩ := d4
  obtain ⟨b2, o2, c2, e2, hb2, hc2⟩ := d5
  rw [hl1] at hc1 e1
  rw [hl2] at hc2 e2
  subst e1 e2
  have HC1 := Lib.hid hc1
  have HC2 := Lib.hid hc2
  clear hc1 hc2 hl1 hl2
  go_wp2
  go_loopw [7] (fun i wr => ∃ j : Nat, j ≤ 6 ∧ i = .int .i64 j ∧ Hid (∀ k, k < j → (zs la lb).getD k 0 = 0) ∧ Hid (Below W.heap.size W wr)) (fun i _ => 6 - (intOf i).toNat)
  case atStart => exact ⟨0, Nat.zero_le _, rfl, Lib.hid (fun k hk => absurd hk (by omega)), Lib.hid (Below.refl _ _)⟩
  case round =>
    obtain ⟨j, hj, rfl, hz, hbw⟩ := hrel
    by_cases hlt : j < 6
    · have x1 : wr.cell? ⟨b1, o1 + j, none⟩ = _ := (hbw.out.cell (p := ⟨b1, o1 + j, none⟩) hb1).trans (HC1.out j (by omega))
      have x2 : wr.cell? ⟨b2, o2 + j, none⟩ = _ := (hbw.out.cell (p := ⟨b2, o2 + j, none⟩) hb2).trans (HC2.out j (by omega))
      have HG := Lib.hid (zs_getD (HL1.out.trans HL2.out.symm) (by rw [HL1.out]; exact hlt))
      generalize la.getD j 0 = p at *
      generalize lb.getD j 0 = q at *
      rcases Int.lt_trichotomy p q with h1 | h1 | h1
      · go_wp2
        go_quiet (fail)
        go_wp2
        go_ret
        refine ⟨?_, HZ.out.trans ((by first | exact below_drewN (below_drewN hbw.out _) _ | exact below_drewN hbw.out _ : Below W.heap.size W _).mono HZ.out.size)⟩
        rw [HT.out, fnz_at _ j (by rw [zs_length (HL1.out.trans HL2.out.symm), HL1.out]; exact hlt) hz.out (by rw [HG.out]; exact sg_ne (by omega)), HG.out, sg, if_pos h1]
        rfl
      · subst h1
        go_wp2
        go_quiet (fail)
        go_wp2
        go_quiet (fail)
        go_wp2
        go_roundw
        case rel => exact ⟨j + 1, by omega, by go_num, Lib.hid (fun k hk => by rcases Nat.lt_succ_iff_lt_or_eq.1 hk with h | rfl; exact hz.out k h; rw [HG.out, sg_eq]), ⟨hbw.out.os, hbw.out.tape, hbw.out.output, hbw.out.size, hbw.out.block⟩⟩
        case measure => simp [intOf]; omega
      · have h2 : ¬ p < q := by omega
        go_wp2
        go_quiet (fail)
        go_wp2
        go_quiet (fail)
        go_wp2
        go_ret
        refine ⟨?_, HZ.out.trans ((by first | exact below_drewN (below_drewN hbw.out _) _ | exact below_drewN hbw.out _ : Below W.heap.size W _).mono HZ.out.size)⟩
        rw [HT.out, fnz_at _ j (by rw [zs_length (HL1.out.trans HL2.out.symm), HL1.out]; exact hlt) hz.out (by rw [HG.out]; exact sg_ne (by omega)), HG.out, sg, if_neg (by omega), if_pos h1]
        rfl
    · obtain rfl : j = 6 := by omega
      go_wp2
      go_ret
      refine ⟨?_, HZ.out.trans (hbw.out.mono HZ.out.size)⟩
      rw [HT.out, fnz_zero _ (by rw [zs_length (HL1.out.trans HL2.out.symm), HL1.out]; exact hz.out)]
      rfl
end Go.Proofs.Ytpobmngkafmegaa
