/- Contracts of Reader's Bytes. -/
import Derived.Test.YtcpojpgdjjmfbaaDoorRd
import Derived.Test.YtcpojpgdjjmfbaaDoorMono
namespace Go.Proofs.YtcpojpgdjjmfbaaDoor
set_option linter.unusedVariables false
set_option linter.unusedSimpArgs false
set_option maxRecDepth 100000
open Go.RowKit
theorem OB.setR {base : Nat} {w : World} {v : Value} {l : List UInt8} (h : OB base w v l) {k : Nat} (hk : k < base) (j : Nat) (u : Value) : OB base (w.setCell ⟨k, j, none⟩ u) v l :=
  World.ownsRow.kept h (only_setCell (only_refl w (some k)) (.inl rfl) u) (by
    cases hb : v.ownBlock with
    | none => exact .inl rfl
    | some g => exact .inr (fun e => by injection e with e; have := (World.ownsRow.lt h g hb).1; omega))
theorem hstOB {base : Nat} {l : List UInt8} : ∀ v W W', (fun v (W : World) => OB base W v l) v W → Below W.heap.size W W' → (fun v (W : World) => OB base W v l) v W' := fun _ _ _ h hb => h.below hb
set_option maxHeartbeats 1000000 in
theorem bytes_yes {w : World} {rb p : Nat} {l : List UInt8} (h : RD w rb l p) (n : Nat) (hn : p + n ≤ l.length) :
    Calls Tryd.prog 43 #[.pointer (some ⟨rb, 0, none⟩), .int .i64 (n : Nat)] w fun e w' => ∃ a k c, e = .returned (.slice a k c) ∧ OB w.heap.size w' (.slice a k c) ((l.drop p).take n) ∧ RD w' rb l (p + n) ∧ Bx [rb] w.heap.size w w' := by
  have HRD := Lib.hid h
  obtain ⟨a, cap, h1, h2, h3, h4, h5, h6⟩ := h
  have hw : IntKind.i64.wrap ((p : Int) + (n : Int)) = (p : Int) + n := IntWalk.i64_in _ (by omega)
  have hsl := fun W => slice_lh (t := 31) (e := 5) (size := 1) rfl size_u8 a l.length cap (p : Int) ((p : Int) + (n : Int)) (by omega) (by omega) (by omega) W
  have hsb := sub_byt h2 p n (by omega)
  rw [show ((p : Int) + (n : Int)).toNat = p + n from by omega, Int.toNat_natCast, show p + n - p = n from by omega] at hsl
  generalize Value.slice (if cap = p then a else a.map (·.add (p * 1))) n (cap - p) = S at *
  have HSB := Lib.hid hsb
  have t1 : decide ((n : Int) ≤ (l.length : Int) - (p : Int)) = true := by simp; omega
  have t0 : decide (0 ≤ (n : Int)) = true := by simp
  have HK := Lib.hid h1
  clear h2 hsb h1
  have HSL := Lib.hid hsl
  have HW := Lib.hid hw
  clear hsl hw
  go_enter Tryd.func43, Tryd.ntmps43
  go_wp2_with fail
  refine (check_yes _ _).mono ?_
  rintro e w' ⟨rfl, rfl⟩
  go_wp2_with fail
  refine (left_any HRD.out).mono ?_
  rintro e w1 ⟨rfl, m, rfl⟩
  go_wp2_with fail
  refine (check_yes _ _).mono ?_
  rintro e w' ⟨rfl, rfl⟩
  have HD1 := Lib.hid (HRD.out.drewN m)
  have HB1 : Hid (Bx [rb] w.heap.size w (w.drewN m)) := Lib.hid (Bx.of_gr (gr_drewN w m (some rb)))
  have HK1 := Lib.hid (HK.out.below (below_drewN (Below.refl w.heap.size w) m) h6)
  have HSB1 := Lib.hid (HSB.out.below (below_drewN (Below.refl rb w) m))
  have h6' : rb < (w.drewN m).heap.size := h6
  have hsz : (w.drewN m).heap.size = w.heap.size := rfl
  have HSZ := Lib.hid hsz
  clear h6 hsz
  generalize w.drewN m = w1 at *
  have h6 := h6'
  clear h6'
  go_wp2_with fail
  refine Mono.region_below (by kernel_rfl) (by kernel_rfl) (by kernel_rfl) ?_
  refine Mono.rgl_val (v := ?v0) rfl Mono.rr (fun ρ a W hR hd hf => ?h0) ?_
  case h0 =>
    have e0 := Mono.init_get hf (t := 0) (by kernel_rfl)
    clear hd hf
    (go_simp; try with_reducible rfl)
  refine Mono.rgl_val (v := ?v1) rfl Mono.rr (fun ρ a W hR hd hf => ?h1) ?_
  case h1 =>
    have e14 := Mono.dep_val hd hf (t := 14) (k := 0) (by kernel_rfl) rfl
    clear hd hf
    (go_simp; try with_reducible rfl)
  refine Mono.rgl_val (v := ?v2) rfl Mono.rr (fun ρ a W hR hd hf => ?h2) ?_
  case h2 =>
    have e15 := Mono.dep_val hd hf (t := 15) (k := 1) (by kernel_rfl) rfl
    clear hd hf
    (go_simp; try with_reducible rfl)
  refine Mono.rgl_val (v := ?v3) rfl Mono.rr (fun ρ a W hR hd hf => ?h3) ?_
  case h3 =>
    have e16 := Mono.dep_val hd hf (t := 16) (k := 2) (by kernel_rfl) rfl
    have hk := (HK1.out.below hR h6 : Own W rb _).1 0 _ rfl
    clear hd hf
    (go_simp; try with_reducible rfl)
  refine Mono.rgl_val (v := ?v4) rfl Mono.rr (fun ρ a W hR hd hf => ?h4) ?_
  case h4 =>
    have e0 := Mono.init_get hf (t := 0) (by kernel_rfl)
    clear hd hf
    (go_simp; try with_reducible rfl)
  refine Mono.rgl_val (v := ?v5) rfl Mono.rr (fun ρ a W hR hd hf => ?h5) ?_
  case h5 =>
    have e18 := Mono.dep_val hd hf (t := 18) (k := 4) (by kernel_rfl) rfl
    clear hd hf
    (go_simp; try with_reducible rfl)
  refine Mono.rgl_val (v := ?v6) rfl Mono.rr (fun ρ a W hR hd hf => ?h6) ?_
  case h6 =>
    have e19 := Mono.dep_val hd hf (t := 19) (k := 5) (by kernel_rfl) rfl
    clear hd hf
    (go_simp; try with_reducible rfl)
  refine Mono.rgl_val (v := ?v7) rfl Mono.rr (fun ρ a W hR hd hf => ?h7) ?_
  case h7 =>
    have e20 := Mono.dep_val hd hf (t := 20) (k := 6) (by kernel_rfl) rfl
    have hk := (HK1.out.below hR h6 : Own W rb _).1 1 _ rfl
    clear hd hf
    (go_simp; try with_reducible rfl)
  refine Mono.rgl_val (v := ?v8) rfl Mono.rr (fun ρ a W hR hd hf => ?h8) ?_
  case h8 =>
    have e0 := Mono.init_get hf (t := 0) (by kernel_rfl)
    clear hd hf
    (go_simp; try with_reducible rfl)
  refine Mono.rgl_val (v := ?v9) rfl Mono.rr (fun ρ a W hR hd hf => ?h9) ?_
  case h9 =>
    have e22 := Mono.dep_val hd hf (t := 22) (k := 8) (by kernel_rfl) rfl
    clear hd hf
    (go_simp; try with_reducible rfl)
  refine Mono.rgl_val (v := ?v10) rfl Mono.rr (fun ρ a W hR hd hf => ?h10) ?_
  case h10 =>
    have e23 := Mono.dep_val hd hf (t := 23) (k := 9) (by kernel_rfl) rfl
    clear hd hf
    (go_simp; try with_reducible rfl)
  refine Mono.rgl_val (v := ?v11) rfl Mono.rr (fun ρ a W hR hd hf => ?h11) ?_
  case h11 =>
    have e24 := Mono.dep_val hd hf (t := 24) (k := 10) (by kernel_rfl) rfl
    have hk := (HK1.out.below hR h6 : Own W rb _).1 1 _ rfl
    clear hd hf
    (go_simp; try with_reducible rfl)
  refine Mono.rgl_val (v := ?v12) rfl Mono.rr (fun ρ a W hR hd hf => ?h12) ?_
  case h12 =>
    have e1 := Mono.init_get hf (t := 1) (by kernel_rfl)
    clear hd hf
    (go_simp; try with_reducible rfl)
  refine Mono.rgl_val (v := ?v13) rfl Mono.rr (fun ρ a W hR hd hf => ?h13) ?_
  case h13 =>
    have e25 := Mono.dep_val hd hf (t := 25) (k := 11) (by kernel_rfl) rfl
    have e26 := Mono.dep_val hd hf (t := 26) (k := 12) (by kernel_rfl) rfl
    have hw := HW.out
    clear hd hf
    (go_simp; try with_reducible rfl)
  refine Mono.rgl_val (v := ?v14) rfl Mono.rr (fun ρ a W hR hd hf => ?h14) ?_
  case h14 =>
    have e17 := Mono.dep_val hd hf (t := 17) (k := 3) (by kernel_rfl) rfl
    have e21 := Mono.dep_val hd hf (t := 21) (k := 7) (by kernel_rfl) rfl
    have e27 := Mono.dep_val hd hf (t := 27) (k := 13) (by kernel_rfl) rfl
    have hsl := HSL.out W
    clear hd hf
    (go_simp; try with_reducible rfl)
  refine Mono.rgl_call (fun z W => OB w1.heap.size W z ((l.drop p).take n)) rfl Mono.rr hstOB (fun ρ a W hR hd hf => ?h15) ?_
  case h15 =>
    have e28 := Mono.dep_val hd hf (t := 28) (k := 14) (by kernel_rfl) rfl
    clear hd hf
    refine ⟨_, _, by go_simp; first | rfl | exact ⟨rfl, rfl⟩, ?_⟩
    exact (clone_any (HSB1.out.below (hR.mono (Nat.le_of_lt h6))) (by rw [List.length_take]; omega)).mono (fun e W' ⟨v', he, ho, hb⟩ => ⟨v', he, hb, OB.mono ho hR.size⟩)
  refine Mono.rgl_pred (fun z W => OB w1.heap.size W z ((l.drop p).take n)) rfl hstOB (fun ρ a W hR hd hf => ?h16) ?_
  case h16 =>
    obtain ⟨e29, d15⟩ := Mono.dep_get hd hf (t := 29) (k := 15) (by kernel_rfl)
    replace d15 : (fun z W => OB w1.heap.size W z ((l.drop p).take n)) (ρ 15) W := d15
    clear hd hf
    exact ⟨ρ 15, W, by go_simp, Mono.rr W, d15⟩
  refine Mono.rgl_done rfl (fun ρ W hR ht => ?_)
  obtain ⟨d16, d15, d14, d13, d12, d11, d10, d9, d8, d7, d6, d5, d4, d3, d2, d1, d0, _⟩ := ht
  replace d15 : (fun z W => OB w1.heap.size W z ((l.drop p).take n)) (ρ 15) W := d15
  replace d16 : (fun z W => OB w1.heap.size W z ((l.drop p).take n)) (ρ 16) W := d16
  simp only [List.length_cons, List.length_nil, Nat.reduceAdd] at d0 d1 d2 d3 d4 d5 d6 d7 d8 d9 d10 d11 d12 d13 d14
  simp only [Mono.putAll, Nat.reduceAdd, d0, d1, d2, d3, d4, d5, d6, d7, d8, d9, d10, d11, d12, d13, d14, Act.put, List.setIfInBounds_toArray, List.set_cons_zero, List.set_cons_succ]
  clear d0 d1 d2 d3 d4 d5 d6 d7 d8 d9 d10 d11 d12 d13 d14
  generalize ρ 15 = r15 at *
  generalize ρ 16 = r16 at *
  have HD2 := Lib.hid (HD1.out.below hR)
  have HB2 := Lib.hid (HB1.out.trans (Bx.of_below (hR.mono (by rw [HSZ.out]; exact Nat.le_refl _))))
  have HK2 := Lib.hid (HK1.out.below hR h6)
  have HOB := Lib.hid d16
  have h6W : rb < W.heap.size := Nat.lt_of_lt_of_le h6 hR.size
  clear hR d15 d16
  obtain ⟨w2, rfl⟩ : ∃ z, z = W := ⟨_, rfl⟩
  obtain ⟨ar, cr, hr, _⟩ := HOB.out.form
  subst hr
  have k0 := HK2.out.1 0 _ rfl
  have k1 := HK2.out.1 1 _ rfl
  have hf := HK2.out.2
  have hw := HW.out
  go_wp2
  go_ret
  refine ⟨_, _, _, rfl, ?_, ?_, ?_⟩
  · have := HOB.out
    rw [HSZ.out] at this
    exact OB.setR this (by rw [← HSZ.out]; exact h6) 1 _
  · have := HD2.out.moved (p + n) hn
    simpa using this
  · exact HB2.out.setCell (.inl (by simp)) _
theorem bytes_arg {w : World} {rb p : Nat} {l : List UInt8} (h : RD w rb l p) (n : Int) (hn : n < 0) :
    Calls Tryd.prog 43 #[.pointer (some ⟨rb, 0, none⟩), .int .i64 n] w fun e w' => e = .panicked (fault 1) ∧ RD w' rb l p ∧ Bx [rb] w.heap.size w w' := by
  have HRD := Lib.hid h
  have t0 : decide (0 ≤ n) = false := by simp; omega
  clear h hn
  go_enter Tryd.func43, Tryd.ntmps43
  go_wp2_with fail
  refine (check_no _ _).mono ?_
  rintro e w' ⟨rfl, rfl⟩
  go_wp2
  exact ⟨rfl, rfl, HRD.out, Bx.refl _ _ _⟩
theorem bytes_short {w : World} {rb p : Nat} {l : List UInt8} (h : RD w rb l p) (n : Int) (h0 : 0 ≤ n) (hn : (l.length : Int) - p < n) :
    Calls Tryd.prog 43 #[.pointer (some ⟨rb, 0, none⟩), .int .i64 n] w fun e w' => e = .panicked (fault 4) ∧ RD w' rb l p ∧ Bx [rb] w.heap.size w w' := by
  have HRD := Lib.hid h
  have t0 : decide (0 ≤ n) = true := by simpa using h0
  have t1 : decide (n ≤ (l.length : Int) - (p : Int)) = false := by simp; omega
  clear h h0 hn
  go_enter Tryd.func43, Tryd.ntmps43
  go_wp2_with fail
  refine (check_yes _ _).mono ?_
  rintro e w' ⟨rfl, rfl⟩
  go_wp2_with fail
  refine (left_any HRD.out).mono ?_
  rintro e w1 ⟨rfl, m, rfl⟩
  go_wp2_with fail
  refine (check_no _ _).mono ?_
  rintro e w' ⟨rfl, rfl⟩
  go_wp2
  exact ⟨rfl, rfl, HRD.out.drewN m, Bx.of_gr (gr_drewN w m _)⟩
end Go.Proofs.YtcpojpgdjjmfbaaDoor
