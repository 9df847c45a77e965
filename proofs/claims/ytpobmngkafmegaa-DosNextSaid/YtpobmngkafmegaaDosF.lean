/- Contracts of cmp.Compare, cmp.Or and dos.Compare. -/
import Derived.Test.YtpobmngkafmegaaDosA
import Derived.Test.YtpobmngkafmegaaCells
import Derived.Test.YtpobmngkafmegaaMono
namespace Go.Proofs.Ytpobmngkafmegaa
open Go.RowKit
/-- The value is a slice of integers, in memory. -/
def SI (W : World) (v : Value) (l : List Int) : Prop := ∃ b off cap, v = .slice (some ⟨b, off, none⟩) l.length cap ∧ b < W.heap.size ∧ ∀ j, j < l.length → W.cell? ⟨b, off + j, none⟩ = some (.int .i64 (l.getD j 0))
theorem SI.below {W W' : World} {v : Value} {l : List Int} (h : SI W v l) (hb : Below W.heap.size W W') : SI W' v l := by
  obtain ⟨b, off, cap, h1, h2, h3⟩ := h
  exact ⟨b, off, cap, h1, Nat.lt_of_lt_of_le h2 hb.size, fun j hj => (hb.cell (p := ⟨b, off + j, none⟩) h2).trans (h3 j hj)⟩
theorem hstSI {l : List Int} : ∀ v W W', (fun v (W : World) => SI W v l) v W → Below W.heap.size W W' → (fun v (W : World) => SI W v l) v W' := fun _ _ _ h hb => h.below hb
theorem SI.new (W : World) (l : List Int) (t : TypeId) : SI (W.alloc (.cells (l.map (Value.int .i64)).toArray t)) (.slice (some ⟨W.heap.size, 0, none⟩) l.length l.length) l := by
  refine ⟨_, _, _, rfl, by simp, fun j hj => ?_⟩
  rw [World.cell?_alloc_at _ _ _ _ rfl]
  simp [hj]
def sg (a b : Int) : Int := if a < b then -1 else if b < a then 1 else 0
def fnz : List Int → Int
  | [] => 0
  | x :: l => if x = 0 then fnz l else x
theorem fnz_zero : ∀ (l : List Int), (∀ j, j < l.length → l.getD j 0 = 0) → fnz l = 0
  | [], _ => rfl
  | x :: l, h => by
    have h0 : x = 0 := h 0 (by simp)
    rw [fnz, if_pos h0]
    exact fnz_zero l fun j hj => by have := h (j + 1) (by simp; omega); simpa using this
theorem fnz_at : ∀ (l : List Int) (k : Nat), k < l.length → (∀ j, j < k → l.getD j 0 = 0) → l.getD k 0 ≠ 0 → fnz l = l.getD k 0
  | x :: l, 0, _, _, h => by
    have h0 : x ≠ 0 := h
    rw [fnz, if_neg h0]; rfl
  | x :: l, k + 1, hk, hz, h => by
    have h0 : x = 0 := hz 0 (by omega)
    rw [fnz, if_pos h0, fnz_at l k (by simpa using hk) (fun j hj => by have := hz (j + 1) (by omega); simpa using this) (by simpa using h)]
    simp
theorem isNaN_any (a : Int) (w : World) : Calls Try.prog 23 #[.int .i64 a] w fun e w' => e = .returned (.bool false) ∧ w' = w := by
  go_enter Try.func23, Try.ntmps23
  go_wp2
  go_ret
  exact ⟨by simp, rfl⟩
theorem cmp_any (a b : Int) (w : World) : Calls Try.prog 21 #[.int .i64 a, .int .i64 b] w fun e w' => e = .returned (.int .i64 (sg a b)) ∧ w' = w := by
  have HS : Hid (sg a b = if a < b then -1 else if b < a then 1 else 0) := rfl
  generalize sg a b = x at *
  go_enter Try.func21, Try.ntmps21
  go_wp2_with (first | (go_at_call 23; refine (isNaN_any _ _).mono ?_; rintro e w' ⟨rfl, rfl⟩))
  all_goals
    go_ret
    refine ⟨?_, rfl⟩
    rw [HS.out]
    first
      | (rw [if_pos (by assumption)]; rfl)
      | (rw [if_neg (by omega), if_pos (by assumption)]; rfl)
      | (rw [if_neg (by omega), if_neg (by omega)]; rfl)
theorem or_any {w : World} {v : Value} {l : List Int} (h : SI w v l) (hm : l.length ≤ 1000) : Calls Try.prog 20 #[v] w fun e w' => e = .returned (.int .i64 (fnz l)) ∧ w' = w := by
  obtain ⟨b, off, cap, rfl, hb, hc⟩ := h
  have HC := Lib.hid hc
  clear hc
  go_enter Try.func20, Try.ntmps20
  go_wp2
  go_loop [5, 8] (fun _ i => ∃ j : Nat, j ≤ l.length ∧ i = .int .i64 j ∧ Hid (∀ k, k < j → l.getD k 0 = 0)) (fun _ i => l.length - (intOf i).toNat)
  case atStart => exact ⟨0, Nat.zero_le _, rfl, Lib.hid (fun k hk => absurd hk (by omega))⟩
  case round =>
    obtain ⟨j, hj, rfl, hz⟩ := hrel
    by_cases hlt : j < l.length
    · have hc := HC.out j hlt
      generalize hx : l.getD j 0 = x at *
      have HX := Lib.hid hx
      clear hx
      by_cases h0 : x = 0
      · subst h0
        go_wp2
        go_round
        case rel => exact ⟨j + 1, by omega, by go_num, Lib.hid (fun k hk => by rcases Nat.lt_succ_iff_lt_or_eq.1 hk with h | rfl; exact hz.out k h; exact HX.out)⟩
        case measure => simp [intOf]; omega
      · have h0b : (x != 0) = true := by simpa using h0
        go_wp2
        go_ret
        refine ⟨?_, rfl⟩
        rw [fnz_at l j hlt hz.out (by rw [HX.out]; exact h0), HX.out]; rfl
    · obtain rfl : j = l.length := by omega
      go_wp2
      go_ret
      exact ⟨by rw [fnz_zero l hz.out]; rfl, rfl⟩
def cmpT (y m d h i s y' m' d' h' i' s' : Int) : Int := fnz [sg y y', sg m m', sg d d', sg h h', sg i i', sg s s']
set_option maxHeartbeats 1000000 in
theorem compare_any (y m d h i s y' m' d' h' i' s' : Int) (w : World) : Calls Try.prog 13 #[.agg #[.int .i64 y, .int .i64 m, .int .i64 d, .int .i64 h, .int .i64 i, .int .i64 s], .agg #[.int .i64 y', .int .i64 m', .int .i64 d', .int .i64 h', .int .i64 i', .int .i64 s']] w fun e w' => e = .returned (.int .i64 (cmpT y m d h i s y' m' d' h' i' s')) ∧ Below w.heap.size w w' := by
  have HA := Lib.hid ((Cells.new w [.int .i64 y, .int .i64 m, .int .i64 d, .int .i64 h, .int .i64 i, .int .i64 s] 23).below ((Below.refl _ _).alloc (Nat.le_refl _) (.cells #[.int .i64 y', .int .i64 m', .int .i64 d', .int .i64 h', .int .i64 i', .int .i64 s'] 23)) (by simp))
  have HB := Lib.hid (Cells.new_at (w.alloc (.cells #[.int .i64 y, .int .i64 m, .int .i64 d, .int .i64 h, .int .i64 i, .int .i64 s] 23)) [.int .i64 y', .int .i64 m', .int .i64 d', .int .i64 h', .int .i64 i', .int .i64 s'] 23 (w.heap.size + 1) (by simp))
  go_enter Try.func13, Try.ntmps13
  go_wp2
  refine Mono.region_below (by kernel_rfl) (by kernel_rfl) (by kernel_rfl) ?_
  refine Mono.rgl_val (v := ?v0) rfl Mono.rr (fun ρ a W hR hd hf => ?h0) ?_
  case h0 =>
    have e2 := Mono.init_get hf (t := 2) (by kernel_rfl)
    clear hd hf
    (go_simp; try with_reducible rfl)
  refine Mono.rgl_val (v := ?v1) rfl Mono.rr (fun ρ a W hR hd hf => ?h1) ?_
  case h1 =>
    have e5 := Mono.dep_val hd hf (t := 5) (k := 0) (by kernel_rfl) rfl
    have hk := (HA.out.below hR (by simp; omega) : Cells W _ _) 0 _ rfl
    clear hd hf
    (go_simp; try with_reducible rfl)
  refine Mono.rgl_val (v := ?v2) rfl Mono.rr (fun ρ a W hR hd hf => ?h2) ?_
  case h2 =>
    have e3 := Mono.init_get hf (t := 3) (by kernel_rfl)
    clear hd hf
    (go_simp; try with_reducible rfl)
  refine Mono.rgl_val (v := ?v3) rfl Mono.rr (fun ρ a W hR hd hf => ?h3) ?_
  case h3 =>
    have e7 := Mono.dep_val hd hf (t := 7) (k := 2) (by kernel_rfl) rfl
    have hk := (HB.out.below hR (by simp) : Cells W _ _) 0 _ rfl
    clear hd hf
    (go_simp; try with_reducible rfl)
  refine Mono.rgl_call (fun x _ => x = .int .i64 (sg y y')) rfl Mono.rr (fun _ _ _ h _ => h) (fun ρ a W hR hd hf => ?h4) ?_
  case h4 =>
    have e6 := Mono.dep_val hd hf (t := 6) (k := 1) (by kernel_rfl) rfl
    have e8 := Mono.dep_val hd hf (t := 8) (k := 3) (by kernel_rfl) rfl
    clear hd hf
    refine ⟨_, _, by go_simp; first | rfl | exact ⟨rfl, rfl⟩, ?_⟩
    exact (cmp_any _ _ W).mono (fun e W' ⟨he, hw⟩ => ⟨_, he, hw ▸ Mono.rr _, rfl⟩)
  refine Mono.rgl_val (v := ?v5) rfl Mono.rr (fun ρ a W hR hd hf => ?h5) ?_
  case h5 =>
    have e2 := Mono.init_get hf (t := 2) (by kernel_rfl)
    clear hd hf
    (go_simp; try with_reducible rfl)
  refine Mono.rgl_val (v := ?v6) rfl Mono.rr (fun ρ a W hR hd hf => ?h6) ?_
  case h6 =>
    have e10 := Mono.dep_val hd hf (t := 10) (k := 5) (by kernel_rfl) rfl
    have hk := (HA.out.below hR (by simp; omega) : Cells W _ _) 1 _ rfl
    clear hd hf
    (go_simp; try with_reducible rfl)
  refine Mono.rgl_val (v := ?v7) rfl Mono.rr (fun ρ a W hR hd hf => ?h7) ?_
  case h7 =>
    have e3 := Mono.init_get hf (t := 3) (by kernel_rfl)
    clear hd hf
    (go_simp; try with_reducible rfl)
  refine Mono.rgl_val (v := ?v8) rfl Mono.rr (fun ρ a W hR hd hf => ?h8) ?_
  case h8 =>
    have e12 := Mono.dep_val hd hf (t := 12) (k := 7) (by kernel_rfl) rfl
    have hk := (HB.out.below hR (by simp) : Cells W _ _) 1 _ rfl
    clear hd hf
    (go_simp; try with_reducible rfl)
  refine Mono.rgl_call (fun x _ => x = .int .i64 (sg m m')) rfl Mono.rr (fun _ _ _ h _ => h) (fun ρ a W hR hd hf => ?h9) ?_
  case h9 =>
    have e11 := Mono.dep_val hd hf (t := 11) (k := 6) (by kernel_rfl) rfl
    have e13 := Mono.dep_val hd hf (t := 13) (k := 8) (by kernel_rfl) rfl
    clear hd hf
    refine ⟨_, _, by go_simp; first | rfl | exact ⟨rfl, rfl⟩, ?_⟩
    exact (cmp_any _ _ W).mono (fun e W' ⟨he, hw⟩ => ⟨_, he, hw ▸ Mono.rr _, rfl⟩)
  refine Mono.rgl_val (v := ?v10) rfl Mono.rr (fun ρ a W hR hd hf => ?h10) ?_
  case h10 =>
    have e2 := Mono.init_get hf (t := 2) (by kernel_rfl)
    clear hd hf
    (go_simp; try with_reducible rfl)
  refine Mono.rgl_val (v := ?v11) rfl Mono.rr (fun ρ a W hR hd hf => ?h11) ?_
  case h11 =>
    have e15 := Mono.dep_val hd hf (t := 15) (k := 10) (by kernel_rfl) rfl
    have hk := (HA.out.below hR (by simp; omega) : Cells W _ _) 2 _ rfl
    clear hd hf
    (go_simp; try with_reducible rfl)
  refine Mono.rgl_val (v := ?v12) rfl Mono.rr (fun ρ a W hR hd hf => ?h12) ?_
  case h12 =>
    have e3 := Mono.init_get hf (t := 3) (by kernel_rfl)
    clear hd hf
    (go_simp; try with_reducible rfl)
  refine Mono.rgl_val (v := ?v13) rfl Mono.rr (fun ρ a W hR hd hf => ?h13) ?_
  case h13 =>
    have e17 := Mono.dep_val hd hf (t := 17) (k := 12) (by kernel_rfl) rfl
    have hk := (HB.out.below hR (by simp) : Cells W _ _) 2 _ rfl
    clear hd hf
    (go_simp; try with_reducible rfl)
  refine Mono.rgl_call (fun x _ => x = .int .i64 (sg d d')) rfl Mono.rr (fun _ _ _ h _ => h) (fun ρ a W hR hd hf => ?h14) ?_
  case h14 =>
    have e16 := Mono.dep_val hd hf (t := 16) (k := 11) (by kernel_rfl) rfl
    have e18 := Mono.dep_val hd hf (t := 18) (k := 13) (by kernel_rfl) rfl
    clear hd hf
    refine ⟨_, _, by go_simp; first | rfl | exact ⟨rfl, rfl⟩, ?_⟩
    exact (cmp_any _ _ W).mono (fun e W' ⟨he, hw⟩ => ⟨_, he, hw ▸ Mono.rr _, rfl⟩)
  refine Mono.rgl_val (v := ?v15) rfl Mono.rr (fun ρ a W hR hd hf => ?h15) ?_
  case h15 =>
    have e2 := Mono.init_get hf (t := 2) (by kernel_rfl)
    clear hd hf
    (go_simp; try with_reducible rfl)
  refine Mono.rgl_val (v := ?v16) rfl Mono.rr (fun ρ a W hR hd hf => ?h16) ?_
  case h16 =>
    have e20 := Mono.dep_val hd hf (t := 20) (k := 15) (by kernel_rfl) rfl
    have hk := (HA.out.below hR (by simp; omega) : Cells W _ _) 3 _ rfl
    clear hd hf
    (go_simp; try with_reducible rfl)
  refine Mono.rgl_val (v := ?v17) rfl Mono.rr (fun ρ a W hR hd hf => ?h17) ?_
  case h17 =>
    have e3 := Mono.init_get hf (t := 3) (by kernel_rfl)
    clear hd hf
    (go_simp; try with_reducible rfl)
  refine Mono.rgl_val (v := ?v18) rfl Mono.rr (fun ρ a W hR hd hf => ?h18) ?_
  case h18 =>
    have e22 := Mono.dep_val hd hf (t := 22) (k := 17) (by kernel_rfl) rfl
    have hk := (HB.out.below hR (by simp) : Cells W _ _) 3 _ rfl
    clear hd hf
    (go_simp; try with_reducible rfl)
  refine Mono.rgl_call (fun x _ => x = .int .i64 (sg h h')) rfl Mono.rr (fun _ _ _ h _ => h) (fun ρ a W hR hd hf => ?h19) ?_
  case h19 =>
    have e21 := Mono.dep_val hd hf (t := 21) (k := 16) (by kernel_rfl) rfl
    have e23 := Mono.dep_val hd hf (t := 23) (k := 18) (by kernel_rfl) rfl
    clear hd hf
    refine ⟨_, _, by go_simp; first | rfl | exact ⟨rfl, rfl⟩, ?_⟩
    exact (cmp_any _ _ W).mono (fun e W' ⟨he, hw⟩ => ⟨_, he, hw ▸ Mono.rr _, rfl⟩)
  refine Mono.rgl_val (v := ?v20) rfl Mono.rr (fun ρ a W hR hd hf => ?h20) ?_
  case h20 =>
    have e2 := Mono.init_get hf (t := 2) (by kernel_rfl)
    clear hd hf
    (go_simp; try with_reducible rfl)
  refine Mono.rgl_val (v := ?v21) rfl Mono.rr (fun ρ a W hR hd hf => ?h21) ?_
  case h21 =>
    have e25 := Mono.dep_val hd hf (t := 25) (k := 20) (by kernel_rfl) rfl
    have hk := (HA.out.below hR (by simp; omega) : Cells W _ _) 4 _ rfl
    clear hd hf
    (go_simp; try with_reducible rfl)
  refine Mono.rgl_val (v := ?v22) rfl Mono.rr (fun ρ a W hR hd hf => ?h22) ?_
  case h22 =>
    have e3 := Mono.init_get hf (t := 3) (by kernel_rfl)
    clear hd hf
    (go_simp; try with_reducible rfl)
  refine Mono.rgl_val (v := ?v23) rfl Mono.rr (fun ρ a W hR hd hf => ?h23) ?_
  case h23 =>
    have e27 := Mono.dep_val hd hf (t := 27) (k := 22) (by kernel_rfl) rfl
    have hk := (HB.out.below hR (by simp) : Cells W _ _) 4 _ rfl
    clear hd hf
    (go_simp; try with_reducible rfl)
  refine Mono.rgl_call (fun x _ => x = .int .i64 (sg i i')) rfl Mono.rr (fun _ _ _ h _ => h) (fun ρ a W hR hd hf => ?h24) ?_
  case h24 =>
    have e26 := Mono.dep_val hd hf (t := 26) (k := 21) (by kernel_rfl) rfl
    have e28 := Mono.dep_val hd hf (t := 28) (k := 23) (by kernel_rfl) rfl
    clear hd hf
    refine ⟨_, _, by go_simp; first | rfl | exact ⟨rfl, rfl⟩, ?_⟩
    exact (cmp_any _ _ W).mono (fun e W' ⟨he, hw⟩ => ⟨_, he, hw ▸ Mono.rr _, rfl⟩)
  refine Mono.rgl_val (v := ?v25) rfl Mono.rr (fun ρ a W hR hd hf => ?h25) ?_
  case h25 =>
    have e2 := Mono.init_get hf (t := 2) (by kernel_rfl)
    clear hd hf
    (go_simp; try with_reducible rfl)
  refine Mono.rgl_val (v := ?v26) rfl Mono.rr (fun ρ a W hR hd hf => ?h26) ?_
  case h26 =>
    have e30 := Mono.dep_val hd hf (t := 30) (k := 25) (by kernel_rfl) rfl
    have hk := (HA.out.below hR (by simp; omega) : Cells W _ _) 5 _ rfl
    clear hd hf
    (go_simp; try with_reducible rfl)
  refine Mono.rgl_val (v := ?v27) rfl Mono.rr (fun ρ a W hR hd hf => ?h27) ?_
  case h27 =>
    have e3 := Mono.init_get hf (t := 3) (by kernel_rfl)
    clear hd hf
    (go_simp; try with_reducible rfl)
  refine Mono.rgl_val (v := ?v28) rfl Mono.rr (fun ρ a W hR hd hf => ?h28) ?_
  case h28 =>
    have e32 := Mono.dep_val hd hf (t := 32) (k := 27) (by kernel_rfl) rfl
    have hk := (HB.out.below hR (by simp) : Cells W _ _) 5 _ rfl
    clear hd hf
    (go_simp; try with_reducible rfl)
  refine Mono.rgl_call (fun x _ => x = .int .i64 (sg s s')) rfl Mono.rr (fun _ _ _ h _ => h) (fun ρ a W hR hd hf => ?h29) ?_
  case h29 =>
    have e31 := Mono.dep_val hd hf (t := 31) (k := 26) (by kernel_rfl) rfl
    have e33 := Mono.dep_val hd hf (t := 33) (k := 28) (by kernel_rfl) rfl
    clear hd hf
    refine ⟨_, _, by go_simp; first | rfl | exact ⟨rfl, rfl⟩, ?_⟩
    exact (cmp_any _ _ W).mono (fun e W' ⟨he, hw⟩ => ⟨_, he, hw ▸ Mono.rr _, rfl⟩)
  refine Mono.rgl_pred (fun v W => SI W v [sg y y', sg m m', sg d d', sg h h', sg i i', sg s s']) rfl hstSI (fun ρ a W hR hd hf => ?h30) ?_
  case h30 =>
    have e9 := Mono.dep_val hd hf (t := 9) (k := 4) (by kernel_rfl) rfl
    have e14 := Mono.dep_val hd hf (t := 14) (k := 9) (by kernel_rfl) rfl
    have e19 := Mono.dep_val hd hf (t := 19) (k := 14) (by kernel_rfl) rfl
    have e24 := Mono.dep_val hd hf (t := 24) (k := 19) (by kernel_rfl) rfl
    have e29 := Mono.dep_val hd hf (t := 29) (k := 24) (by kernel_rfl) rfl
    have e34 := Mono.dep_val hd hf (t := 34) (k := 29) (by kernel_rfl) rfl
    clear hd hf
    exact ⟨_, _, by go_simp; rfl, (Below.refl _ _).alloc (Nat.le_refl _) _, SI.new W _ _⟩
  refine Mono.rgl_call (fun x _ => x = .int .i64 (fnz [sg y y', sg m m', sg d d', sg h h', sg i i', sg s s'])) rfl Mono.rr (fun _ _ _ h _ => h) (fun ρ a W hR hd hf => ?h31) ?_
  case h31 =>
    obtain ⟨e35, d30⟩ := Mono.dep_get hd hf (t := 35) (k := 30) (by kernel_rfl)
    replace d30 : (fun v W => SI W v [sg y y', sg m m', sg d d', sg h h', sg i i', sg s s']) (ρ 30) W := d30
    clear hd hf
    refine ⟨_, _, by go_simp; first | rfl | exact ⟨rfl, rfl⟩, ?_⟩
    exact (or_any d30 (by simp)).mono (fun e W' ⟨he, hw⟩ => ⟨_, he, hw ▸ Mono.rr _, rfl⟩)
  refine Mono.rgl_val (v := ?v32) rfl Mono.rr (fun ρ a W hR hd hf => ?h32) ?_
  case h32 =>
    have e36 := Mono.dep_val hd hf (t := 36) (k := 31) (by kernel_rfl) rfl
    clear hd hf
    (go_simp; try with_reducible rfl)
  refine Mono.rgl_done rfl (fun ρ W hR ht => ?_)
  obtain ⟨d32, d31, d30, d29, d28, d27, d26, d25, d24, d23, d22, d21, d20, d19, d18, d17, d16, d15, d14, d13, d12, d11, d10, d9, d8, d7, d6, d5, d4, d3, d2, d1, d0, _⟩ := ht
  replace d30 : (fun v W => SI W v [sg y y', sg m m', sg d d', sg h h', sg i i', sg s s']) (ρ 30) W := d30
  simp only [List.length_cons, List.length_nil, Nat.reduceAdd] at d0 d1 d2 d3 d4 d5 d6 d7 d8 d9 d10 d11 d12 d13 d14 d15 d16 d17 d18 d19 d20 d21 d22 d23 d24 d25 d26 d27 d28 d29 d31 d32
  simp only [Mono.putAll, Nat.reduceAdd, d0, d1, d2, d3, d4, d5, d6, d7, d8, d9, d10, d11, d12, d13, d14, d15, d16, d17, d18, d19, d20, d21, d22, d23, d24, d25, d26, d27, d28, d29, d31, d32, Act.put, List.setIfInBounds_toArray, List.set_cons_zero, List.set_cons_succ]
  clear d0 d1 d2 d3 d4 d5 d6 d7 d8 d9 d10 d11 d12 d13 d14 d15 d16 d17 d18 d19 d20 d21 d22 d23 d24 d25 d26 d27 d28 d29 d31 d32
  generalize ρ 30 = r30 at *
  have HZ : Hid (Below w.heap.size w W) := (((Below.refl _ _).alloc (Nat.le_refl _) _).alloc (by simp) _).trans (hR.mono (by simp; omega))
  clear hR d30
  go_wp2
  go_ret
  exact ⟨rfl, HZ.out⟩
end Go.Proofs.Ytpobmngkafmegaa
