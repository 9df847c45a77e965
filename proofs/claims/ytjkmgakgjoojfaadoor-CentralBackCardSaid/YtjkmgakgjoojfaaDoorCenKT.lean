/- The page's Parse of layer 29: the walk of one kind. -/
import Derived.Test.YtjkmgakgjoojfaaDoorCenK
namespace Go.Proofs.YtjkmgakgjoojfaaDoor
set_option maxRecDepth 100000
set_option linter.unusedVariables false
set_option linter.unusedSimpArgs false
open Go.RowKit
set_option maxHeartbeats 16000000 in
set_option maxRecDepth 100000 in
theorem rparseC_core_t (ad : Option Addr) (c : Nat) (l : List UInt8) (w : World) (h : Byt w w.heap.size (.slice ad l.length c) l) (hl : l.length ≤ 100000) (hc : l.length ≤ c) (nm : ByteArray) (n C D me cr p4 s4 a4 v4 f6 : Nat) (t1 t2 t3 t4 t5 t6 : Int) (ok gl : Bool) (hn : 46 + n ≤ l.length) (hf6 : f6 < 65536) (hcr : cr < 4294967296) (N28 : Hid (∀ W : World, Below w.heap.size w W → Calls Tryd.prog 30 #[.slice ad l.length c, .int .i64 28, .int .i64 2] W fun e w' => e = .returned (.int .i64 (n : Nat)) ∧ w' = W)) (N14 : Hid (∀ W : World, Below w.heap.size w W → Calls Tryd.prog 30 #[.slice ad l.length c, .int .i64 14, .int .i64 2] W fun e w' => e = .returned (.int .i64 (D : Nat)) ∧ w' = W)) (N12 : Hid (∀ W : World, Below w.heap.size w W → Calls Tryd.prog 30 #[.slice ad l.length c, .int .i64 12, .int .i64 2] W fun e w' => e = .returned (.int .i64 (C : Nat)) ∧ w' = W)) (N10 : Hid (∀ W : World, Below w.heap.size w W → Calls Tryd.prog 30 #[.slice ad l.length c, .int .i64 10, .int .i64 2] W fun e w' => e = .returned (.int .i64 (me : Nat)) ∧ w' = W)) (N16 : Hid (∀ W : World, Below w.heap.size w W → Calls Tryd.prog 30 #[.slice ad l.length c, .int .i64 16, .int .i64 4] W fun e w' => e = .returned (.int .i64 (cr : Nat)) ∧ w' = W)) (N20 : Hid (∀ W : World, Below w.heap.size w W → Calls Tryd.prog 30 #[.slice ad l.length c, .int .i64 20, .int .i64 4] W fun e w' => e = .returned (.int .i64 (p4 : Nat)) ∧ w' = W)) (N24 : Hid (∀ W : World, Below w.heap.size w W → Calls Tryd.prog 30 #[.slice ad l.length c, .int .i64 24, .int .i64 4] W fun e w' => e = .returned (.int .i64 (s4 : Nat)) ∧ w' = W)) (N42 : Hid (∀ W : World, Below w.heap.size w W → Calls Tryd.prog 30 #[.slice ad l.length c, .int .i64 42, .int .i64 4] W fun e w' => e = .returned (.int .i64 (a4 : Nat)) ∧ w' = W)) (N6 : Hid (∀ W : World, Below w.heap.size w W → Calls Tryd.prog 30 #[.slice ad l.length c, .int .i64 6, .int .i64 2] W fun e w' => e = .returned (.int .i64 (v4 : Nat)) ∧ w' = W)) (N8 : Hid (∀ W : World, Below w.heap.size w W → Calls Tryd.prog 30 #[.slice ad l.length c, .int .i64 8, .int .i64 2] W fun e w' => e = .returned (.int .i64 (f6 : Nat)) ∧ w' = W)) (ENM : Hid (str ((l.drop 46).take n) = nm)) (HVW : Hid (((v4 : Int) == 45) = true)) (HL : Hid (((f6 : Int) / 8 % 2 == 1) = gl)) (HDEC : Hid (∀ W : World, Calls Tryd.prog 31 #[.int .i64 (D : Nat), .int .i64 (C : Nat)] W fun e w' => e = .returned (.tuple #[.agg #[.int .i64 t1, .int .i64 t2, .int .i64 t3, .int .i64 t4, .int .i64 t5, .int .i64 t6], .bool ok]) ∧ Below W.heap.size W w'))
    (E10 : Hid (rd l 10 2 = me)) (E12 : Hid (rd l 12 2 = C)) (E14 : Hid (rd l 14 2 = D)) (E16 : Hid (rd l 16 4 = cr)) (E28 : Hid (rd l 28 2 = n)) (NM : Hid (nmC l = nm)) (GW : Hid (gwC l = true)) (GL : Hid (glC l = gl)) (HOK : Hid (ok = tmB D C)) (HTT : Hid (ok = true → 1980 + (D : Int) / 512 = t1 ∧ (D : Int) / 32 % 16 = t2 ∧ (D : Int) % 32 = t3 ∧ (C : Int) / 2048 = t4 ∧ (C : Int) / 32 % 64 = t5 ∧ (C : Int) % 32 * 2 = t6)) (p8 s8 a8 : Nat) (H8 : Hid (rd l (50 + n) 8 = s8 ∧ rd l (58 + n) 8 = p8 ∧ rd l (66 + n) 8 = a8)) (PKG : Hid (pkNC l = p8 ∧ szNC l = s8 ∧ plNC l = a8))
    (B8 : Hid (74 + n ≤ l.length → ∀ k : Nat, k < 3 → ∀ W : World, Below w.heap.size w W → ∃ a' c', (∀ V : World, (Instr.slice 33 (.slice ad l.length c) (some (.int .i64 (50 + (n : Int) + 8 * (k : Int)))) (some (.int .i64 (58 + (n : Int) + 8 * (k : Int)))) none).run Tryd.prog V = .ok (.slice a' 8 c') V) ∧ Calls Tryd.prog 32 #[.slice a' 8 c'] W fun e w' => e = .returned (.int .u64 (rd l (50 + n + 8 * k) 8 : Nat)) ∧ w' = W))
    (N50 : Hid (74 + n ≤ l.length → s8 ≤ 8589934592 → ∀ W : World, Below w.heap.size w W → Calls Tryd.prog 30 #[.slice ad l.length c, .int .i64 (50 + (n : Int)), .int .i64 8] W fun e w' => e = .returned (.int .i64 (s8 : Nat)) ∧ w' = W)) (N58 : Hid (74 + n ≤ l.length → p8 ≤ 8589934592 → ∀ W : World, Below w.heap.size w W → Calls Tryd.prog 30 #[.slice ad l.length c, .int .i64 (58 + (n : Int)), .int .i64 8] W fun e w' => e = .returned (.int .i64 (p8 : Nat)) ∧ w' = W)) (N66 : Hid (74 + n ≤ l.length → a8 ≤ 8589934592 → ∀ W : World, Below w.heap.size w W → Calls Tryd.prog 30 #[.slice ad l.length c, .int .i64 (66 + (n : Int)), .int .i64 8] W fun e w' => e = .returned (.int .i64 (a8 : Nat)) ∧ w' = W)) :
    Calls Tryd.prog 13 #[.slice ad l.length c] w (PPC l w) := by
  have t0 : decide ((l.length : Int) < 46) = false := by simp; omega
  have q1 : IntKind.i64.wrap ((l.length : Int) - 46) = (l.length : Int) - 46 := IntWalk.i64_in _ (by omega)
  have t1' : decide ((l.length : Int) - 46 < (n : Int)) = false := by simp; omega
  have Q46 : Hid (IntKind.i64.wrap (46 + (n : Int)) = 46 + n) := Lib.hid (IntWalk.i64_in _ (by omega))
  have Q_cr : Hid (IntKind.u32.wrap (cr : Int) = cr) := Lib.hid (by rw [IntKind.wrap_u32]; omega)
  have Q8 : Hid (IntKind.i64.wrap ((f6 : Int) / 8) = (f6 : Int) / 8) := Lib.hid (IntWalk.i64_in _ (by omega))
  have Q2 : Hid (((f6 : Int) / 8).tmod 2 = (f6 : Int) / 8 % 2) := Lib.hid (Int.tmod_eq_emod_of_nonneg (by omega))
  have HH := Lib.hid h
  obtain ⟨sa, sc, hsl, hsc, hsb⟩ := cut_byt h hc 46 (46 + n) (by omega) (by omega)
  rw [show 46 + n - 46 = n by omega] at hsl hsc hsb
  have HSL : Hid (∀ W : World, (Instr.slice 33 (.slice ad l.length c) (some (.int .i64 46)) (some (.int .i64 (46 + (n : Int)))) none).run Tryd.prog W = .ok (.slice sa n sc) W) := Lib.hid (by intro W; have := hsl W; rw [show ((46 + n : Nat) : Int) = 46 + (n : Int) by omega] at this; exact this)
  have HSB := Lib.hid hsb
  have HP := Lib.hid ((Own.new_at w [.string ByteArray.empty, .int .i64 0, .int .i64 0, .int .i64 0, .int .i64 0, .int .i64 0, .int .i64 0, .int .i64 0, .int .u32 0, .int .i64 0, .int .i64 0, .bool false, .bool false] 30 w.heap.size rfl).below ((Below.refl _ _).alloc (Nat.le_refl _) (.cells #[.string ByteArray.empty, .int .i64 0, .int .i64 0, .int .i64 0, .int .i64 0, .int .i64 0, .int .i64 0, .int .i64 0, .int .u32 0, .int .i64 0, .int .i64 0, .bool false, .bool false] 30)) (by simp))
  have HN0 := Lib.hid (Own.new_at (w.alloc (.cells #[.string ByteArray.empty, .int .i64 0, .int .i64 0, .int .i64 0, .int .i64 0, .int .i64 0, .int .i64 0, .int .i64 0, .int .u32 0, .int .i64 0, .int .i64 0, .bool false, .bool false] 30)) [.string ByteArray.empty, .int .i64 0, .int .i64 0, .int .i64 0, .int .i64 0, .int .i64 0, .int .i64 0, .int .i64 0, .int .u32 0, .int .i64 0, .int .i64 0, .bool false, .bool false] 30 (w.heap.size + 1) (by simp))
  have HB := Lib.hid (((Below.refl w.heap.size w).alloc (Nat.le_refl _) (.cells #[.string ByteArray.empty, .int .i64 0, .int .i64 0, .int .i64 0, .int .i64 0, .int .i64 0, .int .i64 0, .int .i64 0, .int .u32 0, .int .i64 0, .int .i64 0, .bool false, .bool false] 30)).alloc (by simp) (.cells #[.string ByteArray.empty, .int .i64 0, .int .i64 0, .int .i64 0, .int .i64 0, .int .i64 0, .int .i64 0, .int .i64 0, .int .u32 0, .int .i64 0, .int .i64 0, .bool false, .bool false] 30))
  clear h hsl hsc hsb
  go_enter Tryd.func13, Tryd.ntmps13
  go_wp2_with (fail)
  refine (N28.out _ HB.out).mono ?_
  rintro e w' ⟨rfl, hw'⟩
  subst w'
  go_wp2_with (fail)
  clear t0 q1 t1'
  generalize hw0 : ((w.alloc (.cells #[.string ByteArray.empty, .int .i64 0, .int .i64 0, .int .i64 0, .int .i64 0, .int .i64 0, .int .i64 0, .int .i64 0, .int .u32 0, .int .i64 0, .int .i64 0, .bool false, .bool false] 30)).alloc (.cells #[.string ByteArray.empty, .int .i64 0, .int .i64 0, .int .i64 0, .int .i64 0, .int .i64 0, .int .i64 0, .int .i64 0, .int .u32 0, .int .i64 0, .int .i64 0, .bool false, .bool false] 30)) = w0 at *
  have hz0 : w0.heap.size = w.heap.size + 2 := by rw [← hw0]; simp
  clear hw0
  refine (N28.out _ HB.out).mono ?_
  rintro e w' ⟨rfl, hw'⟩
  subst w'
  go_wp2_with (fail)
  refine (N14.out _ HB.out).mono ?_
  rintro e w' ⟨rfl, hw'⟩
  subst w'
  go_wp2_with (fail)
  refine (N12.out _ HB.out).mono ?_
  rintro e w' ⟨rfl, hw'⟩
  subst w'
  go_wp2_with (fail)
  refine (HDEC.out _).mono ?_
  rintro e w1 ⟨rfl, hb⟩
  have hz1 := hb.size
  have HP := Lib.hid (HP.out.below hb (by omega))
  have HN0 := Lib.hid (HN0.out.below hb (by omega))
  have HB := Lib.hid (HB.out.trans (hb.mono (by omega)))
  clear hb
  go_wp2_with (fail)
  have HT := Lib.hid (Own.new_at w1 [.int .i64 t1, .int .i64 t2, .int .i64 t3, .int .i64 t4, .int .i64 t5, .int .i64 t6] 23 w1.heap.size rfl)
  have HP := Lib.hid (HP.out.below ((Below.refl _ _).alloc (Nat.le_refl _) (.cells #[.int .i64 t1, .int .i64 t2, .int .i64 t3, .int .i64 t4, .int .i64 t5, .int .i64 t6] 23)) (by omega))
  have HN0 := Lib.hid (HN0.out.below ((Below.refl _ _).alloc (Nat.le_refl _) (.cells #[.int .i64 t1, .int .i64 t2, .int .i64 t3, .int .i64 t4, .int .i64 t5, .int .i64 t6] 23)) (by omega))
  have HB := Lib.hid (HB.out.alloc (by omega) (.cells #[.int .i64 t1, .int .i64 t2, .int .i64 t3, .int .i64 t4, .int .i64 t5, .int .i64 t6] 23))
  have hz2 : w1.heap.size < (w1.alloc (.cells #[.int .i64 t1, .int .i64 t2, .int .i64 t3, .int .i64 t4, .int .i64 t5, .int .i64 t6] 23)).heap.size := by simp
  generalize (w1.alloc (.cells #[.int .i64 t1, .int .i64 t2, .int .i64 t3, .int .i64 t4, .int .i64 t5, .int .i64 t6] 23)) = w2 at *
  generalize hbt : w1.heap.size = bt at *
  have hlt : w.heap.size + 1 < bt := by omega
  clear hbt hz1 hz0
  refine Mono.region_tail 25 (by kernel_rfl) (by kernel_rfl) (by kernel_rfl) (by kernel_rfl) ?_
  simp only [List.take_succ_cons, List.take_zero]
  refine Mono.hgl_val (v := ?v0) rfl Mono.rr (fun ρ a W hR hd hf => ?h0) ?_
  case h0 =>
    have e0 := Mono.init_get hf (t := 0) (by kernel_rfl)
    clear hd hf
    (go_simp; try with_reducible rfl)
  refine Mono.hgl_val (v := ?v1) rfl Mono.rr (fun ρ a W hR hd hf => ?h1) ?_
  case h1 =>
    have e6 := Mono.init_get hf (t := 6) (by kernel_rfl)
    clear hd hf
    (go_simp; try with_reducible rfl)
  refine Mono.hgl_val (v := ?v2) rfl Mono.rr (fun ρ a W hR hd hf => ?h2) ?_
  case h2 =>
    have e37 := Mono.dep_val hd hf (t := 37) (k := 1) (by kernel_rfl) rfl
    have hq := Q46.out
    clear hd hf
    (go_simp; try with_reducible rfl)
  refine Mono.hgl_val (v := ?v3) rfl Mono.rr (fun ρ a W hR hd hf => ?h3) ?_
  case h3 =>
    have e36 := Mono.dep_val hd hf (t := 36) (k := 0) (by kernel_rfl) rfl
    have e38 := Mono.dep_val hd hf (t := 38) (k := 2) (by kernel_rfl) rfl
    have hs := HSL.out W
    clear hd hf
    (go_simp; try with_reducible rfl)
  refine Mono.hgl_val (v := ?v4) rfl Mono.rr (fun ρ a W hR hd hf => ?h4) ?_
  case h4 =>
    have e39 := Mono.dep_val hd hf (t := 39) (k := 3) (by kernel_rfl) rfl
    have hcv := convert_byt Tryd.underlying33 Tryd.underlying5 Tryd.underlying9 (HSB.out.below (HB.out.trans (hR.mono (by omega))))
    rw [ENM.out] at hcv
    clear hd hf
    (go_simp; try with_reducible rfl)
  refine Mono.hgl_val (v := ?v5) rfl Mono.rr (fun ρ a W hR hd hf => ?h5) ?_
  case h5 =>
    have e7 := Mono.init_get hf (t := 7) (by kernel_rfl)
    have hk0 := (HT.out.below hR (by omega)).1 0 _ rfl
    have hk1 := (HT.out.below hR (by omega)).1 1 _ rfl
    have hk2 := (HT.out.below hR (by omega)).1 2 _ rfl
    have hk3 := (HT.out.below hR (by omega)).1 3 _ rfl
    have hk4 := (HT.out.below hR (by omega)).1 4 _ rfl
    have hk5 := (HT.out.below hR (by omega)).1 5 _ rfl
    clear hd hf
    (go_simp; try with_reducible rfl)
  refine Mono.hgl_val (v := ?v6) rfl Mono.rr (fun ρ a W hR hd hf => ?h6) ?_
  case h6 =>
    have e0 := Mono.init_get hf (t := 0) (by kernel_rfl)
    clear hd hf
    (go_simp; try with_reducible rfl)
  refine Mono.hgl_call (fun x _ => x = .int .i64 ((me : Nat) : Int)) rfl Mono.rr (fun _ _ _ h _ => h) (fun ρ a W hR hd hf => ?h7) ?_
  case h7 =>
    have e42 := Mono.dep_val hd hf (t := 42) (k := 6) (by kernel_rfl) rfl
    clear hd hf
    refine ⟨_, _, by go_simp; first | rfl | exact ⟨rfl, rfl⟩, ?_⟩
    exact (N10.out W (HB.out.trans (hR.mono (by omega)))).mono (fun e W' ⟨he, hw⟩ => ⟨_, he, hw ▸ Mono.rr _, rfl⟩)
  refine Mono.hgl_val (v := ?v8) rfl Mono.rr (fun ρ a W hR hd hf => ?h8) ?_
  case h8 =>
    have e0 := Mono.init_get hf (t := 0) (by kernel_rfl)
    clear hd hf
    (go_simp; try with_reducible rfl)
  refine Mono.hgl_call (fun x _ => x = .int .i64 ((cr : Nat) : Int)) rfl Mono.rr (fun _ _ _ h _ => h) (fun ρ a W hR hd hf => ?h9) ?_
  case h9 =>
    have e44 := Mono.dep_val hd hf (t := 44) (k := 8) (by kernel_rfl) rfl
    clear hd hf
    refine ⟨_, _, by go_simp; first | rfl | exact ⟨rfl, rfl⟩, ?_⟩
    exact (N16.out W (HB.out.trans (hR.mono (by omega)))).mono (fun e W' ⟨he, hw⟩ => ⟨_, he, hw ▸ Mono.rr _, rfl⟩)
  refine Mono.hgl_val (v := ?v10) rfl Mono.rr (fun ρ a W hR hd hf => ?h10) ?_
  case h10 =>
    have e45 := Mono.dep_val hd hf (t := 45) (k := 9) (by kernel_rfl) rfl
    have hq := Q_cr.out
    clear hd hf
    (go_simp; try with_reducible rfl)
  refine Mono.hgl_val (v := ?v11) rfl Mono.rr (fun ρ a W hR hd hf => ?h11) ?_
  case h11 =>
    have e0 := Mono.init_get hf (t := 0) (by kernel_rfl)
    clear hd hf
    (go_simp; try with_reducible rfl)
  refine Mono.hgl_call (fun x _ => x = .int .i64 ((p4 : Nat) : Int)) rfl Mono.rr (fun _ _ _ h _ => h) (fun ρ a W hR hd hf => ?h12) ?_
  case h12 =>
    have e47 := Mono.dep_val hd hf (t := 47) (k := 11) (by kernel_rfl) rfl
    clear hd hf
    refine ⟨_, _, by go_simp; first | rfl | exact ⟨rfl, rfl⟩, ?_⟩
    exact (N20.out W (HB.out.trans (hR.mono (by omega)))).mono (fun e W' ⟨he, hw⟩ => ⟨_, he, hw ▸ Mono.rr _, rfl⟩)
  refine Mono.hgl_val (v := ?v13) rfl Mono.rr (fun ρ a W hR hd hf => ?h13) ?_
  case h13 =>
    have e0 := Mono.init_get hf (t := 0) (by kernel_rfl)
    clear hd hf
    (go_simp; try with_reducible rfl)
  refine Mono.hgl_call (fun x _ => x = .int .i64 ((s4 : Nat) : Int)) rfl Mono.rr (fun _ _ _ h _ => h) (fun ρ a W hR hd hf => ?h14) ?_
  case h14 =>
    have e49 := Mono.dep_val hd hf (t := 49) (k := 13) (by kernel_rfl) rfl
    clear hd hf
    refine ⟨_, _, by go_simp; first | rfl | exact ⟨rfl, rfl⟩, ?_⟩
    exact (N24.out W (HB.out.trans (hR.mono (by omega)))).mono (fun e W' ⟨he, hw⟩ => ⟨_, he, hw ▸ Mono.rr _, rfl⟩)
  refine Mono.hgl_val (v := ?v15) rfl Mono.rr (fun ρ a W hR hd hf => ?h15) ?_
  case h15 =>
    have e0 := Mono.init_get hf (t := 0) (by kernel_rfl)
    clear hd hf
    (go_simp; try with_reducible rfl)
  refine Mono.hgl_call (fun x _ => x = .int .i64 ((v4 : Nat) : Int)) rfl Mono.rr (fun _ _ _ h _ => h) (fun ρ a W hR hd hf => ?h16) ?_
  case h16 =>
    have e51 := Mono.dep_val hd hf (t := 51) (k := 15) (by kernel_rfl) rfl
    clear hd hf
    refine ⟨_, _, by go_simp; first | rfl | exact ⟨rfl, rfl⟩, ?_⟩
    exact (N6.out W (HB.out.trans (hR.mono (by omega)))).mono (fun e W' ⟨he, hw⟩ => ⟨_, he, hw ▸ Mono.rr _, rfl⟩)
  refine Mono.hgl_val (v := ?v17) rfl Mono.rr (fun ρ a W hR hd hf => ?h17) ?_
  case h17 =>
    have e52 := Mono.dep_val hd hf (t := 52) (k := 16) (by kernel_rfl) rfl
    have hq := HVW.out
    clear hd hf
    (go_simp; try with_reducible rfl)
  refine Mono.hgl_val (v := ?v18) rfl Mono.rr (fun ρ a W hR hd hf => ?h18) ?_
  case h18 =>
    have e0 := Mono.init_get hf (t := 0) (by kernel_rfl)
    clear hd hf
    (go_simp; try with_reducible rfl)
  refine Mono.hgl_call (fun x _ => x = .int .i64 ((f6 : Nat) : Int)) rfl Mono.rr (fun _ _ _ h _ => h) (fun ρ a W hR hd hf => ?h19) ?_
  case h19 =>
    have e54 := Mono.dep_val hd hf (t := 54) (k := 18) (by kernel_rfl) rfl
    clear hd hf
    refine ⟨_, _, by go_simp; first | rfl | exact ⟨rfl, rfl⟩, ?_⟩
    exact (N8.out W (HB.out.trans (hR.mono (by omega)))).mono (fun e W' ⟨he, hw⟩ => ⟨_, he, hw ▸ Mono.rr _, rfl⟩)
  refine Mono.hgl_val (v := ?v20) rfl Mono.rr (fun ρ a W hR hd hf => ?h20) ?_
  case h20 =>
    have e55 := Mono.dep_val hd hf (t := 55) (k := 19) (by kernel_rfl) rfl
    have hq := Q8.out
    clear hd hf
    (go_simp; try with_reducible rfl)
  refine Mono.hgl_val (v := ?v21) rfl Mono.rr (fun ρ a W hR hd hf => ?h21) ?_
  case h21 =>
    have e56 := Mono.dep_val hd hf (t := 56) (k := 20) (by kernel_rfl) rfl
    have hq := Q2.out
    clear hd hf
    (go_simp; try with_reducible rfl)
  refine Mono.hgl_val (v := ?v22) rfl Mono.rr (fun ρ a W hR hd hf => ?h22) ?_
  case h22 =>
    have e57 := Mono.dep_val hd hf (t := 57) (k := 21) (by kernel_rfl) rfl
    have hq := HL.out
    clear hd hf
    (go_simp; try with_reducible rfl)
  refine Mono.hgl_val (v := ?v23) rfl Mono.rr (fun ρ a W hR hd hf => ?h23) ?_
  case h23 =>
    have e40 := Mono.dep_val hd hf (t := 40) (k := 4) (by kernel_rfl) rfl
    have e41 := Mono.dep_val hd hf (t := 41) (k := 5) (by kernel_rfl) rfl
    have e43 := Mono.dep_val hd hf (t := 43) (k := 7) (by kernel_rfl) rfl
    have e46 := Mono.dep_val hd hf (t := 46) (k := 10) (by kernel_rfl) rfl
    have e48 := Mono.dep_val hd hf (t := 48) (k := 12) (by kernel_rfl) rfl
    have e50 := Mono.dep_val hd hf (t := 50) (k := 14) (by kernel_rfl) rfl
    have e53 := Mono.dep_val hd hf (t := 53) (k := 17) (by kernel_rfl) rfl
    have e58 := Mono.dep_val hd hf (t := 58) (k := 22) (by kernel_rfl) rfl
    clear hd hf
    (go_simp; try with_reducible rfl)
  refine Mono.hgl_pred (fun v W => NewH w2 v W) rfl hstNewH (fun ρ a W hR hd hf => ?h24) ?_
  case h24 =>
    clear hd hf
    exact ⟨_, _, by (go_simp <;> rfl), (Below.refl _ _).alloc (Nat.le_refl _) _, NewH.new hR⟩
  refine Mono.hgl_done rfl (by decide) (fun ρ W hR ht => ?_)
  simp only [List.take_succ_cons, List.take_zero, List.drop_succ_cons, List.drop_zero]
  obtain ⟨d24, d23, d22, d21, d20, d19, d18, d17, d16, d15, d14, d13, d12, d11, d10, d9, d8, d7, d6, d5, d4, d3, d2, d1, d0, _⟩ := ht
  replace d24 : (fun v W => NewH w2 v W) (ρ 24) W := d24
  simp only [List.length_cons, List.length_nil, Nat.reduceAdd] at d0 d1 d2 d3 d4 d5 d6 d7 d8 d9 d10 d11 d12 d13 d14 d15 d16 d17 d18 d19 d20 d21 d22 d23
  simp only [Mono.putAll, Nat.reduceAdd, d0, d1, d2, d3, d4, d5, d6, d7, d8, d9, d10, d11, d12, d13, d14, d15, d16, d17, d18, d19, d20, d21, d22, d23, Act.put, List.setIfInBounds_toArray, List.set_cons_zero, List.set_cons_succ]
  clear d0 d1 d2 d3 d4 d5 d6 d7 d8 d9 d10 d11 d12 d13 d14 d15 d16 d17 d18 d19 d20 d21 d22 d23
  generalize ρ 24 = r24 at *
  have HT := Lib.hid (HT.out.below hR (by omega))
  have HP := Lib.hid (HP.out.below hR (by omega))
  have HN0 := Lib.hid (HN0.out.below hR (by omega))
  have HB := Lib.hid (HB.out.trans (hR.mono (by omega)))
  have hz1 := hR.size
  clear hR
  obtain ⟨bh, hbe, hbh0, hbh1, hO⟩ := d24
  subst hbe
  have HO := Lib.hid hO
  have hlh : w.heap.size + 1 < bh := by omega
  have hzh : bh < W.heap.size := hbh1
  clear hO hbh0 hbh1
  go_wp2_with (with_reducible refine stop_store ?_)
  refine store_own [.string nm, .int .i64 t1, .int .i64 t2, .int .i64 t3, .int .i64 t4, .int .i64 t5, .int .i64 t6, .int .i64 (me : Nat), .int .u32 (cr : Nat), .int .i64 (p4 : Nat), .int .i64 (s4 : Nat), .bool true, .bool gl] HO.out rfl rfl rfl (by kernel_rfl) (by kernel_rfl) ?_
  intro w3 hO9 hg9 hz9
  have HO := Lib.hid hO9
  have HP := Lib.hid (HP.out.gr hg9 (by omega) (by simp; omega))
  have HN0 := Lib.hid (HN0.out.gr hg9 (by omega) (by simp; omega))
  have HB := Lib.hid (HB.out.trans (gr_below hg9 w.heap.size HB.out.size (fun i h => by injection h with h; omega)))
  have hzh1 : bh < w3.heap.size := by rw [hz9]; exact hzh
  clear hO9 hg9 hz9 hzh
  have hzh := hzh1
  clear hzh1
  go_wp2_with (fail)
  refine (N42.out _ HB.out).mono ?_
  rintro e w' ⟨rfl, hw'⟩
  subst w'
  obtain ⟨hpk, hsz, hpl⟩ := PKG.out
  have PK := Lib.hid hpk
  have SZ := Lib.hid hsz
  have PL := Lib.hid hpl
  clear hpk hsz hpl
  have k11 := HO.out.1 11 _ rfl
  have q74 : IntKind.i64.wrap (74 + (n : Int)) = 74 + n := IntWalk.i64_in _ (by omega)
  by_cases h74 : 74 + n ≤ l.length
  rotate_left
  · have d1 : decide ((l.length : Int) < 74 + (n : Int)) = true := by simp; omega
    have H74 := Lib.hid h74
    clear h74
    have HNP : Hid (¬ PAD l) := Lib.hid (fun p => H74.out (by have := (p.wd GW.out).1; rw [E28.out] at this; exact this))
    have n0 := HN0.out.1 0 _ rfl
    have n1 := HN0.out.1 1 _ rfl
    have n2 := HN0.out.1 2 _ rfl
    have n3 := HN0.out.1 3 _ rfl
    have n4 := HN0.out.1 4 _ rfl
    have n5 := HN0.out.1 5 _ rfl
    have n6 := HN0.out.1 6 _ rfl
    have n7 := HN0.out.1 7 _ rfl
    have n8 := HN0.out.1 8 _ rfl
    have n9 := HN0.out.1 9 _ rfl
    have n10 := HN0.out.1 10 _ rfl
    have n11 := HN0.out.1 11 _ rfl
    have n12 := HN0.out.1 12 _ rfl
    go_wp2_with (with_reducible refine stop_store ?_)
    refine store_own [.string ByteArray.empty, .int .i64 0, .int .i64 0, .int .i64 0, .int .i64 0, .int .i64 0, .int .i64 0, .int .i64 0, .int .u32 0, .int .i64 0, .int .i64 0, .bool false, .bool false] HP.out rfl rfl rfl (by kernel_rfl) (by kernel_rfl) ?_
    intro w9 hO9 hg9 hz9
    clear n0 n1 n2 n3 n4 n5 n6 n7 n8 n9 n10 n11 n12
    have HP := Lib.hid hO9
    have HB := Lib.hid (HB.out.trans (gr_below hg9 w.heap.size HB.out.size (fun i h => by injection h with h; omega)))
    clear hO9 hg9 hz9
    have z0 := HP.out.1 0 _ rfl
    have z1 := HP.out.1 1 _ rfl
    have z2 := HP.out.1 2 _ rfl
    have z3 := HP.out.1 3 _ rfl
    have z4 := HP.out.1 4 _ rfl
    have z5 := HP.out.1 5 _ rfl
    have z6 := HP.out.1 6 _ rfl
    have z7 := HP.out.1 7 _ rfl
    have z8 := HP.out.1 8 _ rfl
    have z9 := HP.out.1 9 _ rfl
    have z10 := HP.out.1 10 _ rfl
    have z11 := HP.out.1 11 _ rfl
    have z12 := HP.out.1 12 _ rfl
    have hg := HP.out.2
    go_wp2_with (fail)
    refine bodyPost_ret (v := .tuple #[.agg #[.string ByteArray.empty, .int .i64 0, .int .i64 0, .int .i64 0, .int .i64 0, .int .i64 0, .int .i64 0, .int .i64 0, .int .u32 0, .int .i64 0, .int .i64 0, .bool false, .bool false], .int .i64 0, .int .i64 0]) (by simp [results, Tryd.results13, go_sem, z0, z1, z2, z3, z4, z5, z6, z7, z8, z9, z10, z11, z12] <;> rfl) rfl (.inr ⟨HNP.out, rfl, HB.out⟩)
  have d1 : decide ((l.length : Int) < 74 + (n : Int)) = false := by simp; omega
  have H74 := Lib.hid h74
  go_wp2_with (fail)
  clear d1 q74 k11 h74
  have q50 : IntKind.i64.wrap (50 + (n : Int)) = 50 + n := IntWalk.i64_in _ (by have := H74.out; omega)
  have q58 : IntKind.i64.wrap (58 + (n : Int)) = 58 + n := IntWalk.i64_in _ (by have := H74.out; omega)
  have q66 : IntKind.i64.wrap (66 + (n : Int)) = 66 + n := IntWalk.i64_in _ (by have := H74.out; omega)
  go_loop [11] (fun i => ∃ k : Nat, i = .int .i64 k ∧ k ≤ 3 ∧ Hid (∀ j, j < k → rd l (50 + n + 8 * j) 8 ≤ 8589934592)) (fun i => 3 - (intOf i).toNat)
  case atStart => exact ⟨0, rfl, by omega, Lib.hid (fun j hj => by omega)⟩
  case round =>
    obtain ⟨k, rfl, hk3, HJ⟩ := hrel
    by_cases hlt : k < 3
    · have q8 : IntKind.i64.wrap (8 * (k : Int)) = 8 * k := IntWalk.i64_in _ (by omega)
      have q5 : IntKind.i64.wrap (50 + (n : Int) + 8 * (k : Int)) = 50 + n + 8 * k := IntWalk.i64_in _ (by have := H74.out; omega)
      have q6 : IntKind.i64.wrap (58 + (n : Int) + 8 * (k : Int)) = 58 + n + 8 * k := IntWalk.i64_in _ (by have := H74.out; omega)
      obtain ⟨a1, c1, hs1, hb1⟩ := B8.out H74.out k hlt _ HB.out
      have HB1 := Lib.hid hb1
      clear hb1
      have HX : Hid (∃ x, x = rd l (50 + n + 8 * k) 8) := Lib.hid ⟨_, rfl⟩
      obtain ⟨x8, hx8⟩ := HX.out
      rw [← hx8] at HB1
      have HX8 := Lib.hid hx8
      clear hx8
      by_cases hs8 : x8 ≤ 8589934592
      rotate_left
      · have d2 : decide (8589934592 < (x8 : Int)) = true := by simp; omega
        have HS8 := Lib.hid hs8
        have HK3 := Lib.hid hlt
        clear hs8
        go_wp2_with (fail)
        refine HB1.out.mono ?_
        rintro e w' ⟨rfl, hw'⟩
        subst w'
        have HNP : Hid (¬ PAD l) := Lib.hid (fun p => HS8.out (by rw [HX8.out]; exact three_le H8.out (by have h1 := (p.wd GW.out).2; rw [SZ.out, PK.out, PL.out] at h1; exact h1) HK3.out))
        have n0 := HN0.out.1 0 _ rfl
        have n1 := HN0.out.1 1 _ rfl
        have n2 := HN0.out.1 2 _ rfl
        have n3 := HN0.out.1 3 _ rfl
        have n4 := HN0.out.1 4 _ rfl
        have n5 := HN0.out.1 5 _ rfl
        have n6 := HN0.out.1 6 _ rfl
        have n7 := HN0.out.1 7 _ rfl
        have n8 := HN0.out.1 8 _ rfl
        have n9 := HN0.out.1 9 _ rfl
        have n10 := HN0.out.1 10 _ rfl
        have n11 := HN0.out.1 11 _ rfl
        have n12 := HN0.out.1 12 _ rfl
        go_wp2_with (with_reducible refine stop_store ?_)
        refine store_own [.string ByteArray.empty, .int .i64 0, .int .i64 0, .int .i64 0, .int .i64 0, .int .i64 0, .int .i64 0, .int .i64 0, .int .u32 0, .int .i64 0, .int .i64 0, .bool false, .bool false] HP.out rfl rfl rfl (by kernel_rfl) (by kernel_rfl) ?_
        intro w9 hO9 hg9 hz9
        clear n0 n1 n2 n3 n4 n5 n6 n7 n8 n9 n10 n11 n12
        have HP := Lib.hid hO9
        have HB := Lib.hid (HB.out.trans (gr_below hg9 w.heap.size HB.out.size (fun i h => by injection h with h; omega)))
        clear hO9 hg9 hz9
        have z0 := HP.out.1 0 _ rfl
        have z1 := HP.out.1 1 _ rfl
        have z2 := HP.out.1 2 _ rfl
        have z3 := HP.out.1 3 _ rfl
        have z4 := HP.out.1 4 _ rfl
        have z5 := HP.out.1 5 _ rfl
        have z6 := HP.out.1 6 _ rfl
        have z7 := HP.out.1 7 _ rfl
        have z8 := HP.out.1 8 _ rfl
        have z9 := HP.out.1 9 _ rfl
        have z10 := HP.out.1 10 _ rfl
        have z11 := HP.out.1 11 _ rfl
        have z12 := HP.out.1 12 _ rfl
        have hg := HP.out.2
        go_wp2_with (fail)
        refine bodyPost_ret (v := .tuple #[.agg #[.string ByteArray.empty, .int .i64 0, .int .i64 0, .int .i64 0, .int .i64 0, .int .i64 0, .int .i64 0, .int .i64 0, .int .u32 0, .int .i64 0, .int .i64 0, .bool false, .bool false], .int .i64 0, .int .i64 0]) (by simp [results, Tryd.results13, go_sem, z0, z1, z2, z3, z4, z5, z6, z7, z8, z9, z10, z11, z12] <;> rfl) rfl (.inr ⟨HNP.out, rfl, HB.out⟩)
      have d2 : decide (8589934592 < (x8 : Int)) = false := by simp; omega
      have HS8 := Lib.hid hs8
      clear hs8
      go_wp2_with (fail)
      refine HB1.out.mono ?_
      rintro e w' ⟨rfl, hw'⟩
      subst w'
      clear hs1 HB1
      go_wp2_with (fail)
      go_round
      case rel => exact ⟨k + 1, by go_num, by omega, Lib.hid (fun j hj => by
        by_cases e : j = k
        · rw [e, ← HX8.out]; exact HS8.out
        · exact HJ.out j (by omega))⟩
      case measure => simp [intOf]; omega
    · have HJ3 : Hid (s8 ≤ 8589934592 ∧ p8 ≤ 8589934592 ∧ a8 ≤ 8589934592) := Lib.hid (by
        have h0 := HJ.out 0 (by omega); have h1 := HJ.out 1 (by omega); have h2 := HJ.out 2 (by omega)
        rw [show 50 + n + 8 * 0 = 50 + n by omega, H8.out.1] at h0
        rw [show 50 + n + 8 * 1 = 58 + n by omega, H8.out.2.1] at h1
        rw [show 50 + n + 8 * 2 = 66 + n by omega, H8.out.2.2] at h2
        exact ⟨h0, h1, h2⟩)
      clear HJ
      go_wp2_with (fail)
      clear hlt hk3
      refine (N50.out H74.out HJ3.out.1 _ HB.out).mono ?_
      rintro e w' ⟨rfl, hw'⟩
      subst w'
      go_wp2_with (fail)
      refine (N58.out H74.out HJ3.out.2.1 _ HB.out).mono ?_
      rintro e w' ⟨rfl, hw'⟩
      subst w'
      go_wp2_with (fail)
      refine (N66.out H74.out HJ3.out.2.2 _ HB.out).mono ?_
      rintro e w' ⟨rfl, hw'⟩
      subst w'
      have HWD := Lib.hid (And.intro H74.out HJ3.out)
      clear q50 q58 q66
      have y10 := HO.out.1 10 _ rfl
      have y9 := HO.out.1 9 _ rfl
      have hfr := HO.out.2
      go_upto_region 17 with (fail)
      clear y10 y9 hfr 
      have HO := Lib.hid ((HO.out.set 10 (.int .i64 (s8 : Nat)) (by simp)).set 9 (.int .i64 (p8 : Nat)) (by simp))
      have HP := Lib.hid ((HP.out.other (c := bh) (by omega) 10 (.int .i64 (s8 : Nat))).other (c := bh) (by omega) 9 (.int .i64 (p8 : Nat)))
      have HN0 := Lib.hid ((HN0.out.other (c := bh) (by omega) 10 (.int .i64 (s8 : Nat))).other (c := bh) (by omega) 9 (.int .i64 (p8 : Nat)))
      have HB := Lib.hid ((HB.out.setCell (p := ⟨bh, 10, none⟩) (by show w.heap.size ≤ bh; omega) (.int .i64 (s8 : Nat))).setCell (p := ⟨bh, 9, none⟩) (by show w.heap.size ≤ bh; omega) (.int .i64 (p8 : Nat)))
      have hzh1 : bh < ((w3.setCell ⟨bh, 10, none⟩ (.int .i64 (s8 : Nat))).setCell ⟨bh, 9, none⟩ (.int .i64 (p8 : Nat))).heap.size := by simpa using hzh
      clear hzh
      have hzh := hzh1
      clear hzh1
      generalize ((w3.setCell ⟨bh, 10, none⟩ (.int .i64 (s8 : Nat))).setCell ⟨bh, 9, none⟩ (.int .i64 (p8 : Nat))) = w5 at *
      simp only [List.set_cons_zero, List.set_cons_succ] at HO
      obtain ⟨pk, hpk1⟩ : ∃ z, z = p8 := ⟨_, rfl⟩
      obtain ⟨sz, hsz1⟩ : ∃ z, z = s8 := ⟨_, rfl⟩
      obtain ⟨pl, hpl1⟩ : ∃ z, z = a8 := ⟨_, rfl⟩
      subst hpk1 hsz1 hpl1
      have HWD : Hid (74 + n ≤ l.length ∧ sz ≤ 8589934592 ∧ pk ≤ 8589934592 ∧ pl ≤ 8589934592) := HWD
      cases ok
      · have HNP : Hid (¬ PAD l) := Lib.hid (fun p => by have h := p.tm; rw [E14.out, E12.out, ← HOK.out] at h; cases h)
        have n0 := HN0.out.1 0 _ rfl
        have n1 := HN0.out.1 1 _ rfl
        have n2 := HN0.out.1 2 _ rfl
        have n3 := HN0.out.1 3 _ rfl
        have n4 := HN0.out.1 4 _ rfl
        have n5 := HN0.out.1 5 _ rfl
        have n6 := HN0.out.1 6 _ rfl
        have n7 := HN0.out.1 7 _ rfl
        have n8 := HN0.out.1 8 _ rfl
        have n9 := HN0.out.1 9 _ rfl
        have n10 := HN0.out.1 10 _ rfl
        have n11 := HN0.out.1 11 _ rfl
        have n12 := HN0.out.1 12 _ rfl
        go_wp2_with (with_reducible refine stop_store ?_)
        refine store_own [.string ByteArray.empty, .int .i64 0, .int .i64 0, .int .i64 0, .int .i64 0, .int .i64 0, .int .i64 0, .int .i64 0, .int .u32 0, .int .i64 0, .int .i64 0, .bool false, .bool false] HP.out rfl rfl rfl (by kernel_rfl) (by kernel_rfl) ?_
        intro w9 hO9 hg9 hz9
        clear n0 n1 n2 n3 n4 n5 n6 n7 n8 n9 n10 n11 n12
        have HP := Lib.hid hO9
        have HB := Lib.hid (HB.out.trans (gr_below hg9 w.heap.size HB.out.size (fun i h => by injection h with h; omega)))
        clear hO9 hg9 hz9
        have z0 := HP.out.1 0 _ rfl
        have z1 := HP.out.1 1 _ rfl
        have z2 := HP.out.1 2 _ rfl
        have z3 := HP.out.1 3 _ rfl
        have z4 := HP.out.1 4 _ rfl
        have z5 := HP.out.1 5 _ rfl
        have z6 := HP.out.1 6 _ rfl
        have z7 := HP.out.1 7 _ rfl
        have z8 := HP.out.1 8 _ rfl
        have z9 := HP.out.1 9 _ rfl
        have z10 := HP.out.1 10 _ rfl
        have z11 := HP.out.1 11 _ rfl
        have z12 := HP.out.1 12 _ rfl
        have hg := HP.out.2
        go_wp2_with (fail)
        refine bodyPost_ret (v := .tuple #[.agg #[.string ByteArray.empty, .int .i64 0, .int .i64 0, .int .i64 0, .int .i64 0, .int .i64 0, .int .i64 0, .int .i64 0, .int .u32 0, .int .i64 0, .int .i64 0, .bool false, .bool false], .int .i64 0, .int .i64 0]) (by simp [results, Tryd.results13, go_sem, z0, z1, z2, z3, z4, z5, z6, z7, z8, z9, z10, z11, z12] <;> rfl) rfl (.inr ⟨HNP.out, rfl, HB.out⟩)
      obtain ⟨ET1, ET2, ET3, ET4, ET5, ET6⟩ := HTT.out rfl
      have RT : Hid (Dos.rightB t1 t2 t3 t4 t5 t6 = true) := Lib.hid (by have h := HOK.out; unfold tmB at h; rw [ET1, ET2, ET3, ET4, ET5, ET6] at h; exact h.symm)
      have ET := Lib.hid (And.intro ET1 (And.intro ET2 (And.intro ET3 (And.intro ET4 (And.intro ET5 ET6)))))
      clear ET1 ET2 ET3 ET4 ET5 ET6
      have HCK := Lib.hid (fun W => refCcheck_any nm t1 t2 t3 t4 t5 t6 (me : Nat) (cr : Nat) (pk : Nat) (sz : Nat) true gl (pl : Nat) W)
      rw [RT.out] at HCK
      have CE : Hid (ccode (lcode (chk (nmC l)) true (rd l 10 2 : Nat) (pkNC l : Nat) (szNC l : Nat)) (plNC l : Nat) = ccode (lcode (chk nm) true (me : Nat) (pk : Nat) (sz : Nat)) (pl : Nat)) := Lib.hid (by rw [NM.out, E10.out, PK.out, SZ.out, PL.out])
      obtain ⟨cc, hcc⟩ : ∃ z, z = ccode (lcode (chk nm) true (me : Nat) (pk : Nat) (sz : Nat)) (pl : Nat) := ⟨_, rfl⟩
      rw [← hcc] at HCK CE
      have HCE := Lib.hid hcc
      clear hcc
      have k0 := HO.out.1 0 _ rfl
      have k1 := HO.out.1 1 _ rfl
      have k2 := HO.out.1 2 _ rfl
      have k3 := HO.out.1 3 _ rfl
      have k4 := HO.out.1 4 _ rfl
      have k5 := HO.out.1 5 _ rfl
      have k6 := HO.out.1 6 _ rfl
      have k7 := HO.out.1 7 _ rfl
      have k8 := HO.out.1 8 _ rfl
      have k9 := HO.out.1 9 _ rfl
      have k10 := HO.out.1 10 _ rfl
      have k11 := HO.out.1 11 _ rfl
      have k12 := HO.out.1 12 _ rfl
      go_wp2_with (fail)
      refine (HCK.out _).mono ?_
      rintro e W ⟨rfl, hR⟩
      clear k0 k1 k2 k3 k4 k5 k6 k7 k8 k9 k10 k11 k12
      have HO := Lib.hid (HO.out.below hR hzh)
      have HP := Lib.hid (HP.out.below hR (by omega))
      have HN0 := Lib.hid (HN0.out.below hR (by omega))
      have HB := Lib.hid (HB.out.trans (hR.mono (by omega)))
      have hzh1 : bh < W.heap.size := Nat.lt_of_lt_of_le hzh hR.size
      clear hR hzh
      have hzh := hzh1
      clear hzh1
      obtain ⟨w6, rfl⟩ : ∃ z : World, z = W := ⟨_, rfl⟩
      by_cases hc0 : cc = 0
      rotate_left
      · have HCC : (cc != 0) = true := by simpa using hc0
        have HC1 := Lib.hid hc0
        clear hc0
        have HNP : Hid (¬ PAD l) := Lib.hid (fun p => HC1.out (by rw [← CE.out]; exact p.ck))
        have n0 := HN0.out.1 0 _ rfl
        have n1 := HN0.out.1 1 _ rfl
        have n2 := HN0.out.1 2 _ rfl
        have n3 := HN0.out.1 3 _ rfl
        have n4 := HN0.out.1 4 _ rfl
        have n5 := HN0.out.1 5 _ rfl
        have n6 := HN0.out.1 6 _ rfl
        have n7 := HN0.out.1 7 _ rfl
        have n8 := HN0.out.1 8 _ rfl
        have n9 := HN0.out.1 9 _ rfl
        have n10 := HN0.out.1 10 _ rfl
        have n11 := HN0.out.1 11 _ rfl
        have n12 := HN0.out.1 12 _ rfl
        go_wp2_with (with_reducible refine stop_store ?_)
        refine store_own [.string ByteArray.empty, .int .i64 0, .int .i64 0, .int .i64 0, .int .i64 0, .int .i64 0, .int .i64 0, .int .i64 0, .int .u32 0, .int .i64 0, .int .i64 0, .bool false, .bool false] HP.out rfl rfl rfl (by kernel_rfl) (by kernel_rfl) ?_
        intro w9 hO9 hg9 hz9
        clear n0 n1 n2 n3 n4 n5 n6 n7 n8 n9 n10 n11 n12
        have HP := Lib.hid hO9
        have HB := Lib.hid (HB.out.trans (gr_below hg9 w.heap.size HB.out.size (fun i h => by injection h with h; omega)))
        clear hO9 hg9 hz9
        have z0 := HP.out.1 0 _ rfl
        have z1 := HP.out.1 1 _ rfl
        have z2 := HP.out.1 2 _ rfl
        have z3 := HP.out.1 3 _ rfl
        have z4 := HP.out.1 4 _ rfl
        have z5 := HP.out.1 5 _ rfl
        have z6 := HP.out.1 6 _ rfl
        have z7 := HP.out.1 7 _ rfl
        have z8 := HP.out.1 8 _ rfl
        have z9 := HP.out.1 9 _ rfl
        have z10 := HP.out.1 10 _ rfl
        have z11 := HP.out.1 11 _ rfl
        have z12 := HP.out.1 12 _ rfl
        have hg := HP.out.2
        go_wp2_with (fail)
        refine bodyPost_ret (v := .tuple #[.agg #[.string ByteArray.empty, .int .i64 0, .int .i64 0, .int .i64 0, .int .i64 0, .int .i64 0, .int .i64 0, .int .i64 0, .int .u32 0, .int .i64 0, .int .i64 0, .bool false, .bool false], .int .i64 0, .int .i64 0]) (by simp [results, Tryd.results13, go_sem, z0, z1, z2, z3, z4, z5, z6, z7, z8, z9, z10, z11, z12] <;> rfl) rfl (.inr ⟨HNP.out, rfl, HB.out⟩)
      subst hc0
      have HREC := Lib.hid (fun W => refCenc_any nm t1 t2 t3 t4 t5 t6 me cr pk sz true gl pl W hcr (by rw [RT.out]; exact HCE.out.symm))
      have HREQ : Hid (recCO l = recC nm (dN t1 t2 t3) (cN t4 t5 t6) me cr pk sz (fN nm gl) pl true) := Lib.hid (by
        unfold recCO
        rw [NM.out, E10.out, E12.out, E14.out, E16.out, PK.out, SZ.out, PL.out, GW.out, GL.out, ← ET.out.1, ← ET.out.2.1, ← ET.out.2.2.1, ← ET.out.2.2.2.1, ← ET.out.2.2.2.2.1, ← ET.out.2.2.2.2.2, date_back, clock_back])
      have HRL : Hid ((recC nm (dN t1 t2 t3) (cN t4 t5 t6) me cr pk sz (fN nm gl) pl true).length ≤ 1000) := Lib.hid (by
        have := (chk_size (lcode_0 (ccode_0 HCE.out.symm).1).1).2
        rw [recC_len]; simp <;> omega)
      generalize recC nm (dN t1 t2 t3) (cN t4 t5 t6) me cr pk sz (fN nm gl) pl true = x at *
      have k0 := HO.out.1 0 _ rfl
      have k1 := HO.out.1 1 _ rfl
      have k2 := HO.out.1 2 _ rfl
      have k3 := HO.out.1 3 _ rfl
      have k4 := HO.out.1 4 _ rfl
      have k5 := HO.out.1 5 _ rfl
      have k6 := HO.out.1 6 _ rfl
      have k7 := HO.out.1 7 _ rfl
      have k8 := HO.out.1 8 _ rfl
      have k9 := HO.out.1 9 _ rfl
      have k10 := HO.out.1 10 _ rfl
      have k11 := HO.out.1 11 _ rfl
      have k12 := HO.out.1 12 _ rfl
      go_wp2_with (fail)
      refine (HREC.out _).mono ?_
      rintro e w7 ⟨v7, rfl, ho, hb⟩
      obtain ⟨av, cv, rfl, hcv⟩ := OB.form ho
      have HX := Lib.hid (OB.byt ho)
      have HO := Lib.hid (HO.out.below hb hzh)
      have HP := Lib.hid (HP.out.below hb (by omega))
      have HN0 := Lib.hid (HN0.out.below hb (by omega))
      have HB := Lib.hid (HB.out.trans (hb.mono (by omega)))
      have hzh1 : bh < w7.heap.size := Nat.lt_of_lt_of_le hzh hb.size
      clear hb hzh ho
      clear k0 k1 k2 k3 k4 k5 k6 k7 k8 k9 k10 k11 k12
      have hzh := hzh1
      clear hzh1
      have hrl := HRL.out
      go_wp2_with (fail)
      have HYL := Lib.hid (HH.out.below HB.out)
      by_cases hxl : x.length ≤ l.length
      rotate_left
      · have d1 : decide (l.length < x.length) = true := by simp; omega
        have HXL := Lib.hid hxl
        clear hxl hrl
        refine Mono.region_below (by kernel_rfl) (by kernel_rfl) (by kernel_rfl) ?_
        refine Mono.rgl_val (v := ?vg1_0) rfl Mono.rr (fun ρ a W hR hd hf => ?hg1_0) ?_
        case hg1_0 =>
          have e12 := Mono.init_get hf (t := 12) (by kernel_rfl)
          clear hd hf
          (go_simp; try with_reducible rfl)
        refine Mono.rgl_val (v := ?vg1_1) rfl Mono.rr (fun ρ a W hR hd hf => ?hg1_1) ?_
        case hg1_1 =>
          have e115 := Mono.dep_val hd hf (t := 115) (k := 0) (by kernel_rfl) rfl
          clear hd hf
          (go_simp; try with_reducible rfl)
        refine Mono.rgl_val (v := ?vg1_2) rfl Mono.rr (fun ρ a W hR hd hf => ?hg1_2) ?_
        case hg1_2 =>
          have e0 := Mono.init_get hf (t := 0) (by kernel_rfl)
          clear hd hf
          (go_simp; try with_reducible rfl)
        refine Mono.rgl_val (v := ?vg1_3) rfl Mono.rr (fun ρ a W hR hd hf => ?hg1_3) ?_
        case hg1_3 =>
          have e117 := Mono.dep_val hd hf (t := 117) (k := 2) (by kernel_rfl) rfl
          clear hd hf
          (go_simp; try with_reducible rfl)
        refine Mono.rgl_val (v := ?vg1_4) rfl Mono.rr (fun ρ a W hR hd hf => ?hg1_4) ?_
        case hg1_4 =>
          have e116 := Mono.dep_val hd hf (t := 116) (k := 1) (by kernel_rfl) rfl
          have e118 := Mono.dep_val hd hf (t := 118) (k := 3) (by kernel_rfl) rfl
          clear hd hf
          (go_simp; try with_reducible rfl)
        refine Mono.rgl_val (v := ?vg1_5) rfl Mono.rr (fun ρ a W hR hd hf => ?hg1_5) ?_
        case hg1_5 =>
          have e119 := Mono.dep_val hd hf (t := 119) (k := 4) (by kernel_rfl) rfl
          clear hd hf
          (go_simp; try with_reducible rfl)
        refine Mono.rgl_skip rfl (by decide) (fun ρ W hd => Mono.guard_val hd (t := 120) (k := 5) (by kernel_rfl) rfl) ?_
        refine Mono.rgl_skip rfl (by decide) (fun ρ W hd => Mono.guard_val hd (t := 120) (k := 5) (by kernel_rfl) rfl) ?_
        refine Mono.rgl_skip rfl (by decide) (fun ρ W hd => Mono.guard_val hd (t := 120) (k := 5) (by kernel_rfl) rfl) ?_
        refine Mono.rgl_skip rfl (by decide) (fun ρ W hd => Mono.guard_val hd (t := 120) (k := 5) (by kernel_rfl) rfl) ?_
        refine Mono.rgl_skip rfl (by decide) (fun ρ W hd => Mono.guard_val hd (t := 120) (k := 5) (by kernel_rfl) rfl) ?_
        refine Mono.rgl_skip rfl (by decide) (fun ρ W hd => Mono.guard_val hd (t := 120) (k := 5) (by kernel_rfl) rfl) ?_
        refine Mono.rgl_skip rfl (by decide) (fun ρ W hd => Mono.guard_val hd (t := 120) (k := 5) (by kernel_rfl) rfl) ?_
        refine Mono.rgl_skip rfl (by decide) (fun ρ W hd => Mono.guard_val hd (t := 120) (k := 5) (by kernel_rfl) rfl) ?_
        refine Mono.rgl_val (v := ?vg1_14) rfl Mono.rr (fun ρ a W hR hd hf => ?hg1_14) ?_
        case hg1_14 =>
          have e120 := Mono.dep_val hd hf (t := 120) (k := 5) (by kernel_rfl) rfl
          have e128 := Mono.dep_val hd hf (t := 128) (k := 13) (by kernel_rfl) rfl
          clear hd hf
          (go_simp; try with_reducible rfl)
        refine Mono.rgl_done rfl (fun ρ W hR ht => ?_)
        obtain ⟨dg1_14, dg1_13, dg1_12, dg1_11, dg1_10, dg1_9, dg1_8, dg1_7, dg1_6, dg1_5, dg1_4, dg1_3, dg1_2, dg1_1, dg1_0, _⟩ := ht
        simp only [List.length_cons, List.length_nil, Nat.reduceAdd] at dg1_0 dg1_1 dg1_2 dg1_3 dg1_4 dg1_5 dg1_6 dg1_7 dg1_8 dg1_9 dg1_10 dg1_11 dg1_12 dg1_13 dg1_14
        simp only [Mono.putAll, Nat.reduceAdd, dg1_0, dg1_1, dg1_2, dg1_3, dg1_4, dg1_5, dg1_6, dg1_7, dg1_8, dg1_9, dg1_10, dg1_11, dg1_12, dg1_13, dg1_14, Act.put, List.setIfInBounds_toArray, List.set_cons_zero, List.set_cons_succ]
        clear dg1_0 dg1_1 dg1_2 dg1_3 dg1_4 dg1_5 dg1_6 dg1_7 dg1_8 dg1_9 dg1_10 dg1_11 dg1_12 dg1_13 dg1_14
        have HO := Lib.hid (HO.out.below hR hzh)
        have HP := Lib.hid (HP.out.below hR (by omega))
        have HN0 := Lib.hid (HN0.out.below hR (by omega))
        have HB := Lib.hid (HB.out.trans (hR.mono (by omega)))
        have hzh1 : bh < W.heap.size := Nat.lt_of_lt_of_le hzh hR.size
        clear hR hzh
        have hzh := hzh1
        clear hzh1
        obtain ⟨w8, rfl⟩ : ∃ z : World, z = W := ⟨_, rfl⟩
        have HNP : Hid (¬ PAD l) := Lib.hid (fun p => HXL.out (by rw [← HREQ.out]; exact p.fit))
        have n0 := HN0.out.1 0 _ rfl
        have n1 := HN0.out.1 1 _ rfl
        have n2 := HN0.out.1 2 _ rfl
        have n3 := HN0.out.1 3 _ rfl
        have n4 := HN0.out.1 4 _ rfl
        have n5 := HN0.out.1 5 _ rfl
        have n6 := HN0.out.1 6 _ rfl
        have n7 := HN0.out.1 7 _ rfl
        have n8 := HN0.out.1 8 _ rfl
        have n9 := HN0.out.1 9 _ rfl
        have n10 := HN0.out.1 10 _ rfl
        have n11 := HN0.out.1 11 _ rfl
        have n12 := HN0.out.1 12 _ rfl
        go_wp2_with (with_reducible refine stop_store ?_)
        refine store_own [.string ByteArray.empty, .int .i64 0, .int .i64 0, .int .i64 0, .int .i64 0, .int .i64 0, .int .i64 0, .int .i64 0, .int .u32 0, .int .i64 0, .int .i64 0, .bool false, .bool false] HP.out rfl rfl rfl (by kernel_rfl) (by kernel_rfl) ?_
        intro w9 hO9 hg9 hz9
        clear n0 n1 n2 n3 n4 n5 n6 n7 n8 n9 n10 n11 n12
        have HP := Lib.hid hO9
        have HB := Lib.hid (HB.out.trans (gr_below hg9 w.heap.size HB.out.size (fun i h => by injection h with h; omega)))
        clear hO9 hg9 hz9
        have z0 := HP.out.1 0 _ rfl
        have z1 := HP.out.1 1 _ rfl
        have z2 := HP.out.1 2 _ rfl
        have z3 := HP.out.1 3 _ rfl
        have z4 := HP.out.1 4 _ rfl
        have z5 := HP.out.1 5 _ rfl
        have z6 := HP.out.1 6 _ rfl
        have z7 := HP.out.1 7 _ rfl
        have z8 := HP.out.1 8 _ rfl
        have z9 := HP.out.1 9 _ rfl
        have z10 := HP.out.1 10 _ rfl
        have z11 := HP.out.1 11 _ rfl
        have z12 := HP.out.1 12 _ rfl
        have hg := HP.out.2
        go_wp2_with (fail)
        refine bodyPost_ret (v := .tuple #[.agg #[.string ByteArray.empty, .int .i64 0, .int .i64 0, .int .i64 0, .int .i64 0, .int .i64 0, .int .i64 0, .int .i64 0, .int .u32 0, .int .i64 0, .int .i64 0, .bool false, .bool false], .int .i64 0, .int .i64 0]) (by simp [results, Tryd.results13, go_sem, z0, z1, z2, z3, z4, z5, z6, z7, z8, z9, z10, z11, z12] <;> rfl) rfl (.inr ⟨HNP.out, rfl, HB.out⟩)
      have d1 : decide (l.length < x.length) = false := by simp; omega
      obtain ⟨ya, yc, hyl, _, hyb⟩ := cut_head HYL.out hc x.length hxl
      have HYS := Lib.hid hyl
      have HYB := Lib.hid hyb
      have HXL := Lib.hid hxl
      clear hyl hyb hxl hrl
      by_cases hxe : l.take x.length = x
      rotate_left
      · have HNE2 : Hid (¬ (str (l.take x.length)).toList = (str x).toList) := Lib.hid (by
          intro h
          rw [ByteArray.toList_eq, ByteArray.toList_eq] at h
          exact hxe (by simpa [str] using h))
        have HXE := Lib.hid hxe
        clear hxe
        refine Mono.region_below (by kernel_rfl) (by kernel_rfl) (by kernel_rfl) ?_
        refine Mono.rgl_val (v := ?vg2_0) rfl Mono.rr (fun ρ a W hR hd hf => ?hg2_0) ?_
        case hg2_0 =>
          have e12 := Mono.init_get hf (t := 12) (by kernel_rfl)
          clear hd hf
          (go_simp; try with_reducible rfl)
        refine Mono.rgl_val (v := ?vg2_1) rfl Mono.rr (fun ρ a W hR hd hf => ?hg2_1) ?_
        case hg2_1 =>
          have e115 := Mono.dep_val hd hf (t := 115) (k := 0) (by kernel_rfl) rfl
          clear hd hf
          (go_simp; try with_reducible rfl)
        refine Mono.rgl_val (v := ?vg2_2) rfl Mono.rr (fun ρ a W hR hd hf => ?hg2_2) ?_
        case hg2_2 =>
          have e0 := Mono.init_get hf (t := 0) (by kernel_rfl)
          clear hd hf
          (go_simp; try with_reducible rfl)
        refine Mono.rgl_val (v := ?vg2_3) rfl Mono.rr (fun ρ a W hR hd hf => ?hg2_3) ?_
        case hg2_3 =>
          have e117 := Mono.dep_val hd hf (t := 117) (k := 2) (by kernel_rfl) rfl
          clear hd hf
          (go_simp; try with_reducible rfl)
        refine Mono.rgl_val (v := ?vg2_4) rfl Mono.rr (fun ρ a W hR hd hf => ?hg2_4) ?_
        case hg2_4 =>
          have e116 := Mono.dep_val hd hf (t := 116) (k := 1) (by kernel_rfl) rfl
          have e118 := Mono.dep_val hd hf (t := 118) (k := 3) (by kernel_rfl) rfl
          clear hd hf
          (go_simp; try with_reducible rfl)
        refine Mono.rgl_val (v := ?vg2_5) rfl Mono.rr (fun ρ a W hR hd hf => ?hg2_5) ?_
        case hg2_5 =>
          have e119 := Mono.dep_val hd hf (t := 119) (k := 4) (by kernel_rfl) rfl
          clear hd hf
          (go_simp; try with_reducible rfl)
        refine Mono.rgl_valg (v := ?vg2_6) rfl Mono.rr (fun ρ W hd => Mono.guard_val hd (t := 120) (k := 5) (by kernel_rfl) rfl) (fun ρ a W hR hd hf => ?hg2_6) ?_
        case hg2_6 =>
          have e0 := Mono.init_get hf (t := 0) (by kernel_rfl)
          clear hd hf
          (go_simp; try with_reducible rfl)
        refine Mono.rgl_valg (v := ?vg2_7) rfl Mono.rr (fun ρ W hd => Mono.guard_val hd (t := 120) (k := 5) (by kernel_rfl) rfl) (fun ρ a W hR hd hf => ?hg2_7) ?_
        case hg2_7 =>
          have e12 := Mono.init_get hf (t := 12) (by kernel_rfl)
          clear hd hf
          (go_simp; try with_reducible rfl)
        refine Mono.rgl_valg (v := ?vg2_8) rfl Mono.rr (fun ρ W hd => Mono.guard_val hd (t := 120) (k := 5) (by kernel_rfl) rfl) (fun ρ a W hR hd hf => ?hg2_8) ?_
        case hg2_8 =>
          have e122 := Mono.dep_val hd hf (t := 122) (k := 7) (by kernel_rfl) rfl
          clear hd hf
          (go_simp; try with_reducible rfl)
        refine Mono.rgl_valg (v := ?vg2_9) rfl Mono.rr (fun ρ W hd => Mono.guard_val hd (t := 120) (k := 5) (by kernel_rfl) rfl) (fun ρ a W hR hd hf => ?hg2_9) ?_
        case hg2_9 =>
          have e121 := Mono.dep_val hd hf (t := 121) (k := 6) (by kernel_rfl) rfl
          have e123 := Mono.dep_val hd hf (t := 123) (k := 8) (by kernel_rfl) rfl
          have hs := HYS.out W
          clear hd hf
          (go_simp; try with_reducible rfl)
        refine Mono.rgl_valg (v := ?vg2_10) rfl Mono.rr (fun ρ W hd => Mono.guard_val hd (t := 120) (k := 5) (by kernel_rfl) rfl) (fun ρ a W hR hd hf => ?hg2_10) ?_
        case hg2_10 =>
          have e124 := Mono.dep_val hd hf (t := 124) (k := 9) (by kernel_rfl) rfl
          have hcv1 := convert_byt Tryd.underlying33 Tryd.underlying5 Tryd.underlying9 (HYB.out.below (hR.mono (by omega)))
          clear hd hf
          (go_simp; try with_reducible rfl)
        refine Mono.rgl_valg (v := ?vg2_11) rfl Mono.rr (fun ρ W hd => Mono.guard_val hd (t := 120) (k := 5) (by kernel_rfl) rfl) (fun ρ a W hR hd hf => ?hg2_11) ?_
        case hg2_11 =>
          have e12 := Mono.init_get hf (t := 12) (by kernel_rfl)
          clear hd hf
          (go_simp; try with_reducible rfl)
        refine Mono.rgl_valg (v := ?vg2_12) rfl Mono.rr (fun ρ W hd => Mono.guard_val hd (t := 120) (k := 5) (by kernel_rfl) rfl) (fun ρ a W hR hd hf => ?hg2_12) ?_
        case hg2_12 =>
          have e126 := Mono.dep_val hd hf (t := 126) (k := 11) (by kernel_rfl) rfl
          have hcv2 := convert_byt Tryd.underlying33 Tryd.underlying5 Tryd.underlying9 (HX.out.below hR)
          clear hd hf
          (go_simp; try with_reducible rfl)
        refine Mono.rgl_valg (v := .bool true) rfl Mono.rr (fun ρ W hd => Mono.guard_val hd (t := 120) (k := 5) (by kernel_rfl) rfl) (fun ρ a W hR hd hf => ?hg2_13) ?_
        case hg2_13 =>
          have e125 := Mono.dep_val hd hf (t := 125) (k := 10) (by kernel_rfl) rfl
          have e127 := Mono.dep_val hd hf (t := 127) (k := 12) (by kernel_rfl) rfl
          clear hd hf
          (go_simp; exact HNE2.out)
        refine Mono.rgl_val (v := ?vg2_14) rfl Mono.rr (fun ρ a W hR hd hf => ?hg2_14) ?_
        case hg2_14 =>
          have e120 := Mono.dep_val hd hf (t := 120) (k := 5) (by kernel_rfl) rfl
          have e128 := Mono.dep_val hd hf (t := 128) (k := 13) (by kernel_rfl) rfl
          clear hd hf
          (go_simp; try with_reducible rfl)
        refine Mono.rgl_done rfl (fun ρ W hR ht => ?_)
        obtain ⟨dg2_14, dg2_13, dg2_12, dg2_11, dg2_10, dg2_9, dg2_8, dg2_7, dg2_6, dg2_5, dg2_4, dg2_3, dg2_2, dg2_1, dg2_0, _⟩ := ht
        simp only [List.length_cons, List.length_nil, Nat.reduceAdd] at dg2_0 dg2_1 dg2_2 dg2_3 dg2_4 dg2_5 dg2_6 dg2_7 dg2_8 dg2_9 dg2_10 dg2_11 dg2_12 dg2_13 dg2_14
        simp only [Mono.putAll, Nat.reduceAdd, dg2_0, dg2_1, dg2_2, dg2_3, dg2_4, dg2_5, dg2_6, dg2_7, dg2_8, dg2_9, dg2_10, dg2_11, dg2_12, dg2_13, dg2_14, Act.put, List.setIfInBounds_toArray, List.set_cons_zero, List.set_cons_succ]
        clear dg2_0 dg2_1 dg2_2 dg2_3 dg2_4 dg2_5 dg2_6 dg2_7 dg2_8 dg2_9 dg2_10 dg2_11 dg2_12 dg2_13 dg2_14
        have HO := Lib.hid (HO.out.below hR hzh)
        have HP := Lib.hid (HP.out.below hR (by omega))
        have HN0 := Lib.hid (HN0.out.below hR (by omega))
        have HB := Lib.hid (HB.out.trans (hR.mono (by omega)))
        have hzh1 : bh < W.heap.size := Nat.lt_of_lt_of_le hzh hR.size
        clear hR hzh
        have hzh := hzh1
        clear hzh1
        obtain ⟨w8, rfl⟩ : ∃ z : World, z = W := ⟨_, rfl⟩
        have HNP : Hid (¬ PAD l) := Lib.hid (fun p => HXE.out (by rw [← HREQ.out]; exact p.eq))
        have n0 := HN0.out.1 0 _ rfl
        have n1 := HN0.out.1 1 _ rfl
        have n2 := HN0.out.1 2 _ rfl
        have n3 := HN0.out.1 3 _ rfl
        have n4 := HN0.out.1 4 _ rfl
        have n5 := HN0.out.1 5 _ rfl
        have n6 := HN0.out.1 6 _ rfl
        have n7 := HN0.out.1 7 _ rfl
        have n8 := HN0.out.1 8 _ rfl
        have n9 := HN0.out.1 9 _ rfl
        have n10 := HN0.out.1 10 _ rfl
        have n11 := HN0.out.1 11 _ rfl
        have n12 := HN0.out.1 12 _ rfl
        go_wp2_with (with_reducible refine stop_store ?_)
        refine store_own [.string ByteArray.empty, .int .i64 0, .int .i64 0, .int .i64 0, .int .i64 0, .int .i64 0, .int .i64 0, .int .i64 0, .int .u32 0, .int .i64 0, .int .i64 0, .bool false, .bool false] HP.out rfl rfl rfl (by kernel_rfl) (by kernel_rfl) ?_
        intro w9 hO9 hg9 hz9
        clear n0 n1 n2 n3 n4 n5 n6 n7 n8 n9 n10 n11 n12
        have HP := Lib.hid hO9
        have HB := Lib.hid (HB.out.trans (gr_below hg9 w.heap.size HB.out.size (fun i h => by injection h with h; omega)))
        clear hO9 hg9 hz9
        have z0 := HP.out.1 0 _ rfl
        have z1 := HP.out.1 1 _ rfl
        have z2 := HP.out.1 2 _ rfl
        have z3 := HP.out.1 3 _ rfl
        have z4 := HP.out.1 4 _ rfl
        have z5 := HP.out.1 5 _ rfl
        have z6 := HP.out.1 6 _ rfl
        have z7 := HP.out.1 7 _ rfl
        have z8 := HP.out.1 8 _ rfl
        have z9 := HP.out.1 9 _ rfl
        have z10 := HP.out.1 10 _ rfl
        have z11 := HP.out.1 11 _ rfl
        have z12 := HP.out.1 12 _ rfl
        have hg := HP.out.2
        go_wp2_with (fail)
        refine bodyPost_ret (v := .tuple #[.agg #[.string ByteArray.empty, .int .i64 0, .int .i64 0, .int .i64 0, .int .i64 0, .int .i64 0, .int .i64 0, .int .i64 0, .int .u32 0, .int .i64 0, .int .i64 0, .bool false, .bool false], .int .i64 0, .int .i64 0]) (by simp [results, Tryd.results13, go_sem, z0, z1, z2, z3, z4, z5, z6, z7, z8, z9, z10, z11, z12] <;> rfl) rfl (.inr ⟨HNP.out, rfl, HB.out⟩)
      rw [hxe] at HYB
      have HXE := Lib.hid hxe
      clear hxe
      refine Mono.region_below (by kernel_rfl) (by kernel_rfl) (by kernel_rfl) ?_
      refine Mono.rgl_val (v := ?vg3_0) rfl Mono.rr (fun ρ a W hR hd hf => ?hg3_0) ?_
      case hg3_0 =>
        have e12 := Mono.init_get hf (t := 12) (by kernel_rfl)
        clear hd hf
        (go_simp; try with_reducible rfl)
      refine Mono.rgl_val (v := ?vg3_1) rfl Mono.rr (fun ρ a W hR hd hf => ?hg3_1) ?_
      case hg3_1 =>
        have e115 := Mono.dep_val hd hf (t := 115) (k := 0) (by kernel_rfl) rfl
        clear hd hf
        (go_simp; try with_reducible rfl)
      refine Mono.rgl_val (v := ?vg3_2) rfl Mono.rr (fun ρ a W hR hd hf => ?hg3_2) ?_
      case hg3_2 =>
        have e0 := Mono.init_get hf (t := 0) (by kernel_rfl)
        clear hd hf
        (go_simp; try with_reducible rfl)
      refine Mono.rgl_val (v := ?vg3_3) rfl Mono.rr (fun ρ a W hR hd hf => ?hg3_3) ?_
      case hg3_3 =>
        have e117 := Mono.dep_val hd hf (t := 117) (k := 2) (by kernel_rfl) rfl
        clear hd hf
        (go_simp; try with_reducible rfl)
      refine Mono.rgl_val (v := ?vg3_4) rfl Mono.rr (fun ρ a W hR hd hf => ?hg3_4) ?_
      case hg3_4 =>
        have e116 := Mono.dep_val hd hf (t := 116) (k := 1) (by kernel_rfl) rfl
        have e118 := Mono.dep_val hd hf (t := 118) (k := 3) (by kernel_rfl) rfl
        clear hd hf
        (go_simp; try with_reducible rfl)
      refine Mono.rgl_val (v := ?vg3_5) rfl Mono.rr (fun ρ a W hR hd hf => ?hg3_5) ?_
      case hg3_5 =>
        have e119 := Mono.dep_val hd hf (t := 119) (k := 4) (by kernel_rfl) rfl
        clear hd hf
        (go_simp; try with_reducible rfl)
      refine Mono.rgl_valg (v := ?vg3_6) rfl Mono.rr (fun ρ W hd => Mono.guard_val hd (t := 120) (k := 5) (by kernel_rfl) rfl) (fun ρ a W hR hd hf => ?hg3_6) ?_
      case hg3_6 =>
        have e0 := Mono.init_get hf (t := 0) (by kernel_rfl)
        clear hd hf
        (go_simp; try with_reducible rfl)
      refine Mono.rgl_valg (v := ?vg3_7) rfl Mono.rr (fun ρ W hd => Mono.guard_val hd (t := 120) (k := 5) (by kernel_rfl) rfl) (fun ρ a W hR hd hf => ?hg3_7) ?_
      case hg3_7 =>
        have e12 := Mono.init_get hf (t := 12) (by kernel_rfl)
        clear hd hf
        (go_simp; try with_reducible rfl)
      refine Mono.rgl_valg (v := ?vg3_8) rfl Mono.rr (fun ρ W hd => Mono.guard_val hd (t := 120) (k := 5) (by kernel_rfl) rfl) (fun ρ a W hR hd hf => ?hg3_8) ?_
      case hg3_8 =>
        have e122 := Mono.dep_val hd hf (t := 122) (k := 7) (by kernel_rfl) rfl
        clear hd hf
        (go_simp; try with_reducible rfl)
      refine Mono.rgl_valg (v := ?vg3_9) rfl Mono.rr (fun ρ W hd => Mono.guard_val hd (t := 120) (k := 5) (by kernel_rfl) rfl) (fun ρ a W hR hd hf => ?hg3_9) ?_
      case hg3_9 =>
        have e121 := Mono.dep_val hd hf (t := 121) (k := 6) (by kernel_rfl) rfl
        have e123 := Mono.dep_val hd hf (t := 123) (k := 8) (by kernel_rfl) rfl
        have hs := HYS.out W
        clear hd hf
        (go_simp; try with_reducible rfl)
      refine Mono.rgl_valg (v := ?vg3_10) rfl Mono.rr (fun ρ W hd => Mono.guard_val hd (t := 120) (k := 5) (by kernel_rfl) rfl) (fun ρ a W hR hd hf => ?hg3_10) ?_
      case hg3_10 =>
        have e124 := Mono.dep_val hd hf (t := 124) (k := 9) (by kernel_rfl) rfl
        have hcv1 := convert_byt Tryd.underlying33 Tryd.underlying5 Tryd.underlying9 (HYB.out.below (hR.mono (by omega)))
        clear hd hf
        (go_simp; try with_reducible rfl)
      refine Mono.rgl_valg (v := ?vg3_11) rfl Mono.rr (fun ρ W hd => Mono.guard_val hd (t := 120) (k := 5) (by kernel_rfl) rfl) (fun ρ a W hR hd hf => ?hg3_11) ?_
      case hg3_11 =>
        have e12 := Mono.init_get hf (t := 12) (by kernel_rfl)
        clear hd hf
        (go_simp; try with_reducible rfl)
      refine Mono.rgl_valg (v := ?vg3_12) rfl Mono.rr (fun ρ W hd => Mono.guard_val hd (t := 120) (k := 5) (by kernel_rfl) rfl) (fun ρ a W hR hd hf => ?hg3_12) ?_
      case hg3_12 =>
        have e126 := Mono.dep_val hd hf (t := 126) (k := 11) (by kernel_rfl) rfl
        have hcv2 := convert_byt Tryd.underlying33 Tryd.underlying5 Tryd.underlying9 (HX.out.below hR)
        clear hd hf
        (go_simp; try with_reducible rfl)
      refine Mono.rgl_valg (v := ?vg3_13) rfl Mono.rr (fun ρ W hd => Mono.guard_val hd (t := 120) (k := 5) (by kernel_rfl) rfl) (fun ρ a W hR hd hf => ?hg3_13) ?_
      case hg3_13 =>
        have e125 := Mono.dep_val hd hf (t := 125) (k := 10) (by kernel_rfl) rfl
        have e127 := Mono.dep_val hd hf (t := 127) (k := 12) (by kernel_rfl) rfl
        clear hd hf
        (go_simp; try with_reducible rfl)
      refine Mono.rgl_val (v := ?vg3_14) rfl Mono.rr (fun ρ a W hR hd hf => ?hg3_14) ?_
      case hg3_14 =>
        have e120 := Mono.dep_val hd hf (t := 120) (k := 5) (by kernel_rfl) rfl
        have e128 := Mono.dep_val hd hf (t := 128) (k := 13) (by kernel_rfl) rfl
        clear hd hf
        (go_simp; try with_reducible rfl)
      refine Mono.rgl_done rfl (fun ρ W hR ht => ?_)
      obtain ⟨dg3_14, dg3_13, dg3_12, dg3_11, dg3_10, dg3_9, dg3_8, dg3_7, dg3_6, dg3_5, dg3_4, dg3_3, dg3_2, dg3_1, dg3_0, _⟩ := ht
      simp only [List.length_cons, List.length_nil, Nat.reduceAdd] at dg3_0 dg3_1 dg3_2 dg3_3 dg3_4 dg3_5 dg3_6 dg3_7 dg3_8 dg3_9 dg3_10 dg3_11 dg3_12 dg3_13 dg3_14
      simp only [Mono.putAll, Nat.reduceAdd, dg3_0, dg3_1, dg3_2, dg3_3, dg3_4, dg3_5, dg3_6, dg3_7, dg3_8, dg3_9, dg3_10, dg3_11, dg3_12, dg3_13, dg3_14, Act.put, List.setIfInBounds_toArray, List.set_cons_zero, List.set_cons_succ]
      clear dg3_0 dg3_1 dg3_2 dg3_3 dg3_4 dg3_5 dg3_6 dg3_7 dg3_8 dg3_9 dg3_10 dg3_11 dg3_12 dg3_13 dg3_14
      have HO := Lib.hid (HO.out.below hR hzh)
      have HP := Lib.hid (HP.out.below hR (by omega))
      have HN0 := Lib.hid (HN0.out.below hR (by omega))
      have HB := Lib.hid (HB.out.trans (hR.mono (by omega)))
      have hzh1 : bh < W.heap.size := Nat.lt_of_lt_of_le hzh hR.size
      clear hR hzh
      have hzh := hzh1
      clear hzh1
      obtain ⟨w8, rfl⟩ : ∃ z : World, z = W := ⟨_, rfl⟩
      have HPAC : Hid (PAD l) := Lib.hid ⟨by rw [E28.out]; exact hn, by rw [E12.out, E14.out]; exact HOK.out.symm, (fun _ => by rw [E28.out, SZ.out, PK.out, PL.out]; exact HWD.out), by rw [CE.out], by rw [HREQ.out]; exact HXL.out, by rw [HREQ.out]; exact HXE.out⟩
      have HLEN : Hid (x.length = endC l) := Lib.hid (by rw [← HREQ.out]; exact endC_rec l (by rw [E28.out]; exact hn))
      have HEQ : Hid (.agg #[.string nm, .int .i64 t1, .int .i64 t2, .int .i64 t3, .int .i64 t4, .int .i64 t5, .int .i64 t6, .int .i64 (me : Nat), .int .u32 (cr : Nat), .int .i64 (pk : Nat), .int .i64 (sz : Nat), .bool true, .bool gl] = hdr29 l ∧ ((pl : Nat) : Int) = plC l) := Lib.hid (by
        have b1 := pkC_le (fun h => (HPAC.out.wd h).2.2.1)
        have b2 := szC_le (fun h => (HPAC.out.wd h).2.1)
        have b3 := plC_le (fun h => (HPAC.out.wd h).2.2.2)
        unfold hdr29 hdrV
        rw [b1, b2, b3, NM.out, E12.out, E14.out, E10.out, E16.out, PK.out, SZ.out, PL.out, GW.out, GL.out, ET.out.1, ET.out.2.1, ET.out.2.2.1, ET.out.2.2.2.1, ET.out.2.2.2.2.1, ET.out.2.2.2.2.2]
        exact ⟨rfl, rfl⟩)
      have k0 := HO.out.1 0 _ rfl
      have k1 := HO.out.1 1 _ rfl
      have k2 := HO.out.1 2 _ rfl
      have k3 := HO.out.1 3 _ rfl
      have k4 := HO.out.1 4 _ rfl
      have k5 := HO.out.1 5 _ rfl
      have k6 := HO.out.1 6 _ rfl
      have k7 := HO.out.1 7 _ rfl
      have k8 := HO.out.1 8 _ rfl
      have k9 := HO.out.1 9 _ rfl
      have k10 := HO.out.1 10 _ rfl
      have k11 := HO.out.1 11 _ rfl
      have k12 := HO.out.1 12 _ rfl
      go_wp2_with (with_reducible refine stop_store ?_)
      refine store_own [.string nm, .int .i64 t1, .int .i64 t2, .int .i64 t3, .int .i64 t4, .int .i64 t5, .int .i64 t6, .int .i64 (me : Nat), .int .u32 (cr : Nat), .int .i64 (pk : Nat), .int .i64 (sz : Nat), .bool true, .bool gl] HP.out rfl rfl rfl (by kernel_rfl) (by kernel_rfl) ?_
      intro w9 hO9 hg9 hz9
      clear k0 k1 k2 k3 k4 k5 k6 k7 k8 k9 k10 k11 k12
      have HP := Lib.hid hO9
      have HB := Lib.hid (HB.out.trans (gr_below hg9 w.heap.size HB.out.size (fun i h => by injection h with h; omega)))
      clear hO9 hg9 hz9
      have z0 := HP.out.1 0 _ rfl
      have z1 := HP.out.1 1 _ rfl
      have z2 := HP.out.1 2 _ rfl
      have z3 := HP.out.1 3 _ rfl
      have z4 := HP.out.1 4 _ rfl
      have z5 := HP.out.1 5 _ rfl
      have z6 := HP.out.1 6 _ rfl
      have z7 := HP.out.1 7 _ rfl
      have z8 := HP.out.1 8 _ rfl
      have z9 := HP.out.1 9 _ rfl
      have z10 := HP.out.1 10 _ rfl
      have z11 := HP.out.1 11 _ rfl
      have z12 := HP.out.1 12 _ rfl
      have hg := HP.out.2
      go_wp2_with (fail)
      refine bodyPost_ret (v := .tuple #[.agg #[.string nm, .int .i64 t1, .int .i64 t2, .int .i64 t3, .int .i64 t4, .int .i64 t5, .int .i64 t6, .int .i64 (me : Nat), .int .u32 (cr : Nat), .int .i64 (pk : Nat), .int .i64 (sz : Nat), .bool true, .bool gl], .int .i64 (pl : Nat), .int .i64 (x.length : Nat)]) (by simp [results, Tryd.results13, go_sem, z0, z1, z2, z3, z4, z5, z6, z7, z8, z9, z10, z11, z12] <;> rfl) rfl (.inl ⟨HPAC.out, by rw [HEQ.out.1, HEQ.out.2, HLEN.out], HB.out⟩)
end Go.Proofs.YtjkmgakgjoojfaaDoor
