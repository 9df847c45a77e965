/- The page's Parse of layer 27: the walk of one kind. -/
import Derived.Test.YtcpojpgdjjmfbaaDoorLocZK
namespace Go.Proofs.YtcpojpgdjjmfbaaDoor
set_option linter.unusedVariables false
set_option linter.unusedSimpArgs false
set_option maxRecDepth 100000
open Go.RowKit
set_option maxHeartbeats 16000000 in
set_option maxRecDepth 100000 in
theorem rparse_core_t (ad : Option Addr) (c : Nat) (l : List UInt8) (w : World) (h : Byt w w.heap.size (.slice ad l.length c) l) (hl : l.length ≤ 100000) (hc : l.length ≤ c) (nm : ByteArray) (n C D me cr p4 s4 v4 f6 : Nat) (t1 t2 t3 t4 t5 t6 : Int) (ok gl : Bool) (hn : 30 + n ≤ l.length) (hf6 : f6 < 65536) (hcr : cr < 4294967296) (N26 : Hid (∀ W : World, Below w.heap.size w W → Calls Tryd.prog 34 #[.slice ad l.length c, .int .i64 26, .int .i64 2] W fun e w' => e = .returned (.int .i64 (n : Nat)) ∧ w' = W)) (N12 : Hid (∀ W : World, Below w.heap.size w W → Calls Tryd.prog 34 #[.slice ad l.length c, .int .i64 12, .int .i64 2] W fun e w' => e = .returned (.int .i64 (D : Nat)) ∧ w' = W)) (N10 : Hid (∀ W : World, Below w.heap.size w W → Calls Tryd.prog 34 #[.slice ad l.length c, .int .i64 10, .int .i64 2] W fun e w' => e = .returned (.int .i64 (C : Nat)) ∧ w' = W)) (N8 : Hid (∀ W : World, Below w.heap.size w W → Calls Tryd.prog 34 #[.slice ad l.length c, .int .i64 8, .int .i64 2] W fun e w' => e = .returned (.int .i64 (me : Nat)) ∧ w' = W)) (N14 : Hid (∀ W : World, Below w.heap.size w W → Calls Tryd.prog 34 #[.slice ad l.length c, .int .i64 14, .int .i64 4] W fun e w' => e = .returned (.int .i64 (cr : Nat)) ∧ w' = W)) (N18 : Hid (∀ W : World, Below w.heap.size w W → Calls Tryd.prog 34 #[.slice ad l.length c, .int .i64 18, .int .i64 4] W fun e w' => e = .returned (.int .i64 (p4 : Nat)) ∧ w' = W)) (N22 : Hid (∀ W : World, Below w.heap.size w W → Calls Tryd.prog 34 #[.slice ad l.length c, .int .i64 22, .int .i64 4] W fun e w' => e = .returned (.int .i64 (s4 : Nat)) ∧ w' = W)) (N4 : Hid (∀ W : World, Below w.heap.size w W → Calls Tryd.prog 34 #[.slice ad l.length c, .int .i64 4, .int .i64 2] W fun e w' => e = .returned (.int .i64 (v4 : Nat)) ∧ w' = W)) (N6 : Hid (∀ W : World, Below w.heap.size w W → Calls Tryd.prog 34 #[.slice ad l.length c, .int .i64 6, .int .i64 2] W fun e w' => e = .returned (.int .i64 (f6 : Nat)) ∧ w' = W)) (ENM : Hid (str ((l.drop 30).take n) = nm)) (HVW : Hid (((v4 : Int) == 45) = true)) (HL : Hid (((f6 : Int) / 8 % 2 == 1) = gl)) (HDEC : Hid (∀ W : World, Calls Tryd.prog 35 #[.int .i64 (D : Nat), .int .i64 (C : Nat)] W fun e w' => e = .returned (.tuple #[.agg #[.int .i64 t1, .int .i64 t2, .int .i64 t3, .int .i64 t4, .int .i64 t5, .int .i64 t6], .bool ok]) ∧ Below W.heap.size W w'))
    (E8 : Hid (rd l 8 2 = me)) (E10 : Hid (rd l 10 2 = C)) (E12 : Hid (rd l 12 2 = D)) (E14 : Hid (rd l 14 4 = cr)) (E26 : Hid (rd l 26 2 = n)) (NM : Hid (nmOf l = nm)) (GW : Hid (gwOf l = true)) (GL : Hid (glOf l = gl)) (HOK : Hid (ok = tmB D C)) (HTT : Hid (ok = true → 1980 + (D : Int) / 512 = t1 ∧ (D : Int) / 32 % 16 = t2 ∧ (D : Int) % 32 = t3 ∧ (C : Int) / 2048 = t4 ∧ (C : Int) / 32 % 64 = t5 ∧ (C : Int) % 32 * 2 = t6)) (p8 s8 : Nat) (PKG : Hid (pkN l = p8 ∧ szN l = s8))
    (B34 : Hid (50 + n ≤ l.length → ∀ W : World, Below w.heap.size w W → ∃ a' c', (∀ V : World, (Instr.slice 31 (.slice ad l.length c) (some (.int .i64 (34 + (n : Int)))) (some (.int .i64 (42 + (n : Int)))) none).run Tryd.prog V = .ok (.slice a' 8 c') V) ∧ Calls Tryd.prog 36 #[.slice a' 8 c'] W fun e w' => e = .returned (.int .u64 (s8 : Nat)) ∧ w' = W))
    (B42 : Hid (50 + n ≤ l.length → ∀ W : World, Below w.heap.size w W → ∃ a' c', (∀ V : World, (Instr.slice 31 (.slice ad l.length c) (some (.int .i64 (42 + (n : Int)))) (some (.int .i64 (50 + (n : Int)))) none).run Tryd.prog V = .ok (.slice a' 8 c') V) ∧ Calls Tryd.prog 36 #[.slice a' 8 c'] W fun e w' => e = .returned (.int .u64 (p8 : Nat)) ∧ w' = W))
    (N34 : Hid (50 + n ≤ l.length → s8 ≤ 67108864 → ∀ W : World, Below w.heap.size w W → Calls Tryd.prog 34 #[.slice ad l.length c, .int .i64 (34 + (n : Int)), .int .i64 8] W fun e w' => e = .returned (.int .i64 (s8 : Nat)) ∧ w' = W))
    (N42 : Hid (50 + n ≤ l.length → p8 ≤ 67108864 → ∀ W : World, Below w.heap.size w W → Calls Tryd.prog 34 #[.slice ad l.length c, .int .i64 (42 + (n : Int)), .int .i64 8] W fun e w' => e = .returned (.int .i64 (p8 : Nat)) ∧ w' = W)) :
    Calls Tryd.prog 17 #[.slice ad l.length c] w (PPQ l w) := by
  have t0 : decide ((l.length : Int) < 30) = false := by simp; omega
  have q1 : IntKind.i64.wrap ((l.length : Int) - 30) = (l.length : Int) - 30 := IntWalk.i64_in _ (by omega)
  have t1' : decide ((l.length : Int) - 30 < (n : Int)) = false := by simp; omega
  have Q30 : Hid (IntKind.i64.wrap (30 + (n : Int)) = 30 + n) := Lib.hid (IntWalk.i64_in _ (by omega))
  have Q_cr : Hid (IntKind.u32.wrap (cr : Int) = cr) := Lib.hid (by rw [IntKind.wrap_u32]; omega)
  have Q8 : Hid (IntKind.i64.wrap ((f6 : Int) / 8) = (f6 : Int) / 8) := Lib.hid (IntWalk.i64_in _ (by omega))
  have Q2 : Hid (((f6 : Int) / 8).tmod 2 = (f6 : Int) / 8 % 2) := Lib.hid (Int.tmod_eq_emod_of_nonneg (by omega))
  have HH := Lib.hid h
  obtain ⟨sa, sc, hsl, hsc, hsb⟩ := cut_byt h hc 30 (30 + n) (by omega) (by omega)
  rw [show 30 + n - 30 = n by omega] at hsl hsc hsb
  have HSL : Hid (∀ W : World, (Instr.slice 31 (.slice ad l.length c) (some (.int .i64 30)) (some (.int .i64 (30 + (n : Int)))) none).run Tryd.prog W = .ok (.slice sa n sc) W) := Lib.hid (by intro W; have := hsl W; rw [show ((30 + n : Nat) : Int) = 30 + (n : Int) by omega] at this; exact this)
  have HSB := Lib.hid hsb
  have HP := Lib.hid (Own.new_at w [.string ByteArray.empty, .int .i64 0, .int .i64 0, .int .i64 0, .int .i64 0, .int .i64 0, .int .i64 0, .int .i64 0, .int .u32 0, .int .i64 0, .int .i64 0, .bool false, .bool false] 28 w.heap.size rfl)
  have HB := Lib.hid ((Below.refl w.heap.size w).alloc (Nat.le_refl _) (.cells #[.string ByteArray.empty, .int .i64 0, .int .i64 0, .int .i64 0, .int .i64 0, .int .i64 0, .int .i64 0, .int .i64 0, .int .u32 0, .int .i64 0, .int .i64 0, .bool false, .bool false] 28))
  clear h hsl hsc hsb
  go_enter Tryd.func17, Tryd.ntmps17
  go_wp2_with (fail)
  refine (N26.out _ HB.out).mono ?_
  rintro e w' ⟨rfl, hw'⟩
  subst w'
  go_wp2_with (fail)
  clear t0 q1 t1'
  generalize hw0 : (w.alloc (.cells #[.string ByteArray.empty, .int .i64 0, .int .i64 0, .int .i64 0, .int .i64 0, .int .i64 0, .int .i64 0, .int .i64 0, .int .u32 0, .int .i64 0, .int .i64 0, .bool false, .bool false] 28)) = w0 at *
  have hz0 : w0.heap.size = w.heap.size + 1 := by rw [← hw0]; simp
  clear hw0
  refine (N12.out _ HB.out).mono ?_
  rintro e w' ⟨rfl, hw'⟩
  subst w'
  go_wp2_with (fail)
  refine (N10.out _ HB.out).mono ?_
  rintro e w' ⟨rfl, hw'⟩
  subst w'
  go_wp2_with (fail)
  refine (HDEC.out _).mono ?_
  rintro e w1 ⟨rfl, hb⟩
  have hz1 := hb.size
  have HP := Lib.hid (HP.out.below hb (by omega))
  have HB := Lib.hid (HB.out.trans (hb.mono (by omega)))
  clear hb
  go_wp2_with (fail)
  have HT := Lib.hid (Own.new_at w1 [.int .i64 t1, .int .i64 t2, .int .i64 t3, .int .i64 t4, .int .i64 t5, .int .i64 t6] 23 w1.heap.size rfl)
  have HP := Lib.hid (HP.out.below ((Below.refl _ _).alloc (Nat.le_refl _) (.cells #[.int .i64 t1, .int .i64 t2, .int .i64 t3, .int .i64 t4, .int .i64 t5, .int .i64 t6] 23)) (by omega))
  have HB := Lib.hid (HB.out.alloc (by omega) (.cells #[.int .i64 t1, .int .i64 t2, .int .i64 t3, .int .i64 t4, .int .i64 t5, .int .i64 t6] 23))
  have hz2 : w1.heap.size < (w1.alloc (.cells #[.int .i64 t1, .int .i64 t2, .int .i64 t3, .int .i64 t4, .int .i64 t5, .int .i64 t6] 23)).heap.size := by simp
  generalize (w1.alloc (.cells #[.int .i64 t1, .int .i64 t2, .int .i64 t3, .int .i64 t4, .int .i64 t5, .int .i64 t6] 23)) = w2 at *
  generalize hbt : w1.heap.size = bt at *
  have hlt : w.heap.size < bt := by omega
  clear hbt hz1 hz0
  refine Mono.region_tail 25 (by kernel_rfl) (by kernel_rfl) (by kernel_rfl) (by kernel_rfl) ?_
  simp only [List.take_succ_cons, List.take_zero]
  refine Mono.hgl_val (v := ?v0) rfl Mono.rr (fun ρ a W hR hd hf => ?h0) ?_
  case h0 =>
    have e0 := Mono.init_get hf (t := 0) (by kernel_rfl)
    clear hd hf
    (go_simp; try with_reducible rfl)
  refine Mono.hgl_val (v := ?v1) rfl Mono.rr (fun ρ a W hR hd hf => ?h1) ?_
  case h1 =>
    have e4 := Mono.init_get hf (t := 4) (by kernel_rfl)
    clear hd hf
    (go_simp; try with_reducible rfl)
  refine Mono.hgl_val (v := ?v2) rfl Mono.rr (fun ρ a W hR hd hf => ?h2) ?_
  case h2 =>
    have e30 := Mono.dep_val hd hf (t := 30) (k := 1) (by kernel_rfl) rfl
    have hq := Q30.out
    clear hd hf
    (go_simp; try with_reducible rfl)
  refine Mono.hgl_val (v := ?v3) rfl Mono.rr (fun ρ a W hR hd hf => ?h3) ?_
  case h3 =>
    have e29 := Mono.dep_val hd hf (t := 29) (k := 0) (by kernel_rfl) rfl
    have e31 := Mono.dep_val hd hf (t := 31) (k := 2) (by kernel_rfl) rfl
    have hs := HSL.out W
    clear hd hf
    (go_simp; try with_reducible rfl)
  refine Mono.hgl_val (v := ?v4) rfl Mono.rr (fun ρ a W hR hd hf => ?h4) ?_
  case h4 =>
    have e32 := Mono.dep_val hd hf (t := 32) (k := 3) (by kernel_rfl) rfl
    have hcv := convert_byt Tryd.underlying31 Tryd.underlying5 Tryd.underlying9 (HSB.out.below (HB.out.trans (hR.mono (by omega))))
    rw [ENM.out] at hcv
    clear hd hf
    (go_simp; try with_reducible rfl)
  refine Mono.hgl_val (v := ?v5) rfl Mono.rr (fun ρ a W hR hd hf => ?h5) ?_
  case h5 =>
    have e5 := Mono.init_get hf (t := 5) (by kernel_rfl)
    have hk0 := (HT.out.below hR (by omega)).1 0 _ rfl
    have hk1 := (HT.out.below hR (by omega)).1 1 _ rfl
    have hk2 := (HT.out.below hR (by omega)).1 2 _ rfl
    have hk3 := (HT.out.below hR (by omega)).1 3 _ rfl
    have hk4 := (HT.out.below hR (by omega)).1 4 _ rfl
    have hk5 := (HT.out.below hR (by omega)).1 5 _ rfl
    clear hd hf
    (go_simp; try with_reducible rfl)
  refine Mono.hgl_val (v := ?v6) rfl Mono.rr (fun ρ a W hR hd hf => ?h6) ?_
  case h6 =>
    have e0 := Mono.init_get hf (t := 0) (by kernel_rfl)
    clear hd hf
    (go_simp; try with_reducible rfl)
  refine Mono.hgl_call (fun x _ => x = .int .i64 ((me : Nat) : Int)) rfl Mono.rr (fun _ _ _ h _ => h) (fun ρ a W hR hd hf => ?h7) ?_
  case h7 =>
    have e35 := Mono.dep_val hd hf (t := 35) (k := 6) (by kernel_rfl) rfl
    clear hd hf
    refine ⟨_, _, by go_simp; first | rfl | exact ⟨rfl, rfl⟩, ?_⟩
    exact (N8.out W (HB.out.trans (hR.mono (by omega)))).mono (fun e W' ⟨he, hw⟩ => ⟨_, he, hw ▸ Mono.rr _, rfl⟩)
  refine Mono.hgl_val (v := ?v8) rfl Mono.rr (fun ρ a W hR hd hf => ?h8) ?_
  case h8 =>
    have e0 := Mono.init_get hf (t := 0) (by kernel_rfl)
    clear hd hf
    (go_simp; try with_reducible rfl)
  refine Mono.hgl_call (fun x _ => x = .int .i64 ((cr : Nat) : Int)) rfl Mono.rr (fun _ _ _ h _ => h) (fun ρ a W hR hd hf => ?h9) ?_
  case h9 =>
    have e37 := Mono.dep_val hd hf (t := 37) (k := 8) (by kernel_rfl) rfl
    clear hd hf
    refine ⟨_, _, by go_simp; first | rfl | exact ⟨rfl, rfl⟩, ?_⟩
    exact (N14.out W (HB.out.trans (hR.mono (by omega)))).mono (fun e W' ⟨he, hw⟩ => ⟨_, he, hw ▸ Mono.rr _, rfl⟩)
  refine Mono.hgl_val (v := ?v10) rfl Mono.rr (fun ρ a W hR hd hf => ?h10) ?_
  case h10 =>
    have e38 := Mono.dep_val hd hf (t := 38) (k := 9) (by kernel_rfl) rfl
    have hq := Q_cr.out
    clear hd hf
    (go_simp; try with_reducible rfl)
  refine Mono.hgl_val (v := ?v11) rfl Mono.rr (fun ρ a W hR hd hf => ?h11) ?_
  case h11 =>
    have e0 := Mono.init_get hf (t := 0) (by kernel_rfl)
    clear hd hf
    (go_simp; try with_reducible rfl)
  refine Mono.hgl_call (fun x _ => x = .int .i64 ((p4 : Nat) : Int)) rfl Mono.rr (fun _ _ _ h _ => h) (fun ρ a W hR hd hf => ?h12) ?_
  case h12 =>
    have e40 := Mono.dep_val hd hf (t := 40) (k := 11) (by kernel_rfl) rfl
    clear hd hf
    refine ⟨_, _, by go_simp; first | rfl | exact ⟨rfl, rfl⟩, ?_⟩
    exact (N18.out W (HB.out.trans (hR.mono (by omega)))).mono (fun e W' ⟨he, hw⟩ => ⟨_, he, hw ▸ Mono.rr _, rfl⟩)
  refine Mono.hgl_val (v := ?v13) rfl Mono.rr (fun ρ a W hR hd hf => ?h13) ?_
  case h13 =>
    have e0 := Mono.init_get hf (t := 0) (by kernel_rfl)
    clear hd hf
    (go_simp; try with_reducible rfl)
  refine Mono.hgl_call (fun x _ => x = .int .i64 ((s4 : Nat) : Int)) rfl Mono.rr (fun _ _ _ h _ => h) (fun ρ a W hR hd hf => ?h14) ?_
  case h14 =>
    have e42 := Mono.dep_val hd hf (t := 42) (k := 13) (by kernel_rfl) rfl
    clear hd hf
    refine ⟨_, _, by go_simp; first | rfl | exact ⟨rfl, rfl⟩, ?_⟩
    exact (N22.out W (HB.out.trans (hR.mono (by omega)))).mono (fun e W' ⟨he, hw⟩ => ⟨_, he, hw ▸ Mono.rr _, rfl⟩)
  refine Mono.hgl_val (v := ?v15) rfl Mono.rr (fun ρ a W hR hd hf => ?h15) ?_
  case h15 =>
    have e0 := Mono.init_get hf (t := 0) (by kernel_rfl)
    clear hd hf
    (go_simp; try with_reducible rfl)
  refine Mono.hgl_call (fun x _ => x = .int .i64 ((v4 : Nat) : Int)) rfl Mono.rr (fun _ _ _ h _ => h) (fun ρ a W hR hd hf => ?h16) ?_
  case h16 =>
    have e44 := Mono.dep_val hd hf (t := 44) (k := 15) (by kernel_rfl) rfl
    clear hd hf
    refine ⟨_, _, by go_simp; first | rfl | exact ⟨rfl, rfl⟩, ?_⟩
    exact (N4.out W (HB.out.trans (hR.mono (by omega)))).mono (fun e W' ⟨he, hw⟩ => ⟨_, he, hw ▸ Mono.rr _, rfl⟩)
  refine Mono.hgl_val (v := ?v17) rfl Mono.rr (fun ρ a W hR hd hf => ?h17) ?_
  case h17 =>
    have e45 := Mono.dep_val hd hf (t := 45) (k := 16) (by kernel_rfl) rfl
    have hq := HVW.out
    clear hd hf
    (go_simp; try with_reducible rfl)
  refine Mono.hgl_val (v := ?v18) rfl Mono.rr (fun ρ a W hR hd hf => ?h18) ?_
  case h18 =>
    have e0 := Mono.init_get hf (t := 0) (by kernel_rfl)
    clear hd hf
    (go_simp; try with_reducible rfl)
  refine Mono.hgl_call (fun x _ => x = .int .i64 ((f6 : Nat) : Int)) rfl Mono.rr (fun _ _ _ h _ => h) (fun ρ a W hR hd hf => ?h19) ?_
  case h19 =>
    have e47 := Mono.dep_val hd hf (t := 47) (k := 18) (by kernel_rfl) rfl
    clear hd hf
    refine ⟨_, _, by go_simp; first | rfl | exact ⟨rfl, rfl⟩, ?_⟩
    exact (N6.out W (HB.out.trans (hR.mono (by omega)))).mono (fun e W' ⟨he, hw⟩ => ⟨_, he, hw ▸ Mono.rr _, rfl⟩)
  refine Mono.hgl_val (v := ?v20) rfl Mono.rr (fun ρ a W hR hd hf => ?h20) ?_
  case h20 =>
    have e48 := Mono.dep_val hd hf (t := 48) (k := 19) (by kernel_rfl) rfl
    have hq := Q8.out
    clear hd hf
    (go_simp; try with_reducible rfl)
  refine Mono.hgl_val (v := ?v21) rfl Mono.rr (fun ρ a W hR hd hf => ?h21) ?_
  case h21 =>
    have e49 := Mono.dep_val hd hf (t := 49) (k := 20) (by kernel_rfl) rfl
    have hq := Q2.out
    clear hd hf
    (go_simp; try with_reducible rfl)
  refine Mono.hgl_val (v := ?v22) rfl Mono.rr (fun ρ a W hR hd hf => ?h22) ?_
  case h22 =>
    have e50 := Mono.dep_val hd hf (t := 50) (k := 21) (by kernel_rfl) rfl
    have hq := HL.out
    clear hd hf
    (go_simp; try with_reducible rfl)
  refine Mono.hgl_val (v := ?v23) rfl Mono.rr (fun ρ a W hR hd hf => ?h23) ?_
  case h23 =>
    have e33 := Mono.dep_val hd hf (t := 33) (k := 4) (by kernel_rfl) rfl
    have e34 := Mono.dep_val hd hf (t := 34) (k := 5) (by kernel_rfl) rfl
    have e36 := Mono.dep_val hd hf (t := 36) (k := 7) (by kernel_rfl) rfl
    have e39 := Mono.dep_val hd hf (t := 39) (k := 10) (by kernel_rfl) rfl
    have e41 := Mono.dep_val hd hf (t := 41) (k := 12) (by kernel_rfl) rfl
    have e43 := Mono.dep_val hd hf (t := 43) (k := 14) (by kernel_rfl) rfl
    have e46 := Mono.dep_val hd hf (t := 46) (k := 17) (by kernel_rfl) rfl
    have e51 := Mono.dep_val hd hf (t := 51) (k := 22) (by kernel_rfl) rfl
    clear hd hf
    (go_simp; try with_reducible rfl)
  refine Mono.hgl_pred (fun v W => NewH w2 v W) rfl hstNewH (fun ρ a W hR hd hf => ?h24) ?_
  case h24 =>
    clear hd hf
    exact ⟨_, _, by (go_simp <;> rfl), (Below.refl _ _).alloc (Nat.le_refl _) _, NewH.new hR⟩
  refine Mono.hgl_done rfl (by decide) (fun ρ W hR ht => ?_)
  simp only [List.take_succ_cons, List.take_zero, List.drop_succ_cons, List.drop_zero]
  obtain ⟨d24, d23, d22, d21, d20, d19, d18, d17, d16, d15, d14, d13, d12, d11, d10, d9, d8, d7, d6, d5, d4, d3, d2, d1, d0, _⟩ := ht
  replace d24 : (fun v W => NewH w2 v W) (ρ 24) W := d24
  simp only [List.length_cons, List.length_nil, Nat.reduceAdd] at d0 d1 d2 d3 d4 d5 d6 d7 d8 d9 d10 d11 d12 d13 d14 d15 d16 d17 d18 d19 d20 d21 d22 d23
  simp only [Mono.putAll, Nat.reduceAdd, d0, d1, d2, d3, d4, d5, d6, d7, d8, d9, d10, d11, d12, d13, d14, d15, d16, d17, d18, d19, d20, d21, d22, d23, Act.put, List.setIfInBounds_toArray, List.set_cons_zero, List.set_cons_succ]
  clear d0 d1 d2 d3 d4 d5 d6 d7 d8 d9 d10 d11 d12 d13 d14 d15 d16 d17 d18 d19 d20 d21 d22 d23
  generalize ρ 24 = r24 at *
  have HT := Lib.hid (HT.out.below hR (by omega))
  have HP := Lib.hid (HP.out.below hR (by omega))
  have HB := Lib.hid (HB.out.trans (hR.mono (by omega)))
  have hz1 := hR.size
  clear hR
  obtain ⟨bh, hbe, hbh0, hbh1, hO⟩ := d24
  subst hbe
  have HO := Lib.hid hO
  have hlh : w.heap.size < bh := by omega
  have hzh : bh < W.heap.size := hbh1
  clear hO hbh0 hbh1
  go_wp2_with (with_reducible refine stop_store ?_)
  refine store_own [.string nm, .int .i64 t1, .int .i64 t2, .int .i64 t3, .int .i64 t4, .int .i64 t5, .int .i64 t6, .int .i64 (me : Nat), .int .u32 (cr : Nat), .int .i64 (p4 : Nat), .int .i64 (s4 : Nat), .bool true, .bool gl] HO.out rfl rfl rfl (by kernel_rfl) (by kernel_rfl) ?_
  intro w3 hO9 hg9 hz9
  have HO := Lib.hid hO9
  have HP := Lib.hid (HP.out.gr hg9 (by omega) (by simp; omega))
  have HB := Lib.hid (HB.out.trans (gr_below hg9 w.heap.size HB.out.size (fun i h => by injection h with h; omega)))
  have hzh1 : bh < w3.heap.size := by rw [hz9]; exact hzh
  clear hO9 hg9 hz9 hzh
  have hzh := hzh1
  clear hzh1
  obtain ⟨hpk, hsz⟩ := PKG.out
  have PK := Lib.hid hpk
  have SZ := Lib.hid hsz
  clear hpk hsz
  have k11 := HO.out.1 11 _ rfl
  have q50 : IntKind.i64.wrap (50 + (n : Int)) = 50 + n := IntWalk.i64_in _ (by omega)
  have q34 : IntKind.i64.wrap (34 + (n : Int)) = 34 + n := IntWalk.i64_in _ (by omega)
  have q42 : IntKind.i64.wrap (42 + (n : Int)) = 42 + n := IntWalk.i64_in _ (by omega)
  by_cases h50 : 50 + n ≤ l.length
  rotate_left
  · have d1 : decide ((l.length : Int) < 50 + (n : Int)) = true := by simp; omega
    have H50 := Lib.hid h50
    clear h50
    have HN : Hid (¬ PAC l) := Lib.hid (fun p => H50.out (by have := (p.wd GW.out).1; rw [E26.out] at this; exact this))
    go_wp2_with (with_reducible refine stop_store ?_)
    refine store_own [.string ByteArray.empty, .int .i64 0, .int .i64 0, .int .i64 0, .int .i64 0, .int .i64 0, .int .i64 0, .int .i64 0, .int .u32 0, .int .i64 0, .int .i64 0, .bool false, .bool false] HP.out rfl rfl rfl (by kernel_rfl) (by kernel_rfl) ?_
    intro w9 hO9 hg9 hz9
    have HP := Lib.hid hO9
    have HB := Lib.hid (HB.out.trans (gr_below hg9 w.heap.size HB.out.size (fun i h => by injection h with h; omega)))
    clear hO9 hg9 hz9
    have z0 := HP.out.1 0 _ rfl
    have z1 := HP.out.1 1 _ rfl
    have z2 := HP.out.1 2 _ rfl
    have z3 := HP.out.1 3 _ rfl
    have z4 := HP.out.1 4 _ rfl
    have z5 := HP.out.1 5 _ rfl
    have z6 := HP.out.1 6 _ rfl
    have z7 := HP.out.1 7 _ rfl
    have z8 := HP.out.1 8 _ rfl
    have z9 := HP.out.1 9 _ rfl
    have z10 := HP.out.1 10 _ rfl
    have z11 := HP.out.1 11 _ rfl
    have z12 := HP.out.1 12 _ rfl
    have hg := HP.out.2
    go_wp2_with (fail)
    refine bodyPost_ret (v := .tuple #[.agg #[.string ByteArray.empty, .int .i64 0, .int .i64 0, .int .i64 0, .int .i64 0, .int .i64 0, .int .i64 0, .int .i64 0, .int .u32 0, .int .i64 0, .int .i64 0, .bool false, .bool false], .int .i64 0]) (by simp [results, Tryd.results17, go_sem, z0, z1, z2, z3, z4, z5, z6, z7, z8, z9, z10, z11, z12] <;> rfl) rfl (.inr ⟨HN.out, rfl, HB.out⟩)
  have d1 : decide ((l.length : Int) < 50 + (n : Int)) = false := by simp; omega
  obtain ⟨a1, c1, hs1, hb1⟩ := B34.out h50 _ HB.out
  have HB1 := Lib.hid hb1
  clear hb1
  by_cases hs8 : s8 ≤ 67108864
  rotate_left
  · have d2 : decide (67108864 < (s8 : Int)) = true := by simp; omega
    have HS8 := Lib.hid hs8
    clear hs8
    go_wp2_with (fail)
    refine HB1.out.mono ?_
    rintro e w' ⟨rfl, hw'⟩
    subst w'
    have HN : Hid (¬ PAC l) := Lib.hid (fun p => HS8.out (by have := (p.wd GW.out).2.1; rw [SZ.out] at this; exact this))
    go_wp2_with (with_reducible refine stop_store ?_)
    refine store_own [.string ByteArray.empty, .int .i64 0, .int .i64 0, .int .i64 0, .int .i64 0, .int .i64 0, .int .i64 0, .int .i64 0, .int .u32 0, .int .i64 0, .int .i64 0, .bool false, .bool false] HP.out rfl rfl rfl (by kernel_rfl) (by kernel_rfl) ?_
    intro w9 hO9 hg9 hz9
    have HP := Lib.hid hO9
    have HB := Lib.hid (HB.out.trans (gr_below hg9 w.heap.size HB.out.size (fun i h => by injection h with h; omega)))
    clear hO9 hg9 hz9
    have z0 := HP.out.1 0 _ rfl
    have z1 := HP.out.1 1 _ rfl
    have z2 := HP.out.1 2 _ rfl
    have z3 := HP.out.1 3 _ rfl
    have z4 := HP.out.1 4 _ rfl
    have z5 := HP.out.1 5 _ rfl
    have z6 := HP.out.1 6 _ rfl
    have z7 := HP.out.1 7 _ rfl
    have z8 := HP.out.1 8 _ rfl
    have z9 := HP.out.1 9 _ rfl
    have z10 := HP.out.1 10 _ rfl
    have z11 := HP.out.1 11 _ rfl
    have z12 := HP.out.1 12 _ rfl
    have hg := HP.out.2
    go_wp2_with (fail)
    refine bodyPost_ret (v := .tuple #[.agg #[.string ByteArray.empty, .int .i64 0, .int .i64 0, .int .i64 0, .int .i64 0, .int .i64 0, .int .i64 0, .int .i64 0, .int .u32 0, .int .i64 0, .int .i64 0, .bool false, .bool false], .int .i64 0]) (by simp [results, Tryd.results17, go_sem, z0, z1, z2, z3, z4, z5, z6, z7, z8, z9, z10, z11, z12] <;> rfl) rfl (.inr ⟨HN.out, rfl, HB.out⟩)
  have d2 : decide (67108864 < (s8 : Int)) = false := by simp; omega
  go_wp2_with (fail)
  refine HB1.out.mono ?_
  rintro e w' ⟨rfl, hw'⟩
  subst w'
  clear hs1 HB1
  obtain ⟨a2, c2, hs2, hb2⟩ := B42.out h50 _ HB.out
  have HB2 := Lib.hid hb2
  clear hb2
  by_cases hp8 : p8 ≤ 67108864
  rotate_left
  · have d3 : decide (67108864 < (p8 : Int)) = true := by simp; omega
    have HP8 := Lib.hid hp8
    clear hp8
    go_wp2_with (fail)
    refine HB2.out.mono ?_
    rintro e w' ⟨rfl, hw'⟩
    subst w'
    have HN : Hid (¬ PAC l) := Lib.hid (fun p => HP8.out (by have := (p.wd GW.out).2.2; rw [PK.out] at this; exact this))
    go_wp2_with (with_reducible refine stop_store ?_)
    refine store_own [.string ByteArray.empty, .int .i64 0, .int .i64 0, .int .i64 0, .int .i64 0, .int .i64 0, .int .i64 0, .int .i64 0, .int .u32 0, .int .i64 0, .int .i64 0, .bool false, .bool false] HP.out rfl rfl rfl (by kernel_rfl) (by kernel_rfl) ?_
    intro w9 hO9 hg9 hz9
    have HP := Lib.hid hO9
    have HB := Lib.hid (HB.out.trans (gr_below hg9 w.heap.size HB.out.size (fun i h => by injection h with h; omega)))
    clear hO9 hg9 hz9
    have z0 := HP.out.1 0 _ rfl
    have z1 := HP.out.1 1 _ rfl
    have z2 := HP.out.1 2 _ rfl
    have z3 := HP.out.1 3 _ rfl
    have z4 := HP.out.1 4 _ rfl
    have z5 := HP.out.1 5 _ rfl
    have z6 := HP.out.1 6 _ rfl
    have z7 := HP.out.1 7 _ rfl
    have z8 := HP.out.1 8 _ rfl
    have z9 := HP.out.1 9 _ rfl
    have z10 := HP.out.1 10 _ rfl
    have z11 := HP.out.1 11 _ rfl
    have z12 := HP.out.1 12 _ rfl
    have hg := HP.out.2
    go_wp2_with (fail)
    refine bodyPost_ret (v := .tuple #[.agg #[.string ByteArray.empty, .int .i64 0, .int .i64 0, .int .i64 0, .int .i64 0, .int .i64 0, .int .i64 0, .int .i64 0, .int .u32 0, .int .i64 0, .int .i64 0, .bool false, .bool false], .int .i64 0]) (by simp [results, Tryd.results17, go_sem, z0, z1, z2, z3, z4, z5, z6, z7, z8, z9, z10, z11, z12] <;> rfl) rfl (.inr ⟨HN.out, rfl, HB.out⟩)
  have d3 : decide (67108864 < (p8 : Int)) = false := by simp; omega
  go_wp2_with (fail)
  refine HB2.out.mono ?_
  rintro e w' ⟨rfl, hw'⟩
  subst w'
  clear hs2 HB2
  go_wp2_with (fail)
  refine (N34.out h50 hs8 _ HB.out).mono ?_
  rintro e w' ⟨rfl, hw'⟩
  subst w'
  go_wp2_with (fail)
  refine (N42.out h50 hp8 _ HB.out).mono ?_
  rintro e w' ⟨rfl, hw'⟩
  subst w'
  have HWD := Lib.hid (And.intro h50 (And.intro hs8 hp8))
  clear h50 hs8 hp8 d1 d2 d3 q50 q34 q42
  have y10 := HO.out.1 10 _ rfl
  have y9 := HO.out.1 9 _ rfl
  have hfr := HO.out.2
  go_upto_region 12 with (fail)
  clear y10 y9 hfr k11
  have HO := Lib.hid ((HO.out.set 10 (.int .i64 (s8 : Nat)) (by simp)).set 9 (.int .i64 (p8 : Nat)) (by simp))
  have HP := Lib.hid ((HP.out.other (c := bh) (by omega) 10 (.int .i64 (s8 : Nat))).other (c := bh) (by omega) 9 (.int .i64 (p8 : Nat)))
  have HB := Lib.hid ((HB.out.setCell (p := ⟨bh, 10, none⟩) (by show w.heap.size ≤ bh; omega) (.int .i64 (s8 : Nat))).setCell (p := ⟨bh, 9, none⟩) (by show w.heap.size ≤ bh; omega) (.int .i64 (p8 : Nat)))
  have hzh1 : bh < ((w3.setCell ⟨bh, 10, none⟩ (.int .i64 (s8 : Nat))).setCell ⟨bh, 9, none⟩ (.int .i64 (p8 : Nat))).heap.size := by simpa using hzh
  clear hzh
  have hzh := hzh1
  clear hzh1
  generalize ((w3.setCell ⟨bh, 10, none⟩ (.int .i64 (s8 : Nat))).setCell ⟨bh, 9, none⟩ (.int .i64 (p8 : Nat))) = w5 at *
  simp only [List.set_cons_zero, List.set_cons_succ] at HO
  obtain ⟨pk, hpk1⟩ : ∃ z, z = p8 := ⟨_, rfl⟩
  obtain ⟨sz, hsz1⟩ : ∃ z, z = s8 := ⟨_, rfl⟩
  rw [← hpk1] at HO PK HWD
  rw [← hsz1] at HO SZ HWD
  clear hpk1 hsz1
  cases ok
  · refine Mono.region_below (by kernel_rfl) (by kernel_rfl) (by kernel_rfl) ?_
    refine Mono.rgl_val (v := ?vg12_0) rfl Mono.rr (fun ρ a W hR hd hf => ?hg12_0) ?_
    case hg12_0 =>
      have e6 := Mono.init_get hf (t := 6) (by kernel_rfl)
      clear hd hf
      (go_simp; try with_reducible rfl)
    refine Mono.rgl_val (v := ?vg12_1) rfl Mono.rr (fun ρ a W hR hd hf => ?hg12_1) ?_
    case hg12_1 =>
      have e91 := Mono.dep_val hd hf (t := 91) (k := 0) (by kernel_rfl) rfl
      clear hd hf
      (go_simp; try with_reducible rfl)
    refine Mono.rgl_val (v := ?vg12_2) rfl Mono.rr (fun ρ a W hR hd hf => ?hg12_2) ?_
    case hg12_2 =>
      have e92 := Mono.dep_val hd hf (t := 92) (k := 1) (by kernel_rfl) rfl
      clear hd hf
      (go_simp; try with_reducible rfl)
    refine Mono.rgl_skip rfl (by decide) (fun ρ W hd => Mono.guard_val hd (t := 93) (k := 2) (by kernel_rfl) rfl) ?_
    refine Mono.rgl_skip rfl (by decide) (fun ρ W hd => Mono.guard_val hd (t := 93) (k := 2) (by kernel_rfl) rfl) ?_
    refine Mono.rgl_skip rfl (by decide) (fun ρ W hd => Mono.guard_val hd (t := 93) (k := 2) (by kernel_rfl) rfl) ?_
    refine Mono.rgl_val (v := ?vg12_6) rfl Mono.rr (fun ρ a W hR hd hf => ?hg12_6) ?_
    case hg12_6 =>
      have e93 := Mono.dep_val hd hf (t := 93) (k := 2) (by kernel_rfl) rfl
      have e96 := Mono.dep_val hd hf (t := 96) (k := 5) (by kernel_rfl) rfl
      clear hd hf
      (go_simp; try with_reducible rfl)
    refine Mono.rgl_val (v := ?vg12_7) rfl Mono.rr (fun ρ a W hR hd hf => ?hg12_7) ?_
    case hg12_7 =>
      have e97 := Mono.dep_val hd hf (t := 97) (k := 6) (by kernel_rfl) rfl
      clear hd hf
      (go_simp; try with_reducible rfl)
    refine Mono.rgl_skip rfl (by decide) (fun ρ W hd => Mono.guard_val hd (t := 98) (k := 7) (by kernel_rfl) rfl) ?_
    refine Mono.rgl_skip rfl (by decide) (fun ρ W hd => Mono.guard_val hd (t := 98) (k := 7) (by kernel_rfl) rfl) ?_
    refine Mono.rgl_skip rfl (by decide) (fun ρ W hd => Mono.guard_val hd (t := 98) (k := 7) (by kernel_rfl) rfl) ?_
    refine Mono.rgl_skip rfl (by decide) (fun ρ W hd => Mono.guard_val hd (t := 98) (k := 7) (by kernel_rfl) rfl) ?_
    refine Mono.rgl_val (v := ?vg12_12) rfl Mono.rr (fun ρ a W hR hd hf => ?hg12_12) ?_
    case hg12_12 =>
      have e98 := Mono.dep_val hd hf (t := 98) (k := 7) (by kernel_rfl) rfl
      have e102 := Mono.dep_val hd hf (t := 102) (k := 11) (by kernel_rfl) rfl
      clear hd hf
      (go_simp; try with_reducible rfl)
    refine Mono.rgl_done rfl (fun ρ W hR ht => ?_)
    obtain ⟨dg12_12, dg12_11, dg12_10, dg12_9, dg12_8, dg12_7, dg12_6, dg12_5, dg12_4, dg12_3, dg12_2, dg12_1, dg12_0, _⟩ := ht
    simp only [List.length_cons, List.length_nil, Nat.reduceAdd] at dg12_0 dg12_1 dg12_2 dg12_3 dg12_4 dg12_5 dg12_6 dg12_7 dg12_8 dg12_9 dg12_10 dg12_11 dg12_12
    simp only [Mono.putAll, Nat.reduceAdd, dg12_0, dg12_1, dg12_2, dg12_3, dg12_4, dg12_5, dg12_6, dg12_7, dg12_8, dg12_9, dg12_10, dg12_11, dg12_12, Act.put, List.setIfInBounds_toArray, List.set_cons_zero, List.set_cons_succ]
    clear dg12_0 dg12_1 dg12_2 dg12_3 dg12_4 dg12_5 dg12_6 dg12_7 dg12_8 dg12_9 dg12_10 dg12_11 dg12_12
    have HO := Lib.hid (HO.out.below hR hzh)
    have HP := Lib.hid (HP.out.below hR (by omega))
    have HB := Lib.hid (HB.out.trans (hR.mono (by omega)))
    have hzh1 : bh < W.heap.size := Nat.lt_of_lt_of_le hzh hR.size
    clear hR hzh
    have hzh := hzh1
    clear hzh1
    obtain ⟨w6, rfl⟩ : ∃ z : World, z = W := ⟨_, rfl⟩
    have HN : Hid (¬ PAC l) := Lib.hid (fun p => by have h := p.tm; rw [E12.out, E10.out, ← HOK.out] at h; cases h)
    go_wp2_with (with_reducible refine stop_store ?_)
    refine store_own [.string ByteArray.empty, .int .i64 0, .int .i64 0, .int .i64 0, .int .i64 0, .int .i64 0, .int .i64 0, .int .i64 0, .int .u32 0, .int .i64 0, .int .i64 0, .bool false, .bool false] HP.out rfl rfl rfl (by kernel_rfl) (by kernel_rfl) ?_
    intro w9 hO9 hg9 hz9
    have HP := Lib.hid hO9
    have HB := Lib.hid (HB.out.trans (gr_below hg9 w.heap.size HB.out.size (fun i h => by injection h with h; omega)))
    clear hO9 hg9 hz9
    have z0 := HP.out.1 0 _ rfl
    have z1 := HP.out.1 1 _ rfl
    have z2 := HP.out.1 2 _ rfl
    have z3 := HP.out.1 3 _ rfl
    have z4 := HP.out.1 4 _ rfl
    have z5 := HP.out.1 5 _ rfl
    have z6 := HP.out.1 6 _ rfl
    have z7 := HP.out.1 7 _ rfl
    have z8 := HP.out.1 8 _ rfl
    have z9 := HP.out.1 9 _ rfl
    have z10 := HP.out.1 10 _ rfl
    have z11 := HP.out.1 11 _ rfl
    have z12 := HP.out.1 12 _ rfl
    have hg := HP.out.2
    go_wp2_with (fail)
    refine bodyPost_ret (v := .tuple #[.agg #[.string ByteArray.empty, .int .i64 0, .int .i64 0, .int .i64 0, .int .i64 0, .int .i64 0, .int .i64 0, .int .i64 0, .int .u32 0, .int .i64 0, .int .i64 0, .bool false, .bool false], .int .i64 0]) (by simp [results, Tryd.results17, go_sem, z0, z1, z2, z3, z4, z5, z6, z7, z8, z9, z10, z11, z12] <;> rfl) rfl (.inr ⟨HN.out, rfl, HB.out⟩)
  · obtain ⟨ET1, ET2, ET3, ET4, ET5, ET6⟩ := HTT.out rfl
    have RT : Hid (Dos.rightB t1 t2 t3 t4 t5 t6 = true) := Lib.hid (by have h := HOK.out; unfold tmB at h; rw [ET1, ET2, ET3, ET4, ET5, ET6] at h; exact h.symm)
    have ET := Lib.hid (And.intro ET1 (And.intro ET2 (And.intro ET3 (And.intro ET4 (And.intro ET5 ET6)))))
    clear ET1 ET2 ET3 ET4 ET5 ET6
    have HCK := Lib.hid (fun W => refLcheck_any nm t1 t2 t3 t4 t5 t6 (me : Nat) (cr : Nat) (pk : Nat) (sz : Nat) true gl W)
    rw [RT.out] at HCK
    have CE : Hid (lcode (chk (nmOf l)) true (rd l 8 2 : Nat) (pkN l : Nat) (szN l : Nat) = lcode (chk nm) true (me : Nat) (pk : Nat) (sz : Nat)) := Lib.hid (by rw [NM.out, E8.out, PK.out, SZ.out])
    obtain ⟨cc, hcc⟩ : ∃ z, z = lcode (chk nm) true (me : Nat) (pk : Nat) (sz : Nat) := ⟨_, rfl⟩
    rw [← hcc] at HCK CE
    have HCE := Lib.hid hcc
    clear hcc
    by_cases hc0 : cc = 0
    rotate_left
    · have HCC : Hid ((cc != 0) = true) := Lib.hid (by simpa using hc0)
      have HC1 := Lib.hid hc0
      clear hc0
      refine Mono.region_below (by kernel_rfl) (by kernel_rfl) (by kernel_rfl) ?_
      refine Mono.rgl_val (v := ?vg13_0) rfl Mono.rr (fun ρ a W hR hd hf => ?hg13_0) ?_
      case hg13_0 =>
        have e6 := Mono.init_get hf (t := 6) (by kernel_rfl)
        clear hd hf
        (go_simp; try with_reducible rfl)
      refine Mono.rgl_val (v := ?vg13_1) rfl Mono.rr (fun ρ a W hR hd hf => ?hg13_1) ?_
      case hg13_1 =>
        have e91 := Mono.dep_val hd hf (t := 91) (k := 0) (by kernel_rfl) rfl
        clear hd hf
        (go_simp; try with_reducible rfl)
      refine Mono.rgl_val (v := ?vg13_2) rfl Mono.rr (fun ρ a W hR hd hf => ?hg13_2) ?_
      case hg13_2 =>
        have e92 := Mono.dep_val hd hf (t := 92) (k := 1) (by kernel_rfl) rfl
        clear hd hf
        (go_simp; try with_reducible rfl)
      refine Mono.rgl_valg (v := ?vg13_3) rfl Mono.rr (fun ρ W hd => Mono.guard_val hd (t := 93) (k := 2) (by kernel_rfl) rfl) (fun ρ a W hR hd hf => ?hg13_3) ?_
      case hg13_3 =>
        have e7 := Mono.init_get hf (t := 7) (by kernel_rfl)
        have hk0 := (HO.out.below hR hzh).1 0 _ rfl
        have hk1 := (HO.out.below hR hzh).1 1 _ rfl
        have hk2 := (HO.out.below hR hzh).1 2 _ rfl
        have hk3 := (HO.out.below hR hzh).1 3 _ rfl
        have hk4 := (HO.out.below hR hzh).1 4 _ rfl
        have hk5 := (HO.out.below hR hzh).1 5 _ rfl
        have hk6 := (HO.out.below hR hzh).1 6 _ rfl
        have hk7 := (HO.out.below hR hzh).1 7 _ rfl
        have hk8 := (HO.out.below hR hzh).1 8 _ rfl
        have hk9 := (HO.out.below hR hzh).1 9 _ rfl
        have hk10 := (HO.out.below hR hzh).1 10 _ rfl
        have hk11 := (HO.out.below hR hzh).1 11 _ rfl
        have hk12 := (HO.out.below hR hzh).1 12 _ rfl
        clear hd hf
        (go_simp; try with_reducible rfl)
      refine Mono.rgl_callg (fun x _ => x = .int .i64 cc) rfl Mono.rr (fun _ _ _ h _ => h) (fun ρ W hd => Mono.guard_val hd (t := 93) (k := 2) (by kernel_rfl) rfl) (fun ρ a W hR hd hf => ?hg13_4) ?_
      case hg13_4 =>
        have e94 := Mono.dep_val hd hf (t := 94) (k := 3) (by kernel_rfl) rfl
        clear hd hf
        refine ⟨_, _, by go_simp; first | rfl | exact ⟨rfl, rfl⟩, ?_⟩
        exact (HCK.out W).mono (fun e W' ⟨he, hb⟩ => ⟨_, he, hb, rfl⟩)
      refine Mono.rgl_valg (v := ?vg13_5) rfl Mono.rr (fun ρ W hd => Mono.guard_val hd (t := 93) (k := 2) (by kernel_rfl) rfl) (fun ρ a W hR hd hf => ?hg13_5) ?_
      case hg13_5 =>
        have e95 := Mono.dep_val hd hf (t := 95) (k := 4) (by kernel_rfl) rfl
        have hq := HCC.out
        clear hd hf
        (go_simp; try with_reducible rfl)
      refine Mono.rgl_val (v := ?vg13_6) rfl Mono.rr (fun ρ a W hR hd hf => ?hg13_6) ?_
      case hg13_6 =>
        have e93 := Mono.dep_val hd hf (t := 93) (k := 2) (by kernel_rfl) rfl
        have e96 := Mono.dep_val hd hf (t := 96) (k := 5) (by kernel_rfl) rfl
        clear hd hf
        (go_simp; try with_reducible rfl)
      refine Mono.rgl_val (v := ?vg13_7) rfl Mono.rr (fun ρ a W hR hd hf => ?hg13_7) ?_
      case hg13_7 =>
        have e97 := Mono.dep_val hd hf (t := 97) (k := 6) (by kernel_rfl) rfl
        clear hd hf
        (go_simp; try with_reducible rfl)
      refine Mono.rgl_skip rfl (by decide) (fun ρ W hd => Mono.guard_val hd (t := 98) (k := 7) (by kernel_rfl) rfl) ?_
      refine Mono.rgl_skip rfl (by decide) (fun ρ W hd => Mono.guard_val hd (t := 98) (k := 7) (by kernel_rfl) rfl) ?_
      refine Mono.rgl_skip rfl (by decide) (fun ρ W hd => Mono.guard_val hd (t := 98) (k := 7) (by kernel_rfl) rfl) ?_
      refine Mono.rgl_skip rfl (by decide) (fun ρ W hd => Mono.guard_val hd (t := 98) (k := 7) (by kernel_rfl) rfl) ?_
      refine Mono.rgl_val (v := ?vg13_12) rfl Mono.rr (fun ρ a W hR hd hf => ?hg13_12) ?_
      case hg13_12 =>
        have e98 := Mono.dep_val hd hf (t := 98) (k := 7) (by kernel_rfl) rfl
        have e102 := Mono.dep_val hd hf (t := 102) (k := 11) (by kernel_rfl) rfl
        clear hd hf
        (go_simp; try with_reducible rfl)
      refine Mono.rgl_done rfl (fun ρ W hR ht => ?_)
      obtain ⟨dg13_12, dg13_11, dg13_10, dg13_9, dg13_8, dg13_7, dg13_6, dg13_5, dg13_4, dg13_3, dg13_2, dg13_1, dg13_0, _⟩ := ht
      simp only [List.length_cons, List.length_nil, Nat.reduceAdd] at dg13_0 dg13_1 dg13_2 dg13_3 dg13_4 dg13_5 dg13_6 dg13_7 dg13_8 dg13_9 dg13_10 dg13_11 dg13_12
      simp only [Mono.putAll, Nat.reduceAdd, dg13_0, dg13_1, dg13_2, dg13_3, dg13_4, dg13_5, dg13_6, dg13_7, dg13_8, dg13_9, dg13_10, dg13_11, dg13_12, Act.put, List.setIfInBounds_toArray, List.set_cons_zero, List.set_cons_succ]
      clear dg13_0 dg13_1 dg13_2 dg13_3 dg13_4 dg13_5 dg13_6 dg13_7 dg13_8 dg13_9 dg13_10 dg13_11 dg13_12
      have HO := Lib.hid (HO.out.below hR hzh)
      have HP := Lib.hid (HP.out.below hR (by omega))
      have HB := Lib.hid (HB.out.trans (hR.mono (by omega)))
      have hzh1 : bh < W.heap.size := Nat.lt_of_lt_of_le hzh hR.size
      clear hR hzh
      have hzh := hzh1
      clear hzh1
      obtain ⟨w6, rfl⟩ : ∃ z : World, z = W := ⟨_, rfl⟩
      have HN : Hid (¬ PAC l) := Lib.hid (fun p => HC1.out (by rw [← CE.out]; exact p.ck))
      go_wp2_with (with_reducible refine stop_store ?_)
      refine store_own [.string ByteArray.empty, .int .i64 0, .int .i64 0, .int .i64 0, .int .i64 0, .int .i64 0, .int .i64 0, .int .i64 0, .int .u32 0, .int .i64 0, .int .i64 0, .bool false, .bool false] HP.out rfl rfl rfl (by kernel_rfl) (by kernel_rfl) ?_
      intro w9 hO9 hg9 hz9
      have HP := Lib.hid hO9
      have HB := Lib.hid (HB.out.trans (gr_below hg9 w.heap.size HB.out.size (fun i h => by injection h with h; omega)))
      clear hO9 hg9 hz9
      have z0 := HP.out.1 0 _ rfl
      have z1 := HP.out.1 1 _ rfl
      have z2 := HP.out.1 2 _ rfl
      have z3 := HP.out.1 3 _ rfl
      have z4 := HP.out.1 4 _ rfl
      have z5 := HP.out.1 5 _ rfl
      have z6 := HP.out.1 6 _ rfl
      have z7 := HP.out.1 7 _ rfl
      have z8 := HP.out.1 8 _ rfl
      have z9 := HP.out.1 9 _ rfl
      have z10 := HP.out.1 10 _ rfl
      have z11 := HP.out.1 11 _ rfl
      have z12 := HP.out.1 12 _ rfl
      have hg := HP.out.2
      go_wp2_with (fail)
      refine bodyPost_ret (v := .tuple #[.agg #[.string ByteArray.empty, .int .i64 0, .int .i64 0, .int .i64 0, .int .i64 0, .int .i64 0, .int .i64 0, .int .i64 0, .int .u32 0, .int .i64 0, .int .i64 0, .bool false, .bool false], .int .i64 0]) (by simp [results, Tryd.results17, go_sem, z0, z1, z2, z3, z4, z5, z6, z7, z8, z9, z10, z11, z12] <;> rfl) rfl (.inr ⟨HN.out, rfl, HB.out⟩)
    subst hc0
    have HCC : Hid (((0 : Int) != 0) = false) := Lib.hid rfl
    have HREC := Lib.hid (fun W => refLenc_any nm t1 t2 t3 t4 t5 t6 me cr pk sz true gl W hcr (by rw [RT.out]; exact HCE.out.symm))
    have HREQ : Hid (recOf l = recB nm (dN t1 t2 t3) (cN t4 t5 t6) me cr pk sz (fN nm gl) true gl) := Lib.hid (by
      unfold recOf
      rw [NM.out, E8.out, E10.out, E12.out, E14.out, PK.out, SZ.out, GW.out, GL.out, ← ET.out.1, ← ET.out.2.1, ← ET.out.2.2.1, ← ET.out.2.2.2.1, ← ET.out.2.2.2.2.1, ← ET.out.2.2.2.2.2, date_back, clock_back])
    have HRL : Hid ((recB nm (dN t1 t2 t3) (cN t4 t5 t6) me cr pk sz (fN nm gl) true gl).length ≤ 1000) := Lib.hid (by
      have := (chk_size (lcode_0 HCE.out.symm).1).2
      rw [recB_len]; simp <;> omega)
    generalize recB nm (dN t1 t2 t3) (cN t4 t5 t6) me cr pk sz (fN nm gl) true gl = x at *
    cases gl
    · have HTD := Lib.hid (fun W => told_f nm t1 t2 t3 t4 t5 t6 (me : Nat) (cr : Nat) (pk : Nat) (sz : Nat) true W)
      refine Mono.region_below (by kernel_rfl) (by kernel_rfl) (by kernel_rfl) ?_
      refine Mono.rgl_val (v := ?vg14_0) rfl Mono.rr (fun ρ a W hR hd hf => ?hg14_0) ?_
      case hg14_0 =>
        have e6 := Mono.init_get hf (t := 6) (by kernel_rfl)
        clear hd hf
        (go_simp; try with_reducible rfl)
      refine Mono.rgl_val (v := ?vg14_1) rfl Mono.rr (fun ρ a W hR hd hf => ?hg14_1) ?_
      case hg14_1 =>
        have e91 := Mono.dep_val hd hf (t := 91) (k := 0) (by kernel_rfl) rfl
        clear hd hf
        (go_simp; try with_reducible rfl)
      refine Mono.rgl_val (v := ?vg14_2) rfl Mono.rr (fun ρ a W hR hd hf => ?hg14_2) ?_
      case hg14_2 =>
        have e92 := Mono.dep_val hd hf (t := 92) (k := 1) (by kernel_rfl) rfl
        clear hd hf
        (go_simp; try with_reducible rfl)
      refine Mono.rgl_valg (v := ?vg14_3) rfl Mono.rr (fun ρ W hd => Mono.guard_val hd (t := 93) (k := 2) (by kernel_rfl) rfl) (fun ρ a W hR hd hf => ?hg14_3) ?_
      case hg14_3 =>
        have e7 := Mono.init_get hf (t := 7) (by kernel_rfl)
        have hk0 := (HO.out.below hR hzh).1 0 _ rfl
        have hk1 := (HO.out.below hR hzh).1 1 _ rfl
        have hk2 := (HO.out.below hR hzh).1 2 _ rfl
        have hk3 := (HO.out.below hR hzh).1 3 _ rfl
        have hk4 := (HO.out.below hR hzh).1 4 _ rfl
        have hk5 := (HO.out.below hR hzh).1 5 _ rfl
        have hk6 := (HO.out.below hR hzh).1 6 _ rfl
        have hk7 := (HO.out.below hR hzh).1 7 _ rfl
        have hk8 := (HO.out.below hR hzh).1 8 _ rfl
        have hk9 := (HO.out.below hR hzh).1 9 _ rfl
        have hk10 := (HO.out.below hR hzh).1 10 _ rfl
        have hk11 := (HO.out.below hR hzh).1 11 _ rfl
        have hk12 := (HO.out.below hR hzh).1 12 _ rfl
        clear hd hf
        (go_simp; try with_reducible rfl)
      refine Mono.rgl_callg (fun x _ => x = .int .i64 0) rfl Mono.rr (fun _ _ _ h _ => h) (fun ρ W hd => Mono.guard_val hd (t := 93) (k := 2) (by kernel_rfl) rfl) (fun ρ a W hR hd hf => ?hg14_4) ?_
      case hg14_4 =>
        have e94 := Mono.dep_val hd hf (t := 94) (k := 3) (by kernel_rfl) rfl
        clear hd hf
        refine ⟨_, _, by go_simp; first | rfl | exact ⟨rfl, rfl⟩, ?_⟩
        exact (HCK.out W).mono (fun e W' ⟨he, hb⟩ => ⟨_, he, hb, rfl⟩)
      refine Mono.rgl_valg (v := ?vg14_5) rfl Mono.rr (fun ρ W hd => Mono.guard_val hd (t := 93) (k := 2) (by kernel_rfl) rfl) (fun ρ a W hR hd hf => ?hg14_5) ?_
      case hg14_5 =>
        have e95 := Mono.dep_val hd hf (t := 95) (k := 4) (by kernel_rfl) rfl
        have hq := HCC.out
        clear hd hf
        (go_simp; try with_reducible rfl)
      refine Mono.rgl_val (v := ?vg14_6) rfl Mono.rr (fun ρ a W hR hd hf => ?hg14_6) ?_
      case hg14_6 =>
        have e93 := Mono.dep_val hd hf (t := 93) (k := 2) (by kernel_rfl) rfl
        have e96 := Mono.dep_val hd hf (t := 96) (k := 5) (by kernel_rfl) rfl
        clear hd hf
        (go_simp; try with_reducible rfl)
      refine Mono.rgl_val (v := ?vg14_7) rfl Mono.rr (fun ρ a W hR hd hf => ?hg14_7) ?_
      case hg14_7 =>
        have e97 := Mono.dep_val hd hf (t := 97) (k := 6) (by kernel_rfl) rfl
        clear hd hf
        (go_simp; try with_reducible rfl)
      refine Mono.rgl_valg (v := ?vg14_8) rfl Mono.rr (fun ρ W hd => Mono.guard_val hd (t := 98) (k := 7) (by kernel_rfl) rfl) (fun ρ a W hR hd hf => ?hg14_8) ?_
      case hg14_8 =>
        have e7 := Mono.init_get hf (t := 7) (by kernel_rfl)
        have hk0 := (HO.out.below hR hzh).1 0 _ rfl
        have hk1 := (HO.out.below hR hzh).1 1 _ rfl
        have hk2 := (HO.out.below hR hzh).1 2 _ rfl
        have hk3 := (HO.out.below hR hzh).1 3 _ rfl
        have hk4 := (HO.out.below hR hzh).1 4 _ rfl
        have hk5 := (HO.out.below hR hzh).1 5 _ rfl
        have hk6 := (HO.out.below hR hzh).1 6 _ rfl
        have hk7 := (HO.out.below hR hzh).1 7 _ rfl
        have hk8 := (HO.out.below hR hzh).1 8 _ rfl
        have hk9 := (HO.out.below hR hzh).1 9 _ rfl
        have hk10 := (HO.out.below hR hzh).1 10 _ rfl
        have hk11 := (HO.out.below hR hzh).1 11 _ rfl
        have hk12 := (HO.out.below hR hzh).1 12 _ rfl
        clear hd hf
        (go_simp; try with_reducible rfl)
      refine Mono.rgl_callg (fun x _ => x = .agg #[.string nm, .int .i64 t1, .int .i64 t2, .int .i64 t3, .int .i64 t4, .int .i64 t5, .int .i64 t6, .int .i64 (me : Nat), .int .u32 (cr : Nat), .int .i64 (pk : Nat), .int .i64 (sz : Nat), .bool true, .bool false]) rfl Mono.rr (fun _ _ _ h _ => h) (fun ρ W hd => Mono.guard_val hd (t := 98) (k := 7) (by kernel_rfl) rfl) (fun ρ a W hR hd hf => ?hg14_9) ?_
      case hg14_9 =>
        have e99 := Mono.dep_val hd hf (t := 99) (k := 8) (by kernel_rfl) rfl
        clear hd hf
        refine ⟨_, _, by go_simp; first | rfl | exact ⟨rfl, rfl⟩, ?_⟩
        exact (HTD.out W).mono (fun e W' ⟨he, hb⟩ => ⟨_, he, hb, rfl⟩)
      refine Mono.rgl_valg (v := ?vg14_10) rfl Mono.rr (fun ρ W hd => Mono.guard_val hd (t := 98) (k := 7) (by kernel_rfl) rfl) (fun ρ a W hR hd hf => ?hg14_10) ?_
      case hg14_10 =>
        have e7 := Mono.init_get hf (t := 7) (by kernel_rfl)
        have hk0 := (HO.out.below hR hzh).1 0 _ rfl
        have hk1 := (HO.out.below hR hzh).1 1 _ rfl
        have hk2 := (HO.out.below hR hzh).1 2 _ rfl
        have hk3 := (HO.out.below hR hzh).1 3 _ rfl
        have hk4 := (HO.out.below hR hzh).1 4 _ rfl
        have hk5 := (HO.out.below hR hzh).1 5 _ rfl
        have hk6 := (HO.out.below hR hzh).1 6 _ rfl
        have hk7 := (HO.out.below hR hzh).1 7 _ rfl
        have hk8 := (HO.out.below hR hzh).1 8 _ rfl
        have hk9 := (HO.out.below hR hzh).1 9 _ rfl
        have hk10 := (HO.out.below hR hzh).1 10 _ rfl
        have hk11 := (HO.out.below hR hzh).1 11 _ rfl
        have hk12 := (HO.out.below hR hzh).1 12 _ rfl
        clear hd hf
        (go_simp; try with_reducible rfl)
      refine Mono.rgl_valg (v := ?vg14_11) rfl Mono.rr (fun ρ W hd => Mono.guard_val hd (t := 98) (k := 7) (by kernel_rfl) rfl) (fun ρ a W hR hd hf => ?hg14_11) ?_
      case hg14_11 =>
        have e100 := Mono.dep_val hd hf (t := 100) (k := 9) (by kernel_rfl) rfl
        have e101 := Mono.dep_val hd hf (t := 101) (k := 10) (by kernel_rfl) rfl
        clear hd hf
        (go_simp; try with_reducible rfl)
      refine Mono.rgl_val (v := ?vg14_12) rfl Mono.rr (fun ρ a W hR hd hf => ?hg14_12) ?_
      case hg14_12 =>
        have e98 := Mono.dep_val hd hf (t := 98) (k := 7) (by kernel_rfl) rfl
        have e102 := Mono.dep_val hd hf (t := 102) (k := 11) (by kernel_rfl) rfl
        clear hd hf
        (go_simp; try with_reducible rfl)
      refine Mono.rgl_done rfl (fun ρ W hR ht => ?_)
      obtain ⟨dg14_12, dg14_11, dg14_10, dg14_9, dg14_8, dg14_7, dg14_6, dg14_5, dg14_4, dg14_3, dg14_2, dg14_1, dg14_0, _⟩ := ht
      simp only [List.length_cons, List.length_nil, Nat.reduceAdd] at dg14_0 dg14_1 dg14_2 dg14_3 dg14_4 dg14_5 dg14_6 dg14_7 dg14_8 dg14_9 dg14_10 dg14_11 dg14_12
      simp only [Mono.putAll, Nat.reduceAdd, dg14_0, dg14_1, dg14_2, dg14_3, dg14_4, dg14_5, dg14_6, dg14_7, dg14_8, dg14_9, dg14_10, dg14_11, dg14_12, Act.put, List.setIfInBounds_toArray, List.set_cons_zero, List.set_cons_succ]
      clear dg14_0 dg14_1 dg14_2 dg14_3 dg14_4 dg14_5 dg14_6 dg14_7 dg14_8 dg14_9 dg14_10 dg14_11 dg14_12
      have HO := Lib.hid (HO.out.below hR hzh)
      have HP := Lib.hid (HP.out.below hR (by omega))
      have HB := Lib.hid (HB.out.trans (hR.mono (by omega)))
      have hzh1 : bh < W.heap.size := Nat.lt_of_lt_of_le hzh hR.size
      clear hR hzh
      have hzh := hzh1
      clear hzh1
      obtain ⟨w6, rfl⟩ : ∃ z : World, z = W := ⟨_, rfl⟩
      have k0 := HO.out.1 0 _ rfl
      have k1 := HO.out.1 1 _ rfl
      have k2 := HO.out.1 2 _ rfl
      have k3 := HO.out.1 3 _ rfl
      have k4 := HO.out.1 4 _ rfl
      have k5 := HO.out.1 5 _ rfl
      have k6 := HO.out.1 6 _ rfl
      have k7 := HO.out.1 7 _ rfl
      have k8 := HO.out.1 8 _ rfl
      have k9 := HO.out.1 9 _ rfl
      have k10 := HO.out.1 10 _ rfl
      have k11 := HO.out.1 11 _ rfl
      have k12 := HO.out.1 12 _ rfl
      go_wp2_with (fail)
      refine (HREC.out _).mono ?_
      rintro e w7 ⟨v7, rfl, ho, hb⟩
      obtain ⟨av, cv, rfl, hcv⟩ := OB.form ho
      have HX := Lib.hid (OB.byt ho)
      have HO := Lib.hid (HO.out.below hb hzh)
      have HP := Lib.hid (HP.out.below hb (by omega))
      have HB := Lib.hid (HB.out.trans (hb.mono (by omega)))
      have hzh1 : bh < w7.heap.size := Nat.lt_of_lt_of_le hzh hb.size
      clear hb hzh ho k0 k1 k2 k3 k4 k5 k6 k7 k8 k9 k10 k11 k12
      have hzh := hzh1
      clear hzh1
      have hrl := HRL.out
      go_wp2_with (fail)
      have HYL := Lib.hid (HH.out.below HB.out)
      by_cases hxl : x.length ≤ l.length
      rotate_left
      · have d1 : decide (l.length < x.length) = true := by simp; omega
        have HXL := Lib.hid hxl
        clear hxl hrl
        refine Mono.region_below (by kernel_rfl) (by kernel_rfl) (by kernel_rfl) ?_
        refine Mono.rgl_val (v := ?vg15_0) rfl Mono.rr (fun ρ a W hR hd hf => ?hg15_0) ?_
        case hg15_0 =>
          have e8 := Mono.init_get hf (t := 8) (by kernel_rfl)
          clear hd hf
          (go_simp; try with_reducible rfl)
        refine Mono.rgl_val (v := ?vg15_1) rfl Mono.rr (fun ρ a W hR hd hf => ?hg15_1) ?_
        case hg15_1 =>
          have e107 := Mono.dep_val hd hf (t := 107) (k := 0) (by kernel_rfl) rfl
          clear hd hf
          (go_simp; try with_reducible rfl)
        refine Mono.rgl_val (v := ?vg15_2) rfl Mono.rr (fun ρ a W hR hd hf => ?hg15_2) ?_
        case hg15_2 =>
          have e0 := Mono.init_get hf (t := 0) (by kernel_rfl)
          clear hd hf
          (go_simp; try with_reducible rfl)
        refine Mono.rgl_val (v := ?vg15_3) rfl Mono.rr (fun ρ a W hR hd hf => ?hg15_3) ?_
        case hg15_3 =>
          have e109 := Mono.dep_val hd hf (t := 109) (k := 2) (by kernel_rfl) rfl
          clear hd hf
          (go_simp; try with_reducible rfl)
        refine Mono.rgl_val (v := ?vg15_4) rfl Mono.rr (fun ρ a W hR hd hf => ?hg15_4) ?_
        case hg15_4 =>
          have e108 := Mono.dep_val hd hf (t := 108) (k := 1) (by kernel_rfl) rfl
          have e110 := Mono.dep_val hd hf (t := 110) (k := 3) (by kernel_rfl) rfl
          clear hd hf
          (go_simp; try with_reducible rfl)
        refine Mono.rgl_val (v := ?vg15_5) rfl Mono.rr (fun ρ a W hR hd hf => ?hg15_5) ?_
        case hg15_5 =>
          have e111 := Mono.dep_val hd hf (t := 111) (k := 4) (by kernel_rfl) rfl
          clear hd hf
          (go_simp; try with_reducible rfl)
        refine Mono.rgl_skip rfl (by decide) (fun ρ W hd => Mono.guard_val hd (t := 112) (k := 5) (by kernel_rfl) rfl) ?_
        refine Mono.rgl_skip rfl (by decide) (fun ρ W hd => Mono.guard_val hd (t := 112) (k := 5) (by kernel_rfl) rfl) ?_
        refine Mono.rgl_skip rfl (by decide) (fun ρ W hd => Mono.guard_val hd (t := 112) (k := 5) (by kernel_rfl) rfl) ?_
        refine Mono.rgl_skip rfl (by decide) (fun ρ W hd => Mono.guard_val hd (t := 112) (k := 5) (by kernel_rfl) rfl) ?_
        refine Mono.rgl_skip rfl (by decide) (fun ρ W hd => Mono.guard_val hd (t := 112) (k := 5) (by kernel_rfl) rfl) ?_
        refine Mono.rgl_skip rfl (by decide) (fun ρ W hd => Mono.guard_val hd (t := 112) (k := 5) (by kernel_rfl) rfl) ?_
        refine Mono.rgl_skip rfl (by decide) (fun ρ W hd => Mono.guard_val hd (t := 112) (k := 5) (by kernel_rfl) rfl) ?_
        refine Mono.rgl_skip rfl (by decide) (fun ρ W hd => Mono.guard_val hd (t := 112) (k := 5) (by kernel_rfl) rfl) ?_
        refine Mono.rgl_val (v := ?vg15_14) rfl Mono.rr (fun ρ a W hR hd hf => ?hg15_14) ?_
        case hg15_14 =>
          have e112 := Mono.dep_val hd hf (t := 112) (k := 5) (by kernel_rfl) rfl
          have e120 := Mono.dep_val hd hf (t := 120) (k := 13) (by kernel_rfl) rfl
          clear hd hf
          (go_simp; try with_reducible rfl)
        refine Mono.rgl_done rfl (fun ρ W hR ht => ?_)
        obtain ⟨dg15_14, dg15_13, dg15_12, dg15_11, dg15_10, dg15_9, dg15_8, dg15_7, dg15_6, dg15_5, dg15_4, dg15_3, dg15_2, dg15_1, dg15_0, _⟩ := ht
        simp only [List.length_cons, List.length_nil, Nat.reduceAdd] at dg15_0 dg15_1 dg15_2 dg15_3 dg15_4 dg15_5 dg15_6 dg15_7 dg15_8 dg15_9 dg15_10 dg15_11 dg15_12 dg15_13 dg15_14
        simp only [Mono.putAll, Nat.reduceAdd, dg15_0, dg15_1, dg15_2, dg15_3, dg15_4, dg15_5, dg15_6, dg15_7, dg15_8, dg15_9, dg15_10, dg15_11, dg15_12, dg15_13, dg15_14, Act.put, List.setIfInBounds_toArray, List.set_cons_zero, List.set_cons_succ]
        clear dg15_0 dg15_1 dg15_2 dg15_3 dg15_4 dg15_5 dg15_6 dg15_7 dg15_8 dg15_9 dg15_10 dg15_11 dg15_12 dg15_13 dg15_14
        have HO := Lib.hid (HO.out.below hR hzh)
        have HP := Lib.hid (HP.out.below hR (by omega))
        have HB := Lib.hid (HB.out.trans (hR.mono (by omega)))
        have hzh1 : bh < W.heap.size := Nat.lt_of_lt_of_le hzh hR.size
        clear hR hzh
        have hzh := hzh1
        clear hzh1
        obtain ⟨w8, rfl⟩ : ∃ z : World, z = W := ⟨_, rfl⟩
        have HN : Hid (¬ PAC l) := Lib.hid (fun p => HXL.out (by rw [← HREQ.out]; exact p.fit))
        go_wp2_with (with_reducible refine stop_store ?_)
        refine store_own [.string ByteArray.empty, .int .i64 0, .int .i64 0, .int .i64 0, .int .i64 0, .int .i64 0, .int .i64 0, .int .i64 0, .int .u32 0, .int .i64 0, .int .i64 0, .bool false, .bool false] HP.out rfl rfl rfl (by kernel_rfl) (by kernel_rfl) ?_
        intro w9 hO9 hg9 hz9
        have HP := Lib.hid hO9
        have HB := Lib.hid (HB.out.trans (gr_below hg9 w.heap.size HB.out.size (fun i h => by injection h with h; omega)))
        clear hO9 hg9 hz9
        have z0 := HP.out.1 0 _ rfl
        have z1 := HP.out.1 1 _ rfl
        have z2 := HP.out.1 2 _ rfl
        have z3 := HP.out.1 3 _ rfl
        have z4 := HP.out.1 4 _ rfl
        have z5 := HP.out.1 5 _ rfl
        have z6 := HP.out.1 6 _ rfl
        have z7 := HP.out.1 7 _ rfl
        have z8 := HP.out.1 8 _ rfl
        have z9 := HP.out.1 9 _ rfl
        have z10 := HP.out.1 10 _ rfl
        have z11 := HP.out.1 11 _ rfl
        have z12 := HP.out.1 12 _ rfl
        have hg := HP.out.2
        go_wp2_with (fail)
        refine bodyPost_ret (v := .tuple #[.agg #[.string ByteArray.empty, .int .i64 0, .int .i64 0, .int .i64 0, .int .i64 0, .int .i64 0, .int .i64 0, .int .i64 0, .int .u32 0, .int .i64 0, .int .i64 0, .bool false, .bool false], .int .i64 0]) (by simp [results, Tryd.results17, go_sem, z0, z1, z2, z3, z4, z5, z6, z7, z8, z9, z10, z11, z12] <;> rfl) rfl (.inr ⟨HN.out, rfl, HB.out⟩)
      have d1 : decide (l.length < x.length) = false := by simp; omega
      obtain ⟨ya, yc, hyl, _, hyb⟩ := cut_head HYL.out hc x.length hxl
      have HYS := Lib.hid hyl
      have HYB := Lib.hid hyb
      have HXL := Lib.hid hxl
      clear hyl hyb hxl hrl
      by_cases hxe : l.take x.length = x
      rotate_left
      · have HNE2 : Hid (¬ (str (l.take x.length)).toList = (str x).toList) := Lib.hid (by
          intro h
          rw [ByteArray.toList_eq, ByteArray.toList_eq] at h
          exact hxe (by simpa [str] using h))
        have HXE := Lib.hid hxe
        clear hxe
        refine Mono.region_below (by kernel_rfl) (by kernel_rfl) (by kernel_rfl) ?_
        refine Mono.rgl_val (v := ?vg16_0) rfl Mono.rr (fun ρ a W hR hd hf => ?hg16_0) ?_
        case hg16_0 =>
          have e8 := Mono.init_get hf (t := 8) (by kernel_rfl)
          clear hd hf
          (go_simp; try with_reducible rfl)
        refine Mono.rgl_val (v := ?vg16_1) rfl Mono.rr (fun ρ a W hR hd hf => ?hg16_1) ?_
        case hg16_1 =>
          have e107 := Mono.dep_val hd hf (t := 107) (k := 0) (by kernel_rfl) rfl
          clear hd hf
          (go_simp; try with_reducible rfl)
        refine Mono.rgl_val (v := ?vg16_2) rfl Mono.rr (fun ρ a W hR hd hf => ?hg16_2) ?_
        case hg16_2 =>
          have e0 := Mono.init_get hf (t := 0) (by kernel_rfl)
          clear hd hf
          (go_simp; try with_reducible rfl)
        refine Mono.rgl_val (v := ?vg16_3) rfl Mono.rr (fun ρ a W hR hd hf => ?hg16_3) ?_
        case hg16_3 =>
          have e109 := Mono.dep_val hd hf (t := 109) (k := 2) (by kernel_rfl) rfl
          clear hd hf
          (go_simp; try with_reducible rfl)
        refine Mono.rgl_val (v := ?vg16_4) rfl Mono.rr (fun ρ a W hR hd hf => ?hg16_4) ?_
        case hg16_4 =>
          have e108 := Mono.dep_val hd hf (t := 108) (k := 1) (by kernel_rfl) rfl
          have e110 := Mono.dep_val hd hf (t := 110) (k := 3) (by kernel_rfl) rfl
          clear hd hf
          (go_simp; try with_reducible rfl)
        refine Mono.rgl_val (v := ?vg16_5) rfl Mono.rr (fun ρ a W hR hd hf => ?hg16_5) ?_
        case hg16_5 =>
          have e111 := Mono.dep_val hd hf (t := 111) (k := 4) (by kernel_rfl) rfl
          clear hd hf
          (go_simp; try with_reducible rfl)
        refine Mono.rgl_valg (v := ?vg16_6) rfl Mono.rr (fun ρ W hd => Mono.guard_val hd (t := 112) (k := 5) (by kernel_rfl) rfl) (fun ρ a W hR hd hf => ?hg16_6) ?_
        case hg16_6 =>
          have e0 := Mono.init_get hf (t := 0) (by kernel_rfl)
          clear hd hf
          (go_simp; try with_reducible rfl)
        refine Mono.rgl_valg (v := ?vg16_7) rfl Mono.rr (fun ρ W hd => Mono.guard_val hd (t := 112) (k := 5) (by kernel_rfl) rfl) (fun ρ a W hR hd hf => ?hg16_7) ?_
        case hg16_7 =>
          have e8 := Mono.init_get hf (t := 8) (by kernel_rfl)
          clear hd hf
          (go_simp; try with_reducible rfl)
        refine Mono.rgl_valg (v := ?vg16_8) rfl Mono.rr (fun ρ W hd => Mono.guard_val hd (t := 112) (k := 5) (by kernel_rfl) rfl) (fun ρ a W hR hd hf => ?hg16_8) ?_
        case hg16_8 =>
          have e114 := Mono.dep_val hd hf (t := 114) (k := 7) (by kernel_rfl) rfl
          clear hd hf
          (go_simp; try with_reducible rfl)
        refine Mono.rgl_valg (v := ?vg16_9) rfl Mono.rr (fun ρ W hd => Mono.guard_val hd (t := 112) (k := 5) (by kernel_rfl) rfl) (fun ρ a W hR hd hf => ?hg16_9) ?_
        case hg16_9 =>
          have e113 := Mono.dep_val hd hf (t := 113) (k := 6) (by kernel_rfl) rfl
          have e115 := Mono.dep_val hd hf (t := 115) (k := 8) (by kernel_rfl) rfl
          have hs := HYS.out W
          clear hd hf
          (go_simp; try with_reducible rfl)
        refine Mono.rgl_valg (v := ?vg16_10) rfl Mono.rr (fun ρ W hd => Mono.guard_val hd (t := 112) (k := 5) (by kernel_rfl) rfl) (fun ρ a W hR hd hf => ?hg16_10) ?_
        case hg16_10 =>
          have e116 := Mono.dep_val hd hf (t := 116) (k := 9) (by kernel_rfl) rfl
          have hcv1 := convert_byt Tryd.underlying31 Tryd.underlying5 Tryd.underlying9 (HYB.out.below (hR.mono (by omega)))
          clear hd hf
          (go_simp; try with_reducible rfl)
        refine Mono.rgl_valg (v := ?vg16_11) rfl Mono.rr (fun ρ W hd => Mono.guard_val hd (t := 112) (k := 5) (by kernel_rfl) rfl) (fun ρ a W hR hd hf => ?hg16_11) ?_
        case hg16_11 =>
          have e8 := Mono.init_get hf (t := 8) (by kernel_rfl)
          clear hd hf
          (go_simp; try with_reducible rfl)
        refine Mono.rgl_valg (v := ?vg16_12) rfl Mono.rr (fun ρ W hd => Mono.guard_val hd (t := 112) (k := 5) (by kernel_rfl) rfl) (fun ρ a W hR hd hf => ?hg16_12) ?_
        case hg16_12 =>
          have e118 := Mono.dep_val hd hf (t := 118) (k := 11) (by kernel_rfl) rfl
          have hcv2 := convert_byt Tryd.underlying31 Tryd.underlying5 Tryd.underlying9 (HX.out.below hR)
          clear hd hf
          (go_simp; try with_reducible rfl)
        refine Mono.rgl_valg (v := .bool true) rfl Mono.rr (fun ρ W hd => Mono.guard_val hd (t := 112) (k := 5) (by kernel_rfl) rfl) (fun ρ a W hR hd hf => ?hg16_13) ?_
        case hg16_13 =>
          have e117 := Mono.dep_val hd hf (t := 117) (k := 10) (by kernel_rfl) rfl
          have e119 := Mono.dep_val hd hf (t := 119) (k := 12) (by kernel_rfl) rfl
          clear hd hf
          (go_simp; exact HNE2.out)
        refine Mono.rgl_val (v := ?vg16_14) rfl Mono.rr (fun ρ a W hR hd hf => ?hg16_14) ?_
        case hg16_14 =>
          have e112 := Mono.dep_val hd hf (t := 112) (k := 5) (by kernel_rfl) rfl
          have e120 := Mono.dep_val hd hf (t := 120) (k := 13) (by kernel_rfl) rfl
          clear hd hf
          (go_simp; try with_reducible rfl)
        refine Mono.rgl_done rfl (fun ρ W hR ht => ?_)
        obtain ⟨dg16_14, dg16_13, dg16_12, dg16_11, dg16_10, dg16_9, dg16_8, dg16_7, dg16_6, dg16_5, dg16_4, dg16_3, dg16_2, dg16_1, dg16_0, _⟩ := ht
        simp only [List.length_cons, List.length_nil, Nat.reduceAdd] at dg16_0 dg16_1 dg16_2 dg16_3 dg16_4 dg16_5 dg16_6 dg16_7 dg16_8 dg16_9 dg16_10 dg16_11 dg16_12 dg16_13 dg16_14
        simp only [Mono.putAll, Nat.reduceAdd, dg16_0, dg16_1, dg16_2, dg16_3, dg16_4, dg16_5, dg16_6, dg16_7, dg16_8, dg16_9, dg16_10, dg16_11, dg16_12, dg16_13, dg16_14, Act.put, List.setIfInBounds_toArray, List.set_cons_zero, List.set_cons_succ]
        clear dg16_0 dg16_1 dg16_2 dg16_3 dg16_4 dg16_5 dg16_6 dg16_7 dg16_8 dg16_9 dg16_10 dg16_11 dg16_12 dg16_13 dg16_14
        have HO := Lib.hid (HO.out.below hR hzh)
        have HP := Lib.hid (HP.out.below hR (by omega))
        have HB := Lib.hid (HB.out.trans (hR.mono (by omega)))
        have hzh1 : bh < W.heap.size := Nat.lt_of_lt_of_le hzh hR.size
        clear hR hzh
        have hzh := hzh1
        clear hzh1
        obtain ⟨w8, rfl⟩ : ∃ z : World, z = W := ⟨_, rfl⟩
        have HN : Hid (¬ PAC l) := Lib.hid (fun p => HXE.out (by rw [← HREQ.out]; exact p.eq))
        go_wp2_with (with_reducible refine stop_store ?_)
        refine store_own [.string ByteArray.empty, .int .i64 0, .int .i64 0, .int .i64 0, .int .i64 0, .int .i64 0, .int .i64 0, .int .i64 0, .int .u32 0, .int .i64 0, .int .i64 0, .bool false, .bool false] HP.out rfl rfl rfl (by kernel_rfl) (by kernel_rfl) ?_
        intro w9 hO9 hg9 hz9
        have HP := Lib.hid hO9
        have HB := Lib.hid (HB.out.trans (gr_below hg9 w.heap.size HB.out.size (fun i h => by injection h with h; omega)))
        clear hO9 hg9 hz9
        have z0 := HP.out.1 0 _ rfl
        have z1 := HP.out.1 1 _ rfl
        have z2 := HP.out.1 2 _ rfl
        have z3 := HP.out.1 3 _ rfl
        have z4 := HP.out.1 4 _ rfl
        have z5 := HP.out.1 5 _ rfl
        have z6 := HP.out.1 6 _ rfl
        have z7 := HP.out.1 7 _ rfl
        have z8 := HP.out.1 8 _ rfl
        have z9 := HP.out.1 9 _ rfl
        have z10 := HP.out.1 10 _ rfl
        have z11 := HP.out.1 11 _ rfl
        have z12 := HP.out.1 12 _ rfl
        have hg := HP.out.2
        go_wp2_with (fail)
        refine bodyPost_ret (v := .tuple #[.agg #[.string ByteArray.empty, .int .i64 0, .int .i64 0, .int .i64 0, .int .i64 0, .int .i64 0, .int .i64 0, .int .i64 0, .int .u32 0, .int .i64 0, .int .i64 0, .bool false, .bool false], .int .i64 0]) (by simp [results, Tryd.results17, go_sem, z0, z1, z2, z3, z4, z5, z6, z7, z8, z9, z10, z11, z12] <;> rfl) rfl (.inr ⟨HN.out, rfl, HB.out⟩)
      rw [hxe] at HYB
      have HXE := Lib.hid hxe
      clear hxe
      refine Mono.region_below (by kernel_rfl) (by kernel_rfl) (by kernel_rfl) ?_
      refine Mono.rgl_val (v := ?vg17_0) rfl Mono.rr (fun ρ a W hR hd hf => ?hg17_0) ?_
      case hg17_0 =>
        have e8 := Mono.init_get hf (t := 8) (by kernel_rfl)
        clear hd hf
        (go_simp; try with_reducible rfl)
      refine Mono.rgl_val (v := ?vg17_1) rfl Mono.rr (fun ρ a W hR hd hf => ?hg17_1) ?_
      case hg17_1 =>
        have e107 := Mono.dep_val hd hf (t := 107) (k := 0) (by kernel_rfl) rfl
        clear hd hf
        (go_simp; try with_reducible rfl)
      refine Mono.rgl_val (v := ?vg17_2) rfl Mono.rr (fun ρ a W hR hd hf => ?hg17_2) ?_
      case hg17_2 =>
        have e0 := Mono.init_get hf (t := 0) (by kernel_rfl)
        clear hd hf
        (go_simp; try with_reducible rfl)
      refine Mono.rgl_val (v := ?vg17_3) rfl Mono.rr (fun ρ a W hR hd hf => ?hg17_3) ?_
      case hg17_3 =>
        have e109 := Mono.dep_val hd hf (t := 109) (k := 2) (by kernel_rfl) rfl
        clear hd hf
        (go_simp; try with_reducible rfl)
      refine Mono.rgl_val (v := ?vg17_4) rfl Mono.rr (fun ρ a W hR hd hf => ?hg17_4) ?_
      case hg17_4 =>
        have e108 := Mono.dep_val hd hf (t := 108) (k := 1) (by kernel_rfl) rfl
        have e110 := Mono.dep_val hd hf (t := 110) (k := 3) (by kernel_rfl) rfl
        clear hd hf
        (go_simp; try with_reducible rfl)
      refine Mono.rgl_val (v := ?vg17_5) rfl Mono.rr (fun ρ a W hR hd hf => ?hg17_5) ?_
      case hg17_5 =>
        have e111 := Mono.dep_val hd hf (t := 111) (k := 4) (by kernel_rfl) rfl
        clear hd hf
        (go_simp; try with_reducible rfl)
      refine Mono.rgl_valg (v := ?vg17_6) rfl Mono.rr (fun ρ W hd => Mono.guard_val hd (t := 112) (k := 5) (by kernel_rfl) rfl) (fun ρ a W hR hd hf => ?hg17_6) ?_
      case hg17_6 =>
        have e0 := Mono.init_get hf (t := 0) (by kernel_rfl)
        clear hd hf
        (go_simp; try with_reducible rfl)
      refine Mono.rgl_valg (v := ?vg17_7) rfl Mono.rr (fun ρ W hd => Mono.guard_val hd (t := 112) (k := 5) (by kernel_rfl) rfl) (fun ρ a W hR hd hf => ?hg17_7) ?_
      case hg17_7 =>
        have e8 := Mono.init_get hf (t := 8) (by kernel_rfl)
        clear hd hf
        (go_simp; try with_reducible rfl)
      refine Mono.rgl_valg (v := ?vg17_8) rfl Mono.rr (fun ρ W hd => Mono.guard_val hd (t := 112) (k := 5) (by kernel_rfl) rfl) (fun ρ a W hR hd hf => ?hg17_8) ?_
      case hg17_8 =>
        have e114 := Mono.dep_val hd hf (t := 114) (k := 7) (by kernel_rfl) rfl
        clear hd hf
        (go_simp; try with_reducible rfl)
      refine Mono.rgl_valg (v := ?vg17_9) rfl Mono.rr (fun ρ W hd => Mono.guard_val hd (t := 112) (k := 5) (by kernel_rfl) rfl) (fun ρ a W hR hd hf => ?hg17_9) ?_
      case hg17_9 =>
        have e113 := Mono.dep_val hd hf (t := 113) (k := 6) (by kernel_rfl) rfl
        have e115 := Mono.dep_val hd hf (t := 115) (k := 8) (by kernel_rfl) rfl
        have hs := HYS.out W
        clear hd hf
        (go_simp; try with_reducible rfl)
      refine Mono.rgl_valg (v := ?vg17_10) rfl Mono.rr (fun ρ W hd => Mono.guard_val hd (t := 112) (k := 5) (by kernel_rfl) rfl) (fun ρ a W hR hd hf => ?hg17_10) ?_
      case hg17_10 =>
        have e116 := Mono.dep_val hd hf (t := 116) (k := 9) (by kernel_rfl) rfl
        have hcv1 := convert_byt Tryd.underlying31 Tryd.underlying5 Tryd.underlying9 (HYB.out.below (hR.mono (by omega)))
        clear hd hf
        (go_simp; try with_reducible rfl)
      refine Mono.rgl_valg (v := ?vg17_11) rfl Mono.rr (fun ρ W hd => Mono.guard_val hd (t := 112) (k := 5) (by kernel_rfl) rfl) (fun ρ a W hR hd hf => ?hg17_11) ?_
      case hg17_11 =>
        have e8 := Mono.init_get hf (t := 8) (by kernel_rfl)
        clear hd hf
        (go_simp; try with_reducible rfl)
      refine Mono.rgl_valg (v := ?vg17_12) rfl Mono.rr (fun ρ W hd => Mono.guard_val hd (t := 112) (k := 5) (by kernel_rfl) rfl) (fun ρ a W hR hd hf => ?hg17_12) ?_
      case hg17_12 =>
        have e118 := Mono.dep_val hd hf (t := 118) (k := 11) (by kernel_rfl) rfl
        have hcv2 := convert_byt Tryd.underlying31 Tryd.underlying5 Tryd.underlying9 (HX.out.below hR)
        clear hd hf
        (go_simp; try with_reducible rfl)
      refine Mono.rgl_valg (v := ?vg17_13) rfl Mono.rr (fun ρ W hd => Mono.guard_val hd (t := 112) (k := 5) (by kernel_rfl) rfl) (fun ρ a W hR hd hf => ?hg17_13) ?_
      case hg17_13 =>
        have e117 := Mono.dep_val hd hf (t := 117) (k := 10) (by kernel_rfl) rfl
        have e119 := Mono.dep_val hd hf (t := 119) (k := 12) (by kernel_rfl) rfl
        clear hd hf
        (go_simp; try with_reducible rfl)
      refine Mono.rgl_val (v := ?vg17_14) rfl Mono.rr (fun ρ a W hR hd hf => ?hg17_14) ?_
      case hg17_14 =>
        have e112 := Mono.dep_val hd hf (t := 112) (k := 5) (by kernel_rfl) rfl
        have e120 := Mono.dep_val hd hf (t := 120) (k := 13) (by kernel_rfl) rfl
        clear hd hf
        (go_simp; try with_reducible rfl)
      refine Mono.rgl_done rfl (fun ρ W hR ht => ?_)
      obtain ⟨dg17_14, dg17_13, dg17_12, dg17_11, dg17_10, dg17_9, dg17_8, dg17_7, dg17_6, dg17_5, dg17_4, dg17_3, dg17_2, dg17_1, dg17_0, _⟩ := ht
      simp only [List.length_cons, List.length_nil, Nat.reduceAdd] at dg17_0 dg17_1 dg17_2 dg17_3 dg17_4 dg17_5 dg17_6 dg17_7 dg17_8 dg17_9 dg17_10 dg17_11 dg17_12 dg17_13 dg17_14
      simp only [Mono.putAll, Nat.reduceAdd, dg17_0, dg17_1, dg17_2, dg17_3, dg17_4, dg17_5, dg17_6, dg17_7, dg17_8, dg17_9, dg17_10, dg17_11, dg17_12, dg17_13, dg17_14, Act.put, List.setIfInBounds_toArray, List.set_cons_zero, List.set_cons_succ]
      clear dg17_0 dg17_1 dg17_2 dg17_3 dg17_4 dg17_5 dg17_6 dg17_7 dg17_8 dg17_9 dg17_10 dg17_11 dg17_12 dg17_13 dg17_14
      have HO := Lib.hid (HO.out.below hR hzh)
      have HP := Lib.hid (HP.out.below hR (by omega))
      have HB := Lib.hid (HB.out.trans (hR.mono (by omega)))
      have hzh1 : bh < W.heap.size := Nat.lt_of_lt_of_le hzh hR.size
      clear hR hzh
      have hzh := hzh1
      clear hzh1
      obtain ⟨w8, rfl⟩ : ∃ z : World, z = W := ⟨_, rfl⟩
      have HPAC : Hid (PAC l) := Lib.hid ⟨by rw [E26.out]; exact hn, by rw [E10.out, E12.out]; exact HOK.out.symm, (fun _ => by rw [E26.out, SZ.out, PK.out]; exact ⟨HWD.out.1, HWD.out.2.1, HWD.out.2.2⟩), by rw [CE.out], (fun h => by rw [GL.out] at h; cases h), by rw [HREQ.out]; exact HXL.out, by rw [HREQ.out]; exact HXE.out⟩
      have HLEN : Hid (x.length = endOf l) := Lib.hid (by rw [← HREQ.out]; exact endOf_rec l (by rw [E26.out]; exact hn))
      have HEQ : Hid (.agg #[.string nm, .int .i64 t1, .int .i64 t2, .int .i64 t3, .int .i64 t4, .int .i64 t5, .int .i64 t6, .int .i64 (me : Nat), .int .u32 (cr : Nat), .int .i64 (pk : Nat), .int .i64 (sz : Nat), .bool true, .bool false] = hdrOf l) := Lib.hid (by
        have a1 := HPAC.out.acc
        have b1 := pk_le (fun h => (HPAC.out.wd h).2.2)
        have b2 := sz_le (fun h => (HPAC.out.wd h).2.1)
        unfold hdrOf hdrV
        rw [b1, b2, NM.out, E10.out, E12.out, E8.out, E14.out, PK.out, SZ.out, GW.out, GL.out, ET.out.1, ET.out.2.1, ET.out.2.2.1, ET.out.2.2.2.1, ET.out.2.2.2.2.1, ET.out.2.2.2.2.2])
      have k0 := HO.out.1 0 _ rfl
      have k1 := HO.out.1 1 _ rfl
      have k2 := HO.out.1 2 _ rfl
      have k3 := HO.out.1 3 _ rfl
      have k4 := HO.out.1 4 _ rfl
      have k5 := HO.out.1 5 _ rfl
      have k6 := HO.out.1 6 _ rfl
      have k7 := HO.out.1 7 _ rfl
      have k8 := HO.out.1 8 _ rfl
      have k9 := HO.out.1 9 _ rfl
      have k10 := HO.out.1 10 _ rfl
      have k11 := HO.out.1 11 _ rfl
      have k12 := HO.out.1 12 _ rfl
      go_wp2_with (with_reducible refine stop_store ?_)
      refine store_own [.string nm, .int .i64 t1, .int .i64 t2, .int .i64 t3, .int .i64 t4, .int .i64 t5, .int .i64 t6, .int .i64 (me : Nat), .int .u32 (cr : Nat), .int .i64 (pk : Nat), .int .i64 (sz : Nat), .bool true, .bool false] HP.out rfl rfl rfl (by kernel_rfl) (by kernel_rfl) ?_
      intro w9 hO9 hg9 hz9
      have HP := Lib.hid hO9
      have HB := Lib.hid (HB.out.trans (gr_below hg9 w.heap.size HB.out.size (fun i h => by injection h with h; omega)))
      clear hO9 hg9 hz9 k0 k1 k2 k3 k4 k5 k6 k7 k8 k9 k10 k11 k12
      have z0 := HP.out.1 0 _ rfl
      have z1 := HP.out.1 1 _ rfl
      have z2 := HP.out.1 2 _ rfl
      have z3 := HP.out.1 3 _ rfl
      have z4 := HP.out.1 4 _ rfl
      have z5 := HP.out.1 5 _ rfl
      have z6 := HP.out.1 6 _ rfl
      have z7 := HP.out.1 7 _ rfl
      have z8 := HP.out.1 8 _ rfl
      have z9 := HP.out.1 9 _ rfl
      have z10 := HP.out.1 10 _ rfl
      have z11 := HP.out.1 11 _ rfl
      have z12 := HP.out.1 12 _ rfl
      have hg := HP.out.2
      go_wp2_with (fail)
      refine bodyPost_ret (v := .tuple #[.agg #[.string nm, .int .i64 t1, .int .i64 t2, .int .i64 t3, .int .i64 t4, .int .i64 t5, .int .i64 t6, .int .i64 (me : Nat), .int .u32 (cr : Nat), .int .i64 (pk : Nat), .int .i64 (sz : Nat), .bool true, .bool false], .int .i64 (x.length : Nat)]) (by simp [results, Tryd.results17, go_sem, z0, z1, z2, z3, z4, z5, z6, z7, z8, z9, z10, z11, z12] <;> rfl) rfl (.inl ⟨HPAC.out, by rw [HEQ.out, HLEN.out], HB.out⟩)
    · by_cases hz : cr = 0 ∧ pk = 0 ∧ sz = 0
      rotate_left
      · have HZN := Lib.hid hz
        have HTD := Lib.hid (fun W => told_t nm t1 t2 t3 t4 t5 t6 (me : Nat) (cr : Nat) (pk : Nat) (sz : Nat) true W)
        have hcs : ((0 : Int) == (cr : Int)) = false ∨ (((0 : Int) == (cr : Int)) = true ∧ ((0 : Int) == (pk : Int)) = false) ∨ (((0 : Int) == (cr : Int)) = true ∧ ((0 : Int) == (pk : Int)) = true ∧ ((0 : Int) == (sz : Int)) = false) := by
          simp only [beq_iff_eq, beq_eq_false_iff_ne]
          omega
        clear hz
        rcases hcs with hq1 | ⟨hq1, hq2⟩ | ⟨hq1, hq2, hq3⟩
        all_goals
          refine Mono.region_below (by kernel_rfl) (by kernel_rfl) (by kernel_rfl) ?_
          refine Mono.rgl_val (v := ?vg18_0) rfl Mono.rr (fun ρ a W hR hd hf => ?hg18_0) ?_
          case hg18_0 =>
            have e6 := Mono.init_get hf (t := 6) (by kernel_rfl)
            clear hd hf
            (go_simp; try with_reducible rfl)
          refine Mono.rgl_val (v := ?vg18_1) rfl Mono.rr (fun ρ a W hR hd hf => ?hg18_1) ?_
          case hg18_1 =>
            have e91 := Mono.dep_val hd hf (t := 91) (k := 0) (by kernel_rfl) rfl
            clear hd hf
            (go_simp; try with_reducible rfl)
          refine Mono.rgl_val (v := ?vg18_2) rfl Mono.rr (fun ρ a W hR hd hf => ?hg18_2) ?_
          case hg18_2 =>
            have e92 := Mono.dep_val hd hf (t := 92) (k := 1) (by kernel_rfl) rfl
            clear hd hf
            (go_simp; try with_reducible rfl)
          refine Mono.rgl_valg (v := ?vg18_3) rfl Mono.rr (fun ρ W hd => Mono.guard_val hd (t := 93) (k := 2) (by kernel_rfl) rfl) (fun ρ a W hR hd hf => ?hg18_3) ?_
          case hg18_3 =>
            have e7 := Mono.init_get hf (t := 7) (by kernel_rfl)
            have hk0 := (HO.out.below hR hzh).1 0 _ rfl
            have hk1 := (HO.out.below hR hzh).1 1 _ rfl
            have hk2 := (HO.out.below hR hzh).1 2 _ rfl
            have hk3 := (HO.out.below hR hzh).1 3 _ rfl
            have hk4 := (HO.out.below hR hzh).1 4 _ rfl
            have hk5 := (HO.out.below hR hzh).1 5 _ rfl
            have hk6 := (HO.out.below hR hzh).1 6 _ rfl
            have hk7 := (HO.out.below hR hzh).1 7 _ rfl
            have hk8 := (HO.out.below hR hzh).1 8 _ rfl
            have hk9 := (HO.out.below hR hzh).1 9 _ rfl
            have hk10 := (HO.out.below hR hzh).1 10 _ rfl
            have hk11 := (HO.out.below hR hzh).1 11 _ rfl
            have hk12 := (HO.out.below hR hzh).1 12 _ rfl
            clear hd hf
            (go_simp; try with_reducible rfl)
          refine Mono.rgl_callg (fun x _ => x = .int .i64 0) rfl Mono.rr (fun _ _ _ h _ => h) (fun ρ W hd => Mono.guard_val hd (t := 93) (k := 2) (by kernel_rfl) rfl) (fun ρ a W hR hd hf => ?hg18_4) ?_
          case hg18_4 =>
            have e94 := Mono.dep_val hd hf (t := 94) (k := 3) (by kernel_rfl) rfl
            clear hd hf
            refine ⟨_, _, by go_simp; first | rfl | exact ⟨rfl, rfl⟩, ?_⟩
            exact (HCK.out W).mono (fun e W' ⟨he, hb⟩ => ⟨_, he, hb, rfl⟩)
          refine Mono.rgl_valg (v := ?vg18_5) rfl Mono.rr (fun ρ W hd => Mono.guard_val hd (t := 93) (k := 2) (by kernel_rfl) rfl) (fun ρ a W hR hd hf => ?hg18_5) ?_
          case hg18_5 =>
            have e95 := Mono.dep_val hd hf (t := 95) (k := 4) (by kernel_rfl) rfl
            have hq := HCC.out
            clear hd hf
            (go_simp; try with_reducible rfl)
          refine Mono.rgl_val (v := ?vg18_6) rfl Mono.rr (fun ρ a W hR hd hf => ?hg18_6) ?_
          case hg18_6 =>
            have e93 := Mono.dep_val hd hf (t := 93) (k := 2) (by kernel_rfl) rfl
            have e96 := Mono.dep_val hd hf (t := 96) (k := 5) (by kernel_rfl) rfl
            clear hd hf
            (go_simp; try with_reducible rfl)
          refine Mono.rgl_val (v := ?vg18_7) rfl Mono.rr (fun ρ a W hR hd hf => ?hg18_7) ?_
          case hg18_7 =>
            have e97 := Mono.dep_val hd hf (t := 97) (k := 6) (by kernel_rfl) rfl
            clear hd hf
            (go_simp; try with_reducible rfl)
          refine Mono.rgl_valg (v := ?vg18_8) rfl Mono.rr (fun ρ W hd => Mono.guard_val hd (t := 98) (k := 7) (by kernel_rfl) rfl) (fun ρ a W hR hd hf => ?hg18_8) ?_
          case hg18_8 =>
            have e7 := Mono.init_get hf (t := 7) (by kernel_rfl)
            have hk0 := (HO.out.below hR hzh).1 0 _ rfl
            have hk1 := (HO.out.below hR hzh).1 1 _ rfl
            have hk2 := (HO.out.below hR hzh).1 2 _ rfl
            have hk3 := (HO.out.below hR hzh).1 3 _ rfl
            have hk4 := (HO.out.below hR hzh).1 4 _ rfl
            have hk5 := (HO.out.below hR hzh).1 5 _ rfl
            have hk6 := (HO.out.below hR hzh).1 6 _ rfl
            have hk7 := (HO.out.below hR hzh).1 7 _ rfl
            have hk8 := (HO.out.below hR hzh).1 8 _ rfl
            have hk9 := (HO.out.below hR hzh).1 9 _ rfl
            have hk10 := (HO.out.below hR hzh).1 10 _ rfl
            have hk11 := (HO.out.below hR hzh).1 11 _ rfl
            have hk12 := (HO.out.below hR hzh).1 12 _ rfl
            clear hd hf
            (go_simp; try with_reducible rfl)
          refine Mono.rgl_callg (fun x _ => x = .agg #[.string nm, .int .i64 t1, .int .i64 t2, .int .i64 t3, .int .i64 t4, .int .i64 t5, .int .i64 t6, .int .i64 (me : Nat), .int .u32 0, .int .i64 0, .int .i64 0, .bool true, .bool true]) rfl Mono.rr (fun _ _ _ h _ => h) (fun ρ W hd => Mono.guard_val hd (t := 98) (k := 7) (by kernel_rfl) rfl) (fun ρ a W hR hd hf => ?hg18_9) ?_
          case hg18_9 =>
            have e99 := Mono.dep_val hd hf (t := 99) (k := 8) (by kernel_rfl) rfl
            clear hd hf
            refine ⟨_, _, by go_simp; first | rfl | exact ⟨rfl, rfl⟩, ?_⟩
            exact (HTD.out W).mono (fun e W' ⟨he, hb⟩ => ⟨_, he, hb, rfl⟩)
          refine Mono.rgl_valg (v := ?vg18_10) rfl Mono.rr (fun ρ W hd => Mono.guard_val hd (t := 98) (k := 7) (by kernel_rfl) rfl) (fun ρ a W hR hd hf => ?hg18_10) ?_
          case hg18_10 =>
            have e7 := Mono.init_get hf (t := 7) (by kernel_rfl)
            have hk0 := (HO.out.below hR hzh).1 0 _ rfl
            have hk1 := (HO.out.below hR hzh).1 1 _ rfl
            have hk2 := (HO.out.below hR hzh).1 2 _ rfl
            have hk3 := (HO.out.below hR hzh).1 3 _ rfl
            have hk4 := (HO.out.below hR hzh).1 4 _ rfl
            have hk5 := (HO.out.below hR hzh).1 5 _ rfl
            have hk6 := (HO.out.below hR hzh).1 6 _ rfl
            have hk7 := (HO.out.below hR hzh).1 7 _ rfl
            have hk8 := (HO.out.below hR hzh).1 8 _ rfl
            have hk9 := (HO.out.below hR hzh).1 9 _ rfl
            have hk10 := (HO.out.below hR hzh).1 10 _ rfl
            have hk11 := (HO.out.below hR hzh).1 11 _ rfl
            have hk12 := (HO.out.below hR hzh).1 12 _ rfl
            clear hd hf
            (go_simp; try with_reducible rfl)
          refine Mono.rgl_valg (v := ?vg18_11) rfl Mono.rr (fun ρ W hd => Mono.guard_val hd (t := 98) (k := 7) (by kernel_rfl) rfl) (fun ρ a W hR hd hf => ?hg18_11) ?_
          case hg18_11 =>
            have e100 := Mono.dep_val hd hf (t := 100) (k := 9) (by kernel_rfl) rfl
            have e101 := Mono.dep_val hd hf (t := 101) (k := 10) (by kernel_rfl) rfl
            clear hd hf
            (go_simp; try with_reducible rfl)
          refine Mono.rgl_val (v := ?vg18_12) rfl Mono.rr (fun ρ a W hR hd hf => ?hg18_12) ?_
          case hg18_12 =>
            have e98 := Mono.dep_val hd hf (t := 98) (k := 7) (by kernel_rfl) rfl
            have e102 := Mono.dep_val hd hf (t := 102) (k := 11) (by kernel_rfl) rfl
            clear hd hf
            (go_simp; try with_reducible rfl)
          refine Mono.rgl_done rfl (fun ρ W hR ht => ?_)
          obtain ⟨dg18_12, dg18_11, dg18_10, dg18_9, dg18_8, dg18_7, dg18_6, dg18_5, dg18_4, dg18_3, dg18_2, dg18_1, dg18_0, _⟩ := ht
          simp only [List.length_cons, List.length_nil, Nat.reduceAdd] at dg18_0 dg18_1 dg18_2 dg18_3 dg18_4 dg18_5 dg18_6 dg18_7 dg18_8 dg18_9 dg18_10 dg18_11 dg18_12
          simp only [Mono.putAll, Nat.reduceAdd, dg18_0, dg18_1, dg18_2, dg18_3, dg18_4, dg18_5, dg18_6, dg18_7, dg18_8, dg18_9, dg18_10, dg18_11, dg18_12, Act.put, List.setIfInBounds_toArray, List.set_cons_zero, List.set_cons_succ]
          clear dg18_0 dg18_1 dg18_2 dg18_3 dg18_4 dg18_5 dg18_6 dg18_7 dg18_8 dg18_9 dg18_10 dg18_11 dg18_12
          have HO := Lib.hid (HO.out.below hR hzh)
          have HP := Lib.hid (HP.out.below hR (by omega))
          have HB := Lib.hid (HB.out.trans (hR.mono (by omega)))
          have hzh1 : bh < W.heap.size := Nat.lt_of_lt_of_le hzh hR.size
          clear hR hzh
          have hzh := hzh1
          clear hzh1
          obtain ⟨w6, rfl⟩ : ∃ z : World, z = W := ⟨_, rfl⟩
          have HN : Hid (¬ PAC l) := Lib.hid (fun p => HZN.out (by have := p.lt GL.out; rw [E14.out, PK.out, SZ.out] at this; exact this))
          go_wp2_with (with_reducible refine stop_store ?_)
          refine store_own [.string ByteArray.empty, .int .i64 0, .int .i64 0, .int .i64 0, .int .i64 0, .int .i64 0, .int .i64 0, .int .i64 0, .int .u32 0, .int .i64 0, .int .i64 0, .bool false, .bool false] HP.out rfl rfl rfl (by kernel_rfl) (by kernel_rfl) ?_
          intro w9 hO9 hg9 hz9
          have HP := Lib.hid hO9
          have HB := Lib.hid (HB.out.trans (gr_below hg9 w.heap.size HB.out.size (fun i h => by injection h with h; omega)))
          clear hO9 hg9 hz9
          have z0 := HP.out.1 0 _ rfl
          have z1 := HP.out.1 1 _ rfl
          have z2 := HP.out.1 2 _ rfl
          have z3 := HP.out.1 3 _ rfl
          have z4 := HP.out.1 4 _ rfl
          have z5 := HP.out.1 5 _ rfl
          have z6 := HP.out.1 6 _ rfl
          have z7 := HP.out.1 7 _ rfl
          have z8 := HP.out.1 8 _ rfl
          have z9 := HP.out.1 9 _ rfl
          have z10 := HP.out.1 10 _ rfl
          have z11 := HP.out.1 11 _ rfl
          have z12 := HP.out.1 12 _ rfl
          have hg := HP.out.2
          go_wp2_with (fail)
          refine bodyPost_ret (v := .tuple #[.agg #[.string ByteArray.empty, .int .i64 0, .int .i64 0, .int .i64 0, .int .i64 0, .int .i64 0, .int .i64 0, .int .i64 0, .int .u32 0, .int .i64 0, .int .i64 0, .bool false, .bool false], .int .i64 0]) (by simp [results, Tryd.results17, go_sem, z0, z1, z2, z3, z4, z5, z6, z7, z8, z9, z10, z11, z12] <;> rfl) rfl (.inr ⟨HN.out, rfl, HB.out⟩)
      have HZ := Lib.hid hz
      have HNE : Hid (((0 : Int) == (cr : Int)) = true ∧ ((0 : Int) == (pk : Int)) = true ∧ ((0 : Int) == (sz : Int)) = true) := Lib.hid (by obtain ⟨rfl, rfl, rfl⟩ := hz; exact ⟨rfl, rfl, rfl⟩)
      clear hz
      have HTD := Lib.hid (fun W => told_t nm t1 t2 t3 t4 t5 t6 (me : Nat) (cr : Nat) (pk : Nat) (sz : Nat) true W)
      refine Mono.region_below (by kernel_rfl) (by kernel_rfl) (by kernel_rfl) ?_
      refine Mono.rgl_val (v := ?vg19_0) rfl Mono.rr (fun ρ a W hR hd hf => ?hg19_0) ?_
      case hg19_0 =>
        have e6 := Mono.init_get hf (t := 6) (by kernel_rfl)
        clear hd hf
        (go_simp; try with_reducible rfl)
      refine Mono.rgl_val (v := ?vg19_1) rfl Mono.rr (fun ρ a W hR hd hf => ?hg19_1) ?_
      case hg19_1 =>
        have e91 := Mono.dep_val hd hf (t := 91) (k := 0) (by kernel_rfl) rfl
        clear hd hf
        (go_simp; try with_reducible rfl)
      refine Mono.rgl_val (v := ?vg19_2) rfl Mono.rr (fun ρ a W hR hd hf => ?hg19_2) ?_
      case hg19_2 =>
        have e92 := Mono.dep_val hd hf (t := 92) (k := 1) (by kernel_rfl) rfl
        clear hd hf
        (go_simp; try with_reducible rfl)
      refine Mono.rgl_valg (v := ?vg19_3) rfl Mono.rr (fun ρ W hd => Mono.guard_val hd (t := 93) (k := 2) (by kernel_rfl) rfl) (fun ρ a W hR hd hf => ?hg19_3) ?_
      case hg19_3 =>
        have e7 := Mono.init_get hf (t := 7) (by kernel_rfl)
        have hk0 := (HO.out.below hR hzh).1 0 _ rfl
        have hk1 := (HO.out.below hR hzh).1 1 _ rfl
        have hk2 := (HO.out.below hR hzh).1 2 _ rfl
        have hk3 := (HO.out.below hR hzh).1 3 _ rfl
        have hk4 := (HO.out.below hR hzh).1 4 _ rfl
        have hk5 := (HO.out.below hR hzh).1 5 _ rfl
        have hk6 := (HO.out.below hR hzh).1 6 _ rfl
        have hk7 := (HO.out.below hR hzh).1 7 _ rfl
        have hk8 := (HO.out.below hR hzh).1 8 _ rfl
        have hk9 := (HO.out.below hR hzh).1 9 _ rfl
        have hk10 := (HO.out.below hR hzh).1 10 _ rfl
        have hk11 := (HO.out.below hR hzh).1 11 _ rfl
        have hk12 := (HO.out.below hR hzh).1 12 _ rfl
        clear hd hf
        (go_simp; try with_reducible rfl)
      refine Mono.rgl_callg (fun x _ => x = .int .i64 0) rfl Mono.rr (fun _ _ _ h _ => h) (fun ρ W hd => Mono.guard_val hd (t := 93) (k := 2) (by kernel_rfl) rfl) (fun ρ a W hR hd hf => ?hg19_4) ?_
      case hg19_4 =>
        have e94 := Mono.dep_val hd hf (t := 94) (k := 3) (by kernel_rfl) rfl
        clear hd hf
        refine ⟨_, _, by go_simp; first | rfl | exact ⟨rfl, rfl⟩, ?_⟩
        exact (HCK.out W).mono (fun e W' ⟨he, hb⟩ => ⟨_, he, hb, rfl⟩)
      refine Mono.rgl_valg (v := ?vg19_5) rfl Mono.rr (fun ρ W hd => Mono.guard_val hd (t := 93) (k := 2) (by kernel_rfl) rfl) (fun ρ a W hR hd hf => ?hg19_5) ?_
      case hg19_5 =>
        have e95 := Mono.dep_val hd hf (t := 95) (k := 4) (by kernel_rfl) rfl
        have hq := HCC.out
        clear hd hf
        (go_simp; try with_reducible rfl)
      refine Mono.rgl_val (v := ?vg19_6) rfl Mono.rr (fun ρ a W hR hd hf => ?hg19_6) ?_
      case hg19_6 =>
        have e93 := Mono.dep_val hd hf (t := 93) (k := 2) (by kernel_rfl) rfl
        have e96 := Mono.dep_val hd hf (t := 96) (k := 5) (by kernel_rfl) rfl
        clear hd hf
        (go_simp; try with_reducible rfl)
      refine Mono.rgl_val (v := ?vg19_7) rfl Mono.rr (fun ρ a W hR hd hf => ?hg19_7) ?_
      case hg19_7 =>
        have e97 := Mono.dep_val hd hf (t := 97) (k := 6) (by kernel_rfl) rfl
        clear hd hf
        (go_simp; try with_reducible rfl)
      refine Mono.rgl_valg (v := ?vg19_8) rfl Mono.rr (fun ρ W hd => Mono.guard_val hd (t := 98) (k := 7) (by kernel_rfl) rfl) (fun ρ a W hR hd hf => ?hg19_8) ?_
      case hg19_8 =>
        have e7 := Mono.init_get hf (t := 7) (by kernel_rfl)
        have hk0 := (HO.out.below hR hzh).1 0 _ rfl
        have hk1 := (HO.out.below hR hzh).1 1 _ rfl
        have hk2 := (HO.out.below hR hzh).1 2 _ rfl
        have hk3 := (HO.out.below hR hzh).1 3 _ rfl
        have hk4 := (HO.out.below hR hzh).1 4 _ rfl
        have hk5 := (HO.out.below hR hzh).1 5 _ rfl
        have hk6 := (HO.out.below hR hzh).1 6 _ rfl
        have hk7 := (HO.out.below hR hzh).1 7 _ rfl
        have hk8 := (HO.out.below hR hzh).1 8 _ rfl
        have hk9 := (HO.out.below hR hzh).1 9 _ rfl
        have hk10 := (HO.out.below hR hzh).1 10 _ rfl
        have hk11 := (HO.out.below hR hzh).1 11 _ rfl
        have hk12 := (HO.out.below hR hzh).1 12 _ rfl
        clear hd hf
        (go_simp; try with_reducible rfl)
      refine Mono.rgl_callg (fun x _ => x = .agg #[.string nm, .int .i64 t1, .int .i64 t2, .int .i64 t3, .int .i64 t4, .int .i64 t5, .int .i64 t6, .int .i64 (me : Nat), .int .u32 0, .int .i64 0, .int .i64 0, .bool true, .bool true]) rfl Mono.rr (fun _ _ _ h _ => h) (fun ρ W hd => Mono.guard_val hd (t := 98) (k := 7) (by kernel_rfl) rfl) (fun ρ a W hR hd hf => ?hg19_9) ?_
      case hg19_9 =>
        have e99 := Mono.dep_val hd hf (t := 99) (k := 8) (by kernel_rfl) rfl
        clear hd hf
        refine ⟨_, _, by go_simp; first | rfl | exact ⟨rfl, rfl⟩, ?_⟩
        exact (HTD.out W).mono (fun e W' ⟨he, hb⟩ => ⟨_, he, hb, rfl⟩)
      refine Mono.rgl_valg (v := ?vg19_10) rfl Mono.rr (fun ρ W hd => Mono.guard_val hd (t := 98) (k := 7) (by kernel_rfl) rfl) (fun ρ a W hR hd hf => ?hg19_10) ?_
      case hg19_10 =>
        have e7 := Mono.init_get hf (t := 7) (by kernel_rfl)
        have hk0 := (HO.out.below hR hzh).1 0 _ rfl
        have hk1 := (HO.out.below hR hzh).1 1 _ rfl
        have hk2 := (HO.out.below hR hzh).1 2 _ rfl
        have hk3 := (HO.out.below hR hzh).1 3 _ rfl
        have hk4 := (HO.out.below hR hzh).1 4 _ rfl
        have hk5 := (HO.out.below hR hzh).1 5 _ rfl
        have hk6 := (HO.out.below hR hzh).1 6 _ rfl
        have hk7 := (HO.out.below hR hzh).1 7 _ rfl
        have hk8 := (HO.out.below hR hzh).1 8 _ rfl
        have hk9 := (HO.out.below hR hzh).1 9 _ rfl
        have hk10 := (HO.out.below hR hzh).1 10 _ rfl
        have hk11 := (HO.out.below hR hzh).1 11 _ rfl
        have hk12 := (HO.out.below hR hzh).1 12 _ rfl
        clear hd hf
        (go_simp; try with_reducible rfl)
      refine Mono.rgl_valg (v := ?vg19_11) rfl Mono.rr (fun ρ W hd => Mono.guard_val hd (t := 98) (k := 7) (by kernel_rfl) rfl) (fun ρ a W hR hd hf => ?hg19_11) ?_
      case hg19_11 =>
        have e100 := Mono.dep_val hd hf (t := 100) (k := 9) (by kernel_rfl) rfl
        have e101 := Mono.dep_val hd hf (t := 101) (k := 10) (by kernel_rfl) rfl
        obtain ⟨hq1, hq2, hq3⟩ := HNE.out
        clear hd hf
        (go_simp; try with_reducible rfl)
      refine Mono.rgl_val (v := ?vg19_12) rfl Mono.rr (fun ρ a W hR hd hf => ?hg19_12) ?_
      case hg19_12 =>
        have e98 := Mono.dep_val hd hf (t := 98) (k := 7) (by kernel_rfl) rfl
        have e102 := Mono.dep_val hd hf (t := 102) (k := 11) (by kernel_rfl) rfl
        clear hd hf
        (go_simp; try with_reducible rfl)
      refine Mono.rgl_done rfl (fun ρ W hR ht => ?_)
      obtain ⟨dg19_12, dg19_11, dg19_10, dg19_9, dg19_8, dg19_7, dg19_6, dg19_5, dg19_4, dg19_3, dg19_2, dg19_1, dg19_0, _⟩ := ht
      simp only [List.length_cons, List.length_nil, Nat.reduceAdd] at dg19_0 dg19_1 dg19_2 dg19_3 dg19_4 dg19_5 dg19_6 dg19_7 dg19_8 dg19_9 dg19_10 dg19_11 dg19_12
      simp only [Mono.putAll, Nat.reduceAdd, dg19_0, dg19_1, dg19_2, dg19_3, dg19_4, dg19_5, dg19_6, dg19_7, dg19_8, dg19_9, dg19_10, dg19_11, dg19_12, Act.put, List.setIfInBounds_toArray, List.set_cons_zero, List.set_cons_succ]
      clear dg19_0 dg19_1 dg19_2 dg19_3 dg19_4 dg19_5 dg19_6 dg19_7 dg19_8 dg19_9 dg19_10 dg19_11 dg19_12
      have HO := Lib.hid (HO.out.below hR hzh)
      have HP := Lib.hid (HP.out.below hR (by omega))
      have HB := Lib.hid (HB.out.trans (hR.mono (by omega)))
      have hzh1 : bh < W.heap.size := Nat.lt_of_lt_of_le hzh hR.size
      clear hR hzh
      have hzh := hzh1
      clear hzh1
      obtain ⟨w6, rfl⟩ : ∃ z : World, z = W := ⟨_, rfl⟩
      have k0 := HO.out.1 0 _ rfl
      have k1 := HO.out.1 1 _ rfl
      have k2 := HO.out.1 2 _ rfl
      have k3 := HO.out.1 3 _ rfl
      have k4 := HO.out.1 4 _ rfl
      have k5 := HO.out.1 5 _ rfl
      have k6 := HO.out.1 6 _ rfl
      have k7 := HO.out.1 7 _ rfl
      have k8 := HO.out.1 8 _ rfl
      have k9 := HO.out.1 9 _ rfl
      have k10 := HO.out.1 10 _ rfl
      have k11 := HO.out.1 11 _ rfl
      have k12 := HO.out.1 12 _ rfl
      go_wp2_with (fail)
      refine (HREC.out _).mono ?_
      rintro e w7 ⟨v7, rfl, ho, hb⟩
      obtain ⟨av, cv, rfl, hcv⟩ := OB.form ho
      have HX := Lib.hid (OB.byt ho)
      have HO := Lib.hid (HO.out.below hb hzh)
      have HP := Lib.hid (HP.out.below hb (by omega))
      have HB := Lib.hid (HB.out.trans (hb.mono (by omega)))
      have hzh1 : bh < w7.heap.size := Nat.lt_of_lt_of_le hzh hb.size
      clear hb hzh ho k0 k1 k2 k3 k4 k5 k6 k7 k8 k9 k10 k11 k12
      have hzh := hzh1
      clear hzh1
      have hrl := HRL.out
      go_wp2_with (fail)
      have HYL := Lib.hid (HH.out.below HB.out)
      by_cases hxl : x.length ≤ l.length
      rotate_left
      · have d1 : decide (l.length < x.length) = true := by simp; omega
        have HXL := Lib.hid hxl
        clear hxl hrl
        refine Mono.region_below (by kernel_rfl) (by kernel_rfl) (by kernel_rfl) ?_
        refine Mono.rgl_val (v := ?vg20_0) rfl Mono.rr (fun ρ a W hR hd hf => ?hg20_0) ?_
        case hg20_0 =>
          have e8 := Mono.init_get hf (t := 8) (by kernel_rfl)
          clear hd hf
          (go_simp; try with_reducible rfl)
        refine Mono.rgl_val (v := ?vg20_1) rfl Mono.rr (fun ρ a W hR hd hf => ?hg20_1) ?_
        case hg20_1 =>
          have e107 := Mono.dep_val hd hf (t := 107) (k := 0) (by kernel_rfl) rfl
          clear hd hf
          (go_simp; try with_reducible rfl)
        refine Mono.rgl_val (v := ?vg20_2) rfl Mono.rr (fun ρ a W hR hd hf => ?hg20_2) ?_
        case hg20_2 =>
          have e0 := Mono.init_get hf (t := 0) (by kernel_rfl)
          clear hd hf
          (go_simp; try with_reducible rfl)
        refine Mono.rgl_val (v := ?vg20_3) rfl Mono.rr (fun ρ a W hR hd hf => ?hg20_3) ?_
        case hg20_3 =>
          have e109 := Mono.dep_val hd hf (t := 109) (k := 2) (by kernel_rfl) rfl
          clear hd hf
          (go_simp; try with_reducible rfl)
        refine Mono.rgl_val (v := ?vg20_4) rfl Mono.rr (fun ρ a W hR hd hf => ?hg20_4) ?_
        case hg20_4 =>
          have e108 := Mono.dep_val hd hf (t := 108) (k := 1) (by kernel_rfl) rfl
          have e110 := Mono.dep_val hd hf (t := 110) (k := 3) (by kernel_rfl) rfl
          clear hd hf
          (go_simp; try with_reducible rfl)
        refine Mono.rgl_val (v := ?vg20_5) rfl Mono.rr (fun ρ a W hR hd hf => ?hg20_5) ?_
        case hg20_5 =>
          have e111 := Mono.dep_val hd hf (t := 111) (k := 4) (by kernel_rfl) rfl
          clear hd hf
          (go_simp; try with_reducible rfl)
        refine Mono.rgl_skip rfl (by decide) (fun ρ W hd => Mono.guard_val hd (t := 112) (k := 5) (by kernel_rfl) rfl) ?_
        refine Mono.rgl_skip rfl (by decide) (fun ρ W hd => Mono.guard_val hd (t := 112) (k := 5) (by kernel_rfl) rfl) ?_
        refine Mono.rgl_skip rfl (by decide) (fun ρ W hd => Mono.guard_val hd (t := 112) (k := 5) (by kernel_rfl) rfl) ?_
        refine Mono.rgl_skip rfl (by decide) (fun ρ W hd => Mono.guard_val hd (t := 112) (k := 5) (by kernel_rfl) rfl) ?_
        refine Mono.rgl_skip rfl (by decide) (fun ρ W hd => Mono.guard_val hd (t := 112) (k := 5) (by kernel_rfl) rfl) ?_
        refine Mono.rgl_skip rfl (by decide) (fun ρ W hd => Mono.guard_val hd (t := 112) (k := 5) (by kernel_rfl) rfl) ?_
        refine Mono.rgl_skip rfl (by decide) (fun ρ W hd => Mono.guard_val hd (t := 112) (k := 5) (by kernel_rfl) rfl) ?_
        refine Mono.rgl_skip rfl (by decide) (fun ρ W hd => Mono.guard_val hd (t := 112) (k := 5) (by kernel_rfl) rfl) ?_
        refine Mono.rgl_val (v := ?vg20_14) rfl Mono.rr (fun ρ a W hR hd hf => ?hg20_14) ?_
        case hg20_14 =>
          have e112 := Mono.dep_val hd hf (t := 112) (k := 5) (by kernel_rfl) rfl
          have e120 := Mono.dep_val hd hf (t := 120) (k := 13) (by kernel_rfl) rfl
          clear hd hf
          (go_simp; try with_reducible rfl)
        refine Mono.rgl_done rfl (fun ρ W hR ht => ?_)
        obtain ⟨dg20_14, dg20_13, dg20_12, dg20_11, dg20_10, dg20_9, dg20_8, dg20_7, dg20_6, dg20_5, dg20_4, dg20_3, dg20_2, dg20_1, dg20_0, _⟩ := ht
        simp only [List.length_cons, List.length_nil, Nat.reduceAdd] at dg20_0 dg20_1 dg20_2 dg20_3 dg20_4 dg20_5 dg20_6 dg20_7 dg20_8 dg20_9 dg20_10 dg20_11 dg20_12 dg20_13 dg20_14
        simp only [Mono.putAll, Nat.reduceAdd, dg20_0, dg20_1, dg20_2, dg20_3, dg20_4, dg20_5, dg20_6, dg20_7, dg20_8, dg20_9, dg20_10, dg20_11, dg20_12, dg20_13, dg20_14, Act.put, List.setIfInBounds_toArray, List.set_cons_zero, List.set_cons_succ]
        clear dg20_0 dg20_1 dg20_2 dg20_3 dg20_4 dg20_5 dg20_6 dg20_7 dg20_8 dg20_9 dg20_10 dg20_11 dg20_12 dg20_13 dg20_14
        have HO := Lib.hid (HO.out.below hR hzh)
        have HP := Lib.hid (HP.out.below hR (by omega))
        have HB := Lib.hid (HB.out.trans (hR.mono (by omega)))
        have hzh1 : bh < W.heap.size := Nat.lt_of_lt_of_le hzh hR.size
        clear hR hzh
        have hzh := hzh1
        clear hzh1
        obtain ⟨w8, rfl⟩ : ∃ z : World, z = W := ⟨_, rfl⟩
        have HN : Hid (¬ PAC l) := Lib.hid (fun p => HXL.out (by rw [← HREQ.out]; exact p.fit))
        go_wp2_with (with_reducible refine stop_store ?_)
        refine store_own [.string ByteArray.empty, .int .i64 0, .int .i64 0, .int .i64 0, .int .i64 0, .int .i64 0, .int .i64 0, .int .i64 0, .int .u32 0, .int .i64 0, .int .i64 0, .bool false, .bool false] HP.out rfl rfl rfl (by kernel_rfl) (by kernel_rfl) ?_
        intro w9 hO9 hg9 hz9
        have HP := Lib.hid hO9
        have HB := Lib.hid (HB.out.trans (gr_below hg9 w.heap.size HB.out.size (fun i h => by injection h with h; omega)))
        clear hO9 hg9 hz9
        have z0 := HP.out.1 0 _ rfl
        have z1 := HP.out.1 1 _ rfl
        have z2 := HP.out.1 2 _ rfl
        have z3 := HP.out.1 3 _ rfl
        have z4 := HP.out.1 4 _ rfl
        have z5 := HP.out.1 5 _ rfl
        have z6 := HP.out.1 6 _ rfl
        have z7 := HP.out.1 7 _ rfl
        have z8 := HP.out.1 8 _ rfl
        have z9 := HP.out.1 9 _ rfl
        have z10 := HP.out.1 10 _ rfl
        have z11 := HP.out.1 11 _ rfl
        have z12 := HP.out.1 12 _ rfl
        have hg := HP.out.2
        go_wp2_with (fail)
        refine bodyPost_ret (v := .tuple #[.agg #[.string ByteArray.empty, .int .i64 0, .int .i64 0, .int .i64 0, .int .i64 0, .int .i64 0, .int .i64 0, .int .i64 0, .int .u32 0, .int .i64 0, .int .i64 0, .bool false, .bool false], .int .i64 0]) (by simp [results, Tryd.results17, go_sem, z0, z1, z2, z3, z4, z5, z6, z7, z8, z9, z10, z11, z12] <;> rfl) rfl (.inr ⟨HN.out, rfl, HB.out⟩)
      have d1 : decide (l.length < x.length) = false := by simp; omega
      obtain ⟨ya, yc, hyl, _, hyb⟩ := cut_head HYL.out hc x.length hxl
      have HYS := Lib.hid hyl
      have HYB := Lib.hid hyb
      have HXL := Lib.hid hxl
      clear hyl hyb hxl hrl
      by_cases hxe : l.take x.length = x
      rotate_left
      · have HNE2 : Hid (¬ (str (l.take x.length)).toList = (str x).toList) := Lib.hid (by
          intro h
          rw [ByteArray.toList_eq, ByteArray.toList_eq] at h
          exact hxe (by simpa [str] using h))
        have HXE := Lib.hid hxe
        clear hxe
        refine Mono.region_below (by kernel_rfl) (by kernel_rfl) (by kernel_rfl) ?_
        refine Mono.rgl_val (v := ?vg21_0) rfl Mono.rr (fun ρ a W hR hd hf => ?hg21_0) ?_
        case hg21_0 =>
          have e8 := Mono.init_get hf (t := 8) (by kernel_rfl)
          clear hd hf
          (go_simp; try with_reducible rfl)
        refine Mono.rgl_val (v := ?vg21_1) rfl Mono.rr (fun ρ a W hR hd hf => ?hg21_1) ?_
        case hg21_1 =>
          have e107 := Mono.dep_val hd hf (t := 107) (k := 0) (by kernel_rfl) rfl
          clear hd hf
          (go_simp; try with_reducible rfl)
        refine Mono.rgl_val (v := ?vg21_2) rfl Mono.rr (fun ρ a W hR hd hf => ?hg21_2) ?_
        case hg21_2 =>
          have e0 := Mono.init_get hf (t := 0) (by kernel_rfl)
          clear hd hf
          (go_simp; try with_reducible rfl)
        refine Mono.rgl_val (v := ?vg21_3) rfl Mono.rr (fun ρ a W hR hd hf => ?hg21_3) ?_
        case hg21_3 =>
          have e109 := Mono.dep_val hd hf (t := 109) (k := 2) (by kernel_rfl) rfl
          clear hd hf
          (go_simp; try with_reducible rfl)
        refine Mono.rgl_val (v := ?vg21_4) rfl Mono.rr (fun ρ a W hR hd hf => ?hg21_4) ?_
        case hg21_4 =>
          have e108 := Mono.dep_val hd hf (t := 108) (k := 1) (by kernel_rfl) rfl
          have e110 := Mono.dep_val hd hf (t := 110) (k := 3) (by kernel_rfl) rfl
          clear hd hf
          (go_simp; try with_reducible rfl)
        refine Mono.rgl_val (v := ?vg21_5) rfl Mono.rr (fun ρ a W hR hd hf => ?hg21_5) ?_
        case hg21_5 =>
          have e111 := Mono.dep_val hd hf (t := 111) (k := 4) (by kernel_rfl) rfl
          clear hd hf
          (go_simp; try with_reducible rfl)
        refine Mono.rgl_valg (v := ?vg21_6) rfl Mono.rr (fun ρ W hd => Mono.guard_val hd (t := 112) (k := 5) (by kernel_rfl) rfl) (fun ρ a W hR hd hf => ?hg21_6) ?_
        case hg21_6 =>
          have e0 := Mono.init_get hf (t := 0) (by kernel_rfl)
          clear hd hf
          (go_simp; try with_reducible rfl)
        refine Mono.rgl_valg (v := ?vg21_7) rfl Mono.rr (fun ρ W hd => Mono.guard_val hd (t := 112) (k := 5) (by kernel_rfl) rfl) (fun ρ a W hR hd hf => ?hg21_7) ?_
        case hg21_7 =>
          have e8 := Mono.init_get hf (t := 8) (by kernel_rfl)
          clear hd hf
          (go_simp; try with_reducible rfl)
        refine Mono.rgl_valg (v := ?vg21_8) rfl Mono.rr (fun ρ W hd => Mono.guard_val hd (t := 112) (k := 5) (by kernel_rfl) rfl) (fun ρ a W hR hd hf => ?hg21_8) ?_
        case hg21_8 =>
          have e114 := Mono.dep_val hd hf (t := 114) (k := 7) (by kernel_rfl) rfl
          clear hd hf
          (go_simp; try with_reducible rfl)
        refine Mono.rgl_valg (v := ?vg21_9) rfl Mono.rr (fun ρ W hd => Mono.guard_val hd (t := 112) (k := 5) (by kernel_rfl) rfl) (fun ρ a W hR hd hf => ?hg21_9) ?_
        case hg21_9 =>
          have e113 := Mono.dep_val hd hf (t := 113) (k := 6) (by kernel_rfl) rfl
          have e115 := Mono.dep_val hd hf (t := 115) (k := 8) (by kernel_rfl) rfl
          have hs := HYS.out W
          clear hd hf
          (go_simp; try with_reducible rfl)
        refine Mono.rgl_valg (v := ?vg21_10) rfl Mono.rr (fun ρ W hd => Mono.guard_val hd (t := 112) (k := 5) (by kernel_rfl) rfl) (fun ρ a W hR hd hf => ?hg21_10) ?_
        case hg21_10 =>
          have e116 := Mono.dep_val hd hf (t := 116) (k := 9) (by kernel_rfl) rfl
          have hcv1 := convert_byt Tryd.underlying31 Tryd.underlying5 Tryd.underlying9 (HYB.out.below (hR.mono (by omega)))
          clear hd hf
          (go_simp; try with_reducible rfl)
        refine Mono.rgl_valg (v := ?vg21_11) rfl Mono.rr (fun ρ W hd => Mono.guard_val hd (t := 112) (k := 5) (by kernel_rfl) rfl) (fun ρ a W hR hd hf => ?hg21_11) ?_
        case hg21_11 =>
          have e8 := Mono.init_get hf (t := 8) (by kernel_rfl)
          clear hd hf
          (go_simp; try with_reducible rfl)
        refine Mono.rgl_valg (v := ?vg21_12) rfl Mono.rr (fun ρ W hd => Mono.guard_val hd (t := 112) (k := 5) (by kernel_rfl) rfl) (fun ρ a W hR hd hf => ?hg21_12) ?_
        case hg21_12 =>
          have e118 := Mono.dep_val hd hf (t := 118) (k := 11) (by kernel_rfl) rfl
          have hcv2 := convert_byt Tryd.underlying31 Tryd.underlying5 Tryd.underlying9 (HX.out.below hR)
          clear hd hf
          (go_simp; try with_reducible rfl)
        refine Mono.rgl_valg (v := .bool true) rfl Mono.rr (fun ρ W hd => Mono.guard_val hd (t := 112) (k := 5) (by kernel_rfl) rfl) (fun ρ a W hR hd hf => ?hg21_13) ?_
        case hg21_13 =>
          have e117 := Mono.dep_val hd hf (t := 117) (k := 10) (by kernel_rfl) rfl
          have e119 := Mono.dep_val hd hf (t := 119) (k := 12) (by kernel_rfl) rfl
          clear hd hf
          (go_simp; exact HNE2.out)
        refine Mono.rgl_val (v := ?vg21_14) rfl Mono.rr (fun ρ a W hR hd hf => ?hg21_14) ?_
        case hg21_14 =>
          have e112 := Mono.dep_val hd hf (t := 112) (k := 5) (by kernel_rfl) rfl
          have e120 := Mono.dep_val hd hf (t := 120) (k := 13) (by kernel_rfl) rfl
          clear hd hf
          (go_simp; try with_reducible rfl)
        refine Mono.rgl_done rfl (fun ρ W hR ht => ?_)
        obtain ⟨dg21_14, dg21_13, dg21_12, dg21_11, dg21_10, dg21_9, dg21_8, dg21_7, dg21_6, dg21_5, dg21_4, dg21_3, dg21_2, dg21_1, dg21_0, _⟩ := ht
        simp only [List.length_cons, List.length_nil, Nat.reduceAdd] at dg21_0 dg21_1 dg21_2 dg21_3 dg21_4 dg21_5 dg21_6 dg21_7 dg21_8 dg21_9 dg21_10 dg21_11 dg21_12 dg21_13 dg21_14
        simp only [Mono.putAll, Nat.reduceAdd, dg21_0, dg21_1, dg21_2, dg21_3, dg21_4, dg21_5, dg21_6, dg21_7, dg21_8, dg21_9, dg21_10, dg21_11, dg21_12, dg21_13, dg21_14, Act.put, List.setIfInBounds_toArray, List.set_cons_zero, List.set_cons_succ]
        clear dg21_0 dg21_1 dg21_2 dg21_3 dg21_4 dg21_5 dg21_6 dg21_7 dg21_8 dg21_9 dg21_10 dg21_11 dg21_12 dg21_13 dg21_14
        have HO := Lib.hid (HO.out.below hR hzh)
        have HP := Lib.hid (HP.out.below hR (by omega))
        have HB := Lib.hid (HB.out.trans (hR.mono (by omega)))
        have hzh1 : bh < W.heap.size := Nat.lt_of_lt_of_le hzh hR.size
        clear hR hzh
        have hzh := hzh1
        clear hzh1
        obtain ⟨w8, rfl⟩ : ∃ z : World, z = W := ⟨_, rfl⟩
        have HN : Hid (¬ PAC l) := Lib.hid (fun p => HXE.out (by rw [← HREQ.out]; exact p.eq))
        go_wp2_with (with_reducible refine stop_store ?_)
        refine store_own [.string ByteArray.empty, .int .i64 0, .int .i64 0, .int .i64 0, .int .i64 0, .int .i64 0, .int .i64 0, .int .i64 0, .int .u32 0, .int .i64 0, .int .i64 0, .bool false, .bool false] HP.out rfl rfl rfl (by kernel_rfl) (by kernel_rfl) ?_
        intro w9 hO9 hg9 hz9
        have HP := Lib.hid hO9
        have HB := Lib.hid (HB.out.trans (gr_below hg9 w.heap.size HB.out.size (fun i h => by injection h with h; omega)))
        clear hO9 hg9 hz9
        have z0 := HP.out.1 0 _ rfl
        have z1 := HP.out.1 1 _ rfl
        have z2 := HP.out.1 2 _ rfl
        have z3 := HP.out.1 3 _ rfl
        have z4 := HP.out.1 4 _ rfl
        have z5 := HP.out.1 5 _ rfl
        have z6 := HP.out.1 6 _ rfl
        have z7 := HP.out.1 7 _ rfl
        have z8 := HP.out.1 8 _ rfl
        have z9 := HP.out.1 9 _ rfl
        have z10 := HP.out.1 10 _ rfl
        have z11 := HP.out.1 11 _ rfl
        have z12 := HP.out.1 12 _ rfl
        have hg := HP.out.2
        go_wp2_with (fail)
        refine bodyPost_ret (v := .tuple #[.agg #[.string ByteArray.empty, .int .i64 0, .int .i64 0, .int .i64 0, .int .i64 0, .int .i64 0, .int .i64 0, .int .i64 0, .int .u32 0, .int .i64 0, .int .i64 0, .bool false, .bool false], .int .i64 0]) (by simp [results, Tryd.results17, go_sem, z0, z1, z2, z3, z4, z5, z6, z7, z8, z9, z10, z11, z12] <;> rfl) rfl (.inr ⟨HN.out, rfl, HB.out⟩)
      rw [hxe] at HYB
      have HXE := Lib.hid hxe
      clear hxe
      refine Mono.region_below (by kernel_rfl) (by kernel_rfl) (by kernel_rfl) ?_
      refine Mono.rgl_val (v := ?vg22_0) rfl Mono.rr (fun ρ a W hR hd hf => ?hg22_0) ?_
      case hg22_0 =>
        have e8 := Mono.init_get hf (t := 8) (by kernel_rfl)
        clear hd hf
        (go_simp; try with_reducible rfl)
      refine Mono.rgl_val (v := ?vg22_1) rfl Mono.rr (fun ρ a W hR hd hf => ?hg22_1) ?_
      case hg22_1 =>
        have e107 := Mono.dep_val hd hf (t := 107) (k := 0) (by kernel_rfl) rfl
        clear hd hf
        (go_simp; try with_reducible rfl)
      refine Mono.rgl_val (v := ?vg22_2) rfl Mono.rr (fun ρ a W hR hd hf => ?hg22_2) ?_
      case hg22_2 =>
        have e0 := Mono.init_get hf (t := 0) (by kernel_rfl)
        clear hd hf
        (go_simp; try with_reducible rfl)
      refine Mono.rgl_val (v := ?vg22_3) rfl Mono.rr (fun ρ a W hR hd hf => ?hg22_3) ?_
      case hg22_3 =>
        have e109 := Mono.dep_val hd hf (t := 109) (k := 2) (by kernel_rfl) rfl
        clear hd hf
        (go_simp; try with_reducible rfl)
      refine Mono.rgl_val (v := ?vg22_4) rfl Mono.rr (fun ρ a W hR hd hf => ?hg22_4) ?_
      case hg22_4 =>
        have e108 := Mono.dep_val hd hf (t := 108) (k := 1) (by kernel_rfl) rfl
        have e110 := Mono.dep_val hd hf (t := 110) (k := 3) (by kernel_rfl) rfl
        clear hd hf
        (go_simp; try with_reducible rfl)
      refine Mono.rgl_val (v := ?vg22_5) rfl Mono.rr (fun ρ a W hR hd hf => ?hg22_5) ?_
      case hg22_5 =>
        have e111 := Mono.dep_val hd hf (t := 111) (k := 4) (by kernel_rfl) rfl
        clear hd hf
        (go_simp; try with_reducible rfl)
      refine Mono.rgl_valg (v := ?vg22_6) rfl Mono.rr (fun ρ W hd => Mono.guard_val hd (t := 112) (k := 5) (by kernel_rfl) rfl) (fun ρ a W hR hd hf => ?hg22_6) ?_
      case hg22_6 =>
        have e0 := Mono.init_get hf (t := 0) (by kernel_rfl)
        clear hd hf
        (go_simp; try with_reducible rfl)
      refine Mono.rgl_valg (v := ?vg22_7) rfl Mono.rr (fun ρ W hd => Mono.guard_val hd (t := 112) (k := 5) (by kernel_rfl) rfl) (fun ρ a W hR hd hf => ?hg22_7) ?_
      case hg22_7 =>
        have e8 := Mono.init_get hf (t := 8) (by kernel_rfl)
        clear hd hf
        (go_simp; try with_reducible rfl)
      refine Mono.rgl_valg (v := ?vg22_8) rfl Mono.rr (fun ρ W hd => Mono.guard_val hd (t := 112) (k := 5) (by kernel_rfl) rfl) (fun ρ a W hR hd hf => ?hg22_8) ?_
      case hg22_8 =>
        have e114 := Mono.dep_val hd hf (t := 114) (k := 7) (by kernel_rfl) rfl
        clear hd hf
        (go_simp; try with_reducible rfl)
      refine Mono.rgl_valg (v := ?vg22_9) rfl Mono.rr (fun ρ W hd => Mono.guard_val hd (t := 112) (k := 5) (by kernel_rfl) rfl) (fun ρ a W hR hd hf => ?hg22_9) ?_
      case hg22_9 =>
        have e113 := Mono.dep_val hd hf (t := 113) (k := 6) (by kernel_rfl) rfl
        have e115 := Mono.dep_val hd hf (t := 115) (k := 8) (by kernel_rfl) rfl
        have hs := HYS.out W
        clear hd hf
        (go_simp; try with_reducible rfl)
      refine Mono.rgl_valg (v := ?vg22_10) rfl Mono.rr (fun ρ W hd => Mono.guard_val hd (t := 112) (k := 5) (by kernel_rfl) rfl) (fun ρ a W hR hd hf => ?hg22_10) ?_
      case hg22_10 =>
        have e116 := Mono.dep_val hd hf (t := 116) (k := 9) (by kernel_rfl) rfl
        have hcv1 := convert_byt Tryd.underlying31 Tryd.underlying5 Tryd.underlying9 (HYB.out.below (hR.mono (by omega)))
        clear hd hf
        (go_simp; try with_reducible rfl)
      refine Mono.rgl_valg (v := ?vg22_11) rfl Mono.rr (fun ρ W hd => Mono.guard_val hd (t := 112) (k := 5) (by kernel_rfl) rfl) (fun ρ a W hR hd hf => ?hg22_11) ?_
      case hg22_11 =>
        have e8 := Mono.init_get hf (t := 8) (by kernel_rfl)
        clear hd hf
        (go_simp; try with_reducible rfl)
      refine Mono.rgl_valg (v := ?vg22_12) rfl Mono.rr (fun ρ W hd => Mono.guard_val hd (t := 112) (k := 5) (by kernel_rfl) rfl) (fun ρ a W hR hd hf => ?hg22_12) ?_
      case hg22_12 =>
        have e118 := Mono.dep_val hd hf (t := 118) (k := 11) (by kernel_rfl) rfl
        have hcv2 := convert_byt Tryd.underlying31 Tryd.underlying5 Tryd.underlying9 (HX.out.below hR)
        clear hd hf
        (go_simp; try with_reducible rfl)
      refine Mono.rgl_valg (v := ?vg22_13) rfl Mono.rr (fun ρ W hd => Mono.guard_val hd (t := 112) (k := 5) (by kernel_rfl) rfl) (fun ρ a W hR hd hf => ?hg22_13) ?_
      case hg22_13 =>
        have e117 := Mono.dep_val hd hf (t := 117) (k := 10) (by kernel_rfl) rfl
        have e119 := Mono.dep_val hd hf (t := 119) (k := 12) (by kernel_rfl) rfl
        clear hd hf
        (go_simp; try with_reducible rfl)
      refine Mono.rgl_val (v := ?vg22_14) rfl Mono.rr (fun ρ a W hR hd hf => ?hg22_14) ?_
      case hg22_14 =>
        have e112 := Mono.dep_val hd hf (t := 112) (k := 5) (by kernel_rfl) rfl
        have e120 := Mono.dep_val hd hf (t := 120) (k := 13) (by kernel_rfl) rfl
        clear hd hf
        (go_simp; try with_reducible rfl)
      refine Mono.rgl_done rfl (fun ρ W hR ht => ?_)
      obtain ⟨dg22_14, dg22_13, dg22_12, dg22_11, dg22_10, dg22_9, dg22_8, dg22_7, dg22_6, dg22_5, dg22_4, dg22_3, dg22_2, dg22_1, dg22_0, _⟩ := ht
      simp only [List.length_cons, List.length_nil, Nat.reduceAdd] at dg22_0 dg22_1 dg22_2 dg22_3 dg22_4 dg22_5 dg22_6 dg22_7 dg22_8 dg22_9 dg22_10 dg22_11 dg22_12 dg22_13 dg22_14
      simp only [Mono.putAll, Nat.reduceAdd, dg22_0, dg22_1, dg22_2, dg22_3, dg22_4, dg22_5, dg22_6, dg22_7, dg22_8, dg22_9, dg22_10, dg22_11, dg22_12, dg22_13, dg22_14, Act.put, List.setIfInBounds_toArray, List.set_cons_zero, List.set_cons_succ]
      clear dg22_0 dg22_1 dg22_2 dg22_3 dg22_4 dg22_5 dg22_6 dg22_7 dg22_8 dg22_9 dg22_10 dg22_11 dg22_12 dg22_13 dg22_14
      have HO := Lib.hid (HO.out.below hR hzh)
      have HP := Lib.hid (HP.out.below hR (by omega))
      have HB := Lib.hid (HB.out.trans (hR.mono (by omega)))
      have hzh1 : bh < W.heap.size := Nat.lt_of_lt_of_le hzh hR.size
      clear hR hzh
      have hzh := hzh1
      clear hzh1
      obtain ⟨w8, rfl⟩ : ∃ z : World, z = W := ⟨_, rfl⟩
      have HPAC : Hid (PAC l) := Lib.hid ⟨by rw [E26.out]; exact hn, by rw [E10.out, E12.out]; exact HOK.out.symm, (fun _ => by rw [E26.out, SZ.out, PK.out]; exact ⟨HWD.out.1, HWD.out.2.1, HWD.out.2.2⟩), by rw [CE.out], (fun _ => by rw [E14.out, PK.out, SZ.out]; exact HZ.out), by rw [HREQ.out]; exact HXL.out, by rw [HREQ.out]; exact HXE.out⟩
      have HLEN : Hid (x.length = endOf l) := Lib.hid (by rw [← HREQ.out]; exact endOf_rec l (by rw [E26.out]; exact hn))
      have HEQ : Hid (.agg #[.string nm, .int .i64 t1, .int .i64 t2, .int .i64 t3, .int .i64 t4, .int .i64 t5, .int .i64 t6, .int .i64 (me : Nat), .int .u32 (cr : Nat), .int .i64 (pk : Nat), .int .i64 (sz : Nat), .bool true, .bool true] = hdrOf l) := Lib.hid (by
        have a1 := HPAC.out.acc
        have b1 := pk_le (fun h => (HPAC.out.wd h).2.2)
        have b2 := sz_le (fun h => (HPAC.out.wd h).2.1)
        unfold hdrOf hdrV
        rw [b1, b2, NM.out, E10.out, E12.out, E8.out, E14.out, PK.out, SZ.out, GW.out, GL.out, ET.out.1, ET.out.2.1, ET.out.2.2.1, ET.out.2.2.2.1, ET.out.2.2.2.2.1, ET.out.2.2.2.2.2])
      have k0 := HO.out.1 0 _ rfl
      have k1 := HO.out.1 1 _ rfl
      have k2 := HO.out.1 2 _ rfl
      have k3 := HO.out.1 3 _ rfl
      have k4 := HO.out.1 4 _ rfl
      have k5 := HO.out.1 5 _ rfl
      have k6 := HO.out.1 6 _ rfl
      have k7 := HO.out.1 7 _ rfl
      have k8 := HO.out.1 8 _ rfl
      have k9 := HO.out.1 9 _ rfl
      have k10 := HO.out.1 10 _ rfl
      have k11 := HO.out.1 11 _ rfl
      have k12 := HO.out.1 12 _ rfl
      go_wp2_with (with_reducible refine stop_store ?_)
      refine store_own [.string nm, .int .i64 t1, .int .i64 t2, .int .i64 t3, .int .i64 t4, .int .i64 t5, .int .i64 t6, .int .i64 (me : Nat), .int .u32 (cr : Nat), .int .i64 (pk : Nat), .int .i64 (sz : Nat), .bool true, .bool true] HP.out rfl rfl rfl (by kernel_rfl) (by kernel_rfl) ?_
      intro w9 hO9 hg9 hz9
      have HP := Lib.hid hO9
      have HB := Lib.hid (HB.out.trans (gr_below hg9 w.heap.size HB.out.size (fun i h => by injection h with h; omega)))
      clear hO9 hg9 hz9 k0 k1 k2 k3 k4 k5 k6 k7 k8 k9 k10 k11 k12
      have z0 := HP.out.1 0 _ rfl
      have z1 := HP.out.1 1 _ rfl
      have z2 := HP.out.1 2 _ rfl
      have z3 := HP.out.1 3 _ rfl
      have z4 := HP.out.1 4 _ rfl
      have z5 := HP.out.1 5 _ rfl
      have z6 := HP.out.1 6 _ rfl
      have z7 := HP.out.1 7 _ rfl
      have z8 := HP.out.1 8 _ rfl
      have z9 := HP.out.1 9 _ rfl
      have z10 := HP.out.1 10 _ rfl
      have z11 := HP.out.1 11 _ rfl
      have z12 := HP.out.1 12 _ rfl
      have hg := HP.out.2
      go_wp2_with (fail)
      refine bodyPost_ret (v := .tuple #[.agg #[.string nm, .int .i64 t1, .int .i64 t2, .int .i64 t3, .int .i64 t4, .int .i64 t5, .int .i64 t6, .int .i64 (me : Nat), .int .u32 (cr : Nat), .int .i64 (pk : Nat), .int .i64 (sz : Nat), .bool true, .bool true], .int .i64 (x.length : Nat)]) (by simp [results, Tryd.results17, go_sem, z0, z1, z2, z3, z4, z5, z6, z7, z8, z9, z10, z11, z12] <;> rfl) rfl (.inl ⟨HPAC.out, by rw [HEQ.out, HLEN.out], HB.out⟩)
end Go.Proofs.YtcpojpgdjjmfbaaDoor
