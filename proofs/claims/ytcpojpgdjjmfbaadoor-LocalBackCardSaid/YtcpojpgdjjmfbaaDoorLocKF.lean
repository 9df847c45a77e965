/- The page's Parse of layer 27: the walk of one kind. -/
import Derived.Test.YtcpojpgdjjmfbaaDoorLocZK
namespace Go.Proofs.YtcpojpgdjjmfbaaDoor
set_option linter.unusedVariables false
set_option linter.unusedSimpArgs false
set_option maxRecDepth 100000
open Go.RowKit
set_option maxHeartbeats 16000000 in
set_option maxRecDepth 100000 in
theorem rparse_core_f (ad : Option Addr) (c : Nat) (l : List UInt8) (w : World) (h : Byt w w.heap.size (.slice ad l.length c) l) (hl : l.length ≤ 100000) (hc : l.length ≤ c) (nm : ByteArray) (n C D me cr p4 s4 v4 f6 : Nat) (t1 t2 t3 t4 t5 t6 : Int) (ok gl : Bool) (hn : 30 + n ≤ l.length) (hf6 : f6 < 65536) (hcr : cr < 4294967296) (N26 : Hid (∀ W : World, Below w.heap.size w W → Calls Tryd.prog 34 #[.slice ad l.length c, .int .i64 26, .int .i64 2] W fun e w' => e = .returned (.int .i64 (n : Nat)) ∧ w' = W)) (N12 : Hid (∀ W : World, Below w.heap.size w W → Calls Tryd.prog 34 #[.slice ad l.length c, .int .i64 12, .int .i64 2] W fun e w' => e = .returned (.int .i64 (D : Nat)) ∧ w' = W)) (N10 : Hid (∀ W : World, Below w.heap.size w W → Calls Tryd.prog 34 #[.slice ad l.length c, .int .i64 10, .int .i64 2] W fun e w' => e = .returned (.int .i64 (C : Nat)) ∧ w' = W)) (N8 : Hid (∀ W : World, Below w.heap.size w W → Calls Tryd.prog 34 #[.slice ad l.length c, .int .i64 8, .int .i64 2] W fun e w' => e = .returned (.int .i64 (me : Nat)) ∧ w' = W)) (N14 : Hid (∀ W : World, Below w.heap.size w W → Calls Tryd.prog 34 #[.slice ad l.length c, .int .i64 14, .int .i64 4] W fun e w' => e = .returned (.int .i64 (cr : Nat)) ∧ w' = W)) (N18 : Hid (∀ W : World, Below w.heap.size w W → Calls Tryd.prog 34 #[.slice ad l.length c, .int .i64 18, .int .i64 4] W fun e w' => e = .returned (.int .i64 (p4 : Nat)) ∧ w' = W)) (N22 : Hid (∀ W : World, Below w.heap.size w W → Calls Tryd.prog 34 #[.slice ad l.length c, .int .i64 22, .int .i64 4] W fun e w' => e = .returned (.int .i64 (s4 : Nat)) ∧ w' = W)) (N4 : Hid (∀ W : World, Below w.heap.size w W → Calls Tryd.prog 34 #[.slice ad l.length c, .int .i64 4, .int .i64 2] W fun e w' => e = .returned (.int .i64 (v4 : Nat)) ∧ w' = W)) (N6 : Hid (∀ W : World, Below w.heap.size w W → Calls Tryd.prog 34 #[.slice ad l.length c, .int .i64 6, .int .i64 2] W fun e w' => e = .returned (.int .i64 (f6 : Nat)) ∧ w' = W)) (ENM : Hid (str ((l.drop 30).take n) = nm)) (HVW : Hid (((v4 : Int) == 45) = false)) (HL : Hid (((f6 : Int) / 8 % 2 == 1) = gl)) (HDEC : Hid (∀ W : World, Calls Tryd.prog 35 #[.int .i64 (D : Nat), .int .i64 (C : Nat)] W fun e w' => e = .returned (.tuple #[.agg #[.int .i64 t1, .int .i64 t2, .int .i64 t3, .int .i64 t4, .int .i64 t5, .int .i64 t6], .bool ok]) ∧ Below W.heap.size W w'))
    (E8 : Hid (rd l 8 2 = me)) (E10 : Hid (rd l 10 2 = C)) (E12 : Hid (rd l 12 2 = D)) (E14 : Hid (rd l 14 4 = cr)) (E26 : Hid (rd l 26 2 = n)) (NM : Hid (nmOf l = nm)) (GW : Hid (gwOf l = false)) (GL : Hid (glOf l = gl)) (HOK : Hid (ok = tmB D C)) (HTT : Hid (ok = true → 1980 + (D : Int) / 512 = t1 ∧ (D : Int) / 32 % 16 = t2 ∧ (D : Int) % 32 = t3 ∧ (C : Int) / 2048 = t4 ∧ (C : Int) / 32 % 64 = t5 ∧ (C : Int) % 32 * 2 = t6)) (p8 s8 : Nat) (PKG : Hid (pkN l = p4 ∧ szN l = s4))
    (B34 : Hid (50 + n ≤ l.length → ∀ W : World, Below w.heap.size w W → ∃ a' c', (∀ V : World, (Instr.slice 31 (.slice ad l.length c) (some (.int .i64 (34 + (n : Int)))) (some (.int .i64 (42 + (n : Int)))) none).run Tryd.prog V = .ok (.slice a' 8 c') V) ∧ Calls Tryd.prog 36 #[.slice a' 8 c'] W fun e w' => e = .returned (.int .u64 (s8 : Nat)) ∧ w' = W))
    (B42 : Hid (50 + n ≤ l.length → ∀ W : World, Below w.heap.size w W → ∃ a' c', (∀ V : World, (Instr.slice 31 (.slice ad l.length c) (some (.int .i64 (42 + (n : Int)))) (some (.int .i64 (50 + (n : Int)))) none).run Tryd.prog V = .ok (.slice a' 8 c') V) ∧ Calls Tryd.prog 36 #[.slice a' 8 c'] W fun e w' => e = .returned (.int .u64 (p8 : Nat)) ∧ w' = W))
    (N34 : Hid (50 + n ≤ l.length → s8 ≤ 67108864 → ∀ W : World, Below w.heap.size w W → Calls Tryd.prog 34 #[.slice ad l.length c, .int .i64 (34 + (n : Int)), .int .i64 8] W fun e w' => e = .returned (.int .i64 (s8 : Nat)) ∧ w' = W))
    (N42 : Hid (50 + n ≤ l.length → p8 ≤ 67108864 → ∀ W : World, Below w.heap.size w W → Calls Tryd.prog 34 #[.slice ad l.length c, .int .i64 (42 + (n : Int)), .int .i64 8] W fun e w' => e = .returned (.int .i64 (p8 : Nat)) ∧ w' = W)) :
    Calls Tryd.prog 17 #[.slice ad l.length c] w (PPQ l w) := by
  have t0 : decide ((l.length : Int) < 30) = false := by simp; omega
  have q1 : IntKind.i64.wrap ((l.length : Int) - 30) = (l.length : Int) - 30 := IntWalk.i64_in _ (by omega)
  have t1' : decide ((l.length : Int) - 30 < (n : Int)) = false := by simp; omega
  have Q30 : Hid (IntKind.i64.wrap (30 + (n : Int)) = 30 + n) := Lib.hid (IntWalk.i64_in _ (by omega))
  have Q_cr : Hid (IntKind.u32.wrap (cr : Int) = cr) := Lib.hid (by rw [IntKind.wrap_u32]; omega)
  have Q8 : Hid (IntKind.i64.wrap ((f6 : Int) / 8) = (f6 : Int) / 8) := Lib.hid (IntWalk.i64_in _ (by omega))
  have Q2 : Hid (((f6 : Int) / 8).tmod 2 = (f6 : Int) / 8 % 2) := Lib.hid (Int.tmod_eq_emod_of_nonneg (by omega))
  have HH := Lib.hid h
  obtain ⟨sa, sc, hsl, hsc, hsb⟩ := cut_byt h hc 30 (30 + n) (by omega) (by omega)
  rw [show 30 + n - 30 = n by omega] at hsl hsc hsb
  have HSL : Hid (∀ W : World, (Instr.slice 31 (.slice ad l.length c) (some (.int .i64 30)) (some (.int .i64 (30 + (n : Int)))) none).run Tryd.prog W = .ok (.slice sa n sc) W) := Lib.hid (by intro W; have := hsl W; rw [show ((30 + n : Nat) : Int) = 30 + (n : Int) by omega] at this; exact this)
  have HSB := Lib.hid hsb
  have HP := Lib.hid (Own.new_at w [.string ByteArray.empty, .int .i64 0, .int .i64 0, .int .i64 0, .int .i64 0, .int .i64 0, .int .i64 0, .int .i64 0, .int .u32 0, .int .i64 0, .int .i64 0, .bool false, .bool false] 28 w.heap.size rfl)
  have HB := Lib.hid ((Below.refl w.heap.size w).alloc (Nat.le_refl _) (.cells #[.string ByteArray.empty, .int .i64 0, .int .i64 0, .int .i64 0, .int .i64 0, .int .i64 0, .int .i64 0, .int .i64 0, .int .u32 0, .int .i64 0, .int .i64 0, .bool false, .bool false] 28))
  clear h hsl hsc hsb
  go_enter Tryd.func17, Tryd.ntmps17
  go_wp2_with (fail)
  refine (N26.out _ HB.out).mono ?_
  rintro e w' ⟨rfl, hw'⟩
  subst w'
  go_wp2_with (fail)
  clear t0 q1 t1'
  generalize hw0 : (w.alloc (.cells #[.string ByteArray.empty, .int .i64 0, .int .i64 0, .int .i64 0, .int .i64 0, .int .i64 0, .int .i64 0, .int .i64 0, .int .u32 0, .int .i64 0, .int .i64 0, .bool false, .bool false] 28)) = w0 at *
  have hz0 : w0.heap.size = w.heap.size + 1 := by rw [← hw0]; simp
  clear hw0
  refine (N12.out _ HB.out).mono ?_
  rintro e w' ⟨rfl, hw'⟩
  subst w'
  go_wp2_with (fail)
  refine (N10.out _ HB.out).mono ?_
  rintro e w' ⟨rfl, hw'⟩
  subst w'
  go_wp2_with (fail)
  refine (HDEC.out _).mono ?_
  rintro e w1 ⟨rfl, hb⟩
  have hz1 := hb.size
  have HP := Lib.hid (HP.out.below hb (by omega))
  have HB := Lib.hid (HB.out.trans (hb.mono (by omega)))
  clear hb
  go_wp2_with (fail)
  have HT := Lib.hid (Own.new_at w1 [.int .i64 t1, .int .i64 t2, .int .i64 t3, .int .i64 t4, .int .i64 t5, .int .i64 t6] 23 w1.heap.size rfl)
  have HP := Lib.hid (HP.out.below ((Below.refl _ _).alloc (Nat.le_refl _) (.cells #[.int .i64 t1, .int .i64 t2, .int .i64 t3, .int .i64 t4, .int .i64 t5, .int .i64 t6] 23)) (by omega))
  have HB := Lib.hid (HB.out.alloc (by omega) (.cells #[.int .i64 t1, .int .i64 t2, .int .i64 t3, .int .i64 t4, .int .i64 t5, .int .i64 t6] 23))
  have hz2 : w1.heap.size < (w1.alloc (.cells #[.int .i64 t1, .int .i64 t2, .int .i64 t3, .int .i64 t4, .int .i64 t5, .int .i64 t6] 23)).heap.size := by simp
  generalize (w1.alloc (.cells #[.int .i64 t1, .int .i64 t2, .int .i64 t3, .int .i64 t4, .int .i64 t5, .int .i64 t6] 23)) = w2 at *
  generalize hbt : w1.heap.size = bt at *
  have hlt : w.heap.size < bt := by omega
  clear hbt hz1 hz0
  refine Mono.region_tail 25 (by kernel_rfl) (by kernel_rfl) (by kernel_rfl) (by kernel_rfl) ?_
  simp only [List.take_succ_cons, List.take_zero]
  refine Mono.hgl_val (v := ?v0) rfl Mono.rr (fun ρ a W hR hd hf => ?h0) ?_
  case h0 =>
    have e0 := Mono.init_get hf (t := 0) (by kernel_rfl)
    clear hd hf
    (go_simp; try with_reducible rfl)
  refine Mono.hgl_val (v := ?v1) rfl Mono.rr (fun ρ a W hR hd hf => ?h1) ?_
  case h1 =>
    have e4 := Mono.init_get hf (t := 4) (by kernel_rfl)
    clear hd hf
    (go_simp; try with_reducible rfl)
  refine Mono.hgl_val (v := ?v2) rfl Mono.rr (fun ρ a W hR hd hf => ?h2) ?_
  case h2 =>
    have e30 := Mono.dep_val hd hf (t := 30) (k := 1) (by kernel_rfl) rfl
    have hq := Q30.out
    clear hd hf
    (go_simp; try with_reducible rfl)
  refine Mono.hgl_val (v := ?v3) rfl Mono.rr (fun ρ a W hR hd hf => ?h3) ?_
  case h3 =>
    have e29 := Mono.dep_val hd hf (t := 29) (k := 0) (by kernel_rfl) rfl
    have e31 := Mono.dep_val hd hf (t := 31) (k := 2) (by kernel_rfl) rfl
    have hs := HSL.out W
    clear hd hf
    (go_simp; try with_reducible rfl)
  refine Mono.hgl_val (v := ?v4) rfl Mono.rr (fun ρ a W hR hd hf => ?h4) ?_
  case h4 =>
    have e32 := Mono.dep_val hd hf (t := 32) (k := 3) (by kernel_rfl) rfl
    have hcv := convert_byt Tryd.underlying31 Tryd.underlying5 Tryd.underlying9 (HSB.out.below (HB.out.trans (hR.mono (by omega))))
    rw [ENM.out] at hcv
    clear hd hf
    (go_simp; try with_reducible rfl)
  refine Mono.hgl_val (v := ?v5) rfl Mono.rr (fun ρ a W hR hd hf => ?h5) ?_
  case h5 =>
    have e5 := Mono.init_get hf (t := 5) (by kernel_rfl)
    have hk0 := (HT.out.below hR (by omega)).1 0 _ rfl
    have hk1 := (HT.out.below hR (by omega)).1 1 _ rfl
    have hk2 := (HT.out.below hR (by omega)).1 2 _ rfl
    have hk3 := (HT.out.below hR (by omega)).1 3 _ rfl
    have hk4 := (HT.out.below hR (by omega)).1 4 _ rfl
    have hk5 := (HT.out.below hR (by omega)).1 5 _ rfl
    clear hd hf
    (go_simp; try with_reducible rfl)
  refine Mono.hgl_val (v := ?v6) rfl Mono.rr (fun ρ a W hR hd hf => ?h6) ?_
  case h6 =>
    have e0 := Mono.init_get hf (t := 0) (by kernel_rfl)
    clear hd hf
    (go_simp; try with_reducible rfl)
  refine Mono.hgl_call (fun x _ => x = .int .i64 ((me : Nat) : Int)) rfl Mono.rr (fun _ _ _ h _ => h) (fun ρ a W hR hd hf => ?h7) ?_
  case h7 =>
    have e35 := Mono.dep_val hd hf (t := 35) (k := 6) (by kernel_rfl) rfl
    clear hd hf
    refine ⟨_, _, by go_simp; first | rfl | exact ⟨rfl, rfl⟩, ?_⟩
    exact (N8.out W (HB.out.trans (hR.mono (by omega)))).mono (fun e W' ⟨he, hw⟩ => ⟨_, he, hw ▸ Mono.rr _, rfl⟩)
  refine Mono.hgl_val (v := ?v8) rfl Mono.rr (fun ρ a W hR hd hf => ?h8) ?_
  case h8 =>
    have e0 := Mono.init_get hf (t := 0) (by kernel_rfl)
    clear hd hf
    (go_simp; try with_reducible rfl)
  refine Mono.hgl_call (fun x _ => x = .int .i64 ((cr : Nat) : Int)) rfl Mono.rr (fun _ _ _ h _ => h) (fun ρ a W hR hd hf => ?h9) ?_
  case h9 =>
    have e37 := Mono.dep_val hd hf (t := 37) (k := 8) (by kernel_rfl) rfl
    clear hd hf
    refine ⟨_, _, by go_simp; first | rfl | exact ⟨rfl, rfl⟩, ?_⟩
    exact (N14.out W (HB.out.trans (hR.mono (by omega)))).mono (fun e W' ⟨he, hw⟩ => ⟨_, he, hw ▸ Mono.rr _, rfl⟩)
  refine Mono.hgl_val (v := ?v10) rfl Mono.rr (fun ρ a W hR hd hf => ?h10) ?_
  case h10 =>
    have e38 := Mono.dep_val hd hf (t := 38) (k := 9) (by kernel_rfl) rfl
    have hq := Q_cr.out
    clear hd hf
    (go_simp; try with_reducible rfl)
  refine Mono.hgl_val (v := ?v11) rfl Mono.rr (fun ρ a W hR hd hf => ?h11) ?_
  case h11 =>
    have e0 := Mono.init_get hf (t := 0) (by kernel_rfl)
    clear hd hf
    (go_simp; try with_reducible rfl)
  refine Mono.hgl_call (fun x _ => x = .int .i64 ((p4 : Nat) : Int)) rfl Mono.rr (fun _ _ _ h _ => h) (fun ρ a W hR hd hf => ?h12) ?_
  case h12 =>
    have e40 := Mono.dep_val hd hf (t := 40) (k := 11) (by kernel_rfl) rfl
    clear hd hf
    refine ⟨_, _, by go_simp; first | rfl | exact ⟨rfl, rfl⟩, ?_⟩
    exact (N18.out W (HB.out.trans (hR.mono (by omega)))).mono (fun e W' ⟨he, hw⟩ => ⟨_, he, hw ▸ Mono.rr _, rfl⟩)
  refine Mono.hgl_val (v := ?v13) rfl Mono.rr (fun ρ a W hR hd hf => ?h13) ?_
  case h13 =>
    have e0 := Mono.init_get hf (t := 0) (by kernel_rfl)
    clear hd hf
    (go_simp; try with_reducible rfl)
  refine Mono.hgl_call (fun x _ => x = .int .i64 ((s4 : Nat) : Int)) rfl Mono.rr (fun _ _ _ h _ => h) (fun ρ a W hR hd hf => ?h14) ?_
  case h14 =>
    have e42 := Mono.dep_val hd hf (t := 42) (k := 13) (by kernel_rfl) rfl
    clear hd hf
    refine ⟨_, _, by go_simp; first | rfl | exact ⟨rfl, rfl⟩, ?_⟩
    exact (N22.out W (HB.out.trans (hR.mono (by omega)))).mono (fun e W' ⟨he, hw⟩ => ⟨_, he, hw ▸ Mono.rr _, rfl⟩)
  refine Mono.hgl_val (v := ?v15) rfl Mono.rr (fun ρ a W hR hd hf => ?h15) ?_
  case h15 =>
    have e0 := Mono.init_get hf (t := 0) (by kernel_rfl)
    clear hd hf
    (go_simp; try with_reducible rfl)
  refine Mono.hgl_call (fun x _ => x = .int .i64 ((v4 : Nat) : Int)) rfl Mono.rr (fun _ _ _ h _ => h) (fun ρ a W hR hd hf => ?h16) ?_
  case h16 =>
    have e44 := Mono.dep_val hd hf (t := 44) (k := 15) (by kernel_rfl) rfl
    clear hd hf
    refine ⟨_, _, by go_simp; first | rfl | exact ⟨rfl, rfl⟩, ?_⟩
    exact (N4.out W (HB.out.trans (hR.mono (by omega)))).mono (fun e W' ⟨he, hw⟩ => ⟨_, he, hw ▸ Mono.rr _, rfl⟩)
  refine Mono.hgl_val (v := ?v17) rfl Mono.rr (fun ρ a W hR hd hf => ?h17) ?_
  case h17 =>
    have e45 := Mono.dep_val hd hf (t := 45) (k := 16) (by kernel_rfl) rfl
    have hq := HVW.out
    clear hd hf
    (go_simp; try with_reducible rfl)
  refine Mono.hgl_val (v := ?v18) rfl Mono.rr (fun ρ a W hR hd hf => ?h18) ?_
  case h18 =>
    have e0 := Mono.init_get hf (t := 0) (by kernel_rfl)
    clear hd hf
    (go_simp; try with_reducible rfl)
  refine Mono.hgl_call (fun x _ => x = .int .i64 ((f6 : Nat) : Int)) rfl Mono.rr (fun _ _ _ h _ => h) (fun ρ a W hR hd hf => ?h19) ?_
  case h19 =>
    have e47 := Mono.dep_val hd hf (t := 47) (k := 18) (by kernel_rfl) rfl
    clear hd hf
    refine ⟨_, _, by go_simp; first | rfl | exact ⟨rfl, rfl⟩, ?_⟩
    exact (N6.out W (HB.out.trans (hR.mono (by omega)))).mono (fun e W' ⟨he, hw⟩ => ⟨_, he, hw ▸ Mono.rr _, rfl⟩)
  refine Mono.hgl_val (v := ?v20) rfl Mono.rr (fun ρ a W hR hd hf => ?h20) ?_
  case h20 =>
    have e48 := Mono.dep_val hd hf (t := 48) (k := 19) (by kernel_rfl) rfl
    have hq := Q8.out
    clear hd hf
    (go_simp; try with_reducible rfl)
  refine Mono.hgl_val (v := ?v21) rfl Mono.rr (fun ρ a W hR hd hf => ?h21) ?_
  case h21 =>
    have e49 := Mono.dep_val hd hf (t := 49) (k := 20) (by kernel_rfl) rfl
    have hq := Q2.out
    clear hd hf
    (go_simp; try with_reducible rfl)
  refine Mono.hgl_val (v := ?v22) rfl Mono.rr (fun ρ a W hR hd hf => ?h22) ?_
  case h22 =>
    have e50 := Mono.dep_val hd hf (t := 50) (k := 21) (by kernel_rfl) rfl
    have hq := HL.out
    clear hd hf
    (go_simp; try with_reducible rfl)
  refine Mono.hgl_val (v := ?v23) rfl Mono.rr (fun ρ a W hR hd hf => ?h23) ?_
  case h23 =>
    have e33 := Mono.dep_val hd hf (t := 33) (k := 4) (by kernel_rfl) rfl
    have e34 := Mono.dep_val hd hf (t := 34) (k := 5) (by kernel_rfl) rfl
    have e36 := Mono.dep_val hd hf (t := 36) (k := 7) (by kernel_rfl) rfl
    have e39 := Mono.dep_val hd hf (t := 39) (k := 10) (by kernel_rfl) rfl
    have e41 := Mono.dep_val hd hf (t := 41) (k := 12) (by kernel_rfl) rfl
    have e43 := Mono.dep_val hd hf (t := 43) (k := 14) (by kernel_rfl) rfl
    have e46 := Mono.dep_val hd hf (t := 46) (k := 17) (by kernel_rfl) rfl
    have e51 := Mono.dep_val hd hf (t := 51) (k := 22) (by kernel_rfl) rfl
    clear hd hf
    (go_simp; try with_reducible rfl)
  refine Mono.hgl_pred (fun v W => NewH w2 v W) rfl hstNewH (fun ρ a W hR hd hf => ?h24) ?_
  case h24 =>
    clear hd hf
    exact ⟨_, _, by (go_simp <;> rfl), (Below.refl _ _).alloc (Nat.le_refl _) _, NewH.new hR⟩
  refine Mono.hgl_done rfl (by decide) (fun ρ W hR ht => ?_)
  simp only [List.take_succ_cons, List.take_zero, List.drop_succ_cons, List.drop_zero]
  obtain ⟨d24, d23, d22, d21, d20, d19, d18, d17, d16, d15, d14, d13, d12, d11, d10, d9, d8, d7, d6, d5, d4, d3, d2, d1, d0, _⟩ := ht
  replace d24 : (fun v W => NewH w2 v W) (ρ 24) W := d24
  simp only [List.length_cons, List.length_nil, Nat.reduceAdd] at d0 d1 d2 d3 d4 d5 d6 d7 d8 d9 d10 d11 d12 d13 d14 d15 d16 d17 d18 d19 d20 d21 d22 d23
  simp only [Mono.putAll, Nat.reduceAdd, d0, d1, d2, d3, d4, d5, d6, d7, d8, d9, d10, d11, d12, d13, d14, d15, d16, d17, d18, d19, d20, d21, d22, d23, Act.put, List.setIfInBounds_toArray, List.set_cons_zero, List.set_cons_succ]
  clear d0 d1 d2 d3 d4 d5 d6 d7 d8 d9 d10 d11 d12 d13 d14 d15 d16 d17 d18 d19 d20 d21 d22 d23
  generalize ρ 24 = r24 at *
  have HT := Lib.hid (HT.out.below hR (by omega))
  have HP := Lib.hid (HP.out.below hR (by omega))
  have HB := Lib.hid (HB.out.trans (hR.mono (by omega)))
  have hz1 := hR.size
  clear hR
  obtain ⟨bh, hbe, hbh0, hbh1, hO⟩ := d24
  subst hbe
  have HO := Lib.hid hO
  have hlh : w.heap.size < bh := by omega
  have hzh : bh < W.heap.size := hbh1
  clear hO hbh0 hbh1
  go_wp2_with (with_reducible refine stop_store ?_)
  refine store_own [.string nm, .int .i64 t1, .int .i64 t2, .int .i64 t3, .int .i64 t4, .int .i64 t5, .int .i64 t6, .int .i64 (me : Nat), .int .u32 (cr : Nat), .int .i64 (p4 : Nat), .int .i64 (s4 : Nat), .bool false, .bool gl] HO.out rfl rfl rfl (by kernel_rfl) (by kernel_rfl) ?_
  intro w3 hO9 hg9 hz9
  have HO := Lib.hid hO9
  have HP := Lib.hid (HP.out.gr hg9 (by omega) (by simp; omega))
  have HB := Lib.hid (HB.out.trans (gr_below hg9 w.heap.size HB.out.size (fun i h => by injection h with h; omega)))
  have hzh1 : bh < w3.heap.size := by rw [hz9]; exact hzh
  clear hO9 hg9 hz9 hzh
  have hzh := hzh1
  clear hzh1
  obtain ⟨hpk, hsz⟩ := PKG.out
  obtain ⟨pk, hpk1⟩ : ∃ z, z = p4 := ⟨_, rfl⟩
  obtain ⟨sz, hsz1⟩ : ∃ z, z = s4 := ⟨_, rfl⟩
  rw [← hpk1] at HO hpk
  rw [← hsz1] at HO hsz
  have PK := Lib.hid hpk
  have SZ := Lib.hid hsz
  clear hpk hsz hpk1 hsz1
  have k11 := HO.out.1 11 _ rfl
  go_wp2_with (fail)
  clear k11
  cases ok
  · refine Mono.region_below (by kernel_rfl) (by kernel_rfl) (by kernel_rfl) ?_
    refine Mono.rgl_val (v := ?vg1_0) rfl Mono.rr (fun ρ a W hR hd hf => ?hg1_0) ?_
    case hg1_0 =>
      have e6 := Mono.init_get hf (t := 6) (by kernel_rfl)
      clear hd hf
      (go_simp; try with_reducible rfl)
    refine Mono.rgl_val (v := ?vg1_1) rfl Mono.rr (fun ρ a W hR hd hf => ?hg1_1) ?_
    case hg1_1 =>
      have e91 := Mono.dep_val hd hf (t := 91) (k := 0) (by kernel_rfl) rfl
      clear hd hf
      (go_simp; try with_reducible rfl)
    refine Mono.rgl_val (v := ?vg1_2) rfl Mono.rr (fun ρ a W hR hd hf => ?hg1_2) ?_
    case hg1_2 =>
      have e92 := Mono.dep_val hd hf (t := 92) (k := 1) (by kernel_rfl) rfl
      clear hd hf
      (go_simp; try with_reducible rfl)
    refine Mono.rgl_skip rfl (by decide) (fun ρ W hd => Mono.guard_val hd (t := 93) (k := 2) (by kernel_rfl) rfl) ?_
    refine Mono.rgl_skip rfl (by decide) (fun ρ W hd => Mono.guard_val hd (t := 93) (k := 2) (by kernel_rfl) rfl) ?_
    refine Mono.rgl_skip rfl (by decide) (fun ρ W hd => Mono.guard_val hd (t := 93) (k := 2) (by kernel_rfl) rfl) ?_
    refine Mono.rgl_val (v := ?vg1_6) rfl Mono.rr (fun ρ a W hR hd hf => ?hg1_6) ?_
    case hg1_6 =>
      have e93 := Mono.dep_val hd hf (t := 93) (k := 2) (by kernel_rfl) rfl
      have e96 := Mono.dep_val hd hf (t := 96) (k := 5) (by kernel_rfl) rfl
      clear hd hf
      (go_simp; try with_reducible rfl)
    refine Mono.rgl_val (v := ?vg1_7) rfl Mono.rr (fun ρ a W hR hd hf => ?hg1_7) ?_
    case hg1_7 =>
      have e97 := Mono.dep_val hd hf (t := 97) (k := 6) (by kernel_rfl) rfl
      clear hd hf
      (go_simp; try with_reducible rfl)
    refine Mono.rgl_skip rfl (by decide) (fun ρ W hd => Mono.guard_val hd (t := 98) (k := 7) (by kernel_rfl) rfl) ?_
    refine Mono.rgl_skip rfl (by decide) (fun ρ W hd => Mono.guard_val hd (t := 98) (k := 7) (by kernel_rfl) rfl) ?_
    refine Mono.rgl_skip rfl (by decide) (fun ρ W hd => Mono.guard_val hd (t := 98) (k := 7) (by kernel_rfl) rfl) ?_
    refine Mono.rgl_skip rfl (by decide) (fun ρ W hd => Mono.guard_val hd (t := 98) (k := 7) (by kernel_rfl) rfl) ?_
    refine Mono.rgl_val (v := ?vg1_12) rfl Mono.rr (fun ρ a W hR hd hf => ?hg1_12) ?_
    case hg1_12 =>
      have e98 := Mono.dep_val hd hf (t := 98) (k := 7) (by kernel_rfl) rfl
      have e102 := Mono.dep_val hd hf (t := 102) (k := 11) (by kernel_rfl) rfl
      clear hd hf
      (go_simp; try with_reducible rfl)
    refine Mono.rgl_done rfl (fun ρ W hR ht => ?_)
    obtain ⟨dg1_12, dg1_11, dg1_10, dg1_9, dg1_8, dg1_7, dg1_6, dg1_5, dg1_4, dg1_3, dg1_2, dg1_1, dg1_0, _⟩ := ht
    simp only [List.length_cons, List.length_nil, Nat.reduceAdd] at dg1_0 dg1_1 dg1_2 dg1_3 dg1_4 dg1_5 dg1_6 dg1_7 dg1_8 dg1_9 dg1_10 dg1_11 dg1_12
    simp only [Mono.putAll, Nat.reduceAdd, dg1_0, dg1_1, dg1_2, dg1_3, dg1_4, dg1_5, dg1_6, dg1_7, dg1_8, dg1_9, dg1_10, dg1_11, dg1_12, Act.put, List.setIfInBounds_toArray, List.set_cons_zero, List.set_cons_succ]
    clear dg1_0 dg1_1 dg1_2 dg1_3 dg1_4 dg1_5 dg1_6 dg1_7 dg1_8 dg1_9 dg1_10 dg1_11 dg1_12
    have HO := Lib.hid (HO.out.below hR hzh)
    have HP := Lib.hid (HP.out.below hR (by omega))
    have HB := Lib.hid (HB.out.trans (hR.mono (by omega)))
    have hzh1 : bh < W.heap.size := Nat.lt_of_lt_of_le hzh hR.size
    clear hR hzh
    have hzh := hzh1
    clear hzh1
    obtain ⟨w6, rfl⟩ : ∃ z : World, z = W := ⟨_, rfl⟩
    have HN : Hid (¬ PAC l) := Lib.hid (fun p => by have h := p.tm; rw [E12.out, E10.out, ← HOK.out] at h; cases h)
    go_wp2_with (with_reducible refine stop_store ?_)
    refine store_own [.string ByteArray.empty, .int .i64 0, .int .i64 0, .int .i64 0, .int .i64 0, .int .i64 0, .int .i64 0, .int .i64 0, .int .u32 0, .int .i64 0, .int .i64 0, .bool false, .bool false] HP.out rfl rfl rfl (by kernel_rfl) (by kernel_rfl) ?_
    intro w9 hO9 hg9 hz9
    have HP := Lib.hid hO9
    have HB := Lib.hid (HB.out.trans (gr_below hg9 w.heap.size HB.out.size (fun i h => by injection h with h; omega)))
    clear hO9 hg9 hz9
    have z0 := HP.out.1 0 _ rfl
    have z1 := HP.out.1 1 _ rfl
    have z2 := HP.out.1 2 _ rfl
    have z3 := HP.out.1 3 _ rfl
    have z4 := HP.out.1 4 _ rfl
    have z5 := HP.out.1 5 _ rfl
    have z6 := HP.out.1 6 _ rfl
    have z7 := HP.out.1 7 _ rfl
    have z8 := HP.out.1 8 _ rfl
    have z9 := HP.out.1 9 _ rfl
    have z10 := HP.out.1 10 _ rfl
    have z11 := HP.out.1 11 _ rfl
    have z12 := HP.out.1 12 _ rfl
    have hg := HP.out.2
    go_wp2_with (fail)
    refine bodyPost_ret (v := .tuple #[.agg #[.string ByteArray.empty, .int .i64 0, .int .i64 0, .int .i64 0, .int .i64 0, .int .i64 0, .int .i64 0, .int .i64 0, .int .u32 0, .int .i64 0, .int .i64 0, .bool false, .bool false], .int .i64 0]) (by simp [results, Tryd.results17, go_sem, z0, z1, z2, z3, z4, z5, z6, z7, z8, z9, z10, z11, z12] <;> rfl) rfl (.inr ⟨HN.out, rfl, HB.out⟩)
  · obtain ⟨ET1, ET2, ET3, ET4, ET5, ET6⟩ := HTT.out rfl
    have RT : Hid (Dos.rightB t1 t2 t3 t4 t5 t6 = true) := Lib.hid (by have h := HOK.out; unfold tmB at h; rw [ET1, ET2, ET3, ET4, ET5, ET6] at h; exact h.symm)
    have ET := Lib.hid (And.intro ET1 (And.intro ET2 (And.intro ET3 (And.intro ET4 (And.intro ET5 ET6)))))
    clear ET1 ET2 ET3 ET4 ET5 ET6
    have HCK := Lib.hid (fun W => refLcheck_any nm t1 t2 t3 t4 t5 t6 (me : Nat) (cr : Nat) (pk : Nat) (sz : Nat) false gl W)
    rw [RT.out] at HCK
    have CE : Hid (lcode (chk (nmOf l)) true (rd l 8 2 : Nat) (pkN l : Nat) (szN l : Nat) = lcode (chk nm) true (me : Nat) (pk : Nat) (sz : Nat)) := Lib.hid (by rw [NM.out, E8.out, PK.out, SZ.out])
    obtain ⟨cc, hcc⟩ : ∃ z, z = lcode (chk nm) true (me : Nat) (pk : Nat) (sz : Nat) := ⟨_, rfl⟩
    rw [← hcc] at HCK CE
    have HCE := Lib.hid hcc
    clear hcc
    by_cases hc0 : cc = 0
    rotate_left
    · have HCC : Hid ((cc != 0) = true) := Lib.hid (by simpa using hc0)
      have HC1 := Lib.hid hc0
      clear hc0
      refine Mono.region_below (by kernel_rfl) (by kernel_rfl) (by kernel_rfl) ?_
      refine Mono.rgl_val (v := ?vg2_0) rfl Mono.rr (fun ρ a W hR hd hf => ?hg2_0) ?_
      case hg2_0 =>
        have e6 := Mono.init_get hf (t := 6) (by kernel_rfl)
        clear hd hf
        (go_simp; try with_reducible rfl)
      refine Mono.rgl_val (v := ?vg2_1) rfl Mono.rr (fun ρ a W hR hd hf => ?hg2_1) ?_
      case hg2_1 =>
        have e91 := Mono.dep_val hd hf (t := 91) (k := 0) (by kernel_rfl) rfl
        clear hd hf
        (go_simp; try with_reducible rfl)
      refine Mono.rgl_val (v := ?vg2_2) rfl Mono.rr (fun ρ a W hR hd hf => ?hg2_2) ?_
      case hg2_2 =>
        have e92 := Mono.dep_val hd hf (t := 92) (k := 1) (by kernel_rfl) rfl
        clear hd hf
        (go_simp; try with_reducible rfl)
      refine Mono.rgl_valg (v := ?vg2_3) rfl Mono.rr (fun ρ W hd => Mono.guard_val hd (t := 93) (k := 2) (by kernel_rfl) rfl) (fun ρ a W hR hd hf => ?hg2_3) ?_
      case hg2_3 =>
        have e7 := Mono.init_get hf (t := 7) (by kernel_rfl)
        have hk0 := (HO.out.below hR hzh).1 0 _ rfl
        have hk1 := (HO.out.below hR hzh).1 1 _ rfl
        have hk2 := (HO.out.below hR hzh).1 2 _ rfl
        have hk3 := (HO.out.below hR hzh).1 3 _ rfl
        have hk4 := (HO.out.below hR hzh).1 4 _ rfl
        have hk5 := (HO.out.below hR hzh).1 5 _ rfl
        have hk6 := (HO.out.below hR hzh).1 6 _ rfl
        have hk7 := (HO.out.below hR hzh).1 7 _ rfl
        have hk8 := (HO.out.below hR hzh).1 8 _ rfl
        have hk9 := (HO.out.below hR hzh).1 9 _ rfl
        have hk10 := (HO.out.below hR hzh).1 10 _ rfl
        have hk11 := (HO.out.below hR hzh).1 11 _ rfl
        have hk12 := (HO.out.below hR hzh).1 12 _ rfl
        clear hd hf
        (go_simp; try with_reducible rfl)
      refine Mono.rgl_callg (fun x _ => x = .int .i64 cc) rfl Mono.rr (fun _ _ _ h _ => h) (fun ρ W hd => Mono.guard_val hd (t := 93) (k := 2) (by kernel_rfl) rfl) (fun ρ a W hR hd hf => ?hg2_4) ?_
      case hg2_4 =>
        have e94 := Mono.dep_val hd hf (t := 94) (k := 3) (by kernel_rfl) rfl
        clear hd hf
        refine ⟨_, _, by go_simp; first | rfl | exact ⟨rfl, rfl⟩, ?_⟩
        exact (HCK.out W).mono (fun e W' ⟨he, hb⟩ => ⟨_, he, hb, rfl⟩)
      refine Mono.rgl_valg (v := ?vg2_5) rfl Mono.rr (fun ρ W hd => Mono.guard_val hd (t := 93) (k := 2) (by kernel_rfl) rfl) (fun ρ a W hR hd hf => ?hg2_5) ?_
      case hg2_5 =>
        have e95 := Mono.dep_val hd hf (t := 95) (k := 4) (by kernel_rfl) rfl
        have hq := HCC.out
        clear hd hf
        (go_simp; try with_reducible rfl)
      refine Mono.rgl_val (v := ?vg2_6) rfl Mono.rr (fun ρ a W hR hd hf => ?hg2_6) ?_
      case hg2_6 =>
        have e93 := Mono.dep_val hd hf (t := 93) (k := 2) (by kernel_rfl) rfl
        have e96 := Mono.dep_val hd hf (t := 96) (k := 5) (by kernel_rfl) rfl
        clear hd hf
        (go_simp; try with_reducible rfl)
      refine Mono.rgl_val (v := ?vg2_7) rfl Mono.rr (fun ρ a W hR hd hf => ?hg2_7) ?_
      case hg2_7 =>
        have e97 := Mono.dep_val hd hf (t := 97) (k := 6) (by kernel_rfl) rfl
        clear hd hf
        (go_simp; try with_reducible rfl)
      refine Mono.rgl_skip rfl (by decide) (fun ρ W hd => Mono.guard_val hd (t := 98) (k := 7) (by kernel_rfl) rfl) ?_
      refine Mono.rgl_skip rfl (by decide) (fun ρ W hd => Mono.guard_val hd (t := 98) (k := 7) (by kernel_rfl) rfl) ?_
      refine Mono.rgl_skip rfl (by decide) (fun ρ W hd => Mono.guard_val hd (t := 98) (k := 7) (by kernel_rfl) rfl) ?_
      refine Mono.rgl_skip rfl (by decide) (fun ρ W hd => Mono.guard_val hd (t := 98) (k := 7) (by kernel_rfl) rfl) ?_
      refine Mono.rgl_val (v := ?vg2_12) rfl Mono.rr (fun ρ a W hR hd hf => ?hg2_12) ?_
      case hg2_12 =>
        have e98 := Mono.dep_val hd hf (t := 98) (k := 7) (by kernel_rfl) rfl
        have e102 := Mono.dep_val hd hf (t := 102) (k := 11) (by kernel_rfl) rfl
        clear hd hf
        (go_simp; try with_reducible rfl)
      refine Mono.rgl_done rfl (fun ρ W hR ht => ?_)
      obtain ⟨dg2_12, dg2_11, dg2_10, dg2_9, dg2_8, dg2_7, dg2_6, dg2_5, dg2_4, dg2_3, dg2_2, dg2_1, dg2_0, _⟩ := ht
      simp only [List.length_cons, List.length_nil, Nat.reduceAdd] at dg2_0 dg2_1 dg2_2 dg2_3 dg2_4 dg2_5 dg2_6 dg2_7 dg2_8 dg2_9 dg2_10 dg2_11 dg2_12
      simp only [Mono.putAll, Nat.reduceAdd, dg2_0, dg2_1, dg2_2, dg2_3, dg2_4, dg2_5, dg2_6, dg2_7, dg2_8, dg2_9, dg2_10, dg2_11, dg2_12, Act.put, List.setIfInBounds_toArray, List.set_cons_zero, List.set_cons_succ]
      clear dg2_0 dg2_1 dg2_2 dg2_3 dg2_4 dg2_5 dg2_6 dg2_7 dg2_8 dg2_9 dg2_10 dg2_11 dg2_12
      have HO := Lib.hid (HO.out.below hR hzh)
      have HP := Lib.hid (HP.out.below hR (by omega))
      have HB := Lib.hid (HB.out.trans (hR.mono (by omega)))
      have hzh1 : bh < W.heap.size := Nat.lt_of_lt_of_le hzh hR.size
      clear hR hzh
      have hzh := hzh1
      clear hzh1
      obtain ⟨w6, rfl⟩ : ∃ z : World, z = W := ⟨_, rfl⟩
      have HN : Hid (¬ PAC l) := Lib.hid (fun p => HC1.out (by rw [← CE.out]; exact p.ck))
      go_wp2_with (with_reducible refine stop_store ?_)
      refine store_own [.string ByteArray.empty, .int .i64 0, .int .i64 0, .int .i64 0, .int .i64 0, .int .i64 0, .int .i64 0, .int .i64 0, .int .u32 0, .int .i64 0, .int .i64 0, .bool false, .bool false] HP.out rfl rfl rfl (by kernel_rfl) (by kernel_rfl) ?_
      intro w9 hO9 hg9 hz9
      have HP := Lib.hid hO9
      have HB := Lib.hid (HB.out.trans (gr_below hg9 w.heap.size HB.out.size (fun i h => by injection h with h; omega)))
      clear hO9 hg9 hz9
      have z0 := HP.out.1 0 _ rfl
      have z1 := HP.out.1 1 _ rfl
      have z2 := HP.out.1 2 _ rfl
      have z3 := HP.out.1 3 _ rfl
      have z4 := HP.out.1 4 _ rfl
      have z5 := HP.out.1 5 _ rfl
      have z6 := HP.out.1 6 _ rfl
      have z7 := HP.out.1 7 _ rfl
      have z8 := HP.out.1 8 _ rfl
      have z9 := HP.out.1 9 _ rfl
      have z10 := HP.out.1 10 _ rfl
      have z11 := HP.out.1 11 _ rfl
      have z12 := HP.out.1 12 _ rfl
      have hg := HP.out.2
      go_wp2_with (fail)
      refine bodyPost_ret (v := .tuple #[.agg #[.string ByteArray.empty, .int .i64 0, .int .i64 0, .int .i64 0, .int .i64 0, .int .i64 0, .int .i64 0, .int .i64 0, .int .u32 0, .int .i64 0, .int .i64 0, .bool false, .bool false], .int .i64 0]) (by simp [results, Tryd.results17, go_sem, z0, z1, z2, z3, z4, z5, z6, z7, z8, z9, z10, z11, z12] <;> rfl) rfl (.inr ⟨HN.out, rfl, HB.out⟩)
    subst hc0
    have HCC : Hid (((0 : Int) != 0) = false) := Lib.hid rfl
    have HREC := Lib.hid (fun W => refLenc_any nm t1 t2 t3 t4 t5 t6 me cr pk sz false gl W hcr (by rw [RT.out]; exact HCE.out.symm))
    have HREQ : Hid (recOf l = recB nm (dN t1 t2 t3) (cN t4 t5 t6) me cr pk sz (fN nm gl) false gl) := Lib.hid (by
      unfold recOf
      rw [NM.out, E8.out, E10.out, E12.out, E14.out, PK.out, SZ.out, GW.out, GL.out, ← ET.out.1, ← ET.out.2.1, ← ET.out.2.2.1, ← ET.out.2.2.2.1, ← ET.out.2.2.2.2.1, ← ET.out.2.2.2.2.2, date_back, clock_back])
    have HRL : Hid ((recB nm (dN t1 t2 t3) (cN t4 t5 t6) me cr pk sz (fN nm gl) false gl).length ≤ 1000) := Lib.hid (by
      have := (chk_size (lcode_0 HCE.out.symm).1).2
      rw [recB_len]; simp <;> omega)
    generalize recB nm (dN t1 t2 t3) (cN t4 t5 t6) me cr pk sz (fN nm gl) false gl = x at *
    cases gl
    · have HTD := Lib.hid (fun W => told_f nm t1 t2 t3 t4 t5 t6 (me : Nat) (cr : Nat) (pk : Nat) (sz : Nat) false W)
      refine Mono.region_below (by kernel_rfl) (by kernel_rfl) (by kernel_rfl) ?_
      refine Mono.rgl_val (v := ?vg3_0) rfl Mono.rr (fun ρ a W hR hd hf => ?hg3_0) ?_
      case hg3_0 =>
        have e6 := Mono.init_get hf (t := 6) (by kernel_rfl)
        clear hd hf
        (go_simp; try with_reducible rfl)
      refine Mono.rgl_val (v := ?vg3_1) rfl Mono.rr (fun ρ a W hR hd hf => ?hg3_1) ?_
      case hg3_1 =>
        have e91 := Mono.dep_val hd hf (t := 91) (k := 0) (by kernel_rfl) rfl
        clear hd hf
        (go_simp; try with_reducible rfl)
      refine Mono.rgl_val (v := ?vg3_2) rfl Mono.rr (fun ρ a W hR hd hf => ?hg3_2) ?_
      case hg3_2 =>
        have e92 := Mono.dep_val hd hf (t := 92) (k := 1) (by kernel_rfl) rfl
        clear hd hf
        (go_simp; try with_reducible rfl)
      refine Mono.rgl_valg (v := ?vg3_3) rfl Mono.rr (fun ρ W hd => Mono.guard_val hd (t := 93) (k := 2) (by kernel_rfl) rfl) (fun ρ a W hR hd hf => ?hg3_3) ?_
      case hg3_3 =>
        have e7 := Mono.init_get hf (t := 7) (by kernel_rfl)
        have hk0 := (HO.out.below hR hzh).1 0 _ rfl
        have hk1 := (HO.out.below hR hzh).1 1 _ rfl
        have hk2 := (HO.out.below hR hzh).1 2 _ rfl
        have hk3 := (HO.out.below hR hzh).1 3 _ rfl
        have hk4 := (HO.out.below hR hzh).1 4 _ rfl
        have hk5 := (HO.out.below hR hzh).1 5 _ rfl
        have hk6 := (HO.out.below hR hzh).1 6 _ rfl
        have hk7 := (HO.out.below hR hzh).1 7 _ rfl
        have hk8 := (HO.out.below hR hzh).1 8 _ rfl
        have hk9 := (HO.out.below hR hzh).1 9 _ rfl
        have hk10 := (HO.out.below hR hzh).1 10 _ rfl
        have hk11 := (HO.out.below hR hzh).1 11 _ rfl
        have hk12 := (HO.out.below hR hzh).1 12 _ rfl
        clear hd hf
        (go_simp; try with_reducible rfl)
      refine Mono.rgl_callg (fun x _ => x = .int .i64 0) rfl Mono.rr (fun _ _ _ h _ => h) (fun ρ W hd => Mono.guard_val hd (t := 93) (k := 2) (by kernel_rfl) rfl) (fun ρ a W hR hd hf => ?hg3_4) ?_
      case hg3_4 =>
        have e94 := Mono.dep_val hd hf (t := 94) (k := 3) (by kernel_rfl) rfl
        clear hd hf
        refine ⟨_, _, by go_simp; first | rfl | exact ⟨rfl, rfl⟩, ?_⟩
        exact (HCK.out W).mono (fun e W' ⟨he, hb⟩ => ⟨_, he, hb, rfl⟩)
      refine Mono.rgl_valg (v := ?vg3_5) rfl Mono.rr (fun ρ W hd => Mono.guard_val hd (t := 93) (k := 2) (by kernel_rfl) rfl) (fun ρ a W hR hd hf => ?hg3_5) ?_
      case hg3_5 =>
        have e95 := Mono.dep_val hd hf (t := 95) (k := 4) (by kernel_rfl) rfl
        have hq := HCC.out
        clear hd hf
        (go_simp; try with_reducible rfl)
      refine Mono.rgl_val (v := ?vg3_6) rfl Mono.rr (fun ρ a W hR hd hf => ?hg3_6) ?_
      case hg3_6 =>
        have e93 := Mono.dep_val hd hf (t := 93) (k := 2) (by kernel_rfl) rfl
        have e96 := Mono.dep_val hd hf (t := 96) (k := 5) (by kernel_rfl) rfl
        clear hd hf
        (go_simp; try with_reducible rfl)
      refine Mono.rgl_val (v := ?vg3_7) rfl Mono.rr (fun ρ a W hR hd hf => ?hg3_7) ?_
      case hg3_7 =>
        have e97 := Mono.dep_val hd hf (t := 97) (k := 6) (by kernel_rfl) rfl
        clear hd hf
        (go_simp; try with_reducible rfl)
      refine Mono.rgl_valg (v := ?vg3_8) rfl Mono.rr (fun ρ W hd => Mono.guard_val hd (t := 98) (k := 7) (by kernel_rfl) rfl) (fun ρ a W hR hd hf => ?hg3_8) ?_
      case hg3_8 =>
        have e7 := Mono.init_get hf (t := 7) (by kernel_rfl)
        have hk0 := (HO.out.below hR hzh).1 0 _ rfl
        have hk1 := (HO.out.below hR hzh).1 1 _ rfl
        have hk2 := (HO.out.below hR hzh).1 2 _ rfl
        have hk3 := (HO.out.below hR hzh).1 3 _ rfl
        have hk4 := (HO.out.below hR hzh).1 4 _ rfl
        have hk5 := (HO.out.below hR hzh).1 5 _ rfl
        have hk6 := (HO.out.below hR hzh).1 6 _ rfl
        have hk7 := (HO.out.below hR hzh).1 7 _ rfl
        have hk8 := (HO.out.below hR hzh).1 8 _ rfl
        have hk9 := (HO.out.below hR hzh).1 9 _ rfl
        have hk10 := (HO.out.below hR hzh).1 10 _ rfl
        have hk11 := (HO.out.below hR hzh).1 11 _ rfl
        have hk12 := (HO.out.below hR hzh).1 12 _ rfl
        clear hd hf
        (go_simp; try with_reducible rfl)
      refine Mono.rgl_callg (fun x _ => x = .agg #[.string nm, .int .i64 t1, .int .i64 t2, .int .i64 t3, .int .i64 t4, .int .i64 t5, .int .i64 t6, .int .i64 (me : Nat), .int .u32 (cr : Nat), .int .i64 (pk : Nat), .int .i64 (sz : Nat), .bool false, .bool false]) rfl Mono.rr (fun _ _ _ h _ => h) (fun ρ W hd => Mono.guard_val hd (t := 98) (k := 7) (by kernel_rfl) rfl) (fun ρ a W hR hd hf => ?hg3_9) ?_
      case hg3_9 =>
        have e99 := Mono.dep_val hd hf (t := 99) (k := 8) (by kernel_rfl) rfl
        clear hd hf
        refine ⟨_, _, by go_simp; first | rfl | exact ⟨rfl, rfl⟩, ?_⟩
        exact (HTD.out W).mono (fun e W' ⟨he, hb⟩ => ⟨_, he, hb, rfl⟩)
      refine Mono.rgl_valg (v := ?vg3_10) rfl Mono.rr (fun ρ W hd => Mono.guard_val hd (t := 98) (k := 7) (by kernel_rfl) rfl) (fun ρ a W hR hd hf => ?hg3_10) ?_
      case hg3_10 =>
        have e7 := Mono.init_get hf (t := 7) (by kernel_rfl)
        have hk0 := (HO.out.below hR hzh).1 0 _ rfl
        have hk1 := (HO.out.below hR hzh).1 1 _ rfl
        have hk2 := (HO.out.below hR hzh).1 2 _ rfl
        have hk3 := (HO.out.below hR hzh).1 3 _ rfl
        have hk4 := (HO.out.below hR hzh).1 4 _ rfl
        have hk5 := (HO.out.below hR hzh).1 5 _ rfl
        have hk6 := (HO.out.below hR hzh).1 6 _ rfl
        have hk7 := (HO.out.below hR hzh).1 7 _ rfl
        have hk8 := (HO.out.below hR hzh).1 8 _ rfl
        have hk9 := (HO.out.below hR hzh).1 9 _ rfl
        have hk10 := (HO.out.below hR hzh).1 10 _ rfl
        have hk11 := (HO.out.below hR hzh).1 11 _ rfl
        have hk12 := (HO.out.below hR hzh).1 12 _ rfl
        clear hd hf
        (go_simp; try with_reducible rfl)
      refine Mono.rgl_valg (v := ?vg3_11) rfl Mono.rr (fun ρ W hd => Mono.guard_val hd (t := 98) (k := 7) (by kernel_rfl) rfl) (fun ρ a W hR hd hf => ?hg3_11) ?_
      case hg3_11 =>
        have e100 := Mono.dep_val hd hf (t := 100) (k := 9) (by kernel_rfl) rfl
        have e101 := Mono.dep_val hd hf (t := 101) (k := 10) (by kernel_rfl) rfl
        clear hd hf
        (go_simp; try with_reducible rfl)
      refine Mono.rgl_val (v := ?vg3_12) rfl Mono.rr (fun ρ a W hR hd hf => ?hg3_12) ?_
      case hg3_12 =>
        have e98 := Mono.dep_val hd hf (t := 98) (k := 7) (by kernel_rfl) rfl
        have e102 := Mono.dep_val hd hf (t := 102) (k := 11) (by kernel_rfl) rfl
        clear hd hf
        (go_simp; try with_reducible rfl)
      refine Mono.rgl_done rfl (fun ρ W hR ht => ?_)
      obtain ⟨dg3_12, dg3_11, dg3_10, dg3_9, dg3_8, dg3_7, dg3_6, dg3_5, dg3_4, dg3_3, dg3_2, dg3_1, dg3_0, _⟩ := ht
      simp only [List.length_cons, List.length_nil, Nat.reduceAdd] at dg3_0 dg3_1 dg3_2 dg3_3 dg3_4 dg3_5 dg3_6 dg3_7 dg3_8 dg3_9 dg3_10 dg3_11 dg3_12
      simp only [Mono.putAll, Nat.reduceAdd, dg3_0, dg3_1, dg3_2, dg3_3, dg3_4, dg3_5, dg3_6, dg3_7, dg3_8, dg3_9, dg3_10, dg3_11, dg3_12, Act.put, List.setIfInBounds_toArray, List.set_cons_zero, List.set_cons_succ]
      clear dg3_0 dg3_1 dg3_2 dg3_3 dg3_4 dg3_5 dg3_6 dg3_7 dg3_8 dg3_9 dg3_10 dg3_11 dg3_12
      have HO := Lib.hid (HO.out.below hR hzh)
      have HP := Lib.hid (HP.out.below hR (by omega))
      have HB := Lib.hid (HB.out.trans (hR.mono (by omega)))
      have hzh1 : bh < W.heap.size := Nat.lt_of_lt_of_le hzh hR.size
      clear hR hzh
      have hzh := hzh1
      clear hzh1
      obtain ⟨w6, rfl⟩ : ∃ z : World, z = W := ⟨_, rfl⟩
      have k0 := HO.out.1 0 _ rfl
      have k1 := HO.out.1 1 _ rfl
      have k2 := HO.out.1 2 _ rfl
      have k3 := HO.out.1 3 _ rfl
      have k4 := HO.out.1 4 _ rfl
      have k5 := HO.out.1 5 _ rfl
      have k6 := HO.out.1 6 _ rfl
      have k7 := HO.out.1 7 _ rfl
      have k8 := HO.out.1 8 _ rfl
      have k9 := HO.out.1 9 _ rfl
      have k10 := HO.out.1 10 _ rfl
      have k11 := HO.out.1 11 _ rfl
      have k12 := HO.out.1 12 _ rfl
      go_wp2_with (fail)
      refine (HREC.out _).mono ?_
      rintro e w7 ⟨v7, rfl, ho, hb⟩
      obtain ⟨av, cv, rfl, hcv⟩ := OB.form ho
      have HX := Lib.hid (OB.byt ho)
      have HO := Lib.hid (HO.out.below hb hzh)
      have HP := Lib.hid (HP.out.below hb (by omega))
      have HB := Lib.hid (HB.out.trans (hb.mono (by omega)))
      have hzh1 : bh < w7.heap.size := Nat.lt_of_lt_of_le hzh hb.size
      clear hb hzh ho k0 k1 k2 k3 k4 k5 k6 k7 k8 k9 k10 k11 k12
      have hzh := hzh1
      clear hzh1
      have hrl := HRL.out
      go_wp2_with (fail)
      have HYL := Lib.hid (HH.out.below HB.out)
      by_cases hxl : x.length ≤ l.length
      rotate_left
      · have d1 : decide (l.length < x.length) = true := by simp; omega
        have HXL := Lib.hid hxl
        clear hxl hrl
        refine Mono.region_below (by kernel_rfl) (by kernel_rfl) (by kernel_rfl) ?_
        refine Mono.rgl_val (v := ?vg4_0) rfl Mono.rr (fun ρ a W hR hd hf => ?hg4_0) ?_
        case hg4_0 =>
          have e8 := Mono.init_get hf (t := 8) (by kernel_rfl)
          clear hd hf
          (go_simp; try with_reducible rfl)
        refine Mono.rgl_val (v := ?vg4_1) rfl Mono.rr (fun ρ a W hR hd hf => ?hg4_1) ?_
        case hg4_1 =>
          have e107 := Mono.dep_val hd hf (t := 107) (k := 0) (by kernel_rfl) rfl
          clear hd hf
          (go_simp; try with_reducible rfl)
        refine Mono.rgl_val (v := ?vg4_2) rfl Mono.rr (fun ρ a W hR hd hf => ?hg4_2) ?_
        case hg4_2 =>
          have e0 := Mono.init_get hf (t := 0) (by kernel_rfl)
          clear hd hf
          (go_simp; try with_reducible rfl)
        refine Mono.rgl_val (v := ?vg4_3) rfl Mono.rr (fun ρ a W hR hd hf => ?hg4_3) ?_
        case hg4_3 =>
          have e109 := Mono.dep_val hd hf (t := 109) (k := 2) (by kernel_rfl) rfl
          clear hd hf
          (go_simp; try with_reducible rfl)
        refine Mono.rgl_val (v := ?vg4_4) rfl Mono.rr (fun ρ a W hR hd hf => ?hg4_4) ?_
        case hg4_4 =>
          have e108 := Mono.dep_val hd hf (t := 108) (k := 1) (by kernel_rfl) rfl
          have e110 := Mono.dep_val hd hf (t := 110) (k := 3) (by kernel_rfl) rfl
          clear hd hf
          (go_simp; try with_reducible rfl)
        refine Mono.rgl_val (v := ?vg4_5) rfl Mono.rr (fun ρ a W hR hd hf => ?hg4_5) ?_
        case hg4_5 =>
          have e111 := Mono.dep_val hd hf (t := 111) (k := 4) (by kernel_rfl) rfl
          clear hd hf
          (go_simp; try with_reducible rfl)
        refine Mono.rgl_skip rfl (by decide) (fun ρ W hd => Mono.guard_val hd (t := 112) (k := 5) (by kernel_rfl) rfl) ?_
        refine Mono.rgl_skip rfl (by decide) (fun ρ W hd => Mono.guard_val hd (t := 112) (k := 5) (by kernel_rfl) rfl) ?_
        refine Mono.rgl_skip rfl (by decide) (fun ρ W hd => Mono.guard_val hd (t := 112) (k := 5) (by kernel_rfl) rfl) ?_
        refine Mono.rgl_skip rfl (by decide) (fun ρ W hd => Mono.guard_val hd (t := 112) (k := 5) (by kernel_rfl) rfl) ?_
        refine Mono.rgl_skip rfl (by decide) (fun ρ W hd => Mono.guard_val hd (t := 112) (k := 5) (by kernel_rfl) rfl) ?_
        refine Mono.rgl_skip rfl (by decide) (fun ρ W hd => Mono.guard_val hd (t := 112) (k := 5) (by kernel_rfl) rfl) ?_
        refine Mono.rgl_skip rfl (by decide) (fun ρ W hd => Mono.guard_val hd (t := 112) (k := 5) (by kernel_rfl) rfl) ?_
        refine Mono.rgl_skip rfl (by decide) (fun ρ W hd => Mono.guard_val hd (t := 112) (k := 5) (by kernel_rfl) rfl) ?_
        refine Mono.rgl_val (v := ?vg4_14) rfl Mono.rr (fun ρ a W hR hd hf => ?hg4_14) ?_
        case hg4_14 =>
          have e112 := Mono.dep_val hd hf (t := 112) (k := 5) (by kernel_rfl) rfl
          have e120 := Mono.dep_val hd hf (t := 120) (k := 13) (by kernel_rfl) rfl
          clear hd hf
          (go_simp; try with_reducible rfl)
        refine Mono.rgl_done rfl (fun ρ W hR ht => ?_)
        obtain ⟨dg4_14, dg4_13, dg4_12, dg4_11, dg4_10, dg4_9, dg4_8, dg4_7, dg4_6, dg4_5, dg4_4, dg4_3, dg4_2, dg4_1, dg4_0, _⟩ := ht
        simp only [List.length_cons, List.length_nil, Nat.reduceAdd] at dg4_0 dg4_1 dg4_2 dg4_3 dg4_4 dg4_5 dg4_6 dg4_7 dg4_8 dg4_9 dg4_10 dg4_11 dg4_12 dg4_13 dg4_14
        simp only [Mono.putAll, Nat.reduceAdd, dg4_0, dg4_1, dg4_2, dg4_3, dg4_4, dg4_5, dg4_6, dg4_7, dg4_8, dg4_9, dg4_10, dg4_11, dg4_12, dg4_13, dg4_14, Act.put, List.setIfInBounds_toArray, List.set_cons_zero, List.set_cons_succ]
        clear dg4_0 dg4_1 dg4_2 dg4_3 dg4_4 dg4_5 dg4_6 dg4_7 dg4_8 dg4_9 dg4_10 dg4_11 dg4_12 dg4_13 dg4_14
        have HO := Lib.hid (HO.out.below hR hzh)
        have HP := Lib.hid (HP.out.below hR (by omega))
        have HB := Lib.hid (HB.out.trans (hR.mono (by omega)))
        have hzh1 : bh < W.heap.size := Nat.lt_of_lt_of_le hzh hR.size
        clear hR hzh
        have hzh := hzh1
        clear hzh1
        obtain ⟨w8, rfl⟩ : ∃ z : World, z = W := ⟨_, rfl⟩
        have HN : Hid (¬ PAC l) := Lib.hid (fun p => HXL.out (by rw [← HREQ.out]; exact p.fit))
        go_wp2_with (with_reducible refine stop_store ?_)
        refine store_own [.string ByteArray.empty, .int .i64 0, .int .i64 0, .int .i64 0, .int .i64 0, .int .i64 0, .int .i64 0, .int .i64 0, .int .u32 0, .int .i64 0, .int .i64 0, .bool false, .bool false] HP.out rfl rfl rfl (by kernel_rfl) (by kernel_rfl) ?_
        intro w9 hO9 hg9 hz9
        have HP := Lib.hid hO9
        have HB := Lib.hid (HB.out.trans (gr_below hg9 w.heap.size HB.out.size (fun i h => by injection h with h; omega)))
        clear hO9 hg9 hz9
        have z0 := HP.out.1 0 _ rfl
        have z1 := HP.out.1 1 _ rfl
        have z2 := HP.out.1 2 _ rfl
        have z3 := HP.out.1 3 _ rfl
        have z4 := HP.out.1 4 _ rfl
        have z5 := HP.out.1 5 _ rfl
        have z6 := HP.out.1 6 _ rfl
        have z7 := HP.out.1 7 _ rfl
        have z8 := HP.out.1 8 _ rfl
        have z9 := HP.out.1 9 _ rfl
        have z10 := HP.out.1 10 _ rfl
        have z11 := HP.out.1 11 _ rfl
        have z12 := HP.out.1 12 _ rfl
        have hg := HP.out.2
        go_wp2_with (fail)
        refine bodyPost_ret (v := .tuple #[.agg #[.string ByteArray.empty, .int .i64 0, .int .i64 0, .int .i64 0, .int .i64 0, .int .i64 0, .int .i64 0, .int .i64 0, .int .u32 0, .int .i64 0, .int .i64 0, .bool false, .bool false], .int .i64 0]) (by simp [results, Tryd.results17, go_sem, z0, z1, z2, z3, z4, z5, z6, z7, z8, z9, z10, z11, z12] <;> rfl) rfl (.inr ⟨HN.out, rfl, HB.out⟩)
      have d1 : decide (l.length < x.length) = false := by simp; omega
      obtain ⟨ya, yc, hyl, _, hyb⟩ := cut_head HYL.out hc x.length hxl
      have HYS := Lib.hid hyl
      have HYB := Lib.hid hyb
      have HXL := Lib.hid hxl
      clear hyl hyb hxl hrl
      by_cases hxe : l.take x.length = x
      rotate_left
      · have HNE2 : Hid (¬ (str (l.take x.length)).toList = (str x).toList) := Lib.hid (by
          intro h
          rw [ByteArray.toList_eq, ByteArray.toList_eq] at h
          exact hxe (by simpa [str] using h))
        have HXE := Lib.hid hxe
        clear hxe
        refine Mono.region_below (by kernel_rfl) (by kernel_rfl) (by kernel_rfl) ?_
        refine Mono.rgl_val (v := ?vg5_0) rfl Mono.rr (fun ρ a W hR hd hf => ?hg5_0) ?_
        case hg5_0 =>
          have e8 := Mono.init_get hf (t := 8) (by kernel_rfl)
          clear hd hf
          (go_simp; try with_reducible rfl)
        refine Mono.rgl_val (v := ?vg5_1) rfl Mono.rr (fun ρ a W hR hd hf => ?hg5_1) ?_
        case hg5_1 =>
          have e107 := Mono.dep_val hd hf (t := 107) (k := 0) (by kernel_rfl) rfl
          clear hd hf
          (go_simp; try with_reducible rfl)
        refine Mono.rgl_val (v := ?vg5_2) rfl Mono.rr (fun ρ a W hR hd hf => ?hg5_2) ?_
        case hg5_2 =>
          have e0 := Mono.init_get hf (t := 0) (by kernel_rfl)
          clear hd hf
          (go_simp; try with_reducible rfl)
        refine Mono.rgl_val (v := ?vg5_3) rfl Mono.rr (fun ρ a W hR hd hf => ?hg5_3) ?_
        case hg5_3 =>
          have e109 := Mono.dep_val hd hf (t := 109) (k := 2) (by kernel_rfl) rfl
          clear hd hf
          (go_simp; try with_reducible rfl)
        refine Mono.rgl_val (v := ?vg5_4) rfl Mono.rr (fun ρ a W hR hd hf => ?hg5_4) ?_
        case hg5_4 =>
          have e108 := Mono.dep_val hd hf (t := 108) (k := 1) (by kernel_rfl) rfl
          have e110 := Mono.dep_val hd hf (t := 110) (k := 3) (by kernel_rfl) rfl
          clear hd hf
          (go_simp; try with_reducible rfl)
        refine Mono.rgl_val (v := ?vg5_5) rfl Mono.rr (fun ρ a W hR hd hf => ?hg5_5) ?_
        case hg5_5 =>
          have e111 := Mono.dep_val hd hf (t := 111) (k := 4) (by kernel_rfl) rfl
          clear hd hf
          (go_simp; try with_reducible rfl)
        refine Mono.rgl_valg (v := ?vg5_6) rfl Mono.rr (fun ρ W hd => Mono.guard_val hd (t := 112) (k := 5) (by kernel_rfl) rfl) (fun ρ a W hR hd hf => ?hg5_6) ?_
        case hg5_6 =>
          have e0 := Mono.init_get hf (t := 0) (by kernel_rfl)
          clear hd hf
          (go_simp; try with_reducible rfl)
        refine Mono.rgl_valg (v := ?vg5_7) rfl Mono.rr (fun ρ W hd => Mono.guard_val hd (t := 112) (k := 5) (by kernel_rfl) rfl) (fun ρ a W hR hd hf => ?hg5_7) ?_
        case hg5_7 =>
          have e8 := Mono.init_get hf (t := 8) (by kernel_rfl)
          clear hd hf
          (go_simp; try with_reducible rfl)
        refine Mono.rgl_valg (v := ?vg5_8) rfl Mono.rr (fun ρ W hd => Mono.guard_val hd (t := 112) (k := 5) (by kernel_rfl) rfl) (fun ρ a W hR hd hf => ?hg5_8) ?_
        case hg5_8 =>
          have e114 := Mono.dep_val hd hf (t := 114) (k := 7) (by kernel_rfl) rfl
          clear hd hf
          (go_simp; try with_reducible rfl)
        refine Mono.rgl_valg (v := ?vg5_9) rfl Mono.rr (fun ρ W hd => Mono.guard_val hd (t := 112) (k := 5) (by kernel_rfl) rfl) (fun ρ a W hR hd hf => ?hg5_9) ?_
        case hg5_9 =>
          have e113 := Mono.dep_val hd hf (t := 113) (k := 6) (by kernel_rfl) rfl
          have e115 := Mono.dep_val hd hf (t := 115) (k := 8) (by kernel_rfl) rfl
          have hs := HYS.out W
          clear hd hf
          (go_simp; try with_reducible rfl)
        refine Mono.rgl_valg (v := ?vg5_10) rfl Mono.rr (fun ρ W hd => Mono.guard_val hd (t := 112) (k := 5) (by kernel_rfl) rfl) (fun ρ a W hR hd hf => ?hg5_10) ?_
        case hg5_10 =>
          have e116 := Mono.dep_val hd hf (t := 116) (k := 9) (by kernel_rfl) rfl
          have hcv1 := convert_byt Tryd.underlying31 Tryd.underlying5 Tryd.underlying9 (HYB.out.below (hR.mono (by omega)))
          clear hd hf
          (go_simp; try with_reducible rfl)
        refine Mono.rgl_valg (v := ?vg5_11) rfl Mono.rr (fun ρ W hd => Mono.guard_val hd (t := 112) (k := 5) (by kernel_rfl) rfl) (fun ρ a W hR hd hf => ?hg5_11) ?_
        case hg5_11 =>
          have e8 := Mono.init_get hf (t := 8) (by kernel_rfl)
          clear hd hf
          (go_simp; try with_reducible rfl)
        refine Mono.rgl_valg (v := ?vg5_12) rfl Mono.rr (fun ρ W hd => Mono.guard_val hd (t := 112) (k := 5) (by kernel_rfl) rfl) (fun ρ a W hR hd hf => ?hg5_12) ?_
        case hg5_12 =>
          have e118 := Mono.dep_val hd hf (t := 118) (k := 11) (by kernel_rfl) rfl
          have hcv2 := convert_byt Tryd.underlying31 Tryd.underlying5 Tryd.underlying9 (HX.out.below hR)
          clear hd hf
          (go_simp; try with_reducible rfl)
        refine Mono.rgl_valg (v := .bool true) rfl Mono.rr (fun ρ W hd => Mono.guard_val hd (t := 112) (k := 5) (by kernel_rfl) rfl) (fun ρ a W hR hd hf => ?hg5_13) ?_
        case hg5_13 =>
          have e117 := Mono.dep_val hd hf (t := 117) (k := 10) (by kernel_rfl) rfl
          have e119 := Mono.dep_val hd hf (t := 119) (k := 12) (by kernel_rfl) rfl
          clear hd hf
          (go_simp; exact HNE2.out)
        refine Mono.rgl_val (v := ?vg5_14) rfl Mono.rr (fun ρ a W hR hd hf => ?hg5_14) ?_
        case hg5_14 =>
          have e112 := Mono.dep_val hd hf (t := 112) (k := 5) (by kernel_rfl) rfl
          have e120 := Mono.dep_val hd hf (t := 120) (k := 13) (by kernel_rfl) rfl
          clear hd hf
          (go_simp; try with_reducible rfl)
        refine Mono.rgl_done rfl (fun ρ W hR ht => ?_)
        obtain ⟨dg5_14, dg5_13, dg5_12, dg5_11, dg5_10, dg5_9, dg5_8, dg5_7, dg5_6, dg5_5, dg5_4, dg5_3, dg5_2, dg5_1, dg5_0, _⟩ := ht
        simp only [List.length_cons, List.length_nil, Nat.reduceAdd] at dg5_0 dg5_1 dg5_2 dg5_3 dg5_4 dg5_5 dg5_6 dg5_7 dg5_8 dg5_9 dg5_10 dg5_11 dg5_12 dg5_13 dg5_14
        simp only [Mono.putAll, Nat.reduceAdd, dg5_0, dg5_1, dg5_2, dg5_3, dg5_4, dg5_5, dg5_6, dg5_7, dg5_8, dg5_9, dg5_10, dg5_11, dg5_12, dg5_13, dg5_14, Act.put, List.setIfInBounds_toArray, List.set_cons_zero, List.set_cons_succ]
        clear dg5_0 dg5_1 dg5_2 dg5_3 dg5_4 dg5_5 dg5_6 dg5_7 dg5_8 dg5_9 dg5_10 dg5_11 dg5_12 dg5_13 dg5_14
        have HO := Lib.hid (HO.out.below hR hzh)
        have HP := Lib.hid (HP.out.below hR (by omega))
        have HB := Lib.hid (HB.out.trans (hR.mono (by omega)))
        have hzh1 : bh < W.heap.size := Nat.lt_of_lt_of_le hzh hR.size
        clear hR hzh
        have hzh := hzh1
        clear hzh1
        obtain ⟨w8, rfl⟩ : ∃ z : World, z = W := ⟨_, rfl⟩
        have HN : Hid (¬ PAC l) := Lib.hid (fun p => HXE.out (by rw [← HREQ.out]; exact p.eq))
        go_wp2_with (with_reducible refine stop_store ?_)
        refine store_own [.string ByteArray.empty, .int .i64 0, .int .i64 0, .int .i64 0, .int .i64 0, .int .i64 0, .int .i64 0, .int .i64 0, .int .u32 0, .int .i64 0, .int .i64 0, .bool false, .bool false] HP.out rfl rfl rfl (by kernel_rfl) (by kernel_rfl) ?_
        intro w9 hO9 hg9 hz9
        have HP := Lib.hid hO9
        have HB := Lib.hid (HB.out.trans (gr_below hg9 w.heap.size HB.out.size (fun i h => by injection h with h; omega)))
        clear hO9 hg9 hz9
        have z0 := HP.out.1 0 _ rfl
        have z1 := HP.out.1 1 _ rfl
        have z2 := HP.out.1 2 _ rfl
        have z3 := HP.out.1 3 _ rfl
        have z4 := HP.out.1 4 _ rfl
        have z5 := HP.out.1 5 _ rfl
        have z6 := HP.out.1 6 _ rfl
        have z7 := HP.out.1 7 _ rfl
        have z8 := HP.out.1 8 _ rfl
        have z9 := HP.out.1 9 _ rfl
        have z10 := HP.out.1 10 _ rfl
        have z11 := HP.out.1 11 _ rfl
        have z12 := HP.out.1 12 _ rfl
        have hg := HP.out.2
        go_wp2_with (fail)
        refine bodyPost_ret (v := .tuple #[.agg #[.string ByteArray.empty, .int .i64 0, .int .i64 0, .int .i64 0, .int .i64 0, .int .i64 0, .int .i64 0, .int .i64 0, .int .u32 0, .int .i64 0, .int .i64 0, .bool false, .bool false], .int .i64 0]) (by simp [results, Tryd.results17, go_sem, z0, z1, z2, z3, z4, z5, z6, z7, z8, z9, z10, z11, z12] <;> rfl) rfl (.inr ⟨HN.out, rfl, HB.out⟩)
      rw [hxe] at HYB
      have HXE := Lib.hid hxe
      clear hxe
      refine Mono.region_below (by kernel_rfl) (by kernel_rfl) (by kernel_rfl) ?_
      refine Mono.rgl_val (v := ?vg6_0) rfl Mono.rr (fun ρ a W hR hd hf => ?hg6_0) ?_
      case hg6_0 =>
        have e8 := Mono.init_get hf (t := 8) (by kernel_rfl)
        clear hd hf
        (go_simp; try with_reducible rfl)
      refine Mono.rgl_val (v := ?vg6_1) rfl Mono.rr (fun ρ a W hR hd hf => ?hg6_1) ?_
      case hg6_1 =>
        have e107 := Mono.dep_val hd hf (t := 107) (k := 0) (by kernel_rfl) rfl
        clear hd hf
        (go_simp; try with_reducible rfl)
      refine Mono.rgl_val (v := ?vg6_2) rfl Mono.rr (fun ρ a W hR hd hf => ?hg6_2) ?_
      case hg6_2 =>
        have e0 := Mono.init_get hf (t := 0) (by kernel_rfl)
        clear hd hf
        (go_simp; try with_reducible rfl)
      refine Mono.rgl_val (v := ?vg6_3) rfl Mono.rr (fun ρ a W hR hd hf => ?hg6_3) ?_
      case hg6_3 =>
        have e109 := Mono.dep_val hd hf (t := 109) (k := 2) (by kernel_rfl) rfl
        clear hd hf
        (go_simp; try with_reducible rfl)
      refine Mono.rgl_val (v := ?vg6_4) rfl Mono.rr (fun ρ a W hR hd hf => ?hg6_4) ?_
      case hg6_4 =>
        have e108 := Mono.dep_val hd hf (t := 108) (k := 1) (by kernel_rfl) rfl
        have e110 := Mono.dep_val hd hf (t := 110) (k := 3) (by kernel_rfl) rfl
        clear hd hf
        (go_simp; try with_reducible rfl)
      refine Mono.rgl_val (v := ?vg6_5) rfl Mono.rr (fun ρ a W hR hd hf => ?hg6_5) ?_
      case hg6_5 =>
        have e111 := Mono.dep_val hd hf (t := 111) (k := 4) (by kernel_rfl) rfl
        clear hd hf
        (go_simp; try with_reducible rfl)
      refine Mono.rgl_valg (v := ?vg6_6) rfl Mono.rr (fun ρ W hd => Mono.guard_val hd (t := 112) (k := 5) (by kernel_rfl) rfl) (fun ρ a W hR hd hf => ?hg6_6) ?_
      case hg6_6 =>
        have e0 := Mono.init_get hf (t := 0) (by kernel_rfl)
        clear hd hf
        (go_simp; try with_reducible rfl)
      refine Mono.rgl_valg (v := ?vg6_7) rfl Mono.rr (fun ρ W hd => Mono.guard_val hd (t := 112) (k := 5) (by kernel_rfl) rfl) (fun ρ a W hR hd hf => ?hg6_7) ?_
      case hg6_7 =>
        have e8 := Mono.init_get hf (t := 8) (by kernel_rfl)
        clear hd hf
        (go_simp; try with_reducible rfl)
      refine Mono.rgl_valg (v := ?vg6_8) rfl Mono.rr (fun ρ W hd => Mono.guard_val hd (t := 112) (k := 5) (by kernel_rfl) rfl) (fun ρ a W hR hd hf => ?hg6_8) ?_
      case hg6_8 =>
        have e114 := Mono.dep_val hd hf (t := 114) (k := 7) (by kernel_rfl) rfl
        clear hd hf
        (go_simp; try with_reducible rfl)
      refine Mono.rgl_valg (v := ?vg6_9) rfl Mono.rr (fun ρ W hd => Mono.guard_val hd (t := 112) (k := 5) (by kernel_rfl) rfl) (fun ρ a W hR hd hf => ?hg6_9) ?_
      case hg6_9 =>
        have e113 := Mono.dep_val hd hf (t := 113) (k := 6) (by kernel_rfl) rfl
        have e115 := Mono.dep_val hd hf (t := 115) (k := 8) (by kernel_rfl) rfl
        have hs := HYS.out W
        clear hd hf
        (go_simp; try with_reducible rfl)
      refine Mono.rgl_valg (v := ?vg6_10) rfl Mono.rr (fun ρ W hd => Mono.guard_val hd (t := 112) (k := 5) (by kernel_rfl) rfl) (fun ρ a W hR hd hf => ?hg6_10) ?_
      case hg6_10 =>
        have e116 := Mono.dep_val hd hf (t := 116) (k := 9) (by kernel_rfl) rfl
        have hcv1 := convert_byt Tryd.underlying31 Tryd.underlying5 Tryd.underlying9 (HYB.out.below (hR.mono (by omega)))
        clear hd hf
        (go_simp; try with_reducible rfl)
      refine Mono.rgl_valg (v := ?vg6_11) rfl Mono.rr (fun ρ W hd => Mono.guard_val hd (t := 112) (k := 5) (by kernel_rfl) rfl) (fun ρ a W hR hd hf => ?hg6_11) ?_
      case hg6_11 =>
        have e8 := Mono.init_get hf (t := 8) (by kernel_rfl)
        clear hd hf
        (go_simp; try with_reducible rfl)
      refine Mono.rgl_valg (v := ?vg6_12) rfl Mono.rr (fun ρ W hd => Mono.guard_val hd (t := 112) (k := 5) (by kernel_rfl) rfl) (fun ρ a W hR hd hf => ?hg6_12) ?_
      case hg6_12 =>
        have e118 := Mono.dep_val hd hf (t := 118) (k := 11) (by kernel_rfl) rfl
        have hcv2 := convert_byt Tryd.underlying31 Tryd.underlying5 Tryd.underlying9 (HX.out.below hR)
        clear hd hf
        (go_simp; try with_reducible rfl)
      refine Mono.rgl_valg (v := ?vg6_13) rfl Mono.rr (fun ρ W hd => Mono.guard_val hd (t := 112) (k := 5) (by kernel_rfl) rfl) (fun ρ a W hR hd hf => ?hg6_13) ?_
      case hg6_13 =>
        have e117 := Mono.dep_val hd hf (t := 117) (k := 10) (by kernel_rfl) rfl
        have e119 := Mono.dep_val hd hf (t := 119) (k := 12) (by kernel_rfl) rfl
        clear hd hf
        (go_simp; try with_reducible rfl)
      refine Mono.rgl_val (v := ?vg6_14) rfl Mono.rr (fun ρ a W hR hd hf => ?hg6_14) ?_
      case hg6_14 =>
        have e112 := Mono.dep_val hd hf (t := 112) (k := 5) (by kernel_rfl) rfl
        have e120 := Mono.dep_val hd hf (t := 120) (k := 13) (by kernel_rfl) rfl
        clear hd hf
        (go_simp; try with_reducible rfl)
      refine Mono.rgl_done rfl (fun ρ W hR ht => ?_)
      obtain ⟨dg6_14, dg6_13, dg6_12, dg6_11, dg6_10, dg6_9, dg6_8, dg6_7, dg6_6, dg6_5, dg6_4, dg6_3, dg6_2, dg6_1, dg6_0, _⟩ := ht
      simp only [List.length_cons, List.length_nil, Nat.reduceAdd] at dg6_0 dg6_1 dg6_2 dg6_3 dg6_4 dg6_5 dg6_6 dg6_7 dg6_8 dg6_9 dg6_10 dg6_11 dg6_12 dg6_13 dg6_14
      simp only [Mono.putAll, Nat.reduceAdd, dg6_0, dg6_1, dg6_2, dg6_3, dg6_4, dg6_5, dg6_6, dg6_7, dg6_8, dg6_9, dg6_10, dg6_11, dg6_12, dg6_13, dg6_14, Act.put, List.setIfInBounds_toArray, List.set_cons_zero, List.set_cons_succ]
      clear dg6_0 dg6_1 dg6_2 dg6_3 dg6_4 dg6_5 dg6_6 dg6_7 dg6_8 dg6_9 dg6_10 dg6_11 dg6_12 dg6_13 dg6_14
      have HO := Lib.hid (HO.out.below hR hzh)
      have HP := Lib.hid (HP.out.below hR (by omega))
      have HB := Lib.hid (HB.out.trans (hR.mono (by omega)))
      have hzh1 : bh < W.heap.size := Nat.lt_of_lt_of_le hzh hR.size
      clear hR hzh
      have hzh := hzh1
      clear hzh1
      obtain ⟨w8, rfl⟩ : ∃ z : World, z = W := ⟨_, rfl⟩
      have HPAC : Hid (PAC l) := Lib.hid ⟨by rw [E26.out]; exact hn, by rw [E10.out, E12.out]; exact HOK.out.symm, (fun h => by rw [GW.out] at h; cases h), by rw [CE.out], (fun h => by rw [GL.out] at h; cases h), by rw [HREQ.out]; exact HXL.out, by rw [HREQ.out]; exact HXE.out⟩
      have HLEN : Hid (x.length = endOf l) := Lib.hid (by rw [← HREQ.out]; exact endOf_rec l (by rw [E26.out]; exact hn))
      have HEQ : Hid (.agg #[.string nm, .int .i64 t1, .int .i64 t2, .int .i64 t3, .int .i64 t4, .int .i64 t5, .int .i64 t6, .int .i64 (me : Nat), .int .u32 (cr : Nat), .int .i64 (pk : Nat), .int .i64 (sz : Nat), .bool false, .bool false] = hdrOf l) := Lib.hid (by
        have a1 := HPAC.out.acc
        have b1 := pk_le (fun h => (HPAC.out.wd h).2.2)
        have b2 := sz_le (fun h => (HPAC.out.wd h).2.1)
        unfold hdrOf hdrV
        rw [b1, b2, NM.out, E10.out, E12.out, E8.out, E14.out, PK.out, SZ.out, GW.out, GL.out, ET.out.1, ET.out.2.1, ET.out.2.2.1, ET.out.2.2.2.1, ET.out.2.2.2.2.1, ET.out.2.2.2.2.2])
      have k0 := HO.out.1 0 _ rfl
      have k1 := HO.out.1 1 _ rfl
      have k2 := HO.out.1 2 _ rfl
      have k3 := HO.out.1 3 _ rfl
      have k4 := HO.out.1 4 _ rfl
      have k5 := HO.out.1 5 _ rfl
      have k6 := HO.out.1 6 _ rfl
      have k7 := HO.out.1 7 _ rfl
      have k8 := HO.out.1 8 _ rfl
      have k9 := HO.out.1 9 _ rfl
      have k10 := HO.out.1 10 _ rfl
      have k11 := HO.out.1 11 _ rfl
      have k12 := HO.out.1 12 _ rfl
      go_wp2_with (with_reducible refine stop_store ?_)
      refine store_own [.string nm, .int .i64 t1, .int .i64 t2, .int .i64 t3, .int .i64 t4, .int .i64 t5, .int .i64 t6, .int .i64 (me : Nat), .int .u32 (cr : Nat), .int .i64 (pk : Nat), .int .i64 (sz : Nat), .bool false, .bool false] HP.out rfl rfl rfl (by kernel_rfl) (by kernel_rfl) ?_
      intro w9 hO9 hg9 hz9
      have HP := Lib.hid hO9
      have HB := Lib.hid (HB.out.trans (gr_below hg9 w.heap.size HB.out.size (fun i h => by injection h with h; omega)))
      clear hO9 hg9 hz9 k0 k1 k2 k3 k4 k5 k6 k7 k8 k9 k10 k11 k12
      have z0 := HP.out.1 0 _ rfl
      have z1 := HP.out.1 1 _ rfl
      have z2 := HP.out.1 2 _ rfl
      have z3 := HP.out.1 3 _ rfl
      have z4 := HP.out.1 4 _ rfl
      have z5 := HP.out.1 5 _ rfl
      have z6 := HP.out.1 6 _ rfl
      have z7 := HP.out.1 7 _ rfl
      have z8 := HP.out.1 8 _ rfl
      have z9 := HP.out.1 9 _ rfl
      have z10 := HP.out.1 10 _ rfl
      have z11 := HP.out.1 11 _ rfl
      have z12 := HP.out.1 12 _ rfl
      have hg := HP.out.2
      go_wp2_with (fail)
      refine bodyPost_ret (v := .tuple #[.agg #[.string nm, .int .i64 t1, .int .i64 t2, .int .i64 t3, .int .i64 t4, .int .i64 t5, .int .i64 t6, .int .i64 (me : Nat), .int .u32 (cr : Nat), .int .i64 (pk : Nat), .int .i64 (sz : Nat), .bool false, .bool false], .int .i64 (x.length : Nat)]) (by simp [results, Tryd.results17, go_sem, z0, z1, z2, z3, z4, z5, z6, z7, z8, z9, z10, z11, z12] <;> rfl) rfl (.inl ⟨HPAC.out, by rw [HEQ.out, HLEN.out], HB.out⟩)
    · by_cases hz : cr = 0 ∧ pk = 0 ∧ sz = 0
      rotate_left
      · have HZN := Lib.hid hz
        have HTD := Lib.hid (fun W => told_t nm t1 t2 t3 t4 t5 t6 (me : Nat) (cr : Nat) (pk : Nat) (sz : Nat) false W)
        have hcs : ((0 : Int) == (cr : Int)) = false ∨ (((0 : Int) == (cr : Int)) = true ∧ ((0 : Int) == (pk : Int)) = false) ∨ (((0 : Int) == (cr : Int)) = true ∧ ((0 : Int) == (pk : Int)) = true ∧ ((0 : Int) == (sz : Int)) = false) := by
          simp only [beq_iff_eq, beq_eq_false_iff_ne]
          omega
        clear hz
        rcases hcs with hq1 | ⟨hq1, hq2⟩ | ⟨hq1, hq2, hq3⟩
        all_goals
          refine Mono.region_below (by kernel_rfl) (by kernel_rfl) (by kernel_rfl) ?_
          refine Mono.rgl_val (v := ?vg7_0) rfl Mono.rr (fun ρ a W hR hd hf => ?hg7_0) ?_
          case hg7_0 =>
            have e6 := Mono.init_get hf (t := 6) (by kernel_rfl)
            clear hd hf
            (go_simp; try with_reducible rfl)
          refine Mono.rgl_val (v := ?vg7_1) rfl Mono.rr (fun ρ a W hR hd hf => ?hg7_1) ?_
          case hg7_1 =>
            have e91 := Mono.dep_val hd hf (t := 91) (k := 0) (by kernel_rfl) rfl
            clear hd hf
            (go_simp; try with_reducible rfl)
          refine Mono.rgl_val (v := ?vg7_2) rfl Mono.rr (fun ρ a W hR hd hf => ?hg7_2) ?_
          case hg7_2 =>
            have e92 := Mono.dep_val hd hf (t := 92) (k := 1) (by kernel_rfl) rfl
            clear hd hf
            (go_simp; try with_reducible rfl)
          refine Mono.rgl_valg (v := ?vg7_3) rfl Mono.rr (fun ρ W hd => Mono.guard_val hd (t := 93) (k := 2) (by kernel_rfl) rfl) (fun ρ a W hR hd hf => ?hg7_3) ?_
          case hg7_3 =>
            have e7 := Mono.init_get hf (t := 7) (by kernel_rfl)
            have hk0 := (HO.out.below hR hzh).1 0 _ rfl
            have hk1 := (HO.out.below hR hzh).1 1 _ rfl
            have hk2 := (HO.out.below hR hzh).1 2 _ rfl
            have hk3 := (HO.out.below hR hzh).1 3 _ rfl
            have hk4 := (HO.out.below hR hzh).1 4 _ rfl
            have hk5 := (HO.out.below hR hzh).1 5 _ rfl
            have hk6 := (HO.out.below hR hzh).1 6 _ rfl
            have hk7 := (HO.out.below hR hzh).1 7 _ rfl
            have hk8 := (HO.out.below hR hzh).1 8 _ rfl
            have hk9 := (HO.out.below hR hzh).1 9 _ rfl
            have hk10 := (HO.out.below hR hzh).1 10 _ rfl
            have hk11 := (HO.out.below hR hzh).1 11 _ rfl
            have hk12 := (HO.out.below hR hzh).1 12 _ rfl
            clear hd hf
            (go_simp; try with_reducible rfl)
          refine Mono.rgl_callg (fun x _ => x = .int .i64 0) rfl Mono.rr (fun _ _ _ h _ => h) (fun ρ W hd => Mono.guard_val hd (t := 93) (k := 2) (by kernel_rfl) rfl) (fun ρ a W hR hd hf => ?hg7_4) ?_
          case hg7_4 =>
            have e94 := Mono.dep_val hd hf (t := 94) (k := 3) (by kernel_rfl) rfl
            clear hd hf
            refine ⟨_, _, by go_simp; first | rfl | exact ⟨rfl, rfl⟩, ?_⟩
            exact (HCK.out W).mono (fun e W' ⟨he, hb⟩ => ⟨_, he, hb, rfl⟩)
          refine Mono.rgl_valg (v := ?vg7_5) rfl Mono.rr (fun ρ W hd => Mono.guard_val hd (t := 93) (k := 2) (by kernel_rfl) rfl) (fun ρ a W hR hd hf => ?hg7_5) ?_
          case hg7_5 =>
            have e95 := Mono.dep_val hd hf (t := 95) (k := 4) (by kernel_rfl) rfl
            have hq := HCC.out
            clear hd hf
            (go_simp; try with_reducible rfl)
          refine Mono.rgl_val (v := ?vg7_6) rfl Mono.rr (fun ρ a W hR hd hf => ?hg7_6) ?_
          case hg7_6 =>
            have e93 := Mono.dep_val hd hf (t := 93) (k := 2) (by kernel_rfl) rfl
            have e96 := Mono.dep_val hd hf (t := 96) (k := 5) (by kernel_rfl) rfl
            clear hd hf
            (go_simp; try with_reducible rfl)
          refine Mono.rgl_val (v := ?vg7_7) rfl Mono.rr (fun ρ a W hR hd hf => ?hg7_7) ?_
          case hg7_7 =>
            have e97 := Mono.dep_val hd hf (t := 97) (k := 6) (by kernel_rfl) rfl
            clear hd hf
            (go_simp; try with_reducible rfl)
          refine Mono.rgl_valg (v := ?vg7_8) rfl Mono.rr (fun ρ W hd => Mono.guard_val hd (t := 98) (k := 7) (by kernel_rfl) rfl) (fun ρ a W hR hd hf => ?hg7_8) ?_
          case hg7_8 =>
            have e7 := Mono.init_get hf (t := 7) (by kernel_rfl)
            have hk0 := (HO.out.below hR hzh).1 0 _ rfl
            have hk1 := (HO.out.below hR hzh).1 1 _ rfl
            have hk2 := (HO.out.below hR hzh).1 2 _ rfl
            have hk3 := (HO.out.below hR hzh).1 3 _ rfl
            have hk4 := (HO.out.below hR hzh).1 4 _ rfl
            have hk5 := (HO.out.below hR hzh).1 5 _ rfl
            have hk6 := (HO.out.below hR hzh).1 6 _ rfl
            have hk7 := (HO.out.below hR hzh).1 7 _ rfl
            have hk8 := (HO.out.below hR hzh).1 8 _ rfl
            have hk9 := (HO.out.below hR hzh).1 9 _ rfl
            have hk10 := (HO.out.below hR hzh).1 10 _ rfl
            have hk11 := (HO.out.below hR hzh).1 11 _ rfl
            have hk12 := (HO.out.below hR hzh).1 12 _ rfl
            clear hd hf
            (go_simp; try with_reducible rfl)
          refine Mono.rgl_callg (fun x _ => x = .agg #[.string nm, .int .i64 t1, .int .i64 t2, .int .i64 t3, .int .i64 t4, .int .i64 t5, .int .i64 t6, .int .i64 (me : Nat), .int .u32 0, .int .i64 0, .int .i64 0, .bool false, .bool true]) rfl Mono.rr (fun _ _ _ h _ => h) (fun ρ W hd => Mono.guard_val hd (t := 98) (k := 7) (by kernel_rfl) rfl) (fun ρ a W hR hd hf => ?hg7_9) ?_
          case hg7_9 =>
            have e99 := Mono.dep_val hd hf (t := 99) (k := 8) (by kernel_rfl) rfl
            clear hd hf
            refine ⟨_, _, by go_simp; first | rfl | exact ⟨rfl, rfl⟩, ?_⟩
            exact (HTD.out W).mono (fun e W' ⟨he, hb⟩ => ⟨_, he, hb, rfl⟩)
          refine Mono.rgl_valg (v := ?vg7_10) rfl Mono.rr (fun ρ W hd => Mono.guard_val hd (t := 98) (k := 7) (by kernel_rfl) rfl) (fun ρ a W hR hd hf => ?hg7_10) ?_
          case hg7_10 =>
            have e7 := Mono.init_get hf (t := 7) (by kernel_rfl)
            have hk0 := (HO.out.below hR hzh).1 0 _ rfl
            have hk1 := (HO.out.below hR hzh).1 1 _ rfl
            have hk2 := (HO.out.below hR hzh).1 2 _ rfl
            have hk3 := (HO.out.below hR hzh).1 3 _ rfl
            have hk4 := (HO.out.below hR hzh).1 4 _ rfl
            have hk5 := (HO.out.below hR hzh).1 5 _ rfl
            have hk6 := (HO.out.below hR hzh).1 6 _ rfl
            have hk7 := (HO.out.below hR hzh).1 7 _ rfl
            have hk8 := (HO.out.below hR hzh).1 8 _ rfl
            have hk9 := (HO.out.below hR hzh).1 9 _ rfl
            have hk10 := (HO.out.below hR hzh).1 10 _ rfl
            have hk11 := (HO.out.below hR hzh).1 11 _ rfl
            have hk12 := (HO.out.below hR hzh).1 12 _ rfl
            clear hd hf
            (go_simp; try with_reducible rfl)
          refine Mono.rgl_valg (v := ?vg7_11) rfl Mono.rr (fun ρ W hd => Mono.guard_val hd (t := 98) (k := 7) (by kernel_rfl) rfl) (fun ρ a W hR hd hf => ?hg7_11) ?_
          case hg7_11 =>
            have e100 := Mono.dep_val hd hf (t := 100) (k := 9) (by kernel_rfl) rfl
            have e101 := Mono.dep_val hd hf (t := 101) (k := 10) (by kernel_rfl) rfl
            clear hd hf
            (go_simp; try with_reducible rfl)
          refine Mono.rgl_val (v := ?vg7_12) rfl Mono.rr (fun ρ a W hR hd hf => ?hg7_12) ?_
          case hg7_12 =>
            have e98 := Mono.dep_val hd hf (t := 98) (k := 7) (by kernel_rfl) rfl
            have e102 := Mono.dep_val hd hf (t := 102) (k := 11) (by kernel_rfl) rfl
            clear hd hf
            (go_simp; try with_reducible rfl)
          refine Mono.rgl_done rfl (fun ρ W hR ht => ?_)
          obtain ⟨dg7_12, dg7_11, dg7_10, dg7_9, dg7_8, dg7_7, dg7_6, dg7_5, dg7_4, dg7_3, dg7_2, dg7_1, dg7_0, _⟩ := ht
          simp only [List.length_cons, List.length_nil, Nat.reduceAdd] at dg7_0 dg7_1 dg7_2 dg7_3 dg7_4 dg7_5 dg7_6 dg7_7 dg7_8 dg7_9 dg7_10 dg7_11 dg7_12
          simp only [Mono.putAll, Nat.reduceAdd, dg7_0, dg7_1, dg7_2, dg7_3, dg7_4, dg7_5, dg7_6, dg7_7, dg7_8, dg7_9, dg7_10, dg7_11, dg7_12, Act.put, List.setIfInBounds_toArray, List.set_cons_zero, List.set_cons_succ]
          clear dg7_0 dg7_1 dg7_2 dg7_3 dg7_4 dg7_5 dg7_6 dg7_7 dg7_8 dg7_9 dg7_10 dg7_11 dg7_12
          have HO := Lib.hid (HO.out.below hR hzh)
          have HP := Lib.hid (HP.out.below hR (by omega))
          have HB := Lib.hid (HB.out.trans (hR.mono (by omega)))
          have hzh1 : bh < W.heap.size := Nat.lt_of_lt_of_le hzh hR.size
          clear hR hzh
          have hzh := hzh1
          clear hzh1
          obtain ⟨w6, rfl⟩ : ∃ z : World, z = W := ⟨_, rfl⟩
          have HN : Hid (¬ PAC l) := Lib.hid (fun p => HZN.out (by have := p.lt GL.out; rw [E14.out, PK.out, SZ.out] at this; exact this))
          go_wp2_with (with_reducible refine stop_store ?_)
          refine store_own [.string ByteArray.empty, .int .i64 0, .int .i64 0, .int .i64 0, .int .i64 0, .int .i64 0, .int .i64 0, .int .i64 0, .int .u32 0, .int .i64 0, .int .i64 0, .bool false, .bool false] HP.out rfl rfl rfl (by kernel_rfl) (by kernel_rfl) ?_
          intro w9 hO9 hg9 hz9
          have HP := Lib.hid hO9
          have HB := Lib.hid (HB.out.trans (gr_below hg9 w.heap.size HB.out.size (fun i h => by injection h with h; omega)))
          clear hO9 hg9 hz9
          have z0 := HP.out.1 0 _ rfl
          have z1 := HP.out.1 1 _ rfl
          have z2 := HP.out.1 2 _ rfl
          have z3 := HP.out.1 3 _ rfl
          have z4 := HP.out.1 4 _ rfl
          have z5 := HP.out.1 5 _ rfl
          have z6 := HP.out.1 6 _ rfl
          have z7 := HP.out.1 7 _ rfl
          have z8 := HP.out.1 8 _ rfl
          have z9 := HP.out.1 9 _ rfl
          have z10 := HP.out.1 10 _ rfl
          have z11 := HP.out.1 11 _ rfl
          have z12 := HP.out.1 12 _ rfl
          have hg := HP.out.2
          go_wp2_with (fail)
          refine bodyPost_ret (v := .tuple #[.agg #[.string ByteArray.empty, .int .i64 0, .int .i64 0, .int .i64 0, .int .i64 0, .int .i64 0, .int .i64 0, .int .i64 0, .int .u32 0, .int .i64 0, .int .i64 0, .bool false, .bool false], .int .i64 0]) (by simp [results, Tryd.results17, go_sem, z0, z1, z2, z3, z4, z5, z6, z7, z8, z9, z10, z11, z12] <;> rfl) rfl (.inr ⟨HN.out, rfl, HB.out⟩)
      have HZ := Lib.hid hz
      have HNE : Hid (((0 : Int) == (cr : Int)) = true ∧ ((0 : Int) == (pk : Int)) = true ∧ ((0 : Int) == (sz : Int)) = true) := Lib.hid (by obtain ⟨rfl, rfl, rfl⟩ := hz; exact ⟨rfl, rfl, rfl⟩)
      clear hz
      have HTD := Lib.hid (fun W => told_t nm t1 t2 t3 t4 t5 t6 (me : Nat) (cr : Nat) (pk : Nat) (sz : Nat) false W)
      refine Mono.region_below (by kernel_rfl) (by kernel_rfl) (by kernel_rfl) ?_
      refine Mono.rgl_val (v := ?vg8_0) rfl Mono.rr (fun ρ a W hR hd hf => ?hg8_0) ?_
      case hg8_0 =>
        have e6 := Mono.init_get hf (t := 6) (by kernel_rfl)
        clear hd hf
        (go_simp; try with_reducible rfl)
      refine Mono.rgl_val (v := ?vg8_1) rfl Mono.rr (fun ρ a W hR hd hf => ?hg8_1) ?_
      case hg8_1 =>
        have e91 := Mono.dep_val hd hf (t := 91) (k := 0) (by kernel_rfl) rfl
        clear hd hf
        (go_simp; try with_reducible rfl)
      refine Mono.rgl_val (v := ?vg8_2) rfl Mono.rr (fun ρ a W hR hd hf => ?hg8_2) ?_
      case hg8_2 =>
        have e92 := Mono.dep_val hd hf (t := 92) (k := 1) (by kernel_rfl) rfl
        clear hd hf
        (go_simp; try with_reducible rfl)
      refine Mono.rgl_valg (v := ?vg8_3) rfl Mono.rr (fun ρ W hd => Mono.guard_val hd (t := 93) (k := 2) (by kernel_rfl) rfl) (fun ρ a W hR hd hf => ?hg8_3) ?_
      case hg8_3 =>
        have e7 := Mono.init_get hf (t := 7) (by kernel_rfl)
        have hk0 := (HO.out.below hR hzh).1 0 _ rfl
        have hk1 := (HO.out.below hR hzh).1 1 _ rfl
        have hk2 := (HO.out.below hR hzh).1 2 _ rfl
        have hk3 := (HO.out.below hR hzh).1 3 _ rfl
        have hk4 := (HO.out.below hR hzh).1 4 _ rfl
        have hk5 := (HO.out.below hR hzh).1 5 _ rfl
        have hk6 := (HO.out.below hR hzh).1 6 _ rfl
        have hk7 := (HO.out.below hR hzh).1 7 _ rfl
        have hk8 := (HO.out.below hR hzh).1 8 _ rfl
        have hk9 := (HO.out.below hR hzh).1 9 _ rfl
        have hk10 := (HO.out.below hR hzh).1 10 _ rfl
        have hk11 := (HO.out.below hR hzh).1 11 _ rfl
        have hk12 := (HO.out.below hR hzh).1 12 _ rfl
        clear hd hf
        (go_simp; try with_reducible rfl)
      refine Mono.rgl_callg (fun x _ => x = .int .i64 0) rfl Mono.rr (fun _ _ _ h _ => h) (fun ρ W hd => Mono.guard_val hd (t := 93) (k := 2) (by kernel_rfl) rfl) (fun ρ a W hR hd hf => ?hg8_4) ?_
      case hg8_4 =>
        have e94 := Mono.dep_val hd hf (t := 94) (k := 3) (by kernel_rfl) rfl
        clear hd hf
        refine ⟨_, _, by go_simp; first | rfl | exact ⟨rfl, rfl⟩, ?_⟩
        exact (HCK.out W).mono (fun e W' ⟨he, hb⟩ => ⟨_, he, hb, rfl⟩)
      refine Mono.rgl_valg (v := ?vg8_5) rfl Mono.rr (fun ρ W hd => Mono.guard_val hd (t := 93) (k := 2) (by kernel_rfl) rfl) (fun ρ a W hR hd hf => ?hg8_5) ?_
      case hg8_5 =>
        have e95 := Mono.dep_val hd hf (t := 95) (k := 4) (by kernel_rfl) rfl
        have hq := HCC.out
        clear hd hf
        (go_simp; try with_reducible rfl)
      refine Mono.rgl_val (v := ?vg8_6) rfl Mono.rr (fun ρ a W hR hd hf => ?hg8_6) ?_
      case hg8_6 =>
        have e93 := Mono.dep_val hd hf (t := 93) (k := 2) (by kernel_rfl) rfl
        have e96 := Mono.dep_val hd hf (t := 96) (k := 5) (by kernel_rfl) rfl
        clear hd hf
        (go_simp; try with_reducible rfl)
      refine Mono.rgl_val (v := ?vg8_7) rfl Mono.rr (fun ρ a W hR hd hf => ?hg8_7) ?_
      case hg8_7 =>
        have e97 := Mono.dep_val hd hf (t := 97) (k := 6) (by kernel_rfl) rfl
        clear hd hf
        (go_simp; try with_reducible rfl)
      refine Mono.rgl_valg (v := ?vg8_8) rfl Mono.rr (fun ρ W hd => Mono.guard_val hd (t := 98) (k := 7) (by kernel_rfl) rfl) (fun ρ a W hR hd hf => ?hg8_8) ?_
      case hg8_8 =>
        have e7 := Mono.init_get hf (t := 7) (by kernel_rfl)
        have hk0 := (HO.out.below hR hzh).1 0 _ rfl
        have hk1 := (HO.out.below hR hzh).1 1 _ rfl
        have hk2 := (HO.out.below hR hzh).1 2 _ rfl
        have hk3 := (HO.out.below hR hzh).1 3 _ rfl
        have hk4 := (HO.out.below hR hzh).1 4 _ rfl
        have hk5 := (HO.out.below hR hzh).1 5 _ rfl
        have hk6 := (HO.out.below hR hzh).1 6 _ rfl
        have hk7 := (HO.out.below hR hzh).1 7 _ rfl
        have hk8 := (HO.out.below hR hzh).1 8 _ rfl
        have hk9 := (HO.out.below hR hzh).1 9 _ rfl
        have hk10 := (HO.out.below hR hzh).1 10 _ rfl
        have hk11 := (HO.out.below hR hzh).1 11 _ rfl
        have hk12 := (HO.out.below hR hzh).1 12 _ rfl
        clear hd hf
        (go_simp; try with_reducible rfl)
      refine Mono.rgl_callg (fun x _ => x = .agg #[.string nm, .int .i64 t1, .int .i64 t2, .int .i64 t3, .int .i64 t4, .int .i64 t5, .int .i64 t6, .int .i64 (me : Nat), .int .u32 0, .int .i64 0, .int .i64 0, .bool false, .bool true]) rfl Mono.rr (fun _ _ _ h _ => h) (fun ρ W hd => Mono.guard_val hd (t := 98) (k := 7) (by kernel_rfl) rfl) (fun ρ a W hR hd hf => ?hg8_9) ?_
      case hg8_9 =>
        have e99 := Mono.dep_val hd hf (t := 99) (k := 8) (by kernel_rfl) rfl
        clear hd hf
        refine ⟨_, _, by go_simp; first | rfl | exact ⟨rfl, rfl⟩, ?_⟩
        exact (HTD.out W).mono (fun e W' ⟨he, hb⟩ => ⟨_, he, hb, rfl⟩)
      refine Mono.rgl_valg (v := ?vg8_10) rfl Mono.rr (fun ρ W hd => Mono.guard_val hd (t := 98) (k := 7) (by kernel_rfl) rfl) (fun ρ a W hR hd hf => ?hg8_10) ?_
      case hg8_10 =>
        have e7 := Mono.init_get hf (t := 7) (by kernel_rfl)
        have hk0 := (HO.out.below hR hzh).1 0 _ rfl
        have hk1 := (HO.out.below hR hzh).1 1 _ rfl
        have hk2 := (HO.out.below hR hzh).1 2 _ rfl
        have hk3 := (HO.out.below hR hzh).1 3 _ rfl
        have hk4 := (HO.out.below hR hzh).1 4 _ rfl
        have hk5 := (HO.out.below hR hzh).1 5 _ rfl
        have hk6 := (HO.out.below hR hzh).1 6 _ rfl
        have hk7 := (HO.out.below hR hzh).1 7 _ rfl
        have hk8 := (HO.out.below hR hzh).1 8 _ rfl
        have hk9 := (HO.out.below hR hzh).1 9 _ rfl
        have hk10 := (HO.out.below hR hzh).1 10 _ rfl
        have hk11 := (HO.out.below hR hzh).1 11 _ rfl
        have hk12 := (HO.out.below hR hzh).1 12 _ rfl
        clear hd hf
        (go_simp; try with_reducible rfl)
      refine Mono.rgl_valg (v := ?vg8_11) rfl Mono.rr (fun ρ W hd => Mono.guard_val hd (t := 98) (k := 7) (by kernel_rfl) rfl) (fun ρ a W hR hd hf => ?hg8_11) ?_
      case hg8_11 =>
        have e100 := Mono.dep_val hd hf (t := 100) (k := 9) (by kernel_rfl) rfl
        have e101 := Mono.dep_val hd hf (t := 101) (k := 10) (by kernel_rfl) rfl
        obtain ⟨hq1, hq2, hq3⟩ := HNE.out
        clear hd hf
        (go_simp; try with_reducible rfl)
      refine Mono.rgl_val (v := ?vg8_12) rfl Mono.rr (fun ρ a W hR hd hf => ?hg8_12) ?_
      case hg8_12 =>
        have e98 := Mono.dep_val hd hf (t := 98) (k := 7) (by kernel_rfl) rfl
        have e102 := Mono.dep_val hd hf (t := 102) (k := 11) (by kernel_rfl) rfl
        clear hd hf
        (go_simp; try with_reducible rfl)
      refine Mono.rgl_done rfl (fun ρ W hR ht => ?_)
      obtain ⟨dg8_12, dg8_11, dg8_10, dg8_9, dg8_8, dg8_7, dg8_6, dg8_5, dg8_4, dg8_3, dg8_2, dg8_1, dg8_0, _⟩ := ht
      simp only [List.length_cons, List.length_nil, Nat.reduceAdd] at dg8_0 dg8_1 dg8_2 dg8_3 dg8_4 dg8_5 dg8_6 dg8_7 dg8_8 dg8_9 dg8_10 dg8_11 dg8_12
      simp only [Mono.putAll, Nat.reduceAdd, dg8_0, dg8_1, dg8_2, dg8_3, dg8_4, dg8_5, dg8_6, dg8_7, dg8_8, dg8_9, dg8_10, dg8_11, dg8_12, Act.put, List.setIfInBounds_toArray, List.set_cons_zero, List.set_cons_succ]
      clear dg8_0 dg8_1 dg8_2 dg8_3 dg8_4 dg8_5 dg8_6 dg8_7 dg8_8 dg8_9 dg8_10 dg8_11 dg8_12
      have HO := Lib.hid (HO.out.below hR hzh)
      have HP := Lib.hid (HP.out.below hR (by omega))
      have HB := Lib.hid (HB.out.trans (hR.mono (by omega)))
      have hzh1 : bh < W.heap.size := Nat.lt_of_lt_of_le hzh hR.size
      clear hR hzh
      have hzh := hzh1
      clear hzh1
      obtain ⟨w6, rfl⟩ : ∃ z : World, z = W := ⟨_, rfl⟩
      have k0 := HO.out.1 0 _ rfl
      have k1 := HO.out.1 1 _ rfl
      have k2 := HO.out.1 2 _ rfl
      have k3 := HO.out.1 3 _ rfl
      have k4 := HO.out.1 4 _ rfl
      have k5 := HO.out.1 5 _ rfl
      have k6 := HO.out.1 6 _ rfl
      have k7 := HO.out.1 7 _ rfl
      have k8 := HO.out.1 8 _ rfl
      have k9 := HO.out.1 9 _ rfl
      have k10 := HO.out.1 10 _ rfl
      have k11 := HO.out.1 11 _ rfl
      have k12 := HO.out.1 12 _ rfl
      go_wp2_with (fail)
      refine (HREC.out _).mono ?_
      rintro e w7 ⟨v7, rfl, ho, hb⟩
      obtain ⟨av, cv, rfl, hcv⟩ := OB.form ho
      have HX := Lib.hid (OB.byt ho)
      have HO := Lib.hid (HO.out.below hb hzh)
      have HP := Lib.hid (HP.out.below hb (by omega))
      have HB := Lib.hid (HB.out.trans (hb.mono (by omega)))
      have hzh1 : bh < w7.heap.size := Nat.lt_of_lt_of_le hzh hb.size
      clear hb hzh ho k0 k1 k2 k3 k4 k5 k6 k7 k8 k9 k10 k11 k12
      have hzh := hzh1
      clear hzh1
      have hrl := HRL.out
      go_wp2_with (fail)
      have HYL := Lib.hid (HH.out.below HB.out)
      by_cases hxl : x.length ≤ l.length
      rotate_left
      · have d1 : decide (l.length < x.length) = true := by simp; omega
        have HXL := Lib.hid hxl
        clear hxl hrl
        refine Mono.region_below (by kernel_rfl) (by kernel_rfl) (by kernel_rfl) ?_
        refine Mono.rgl_val (v := ?vg9_0) rfl Mono.rr (fun ρ a W hR hd hf => ?hg9_0) ?_
        case hg9_0 =>
          have e8 := Mono.init_get hf (t := 8) (by kernel_rfl)
          clear hd hf
          (go_simp; try with_reducible rfl)
        refine Mono.rgl_val (v := ?vg9_1) rfl Mono.rr (fun ρ a W hR hd hf => ?hg9_1) ?_
        case hg9_1 =>
          have e107 := Mono.dep_val hd hf (t := 107) (k := 0) (by kernel_rfl) rfl
          clear hd hf
          (go_simp; try with_reducible rfl)
        refine Mono.rgl_val (v := ?vg9_2) rfl Mono.rr (fun ρ a W hR hd hf => ?hg9_2) ?_
        case hg9_2 =>
          have e0 := Mono.init_get hf (t := 0) (by kernel_rfl)
          clear hd hf
          (go_simp; try with_reducible rfl)
        refine Mono.rgl_val (v := ?vg9_3) rfl Mono.rr (fun ρ a W hR hd hf => ?hg9_3) ?_
        case hg9_3 =>
          have e109 := Mono.dep_val hd hf (t := 109) (k := 2) (by kernel_rfl) rfl
          clear hd hf
          (go_simp; try with_reducible rfl)
        refine Mono.rgl_val (v := ?vg9_4) rfl Mono.rr (fun ρ a W hR hd hf => ?hg9_4) ?_
        case hg9_4 =>
          have e108 := Mono.dep_val hd hf (t := 108) (k := 1) (by kernel_rfl) rfl
          have e110 := Mono.dep_val hd hf (t := 110) (k := 3) (by kernel_rfl) rfl
          clear hd hf
          (go_simp; try with_reducible rfl)
        refine Mono.rgl_val (v := ?vg9_5) rfl Mono.rr (fun ρ a W hR hd hf => ?hg9_5) ?_
        case hg9_5 =>
          have e111 := Mono.dep_val hd hf (t := 111) (k := 4) (by kernel_rfl) rfl
          clear hd hf
          (go_simp; try with_reducible rfl)
        refine Mono.rgl_skip rfl (by decide) (fun ρ W hd => Mono.guard_val hd (t := 112) (k := 5) (by kernel_rfl) rfl) ?_
        refine Mono.rgl_skip rfl (by decide) (fun ρ W hd => Mono.guard_val hd (t := 112) (k := 5) (by kernel_rfl) rfl) ?_
        refine Mono.rgl_skip rfl (by decide) (fun ρ W hd => Mono.guard_val hd (t := 112) (k := 5) (by kernel_rfl) rfl) ?_
        refine Mono.rgl_skip rfl (by decide) (fun ρ W hd => Mono.guard_val hd (t := 112) (k := 5) (by kernel_rfl) rfl) ?_
        refine Mono.rgl_skip rfl (by decide) (fun ρ W hd => Mono.guard_val hd (t := 112) (k := 5) (by kernel_rfl) rfl) ?_
        refine Mono.rgl_skip rfl (by decide) (fun ρ W hd => Mono.guard_val hd (t := 112) (k := 5) (by kernel_rfl) rfl) ?_
        refine Mono.rgl_skip rfl (by decide) (fun ρ W hd => Mono.guard_val hd (t := 112) (k := 5) (by kernel_rfl) rfl) ?_
        refine Mono.rgl_skip rfl (by decide) (fun ρ W hd => Mono.guard_val hd (t := 112) (k := 5) (by kernel_rfl) rfl) ?_
        refine Mono.rgl_val (v := ?vg9_14) rfl Mono.rr (fun ρ a W hR hd hf => ?hg9_14) ?_
        case hg9_14 =>
          have e112 := Mono.dep_val hd hf (t := 112) (k := 5) (by kernel_rfl) rfl
          have e120 := Mono.dep_val hd hf (t := 120) (k := 13) (by kernel_rfl) rfl
          clear hd hf
          (go_simp; try with_reducible rfl)
        refine Mono.rgl_done rfl (fun ρ W hR ht => ?_)
        obtain ⟨dg9_14, dg9_13, dg9_12, dg9_11, dg9_10, dg9_9, dg9_8, dg9_7, dg9_6, dg9_5, dg9_4, dg9_3, dg9_2, dg9_1, dg9_0, _⟩ := ht
        simp only [List.length_cons, List.length_nil, Nat.reduceAdd] at dg9_0 dg9_1 dg9_2 dg9_3 dg9_4 dg9_5 dg9_6 dg9_7 dg9_8 dg9_9 dg9_10 dg9_11 dg9_12 dg9_13 dg9_14
        simp only [Mono.putAll, Nat.reduceAdd, dg9_0, dg9_1, dg9_2, dg9_3, dg9_4, dg9_5, dg9_6, dg9_7, dg9_8, dg9_9, dg9_10, dg9_11, dg9_12, dg9_13, dg9_14, Act.put, List.setIfInBounds_toArray, List.set_cons_zero, List.set_cons_succ]
        clear dg9_0 dg9_1 dg9_2 dg9_3 dg9_4 dg9_5 dg9_6 dg9_7 dg9_8 dg9_9 dg9_10 dg9_11 dg9_12 dg9_13 dg9_14
        have HO := Lib.hid (HO.out.below hR hzh)
        have HP := Lib.hid (HP.out.below hR (by omega))
        have HB := Lib.hid (HB.out.trans (hR.mono (by omega)))
        have hzh1 : bh < W.heap.size := Nat.lt_of_lt_of_le hzh hR.size
        clear hR hzh
        have hzh := hzh1
        clear hzh1
        obtain ⟨w8, rfl⟩ : ∃ z : World, z = W := ⟨_, rfl⟩
        have HN : Hid (¬ PAC l) := Lib.hid (fun p => HXL.out (by rw [← HREQ.out]; exact p.fit))
        go_wp2_with (with_reducible refine stop_store ?_)
        refine store_own [.string ByteArray.empty, .int .i64 0, .int .i64 0, .int .i64 0, .int .i64 0, .int .i64 0, .int .i64 0, .int .i64 0, .int .u32 0, .int .i64 0, .int .i64 0, .bool false, .bool false] HP.out rfl rfl rfl (by kernel_rfl) (by kernel_rfl) ?_
        intro w9 hO9 hg9 hz9
        have HP := Lib.hid hO9
        have HB := Lib.hid (HB.out.trans (gr_below hg9 w.heap.size HB.out.size (fun i h => by injection h with h; omega)))
        clear hO9 hg9 hz9
        have z0 := HP.out.1 0 _ rfl
        have z1 := HP.out.1 1 _ rfl
        have z2 := HP.out.1 2 _ rfl
        have z3 := HP.out.1 3 _ rfl
        have z4 := HP.out.1 4 _ rfl
        have z5 := HP.out.1 5 _ rfl
        have z6 := HP.out.1 6 _ rfl
        have z7 := HP.out.1 7 _ rfl
        have z8 := HP.out.1 8 _ rfl
        have z9 := HP.out.1 9 _ rfl
        have z10 := HP.out.1 10 _ rfl
        have z11 := HP.out.1 11 _ rfl
        have z12 := HP.out.1 12 _ rfl
        have hg := HP.out.2
        go_wp2_with (fail)
        refine bodyPost_ret (v := .tuple #[.agg #[.string ByteArray.empty, .int .i64 0, .int .i64 0, .int .i64 0, .int .i64 0, .int .i64 0, .int .i64 0, .int .i64 0, .int .u32 0, .int .i64 0, .int .i64 0, .bool false, .bool false], .int .i64 0]) (by simp [results, Tryd.results17, go_sem, z0, z1, z2, z3, z4, z5, z6, z7, z8, z9, z10, z11, z12] <;> rfl) rfl (.inr ⟨HN.out, rfl, HB.out⟩)
      have d1 : decide (l.length < x.length) = false := by simp; omega
      obtain ⟨ya, yc, hyl, _, hyb⟩ := cut_head HYL.out hc x.length hxl
      have HYS := Lib.hid hyl
      have HYB := Lib.hid hyb
      have HXL := Lib.hid hxl
      clear hyl hyb hxl hrl
      by_cases hxe : l.take x.length = x
      rotate_left
      · have HNE2 : Hid (¬ (str (l.take x.length)).toList = (str x).toList) := Lib.hid (by
          intro h
          rw [ByteArray.toList_eq, ByteArray.toList_eq] at h
          exact hxe (by simpa [str] using h))
        have HXE := Lib.hid hxe
        clear hxe
        refine Mono.region_below (by kernel_rfl) (by kernel_rfl) (by kernel_rfl) ?_
        refine Mono.rgl_val (v := ?vg10_0) rfl Mono.rr (fun ρ a W hR hd hf => ?hg10_0) ?_
        case hg10_0 =>
          have e8 := Mono.init_get hf (t := 8) (by kernel_rfl)
          clear hd hf
          (go_simp; try with_reducible rfl)
        refine Mono.rgl_val (v := ?vg10_1) rfl Mono.rr (fun ρ a W hR hd hf => ?hg10_1) ?_
        case hg10_1 =>
          have e107 := Mono.dep_val hd hf (t := 107) (k := 0) (by kernel_rfl) rfl
          clear hd hf
          (go_simp; try with_reducible rfl)
        refine Mono.rgl_val (v := ?vg10_2) rfl Mono.rr (fun ρ a W hR hd hf => ?hg10_2) ?_
        case hg10_2 =>
          have e0 := Mono.init_get hf (t := 0) (by kernel_rfl)
          clear hd hf
          (go_simp; try with_reducible rfl)
        refine Mono.rgl_val (v := ?vg10_3) rfl Mono.rr (fun ρ a W hR hd hf => ?hg10_3) ?_
        case hg10_3 =>
          have e109 := Mono.dep_val hd hf (t := 109) (k := 2) (by kernel_rfl) rfl
          clear hd hf
          (go_simp; try with_reducible rfl)
        refine Mono.rgl_val (v := ?vg10_4) rfl Mono.rr (fun ρ a W hR hd hf => ?hg10_4) ?_
        case hg10_4 =>
          have e108 := Mono.dep_val hd hf (t := 108) (k := 1) (by kernel_rfl) rfl
          have e110 := Mono.dep_val hd hf (t := 110) (k := 3) (by kernel_rfl) rfl
          clear hd hf
          (go_simp; try with_reducible rfl)
        refine Mono.rgl_val (v := ?vg10_5) rfl Mono.rr (fun ρ a W hR hd hf => ?hg10_5) ?_
        case hg10_5 =>
          have e111 := Mono.dep_val hd hf (t := 111) (k := 4) (by kernel_rfl) rfl
          clear hd hf
          (go_simp; try with_reducible rfl)
        refine Mono.rgl_valg (v := ?vg10_6) rfl Mono.rr (fun ρ W hd => Mono.guard_val hd (t := 112) (k := 5) (by kernel_rfl) rfl) (fun ρ a W hR hd hf => ?hg10_6) ?_
        case hg10_6 =>
          have e0 := Mono.init_get hf (t := 0) (by kernel_rfl)
          clear hd hf
          (go_simp; try with_reducible rfl)
        refine Mono.rgl_valg (v := ?vg10_7) rfl Mono.rr (fun ρ W hd => Mono.guard_val hd (t := 112) (k := 5) (by kernel_rfl) rfl) (fun ρ a W hR hd hf => ?hg10_7) ?_
        case hg10_7 =>
          have e8 := Mono.init_get hf (t := 8) (by kernel_rfl)
          clear hd hf
          (go_simp; try with_reducible rfl)
        refine Mono.rgl_valg (v := ?vg10_8) rfl Mono.rr (fun ρ W hd => Mono.guard_val hd (t := 112) (k := 5) (by kernel_rfl) rfl) (fun ρ a W hR hd hf => ?hg10_8) ?_
        case hg10_8 =>
          have e114 := Mono.dep_val hd hf (t := 114) (k := 7) (by kernel_rfl) rfl
          clear hd hf
          (go_simp; try with_reducible rfl)
        refine Mono.rgl_valg (v := ?vg10_9) rfl Mono.rr (fun ρ W hd => Mono.guard_val hd (t := 112) (k := 5) (by kernel_rfl) rfl) (fun ρ a W hR hd hf => ?hg10_9) ?_
        case hg10_9 =>
          have e113 := Mono.dep_val hd hf (t := 113) (k := 6) (by kernel_rfl) rfl
          have e115 := Mono.dep_val hd hf (t := 115) (k := 8) (by kernel_rfl) rfl
          have hs := HYS.out W
          clear hd hf
          (go_simp; try with_reducible rfl)
        refine Mono.rgl_valg (v := ?vg10_10) rfl Mono.rr (fun ρ W hd => Mono.guard_val hd (t := 112) (k := 5) (by kernel_rfl) rfl) (fun ρ a W hR hd hf => ?hg10_10) ?_
        case hg10_10 =>
          have e116 := Mono.dep_val hd hf (t := 116) (k := 9) (by kernel_rfl) rfl
          have hcv1 := convert_byt Tryd.underlying31 Tryd.underlying5 Tryd.underlying9 (HYB.out.below (hR.mono (by omega)))
          clear hd hf
          (go_simp; try with_reducible rfl)
        refine Mono.rgl_valg (v := ?vg10_11) rfl Mono.rr (fun ρ W hd => Mono.guard_val hd (t := 112) (k := 5) (by kernel_rfl) rfl) (fun ρ a W hR hd hf => ?hg10_11) ?_
        case hg10_11 =>
          have e8 := Mono.init_get hf (t := 8) (by kernel_rfl)
          clear hd hf
          (go_simp; try with_reducible rfl)
        refine Mono.rgl_valg (v := ?vg10_12) rfl Mono.rr (fun ρ W hd => Mono.guard_val hd (t := 112) (k := 5) (by kernel_rfl) rfl) (fun ρ a W hR hd hf => ?hg10_12) ?_
        case hg10_12 =>
          have e118 := Mono.dep_val hd hf (t := 118) (k := 11) (by kernel_rfl) rfl
          have hcv2 := convert_byt Tryd.underlying31 Tryd.underlying5 Tryd.underlying9 (HX.out.below hR)
          clear hd hf
          (go_simp; try with_reducible rfl)
        refine Mono.rgl_valg (v := .bool true) rfl Mono.rr (fun ρ W hd => Mono.guard_val hd (t := 112) (k := 5) (by kernel_rfl) rfl) (fun ρ a W hR hd hf => ?hg10_13) ?_
        case hg10_13 =>
          have e117 := Mono.dep_val hd hf (t := 117) (k := 10) (by kernel_rfl) rfl
          have e119 := Mono.dep_val hd hf (t := 119) (k := 12) (by kernel_rfl) rfl
          clear hd hf
          (go_simp; exact HNE2.out)
        refine Mono.rgl_val (v := ?vg10_14) rfl Mono.rr (fun ρ a W hR hd hf => ?hg10_14) ?_
        case hg10_14 =>
          have e112 := Mono.dep_val hd hf (t := 112) (k := 5) (by kernel_rfl) rfl
          have e120 := Mono.dep_val hd hf (t := 120) (k := 13) (by kernel_rfl) rfl
          clear hd hf
          (go_simp; try with_reducible rfl)
        refine Mono.rgl_done rfl (fun ρ W hR ht => ?_)
        obtain ⟨dg10_14, dg10_13, dg10_12, dg10_11, dg10_10, dg10_9, dg10_8, dg10_7, dg10_6, dg10_5, dg10_4, dg10_3, dg10_2, dg10_1, dg10_0, _⟩ := ht
        simp only [List.length_cons, List.length_nil, Nat.reduceAdd] at dg10_0 dg10_1 dg10_2 dg10_3 dg10_4 dg10_5 dg10_6 dg10_7 dg10_8 dg10_9 dg10_10 dg10_11 dg10_12 dg10_13 dg10_14
        simp only [Mono.putAll, Nat.reduceAdd, dg10_0, dg10_1, dg10_2, dg10_3, dg10_4, dg10_5, dg10_6, dg10_7, dg10_8, dg10_9, dg10_10, dg10_11, dg10_12, dg10_13, dg10_14, Act.put, List.setIfInBounds_toArray, List.set_cons_zero, List.set_cons_succ]
        clear dg10_0 dg10_1 dg10_2 dg10_3 dg10_4 dg10_5 dg10_6 dg10_7 dg10_8 dg10_9 dg10_10 dg10_11 dg10_12 dg10_13 dg10_14
        have HO := Lib.hid (HO.out.below hR hzh)
        have HP := Lib.hid (HP.out.below hR (by omega))
        have HB := Lib.hid (HB.out.trans (hR.mono (by omega)))
        have hzh1 : bh < W.heap.size := Nat.lt_of_lt_of_le hzh hR.size
        clear hR hzh
        have hzh := hzh1
        clear hzh1
        obtain ⟨w8, rfl⟩ : ∃ z : World, z = W := ⟨_, rfl⟩
        have HN : Hid (¬ PAC l) := Lib.hid (fun p => HXE.out (by rw [← HREQ.out]; exact p.eq))
        go_wp2_with (with_reducible refine stop_store ?_)
        refine store_own [.string ByteArray.empty, .int .i64 0, .int .i64 0, .int .i64 0, .int .i64 0, .int .i64 0, .int .i64 0, .int .i64 0, .int .u32 0, .int .i64 0, .int .i64 0, .bool false, .bool false] HP.out rfl rfl rfl (by kernel_rfl) (by kernel_rfl) ?_
        intro w9 hO9 hg9 hz9
        have HP := Lib.hid hO9
        have HB := Lib.hid (HB.out.trans (gr_below hg9 w.heap.size HB.out.size (fun i h => by injection h with h; omega)))
        clear hO9 hg9 hz9
        have z0 := HP.out.1 0 _ rfl
        have z1 := HP.out.1 1 _ rfl
        have z2 := HP.out.1 2 _ rfl
        have z3 := HP.out.1 3 _ rfl
        have z4 := HP.out.1 4 _ rfl
        have z5 := HP.out.1 5 _ rfl
        have z6 := HP.out.1 6 _ rfl
        have z7 := HP.out.1 7 _ rfl
        have z8 := HP.out.1 8 _ rfl
        have z9 := HP.out.1 9 _ rfl
        have z10 := HP.out.1 10 _ rfl
        have z11 := HP.out.1 11 _ rfl
        have z12 := HP.out.1 12 _ rfl
        have hg := HP.out.2
        go_wp2_with (fail)
        refine bodyPost_ret (v := .tuple #[.agg #[.string ByteArray.empty, .int .i64 0, .int .i64 0, .int .i64 0, .int .i64 0, .int .i64 0, .int .i64 0, .int .i64 0, .int .u32 0, .int .i64 0, .int .i64 0, .bool false, .bool false], .int .i64 0]) (by simp [results, Tryd.results17, go_sem, z0, z1, z2, z3, z4, z5, z6, z7, z8, z9, z10, z11, z12] <;> rfl) rfl (.inr ⟨HN.out, rfl, HB.out⟩)
      rw [hxe] at HYB
      have HXE := Lib.hid hxe
      clear hxe
      refine Mono.region_below (by kernel_rfl) (by kernel_rfl) (by kernel_rfl) ?_
      refine Mono.rgl_val (v := ?vg11_0) rfl Mono.rr (fun ρ a W hR hd hf => ?hg11_0) ?_
      case hg11_0 =>
        have e8 := Mono.init_get hf (t := 8) (by kernel_rfl)
        clear hd hf
        (go_simp; try with_reducible rfl)
      refine Mono.rgl_val (v := ?vg11_1) rfl Mono.rr (fun ρ a W hR hd hf => ?hg11_1) ?_
      case hg11_1 =>
        have e107 := Mono.dep_val hd hf (t := 107) (k := 0) (by kernel_rfl) rfl
        clear hd hf
        (go_simp; try with_reducible rfl)
      refine Mono.rgl_val (v := ?vg11_2) rfl Mono.rr (fun ρ a W hR hd hf => ?hg11_2) ?_
      case hg11_2 =>
        have e0 := Mono.init_get hf (t := 0) (by kernel_rfl)
        clear hd hf
        (go_simp; try with_reducible rfl)
      refine Mono.rgl_val (v := ?vg11_3) rfl Mono.rr (fun ρ a W hR hd hf => ?hg11_3) ?_
      case hg11_3 =>
        have e109 := Mono.dep_val hd hf (t := 109) (k := 2) (by kernel_rfl) rfl
        clear hd hf
        (go_simp; try with_reducible rfl)
      refine Mono.rgl_val (v := ?vg11_4) rfl Mono.rr (fun ρ a W hR hd hf => ?hg11_4) ?_
      case hg11_4 =>
        have e108 := Mono.dep_val hd hf (t := 108) (k := 1) (by kernel_rfl) rfl
        have e110 := Mono.dep_val hd hf (t := 110) (k := 3) (by kernel_rfl) rfl
        clear hd hf
        (go_simp; try with_reducible rfl)
      refine Mono.rgl_val (v := ?vg11_5) rfl Mono.rr (fun ρ a W hR hd hf => ?hg11_5) ?_
      case hg11_5 =>
        have e111 := Mono.dep_val hd hf (t := 111) (k := 4) (by kernel_rfl) rfl
        clear hd hf
        (go_simp; try with_reducible rfl)
      refine Mono.rgl_valg (v := ?vg11_6) rfl Mono.rr (fun ρ W hd => Mono.guard_val hd (t := 112) (k := 5) (by kernel_rfl) rfl) (fun ρ a W hR hd hf => ?hg11_6) ?_
      case hg11_6 =>
        have e0 := Mono.init_get hf (t := 0) (by kernel_rfl)
        clear hd hf
        (go_simp; try with_reducible rfl)
      refine Mono.rgl_valg (v := ?vg11_7) rfl Mono.rr (fun ρ W hd => Mono.guard_val hd (t := 112) (k := 5) (by kernel_rfl) rfl) (fun ρ a W hR hd hf => ?hg11_7) ?_
      case hg11_7 =>
        have e8 := Mono.init_get hf (t := 8) (by kernel_rfl)
        clear hd hf
        (go_simp; try with_reducible rfl)
      refine Mono.rgl_valg (v := ?vg11_8) rfl Mono.rr (fun ρ W hd => Mono.guard_val hd (t := 112) (k := 5) (by kernel_rfl) rfl) (fun ρ a W hR hd hf => ?hg11_8) ?_
      case hg11_8 =>
        have e114 := Mono.dep_val hd hf (t := 114) (k := 7) (by kernel_rfl) rfl
        clear hd hf
        (go_simp; try with_reducible rfl)
      refine Mono.rgl_valg (v := ?vg11_9) rfl Mono.rr (fun ρ W hd => Mono.guard_val hd (t := 112) (k := 5) (by kernel_rfl) rfl) (fun ρ a W hR hd hf => ?hg11_9) ?_
      case hg11_9 =>
        have e113 := Mono.dep_val hd hf (t := 113) (k := 6) (by kernel_rfl) rfl
        have e115 := Mono.dep_val hd hf (t := 115) (k := 8) (by kernel_rfl) rfl
        have hs := HYS.out W
        clear hd hf
        (go_simp; try with_reducible rfl)
      refine Mono.rgl_valg (v := ?vg11_10) rfl Mono.rr (fun ρ W hd => Mono.guard_val hd (t := 112) (k := 5) (by kernel_rfl) rfl) (fun ρ a W hR hd hf => ?hg11_10) ?_
      case hg11_10 =>
        have e116 := Mono.dep_val hd hf (t := 116) (k := 9) (by kernel_rfl) rfl
        have hcv1 := convert_byt Tryd.underlying31 Tryd.underlying5 Tryd.underlying9 (HYB.out.below (hR.mono (by omega)))
        clear hd hf
        (go_simp; try with_reducible rfl)
      refine Mono.rgl_valg (v := ?vg11_11) rfl Mono.rr (fun ρ W hd => Mono.guard_val hd (t := 112) (k := 5) (by kernel_rfl) rfl) (fun ρ a W hR hd hf => ?hg11_11) ?_
      case hg11_11 =>
        have e8 := Mono.init_get hf (t := 8) (by kernel_rfl)
        clear hd hf
        (go_simp; try with_reducible rfl)
      refine Mono.rgl_valg (v := ?vg11_12) rfl Mono.rr (fun ρ W hd => Mono.guard_val hd (t := 112) (k := 5) (by kernel_rfl) rfl) (fun ρ a W hR hd hf => ?hg11_12) ?_
      case hg11_12 =>
        have e118 := Mono.dep_val hd hf (t := 118) (k := 11) (by kernel_rfl) rfl
        have hcv2 := convert_byt Tryd.underlying31 Tryd.underlying5 Tryd.underlying9 (HX.out.below hR)
        clear hd hf
        (go_simp; try with_reducible rfl)
      refine Mono.rgl_valg (v := ?vg11_13) rfl Mono.rr (fun ρ W hd => Mono.guard_val hd (t := 112) (k := 5) (by kernel_rfl) rfl) (fun ρ a W hR hd hf => ?hg11_13) ?_
      case hg11_13 =>
        have e117 := Mono.dep_val hd hf (t := 117) (k := 10) (by kernel_rfl) rfl
        have e119 := Mono.dep_val hd hf (t := 119) (k := 12) (by kernel_rfl) rfl
        clear hd hf
        (go_simp; try with_reducible rfl)
      refine Mono.rgl_val (v := ?vg11_14) rfl Mono.rr (fun ρ a W hR hd hf => ?hg11_14) ?_
      case hg11_14 =>
        have e112 := Mono.dep_val hd hf (t := 112) (k := 5) (by kernel_rfl) rfl
        have e120 := Mono.dep_val hd hf (t := 120) (k := 13) (by kernel_rfl) rfl
        clear hd hf
        (go_simp; try with_reducible rfl)
      refine Mono.rgl_done rfl (fun ρ W hR ht => ?_)
      obtain ⟨dg11_14, dg11_13, dg11_12, dg11_11, dg11_10, dg11_9, dg11_8, dg11_7, dg11_6, dg11_5, dg11_4, dg11_3, dg11_2, dg11_1, dg11_0, _⟩ := ht
      simp only [List.length_cons, List.length_nil, Nat.reduceAdd] at dg11_0 dg11_1 dg11_2 dg11_3 dg11_4 dg11_5 dg11_6 dg11_7 dg11_8 dg11_9 dg11_10 dg11_11 dg11_12 dg11_13 dg11_14
      simp only [Mono.putAll, Nat.reduceAdd, dg11_0, dg11_1, dg11_2, dg11_3, dg11_4, dg11_5, dg11_6, dg11_7, dg11_8, dg11_9, dg11_10, dg11_11, dg11_12, dg11_13, dg11_14, Act.put, List.setIfInBounds_toArray, List.set_cons_zero, List.set_cons_succ]
      clear dg11_0 dg11_1 dg11_2 dg11_3 dg11_4 dg11_5 dg11_6 dg11_7 dg11_8 dg11_9 dg11_10 dg11_11 dg11_12 dg11_13 dg11_14
      have HO := Lib.hid (HO.out.below hR hzh)
      have HP := Lib.hid (HP.out.below hR (by omega))
      have HB := Lib.hid (HB.out.trans (hR.mono (by omega)))
      have hzh1 : bh < W.heap.size := Nat.lt_of_lt_of_le hzh hR.size
      clear hR hzh
      have hzh := hzh1
      clear hzh1
      obtain ⟨w8, rfl⟩ : ∃ z : World, z = W := ⟨_, rfl⟩
      have HPAC : Hid (PAC l) := Lib.hid ⟨by rw [E26.out]; exact hn, by rw [E10.out, E12.out]; exact HOK.out.symm, (fun h => by rw [GW.out] at h; cases h), by rw [CE.out], (fun _ => by rw [E14.out, PK.out, SZ.out]; exact HZ.out), by rw [HREQ.out]; exact HXL.out, by rw [HREQ.out]; exact HXE.out⟩
      have HLEN : Hid (x.length = endOf l) := Lib.hid (by rw [← HREQ.out]; exact endOf_rec l (by rw [E26.out]; exact hn))
      have HEQ : Hid (.agg #[.string nm, .int .i64 t1, .int .i64 t2, .int .i64 t3, .int .i64 t4, .int .i64 t5, .int .i64 t6, .int .i64 (me : Nat), .int .u32 (cr : Nat), .int .i64 (pk : Nat), .int .i64 (sz : Nat), .bool false, .bool true] = hdrOf l) := Lib.hid (by
        have a1 := HPAC.out.acc
        have b1 := pk_le (fun h => (HPAC.out.wd h).2.2)
        have b2 := sz_le (fun h => (HPAC.out.wd h).2.1)
        unfold hdrOf hdrV
        rw [b1, b2, NM.out, E10.out, E12.out, E8.out, E14.out, PK.out, SZ.out, GW.out, GL.out, ET.out.1, ET.out.2.1, ET.out.2.2.1, ET.out.2.2.2.1, ET.out.2.2.2.2.1, ET.out.2.2.2.2.2])
      have k0 := HO.out.1 0 _ rfl
      have k1 := HO.out.1 1 _ rfl
      have k2 := HO.out.1 2 _ rfl
      have k3 := HO.out.1 3 _ rfl
      have k4 := HO.out.1 4 _ rfl
      have k5 := HO.out.1 5 _ rfl
      have k6 := HO.out.1 6 _ rfl
      have k7 := HO.out.1 7 _ rfl
      have k8 := HO.out.1 8 _ rfl
      have k9 := HO.out.1 9 _ rfl
      have k10 := HO.out.1 10 _ rfl
      have k11 := HO.out.1 11 _ rfl
      have k12 := HO.out.1 12 _ rfl
      go_wp2_with (with_reducible refine stop_store ?_)
      refine store_own [.string nm, .int .i64 t1, .int .i64 t2, .int .i64 t3, .int .i64 t4, .int .i64 t5, .int .i64 t6, .int .i64 (me : Nat), .int .u32 (cr : Nat), .int .i64 (pk : Nat), .int .i64 (sz : Nat), .bool false, .bool true] HP.out rfl rfl rfl (by kernel_rfl) (by kernel_rfl) ?_
      intro w9 hO9 hg9 hz9
      have HP := Lib.hid hO9
      have HB := Lib.hid (HB.out.trans (gr_below hg9 w.heap.size HB.out.size (fun i h => by injection h with h; omega)))
      clear hO9 hg9 hz9 k0 k1 k2 k3 k4 k5 k6 k7 k8 k9 k10 k11 k12
      have z0 := HP.out.1 0 _ rfl
      have z1 := HP.out.1 1 _ rfl
      have z2 := HP.out.1 2 _ rfl
      have z3 := HP.out.1 3 _ rfl
      have z4 := HP.out.1 4 _ rfl
      have z5 := HP.out.1 5 _ rfl
      have z6 := HP.out.1 6 _ rfl
      have z7 := HP.out.1 7 _ rfl
      have z8 := HP.out.1 8 _ rfl
      have z9 := HP.out.1 9 _ rfl
      have z10 := HP.out.1 10 _ rfl
      have z11 := HP.out.1 11 _ rfl
      have z12 := HP.out.1 12 _ rfl
      have hg := HP.out.2
      go_wp2_with (fail)
      refine bodyPost_ret (v := .tuple #[.agg #[.string nm, .int .i64 t1, .int .i64 t2, .int .i64 t3, .int .i64 t4, .int .i64 t5, .int .i64 t6, .int .i64 (me : Nat), .int .u32 (cr : Nat), .int .i64 (pk : Nat), .int .i64 (sz : Nat), .bool false, .bool true], .int .i64 (x.length : Nat)]) (by simp [results, Tryd.results17, go_sem, z0, z1, z2, z3, z4, z5, z6, z7, z8, z9, z10, z11, z12] <;> rfl) rfl (.inl ⟨HPAC.out, by rw [HEQ.out, HLEN.out], HB.out⟩)
end Go.Proofs.YtcpojpgdjjmfbaaDoor
