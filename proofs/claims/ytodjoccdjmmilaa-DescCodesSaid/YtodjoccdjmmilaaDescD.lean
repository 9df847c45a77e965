/- The law DescBack. -/
import Derived.Test.YtodjoccdjmmilaaDescC
import Derived.Test.YtodjoccdjmmilaaMonoS
namespace Go.Proofs.Ytodjoccdjmmilaa
open Go.RowKit
theorem Cells.set_ne {w : World} {b c : Nat} {cs : List Value} (h : Cells w b cs) (hc : c ≠ b) (k : Nat) (x : Value) : Cells (w.setCell ⟨c, k, none⟩ x) b cs :=
  fun j v hj => by rw [World.cell?_setCell_other _ _ _ _ (by simp <;> omega)]; exact h j v hj
theorem zeros_at (W : World) (k : Nat) : Byt (W.alloc (.cells (Array.replicate k (.int .u8 0)) 5)) (W.alloc (.cells (Array.replicate k (.int .u8 0)) 5)).heap.size (.slice (some ⟨W.heap.size, 0, none⟩) k k) (List.replicate k 0) := by
  refine .inr ⟨W.heap.size, 0, k, by simp, by simp, by simp, fun j hj => ?_⟩
  rw [World.cell?_alloc_at _ _ _ _ rfl]
  simp at hj
  simp [hj]
theorem zeros_byt (W : World) : Byt (W.alloc (.cells (Array.replicate 12 (.int .u8 0)) 5)) (W.alloc (.cells (Array.replicate 12 (.int .u8 0)) 5)).heap.size (.slice (some ⟨W.heap.size, 0, none⟩) 12 12) (List.replicate 12 0) := zeros_at W 12
theorem hmk (W : World) : (Instr.makeSlice 25 (.int .i64 12) (.int .i64 12)).run Try.prog W = .ok (.slice (some ⟨W.heap.size, 0, none⟩) 12 12) (W.alloc (.cells (Array.replicate 12 (.int .u8 0)) 5)) := by kernel_rfl
theorem Byt.cap {w : World} {B : Nat} {a : Option Addr} {n cap : Nat} {l : List UInt8} (h : Byt w B (.slice a n cap) l) : n = l.length ∧ l.length ≤ cap := by
  rcases h with ⟨a', cap', hv, rfl, _⟩ | ⟨b, off, cap', hv, hc, _⟩
  · injection hv with _ h2 _; exact ⟨h2, Nat.zero_le _⟩
  · injection hv with _ h2 h3; exact ⟨h2, by omega⟩
/-- A new block of a descriptor's cells. -/
def NewB (w : World) (v : Value) (W : World) : Prop := ∃ b, v = .pointer (some ⟨b, 0, none⟩) ∧ w.heap.size ≤ b ∧ b < W.heap.size ∧ Own W b [.int .u32 0, .int .i64 0, .int .i64 0, .bool false]
theorem hstNewB {w : World} : ∀ v W W', (fun v W => NewB w v W) v W → Below W.heap.size W W' → (fun v W => NewB w v W) v W' := by
  rintro v W W' ⟨b, h1, h2, h3, h4⟩ hb
  exact ⟨b, h1, h2, Nat.lt_of_lt_of_le h3 hb.size, h4.below hb h3⟩
theorem NewB.new {w W : World} (hR : Below w.heap.size w W) : NewB w (.pointer (some ⟨W.heap.size, 0, none⟩)) (W.alloc (.cells #[.int .u32 0, .int .i64 0, .int .i64 0, .bool false] 24)) :=
  ⟨_, rfl, hR.size, by simp, Own.new_at W [.int .u32 0, .int .i64 0, .int .i64 0, .bool false] 24 W.heap.size rfl⟩
set_option maxHeartbeats 1000000 in
theorem awake_any (w : World) : Calls Try.prog 5 #[] w fun e w' => e = .returned (.bool true) ∧ Below w.heap.size w w' := by
  have HE := Lib.hid (fun W => denc_yes 0 0 0 false W (by decide) (by decide))
  have HT : Hid (descBytes 0 0 0 false = [80, 75, 7, 8] ++ List.replicate 12 0) := Lib.hid (by decide)
  have hmk := hmk
  go_enter Try.func5, Try.ntmps5
  go_wp2_with fail
  refine (HE.out _).mono ?_
  rintro e w1 ⟨v, rfl, hy, hb⟩
  have HY := Lib.hid hy
  rw [HT.out] at HY
  have HB := Lib.hid hb
  clear hy hb
  go_wp2_with fail
  refine Mono.region_below (by kernel_rfl) (by kernel_rfl) (by kernel_rfl) ?_
  refine Mono.rgl_val (v := ?v0) rfl Mono.rr (fun ρ a W hR hd hf => ?h0) ?_
  case h0 =>
    have e2 := Mono.init_get hf (t := 2) (by kernel_rfl)
    clear hd hf
    (go_simp; try with_reducible rfl)
  refine Mono.rgl_val (v := ?v1) rfl Mono.rr (fun ρ a W hR hd hf => ?h1) ?_
  case h1 =>
    have e8 := Mono.dep_val hd hf (t := 8) (k := 0) (by kernel_rfl) rfl
    clear hd hf
    (go_simp; try with_reducible rfl)
  refine Mono.rgl_val (v := ?v2) rfl Mono.rr (fun ρ a W hR hd hf => ?h2) ?_
  case h2 =>
    have e9 := Mono.dep_val hd hf (t := 9) (k := 1) (by kernel_rfl) rfl
    clear hd hf
    (go_simp; try with_reducible rfl)
  refine Mono.rgl_valg (v := ?v3) rfl Mono.rr (fun ρ W hd => Mono.guard_val hd (t := 10) (k := 2) (by kernel_rfl) rfl) (fun ρ a W hR hd hf => ?h3) ?_
  case h3 =>
    have e1 := Mono.init_get hf (t := 1) (by kernel_rfl)
    clear hd hf
    (go_simp; try with_reducible rfl)
  refine Mono.rgl_valg (v := ?v4) rfl Mono.rr (fun ρ W hd => Mono.guard_val hd (t := 10) (k := 2) (by kernel_rfl) rfl) (fun ρ a W hR hd hf => ?h4) ?_
  case h4 =>
    have e11 := Mono.dep_val hd hf (t := 11) (k := 3) (by kernel_rfl) rfl
    have hcv := convert_byt (src := 25) (dst := 9) (e := 5) rfl rfl rfl ((HY.out.below hR).mono hR.size)
    clear hd hf
    (go_simp; try with_reducible rfl)
  refine Mono.rgl_predg (fun z W => Byt W W.heap.size z (List.replicate 12 0)) rfl hstB2 (fun ρ W hd => Mono.guard_val hd (t := 10) (k := 2) (by kernel_rfl) rfl) (fun ρ a W hR hd hf => ?h5) ?_
  case h5 =>
    clear hd hf
    exact ⟨_, _, by go_simp, (Below.refl _ _).alloc (Nat.le_refl _) _, zeros_byt W⟩
  refine Mono.rgl_valg (v := ?v6) rfl Mono.rr (fun ρ W hd => Mono.guard_val hd (t := 10) (k := 2) (by kernel_rfl) rfl) (fun ρ a W hR hd hf => ?h6) ?_
  case h6 =>
    obtain ⟨e13, d5⟩ := Mono.dep_get hd hf (t := 13) (k := 5) (by kernel_rfl)
    replace d5 : (fun z W => Byt W W.heap.size z (List.replicate 12 0)) (ρ 5) W := d5
    have hcv := convert_byt (src := 25) (dst := 9) (e := 5) rfl rfl rfl (d5)
    clear hd hf
    (go_simp; try with_reducible rfl)
  refine Mono.rgl_valg (v := .string (str ([80, 75, 7, 8] ++ List.replicate 12 0))) rfl Mono.rr (fun ρ W hd => Mono.guard_val hd (t := 10) (k := 2) (by kernel_rfl) rfl) (fun ρ a W hR hd hf => ?h7) ?_
  case h7 =>
    have e14 := Mono.dep_val hd hf (t := 14) (k := 6) (by kernel_rfl) rfl
    clear hd hf
    (go_simp; rw [if_neg (by decide)]; rfl)
  refine Mono.rgl_valg (v := .bool true) rfl Mono.rr (fun ρ W hd => Mono.guard_val hd (t := 10) (k := 2) (by kernel_rfl) rfl) (fun ρ a W hR hd hf => ?h8) ?_
  case h8 =>
    have e12 := Mono.dep_val hd hf (t := 12) (k := 4) (by kernel_rfl) rfl
    have e15 := Mono.dep_val hd hf (t := 15) (k := 7) (by kernel_rfl) rfl
    clear hd hf
    (go_simp; try rfl)
  refine Mono.rgl_val (v := ?v9) rfl Mono.rr (fun ρ a W hR hd hf => ?h9) ?_
  case h9 =>
    have e10 := Mono.dep_val hd hf (t := 10) (k := 2) (by kernel_rfl) rfl
    have e16 := Mono.dep_val hd hf (t := 16) (k := 8) (by kernel_rfl) rfl
    clear hd hf
    (go_simp; try with_reducible rfl)
  refine Mono.rgl_val (v := ?v10) rfl Mono.rr (fun ρ a W hR hd hf => ?h10) ?_
  case h10 =>
    have e17 := Mono.dep_val hd hf (t := 17) (k := 9) (by kernel_rfl) rfl
    clear hd hf
    (go_simp; try with_reducible rfl)
  refine Mono.rgl_val (v := ?v11) rfl Mono.rr (fun ρ a W hR hd hf => ?h11) ?_
  case h11 =>
    have e18 := Mono.dep_val hd hf (t := 18) (k := 10) (by kernel_rfl) rfl
    clear hd hf
    (go_simp; try with_reducible rfl)
  refine Mono.rgl_val (v := ?v12) rfl Mono.rr (fun ρ a W hR hd hf => ?h12) ?_
  case h12 =>
    have e19 := Mono.dep_val hd hf (t := 19) (k := 11) (by kernel_rfl) rfl
    clear hd hf
    (go_simp; try with_reducible rfl)
  refine Mono.rgl_done rfl (fun ρ W hR ht => ?_)
  obtain ⟨d12, d11, d10, d9, d8, d7, d6, d5, d4, d3, d2, d1, d0, _⟩ := ht
  replace d5 : (fun z W => Byt W W.heap.size z (List.replicate 12 0)) (ρ 5) W := d5
  simp only [List.length_cons, List.length_nil, Nat.reduceAdd] at d0 d1 d2 d3 d4 d6 d7 d8 d9 d10 d11 d12
  simp only [Mono.putAll, Nat.reduceAdd, d0, d1, d2, d3, d4, d6, d7, d8, d9, d10, d11, d12, Act.put, List.setIfInBounds_toArray, List.set_cons_zero, List.set_cons_succ]
  clear d0 d1 d2 d3 d4 d6 d7 d8 d9 d10 d11 d12
  generalize ρ 5 = r5 at *
  have HZ := Lib.hid (HB.out.trans (hR.mono HB.out.size))
  clear hR
  go_wp2
  go_ret
  exact ⟨rfl, HZ.out⟩
def lawQ (w : World) : Ending → World → Prop := fun e w' => e = .returned (.bool true) ∧ Below w.heap.size w w'
theorem rd_take (m : List UInt8) (k q n : Nat) (h : q + n ≤ k) : rd (m.take k) q n = rd m q n := by
  unfold rd
  rw [List.drop_take, List.take_take, Nat.min_eq_left (by omega)]
theorem rd_app (X Y : List UInt8) (q n : Nat) (h : q + n ≤ X.length) : rd (X ++ Y) q n = rd X q n := by
  unfold rd
  rw [List.drop_append_of_le_length (by omega), List.take_append_of_le_length (by rw [List.length_drop]; omega)]
theorem rd_byt {l : List UInt8} {q j v : Nat} (h : (l.drop q).take j = byt j v) (hv : v < 256 ^ j) : rd l q j = v := by
  unfold rd; rw [h, num_byt, Nat.mod_eq_of_lt hv]
theorem desc_rd (x p s : Nat) (g : Bool) (hx : x < 4294967296) (h : descB p s = true) : rd (descBytes x p s g) 0 4 = 134695760 ∧ rd (descBytes x p s g) 4 4 = x ∧ rd (descBytes x p s g) 8 (wd g) = p ∧ rd (descBytes x p s g) (8 + wd g) (wd g) = s := by
  have h' := of_decide_eq_true h
  cases g with
  | false => exact ⟨rd_byt (v := 134695760) rfl (by decide), rd_byt (v := x) rfl (by omega), rd_byt (j := 4) (v := p) rfl (by omega), rd_byt (j := 4) (v := s) rfl (by omega)⟩
  | true => exact ⟨rd_byt (v := 134695760) rfl (by decide), rd_byt (v := x) rfl (by omega), rd_byt (j := 8) (v := p) rfl (by omega), rd_byt (j := 8) (v := s) rfl (by omega)⟩
theorem desc_read (Y : List UInt8) (x p s : Nat) (g : Bool) (hx : x < 4294967296) (h : descB p s = true) (rb : Nat) (w : World) (hw : RD w rb ((descBytes x p s g ++ Y).take 24) 0) :
    Calls Try.prog 15 #[.pointer (some ⟨rb, 0, none⟩), .bool g] w fun e w' => e = .returned (.agg #[.int .u32 (x : Nat), .int .i64 (p : Nat), .int .i64 (s : Nat), .bool g]) ∧ RD w' rb ((descBytes x p s g ++ Y).take 24) (8 + wd g + wd g) ∧ Bx [rb] w.heap.size w w' := by
  have h' := of_decide_eq_true h
  have hwd := wd_bd g
  have hlen := descBytes_len x p s g
  obtain ⟨e1, e2, e3, e4⟩ := desc_rd x p s g hx h
  have r : ∀ q n, q + n ≤ 8 + 2 * wd g → rd ((descBytes x p s g ++ Y).take 24) q n = rd (descBytes x p s g) q n := fun q n hq => by
    rw [rd_take _ _ _ _ (by omega), rd_app _ _ _ _ (by omega)]
  have q1 : IntKind.i64.wrap (p : Int) = p := IntWalk.i64_in _ (by omega)
  have q2 : IntKind.i64.wrap (s : Int) = s := IntWalk.i64_in _ (by omega)
  have := dread_yes rb _ g w hw (by rw [List.length_take, List.length_append]; omega) (by rw [r _ _ (by omega)]; exact e1) (by rw [r _ _ (by omega), r _ _ (by omega), e3, e4, q1, q2]; exact h)
  rw [r _ _ (by omega), r _ _ (by omega), r _ _ (by omega), e2, e3, e4, q1, q2] at this
  exact this
set_option maxHeartbeats 1000000 in
theorem dback_none (x p s : Int) (g : Bool) (av bv : Value) (w : World) (h : descB p s = false) : Calls Try.prog 3 #[.agg #[.int .u32 x, .int .i64 p, .int .i64 s, .bool g], av, bv] w (lawQ w) := by
  have HE := Lib.hid (fun W => denc_no x p s g W h)
  clear h
  have HA := Lib.hid (Cells.new_at w [.int .u32 x, .int .i64 p, .int .i64 s, .bool g] 24 w.heap.size rfl)
  have HZ := Lib.hid ((Below.refl w.heap.size w).alloc (Nat.le_refl _) (.cells #[.int .u32 x, .int .i64 p, .int .i64 s, .bool g] 24))
  go_enter Try.func3, Try.ntmps3
  go_wp2_with fail
  refine (awake_any _).mono ?_
  rintro e w1 ⟨rfl, hb⟩
  have hs := hb.size
  simp only [World.size_alloc] at hs
  have HA := Lib.hid (HA.out.below hb (by simp))
  have HZ := Lib.hid (HZ.out.trans (hb.mono (by simp)))
  have hz0 : w.heap.size < w1.heap.size := by omega
  clear hb hs
  have k0 := HA.out 0 _ rfl
  have k1 := HA.out 1 _ rfl
  have k2 := HA.out 2 _ rfl
  have k3 := HA.out 3 _ rfl
  go_wp2_with fail
  refine (HE.out _).mono ?_
  rintro e w2 ⟨rfl, hb⟩
  have hs := hb.size
  have HA := Lib.hid (HA.out.below hb (by omega))
  have HZ := Lib.hid (HZ.out.trans (hb.mono (by omega)))
  have hz1 : w.heap.size < w2.heap.size := by omega
  clear hb hs hz0
  have hz0 := hz1
  clear hz1
  clear k0 k1 k2 k3
  go_wp2
  go_ret
  exact ⟨rfl, HZ.out⟩
set_option maxHeartbeats 1000000 in
theorem dback_long (x p s : Nat) (g : Bool) (a1 a2 : Option Addr) (n1 n2 c1 c2 : Nat) (w : World) (hx : x < 4294967296) (h : descB p s = true) (hl : 300 < n1 ∨ 300 < n2) : Calls Try.prog 3 #[.agg #[.int .u32 (x : Nat), .int .i64 (p : Nat), .int .i64 (s : Nat), .bool g], .slice a1 n1 c1, .slice a2 n2 c2] w (lawQ w) := by
  have HE := Lib.hid (fun W => denc_yes x p s g W hx h)
  by_cases h1 : 300 < n1
  · have t0 : decide (300 < (n1 : Int)) = true := by simp; omega
    clear h hl
    have HA := Lib.hid (Cells.new_at w [.int .u32 (x : Nat), .int .i64 (p : Nat), .int .i64 (s : Nat), .bool g] 24 w.heap.size rfl)
    have HZ := Lib.hid ((Below.refl w.heap.size w).alloc (Nat.le_refl _) (.cells #[.int .u32 (x : Nat), .int .i64 (p : Nat), .int .i64 (s : Nat), .bool g] 24))
    go_enter Try.func3, Try.ntmps3
    go_wp2_with fail
    refine (awake_any _).mono ?_
    rintro e w1 ⟨rfl, hb⟩
    have hs := hb.size
    simp only [World.size_alloc] at hs
    have HA := Lib.hid (HA.out.below hb (by simp))
    have HZ := Lib.hid (HZ.out.trans (hb.mono (by simp)))
    have hz0 : w.heap.size < w1.heap.size := by omega
    clear hb hs
    have k0 := HA.out 0 _ rfl
    have k1 := HA.out 1 _ rfl
    have k2 := HA.out 2 _ rfl
    have k3 := HA.out 3 _ rfl
    go_wp2_with fail
    refine (HE.out _).mono ?_
    rintro e w2 ⟨v, rfl, hv, hb⟩
    have hs := hb.size
    have HA := Lib.hid (HA.out.below hb (by omega))
    have HZ := Lib.hid (HZ.out.trans (hb.mono (by omega)))
    have hz1 : w.heap.size < w2.heap.size := by omega
    clear hv hb hs hz0
    have hz0 := hz1
    clear hz1
    clear k0 k1 k2 k3
    go_wp2
    go_ret
    exact ⟨rfl, HZ.out⟩
  · have t0 : decide (300 < (n1 : Int)) = false := by simp; omega
    have t1 : decide (300 < (n2 : Int)) = true := by simp; omega
    clear h hl h1
    have HA := Lib.hid (Cells.new_at w [.int .u32 (x : Nat), .int .i64 (p : Nat), .int .i64 (s : Nat), .bool g] 24 w.heap.size rfl)
    have HZ := Lib.hid ((Below.refl w.heap.size w).alloc (Nat.le_refl _) (.cells #[.int .u32 (x : Nat), .int .i64 (p : Nat), .int .i64 (s : Nat), .bool g] 24))
    go_enter Try.func3, Try.ntmps3
    go_wp2_with fail
    refine (awake_any _).mono ?_
    rintro e w1 ⟨rfl, hb⟩
    have hs := hb.size
    simp only [World.size_alloc] at hs
    have HA := Lib.hid (HA.out.below hb (by simp))
    have HZ := Lib.hid (HZ.out.trans (hb.mono (by simp)))
    have hz0 : w.heap.size < w1.heap.size := by omega
    clear hb hs
    have k0 := HA.out 0 _ rfl
    have k1 := HA.out 1 _ rfl
    have k2 := HA.out 2 _ rfl
    have k3 := HA.out 3 _ rfl
    go_wp2_with fail
    refine (HE.out _).mono ?_
    rintro e w2 ⟨v, rfl, hv, hb⟩
    have hs := hb.size
    have HA := Lib.hid (HA.out.below hb (by omega))
    have HZ := Lib.hid (HZ.out.trans (hb.mono (by omega)))
    have hz1 : w.heap.size < w2.heap.size := by omega
    clear hv hb hs hz0
    have hz0 := hz1
    clear hz1
    clear k0 k1 k2 k3
    go_wp2
    go_ret
    exact ⟨rfl, HZ.out⟩
set_option maxHeartbeats 2000000 in
theorem dback_yes (x p s : Nat) (g : Bool) (ad ab : Option Addr) (c cb : Nat) (A B : List UInt8) (w : World) (hx : x < 4294967296) (h : descB p s = true) (hA : Byt w w.heap.size (.slice ad A.length c) A) (hB : Byt w w.heap.size (.slice ab B.length cb) B) (hl : A.length ≤ 300) (hl2 : B.length ≤ 300) : Calls Try.prog 3 #[.agg #[.int .u32 (x : Nat), .int .i64 (p : Nat), .int .i64 (s : Nat), .bool g], .slice ad A.length c, .slice ab B.length cb] w (lawQ w) := by
  have hwd := wd_bd g
  have hlen := descBytes_len x p s g
  have HE := Lib.hid (fun W => denc_yes x p s g W hx h)
  have HPB : Hid (∀ (a : Option Addr) (c : Nat) (W : World), Byt W W.heap.size (.slice a ((A ++ descBytes x p s g) ++ B).length c) ((A ++ descBytes x p s g) ++ B) → ((A ++ descBytes x p s g) ++ B).length ≤ c → Calls Try.prog 7 #[.slice a ((A ++ descBytes x p s g) ++ B).length c, .int .i64 (A.length : Nat), .bool g] W fun e w' => e = .returned (.tuple #[.agg #[.int .u32 (x : Nat), .int .i64 (p : Nat), .int .i64 (s : Nat), .bool g], .int .i64 ((A.length : Int) + ((8 + wd g + wd g : Nat) : Int)), .int .i64 0]) ∧ Below W.heap.size W w') := Lib.hid (fun a c W hW hc => by
    refine dparse_yes a c _ A.length g W hW (by simp; omega) hc (by simp) _ _ _ _ (by omega) (fun rb w1 hw1 => ?_)
    rw [List.append_assoc, List.drop_left] at hw1 ⊢
    exact desc_read B x p s g hx h rb w1 hw1)
  obtain ⟨code, hcd, hcut⟩ : ∃ code : Int, code ≠ 0 ∧ ∀ (a : Option Addr) (c : Nat) (W : World), Byt W W.heap.size (.slice a ((descBytes x p s g).take (7 + 2 * wd g)).length c) ((descBytes x p s g).take (7 + 2 * wd g)) → ((descBytes x p s g).take (7 + 2 * wd g)).length ≤ c → Calls Try.prog 7 #[.slice a ((descBytes x p s g).take (7 + 2 * wd g)).length c, .int .i64 ((0 : Nat) : Int), .bool g] W fun e w' => e = .returned (.tuple #[.agg #[.int .u32 0, .int .i64 0, .int .i64 0, .bool false], .int .i64 0, .int .i64 code]) ∧ Below W.heap.size W w' := by
    obtain ⟨code, q, h1, h2⟩ := dread_fail ((((descBytes x p s g).take (7 + 2 * wd g)).drop 0).take 24) g (fun hk => by
      have := hk.1
      rw [List.length_take, List.length_drop, List.length_take] at this
      omega)
    exact ⟨code, h1, fun a c W hW hc => dparse_fail a c _ 0 g W hW (by rw [List.length_take]; omega) hc (Nat.zero_le _) code q h1 h2⟩
  have hlt : ((descBytes x p s g).take (7 + 2 * wd g)).length = 7 + 2 * wd g := by rw [List.length_take]; omega
  rw [hlt] at hcut
  have HCUT := Lib.hid hcut
  have tcd : (code != 0) = true := by simpa using hcd
  have HA0 := Lib.hid hA
  have HB0 := Lib.hid hB
  have t0 : decide (300 < (A.length : Int)) = false := by simp; omega
  have t1 : decide (300 < (B.length : Int)) = false := by simp; omega
  have HLEN := Lib.hid hlen
  have t2 : (((descBytes x p s g).length : Int) == 0) = false := by rw [beq_eq_false_iff_ne]; omega
  have hxl : (descBytes x p s g).length ≤ 24 := by omega
  have hxl2 : 16 ≤ (descBytes x p s g).length := by omega
  have HQE : Hid ((A.length : Int) + ((8 + wd g + wd g : Nat) : Int) = (A.length : Int) + ((descBytes x p s g).length : Int)) := Lib.hid (by omega)
  have HW1 : Hid (IntKind.i64.wrap (((descBytes x p s g).length : Int) - 1) = ((descBytes x p s g).length : Int) - 1) := Lib.hid (IntWalk.i64_in _ (by omega))
  have HW2 : Hid (((descBytes x p s g).length : Int) - 1 = ((7 + 2 * wd g : Nat) : Int)) := Lib.hid (by omega)
  rw [HQE.out] at HPB
  clear h hA hB hlen hcut hcd hlt HQE
  generalize descBytes x p s g = X at *
  rw [List.append_assoc] at HPB
  have HA := Lib.hid (Cells.new_at w [.int .u32 (x : Nat), .int .i64 (p : Nat), .int .i64 (s : Nat), .bool g] 24 w.heap.size rfl)
  have HZ := Lib.hid ((Below.refl w.heap.size w).alloc (Nat.le_refl _) (.cells #[.int .u32 (x : Nat), .int .i64 (p : Nat), .int .i64 (s : Nat), .bool g] 24))
  go_enter Try.func3, Try.ntmps3
  go_wp2_with fail
  refine (awake_any _).mono ?_
  rintro e w1 ⟨rfl, hb⟩
  have hs := hb.size
  simp only [World.size_alloc] at hs
  have HA := Lib.hid (HA.out.below hb (by simp))
  have HZ := Lib.hid (HZ.out.trans (hb.mono (by simp)))
  have hz0 : w.heap.size < w1.heap.size := by omega
  clear hb hs
  have k0 := HA.out 0 _ rfl
  have k1 := HA.out 1 _ rfl
  have k2 := HA.out 2 _ rfl
  have k3 := HA.out 3 _ rfl
  go_wp2_with fail
  refine (HE.out _).mono ?_
  rintro e w2 ⟨v, rfl, hv, hb⟩
  have hs := hb.size
  have HA := Lib.hid (HA.out.below hb (by omega))
  have HZ := Lib.hid (HZ.out.trans (hb.mono (by omega)))
  have HV := Lib.hid hv
  have hz1 : w.heap.size < w2.heap.size := by omega
  clear hv hb hs hz0
  have hz0 := hz1
  clear hz1
  clear k0 k1 k2 k3
  obtain ⟨av, cv, hve⟩ := HV.out.slice
  subst hve
  have hbe := (Below.refl w2.heap.size w2).alloc (Nat.le_refl _) (.cells #[] 5)
  have HO := Lib.hid (OB.empty w2 (Nat.le_refl w2.heap.size))
  have HIN2 := Lib.hid ((HA0.out.below (HZ.out.trans (hbe.mono (by omega)))))
  have HIN3 := Lib.hid ((HB0.out.below (HZ.out.trans (hbe.mono (by omega)))))
  have HV2 := Lib.hid (HV.out.below hbe)
  have HBE := Lib.hid hbe
  clear hbe
  go_wp2_with (at_builtin; refine append_OB rfl _ _ rfl rfl HO.out rfl HIN2.out (by first | omega | (simp; omega)) (by simp) ?_)
  intro va w3 ho hb
  have HO := Lib.hid ho
  have hs3 := hb.size
  simp only [World.size_alloc] at hs3
  have HV2 := Lib.hid (HV2.out.below hb)
  have HIN3 := Lib.hid (HIN3.out.below (hb.mono (by omega)))
  have HBE := Lib.hid (HBE.out.trans hb)
  clear ho hb
  go_wp2_with (at_builtin; refine append_OB rfl _ _ rfl rfl HO.out rfl HV2.out (by first | omega | (simp; omega)) (by omega) ?_)
  intro vb w4 ho hb
  have HO := Lib.hid ho
  have hs4 := hb.size
  have HIN3 := Lib.hid (HIN3.out.below (hb.mono (by omega)))
  have HBE := Lib.hid (HBE.out.trans hb)
  clear ho hb
  try simp only [List.nil_append] at HO
  go_wp2_with (at_builtin; refine append_OB rfl _ _ rfl rfl HO.out rfl HIN3.out (by rw [List.length_append]; omega) (by omega) ?_)
  intro vc w4b ho hb
  have HO := Lib.hid ho
  have hs4b := hb.size
  have HBE := Lib.hid (HBE.out.trans hb)
  clear ho hb
  have HV := Lib.hid ((HV.out.below HBE.out).mono (show w2.heap.size ≤ w4b.heap.size by omega))
  have HA := Lib.hid (HA.out.below HBE.out (by omega))
  have HZ := Lib.hid (HZ.out.trans (HBE.out.mono (by omega)))
  have hz1 : w.heap.size < w4b.heap.size := by omega
  clear hz0 hs3 HBE HV2 HIN2 HIN3
  have hz0 := hz1
  clear hz1
  try rw [List.append_assoc] at HO
  generalize A ++ (X ++ B) = AX at *
  obtain ⟨aa, ca, hva, hca⟩ := HO.out.form
  subst hva
  have k3 := HA.out 3 _ rfl
  go_wp2_with fail
  refine (HPB.out aa ca _ HO.out.byt hca).mono ?_
  rintro e w5 ⟨rfl, hb⟩
  have hs := hb.size
  have HA := Lib.hid (HA.out.below hb (by omega))
  have HZ := Lib.hid (HZ.out.trans (hb.mono (by omega)))
  have HV := Lib.hid ((HV.out.below hb).mono hb.size)
  have hz1 : w.heap.size < w5.heap.size := by omega
  clear hb hs hz0
  have hz0 := hz1
  clear hz1
  clear k3
  have HT := Lib.hid (Cells.new_at w5 [.int .u32 (x : Nat), .int .i64 (p : Nat), .int .i64 (s : Nat), .bool g] 24 w5.heap.size rfl)
  have hba := (Below.refl w5.heap.size w5).alloc (Nat.le_refl _) (.cells #[.int .u32 (x : Nat), .int .i64 (p : Nat), .int .i64 (s : Nat), .bool g] 24)
  have HA := Lib.hid (HA.out.below hba (by omega))
  have HV := Lib.hid (HV.out.below hba)
  have HZ := Lib.hid (HZ.out.trans (hba.mono (by omega)))
  have hlt : w5.heap.size < (w5.alloc (.cells #[.int .u32 (x : Nat), .int .i64 (p : Nat), .int .i64 (s : Nat), .bool g] 24)).heap.size := by simp
  clear hba
  go_upto_region 10 with (fail)
  generalize w5.alloc (.cells #[.int .u32 (x : Nat), .int .i64 (p : Nat), .int .i64 (s : Nat), .bool g] 24) = w8 at *
  have HV8 : Hid (Byt w8 w8.heap.size (.slice av X.length cv) X) := Lib.hid (HV.out.mono (by omega))
  generalize w5.heap.size = b5 at *
  obtain ⟨hav, hcv⟩ := HV8.out.cap
  have hsl := fun W => slice_h (t := 25) (e := 5) (size := 1) rfl size_u8 av X.length cv ((X.length : Int) - 1) (by omega) (by omega) W
  have hsb := sub_byt HV8.out 0 (7 + 2 * wd g) (by have := HLEN.out; omega)
  rw [HW2.out, Int.toNat_natCast] at hsl
  rw [List.drop_zero] at hsb
  simp only [Nat.sub_zero] at hsl hsb
  have hca2 : 7 + 2 * wd g ≤ cv := by have := HLEN.out; omega
  rw [← HW2.out] at hsl
  have HSB := Lib.hid hsb
  have HSL := Lib.hid hsl
  clear hsl hsb hav
  have HPC : Hid (∀ W : World, Below w8.heap.size w8 W → Calls Try.prog 7 #[.slice (if cv = 0 then av else av.map (·.add (0 * 1))) (7 + 2 * wd g) cv, .int .i64 0, .bool g] W fun e w' => e = .returned (.tuple #[.agg #[.int .u32 0, .int .i64 0, .int .i64 0, .bool false], .int .i64 0, .int .i64 code]) ∧ Below W.heap.size W w') := Lib.hid (fun W hR => HCUT.out _ _ W ((HSB.out.below hR).mono hR.size) hca2)
  generalize Value.slice (if cv = 0 then av else av.map (·.add (0 * 1))) (7 + 2 * wd g) cv = S0 at *
  clear HSB HCUT
  refine Mono.region_new w8.heap.size (by kernel_rfl) (by kernel_rfl) (by kernel_rfl) ?_
  refine Mono.rgl_val (v := ?v0) rfl (Mono.rnr w8.heap.size) (fun ρ a W hR hd hf => ?h0) ?_
  case h0 =>
    have e7 := Mono.init_get hf (t := 7) (by kernel_rfl)
    replace hR := hR.1
    clear hd hf
    (go_simp; try with_reducible rfl)
  refine Mono.rgl_val (v := ?v1) rfl (Mono.rnr w8.heap.size) (fun ρ a W hR hd hf => ?h1) ?_
  case h1 =>
    have e7 := Mono.init_get hf (t := 7) (by kernel_rfl)
    replace hR := hR.1
    clear hd hf
    (go_simp; try with_reducible rfl)
  refine Mono.rgl_val (v := ?v2) rfl (Mono.rnr w8.heap.size) (fun ρ a W hR hd hf => ?h2) ?_
  case h2 =>
    have e57 := Mono.dep_val hd hf (t := 57) (k := 1) (by kernel_rfl) rfl
    replace hR := hR.1
    clear hd hf
    (go_simp; try with_reducible rfl)
  refine Mono.rgl_val (v := ?v3) rfl (Mono.rnr w8.heap.size) (fun ρ a W hR hd hf => ?h3) ?_
  case h3 =>
    have e58 := Mono.dep_val hd hf (t := 58) (k := 2) (by kernel_rfl) rfl
    replace hR := hR.1
    have hw := HW1.out
    clear hd hf
    (go_simp; try with_reducible rfl)
  refine Mono.rgl_val (v := S0) rfl (Mono.rnr w8.heap.size) (fun ρ a W hR hd hf => ?h4) ?_
  case h4 =>
    have e56 := Mono.dep_val hd hf (t := 56) (k := 0) (by kernel_rfl) rfl
    have e59 := Mono.dep_val hd hf (t := 59) (k := 3) (by kernel_rfl) rfl
    replace hR := hR.1
    have hsl := HSL.out W
    clear hd hf
    (go_simp)
  refine Mono.rgl_val (v := ?v5) rfl (Mono.rnr w8.heap.size) (fun ρ a W hR hd hf => ?h5) ?_
  case h5 =>
    have e3 := Mono.init_get hf (t := 3) (by kernel_rfl)
    replace hR := hR.1
    clear hd hf
    (go_simp; try with_reducible rfl)
  refine Mono.rgl_val (v := ?v6) rfl (Mono.rnr w8.heap.size) (fun ρ a W hR hd hf => ?h6) ?_
  case h6 =>
    have e61 := Mono.dep_val hd hf (t := 61) (k := 5) (by kernel_rfl) rfl
    replace hR := hR.1
    have hk := (HA.out.below hR (by omega) : Cells W _ _) 3 _ rfl
    clear hd hf
    (go_simp; try with_reducible rfl)
  refine Mono.rgl_call (fun x _ => x = .tuple #[.agg #[.int .u32 0, .int .i64 0, .int .i64 0, .bool false], .int .i64 0, .int .i64 code]) rfl (Mono.rnr w8.heap.size) (fun _ _ _ h _ => h) (fun ρ a W hR hd hf => ?h7) ?_
  case h7 =>
    have e60 := Mono.dep_val hd hf (t := 60) (k := 4) (by kernel_rfl) rfl
    have e62 := Mono.dep_val hd hf (t := 62) (k := 6) (by kernel_rfl) rfl
    replace hR := hR.1
    clear hd hf
    refine ⟨_, _, by go_simp; first | rfl | exact ⟨rfl, rfl⟩, ?_⟩
    exact (HPC.out W hR).mono (fun e W' ⟨he, hb⟩ => ⟨_, he, Mono.RN.of_below hb hR.size, rfl⟩)
  refine Mono.rgl_val (v := ?v8) rfl (Mono.rnr w8.heap.size) (fun ρ a W hR hd hf => ?h8) ?_
  case h8 =>
    have e63 := Mono.dep_val hd hf (t := 63) (k := 7) (by kernel_rfl) rfl
    replace hR := hR.1
    clear hd hf
    (go_simp; try with_reducible rfl)
  refine Mono.rgl_val (v := ?v9) rfl (Mono.rnr w8.heap.size) (fun ρ a W hR hd hf => ?h9) ?_
  case h9 =>
    have e55 := Mono.dep_val hd hf (t := 55) (k := 8) (by kernel_rfl) rfl
    replace hR := hR.1
    clear hd hf
    (go_simp; try with_reducible rfl)
  refine Mono.rgl_val (v := ?v10) rfl (Mono.rnr w8.heap.size) (fun ρ a W hR hd hf => ?h10) ?_
  case h10 =>
    have e55 := Mono.dep_val hd hf (t := 55) (k := 8) (by kernel_rfl) rfl
    replace hR := hR.1
    clear hd hf
    (go_simp; try with_reducible rfl)
  refine Mono.rgl_val (v := ?v11) rfl (Mono.rnr w8.heap.size) (fun ρ a W hR hd hf => ?h11) ?_
  case h11 =>
    have e55 := Mono.dep_val hd hf (t := 55) (k := 8) (by kernel_rfl) rfl
    replace hR := hR.1
    clear hd hf
    (go_simp; try with_reducible rfl)
  refine Mono.rgl_pred (fun v W => Mono.NewS w8.heap.size 4 v W) rfl Mono.hstNewS (fun ρ a W hR hd hf => ?h12) ?_
  case h12 =>
    replace hR := hR.1
    clear hd hf
    exact ⟨_, _, by go_simp, Mono.RN.of_below ((Below.refl _ _).alloc (Nat.le_refl _) _) hR.size, Mono.NewS.new hR.size #[.int .u32 0, .int .i64 0, .int .i64 0, .bool false] 24 4 rfl⟩
  refine Mono.rgl_store rfl (fun ρ a W hR hd hf => ?h13) ?_
  case h13 =>
    obtain ⟨e13, d12⟩ := Mono.dep_get hd hf (t := 13) (k := 12) (by kernel_rfl)
    replace d12 : (fun v W => Mono.NewS w8.heap.size 4 v W) (ρ 12) W := d12
    have e64 := Mono.dep_val hd hf (t := 64) (k := 9) (by kernel_rfl) rfl
    replace hR := hR.1
    clear hd hf
    obtain ⟨bn, hv, hBb, cs, hcl, hO⟩ := d12.own
    rw [hv] at e13
    match cs, hcl with
    | [c0, c1, c2, c3], _ =>
      have y0 := hO.1 0 _ rfl
      have y1 := hO.1 1 _ rfl
      have y2 := hO.1 2 _ rfl
      have y3 := hO.1 3 _ rfl
      have hfz := hO.2
      exact ⟨undef, _, .inl (by go_simp), ((((Mono.rnr _ W).setCell hBb 0 (.int .u32 0)).setCell hBb 1 (.int .i64 0)).setCell hBb 2 (.int .i64 0)).setCell hBb 3 (.bool false)⟩
  refine Mono.rgl_val (v := ?v14) rfl (Mono.rnr w8.heap.size) (fun ρ a W hR hd hf => ?h14) ?_
  case h14 =>
    have e65 := Mono.dep_val hd hf (t := 65) (k := 10) (by kernel_rfl) rfl
    replace hR := hR.1
    clear hd hf
    (go_simp; try with_reducible rfl)
  refine Mono.rgl_val (v := ?v15) rfl (Mono.rnr w8.heap.size) (fun ρ a W hR hd hf => ?h15) ?_
  case h15 =>
    have e66 := Mono.dep_val hd hf (t := 66) (k := 11) (by kernel_rfl) rfl
    replace hR := hR.1
    clear hd hf
    (go_simp; try with_reducible rfl)
  refine Mono.rgl_done rfl (fun ρ W hR ht => ?_)
  obtain ⟨d15, d14, d13, d12, d11, d10, d9, d8, d7, d6, d5, d4, d3, d2, d1, d0, _⟩ := ht
  replace d12 : (fun v W => Mono.NewS w8.heap.size 4 v W) (ρ 12) W := d12
  simp only [List.length_cons, List.length_nil, Nat.reduceAdd] at d0 d1 d2 d3 d4 d5 d6 d7 d8 d9 d10 d11 d14 d15
  simp only [Mono.putAll, Nat.reduceAdd, d0, d1, d2, d3, d4, d5, d6, d7, d8, d9, d10, d11, d14, d15, Act.put, List.setIfInBounds_toArray, List.set_cons_zero, List.set_cons_succ]
  clear d0 d1 d2 d3 d4 d5 d6 d7 d8 d9 d10 d11 d14 d15
  generalize ρ 12 = r12 at *
  replace hR := hR.1
  have HA := Lib.hid (HA.out.below hR (by omega))
  have HT := Lib.hid (HT.out.below hR (by omega))
  have HZ := Lib.hid (HZ.out.trans (hR.mono (by omega)))
  clear hR HPC HSL d12
  have k0 := HA.out 0 _ rfl
  have k1 := HA.out 1 _ rfl
  have k2 := HA.out 2 _ rfl
  have k3 := HA.out 3 _ rfl
  have y0 := HT.out 0 _ rfl
  have y1 := HT.out 1 _ rfl
  have y2 := HT.out 2 _ rfl
  have y3 := HT.out 3 _ rfl
  go_wp2
  go_ret
  exact ⟨rfl, HZ.out⟩
theorem dback_walk (x p s : Int) (g : Bool) (ad ab : Option Addr) (c cb : Nat) (A B : List UInt8) (w : World) (hx : 0 ≤ x ∧ x ≤ 4294967295) (hA : Byt w w.heap.size (.slice ad A.length c) A) (hB : Byt w w.heap.size (.slice ab B.length cb) B) : Calls Try.prog 3 #[.agg #[.int .u32 x, .int .i64 p, .int .i64 s, .bool g], .slice ad A.length c, .slice ab B.length cb] w fun e w' => e = .returned (.bool true) ∧ Below w.heap.size w w' := by
  cases h : descB p s with
  | false => exact dback_none x p s g _ _ w h
  | true =>
    have h' := of_decide_eq_true h
    obtain ⟨x, rfl⟩ : ∃ y : Nat, x = y := ⟨x.toNat, by omega⟩
    obtain ⟨p, rfl⟩ : ∃ y : Nat, p = y := ⟨p.toNat, by omega⟩
    obtain ⟨s, rfl⟩ : ∃ y : Nat, s = y := ⟨s.toNat, by omega⟩
    by_cases hl : A.length ≤ 300 ∧ B.length ≤ 300
    · exact dback_yes x p s g ad ab c cb A B w (by omega) h hA hB hl.1 hl.2
    · exact dback_long x p s g ad ab A.length B.length c cb w (by omega) h (by omega)
end Go.Proofs.Ytodjoccdjmmilaa
