/- Contracts of the page's wide, ends and Parse. -/
import Derived.Test.YtfdbgbdiacpmhaaFinD
namespace Go.Proofs.Ytfdbgbdiacpmhaa
open Go.RowKit
def tW (v : Nat) : Int := if v < 1099511627776 then v else -1
theorem wideN_any {w : World} {B : Nat} {u : Value} {l : List UInt8} (h : Byt w B u l) (hl : l.length ≤ 8) : Calls Try.prog 20 #[u] w fun e w' => e = .returned (.int .i64 (tW (num l))) ∧ w' = w := by
  have HN := Lib.hid (refNumber_B h hl)
  clear h
  have HW : Hid (tW (num l) = if num l < 1099511627776 then (num l : Int) else -1) := Lib.hid rfl
  generalize num l = v at *
  by_cases hv : v < 1099511627776
  · have HT := HW.out
    rw [if_pos hv] at HT
    have HT := Lib.hid HT
    have t : decide ((v : Int) < 1099511627776) = true := by simp; omega
    have q : IntKind.i64.wrap (v : Int) = v := IntWalk.i64_in _ (by omega)
    go_enter Try.func20, Try.ntmps20
    go_wp2_with fail
    refine HN.out.mono ?_
    rintro e w' ⟨rfl, rfl⟩
    go_wp2
    go_ret
    exact ⟨by rw [HT.out]; rfl, rfl⟩
  · have HT := HW.out
    rw [if_neg hv] at HT
    have HT := Lib.hid HT
    have t : decide ((v : Int) < 1099511627776) = false := by simp; omega
    clear hv
    go_enter Try.func20, Try.ntmps20
    go_wp2_with fail
    refine HN.out.mono ?_
    rintro e w' ⟨rfl, rfl⟩
    go_wp2
    go_ret
    exact ⟨by rw [HT.out]; rfl, rfl⟩
theorem tailBytes_len (n s k : Int) (g : Bool) : (tailBytes n s k g).length = if g then 98 else 22 := by cases g <;> rfl
theorem tailBytes_le (n s k : Int) (g : Bool) : (tailBytes n s k g).length ≤ 200 := by rw [tailBytes_len]; cases g <;> decide
theorem ends_no (ad : Option Addr) (c : Nat) (l : List UInt8) (w : World) (h : Byt w w.heap.size (.slice ad l.length c) l) (hl : l.length ≤ 100000) (hc : l.length ≤ c) (n s k : Int) (g : Bool) (ht : tailB n s k = false) : Calls Try.prog 21 #[.slice ad l.length c, .agg #[.int .i64 n, .int .i64 s, .int .i64 k, .bool g]] w fun e w' => e = .returned (.bool false) ∧ Below w.heap.size w w' := by
  have HC := Lib.hid (fun W => refCheck_any n s k g W)
  rw [ht] at HC
  clear ht h
  have HB := Lib.hid ((Below.refl w.heap.size w).alloc (Nat.le_refl _) (.cells #[.int .i64 n, .int .i64 s, .int .i64 k, .bool g] 30))
  go_enter Try.func21, Try.ntmps21
  go_wp2_with fail
  refine (HC.out _).mono ?_
  rintro e w1 ⟨rfl, hb⟩
  have HB := Lib.hid (HB.out.trans (hb.mono (by simp)))
  clear hb
  go_wp2
  go_ret
  exact ⟨rfl, HB.out⟩
set_option maxHeartbeats 1000000 in
theorem ends_yes (ad : Option Addr) (c : Nat) (l : List UInt8) (w : World) (h : Byt w w.heap.size (.slice ad l.length c) l) (hl : l.length ≤ 100000) (hc : l.length ≤ c) (n s k : Nat) (g : Bool) (ht : tailB n s k = true) (hle : (tailBytes n s k g).length ≤ l.length) (hq : l.drop (l.length - (tailBytes n s k g).length) = tailBytes n s k g) : Calls Try.prog 21 #[.slice ad l.length c, .agg #[.int .i64 (n : Nat), .int .i64 (s : Nat), .int .i64 (k : Nat), .bool g]] w fun e w' => e = .returned (.bool true) ∧ Below w.heap.size w w' := by
  have HC := Lib.hid (fun W => refCheck_any n s k g W)
  have HE := Lib.hid (fun W => refEnc_yes n s k g W ht)
  rw [ht] at HC
  have hlx : (tailBytes n s k g).length ≤ 200 := tailBytes_le n s k g
  have hw : IntKind.i64.wrap ((l.length : Int) - ((tailBytes n s k g).length : Int)) = (l.length : Int) - ((tailBytes n s k g).length : Int) := IntWalk.i64_in _ (by omega)
  have hsl := fun W => slice_l (t := 25) (e := 5) (size := 1) rfl size_u8 ad l.length c ((l.length : Int) - ((tailBytes n s k g).length : Int)) (by omega) (by omega) W
  have hsb := sub_byt h (l.length - (tailBytes n s k g).length) (l.length - (l.length - (tailBytes n s k g).length)) (by omega)
  rw [show ((l.length : Int) - ((tailBytes n s k g).length : Int)).toNat = l.length - (tailBytes n s k g).length from by omega] at hsl
  rw [List.take_of_length_le (by rw [List.length_drop]; omega)] at hsb
  generalize Value.slice (if c = l.length - (tailBytes n s k g).length then ad else ad.map (·.add ((l.length - (tailBytes n s k g).length) * 1))) (l.length - (l.length - (tailBytes n s k g).length)) (c - (l.length - (tailBytes n s k g).length)) = S at *
  have HSB := Lib.hid hsb
  clear hsb
  have HQ := Lib.hid hq
  clear hq
  have HH := Lib.hid h
  clear ht h
  have HA := Lib.hid (Cells.new_at w [.int .i64 (n : Nat), .int .i64 (s : Nat), .int .i64 (k : Nat), .bool g] 30 w.heap.size rfl)
  have HB := Lib.hid ((Below.refl w.heap.size w).alloc (Nat.le_refl _) (.cells #[.int .i64 (n : Nat), .int .i64 (s : Nat), .int .i64 (k : Nat), .bool g] 30))
  generalize tailBytes n s k g = X at *
  go_enter Try.func21, Try.ntmps21
  go_wp2_with fail
  refine (HC.out _).mono ?_
  rintro e w1 ⟨rfl, hb⟩
  have hs := hb.size
  simp only [World.size_alloc] at hs
  have HA := Lib.hid (HA.out.below hb (by simp))
  have HB := Lib.hid (HB.out.trans (hb.mono (by simp)))
  clear hb
  have k0 := HA.out 0 _ rfl
  have k1 := HA.out 1 _ rfl
  have k2 := HA.out 2 _ rfl
  have k3 := HA.out 3 _ rfl
  go_wp2_with fail
  refine (HE.out _).mono ?_
  rintro e w2 ⟨v, rfl, ho, hb⟩
  have HV := Lib.hid ho.byt
  have HB := Lib.hid (HB.out.trans (hb.mono (by omega)))
  clear hb ho k0 k1 k2 k3
  obtain ⟨av, cv, he⟩ := HV.out.slice
  subst he
  go_wp2_with fail
  refine Mono.region_below (by kernel_rfl) (by kernel_rfl) (by kernel_rfl) ?_
  refine Mono.rgl_val (v := ?v0) rfl Mono.rr (fun ρ a W hR hd hf => ?h0) ?_
  case h0 =>
    have e5 := Mono.init_get hf (t := 5) (by kernel_rfl)
    clear hd hf
    (go_simp; try with_reducible rfl)
  refine Mono.rgl_val (v := ?v1) rfl Mono.rr (fun ρ a W hR hd hf => ?h1) ?_
  case h1 =>
    have e11 := Mono.dep_val hd hf (t := 11) (k := 0) (by kernel_rfl) rfl
    clear hd hf
    (go_simp; try with_reducible rfl)
  refine Mono.rgl_val (v := ?v2) rfl Mono.rr (fun ρ a W hR hd hf => ?h2) ?_
  case h2 =>
    have e0 := Mono.init_get hf (t := 0) (by kernel_rfl)
    clear hd hf
    (go_simp; try with_reducible rfl)
  refine Mono.rgl_val (v := ?v3) rfl Mono.rr (fun ρ a W hR hd hf => ?h3) ?_
  case h3 =>
    have e13 := Mono.dep_val hd hf (t := 13) (k := 2) (by kernel_rfl) rfl
    clear hd hf
    (go_simp; try with_reducible rfl)
  refine Mono.rgl_val (v := .bool true) rfl Mono.rr (fun ρ a W hR hd hf => ?h4) ?_
  case h4 =>
    have e12 := Mono.dep_val hd hf (t := 12) (k := 1) (by kernel_rfl) rfl
    have e14 := Mono.dep_val hd hf (t := 14) (k := 3) (by kernel_rfl) rfl
    clear hd hf
    (go_simp)
  refine Mono.rgl_val (v := ?v5) rfl Mono.rr (fun ρ a W hR hd hf => ?h5) ?_
  case h5 =>
    have e15 := Mono.dep_val hd hf (t := 15) (k := 4) (by kernel_rfl) rfl
    clear hd hf
    (go_simp; try with_reducible rfl)
  refine Mono.rgl_valg (v := ?v6) rfl Mono.rr (fun ρ W hd => Mono.guard_val hd (t := 16) (k := 5) (by kernel_rfl) rfl) (fun ρ a W hR hd hf => ?h6) ?_
  case h6 =>
    have e0 := Mono.init_get hf (t := 0) (by kernel_rfl)
    clear hd hf
    (go_simp; try with_reducible rfl)
  refine Mono.rgl_valg (v := ?v7) rfl Mono.rr (fun ρ W hd => Mono.guard_val hd (t := 16) (k := 5) (by kernel_rfl) rfl) (fun ρ a W hR hd hf => ?h7) ?_
  case h7 =>
    have e0 := Mono.init_get hf (t := 0) (by kernel_rfl)
    clear hd hf
    (go_simp; try with_reducible rfl)
  refine Mono.rgl_valg (v := ?v8) rfl Mono.rr (fun ρ W hd => Mono.guard_val hd (t := 16) (k := 5) (by kernel_rfl) rfl) (fun ρ a W hR hd hf => ?h8) ?_
  case h8 =>
    have e18 := Mono.dep_val hd hf (t := 18) (k := 7) (by kernel_rfl) rfl
    clear hd hf
    (go_simp; try with_reducible rfl)
  refine Mono.rgl_valg (v := ?v9) rfl Mono.rr (fun ρ W hd => Mono.guard_val hd (t := 16) (k := 5) (by kernel_rfl) rfl) (fun ρ a W hR hd hf => ?h9) ?_
  case h9 =>
    have e5 := Mono.init_get hf (t := 5) (by kernel_rfl)
    clear hd hf
    (go_simp; try with_reducible rfl)
  refine Mono.rgl_valg (v := ?v10) rfl Mono.rr (fun ρ W hd => Mono.guard_val hd (t := 16) (k := 5) (by kernel_rfl) rfl) (fun ρ a W hR hd hf => ?h10) ?_
  case h10 =>
    have e20 := Mono.dep_val hd hf (t := 20) (k := 9) (by kernel_rfl) rfl
    clear hd hf
    (go_simp; try with_reducible rfl)
  refine Mono.rgl_valg (v := ?v11) rfl Mono.rr (fun ρ W hd => Mono.guard_val hd (t := 16) (k := 5) (by kernel_rfl) rfl) (fun ρ a W hR hd hf => ?h11) ?_
  case h11 =>
    have e19 := Mono.dep_val hd hf (t := 19) (k := 8) (by kernel_rfl) rfl
    have e21 := Mono.dep_val hd hf (t := 21) (k := 10) (by kernel_rfl) rfl
    clear hd hf
    (go_simp; try with_reducible rfl)
  refine Mono.rgl_valg (v := ?v12) rfl Mono.rr (fun ρ W hd => Mono.guard_val hd (t := 16) (k := 5) (by kernel_rfl) rfl) (fun ρ a W hR hd hf => ?h12) ?_
  case h12 =>
    have e17 := Mono.dep_val hd hf (t := 17) (k := 6) (by kernel_rfl) rfl
    have e22 := Mono.dep_val hd hf (t := 22) (k := 11) (by kernel_rfl) rfl
    clear hd hf
    (go_simp; try with_reducible rfl)
  refine Mono.rgl_valg (v := ?v13) rfl Mono.rr (fun ρ W hd => Mono.guard_val hd (t := 16) (k := 5) (by kernel_rfl) rfl) (fun ρ a W hR hd hf => ?h13) ?_
  case h13 =>
    have e23 := Mono.dep_val hd hf (t := 23) (k := 12) (by kernel_rfl) rfl
    have hcv := convert_byt (src := 25) (dst := 9) (e := 5) rfl rfl rfl ((HSB.out.below HB.out).below (hR.mono HB.out.size))
    clear hd hf
    (go_simp; try with_reducible rfl)
  refine Mono.rgl_valg (v := ?v14) rfl Mono.rr (fun ρ W hd => Mono.guard_val hd (t := 16) (k := 5) (by kernel_rfl) rfl) (fun ρ a W hR hd hf => ?h14) ?_
  case h14 =>
    have e5 := Mono.init_get hf (t := 5) (by kernel_rfl)
    clear hd hf
    (go_simp; try with_reducible rfl)
  refine Mono.rgl_valg (v := ?v15) rfl Mono.rr (fun ρ W hd => Mono.guard_val hd (t := 16) (k := 5) (by kernel_rfl) rfl) (fun ρ a W hR hd hf => ?h15) ?_
  case h15 =>
    have e25 := Mono.dep_val hd hf (t := 25) (k := 14) (by kernel_rfl) rfl
    have hcv := convert_byt (src := 25) (dst := 9) (e := 5) rfl rfl rfl ((HV.out.below hR))
    clear hd hf
    (go_simp; try with_reducible rfl)
  refine Mono.rgl_valg (v := .bool true) rfl Mono.rr (fun ρ W hd => Mono.guard_val hd (t := 16) (k := 5) (by kernel_rfl) rfl) (fun ρ a W hR hd hf => ?h16) ?_
  case h16 =>
    have e24 := Mono.dep_val hd hf (t := 24) (k := 13) (by kernel_rfl) rfl
    have e26 := Mono.dep_val hd hf (t := 26) (k := 15) (by kernel_rfl) rfl
    clear hd hf
    (go_simp; rw [ByteArray.toList_eq, ByteArray.toList_eq]; exact congrArg (fun x => (str x).data.toList) HQ.out)
  refine Mono.rgl_val (v := ?v17) rfl Mono.rr (fun ρ a W hR hd hf => ?h17) ?_
  case h17 =>
    have e16 := Mono.dep_val hd hf (t := 16) (k := 5) (by kernel_rfl) rfl
    have e27 := Mono.dep_val hd hf (t := 27) (k := 16) (by kernel_rfl) rfl
    clear hd hf
    (go_simp; try with_reducible rfl)
  refine Mono.rgl_val (v := ?v18) rfl Mono.rr (fun ρ a W hR hd hf => ?h18) ?_
  case h18 =>
    have e28 := Mono.dep_val hd hf (t := 28) (k := 17) (by kernel_rfl) rfl
    clear hd hf
    (go_simp; try with_reducible rfl)
  refine Mono.rgl_done rfl (fun ρ W hR ht => ?_)
  obtain ⟨d18, d17, d16, d15, d14, d13, d12, d11, d10, d9, d8, d7, d6, d5, d4, d3, d2, d1, d0, _⟩ := ht
  simp only [List.length_cons, List.length_nil, Nat.reduceAdd] at d0 d1 d2 d3 d4 d5 d6 d7 d8 d9 d10 d11 d12 d13 d14 d15 d16 d17 d18
  simp only [Mono.putAll, Nat.reduceAdd, d0, d1, d2, d3, d4, d5, d6, d7, d8, d9, d10, d11, d12, d13, d14, d15, d16, d17, d18, Act.put, List.setIfInBounds_toArray, List.set_cons_zero, List.set_cons_succ]
  clear d0 d1 d2 d3 d4 d5 d6 d7 d8 d9 d10 d11 d12 d13 d14 d15 d16 d17 d18
  have HZ := Lib.hid (HB.out.trans (hR.mono HB.out.size))
  clear hR
  go_wp2
  go_ret
  exact ⟨rfl, HZ.out⟩
set_option maxHeartbeats 1000000 in
theorem ends_neq (ad : Option Addr) (c : Nat) (l : List UInt8) (w : World) (h : Byt w w.heap.size (.slice ad l.length c) l) (hl : l.length ≤ 100000) (hc : l.length ≤ c) (n s k : Nat) (g : Bool) (ht : tailB n s k = true) (hle : (tailBytes n s k g).length ≤ l.length) (hq : l.drop (l.length - (tailBytes n s k g).length) ≠ tailBytes n s k g) : Calls Try.prog 21 #[.slice ad l.length c, .agg #[.int .i64 (n : Nat), .int .i64 (s : Nat), .int .i64 (k : Nat), .bool g]] w fun e w' => e = .returned (.bool false) ∧ Below w.heap.size w w' := by
  have HC := Lib.hid (fun W => refCheck_any n s k g W)
  have HE := Lib.hid (fun W => refEnc_yes n s k g W ht)
  rw [ht] at HC
  have hlx : (tailBytes n s k g).length ≤ 200 := tailBytes_le n s k g
  have hw : IntKind.i64.wrap ((l.length : Int) - ((tailBytes n s k g).length : Int)) = (l.length : Int) - ((tailBytes n s k g).length : Int) := IntWalk.i64_in _ (by omega)
  have hsl := fun W => slice_l (t := 25) (e := 5) (size := 1) rfl size_u8 ad l.length c ((l.length : Int) - ((tailBytes n s k g).length : Int)) (by omega) (by omega) W
  have hsb := sub_byt h (l.length - (tailBytes n s k g).length) (l.length - (l.length - (tailBytes n s k g).length)) (by omega)
  rw [show ((l.length : Int) - ((tailBytes n s k g).length : Int)).toNat = l.length - (tailBytes n s k g).length from by omega] at hsl
  rw [List.take_of_length_le (by rw [List.length_drop]; omega)] at hsb
  generalize Value.slice (if c = l.length - (tailBytes n s k g).length then ad else ad.map (·.add ((l.length - (tailBytes n s k g).length) * 1))) (l.length - (l.length - (tailBytes n s k g).length)) (c - (l.length - (tailBytes n s k g).length)) = S at *
  have HSB := Lib.hid hsb
  clear hsb
  have HQ := Lib.hid hq
  clear hq
  have HH := Lib.hid h
  clear ht h
  have HA := Lib.hid (Cells.new_at w [.int .i64 (n : Nat), .int .i64 (s : Nat), .int .i64 (k : Nat), .bool g] 30 w.heap.size rfl)
  have HB := Lib.hid ((Below.refl w.heap.size w).alloc (Nat.le_refl _) (.cells #[.int .i64 (n : Nat), .int .i64 (s : Nat), .int .i64 (k : Nat), .bool g] 30))
  generalize tailBytes n s k g = X at *
  go_enter Try.func21, Try.ntmps21
  go_wp2_with fail
  refine (HC.out _).mono ?_
  rintro e w1 ⟨rfl, hb⟩
  have hs := hb.size
  simp only [World.size_alloc] at hs
  have HA := Lib.hid (HA.out.below hb (by simp))
  have HB := Lib.hid (HB.out.trans (hb.mono (by simp)))
  clear hb
  have k0 := HA.out 0 _ rfl
  have k1 := HA.out 1 _ rfl
  have k2 := HA.out 2 _ rfl
  have k3 := HA.out 3 _ rfl
  go_wp2_with fail
  refine (HE.out _).mono ?_
  rintro e w2 ⟨v, rfl, ho, hb⟩
  have HV := Lib.hid ho.byt
  have HB := Lib.hid (HB.out.trans (hb.mono (by omega)))
  clear hb ho k0 k1 k2 k3
  obtain ⟨av, cv, he⟩ := HV.out.slice
  subst he
  go_wp2_with fail
  refine Mono.region_below (by kernel_rfl) (by kernel_rfl) (by kernel_rfl) ?_
  refine Mono.rgl_val (v := ?v0) rfl Mono.rr (fun ρ a W hR hd hf => ?h0) ?_
  case h0 =>
    have e5 := Mono.init_get hf (t := 5) (by kernel_rfl)
    clear hd hf
    (go_simp; try with_reducible rfl)
  refine Mono.rgl_val (v := ?v1) rfl Mono.rr (fun ρ a W hR hd hf => ?h1) ?_
  case h1 =>
    have e11 := Mono.dep_val hd hf (t := 11) (k := 0) (by kernel_rfl) rfl
    clear hd hf
    (go_simp; try with_reducible rfl)
  refine Mono.rgl_val (v := ?v2) rfl Mono.rr (fun ρ a W hR hd hf => ?h2) ?_
  case h2 =>
    have e0 := Mono.init_get hf (t := 0) (by kernel_rfl)
    clear hd hf
    (go_simp; try with_reducible rfl)
  refine Mono.rgl_val (v := ?v3) rfl Mono.rr (fun ρ a W hR hd hf => ?h3) ?_
  case h3 =>
    have e13 := Mono.dep_val hd hf (t := 13) (k := 2) (by kernel_rfl) rfl
    clear hd hf
    (go_simp; try with_reducible rfl)
  refine Mono.rgl_val (v := .bool true) rfl Mono.rr (fun ρ a W hR hd hf => ?h4) ?_
  case h4 =>
    have e12 := Mono.dep_val hd hf (t := 12) (k := 1) (by kernel_rfl) rfl
    have e14 := Mono.dep_val hd hf (t := 14) (k := 3) (by kernel_rfl) rfl
    clear hd hf
    (go_simp)
  refine Mono.rgl_val (v := ?v5) rfl Mono.rr (fun ρ a W hR hd hf => ?h5) ?_
  case h5 =>
    have e15 := Mono.dep_val hd hf (t := 15) (k := 4) (by kernel_rfl) rfl
    clear hd hf
    (go_simp; try with_reducible rfl)
  refine Mono.rgl_valg (v := ?v6) rfl Mono.rr (fun ρ W hd => Mono.guard_val hd (t := 16) (k := 5) (by kernel_rfl) rfl) (fun ρ a W hR hd hf => ?h6) ?_
  case h6 =>
    have e0 := Mono.init_get hf (t := 0) (by kernel_rfl)
    clear hd hf
    (go_simp; try with_reducible rfl)
  refine Mono.rgl_valg (v := ?v7) rfl Mono.rr (fun ρ W hd => Mono.guard_val hd (t := 16) (k := 5) (by kernel_rfl) rfl) (fun ρ a W hR hd hf => ?h7) ?_
  case h7 =>
    have e0 := Mono.init_get hf (t := 0) (by kernel_rfl)
    clear hd hf
    (go_simp; try with_reducible rfl)
  refine Mono.rgl_valg (v := ?v8) rfl Mono.rr (fun ρ W hd => Mono.guard_val hd (t := 16) (k := 5) (by kernel_rfl) rfl) (fun ρ a W hR hd hf => ?h8) ?_
  case h8 =>
    have e18 := Mono.dep_val hd hf (t := 18) (k := 7) (by kernel_rfl) rfl
    clear hd hf
    (go_simp; try with_reducible rfl)
  refine Mono.rgl_valg (v := ?v9) rfl Mono.rr (fun ρ W hd => Mono.guard_val hd (t := 16) (k := 5) (by kernel_rfl) rfl) (fun ρ a W hR hd hf => ?h9) ?_
  case h9 =>
    have e5 := Mono.init_get hf (t := 5) (by kernel_rfl)
    clear hd hf
    (go_simp; try with_reducible rfl)
  refine Mono.rgl_valg (v := ?v10) rfl Mono.rr (fun ρ W hd => Mono.guard_val hd (t := 16) (k := 5) (by kernel_rfl) rfl) (fun ρ a W hR hd hf => ?h10) ?_
  case h10 =>
    have e20 := Mono.dep_val hd hf (t := 20) (k := 9) (by kernel_rfl) rfl
    clear hd hf
    (go_simp; try with_reducible rfl)
  refine Mono.rgl_valg (v := ?v11) rfl Mono.rr (fun ρ W hd => Mono.guard_val hd (t := 16) (k := 5) (by kernel_rfl) rfl) (fun ρ a W hR hd hf => ?h11) ?_
  case h11 =>
    have e19 := Mono.dep_val hd hf (t := 19) (k := 8) (by kernel_rfl) rfl
    have e21 := Mono.dep_val hd hf (t := 21) (k := 10) (by kernel_rfl) rfl
    clear hd hf
    (go_simp; try with_reducible rfl)
  refine Mono.rgl_valg (v := ?v12) rfl Mono.rr (fun ρ W hd => Mono.guard_val hd (t := 16) (k := 5) (by kernel_rfl) rfl) (fun ρ a W hR hd hf => ?h12) ?_
  case h12 =>
    have e17 := Mono.dep_val hd hf (t := 17) (k := 6) (by kernel_rfl) rfl
    have e22 := Mono.dep_val hd hf (t := 22) (k := 11) (by kernel_rfl) rfl
    clear hd hf
    (go_simp; try with_reducible rfl)
  refine Mono.rgl_valg (v := ?v13) rfl Mono.rr (fun ρ W hd => Mono.guard_val hd (t := 16) (k := 5) (by kernel_rfl) rfl) (fun ρ a W hR hd hf => ?h13) ?_
  case h13 =>
    have e23 := Mono.dep_val hd hf (t := 23) (k := 12) (by kernel_rfl) rfl
    have hcv := convert_byt (src := 25) (dst := 9) (e := 5) rfl rfl rfl ((HSB.out.below HB.out).below (hR.mono HB.out.size))
    clear hd hf
    (go_simp; try with_reducible rfl)
  refine Mono.rgl_valg (v := ?v14) rfl Mono.rr (fun ρ W hd => Mono.guard_val hd (t := 16) (k := 5) (by kernel_rfl) rfl) (fun ρ a W hR hd hf => ?h14) ?_
  case h14 =>
    have e5 := Mono.init_get hf (t := 5) (by kernel_rfl)
    clear hd hf
    (go_simp; try with_reducible rfl)
  refine Mono.rgl_valg (v := ?v15) rfl Mono.rr (fun ρ W hd => Mono.guard_val hd (t := 16) (k := 5) (by kernel_rfl) rfl) (fun ρ a W hR hd hf => ?h15) ?_
  case h15 =>
    have e25 := Mono.dep_val hd hf (t := 25) (k := 14) (by kernel_rfl) rfl
    have hcv := convert_byt (src := 25) (dst := 9) (e := 5) rfl rfl rfl ((HV.out.below hR))
    clear hd hf
    (go_simp; try with_reducible rfl)
  refine Mono.rgl_valg (v := .bool false) rfl Mono.rr (fun ρ W hd => Mono.guard_val hd (t := 16) (k := 5) (by kernel_rfl) rfl) (fun ρ a W hR hd hf => ?h16) ?_
  case h16 =>
    have e24 := Mono.dep_val hd hf (t := 24) (k := 13) (by kernel_rfl) rfl
    have e26 := Mono.dep_val hd hf (t := 26) (k := 15) (by kernel_rfl) rfl
    clear hd hf
    (go_simp; rw [ByteArray.toList_eq, ByteArray.toList_eq]; exact fun h => HQ.out (by simpa [str] using h))
  refine Mono.rgl_val (v := ?v17) rfl Mono.rr (fun ρ a W hR hd hf => ?h17) ?_
  case h17 =>
    have e16 := Mono.dep_val hd hf (t := 16) (k := 5) (by kernel_rfl) rfl
    have e27 := Mono.dep_val hd hf (t := 27) (k := 16) (by kernel_rfl) rfl
    clear hd hf
    (go_simp; try with_reducible rfl)
  refine Mono.rgl_val (v := ?v18) rfl Mono.rr (fun ρ a W hR hd hf => ?h18) ?_
  case h18 =>
    have e28 := Mono.dep_val hd hf (t := 28) (k := 17) (by kernel_rfl) rfl
    clear hd hf
    (go_simp; try with_reducible rfl)
  refine Mono.rgl_done rfl (fun ρ W hR ht => ?_)
  obtain ⟨d18, d17, d16, d15, d14, d13, d12, d11, d10, d9, d8, d7, d6, d5, d4, d3, d2, d1, d0, _⟩ := ht
  simp only [List.length_cons, List.length_nil, Nat.reduceAdd] at d0 d1 d2 d3 d4 d5 d6 d7 d8 d9 d10 d11 d12 d13 d14 d15 d16 d17 d18
  simp only [Mono.putAll, Nat.reduceAdd, d0, d1, d2, d3, d4, d5, d6, d7, d8, d9, d10, d11, d12, d13, d14, d15, d16, d17, d18, Act.put, List.setIfInBounds_toArray, List.set_cons_zero, List.set_cons_succ]
  clear d0 d1 d2 d3 d4 d5 d6 d7 d8 d9 d10 d11 d12 d13 d14 d15 d16 d17 d18
  have HZ := Lib.hid (HB.out.trans (hR.mono HB.out.size))
  clear hR
  go_wp2
  go_ret
  exact ⟨rfl, HZ.out⟩
set_option maxHeartbeats 1000000 in
theorem ends_long (ad : Option Addr) (c : Nat) (l : List UInt8) (w : World) (h : Byt w w.heap.size (.slice ad l.length c) l) (hl : l.length ≤ 100000) (hc : l.length ≤ c) (n s k : Nat) (g : Bool) (ht : tailB n s k = true) (hle : l.length < (tailBytes n s k g).length) : Calls Try.prog 21 #[.slice ad l.length c, .agg #[.int .i64 (n : Nat), .int .i64 (s : Nat), .int .i64 (k : Nat), .bool g]] w fun e w' => e = .returned (.bool false) ∧ Below w.heap.size w w' := by
  have HC := Lib.hid (fun W => refCheck_any n s k g W)
  have HE := Lib.hid (fun W => refEnc_yes n s k g W ht)
  rw [ht] at HC
  have hlx : (tailBytes n s k g).length ≤ 200 := tailBytes_le n s k g
  have HH := Lib.hid h
  clear ht h
  have HA := Lib.hid (Cells.new_at w [.int .i64 (n : Nat), .int .i64 (s : Nat), .int .i64 (k : Nat), .bool g] 30 w.heap.size rfl)
  have HB := Lib.hid ((Below.refl w.heap.size w).alloc (Nat.le_refl _) (.cells #[.int .i64 (n : Nat), .int .i64 (s : Nat), .int .i64 (k : Nat), .bool g] 30))
  generalize tailBytes n s k g = X at *
  go_enter Try.func21, Try.ntmps21
  go_wp2_with fail
  refine (HC.out _).mono ?_
  rintro e w1 ⟨rfl, hb⟩
  have hs := hb.size
  simp only [World.size_alloc] at hs
  have HA := Lib.hid (HA.out.below hb (by simp))
  have HB := Lib.hid (HB.out.trans (hb.mono (by simp)))
  clear hb
  have k0 := HA.out 0 _ rfl
  have k1 := HA.out 1 _ rfl
  have k2 := HA.out 2 _ rfl
  have k3 := HA.out 3 _ rfl
  go_wp2_with fail
  refine (HE.out _).mono ?_
  rintro e w2 ⟨v, rfl, ho, hb⟩
  have HV := Lib.hid ho.byt
  have HB := Lib.hid (HB.out.trans (hb.mono (by omega)))
  clear hb ho k0 k1 k2 k3
  obtain ⟨av, cv, he⟩ := HV.out.slice
  subst he
  go_wp2_with fail
  refine Mono.region_below (by kernel_rfl) (by kernel_rfl) (by kernel_rfl) ?_
  refine Mono.rgl_val (v := ?v0) rfl Mono.rr (fun ρ a W hR hd hf => ?h0) ?_
  case h0 =>
    have e5 := Mono.init_get hf (t := 5) (by kernel_rfl)
    clear hd hf
    (go_simp; try with_reducible rfl)
  refine Mono.rgl_val (v := ?v1) rfl Mono.rr (fun ρ a W hR hd hf => ?h1) ?_
  case h1 =>
    have e11 := Mono.dep_val hd hf (t := 11) (k := 0) (by kernel_rfl) rfl
    clear hd hf
    (go_simp; try with_reducible rfl)
  refine Mono.rgl_val (v := ?v2) rfl Mono.rr (fun ρ a W hR hd hf => ?h2) ?_
  case h2 =>
    have e0 := Mono.init_get hf (t := 0) (by kernel_rfl)
    clear hd hf
    (go_simp; try with_reducible rfl)
  refine Mono.rgl_val (v := ?v3) rfl Mono.rr (fun ρ a W hR hd hf => ?h3) ?_
  case h3 =>
    have e13 := Mono.dep_val hd hf (t := 13) (k := 2) (by kernel_rfl) rfl
    clear hd hf
    (go_simp; try with_reducible rfl)
  refine Mono.rgl_val (v := .bool false) rfl Mono.rr (fun ρ a W hR hd hf => ?h4) ?_
  case h4 =>
    have e12 := Mono.dep_val hd hf (t := 12) (k := 1) (by kernel_rfl) rfl
    have e14 := Mono.dep_val hd hf (t := 14) (k := 3) (by kernel_rfl) rfl
    clear hd hf
    (go_simp)
  refine Mono.rgl_val (v := ?v5) rfl Mono.rr (fun ρ a W hR hd hf => ?h5) ?_
  case h5 =>
    have e15 := Mono.dep_val hd hf (t := 15) (k := 4) (by kernel_rfl) rfl
    clear hd hf
    (go_simp; try with_reducible rfl)
  refine Mono.rgl_skip rfl (by decide) (fun ρ W hd => Mono.guard_val hd (t := 16) (k := 5) (by kernel_rfl) rfl) ?_
  refine Mono.rgl_skip rfl (by decide) (fun ρ W hd => Mono.guard_val hd (t := 16) (k := 5) (by kernel_rfl) rfl) ?_
  refine Mono.rgl_skip rfl (by decide) (fun ρ W hd => Mono.guard_val hd (t := 16) (k := 5) (by kernel_rfl) rfl) ?_
  refine Mono.rgl_skip rfl (by decide) (fun ρ W hd => Mono.guard_val hd (t := 16) (k := 5) (by kernel_rfl) rfl) ?_
  refine Mono.rgl_skip rfl (by decide) (fun ρ W hd => Mono.guard_val hd (t := 16) (k := 5) (by kernel_rfl) rfl) ?_
  refine Mono.rgl_skip rfl (by decide) (fun ρ W hd => Mono.guard_val hd (t := 16) (k := 5) (by kernel_rfl) rfl) ?_
  refine Mono.rgl_skip rfl (by decide) (fun ρ W hd => Mono.guard_val hd (t := 16) (k := 5) (by kernel_rfl) rfl) ?_
  refine Mono.rgl_skip rfl (by decide) (fun ρ W hd => Mono.guard_val hd (t := 16) (k := 5) (by kernel_rfl) rfl) ?_
  refine Mono.rgl_skip rfl (by decide) (fun ρ W hd => Mono.guard_val hd (t := 16) (k := 5) (by kernel_rfl) rfl) ?_
  refine Mono.rgl_skip rfl (by decide) (fun ρ W hd => Mono.guard_val hd (t := 16) (k := 5) (by kernel_rfl) rfl) ?_
  refine Mono.rgl_skip rfl (by decide) (fun ρ W hd => Mono.guard_val hd (t := 16) (k := 5) (by kernel_rfl) rfl) ?_
  refine Mono.rgl_val (v := ?v17) rfl Mono.rr (fun ρ a W hR hd hf => ?h17) ?_
  case h17 =>
    have e16 := Mono.dep_val hd hf (t := 16) (k := 5) (by kernel_rfl) rfl
    have e27 := Mono.dep_val hd hf (t := 27) (k := 16) (by kernel_rfl) rfl
    clear hd hf
    (go_simp; try with_reducible rfl)
  refine Mono.rgl_val (v := ?v18) rfl Mono.rr (fun ρ a W hR hd hf => ?h18) ?_
  case h18 =>
    have e28 := Mono.dep_val hd hf (t := 28) (k := 17) (by kernel_rfl) rfl
    clear hd hf
    (go_simp; try with_reducible rfl)
  refine Mono.rgl_done rfl (fun ρ W hR ht => ?_)
  obtain ⟨d18, d17, d16, d15, d14, d13, d12, d11, d10, d9, d8, d7, d6, d5, d4, d3, d2, d1, d0, _⟩ := ht
  simp only [List.length_cons, List.length_nil, Nat.reduceAdd] at d0 d1 d2 d3 d4 d5 d6 d7 d8 d9 d10 d11 d12 d13 d14 d15 d16 d17 d18
  simp only [Mono.putAll, Nat.reduceAdd, d0, d1, d2, d3, d4, d5, d6, d7, d8, d9, d10, d11, d12, d13, d14, d15, d16, d17, d18, Act.put, List.setIfInBounds_toArray, List.set_cons_zero, List.set_cons_succ]
  clear d0 d1 d2 d3 d4 d5 d6 d7 d8 d9 d10 d11 d12 d13 d14 d15 d16 d17 d18
  have HZ := Lib.hid (HB.out.trans (hR.mono HB.out.size))
  clear hR
  go_wp2
  go_ret
  exact ⟨rfl, HZ.out⟩
end Go.Proofs.Ytfdbgbdiacpmhaa
