/- (*model).do at a Has; the page's example (awake). -/
import Derived.Test.YtmcbgjkogggneaaDoorLiC
import Derived.BigRegion
import Derived.Deep.DeepCutAuto
namespace Go.Proofs.YtmcbgjkogggneaaDoor
set_option maxRecDepth 100000
set_option linter.unusedVariables false
set_option linter.unusedSimpArgs false
open Go.RowKit Go.Maps Go.WideMaps
theorem Mp.below {w w' : World} {b n : Nat} {D : DataW Unit} (h : Mp w b n D) (hb : Below w.heap.size w w') : Mp w' b n D := World.ownsMap.kept h (grown_of_below' hb) (by simp)
def atN (D : DataW Unit) (s : ByteArray) : Int := match D.atKey (keyL s) (.lit (.int .i64 0)) with
  | .lit (.int _ c) => c
  | _ => 0
theorem Mp.look {w : World} {b n : Nat} {D : DataW Unit} (h : Mp w b n D) {s : ByteArray} (hs : s.size ≤ maxLen) : (Instr.lookup 67 (.map (some b)) (.string s) true).run Tryd.prog w = .ok (.tuple #[.int .i64 (atN D s), .bool (Maps.has D (keyL s))]) w := by
  obtain ⟨v, ps, hrun, hv⟩ := World.ownsMap.look_ok h law Tryd.underlying67 (zeroE w) (plainElem_int Tryd.underlying3 (by decide)) (keyL_of hs)
  obtain ⟨c, rfl, hc, _⟩ := plainElem_int_inv Tryd.underlying3 hv
  injection hc with hc
  unfold atN
  rw [hc]
  exact hrun
set_option maxHeartbeats 2000000 in
theorem do_has (mb mm n : Nat) (D : DataW Unit) (ns : Value) (c : CallV) (w : World) (hc : Cells w mb [ns, .map (some mm)]) (hbl : mb < w.heap.size) (hm : Mp w mm n D) (hs : c.name.size ≤ maxLen) (hk : c.kind = 2) :
    Calls Tryd.prog 34 #[.pointer (some ⟨mb, 0, none⟩), c.agg] w fun e w' => e = .returned (.bool (c.told == Maps.has D (keyL c.name))) ∧ Below w.heap.size w w' := by
  obtain ⟨kind, name, told, na, nn, nc, beg, fin⟩ := c
  simp only at hs hk ⊢
  subst hk
  unfold CallV.agg
  simp only
  have hA := (Below.refl w.heap.size w).alloc (Nat.le_refl _) (.cells #[.int .i64 2, .string name, .bool told, .slice na nn nc, .int .i64 beg, .int .i64 fin] 32)
  have HA := Lib.hid hA
  obtain ⟨wa, hwa⟩ : ∃ z : World, z = w.alloc (.cells #[.int .i64 2, .string name, .bool told, .slice na nn nc, .int .i64 beg, .int .i64 fin] 32) := ⟨_, rfl⟩
  rw [← hwa] at hA HA
  have hO : Cells wa w.heap.size [.int .i64 2, .string name, .bool told, .slice na nn nc, .int .i64 beg, .int .i64 fin] := by rw [hwa]; exact Cells.new w _ _
  have hsz : w.heap.size < wa.heap.size := by rw [hwa]; simp
  have h1 := (hc.below hA hbl) 1 _ rfl
  have hmb : mb < wa.heap.size := by omega
  have hmw : Mp wa mm n D := hm.below hA
  have k1 : Hid (∀ W, Below wa.heap.size wa W → W.cell? ⟨mb, 1, none⟩ = some (.map (some mm))) := Lib.hid (fun W hW => (hW.cell (p := ⟨mb, 1, none⟩) hmb).trans h1)
  have k2 : Hid (∀ W, Below wa.heap.size wa W → W.cell? ⟨w.heap.size, 1, none⟩ = some (.string name)) := Lib.hid (fun W hW => (hW.cell (p := ⟨w.heap.size, 1, none⟩) hsz).trans (hO 1 _ rfl))
  have HLK : Hid (∀ W, Below wa.heap.size wa W → (Instr.lookup 67 (.map (some mm)) (.string name) true).run Tryd.prog W = .ok (.tuple #[.int .i64 (atN D name), .bool (Maps.has D (keyL name))]) W) := Lib.hid (fun W hW => (hmw.below hW).look hs)
  have k0 := hO 0 _ rfl
  have k3 := hO 2 _ rfl
  clear hO h1 hc hm hA hmw
  generalize atN D name = x0 at *
  generalize Maps.has D (keyL name) = hs0 at *
  go_enter Tryd.func34, Tryd.ntmps34
  go_upto_region 1 with (fail)
  rw [← hwa]
  clear hwa
  refine Mono.region_below (by kernel_rfl) (by kernel_rfl) (by kernel_rfl) ?_
  refine Mono.rgl_val (v := ?va0) rfl Mono.rr (fun ρ a W hR hd hf => ?ha0) ?_
  case ha0 =>
    have e0 := Mono.init_get hf (t := 0) (by kernel_rfl)
    clear hd hf
    (go_simp; try with_reducible rfl)
  refine Mono.rgl_val (v := ?va1) rfl Mono.rr (fun ρ a W hR hd hf => ?ha1) ?_
  case ha1 =>
    have e8 := Mono.dep_val hd hf (t := 8) (k := 0) (by kernel_rfl) rfl
    clear hd hf
    (go_simp; try with_reducible rfl)
  refine Mono.rgl_val (v := ?va2) rfl Mono.rr (fun ρ a W hR hd hf => ?ha2) ?_
  case ha2 =>
    have e9 := Mono.dep_val hd hf (t := 9) (k := 1) (by kernel_rfl) rfl
    clear hd hf
    (go_simp; try with_reducible rfl)
  refine Mono.rgl_val (v := ?va3) rfl Mono.rr (fun ρ a W hR hd hf => ?ha3) ?_
  case ha3 =>
    have e10 := Mono.dep_val hd hf (t := 10) (k := 2) (by kernel_rfl) rfl
    have hk := k1.out W hR
    clear hd hf
    (go_simp; try with_reducible rfl)
  refine Mono.rgl_val (v := ?va4) rfl Mono.rr (fun ρ a W hR hd hf => ?ha4) ?_
  case ha4 =>
    have e3 := Mono.init_get hf (t := 3) (by kernel_rfl)
    clear hd hf
    (go_simp; try with_reducible rfl)
  refine Mono.rgl_val (v := ?va5) rfl Mono.rr (fun ρ a W hR hd hf => ?ha5) ?_
  case ha5 =>
    have e12 := Mono.dep_val hd hf (t := 12) (k := 4) (by kernel_rfl) rfl
    have hk := k2.out W hR
    clear hd hf
    (go_simp; try with_reducible rfl)
  refine Mono.rgl_val (v := ?va6) rfl Mono.rr (fun ρ a W hR hd hf => ?ha6) ?_
  case ha6 =>
    have e11 := Mono.dep_val hd hf (t := 11) (k := 3) (by kernel_rfl) rfl
    have e13 := Mono.dep_val hd hf (t := 13) (k := 5) (by kernel_rfl) rfl
    have hk := HLK.out W hR
    clear hd hf
    (go_simp; try with_reducible rfl)
  refine Mono.rgl_val (v := ?va7) rfl Mono.rr (fun ρ a W hR hd hf => ?ha7) ?_
  case ha7 =>
    have e14 := Mono.dep_val hd hf (t := 14) (k := 6) (by kernel_rfl) rfl
    clear hd hf
    (go_simp; try with_reducible rfl)
  refine Mono.rgl_val (v := ?va8) rfl Mono.rr (fun ρ a W hR hd hf => ?ha8) ?_
  case ha8 =>
    have e7 := Mono.dep_val hd hf (t := 7) (k := 7) (by kernel_rfl) rfl
    clear hd hf
    (go_simp; try with_reducible rfl)
  refine Mono.rgl_val (v := ?va9) rfl Mono.rr (fun ρ a W hR hd hf => ?ha9) ?_
  case ha9 =>
    have e7 := Mono.dep_val hd hf (t := 7) (k := 7) (by kernel_rfl) rfl
    clear hd hf
    (go_simp; try with_reducible rfl)
  refine Mono.rgl_val (v := ?va10) rfl Mono.rr (fun ρ a W hR hd hf => ?ha10) ?_
  case ha10 =>
    have e15 := Mono.dep_val hd hf (t := 15) (k := 8) (by kernel_rfl) rfl
    clear hd hf
    (go_simp; try with_reducible rfl)
  refine Mono.rgl_val (v := ?va11) rfl Mono.rr (fun ρ a W hR hd hf => ?ha11) ?_
  case ha11 =>
    have e16 := Mono.dep_val hd hf (t := 16) (k := 9) (by kernel_rfl) rfl
    clear hd hf
    (go_simp; try with_reducible rfl)
  refine Mono.rgl_done rfl (fun ρ W hR ht => ?_)
  obtain ⟨da11, da10, da9, da8, da7, da6, da5, da4, da3, da2, da1, da0, _⟩ := ht
  simp only [List.length_cons, List.length_nil, Nat.reduceAdd] at da0 da1 da2 da3 da4 da5 da6 da7 da8 da9 da10 da11
  simp only [Mono.putAll, Nat.reduceAdd, da0, da1, da2, da3, da4, da5, da6, da7, da8, da9, da10, da11, Act.put, List.setIfInBounds_toArray, List.set_cons_zero, List.set_cons_succ]
  clear da0 da1 da2 da3 da4 da5 da6 da7 da8 da9 da10 da11

  have HB := Lib.hid (HA.out.trans (hR.mono HA.out.size))
  have k0' : W.cell? ⟨w.heap.size, 0, none⟩ = some (.int .i64 2) := (hR.cell (p := ⟨w.heap.size, 0, none⟩) hsz).trans k0
  have k3' : W.cell? ⟨w.heap.size, 2, none⟩ = some (.bool told) := (hR.cell (p := ⟨w.heap.size, 2, none⟩) hsz).trans k3
  clear hR
  go_wp2_with (fail)
  go_ret
  exact ⟨by cases told <;> cases hs0 <;> rfl, HB.out⟩
def CallV.cells (c : CallV) : List Value := [.int .i64 c.kind, .string c.name, .bool c.told, .slice c.na c.nn c.nc, .int .i64 c.beg, .int .i64 c.fin]
set_option maxHeartbeats 2000000 in
theorem isNext_ex (sb g cap : Nat) (c : CallV) (w : World) (h0 : w.cell? ⟨sb, 0, none⟩ = some (.slice (some ⟨g, 0, none⟩) 1 cap)) (h2 : w.cell? ⟨sb, 2, none⟩ = some (.bool false)) (hc : Cells w g c.cells) (hsb : sb < w.heap.size) (hg : g < w.heap.size) (hf : 0 ≤ c.fin) :
    Calls Tryd.prog 40 #[.pointer (some ⟨sb, 0, none⟩), .int .i64 0] w fun e w' => e = .returned (.bool true) ∧ Below w.heap.size w w' := by
  have c0 := hc 0 _ rfl
  have c1 := hc 1 _ rfl
  have c2 := hc 2 _ rfl
  have c3 := hc 3 _ rfl
  have c4 := hc 4 _ rfl
  have c5 := hc 5 _ rfl
  have HCAN := Lib.hid (can_any c w)
  have d1 : decide (0 ≤ c.fin) = true := decide_eq_true hf
  rw [d1] at HCAN
  have HC := Lib.hid hc
  clear hc d1
  obtain ⟨kind, name, told, na, nn, nc, beg, fin⟩ := c
  unfold CallV.agg at HCAN
  unfold CallV.cells at HC
  simp only [Bool.true_or] at c0 c1 c2 c3 c4 c5 HCAN HC
  go_enter Tryd.func40, Tryd.ntmps40
  go_wp2_with (fail)
  refine HCAN.out.mono ?_
  rintro e w1 ⟨rfl, hb⟩
  have h0' := (hb.cell (p := ⟨sb, 0, none⟩) hsb).trans h0
  have HC1 := Lib.hid (HC.out.below hb hg)
  have e0 := HC1.out 0 _ rfl
  have e1 := HC1.out 1 _ rfl
  have e2 := HC1.out 2 _ rfl
  have e3 := HC1.out 3 _ rfl
  have e4 := HC1.out 4 _ rfl
  have e5 := HC1.out 5 _ rfl
  have HB := Lib.hid hb
  have hz := hb.size
  clear c0 c1 c2 c3 c4 c5 HCAN HC hb h0 h2
  go_wp2_with (fail)
  refine wp_loop_rounds 2 ?_
  refine Eq.mpr (rounds_succ (n := 1)) ?_
  have HB2 := Lib.hid (HB.out.alloc hz (.cells #[.int .i64 kind, .string name, .bool told, .slice na nn nc, .int .i64 beg, .int .i64 fin] 32))
  go_upto_region 6 with (fail)
  go_quiet (fail)
  go_wp2_with (fail)
  refine Eq.mpr (rounds_succ (n := 0)) ?_
  go_wp2_with (fail)
  go_ret
  exact ⟨by rfl, below_drewN HB2.out _⟩
set_option maxHeartbeats 4000000 in
theorem find_ex (sb mb mm g cap : Nat) (u2 u3 u4 u5 u6 u7 u8 u9 : Value) (c : CallV) (w : World) (hs : Cells w sb [.slice (some ⟨g, 0, none⟩) 1 cap, .slice none 0 0, .bool false, u3, u4, u5, u6, u7, u8, u9, .int .i64 1, .pointer (some ⟨mb, 0, none⟩)]) (hm : Cells w mb [.slice none 0 0, .map (some mm)]) (hM : Mp w mm 0 (.map [])) (hc : Cells w g c.cells)
    (hsb : sb < w.heap.size) (hmb : mb < w.heap.size) (hg : g < w.heap.size) (hk : c.kind = 2) (ht : c.told = true) (hf : 0 ≤ c.fin) (hn : c.name.size ≤ maxLen) :
    Calls Tryd.prog 28 #[.pointer (some ⟨sb, 0, none⟩)] w fun e w' => e = .returned (.bool false) ∧ Below w.heap.size w w' := by
  have s0 := hs 0 _ rfl
  have s10 := hs 10 _ rfl
  have c0 := hc 0 _ rfl
  have c1 := hc 1 _ rfl
  have c2 := hc 2 _ rfl
  have c3 := hc 3 _ rfl
  have c4 := hc 4 _ rfl
  have c5 := hc 5 _ rfl
  have hA := (Below.refl w.heap.size w).alloc (Nat.le_refl _) (.cells #[.int .i64 c.kind, .string c.name, .bool c.told, .slice c.na c.nn c.nc, .int .i64 c.beg, .int .i64 c.fin] 32)
  obtain ⟨wa, hwa⟩ : ∃ z : World, z = w.alloc (.cells #[.int .i64 c.kind, .string c.name, .bool c.told, .slice c.na c.nn c.nc, .int .i64 c.beg, .int .i64 c.fin] 32) := ⟨_, rfl⟩
  rw [← hwa] at hA
  have hsz : w.heap.size < wa.heap.size := by rw [hwa]; simp
  have HNX := Lib.hid (isNext_ex sb g cap c wa ((hs.below hA hsb) 0 _ rfl) ((hs.below hA hsb) 2 _ rfl) (hc.below hA hg) (by omega) (by omega) hf)
  have HFB : Hid (∀ W, Below wa.heap.size wa W → Cells W w.heap.size c.cells) := Lib.hid (fun W hW => Cells.below (by rw [hwa]; exact Cells.new w c.cells _) hW hsz)
  have HS : Hid (∀ W, Below wa.heap.size wa W → Cells W sb [.slice (some ⟨g, 0, none⟩) 1 cap, .slice none 0 0, .bool false, u3, u4, u5, u6, u7, u8, u9, .int .i64 1, .pointer (some ⟨mb, 0, none⟩)]) := Lib.hid (fun W hW => (hs.below hA hsb).below hW (by omega))
  have HM : Hid (∀ W, Below wa.heap.size wa W → Cells W mb [.slice none 0 0, .map (some mm)]) := Lib.hid (fun W hW => (hm.below hA hmb).below hW (by omega))
  have HDO : Hid (∀ W, Below wa.heap.size wa W → Calls Tryd.prog 34 #[.pointer (some ⟨mb, 0, none⟩), c.agg] W fun e w' => e = .returned (.bool false) ∧ Below W.heap.size W w') := Lib.hid (fun W hW => by
    refine (do_has mb mm 0 (.map []) (.slice none 0 0) c W ((hm.below hA hmb).below hW (by omega)) (by have := hW.size; omega) ((hM.below hA).below hW) hn hk).mono ?_
    rintro e w' ⟨rfl, hb⟩
    exact ⟨by rw [ht]; rfl, hb⟩)
  have HA := Lib.hid hA
  clear hA hs hm hM hc
  obtain ⟨kind, name, told, na, nn, nc, beg, fin⟩ := c
  simp only at hk ht
  subst hk ht
  unfold CallV.cells at HFB
  unfold CallV.agg at HDO HNX
  simp only at c0 c1 c2 c3 c4 c5 HFB HDO HNX hwa
  go_enter Tryd.func28, Tryd.ntmps28
  go_wp2_with (fail)
  refine wp_loop_rounds 2 ?_
  refine Eq.mpr (rounds_succ (n := 1)) ?_
  go_wp2_with (fail)
  rw [← hwa]
  refine HNX.out.mono ?_
  rintro e w2 ⟨rfl, hb2⟩
  have a11 := HS.out w2 hb2 11 _ rfl
  have a0 := HM.out w2 hb2 0 _ rfl
  have HB2 := Lib.hid hb2
  have hz2 := hb2.size
  clear hb2 hwa c0 c1 c2 c3 c4 c5 HNX s0 s10
  go_upto_region 8 with (fail)
  refine Mono.region_below (by kernel_rfl) (by kernel_rfl) (by kernel_rfl) ?_
  refine Mono.rgl_val (v := ?vb0) rfl Mono.rr (fun ρ a W hR hd hf => ?hb0) ?_
  case hb0 =>
    have e0 := Mono.init_get hf (t := 0) (by kernel_rfl)
    clear hd hf
    (go_simp; try with_reducible rfl)
  refine Mono.rgl_val (v := ?vb1) rfl Mono.rr (fun ρ a W hR hd hf => ?hb1) ?_
  case hb1 =>
    have e33 := Mono.dep_val hd hf (t := 33) (k := 0) (by kernel_rfl) rfl
    clear hd hf
    (go_simp; try with_reducible rfl)
  refine Mono.rgl_val (v := ?vb2) rfl Mono.rr (fun ρ a W hR hd hf => ?hb2) ?_
  case hb2 =>
    have e34 := Mono.dep_val hd hf (t := 34) (k := 1) (by kernel_rfl) rfl
    clear hd hf
    (go_simp; try with_reducible rfl)
  refine Mono.rgl_val (v := ?vb3) rfl Mono.rr (fun ρ a W hR hd hf => ?hb3) ?_
  case hb3 =>
    have e35 := Mono.dep_val hd hf (t := 35) (k := 2) (by kernel_rfl) rfl
    have hk := HS.out W (HB2.out.trans (hR.mono hz2)) 11 _ rfl
    clear hd hf
    (go_simp; try with_reducible rfl)
  refine Mono.rgl_val (v := ?vb4) rfl Mono.rr (fun ρ a W hR hd hf => ?hb4) ?_
  case hb4 =>
    have e4 := Mono.init_get hf (t := 4) (by kernel_rfl)
    have hk0 := HFB.out W (HB2.out.trans (hR.mono hz2)) 0 _ rfl
    have hk1 := HFB.out W (HB2.out.trans (hR.mono hz2)) 1 _ rfl
    have hk2 := HFB.out W (HB2.out.trans (hR.mono hz2)) 2 _ rfl
    have hk3 := HFB.out W (HB2.out.trans (hR.mono hz2)) 3 _ rfl
    have hk4 := HFB.out W (HB2.out.trans (hR.mono hz2)) 4 _ rfl
    have hk5 := HFB.out W (HB2.out.trans (hR.mono hz2)) 5 _ rfl
    clear hd hf
    (go_simp; try with_reducible rfl)
  refine Mono.rgl_call (fun x _ => x = .bool false) rfl Mono.rr (fun _ _ _ h _ => h) (fun ρ a W hR hd hf => ?hb5) ?_
  case hb5 =>
    have e36 := Mono.dep_val hd hf (t := 36) (k := 3) (by kernel_rfl) rfl
    have e37 := Mono.dep_val hd hf (t := 37) (k := 4) (by kernel_rfl) rfl
    clear hd hf
    refine ⟨_, _, by go_simp; first | rfl | exact ⟨rfl, rfl⟩, ?_⟩
    exact (HDO.out W (HB2.out.trans (hR.mono hz2))).mono (by rintro e w' ⟨rfl, hb⟩; exact ⟨_, rfl, hb, rfl⟩)
  refine Mono.rgl_done rfl (fun ρ W hR ht => ?_)
  obtain ⟨db5, db4, db3, db2, db1, db0, _⟩ := ht
  simp only [List.length_cons, List.length_nil, Nat.reduceAdd] at db0 db1 db2 db3 db4 db5
  simp only [Mono.putAll, Nat.reduceAdd, db0, db1, db2, db3, db4, db5, Act.put, List.setIfInBounds_toArray, List.set_cons_zero, List.set_cons_succ]
  clear db0 db1 db2 db3 db4 db5

  have b11 := HS.out W (HB2.out.trans (hR.mono hz2)) 11 _ rfl
  have b0 := HM.out W (HB2.out.trans (hR.mono hz2)) 0 _ rfl
  have HB3 := Lib.hid (HA.out.trans ((HB2.out.trans (hR.mono hz2)).mono HA.out.size))
  clear hR
  go_wp2_with (fail)
  refine Eq.mpr (rounds_succ (n := 0)) ?_
  go_wp2_with (fail)
  go_ret
  exact ⟨by rfl, HB3.out⟩
end Go.Proofs.YtmcbgjkogggneaaDoor
