/- Contract of the page's Put. -/
import Derived.Test.YtephiopgpfdchaaOctG
import Derived.Test.YtephiopgpfdchaaMono
namespace Go.Proofs.Ytephiopgpfdchaa
open Go.RowKit
theorem hRr (W : World) : Below W.heap.size W W := Below.refl _ _
theorem hRt (a b c : World) (h : Below a.heap.size a b) (k : Below b.heap.size b c) : Below a.heap.size a c := h.trans (k.mono h.size)
theorem hstB {l : List UInt8} : ∀ v W W', (fun v (W : World) => Byt W W.heap.size v l) v W → Below W.heap.size W W' → (fun v (W : World) => Byt W W.heap.size v l) v W' := fun _ _ _ h hb => (h.below hb).mono hb.size
set_option maxHeartbeats 1000000 in
theorem refPut_any {w : World} {B : Nat} (a0 a1 : Option Addr) (c0 c1 p : Nat) (l x : List UInt8) (h1 : Byt w B (.slice a0 l.length c0) l) (h2 : Byt w B (.slice a1 x.length c1) x) (hB : B ≤ w.heap.size) (hl : l.length ≤ 100000000) (hc0 : l.length ≤ c0) (hp : p + x.length ≤ l.length) :
    Calls Try.prog 16 #[.slice a0 l.length c0, .int .i64 (p : Nat), .slice a1 x.length c1] w fun e w' => ∃ v', e = .returned v' ∧ Byt w' w'.heap.size v' (putAt l p x) ∧ Below w.heap.size w w' := by
  have hsl1 := fun W => slice_h (t := 22) (e := 5) (size := 1) rfl size_u8 a0 l.length c0 (p : Int) (by omega) (by omega) W
  have hsl2 := fun W => slice_l (t := 22) (e := 5) (size := 1) rfl size_u8 a0 l.length c0 ((p : Int) + (x.length : Int)) (by omega) (by omega) W
  have hs1' := sub_byt h1 0 p (by omega)
  have hs2' := sub_byt h1 (p + x.length) (l.length - (p + x.length)) (by omega)
  rw [Int.toNat_natCast, Nat.sub_zero] at hsl1
  rw [show ((p : Int) + (x.length : Int)).toNat = p + x.length from by omega] at hsl2
  rw [List.drop_zero, Nat.sub_zero] at hs1'
  rw [Nat.sub_zero] at hsl1
  rw [List.take_of_length_le (by rw [List.length_drop]; omega)] at hs2'
  generalize Value.slice (if c0 = 0 then a0 else a0.map (·.add (0 * 1))) p c0 = s1 at *
  generalize Value.slice (if c0 = p + x.length then a0 else a0.map (·.add ((p + x.length) * 1))) (l.length - (p + x.length)) (c0 - (p + x.length)) = s2 at *
  have hx' := h2
  have htk : (l.take p).length ≤ 100000000000 := by rw [List.length_take]; omega
  have hxl : x.length ≤ 100000000000 := by omega
  have htx : (l.take p ++ x).length ≤ 100000000000 := by rw [List.length_append, List.length_take]; omega
  have hdr : (l.drop (p + x.length)).length ≤ 100000000000 := by rw [List.length_drop]; omega
  have hw1 : IntKind.i64.wrap ((p : Int) + (x.length : Int)) = (p : Int) + (x.length : Int) := IntWalk.i64_in _ (by omega)
  have hRB : ∀ {W}, Below w.drew.heap.size w.drew W → Below B w W := fun h => ⟨h.os, h.tape, h.output, h.size, fun k hk => h.block k (by show k < w.heap.size; omega)⟩
  go_enter Try.func16, Try.ntmps16
  go_wp2
  refine Mono.region_list (fun W W' => Below W.heap.size W W') (by kernel_rfl) (by kernel_rfl) (by kernel_rfl) hRr hRt ?_
  change Mono.RGL _ _ _ w.drew _ _ _ _
  refine Mono.rgl_val (v := ?v0) rfl hRr (fun ρ a W hR hd hf => ?h0) ?_
  case h0 =>
    have e0 := Mono.init_get hf (t := 0) (by kernel_rfl)
    clear hd hf
    (go_simp; try with_reducible rfl)
  refine Mono.rgl_val (v := ?v1) rfl hRr (fun ρ a W hR hd hf => ?h1) ?_
  case h1 =>
    have e1 := Mono.init_get hf (t := 1) (by kernel_rfl)
    clear hd hf
    (go_simp; try with_reducible rfl)
  refine Mono.rgl_val (v := ?v2) rfl hRr (fun ρ a W hR hd hf => ?h2) ?_
  case h2 =>
    have e7 := Mono.dep_val hd hf (t := 7) (k := 0) (by kernel_rfl) rfl
    have e8 := Mono.dep_val hd hf (t := 8) (k := 1) (by kernel_rfl) rfl
    clear hd hf
    (go_simp; try with_reducible rfl)
  refine Mono.rgl_val (v := ?v3) rfl hRr (fun ρ a W hR hd hf => ?h3) ?_
  case h3 =>
    have e2 := Mono.init_get hf (t := 2) (by kernel_rfl)
    clear hd hf
    (go_simp; try with_reducible rfl)
  refine Mono.rgl_call (fun v W => Byt W W.heap.size v (l.take p ++ x)) rfl hRr hstB (fun ρ a W hR hd hf => ?h4) ?_
  case h4 =>
    have e9 := Mono.dep_val hd hf (t := 9) (k := 2) (by kernel_rfl) rfl
    have e10 := Mono.dep_val hd hf (t := 10) (k := 3) (by kernel_rfl) rfl
    clear hd hf
    refine ⟨_, _, by go_simp; first | rfl | exact ⟨rfl, rfl⟩, ?_⟩
    exact (join_any (hs1'.below (hRB hR)) (hx'.below (hRB hR)) (Nat.le_trans hB (hRB hR).size) htk hxl).mono (fun e W' ⟨v', he, ho, hb⟩ => ⟨v', he, hb, Byt.of_own ho⟩)
  refine Mono.rgl_val (v := ?v5) rfl hRr (fun ρ a W hR hd hf => ?h5) ?_
  case h5 =>
    have e0 := Mono.init_get hf (t := 0) (by kernel_rfl)
    clear hd hf
    (go_simp; try with_reducible rfl)
  refine Mono.rgl_val (v := ?v6) rfl hRr (fun ρ a W hR hd hf => ?h6) ?_
  case h6 =>
    have e1 := Mono.init_get hf (t := 1) (by kernel_rfl)
    clear hd hf
    (go_simp; try with_reducible rfl)
  refine Mono.rgl_val (v := ?v7) rfl hRr (fun ρ a W hR hd hf => ?h7) ?_
  case h7 =>
    have e2 := Mono.init_get hf (t := 2) (by kernel_rfl)
    clear hd hf
    (go_simp; try with_reducible rfl)
  refine Mono.rgl_val (v := ?v8) rfl hRr (fun ρ a W hR hd hf => ?h8) ?_
  case h8 =>
    have e14 := Mono.dep_val hd hf (t := 14) (k := 7) (by kernel_rfl) rfl
    clear hd hf
    (go_simp; try with_reducible rfl)
  refine Mono.rgl_val (v := ?v9) rfl hRr (fun ρ a W hR hd hf => ?h9) ?_
  case h9 =>
    have e13 := Mono.dep_val hd hf (t := 13) (k := 6) (by kernel_rfl) rfl
    have e15 := Mono.dep_val hd hf (t := 15) (k := 8) (by kernel_rfl) rfl
    clear hd hf
    (go_simp; try with_reducible rfl)
  refine Mono.rgl_val (v := ?v10) rfl hRr (fun ρ a W hR hd hf => ?h10) ?_
  case h10 =>
    have e12 := Mono.dep_val hd hf (t := 12) (k := 5) (by kernel_rfl) rfl
    have e16 := Mono.dep_val hd hf (t := 16) (k := 9) (by kernel_rfl) rfl
    clear hd hf
    (go_simp; try with_reducible rfl)
  refine Mono.rgl_call (fun v W => Byt W W.heap.size v ((l.take p ++ x) ++ l.drop (p + x.length))) rfl hRr hstB (fun ρ a W hR hd hf => ?h11) ?_
  case h11 =>
    obtain ⟨e11, d4⟩ := Mono.dep_get hd hf (t := 11) (k := 4) (by kernel_rfl)
    replace d4 : (fun v W => Byt W W.heap.size v (l.take p ++ x)) (ρ 4) W := d4
    have e17 := Mono.dep_val hd hf (t := 17) (k := 10) (by kernel_rfl) rfl
    clear hd hf
    refine ⟨_, _, by go_simp; first | rfl | exact ⟨rfl, rfl⟩, ?_⟩
    exact (join_any d4 (((hs2'.below (hRB hR)).mono (Nat.le_trans hB (hRB hR).size))) (Nat.le_refl _) htx hdr).mono (fun e W' ⟨v', he, ho, hb⟩ => ⟨v', he, hb, Byt.of_own ho⟩)
  refine Mono.rgl_pred (fun v W => Byt W W.heap.size v ((l.take p ++ x) ++ l.drop (p + x.length))) rfl hstB (fun ρ a W hR hd hf => ?h12) ?_
  case h12 =>
    obtain ⟨e18, d11⟩ := Mono.dep_get hd hf (t := 18) (k := 11) (by kernel_rfl)
    replace d11 : (fun v W => Byt W W.heap.size v ((l.take p ++ x) ++ l.drop (p + x.length))) (ρ 11) W := d11
    clear hd hf
    exact ⟨ρ 11, W, by go_simp, hRr W, d11⟩
  refine Mono.rgl_done rfl (fun ρ W hR ht => ?_)
  obtain ⟨d12, d11, d10, d9, d8, d7, d6, d5, d4, d3, d2, d1, d0, _⟩ := ht
  replace d4 : (fun v W => Byt W W.heap.size v (l.take p ++ x)) (ρ 4) W := d4
  replace d11 : (fun v W => Byt W W.heap.size v ((l.take p ++ x) ++ l.drop (p + x.length))) (ρ 11) W := d11
  replace d12 : (fun v W => Byt W W.heap.size v ((l.take p ++ x) ++ l.drop (p + x.length))) (ρ 12) W := d12
  simp only [List.length_cons, List.length_nil, Nat.reduceAdd] at d0 d1 d2 d3 d5 d6 d7 d8 d9 d10
  simp only [Mono.putAll, Nat.reduceAdd, d0, d1, d2, d3, d5, d6, d7, d8, d9, d10, Act.put, List.setIfInBounds_toArray, List.set_cons_zero, List.set_cons_succ]
  clear d0 d1 d2 d3 d5 d6 d7 d8 d9 d10
  generalize ρ 4 = r4 at *
  generalize ρ 11 = r11 at *
  generalize ρ 12 = r12 at *
  have hpe : (l.take p ++ x) ++ l.drop (p + x.length) = putAt l p x := by rw [putAt, List.append_assoc]
  rw [hpe] at d12
  have HD := Lib.hid d12
  have HR : Hid (Below w.heap.size w W) := ⟨hR.os, hR.tape, hR.output, hR.size, fun k hk => hR.block k hk⟩
  clear d12 d11 hR hpe d4 hsl1 hsl2 hw1
  go_wp2
  go_ret
  exact ⟨_, rfl, HD.out, HR.out⟩
end Go.Proofs.Ytephiopgpfdchaa
