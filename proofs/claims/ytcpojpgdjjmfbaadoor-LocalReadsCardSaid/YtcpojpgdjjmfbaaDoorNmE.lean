/- The reference's Rune where the bytes behind the first are such. -/
import Derived.Test.YtcpojpgdjjmfbaaDoorNmD
namespace Go.Proofs.YtcpojpgdjjmfbaaDoor
set_option linter.unusedVariables false
set_option linter.unusedSimpArgs false
open Go.RowKit
def RuI (v : Int) (n : Int) (w : World) (e : Ending) (w' : World) : Prop := e = .returned (.tuple #[.int .i64 v, .int .i64 n]) ∧ Below w.heap.size w w'
set_option maxHeartbeats 1000000 in
theorem refRune_yes1 (s : ByteArray) (w : World) (b0 : Nat) (hs : s.size ≤ 9223372036854775807) (hn : 1 ≤ s.size) (hb0 : (s[0]'(by omega)).toNat = b0) (a0 : 0 ≤ b0) (a1 : b0 ≤ 191) (hm : (str (utfI ((b0 : Int)))).toList = (s.extract 0 1).toList) : Calls Tryd.prog 62 #[.string s] w (RuI ((b0 : Int)) 1 w) := by
  have h0 : ((s.size : Int) == 0) = false := by rw [beq_eq_false_iff_ne]; omega
  have h1 : (s.size == 0) = false := by rw [beq_eq_false_iff_ne]; omega
  have g240 : decide (240 ≤ (b0 : Int)) = false := decide_eq_false (by omega)
  have g224 : decide (224 ≤ (b0 : Int)) = false := decide_eq_false (by omega)
  have g192 : decide (192 ≤ (b0 : Int)) = false := decide_eq_false (by omega)
  have gs : decide ((s.size : Int) < 1) = false := decide_eq_false (by omega)
  have HM := Lib.hid hm
  clear hm
  go_enter Tryd.func62, Tryd.ntmps62
  go_wp2
  refine wp_loop_rounds 1 ?_
  rw [rounds_succ]
  go_wp2
  refine Mono.region_below (by kernel_rfl) (by kernel_rfl) (by kernel_rfl) ?_
  refine Mono.rgl_val (v := ?v0) rfl Mono.rr (fun ρ a W hR hd hf => ?h0) ?_
  case h0 =>
    have e4 := Mono.init_get hf (t := 4) (by kernel_rfl)
    clear hd hf
    (go_simp; try with_reducible rfl)
  refine Mono.rgl_call (fun z W => Byt W W.heap.size z (utfI ((b0 : Int)))) rfl Mono.rr (fun _ _ _ h hb => (h.below hb).mono hb.size) (fun ρ a W hR hd hf => ?h1) ?_
  case h1 =>
    have e52 := Mono.dep_val hd hf (t := 52) (k := 0) (by kernel_rfl) rfl
    clear hd hf
    refine ⟨_, _, by go_simp; first | rfl | exact ⟨rfl, rfl⟩, ?_⟩
    exact (utf_any _ W).mono (fun e W' ⟨v', he, ho, hb⟩ => ⟨v', he, hb, ho⟩)
  refine Mono.rgl_val (v := ?v2) rfl Mono.rr (fun ρ a W hR hd hf => ?h2) ?_
  case h2 =>
    obtain ⟨e53, d1⟩ := Mono.dep_get hd hf (t := 53) (k := 1) (by kernel_rfl)
    replace d1 : (fun z W => Byt W W.heap.size z (utfI ((b0 : Int)))) (ρ 1) W := d1
    have hcv := convert_byt Tryd.underlying31 Tryd.underlying5 Tryd.underlying9 (d1)
    clear hd hf
    (go_simp; try with_reducible rfl)
  refine Mono.rgl_val (v := ?v3) rfl Mono.rr (fun ρ a W hR hd hf => ?h3) ?_
  case h3 =>
    have e0 := Mono.init_get hf (t := 0) (by kernel_rfl)
    clear hd hf
    (go_simp; try with_reducible rfl)
  refine Mono.rgl_val (v := ?v4) rfl Mono.rr (fun ρ a W hR hd hf => ?h4) ?_
  case h4 =>
    have e5 := Mono.init_get hf (t := 5) (by kernel_rfl)
    clear hd hf
    (go_simp; try with_reducible rfl)
  refine Mono.rgl_val (v := .string (s.extract 0 1)) rfl Mono.rr (fun ρ a W hR hd hf => ?h5) ?_
  case h5 =>
    have e55 := Mono.dep_val hd hf (t := 55) (k := 3) (by kernel_rfl) rfl
    have e56 := Mono.dep_val hd hf (t := 56) (k := 4) (by kernel_rfl) rfl
    have hle : (1 : Int) ≤ (s.size : Int) := by omega
    clear hd hf
    (go_simp; try with_reducible rfl)
  refine Mono.rgl_val (v := .bool false) rfl Mono.rr (fun ρ a W hR hd hf => ?h6) ?_
  case h6 =>
    have e54 := Mono.dep_val hd hf (t := 54) (k := 2) (by kernel_rfl) rfl
    have e57 := Mono.dep_val hd hf (t := 57) (k := 5) (by kernel_rfl) rfl
    clear hd hf
    (go_simp; exact HM.out)
  refine Mono.rgl_done rfl (fun ρ W hR ht => ?_)
  obtain ⟨d6, d5, d4, d3, d2, d1, d0, _⟩ := ht
  replace d1 : (fun z W => Byt W W.heap.size z (utfI ((b0 : Int)))) (ρ 1) W := d1
  simp only [List.length_cons, List.length_nil, Nat.reduceAdd] at d0 d2 d3 d4 d5 d6
  simp only [Mono.putAll, Nat.reduceAdd, d0, d2, d3, d4, d5, d6, Act.put, List.setIfInBounds_toArray, List.set_cons_zero, List.set_cons_succ]
  clear d0 d2 d3 d4 d5 d6
  generalize ρ 1 = r1 at *
  have HZ : Hid (Below w.heap.size w W) := hR
  clear hR d1
  go_wp2
  go_ret2
  exact ⟨rfl, HZ.out⟩
set_option maxHeartbeats 1000000 in
theorem refRune_no1 (s : ByteArray) (w : World) (b0 : Nat) (hs : s.size ≤ 9223372036854775807) (hn : 1 ≤ s.size) (hb0 : (s[0]'(by omega)).toNat = b0) (a0 : 0 ≤ b0) (a1 : b0 ≤ 191) (hm : ¬ (str (utfI ((b0 : Int)))).toList = (s.extract 0 1).toList) : Calls Tryd.prog 62 #[.string s] w (RuQ (0, 0) w) := by
  have h0 : ((s.size : Int) == 0) = false := by rw [beq_eq_false_iff_ne]; omega
  have h1 : (s.size == 0) = false := by rw [beq_eq_false_iff_ne]; omega
  have g240 : decide (240 ≤ (b0 : Int)) = false := decide_eq_false (by omega)
  have g224 : decide (224 ≤ (b0 : Int)) = false := decide_eq_false (by omega)
  have g192 : decide (192 ≤ (b0 : Int)) = false := decide_eq_false (by omega)
  have gs : decide ((s.size : Int) < 1) = false := decide_eq_false (by omega)
  have HM := Lib.hid hm
  clear hm
  go_enter Tryd.func62, Tryd.ntmps62
  go_wp2
  refine wp_loop_rounds 1 ?_
  rw [rounds_succ]
  go_wp2
  refine Mono.region_below (by kernel_rfl) (by kernel_rfl) (by kernel_rfl) ?_
  refine Mono.rgl_val (v := ?v0) rfl Mono.rr (fun ρ a W hR hd hf => ?h0) ?_
  case h0 =>
    have e4 := Mono.init_get hf (t := 4) (by kernel_rfl)
    clear hd hf
    (go_simp; try with_reducible rfl)
  refine Mono.rgl_call (fun z W => Byt W W.heap.size z (utfI ((b0 : Int)))) rfl Mono.rr (fun _ _ _ h hb => (h.below hb).mono hb.size) (fun ρ a W hR hd hf => ?h1) ?_
  case h1 =>
    have e52 := Mono.dep_val hd hf (t := 52) (k := 0) (by kernel_rfl) rfl
    clear hd hf
    refine ⟨_, _, by go_simp; first | rfl | exact ⟨rfl, rfl⟩, ?_⟩
    exact (utf_any _ W).mono (fun e W' ⟨v', he, ho, hb⟩ => ⟨v', he, hb, ho⟩)
  refine Mono.rgl_val (v := ?v2) rfl Mono.rr (fun ρ a W hR hd hf => ?h2) ?_
  case h2 =>
    obtain ⟨e53, d1⟩ := Mono.dep_get hd hf (t := 53) (k := 1) (by kernel_rfl)
    replace d1 : (fun z W => Byt W W.heap.size z (utfI ((b0 : Int)))) (ρ 1) W := d1
    have hcv := convert_byt Tryd.underlying31 Tryd.underlying5 Tryd.underlying9 (d1)
    clear hd hf
    (go_simp; try with_reducible rfl)
  refine Mono.rgl_val (v := ?v3) rfl Mono.rr (fun ρ a W hR hd hf => ?h3) ?_
  case h3 =>
    have e0 := Mono.init_get hf (t := 0) (by kernel_rfl)
    clear hd hf
    (go_simp; try with_reducible rfl)
  refine Mono.rgl_val (v := ?v4) rfl Mono.rr (fun ρ a W hR hd hf => ?h4) ?_
  case h4 =>
    have e5 := Mono.init_get hf (t := 5) (by kernel_rfl)
    clear hd hf
    (go_simp; try with_reducible rfl)
  refine Mono.rgl_val (v := .string (s.extract 0 1)) rfl Mono.rr (fun ρ a W hR hd hf => ?h5) ?_
  case h5 =>
    have e55 := Mono.dep_val hd hf (t := 55) (k := 3) (by kernel_rfl) rfl
    have e56 := Mono.dep_val hd hf (t := 56) (k := 4) (by kernel_rfl) rfl
    have hle : (1 : Int) ≤ (s.size : Int) := by omega
    clear hd hf
    (go_simp; try with_reducible rfl)
  refine Mono.rgl_val (v := .bool true) rfl Mono.rr (fun ρ a W hR hd hf => ?h6) ?_
  case h6 =>
    have e54 := Mono.dep_val hd hf (t := 54) (k := 2) (by kernel_rfl) rfl
    have e57 := Mono.dep_val hd hf (t := 57) (k := 5) (by kernel_rfl) rfl
    clear hd hf
    (go_simp; exact HM.out)
  refine Mono.rgl_done rfl (fun ρ W hR ht => ?_)
  obtain ⟨d6, d5, d4, d3, d2, d1, d0, _⟩ := ht
  replace d1 : (fun z W => Byt W W.heap.size z (utfI ((b0 : Int)))) (ρ 1) W := d1
  simp only [List.length_cons, List.length_nil, Nat.reduceAdd] at d0 d2 d3 d4 d5 d6
  simp only [Mono.putAll, Nat.reduceAdd, d0, d2, d3, d4, d5, d6, Act.put, List.setIfInBounds_toArray, List.set_cons_zero, List.set_cons_succ]
  clear d0 d2 d3 d4 d5 d6
  generalize ρ 1 = r1 at *
  have HZ : Hid (Below w.heap.size w W) := hR
  clear hR d1
  go_wp2
  go_ret2
  exact ⟨rfl, HZ.out⟩
set_option maxHeartbeats 1000000 in
theorem refRune_yes2 (s : ByteArray) (w : World) (b0 b1 : Nat) (hs : s.size ≤ 9223372036854775807) (hn : 2 ≤ s.size) (hb0 : (s[0]'(by omega)).toNat = b0) (hb1 : (s[1]'(by omega)).toNat = b1) (a0 : 192 ≤ b0) (a1 : b0 ≤ 223) (c1 : 128 ≤ b1) (c1' : b1 ≤ 191) (hm : (str (utfI (((b0 : Int) - 192) * 64 + (b1 : Int) - 128))).toList = (s.extract 0 2).toList) : Calls Tryd.prog 62 #[.string s] w (RuI (((b0 : Int) - 192) * 64 + (b1 : Int) - 128) 2 w) := by
  have h0 : ((s.size : Int) == 0) = false := by rw [beq_eq_false_iff_ne]; omega
  have h1 : (s.size == 0) = false := by rw [beq_eq_false_iff_ne]; omega
  have g240 : decide (240 ≤ (b0 : Int)) = false := decide_eq_false (by omega)
  have g224 : decide (224 ≤ (b0 : Int)) = false := decide_eq_false (by omega)
  have g192 : decide (192 ≤ (b0 : Int)) = true := decide_eq_true (by omega)
  have gs : decide ((s.size : Int) < 2) = false := decide_eq_false (by omega)
  have p1 : decide ((b1 : Int) < 128) = false := decide_eq_false (by omega)
  have q1 : decide (191 < (b1 : Int)) = false := decide_eq_false (by omega)
  have HM := Lib.hid hm
  clear hm
  go_enter Tryd.func62, Tryd.ntmps62
  go_wp2
  refine wp_loop_rounds 2 ?_
  rw [rounds_succ]
  go_wp2
  rw [rounds_succ]
  go_wp2
  refine Mono.region_below (by kernel_rfl) (by kernel_rfl) (by kernel_rfl) ?_
  refine Mono.rgl_val (v := ?v0) rfl Mono.rr (fun ρ a W hR hd hf => ?h0) ?_
  case h0 =>
    have e4 := Mono.init_get hf (t := 4) (by kernel_rfl)
    clear hd hf
    (go_simp; try with_reducible rfl)
  refine Mono.rgl_call (fun z W => Byt W W.heap.size z (utfI (((b0 : Int) - 192) * 64 + (b1 : Int) - 128))) rfl Mono.rr (fun _ _ _ h hb => (h.below hb).mono hb.size) (fun ρ a W hR hd hf => ?h1) ?_
  case h1 =>
    have e52 := Mono.dep_val hd hf (t := 52) (k := 0) (by kernel_rfl) rfl
    clear hd hf
    refine ⟨_, _, by go_simp; first | rfl | exact ⟨rfl, rfl⟩, ?_⟩
    exact (utf_any _ W).mono (fun e W' ⟨v', he, ho, hb⟩ => ⟨v', he, hb, ho⟩)
  refine Mono.rgl_val (v := ?v2) rfl Mono.rr (fun ρ a W hR hd hf => ?h2) ?_
  case h2 =>
    obtain ⟨e53, d1⟩ := Mono.dep_get hd hf (t := 53) (k := 1) (by kernel_rfl)
    replace d1 : (fun z W => Byt W W.heap.size z (utfI (((b0 : Int) - 192) * 64 + (b1 : Int) - 128))) (ρ 1) W := d1
    have hcv := convert_byt Tryd.underlying31 Tryd.underlying5 Tryd.underlying9 (d1)
    clear hd hf
    (go_simp; try with_reducible rfl)
  refine Mono.rgl_val (v := ?v3) rfl Mono.rr (fun ρ a W hR hd hf => ?h3) ?_
  case h3 =>
    have e0 := Mono.init_get hf (t := 0) (by kernel_rfl)
    clear hd hf
    (go_simp; try with_reducible rfl)
  refine Mono.rgl_val (v := ?v4) rfl Mono.rr (fun ρ a W hR hd hf => ?h4) ?_
  case h4 =>
    have e5 := Mono.init_get hf (t := 5) (by kernel_rfl)
    clear hd hf
    (go_simp; try with_reducible rfl)
  refine Mono.rgl_val (v := .string (s.extract 0 2)) rfl Mono.rr (fun ρ a W hR hd hf => ?h5) ?_
  case h5 =>
    have e55 := Mono.dep_val hd hf (t := 55) (k := 3) (by kernel_rfl) rfl
    have e56 := Mono.dep_val hd hf (t := 56) (k := 4) (by kernel_rfl) rfl
    have hle : (2 : Int) ≤ (s.size : Int) := by omega
    clear hd hf
    (go_simp; try with_reducible rfl)
  refine Mono.rgl_val (v := .bool false) rfl Mono.rr (fun ρ a W hR hd hf => ?h6) ?_
  case h6 =>
    have e54 := Mono.dep_val hd hf (t := 54) (k := 2) (by kernel_rfl) rfl
    have e57 := Mono.dep_val hd hf (t := 57) (k := 5) (by kernel_rfl) rfl
    clear hd hf
    (go_simp; exact HM.out)
  refine Mono.rgl_done rfl (fun ρ W hR ht => ?_)
  obtain ⟨d6, d5, d4, d3, d2, d1, d0, _⟩ := ht
  replace d1 : (fun z W => Byt W W.heap.size z (utfI (((b0 : Int) - 192) * 64 + (b1 : Int) - 128))) (ρ 1) W := d1
  simp only [List.length_cons, List.length_nil, Nat.reduceAdd] at d0 d2 d3 d4 d5 d6
  simp only [Mono.putAll, Nat.reduceAdd, d0, d2, d3, d4, d5, d6, Act.put, List.setIfInBounds_toArray, List.set_cons_zero, List.set_cons_succ]
  clear d0 d2 d3 d4 d5 d6
  generalize ρ 1 = r1 at *
  have HZ : Hid (Below w.heap.size w W) := hR
  clear hR d1
  go_wp2
  go_ret2
  exact ⟨rfl, HZ.out⟩
set_option maxHeartbeats 1000000 in
theorem refRune_no2 (s : ByteArray) (w : World) (b0 b1 : Nat) (hs : s.size ≤ 9223372036854775807) (hn : 2 ≤ s.size) (hb0 : (s[0]'(by omega)).toNat = b0) (hb1 : (s[1]'(by omega)).toNat = b1) (a0 : 192 ≤ b0) (a1 : b0 ≤ 223) (c1 : 128 ≤ b1) (c1' : b1 ≤ 191) (hm : ¬ (str (utfI (((b0 : Int) - 192) * 64 + (b1 : Int) - 128))).toList = (s.extract 0 2).toList) : Calls Tryd.prog 62 #[.string s] w (RuQ (0, 0) w) := by
  have h0 : ((s.size : Int) == 0) = false := by rw [beq_eq_false_iff_ne]; omega
  have h1 : (s.size == 0) = false := by rw [beq_eq_false_iff_ne]; omega
  have g240 : decide (240 ≤ (b0 : Int)) = false := decide_eq_false (by omega)
  have g224 : decide (224 ≤ (b0 : Int)) = false := decide_eq_false (by omega)
  have g192 : decide (192 ≤ (b0 : Int)) = true := decide_eq_true (by omega)
  have gs : decide ((s.size : Int) < 2) = false := decide_eq_false (by omega)
  have p1 : decide ((b1 : Int) < 128) = false := decide_eq_false (by omega)
  have q1 : decide (191 < (b1 : Int)) = false := decide_eq_false (by omega)
  have HM := Lib.hid hm
  clear hm
  go_enter Tryd.func62, Tryd.ntmps62
  go_wp2
  refine wp_loop_rounds 2 ?_
  rw [rounds_succ]
  go_wp2
  rw [rounds_succ]
  go_wp2
  refine Mono.region_below (by kernel_rfl) (by kernel_rfl) (by kernel_rfl) ?_
  refine Mono.rgl_val (v := ?v0) rfl Mono.rr (fun ρ a W hR hd hf => ?h0) ?_
  case h0 =>
    have e4 := Mono.init_get hf (t := 4) (by kernel_rfl)
    clear hd hf
    (go_simp; try with_reducible rfl)
  refine Mono.rgl_call (fun z W => Byt W W.heap.size z (utfI (((b0 : Int) - 192) * 64 + (b1 : Int) - 128))) rfl Mono.rr (fun _ _ _ h hb => (h.below hb).mono hb.size) (fun ρ a W hR hd hf => ?h1) ?_
  case h1 =>
    have e52 := Mono.dep_val hd hf (t := 52) (k := 0) (by kernel_rfl) rfl
    clear hd hf
    refine ⟨_, _, by go_simp; first | rfl | exact ⟨rfl, rfl⟩, ?_⟩
    exact (utf_any _ W).mono (fun e W' ⟨v', he, ho, hb⟩ => ⟨v', he, hb, ho⟩)
  refine Mono.rgl_val (v := ?v2) rfl Mono.rr (fun ρ a W hR hd hf => ?h2) ?_
  case h2 =>
    obtain ⟨e53, d1⟩ := Mono.dep_get hd hf (t := 53) (k := 1) (by kernel_rfl)
    replace d1 : (fun z W => Byt W W.heap.size z (utfI (((b0 : Int) - 192) * 64 + (b1 : Int) - 128))) (ρ 1) W := d1
    have hcv := convert_byt Tryd.underlying31 Tryd.underlying5 Tryd.underlying9 (d1)
    clear hd hf
    (go_simp; try with_reducible rfl)
  refine Mono.rgl_val (v := ?v3) rfl Mono.rr (fun ρ a W hR hd hf => ?h3) ?_
  case h3 =>
    have e0 := Mono.init_get hf (t := 0) (by kernel_rfl)
    clear hd hf
    (go_simp; try with_reducible rfl)
  refine Mono.rgl_val (v := ?v4) rfl Mono.rr (fun ρ a W hR hd hf => ?h4) ?_
  case h4 =>
    have e5 := Mono.init_get hf (t := 5) (by kernel_rfl)
    clear hd hf
    (go_simp; try with_reducible rfl)
  refine Mono.rgl_val (v := .string (s.extract 0 2)) rfl Mono.rr (fun ρ a W hR hd hf => ?h5) ?_
  case h5 =>
    have e55 := Mono.dep_val hd hf (t := 55) (k := 3) (by kernel_rfl) rfl
    have e56 := Mono.dep_val hd hf (t := 56) (k := 4) (by kernel_rfl) rfl
    have hle : (2 : Int) ≤ (s.size : Int) := by omega
    clear hd hf
    (go_simp; try with_reducible rfl)
  refine Mono.rgl_val (v := .bool true) rfl Mono.rr (fun ρ a W hR hd hf => ?h6) ?_
  case h6 =>
    have e54 := Mono.dep_val hd hf (t := 54) (k := 2) (by kernel_rfl) rfl
    have e57 := Mono.dep_val hd hf (t := 57) (k := 5) (by kernel_rfl) rfl
    clear hd hf
    (go_simp; exact HM.out)
  refine Mono.rgl_done rfl (fun ρ W hR ht => ?_)
  obtain ⟨d6, d5, d4, d3, d2, d1, d0, _⟩ := ht
  replace d1 : (fun z W => Byt W W.heap.size z (utfI (((b0 : Int) - 192) * 64 + (b1 : Int) - 128))) (ρ 1) W := d1
  simp only [List.length_cons, List.length_nil, Nat.reduceAdd] at d0 d2 d3 d4 d5 d6
  simp only [Mono.putAll, Nat.reduceAdd, d0, d2, d3, d4, d5, d6, Act.put, List.setIfInBounds_toArray, List.set_cons_zero, List.set_cons_succ]
  clear d0 d2 d3 d4 d5 d6
  generalize ρ 1 = r1 at *
  have HZ : Hid (Below w.heap.size w W) := hR
  clear hR d1
  go_wp2
  go_ret2
  exact ⟨rfl, HZ.out⟩
set_option maxHeartbeats 1000000 in
theorem refRune_yes3 (s : ByteArray) (w : World) (b0 b1 b2 : Nat) (hs : s.size ≤ 9223372036854775807) (hn : 3 ≤ s.size) (hb0 : (s[0]'(by omega)).toNat = b0) (hb1 : (s[1]'(by omega)).toNat = b1) (hb2 : (s[2]'(by omega)).toNat = b2) (a0 : 224 ≤ b0) (a1 : b0 ≤ 239) (c1 : 128 ≤ b1) (c1' : b1 ≤ 191) (c2 : 128 ≤ b2) (c2' : b2 ≤ 191) (hm : (str (utfI ((((b0 : Int) - 224) * 64 + (b1 : Int) - 128) * 64 + (b2 : Int) - 128))).toList = (s.extract 0 3).toList) : Calls Tryd.prog 62 #[.string s] w (RuI ((((b0 : Int) - 224) * 64 + (b1 : Int) - 128) * 64 + (b2 : Int) - 128) 3 w) := by
  have h0 : ((s.size : Int) == 0) = false := by rw [beq_eq_false_iff_ne]; omega
  have h1 : (s.size == 0) = false := by rw [beq_eq_false_iff_ne]; omega
  have g240 : decide (240 ≤ (b0 : Int)) = false := decide_eq_false (by omega)
  have g224 : decide (224 ≤ (b0 : Int)) = true := decide_eq_true (by omega)
  have gs : decide ((s.size : Int) < 3) = false := decide_eq_false (by omega)
  have p1 : decide ((b1 : Int) < 128) = false := decide_eq_false (by omega)
  have q1 : decide (191 < (b1 : Int)) = false := decide_eq_false (by omega)
  have p2 : decide ((b2 : Int) < 128) = false := decide_eq_false (by omega)
  have q2 : decide (191 < (b2 : Int)) = false := decide_eq_false (by omega)
  have HM := Lib.hid hm
  clear hm
  go_enter Tryd.func62, Tryd.ntmps62
  go_wp2
  refine wp_loop_rounds 3 ?_
  rw [rounds_succ]
  go_wp2
  rw [rounds_succ]
  go_wp2
  rw [rounds_succ]
  go_wp2
  refine Mono.region_below (by kernel_rfl) (by kernel_rfl) (by kernel_rfl) ?_
  refine Mono.rgl_val (v := ?v0) rfl Mono.rr (fun ρ a W hR hd hf => ?h0) ?_
  case h0 =>
    have e4 := Mono.init_get hf (t := 4) (by kernel_rfl)
    clear hd hf
    (go_simp; try with_reducible rfl)
  refine Mono.rgl_call (fun z W => Byt W W.heap.size z (utfI ((((b0 : Int) - 224) * 64 + (b1 : Int) - 128) * 64 + (b2 : Int) - 128))) rfl Mono.rr (fun _ _ _ h hb => (h.below hb).mono hb.size) (fun ρ a W hR hd hf => ?h1) ?_
  case h1 =>
    have e52 := Mono.dep_val hd hf (t := 52) (k := 0) (by kernel_rfl) rfl
    clear hd hf
    refine ⟨_, _, by go_simp; first | rfl | exact ⟨rfl, rfl⟩, ?_⟩
    exact (utf_any _ W).mono (fun e W' ⟨v', he, ho, hb⟩ => ⟨v', he, hb, ho⟩)
  refine Mono.rgl_val (v := ?v2) rfl Mono.rr (fun ρ a W hR hd hf => ?h2) ?_
  case h2 =>
    obtain ⟨e53, d1⟩ := Mono.dep_get hd hf (t := 53) (k := 1) (by kernel_rfl)
    replace d1 : (fun z W => Byt W W.heap.size z (utfI ((((b0 : Int) - 224) * 64 + (b1 : Int) - 128) * 64 + (b2 : Int) - 128))) (ρ 1) W := d1
    have hcv := convert_byt Tryd.underlying31 Tryd.underlying5 Tryd.underlying9 (d1)
    clear hd hf
    (go_simp; try with_reducible rfl)
  refine Mono.rgl_val (v := ?v3) rfl Mono.rr (fun ρ a W hR hd hf => ?h3) ?_
  case h3 =>
    have e0 := Mono.init_get hf (t := 0) (by kernel_rfl)
    clear hd hf
    (go_simp; try with_reducible rfl)
  refine Mono.rgl_val (v := ?v4) rfl Mono.rr (fun ρ a W hR hd hf => ?h4) ?_
  case h4 =>
    have e5 := Mono.init_get hf (t := 5) (by kernel_rfl)
    clear hd hf
    (go_simp; try with_reducible rfl)
  refine Mono.rgl_val (v := .string (s.extract 0 3)) rfl Mono.rr (fun ρ a W hR hd hf => ?h5) ?_
  case h5 =>
    have e55 := Mono.dep_val hd hf (t := 55) (k := 3) (by kernel_rfl) rfl
    have e56 := Mono.dep_val hd hf (t := 56) (k := 4) (by kernel_rfl) rfl
    have hle : (3 : Int) ≤ (s.size : Int) := by omega
    clear hd hf
    (go_simp; try with_reducible rfl)
  refine Mono.rgl_val (v := .bool false) rfl Mono.rr (fun ρ a W hR hd hf => ?h6) ?_
  case h6 =>
    have e54 := Mono.dep_val hd hf (t := 54) (k := 2) (by kernel_rfl) rfl
    have e57 := Mono.dep_val hd hf (t := 57) (k := 5) (by kernel_rfl) rfl
    clear hd hf
    (go_simp; exact HM.out)
  refine Mono.rgl_done rfl (fun ρ W hR ht => ?_)
  obtain ⟨d6, d5, d4, d3, d2, d1, d0, _⟩ := ht
  replace d1 : (fun z W => Byt W W.heap.size z (utfI ((((b0 : Int) - 224) * 64 + (b1 : Int) - 128) * 64 + (b2 : Int) - 128))) (ρ 1) W := d1
  simp only [List.length_cons, List.length_nil, Nat.reduceAdd] at d0 d2 d3 d4 d5 d6
  simp only [Mono.putAll, Nat.reduceAdd, d0, d2, d3, d4, d5, d6, Act.put, List.setIfInBounds_toArray, List.set_cons_zero, List.set_cons_succ]
  clear d0 d2 d3 d4 d5 d6
  generalize ρ 1 = r1 at *
  have HZ : Hid (Below w.heap.size w W) := hR
  clear hR d1
  go_wp2
  go_ret2
  exact ⟨rfl, HZ.out⟩
set_option maxHeartbeats 1000000 in
theorem refRune_no3 (s : ByteArray) (w : World) (b0 b1 b2 : Nat) (hs : s.size ≤ 9223372036854775807) (hn : 3 ≤ s.size) (hb0 : (s[0]'(by omega)).toNat = b0) (hb1 : (s[1]'(by omega)).toNat = b1) (hb2 : (s[2]'(by omega)).toNat = b2) (a0 : 224 ≤ b0) (a1 : b0 ≤ 239) (c1 : 128 ≤ b1) (c1' : b1 ≤ 191) (c2 : 128 ≤ b2) (c2' : b2 ≤ 191) (hm : ¬ (str (utfI ((((b0 : Int) - 224) * 64 + (b1 : Int) - 128) * 64 + (b2 : Int) - 128))).toList = (s.extract 0 3).toList) : Calls Tryd.prog 62 #[.string s] w (RuQ (0, 0) w) := by
  have h0 : ((s.size : Int) == 0) = false := by rw [beq_eq_false_iff_ne]; omega
  have h1 : (s.size == 0) = false := by rw [beq_eq_false_iff_ne]; omega
  have g240 : decide (240 ≤ (b0 : Int)) = false := decide_eq_false (by omega)
  have g224 : decide (224 ≤ (b0 : Int)) = true := decide_eq_true (by omega)
  have gs : decide ((s.size : Int) < 3) = false := decide_eq_false (by omega)
  have p1 : decide ((b1 : Int) < 128) = false := decide_eq_false (by omega)
  have q1 : decide (191 < (b1 : Int)) = false := decide_eq_false (by omega)
  have p2 : decide ((b2 : Int) < 128) = false := decide_eq_false (by omega)
  have q2 : decide (191 < (b2 : Int)) = false := decide_eq_false (by omega)
  have HM := Lib.hid hm
  clear hm
  go_enter Tryd.func62, Tryd.ntmps62
  go_wp2
  refine wp_loop_rounds 3 ?_
  rw [rounds_succ]
  go_wp2
  rw [rounds_succ]
  go_wp2
  rw [rounds_succ]
  go_wp2
  refine Mono.region_below (by kernel_rfl) (by kernel_rfl) (by kernel_rfl) ?_
  refine Mono.rgl_val (v := ?v0) rfl Mono.rr (fun ρ a W hR hd hf => ?h0) ?_
  case h0 =>
    have e4 := Mono.init_get hf (t := 4) (by kernel_rfl)
    clear hd hf
    (go_simp; try with_reducible rfl)
  refine Mono.rgl_call (fun z W => Byt W W.heap.size z (utfI ((((b0 : Int) - 224) * 64 + (b1 : Int) - 128) * 64 + (b2 : Int) - 128))) rfl Mono.rr (fun _ _ _ h hb => (h.below hb).mono hb.size) (fun ρ a W hR hd hf => ?h1) ?_
  case h1 =>
    have e52 := Mono.dep_val hd hf (t := 52) (k := 0) (by kernel_rfl) rfl
    clear hd hf
    refine ⟨_, _, by go_simp; first | rfl | exact ⟨rfl, rfl⟩, ?_⟩
    exact (utf_any _ W).mono (fun e W' ⟨v', he, ho, hb⟩ => ⟨v', he, hb, ho⟩)
  refine Mono.rgl_val (v := ?v2) rfl Mono.rr (fun ρ a W hR hd hf => ?h2) ?_
  case h2 =>
    obtain ⟨e53, d1⟩ := Mono.dep_get hd hf (t := 53) (k := 1) (by kernel_rfl)
    replace d1 : (fun z W => Byt W W.heap.size z (utfI ((((b0 : Int) - 224) * 64 + (b1 : Int) - 128) * 64 + (b2 : Int) - 128))) (ρ 1) W := d1
    have hcv := convert_byt Tryd.underlying31 Tryd.underlying5 Tryd.underlying9 (d1)
    clear hd hf
    (go_simp; try with_reducible rfl)
  refine Mono.rgl_val (v := ?v3) rfl Mono.rr (fun ρ a W hR hd hf => ?h3) ?_
  case h3 =>
    have e0 := Mono.init_get hf (t := 0) (by kernel_rfl)
    clear hd hf
    (go_simp; try with_reducible rfl)
  refine Mono.rgl_val (v := ?v4) rfl Mono.rr (fun ρ a W hR hd hf => ?h4) ?_
  case h4 =>
    have e5 := Mono.init_get hf (t := 5) (by kernel_rfl)
    clear hd hf
    (go_simp; try with_reducible rfl)
  refine Mono.rgl_val (v := .string (s.extract 0 3)) rfl Mono.rr (fun ρ a W hR hd hf => ?h5) ?_
  case h5 =>
    have e55 := Mono.dep_val hd hf (t := 55) (k := 3) (by kernel_rfl) rfl
    have e56 := Mono.dep_val hd hf (t := 56) (k := 4) (by kernel_rfl) rfl
    have hle : (3 : Int) ≤ (s.size : Int) := by omega
    clear hd hf
    (go_simp; try with_reducible rfl)
  refine Mono.rgl_val (v := .bool true) rfl Mono.rr (fun ρ a W hR hd hf => ?h6) ?_
  case h6 =>
    have e54 := Mono.dep_val hd hf (t := 54) (k := 2) (by kernel_rfl) rfl
    have e57 := Mono.dep_val hd hf (t := 57) (k := 5) (by kernel_rfl) rfl
    clear hd hf
    (go_simp; exact HM.out)
  refine Mono.rgl_done rfl (fun ρ W hR ht => ?_)
  obtain ⟨d6, d5, d4, d3, d2, d1, d0, _⟩ := ht
  replace d1 : (fun z W => Byt W W.heap.size z (utfI ((((b0 : Int) - 224) * 64 + (b1 : Int) - 128) * 64 + (b2 : Int) - 128))) (ρ 1) W := d1
  simp only [List.length_cons, List.length_nil, Nat.reduceAdd] at d0 d2 d3 d4 d5 d6
  simp only [Mono.putAll, Nat.reduceAdd, d0, d2, d3, d4, d5, d6, Act.put, List.setIfInBounds_toArray, List.set_cons_zero, List.set_cons_succ]
  clear d0 d2 d3 d4 d5 d6
  generalize ρ 1 = r1 at *
  have HZ : Hid (Below w.heap.size w W) := hR
  clear hR d1
  go_wp2
  go_ret2
  exact ⟨rfl, HZ.out⟩
set_option maxHeartbeats 1000000 in
theorem refRune_yes4 (s : ByteArray) (w : World) (b0 b1 b2 b3 : Nat) (hs : s.size ≤ 9223372036854775807) (hn : 4 ≤ s.size) (hb0 : (s[0]'(by omega)).toNat = b0) (hb1 : (s[1]'(by omega)).toNat = b1) (hb2 : (s[2]'(by omega)).toNat = b2) (hb3 : (s[3]'(by omega)).toNat = b3) (a0 : 240 ≤ b0) (a1 : b0 ≤ 255) (c1 : 128 ≤ b1) (c1' : b1 ≤ 191) (c2 : 128 ≤ b2) (c2' : b2 ≤ 191) (c3 : 128 ≤ b3) (c3' : b3 ≤ 191) (hm : (str (utfI (((((b0 : Int) - 240) * 64 + (b1 : Int) - 128) * 64 + (b2 : Int) - 128) * 64 + (b3 : Int) - 128))).toList = (s.extract 0 4).toList) : Calls Tryd.prog 62 #[.string s] w (RuI (((((b0 : Int) - 240) * 64 + (b1 : Int) - 128) * 64 + (b2 : Int) - 128) * 64 + (b3 : Int) - 128) 4 w) := by
  have h0 : ((s.size : Int) == 0) = false := by rw [beq_eq_false_iff_ne]; omega
  have h1 : (s.size == 0) = false := by rw [beq_eq_false_iff_ne]; omega
  have g240 : decide (240 ≤ (b0 : Int)) = true := decide_eq_true (by omega)
  have gs : decide ((s.size : Int) < 4) = false := decide_eq_false (by omega)
  have p1 : decide ((b1 : Int) < 128) = false := decide_eq_false (by omega)
  have q1 : decide (191 < (b1 : Int)) = false := decide_eq_false (by omega)
  have p2 : decide ((b2 : Int) < 128) = false := decide_eq_false (by omega)
  have q2 : decide (191 < (b2 : Int)) = false := decide_eq_false (by omega)
  have p3 : decide ((b3 : Int) < 128) = false := decide_eq_false (by omega)
  have q3 : decide (191 < (b3 : Int)) = false := decide_eq_false (by omega)
  have HM := Lib.hid hm
  clear hm
  go_enter Tryd.func62, Tryd.ntmps62
  go_wp2
  refine wp_loop_rounds 4 ?_
  rw [rounds_succ]
  go_wp2
  rw [rounds_succ]
  go_wp2
  rw [rounds_succ]
  go_wp2
  rw [rounds_succ]
  go_wp2
  refine Mono.region_below (by kernel_rfl) (by kernel_rfl) (by kernel_rfl) ?_
  refine Mono.rgl_val (v := ?v0) rfl Mono.rr (fun ρ a W hR hd hf => ?h0) ?_
  case h0 =>
    have e4 := Mono.init_get hf (t := 4) (by kernel_rfl)
    clear hd hf
    (go_simp; try with_reducible rfl)
  refine Mono.rgl_call (fun z W => Byt W W.heap.size z (utfI (((((b0 : Int) - 240) * 64 + (b1 : Int) - 128) * 64 + (b2 : Int) - 128) * 64 + (b3 : Int) - 128))) rfl Mono.rr (fun _ _ _ h hb => (h.below hb).mono hb.size) (fun ρ a W hR hd hf => ?h1) ?_
  case h1 =>
    have e52 := Mono.dep_val hd hf (t := 52) (k := 0) (by kernel_rfl) rfl
    clear hd hf
    refine ⟨_, _, by go_simp; first | rfl | exact ⟨rfl, rfl⟩, ?_⟩
    exact (utf_any _ W).mono (fun e W' ⟨v', he, ho, hb⟩ => ⟨v', he, hb, ho⟩)
  refine Mono.rgl_val (v := ?v2) rfl Mono.rr (fun ρ a W hR hd hf => ?h2) ?_
  case h2 =>
    obtain ⟨e53, d1⟩ := Mono.dep_get hd hf (t := 53) (k := 1) (by kernel_rfl)
    replace d1 : (fun z W => Byt W W.heap.size z (utfI (((((b0 : Int) - 240) * 64 + (b1 : Int) - 128) * 64 + (b2 : Int) - 128) * 64 + (b3 : Int) - 128))) (ρ 1) W := d1
    have hcv := convert_byt Tryd.underlying31 Tryd.underlying5 Tryd.underlying9 (d1)
    clear hd hf
    (go_simp; try with_reducible rfl)
  refine Mono.rgl_val (v := ?v3) rfl Mono.rr (fun ρ a W hR hd hf => ?h3) ?_
  case h3 =>
    have e0 := Mono.init_get hf (t := 0) (by kernel_rfl)
    clear hd hf
    (go_simp; try with_reducible rfl)
  refine Mono.rgl_val (v := ?v4) rfl Mono.rr (fun ρ a W hR hd hf => ?h4) ?_
  case h4 =>
    have e5 := Mono.init_get hf (t := 5) (by kernel_rfl)
    clear hd hf
    (go_simp; try with_reducible rfl)
  refine Mono.rgl_val (v := .string (s.extract 0 4)) rfl Mono.rr (fun ρ a W hR hd hf => ?h5) ?_
  case h5 =>
    have e55 := Mono.dep_val hd hf (t := 55) (k := 3) (by kernel_rfl) rfl
    have e56 := Mono.dep_val hd hf (t := 56) (k := 4) (by kernel_rfl) rfl
    have hle : (4 : Int) ≤ (s.size : Int) := by omega
    clear hd hf
    (go_simp; try with_reducible rfl)
  refine Mono.rgl_val (v := .bool false) rfl Mono.rr (fun ρ a W hR hd hf => ?h6) ?_
  case h6 =>
    have e54 := Mono.dep_val hd hf (t := 54) (k := 2) (by kernel_rfl) rfl
    have e57 := Mono.dep_val hd hf (t := 57) (k := 5) (by kernel_rfl) rfl
    clear hd hf
    (go_simp; exact HM.out)
  refine Mono.rgl_done rfl (fun ρ W hR ht => ?_)
  obtain ⟨d6, d5, d4, d3, d2, d1, d0, _⟩ := ht
  replace d1 : (fun z W => Byt W W.heap.size z (utfI (((((b0 : Int) - 240) * 64 + (b1 : Int) - 128) * 64 + (b2 : Int) - 128) * 64 + (b3 : Int) - 128))) (ρ 1) W := d1
  simp only [List.length_cons, List.length_nil, Nat.reduceAdd] at d0 d2 d3 d4 d5 d6
  simp only [Mono.putAll, Nat.reduceAdd, d0, d2, d3, d4, d5, d6, Act.put, List.setIfInBounds_toArray, List.set_cons_zero, List.set_cons_succ]
  clear d0 d2 d3 d4 d5 d6
  generalize ρ 1 = r1 at *
  have HZ : Hid (Below w.heap.size w W) := hR
  clear hR d1
  go_wp2
  go_ret2
  exact ⟨rfl, HZ.out⟩
set_option maxHeartbeats 1000000 in
theorem refRune_no4 (s : ByteArray) (w : World) (b0 b1 b2 b3 : Nat) (hs : s.size ≤ 9223372036854775807) (hn : 4 ≤ s.size) (hb0 : (s[0]'(by omega)).toNat = b0) (hb1 : (s[1]'(by omega)).toNat = b1) (hb2 : (s[2]'(by omega)).toNat = b2) (hb3 : (s[3]'(by omega)).toNat = b3) (a0 : 240 ≤ b0) (a1 : b0 ≤ 255) (c1 : 128 ≤ b1) (c1' : b1 ≤ 191) (c2 : 128 ≤ b2) (c2' : b2 ≤ 191) (c3 : 128 ≤ b3) (c3' : b3 ≤ 191) (hm : ¬ (str (utfI (((((b0 : Int) - 240) * 64 + (b1 : Int) - 128) * 64 + (b2 : Int) - 128) * 64 + (b3 : Int) - 128))).toList = (s.extract 0 4).toList) : Calls Tryd.prog 62 #[.string s] w (RuQ (0, 0) w) := by
  have h0 : ((s.size : Int) == 0) = false := by rw [beq_eq_false_iff_ne]; omega
  have h1 : (s.size == 0) = false := by rw [beq_eq_false_iff_ne]; omega
  have g240 : decide (240 ≤ (b0 : Int)) = true := decide_eq_true (by omega)
  have gs : decide ((s.size : Int) < 4) = false := decide_eq_false (by omega)
  have p1 : decide ((b1 : Int) < 128) = false := decide_eq_false (by omega)
  have q1 : decide (191 < (b1 : Int)) = false := decide_eq_false (by omega)
  have p2 : decide ((b2 : Int) < 128) = false := decide_eq_false (by omega)
  have q2 : decide (191 < (b2 : Int)) = false := decide_eq_false (by omega)
  have p3 : decide ((b3 : Int) < 128) = false := decide_eq_false (by omega)
  have q3 : decide (191 < (b3 : Int)) = false := decide_eq_false (by omega)
  have HM := Lib.hid hm
  clear hm
  go_enter Tryd.func62, Tryd.ntmps62
  go_wp2
  refine wp_loop_rounds 4 ?_
  rw [rounds_succ]
  go_wp2
  rw [rounds_succ]
  go_wp2
  rw [rounds_succ]
  go_wp2
  rw [rounds_succ]
  go_wp2
  refine Mono.region_below (by kernel_rfl) (by kernel_rfl) (by kernel_rfl) ?_
  refine Mono.rgl_val (v := ?v0) rfl Mono.rr (fun ρ a W hR hd hf => ?h0) ?_
  case h0 =>
    have e4 := Mono.init_get hf (t := 4) (by kernel_rfl)
    clear hd hf
    (go_simp; try with_reducible rfl)
  refine Mono.rgl_call (fun z W => Byt W W.heap.size z (utfI (((((b0 : Int) - 240) * 64 + (b1 : Int) - 128) * 64 + (b2 : Int) - 128) * 64 + (b3 : Int) - 128))) rfl Mono.rr (fun _ _ _ h hb => (h.below hb).mono hb.size) (fun ρ a W hR hd hf => ?h1) ?_
  case h1 =>
    have e52 := Mono.dep_val hd hf (t := 52) (k := 0) (by kernel_rfl) rfl
    clear hd hf
    refine ⟨_, _, by go_simp; first | rfl | exact ⟨rfl, rfl⟩, ?_⟩
    exact (utf_any _ W).mono (fun e W' ⟨v', he, ho, hb⟩ => ⟨v', he, hb, ho⟩)
  refine Mono.rgl_val (v := ?v2) rfl Mono.rr (fun ρ a W hR hd hf => ?h2) ?_
  case h2 =>
    obtain ⟨e53, d1⟩ := Mono.dep_get hd hf (t := 53) (k := 1) (by kernel_rfl)
    replace d1 : (fun z W => Byt W W.heap.size z (utfI (((((b0 : Int) - 240) * 64 + (b1 : Int) - 128) * 64 + (b2 : Int) - 128) * 64 + (b3 : Int) - 128))) (ρ 1) W := d1
    have hcv := convert_byt Tryd.underlying31 Tryd.underlying5 Tryd.underlying9 (d1)
    clear hd hf
    (go_simp; try with_reducible rfl)
  refine Mono.rgl_val (v := ?v3) rfl Mono.rr (fun ρ a W hR hd hf => ?h3) ?_
  case h3 =>
    have e0 := Mono.init_get hf (t := 0) (by kernel_rfl)
    clear hd hf
    (go_simp; try with_reducible rfl)
  refine Mono.rgl_val (v := ?v4) rfl Mono.rr (fun ρ a W hR hd hf => ?h4) ?_
  case h4 =>
    have e5 := Mono.init_get hf (t := 5) (by kernel_rfl)
    clear hd hf
    (go_simp; try with_reducible rfl)
  refine Mono.rgl_val (v := .string (s.extract 0 4)) rfl Mono.rr (fun ρ a W hR hd hf => ?h5) ?_
  case h5 =>
    have e55 := Mono.dep_val hd hf (t := 55) (k := 3) (by kernel_rfl) rfl
    have e56 := Mono.dep_val hd hf (t := 56) (k := 4) (by kernel_rfl) rfl
    have hle : (4 : Int) ≤ (s.size : Int) := by omega
    clear hd hf
    (go_simp; try with_reducible rfl)
  refine Mono.rgl_val (v := .bool true) rfl Mono.rr (fun ρ a W hR hd hf => ?h6) ?_
  case h6 =>
    have e54 := Mono.dep_val hd hf (t := 54) (k := 2) (by kernel_rfl) rfl
    have e57 := Mono.dep_val hd hf (t := 57) (k := 5) (by kernel_rfl) rfl
    clear hd hf
    (go_simp; exact HM.out)
  refine Mono.rgl_done rfl (fun ρ W hR ht => ?_)
  obtain ⟨d6, d5, d4, d3, d2, d1, d0, _⟩ := ht
  replace d1 : (fun z W => Byt W W.heap.size z (utfI (((((b0 : Int) - 240) * 64 + (b1 : Int) - 128) * 64 + (b2 : Int) - 128) * 64 + (b3 : Int) - 128))) (ρ 1) W := d1
  simp only [List.length_cons, List.length_nil, Nat.reduceAdd] at d0 d2 d3 d4 d5 d6
  simp only [Mono.putAll, Nat.reduceAdd, d0, d2, d3, d4, d5, d6, Act.put, List.setIfInBounds_toArray, List.set_cons_zero, List.set_cons_succ]
  clear d0 d2 d3 d4 d5 d6
  generalize ρ 1 = r1 at *
  have HZ : Hid (Below w.heap.size w W) := hR
  clear hR d1
  go_wp2
  go_ret2
  exact ⟨rfl, HZ.out⟩
end Go.Proofs.YtcpojpgdjjmfbaaDoor
