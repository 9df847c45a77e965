/- Contract of the page's Parse of layer 30. -/
import Derived.Test.YtfdbgbdiacpmhaaFinE
import Derived.Test.YtfdbgbdiacpmhaaMonoT
import Derived.Deep.Cut
namespace Go.Proofs.Ytfdbgbdiacpmhaa
open Go.RowKit
/-- A new block of a tail's cells. -/
def NewB (w : World) (v : Value) (W : World) : Prop := ∃ b, v = .pointer (some ⟨b, 0, none⟩) ∧ w.heap.size ≤ b ∧ b < W.heap.size ∧ Own W b [.int .i64 0, .int .i64 0, .int .i64 0, .bool false]
theorem hstNewB {w : World} : ∀ v W W', (fun v W => NewB w v W) v W → Below W.heap.size W W' → (fun v W => NewB w v W) v W' := by
  rintro v W W' ⟨b, h1, h2, h3, h4⟩ hb
  exact ⟨b, h1, h2, Nat.lt_of_lt_of_le h3 hb.size, h4.below hb h3⟩
theorem NewB.new {w W : World} (hR : Below w.heap.size w W) : NewB w (.pointer (some ⟨W.heap.size, 0, none⟩)) (W.alloc (.cells #[.int .i64 0, .int .i64 0, .int .i64 0, .bool false] 30)) :=
  ⟨_, rfl, hR.size, by simp, Own.new_at W [.int .i64 0, .int .i64 0, .int .i64 0, .bool false] 30 W.heap.size rfl⟩
theorem undrew {w W : World} (h : Below w.drew.heap.size w.drew W) : Below w.heap.size w W := ⟨h.os, h.tape, h.output, h.size, h.block⟩
theorem piece {w : World} {B : Nat} {ad : Option Addr} {c : Nat} {l : List UInt8} (h : Byt w B (.slice ad l.length c) l) (hc : l.length ≤ c) (k : Nat) (hk : k ≤ l.length) :
    ∃ ae ce, (∀ W : World, (Instr.slice 25 (.slice ad l.length c) (some (.int .i64 ((l.length : Int) - k))) none none).run Try.prog W = .ok (.slice ae (l.length - (l.length - k)) ce) W) ∧ l.length - (l.length - k) ≤ ce ∧ Byt w B (.slice ae (l.length - (l.length - k)) ce) (l.drop (l.length - k)) := by
  have hsl := fun W => slice_l (t := 25) (e := 5) (size := 1) rfl size_u8 ad l.length c ((l.length : Int) - k) (by omega) (by omega) W
  have hsb := sub_byt h (l.length - k) (l.length - (l.length - k)) (by omega)
  rw [show ((l.length : Int) - k).toNat = l.length - k from by omega] at hsl
  rw [List.take_of_length_le (by rw [List.length_drop]; omega)] at hsb
  exact ⟨_, _, hsl, by omega, hsb⟩
theorem piece2 {w : World} {B : Nat} (ae : Option Addr) (n ce : Nat) (m : List UInt8) (h : Byt w B (.slice ae n ce) m) (hn : m.length = n) (hc : n ≤ ce) (lo hi : Nat) (h1 : lo ≤ hi) (h2 : hi ≤ n) :
    ∃ S, (∀ W : World, (Instr.slice 25 (.slice ae n ce) (some (.int .i64 (lo : Nat))) (some (.int .i64 (hi : Nat))) none).run Try.prog W = .ok S W) ∧ Byt w B S ((m.drop lo).take (hi - lo)) := by
  subst hn
  have hsl := fun W => slice_lh (t := 25) (e := 5) (size := 1) rfl size_u8 ae m.length ce (lo : Int) (hi : Int) (by omega) (by omega) (by omega) W
  have hsb := sub_byt h lo (hi - lo) (by omega)
  rw [Int.toNat_natCast, Int.toNat_natCast] at hsl
  exact ⟨_, hsl, hsb⟩
set_option maxHeartbeats 4000000 in
set_option maxRecDepth 100000 in
theorem rparse_short (ad : Option Addr) (c : Nat) (l : List UInt8) (w : World) (h : Byt w w.heap.size (.slice ad l.length c) l) (hl : l.length ≤ 100000) (hc : l.length ≤ c) (hs : l.length < 22) : Calls Try.prog 13 #[.slice ad l.length c] w fun e w' => e = .returned (.tuple #[.agg #[.int .i64 0, .int .i64 0, .int .i64 0, .bool false], .int .i64 0]) ∧ Below w.heap.size w w' := by
  have t0 : decide ((l.length : Int) < 22) = true := by simp; omega
  have HH := Lib.hid h
  clear h
  have HP := Lib.hid (Own.new_at w [.int .i64 0, .int .i64 0, .int .i64 0, .bool false] 30 w.heap.size rfl)
  have HB := Lib.hid ((Below.refl w.heap.size w).alloc (Nat.le_refl _) (.cells #[.int .i64 0, .int .i64 0, .int .i64 0, .bool false] 30))
  go_enter Try.func13, Try.ntmps13
  go_wp2
  exact bodyPost_ret (v := .tuple #[.agg #[.int .i64 0, .int .i64 0, .int .i64 0, .bool false], .int .i64 0]) (by simp [results, Try.results13, go_sem]) rfl ⟨rfl, HB.out⟩
set_option maxHeartbeats 4000000 in
set_option maxRecDepth 100000 in
theorem rparse_narrow_noa (ad : Option Addr) (c : Nat) (l : List UInt8) (w : World) (h : Byt w w.heap.size (.slice ad l.length c) l) (hl : l.length ≤ 100000) (hc : l.length ≤ c) (hs : 22 ≤ l.length) (hn : rd l (l.length - 22 + 8) 2 ≠ 65535) (ht : tailB (rd l (l.length - 22 + 8) 2 : Nat) (rd l (l.length - 22 + 12) 4 : Nat) (rd l (l.length - 22 + 16) 4 : Nat) = false) : Calls Try.prog 13 #[.slice ad l.length c] w fun e w' => e = .returned (.tuple #[.agg #[.int .i64 0, .int .i64 0, .int .i64 0, .bool false], .int .i64 0]) ∧ Below w.heap.size w w' := by
  have t0 : decide ((l.length : Int) < 22) = false := by simp; omega
  obtain ⟨aea, cea, hpla, hpca, hpba⟩ := piece h hc 22 (by omega)
  rw [show l.length - (l.length - 22) = 22 from by omega] at hpla hpca hpba
  obtain ⟨Sa1, hsa1, hba1⟩ := piece2 aea 22 cea (l.drop (l.length - 22)) hpba (by rw [List.length_drop]; omega) hpca 8 10 (by decide) (by decide)
  have HS1 : Hid (∀ W : World, (Instr.slice 25 (.slice aea 22 cea) (some (.int .i64 8)) (some (.int .i64 10)) none).run Try.prog W = .ok Sa1 W) := Lib.hid hsa1
  have NUM1 := Lib.hid (fun (W : World) (hR : Below w.heap.size w W) => refNumber_B (hba1.below hR) (by rw [List.length_take]; omega))
  rw [List.drop_drop, show num (((l.drop (l.length - 22 + 8))).take (10 - 8)) = rd l (l.length - 22 + 8) 2 from rfl] at NUM1
  clear hsa1 hba1
  obtain ⟨Sa2, hsa2, hba2⟩ := piece2 aea 22 cea (l.drop (l.length - 22)) hpba (by rw [List.length_drop]; omega) hpca 12 16 (by decide) (by decide)
  have HS2 : Hid (∀ W : World, (Instr.slice 25 (.slice aea 22 cea) (some (.int .i64 12)) (some (.int .i64 16)) none).run Try.prog W = .ok Sa2 W) := Lib.hid hsa2
  have NUM2 := Lib.hid (fun (W : World) (hR : Below w.heap.size w W) => refNumber_B (hba2.below hR) (by rw [List.length_take]; omega))
  rw [List.drop_drop, show num (((l.drop (l.length - 22 + 12))).take (16 - 12)) = rd l (l.length - 22 + 12) 4 from rfl] at NUM2
  clear hsa2 hba2
  obtain ⟨Sa3, hsa3, hba3⟩ := piece2 aea 22 cea (l.drop (l.length - 22)) hpba (by rw [List.length_drop]; omega) hpca 16 20 (by decide) (by decide)
  have HS3 : Hid (∀ W : World, (Instr.slice 25 (.slice aea 22 cea) (some (.int .i64 16)) (some (.int .i64 20)) none).run Try.prog W = .ok Sa3 W) := Lib.hid hsa3
  have NUM3 := Lib.hid (fun (W : World) (hR : Below w.heap.size w W) => refNumber_B (hba3.below hR) (by rw [List.length_take]; omega))
  rw [List.drop_drop, show num (((l.drop (l.length - 22 + 16))).take (20 - 16)) = rd l (l.length - 22 + 16) 4 from rfl] at NUM3
  clear hsa3 hba3
  have HPLa : Hid (∀ W : World, (Instr.slice 25 (.slice ad l.length c) (some (.int .i64 ((l.length : Int) - 22))) none none).run Try.prog W = .ok (.slice aea 22 cea) W) := Lib.hid hpla
  clear hpla hpca hpba
  have b_n := rd_lt l (l.length - 22 + 8) 2
  have B_n : (rd l (l.length - 22 + 8) 2) < 65536 := b_n
  clear b_n
  generalize rd l (l.length - 22 + 8) 2 = n at *
  have b_s := rd_lt l (l.length - 22 + 12) 4
  have B_s : (rd l (l.length - 22 + 12) 4) < 4294967296 := b_s
  clear b_s
  generalize rd l (l.length - 22 + 12) 4 = s at *
  have b_k := rd_lt l (l.length - 22 + 16) 4
  have B_k : (rd l (l.length - 22 + 16) 4) < 4294967296 := b_k
  clear b_k
  generalize rd l (l.length - 22 + 16) 4 = k at *
  have q_n : IntKind.i64.wrap (n : Int) = n := IntWalk.i64_in _ (by omega)
  have q_s : IntKind.i64.wrap (s : Int) = s := IntWalk.i64_in _ (by omega)
  have q_k : IntKind.i64.wrap (k : Int) = k := IntWalk.i64_in _ (by omega)
  have HEN := Lib.hid (fun (W : World) (hw : Byt W W.heap.size (.slice ad l.length c) l) => ends_no ad c l W hw hl hc n s k false ht)
  clear ht
  have t5 : ((n : Int) == 65535) = false := by simp; omega
  clear hn
  have HH := Lib.hid h
  clear h
  have HP := Lib.hid (Own.new_at w [.int .i64 0, .int .i64 0, .int .i64 0, .bool false] 30 w.heap.size rfl)
  have HB := Lib.hid ((Below.refl w.heap.size w).alloc (Nat.le_refl _) (.cells #[.int .i64 0, .int .i64 0, .int .i64 0, .bool false] 30))
  go_enter Try.func13, Try.ntmps13
  have hpl := HPLa.out
  go_wp2_with fail
  clear hpl
  generalize hw0 : (w.alloc (.cells #[.int .i64 0, .int .i64 0, .int .i64 0, .bool false] 30)) = w0 at *
  have hz0 : w0.heap.size = w.heap.size + 1 := by rw [← hw0]; simp
  clear hw0
  have HNM : True := trivial
  have NUM1 := Lib.hid (fun (W : World) (hR : Below w0.heap.size w0 W) => NUM1.out W (HB.out.trans (hR.mono (by omega))))
  have NUM2 := Lib.hid (fun (W : World) (hR : Below w0.heap.size w0 W) => NUM2.out W (HB.out.trans (hR.mono (by omega))))
  have NUM3 := Lib.hid (fun (W : World) (hR : Below w0.heap.size w0 W) => NUM3.out W (HB.out.trans (hR.mono (by omega))))
  refine Mono.region_tail 14 (by kernel_rfl) (by kernel_rfl) (by kernel_rfl) (by kernel_rfl) ?_
  simp only [List.take_succ_cons, List.take_zero]
  refine Mono.hgl_val (v := ?v0) rfl Mono.rr (fun ρ a W hR hd hf => ?h0) ?_
  case h0 =>
    have e4 := Mono.init_get hf (t := 4) (by kernel_rfl)
    clear hd hf
    (go_simp; try with_reducible rfl)
  refine Mono.hgl_val (v := ?v1) rfl Mono.rr (fun ρ a W hR hd hf => ?h1) ?_
  case h1 =>
    have e15 := Mono.dep_val hd hf (t := 15) (k := 0) (by kernel_rfl) rfl
    have hsl := HS1.out W
    clear hd hf
    (go_simp; try with_reducible rfl)
  refine Mono.hgl_call (fun x _ => x = .int .u64 ((n : Nat) : Int)) rfl Mono.rr (fun _ _ _ h _ => h) (fun ρ a W hR hd hf => ?h2) ?_
  case h2 =>
    have e16 := Mono.dep_val hd hf (t := 16) (k := 1) (by kernel_rfl) rfl
    clear hd hf
    refine ⟨_, _, by go_simp; first | rfl | exact ⟨rfl, rfl⟩, ?_⟩
    exact (NUM1.out W hR).mono (fun e W' ⟨he, hw⟩ => ⟨_, he, hw ▸ Mono.rr _, rfl⟩)
  refine Mono.hgl_val (v := ?v3) rfl Mono.rr (fun ρ a W hR hd hf => ?h3) ?_
  case h3 =>
    have e17 := Mono.dep_val hd hf (t := 17) (k := 2) (by kernel_rfl) rfl
    have hq := q_n
    clear hd hf
    (go_simp; try with_reducible rfl)
  refine Mono.hgl_val (v := ?v4) rfl Mono.rr (fun ρ a W hR hd hf => ?h4) ?_
  case h4 =>
    have e4 := Mono.init_get hf (t := 4) (by kernel_rfl)
    clear hd hf
    (go_simp; try with_reducible rfl)
  refine Mono.hgl_val (v := ?v5) rfl Mono.rr (fun ρ a W hR hd hf => ?h5) ?_
  case h5 =>
    have e19 := Mono.dep_val hd hf (t := 19) (k := 4) (by kernel_rfl) rfl
    have hsl := HS2.out W
    clear hd hf
    (go_simp; try with_reducible rfl)
  refine Mono.hgl_call (fun x _ => x = .int .u64 ((s : Nat) : Int)) rfl Mono.rr (fun _ _ _ h _ => h) (fun ρ a W hR hd hf => ?h6) ?_
  case h6 =>
    have e20 := Mono.dep_val hd hf (t := 20) (k := 5) (by kernel_rfl) rfl
    clear hd hf
    refine ⟨_, _, by go_simp; first | rfl | exact ⟨rfl, rfl⟩, ?_⟩
    exact (NUM2.out W hR).mono (fun e W' ⟨he, hw⟩ => ⟨_, he, hw ▸ Mono.rr _, rfl⟩)
  refine Mono.hgl_val (v := ?v7) rfl Mono.rr (fun ρ a W hR hd hf => ?h7) ?_
  case h7 =>
    have e21 := Mono.dep_val hd hf (t := 21) (k := 6) (by kernel_rfl) rfl
    have hq := q_s
    clear hd hf
    (go_simp; try with_reducible rfl)
  refine Mono.hgl_val (v := ?v8) rfl Mono.rr (fun ρ a W hR hd hf => ?h8) ?_
  case h8 =>
    have e4 := Mono.init_get hf (t := 4) (by kernel_rfl)
    clear hd hf
    (go_simp; try with_reducible rfl)
  refine Mono.hgl_val (v := ?v9) rfl Mono.rr (fun ρ a W hR hd hf => ?h9) ?_
  case h9 =>
    have e23 := Mono.dep_val hd hf (t := 23) (k := 8) (by kernel_rfl) rfl
    have hsl := HS3.out W
    clear hd hf
    (go_simp; try with_reducible rfl)
  refine Mono.hgl_call (fun x _ => x = .int .u64 ((k : Nat) : Int)) rfl Mono.rr (fun _ _ _ h _ => h) (fun ρ a W hR hd hf => ?h10) ?_
  case h10 =>
    have e24 := Mono.dep_val hd hf (t := 24) (k := 9) (by kernel_rfl) rfl
    clear hd hf
    refine ⟨_, _, by go_simp; first | rfl | exact ⟨rfl, rfl⟩, ?_⟩
    exact (NUM3.out W hR).mono (fun e W' ⟨he, hw⟩ => ⟨_, he, hw ▸ Mono.rr _, rfl⟩)
  refine Mono.hgl_val (v := ?v11) rfl Mono.rr (fun ρ a W hR hd hf => ?h11) ?_
  case h11 =>
    have e25 := Mono.dep_val hd hf (t := 25) (k := 10) (by kernel_rfl) rfl
    have hq := q_k
    clear hd hf
    (go_simp; try with_reducible rfl)
  refine Mono.hgl_val (v := ?v12) rfl Mono.rr (fun ρ a W hR hd hf => ?h12) ?_
  case h12 =>
    have e18 := Mono.dep_val hd hf (t := 18) (k := 3) (by kernel_rfl) rfl
    have e22 := Mono.dep_val hd hf (t := 22) (k := 7) (by kernel_rfl) rfl
    have e26 := Mono.dep_val hd hf (t := 26) (k := 11) (by kernel_rfl) rfl
    clear hd hf
    (go_simp; try with_reducible rfl)
  refine Mono.hgl_pred (fun v W => NewB w0 v W) rfl hstNewB (fun ρ a W hR hd hf => ?h13) ?_
  case h13 =>
    clear hd hf
    exact ⟨_, _, by go_simp, (Below.refl _ _).alloc (Nat.le_refl _) _, NewB.new hR⟩
  refine Mono.hgl_done rfl (by decide) (fun ρ W hR ht => ?_)
  simp only [List.take_succ_cons, List.take_zero, List.drop_succ_cons, List.drop_zero]
  obtain ⟨d13, d12, d11, d10, d9, d8, d7, d6, d5, d4, d3, d2, d1, d0, _⟩ := ht
  replace d13 : (fun v W => NewB w0 v W) (ρ 13) W := d13
  simp only [List.length_cons, List.length_nil, Nat.reduceAdd] at d0 d1 d2 d3 d4 d5 d6 d7 d8 d9 d10 d11 d12
  simp only [Mono.putAll, Nat.reduceAdd, d0, d1, d2, d3, d4, d5, d6, d7, d8, d9, d10, d11, d12, Act.put, List.setIfInBounds_toArray, List.set_cons_zero, List.set_cons_succ]
  clear d0 d1 d2 d3 d4 d5 d6 d7 d8 d9 d10 d11 d12
  generalize ρ 13 = r13 at *
  have HP := Lib.hid (HP.out.below hR (by omega))
  have HB := Lib.hid (HB.out.trans (hR.mono (by omega)))
  have hz1 : w.heap.size < W.heap.size := by have := hR.size; omega
  clear hR NUM1 NUM2 NUM3 HNM
  obtain ⟨b5, hbe, hb5a, hb5, hO5⟩ := d13
  subst hbe
  have HT := Lib.hid hO5
  have hlo5 : w.heap.size < b5 := by omega
  clear hO5 hb5a hz0
  have y0 := HT.out.1 0 _ rfl
  have y1 := HT.out.1 1 _ rfl
  have y2 := HT.out.1 2 _ rfl
  have y3 := HT.out.1 3 _ rfl
  have hfr := HT.out.2
  go_upto_region 5 with (fail)
  clear y0 y1 y2 y3 hfr
  have HT := Lib.hid ((((HT.out.set 0 (.int .i64 (n : Nat)) (by simp)).set 1 (.int .i64 (s : Nat)) (by simp)).set 2 (.int .i64 (k : Nat)) (by simp)).set 3 (.bool false) (by simp))
  have HP := Lib.hid ((((HP.out.other (c := b5) (by omega) 0 (.int .i64 (n : Nat))).other (c := b5) (by omega) 1 (.int .i64 (s : Nat))).other (c := b5) (by omega) 2 (.int .i64 (k : Nat))).other (c := b5) (by omega) 3 (.bool false))
  have HB := Lib.hid ((((HB.out.setCell (p := ⟨b5, 0, none⟩) (by show w.heap.size ≤ b5; omega) (.int .i64 (n : Nat))).setCell (p := ⟨b5, 1, none⟩) (by show w.heap.size ≤ b5; omega) (.int .i64 (s : Nat))).setCell (p := ⟨b5, 2, none⟩) (by show w.heap.size ≤ b5; omega) (.int .i64 (k : Nat))).setCell (p := ⟨b5, 3, none⟩) (by show w.heap.size ≤ b5; omega) (.bool false))
  have hz2 : b5 < ((((W.setCell ⟨b5, 0, none⟩ (.int .i64 (n : Nat))).setCell ⟨b5, 1, none⟩ (.int .i64 (s : Nat))).setCell ⟨b5, 2, none⟩ (.int .i64 (k : Nat))).setCell ⟨b5, 3, none⟩ (.bool false)).heap.size := by simp; omega
  generalize ((((W.setCell ⟨b5, 0, none⟩ (.int .i64 (n : Nat))).setCell ⟨b5, 1, none⟩ (.int .i64 (s : Nat))).setCell ⟨b5, 2, none⟩ (.int .i64 (k : Nat))).setCell ⟨b5, 3, none⟩ (.bool false)) = w5 at *
  have y0 := HT.out.1 0 _ rfl
  have y1 := HT.out.1 1 _ rfl
  have y2 := HT.out.1 2 _ rfl
  have y3 := HT.out.1 3 _ rfl
  go_wp2_with fail
  refine (HEN.out _ ((HH.out.below HB.out).mono (by omega))).mono ?_
  rintro e w6 ⟨rfl, hb⟩
  have HT := Lib.hid (HT.out.below hb (by omega))
  have HP := Lib.hid (HP.out.below hb (by omega))
  have HB := Lib.hid (HB.out.trans (hb.mono (by omega)))
  have hz3 : b5 < w6.heap.size := Nat.lt_of_lt_of_le hz2 hb.size
  clear hb
  have z0 := HP.out.1 0 _ rfl
  have z1 := HP.out.1 1 _ rfl
  have z2 := HP.out.1 2 _ rfl
  have z3 := HP.out.1 3 _ rfl
  have hg := HP.out.2
  go_wp2
  refine bodyPost_ret (v := .tuple #[.agg #[.int .i64 0, .int .i64 0, .int .i64 0, .bool false], .int .i64 0]) (by simp [results, Try.results13, go_sem, z0, z1, z2, z3]) rfl ⟨rfl, ?_⟩
  exact ((((HB.out).setCell (by simp) _).setCell (by simp) _).setCell (by simp) _).setCell (by simp) _
set_option maxHeartbeats 4000000 in
set_option maxRecDepth 100000 in
theorem rparse_narrow_neq (ad : Option Addr) (c : Nat) (l : List UInt8) (w : World) (h : Byt w w.heap.size (.slice ad l.length c) l) (hl : l.length ≤ 100000) (hc : l.length ≤ c) (hs : 22 ≤ l.length) (hn : rd l (l.length - 22 + 8) 2 ≠ 65535) (ht : tailB (rd l (l.length - 22 + 8) 2 : Nat) (rd l (l.length - 22 + 12) 4 : Nat) (rd l (l.length - 22 + 16) 4 : Nat) = true) (hq : l.drop (l.length - 22) ≠ tailBytes (rd l (l.length - 22 + 8) 2 : Nat) (rd l (l.length - 22 + 12) 4 : Nat) (rd l (l.length - 22 + 16) 4 : Nat) false) : Calls Try.prog 13 #[.slice ad l.length c] w fun e w' => e = .returned (.tuple #[.agg #[.int .i64 0, .int .i64 0, .int .i64 0, .bool false], .int .i64 0]) ∧ Below w.heap.size w w' := by
  have hx : (tailBytes (rd l (l.length - 22 + 8) 2 : Nat) (rd l (l.length - 22 + 12) 4 : Nat) (rd l (l.length - 22 + 16) 4 : Nat) false).length = 22 := tailBytes_len _ _ _ _
  have HEN := Lib.hid (fun (W : World) (hw : Byt W W.heap.size (.slice ad l.length c) l) => ends_neq ad c l W hw hl hc _ _ _ false ht (by rw [hx]; exact hs) (by rw [hx]; exact hq))
  clear ht hq hx
  have t0 : decide ((l.length : Int) < 22) = false := by simp; omega
  obtain ⟨aea, cea, hpla, hpca, hpba⟩ := piece h hc 22 (by omega)
  rw [show l.length - (l.length - 22) = 22 from by omega] at hpla hpca hpba
  obtain ⟨Sa1, hsa1, hba1⟩ := piece2 aea 22 cea (l.drop (l.length - 22)) hpba (by rw [List.length_drop]; omega) hpca 8 10 (by decide) (by decide)
  have HS1 : Hid (∀ W : World, (Instr.slice 25 (.slice aea 22 cea) (some (.int .i64 8)) (some (.int .i64 10)) none).run Try.prog W = .ok Sa1 W) := Lib.hid hsa1
  have NUM1 := Lib.hid (fun (W : World) (hR : Below w.heap.size w W) => refNumber_B (hba1.below hR) (by rw [List.length_take]; omega))
  rw [List.drop_drop, show num (((l.drop (l.length - 22 + 8))).take (10 - 8)) = rd l (l.length - 22 + 8) 2 from rfl] at NUM1
  clear hsa1 hba1
  obtain ⟨Sa2, hsa2, hba2⟩ := piece2 aea 22 cea (l.drop (l.length - 22)) hpba (by rw [List.length_drop]; omega) hpca 12 16 (by decide) (by decide)
  have HS2 : Hid (∀ W : World, (Instr.slice 25 (.slice aea 22 cea) (some (.int .i64 12)) (some (.int .i64 16)) none).run Try.prog W = .ok Sa2 W) := Lib.hid hsa2
  have NUM2 := Lib.hid (fun (W : World) (hR : Below w.heap.size w W) => refNumber_B (hba2.below hR) (by rw [List.length_take]; omega))
  rw [List.drop_drop, show num (((l.drop (l.length - 22 + 12))).take (16 - 12)) = rd l (l.length - 22 + 12) 4 from rfl] at NUM2
  clear hsa2 hba2
  obtain ⟨Sa3, hsa3, hba3⟩ := piece2 aea 22 cea (l.drop (l.length - 22)) hpba (by rw [List.length_drop]; omega) hpca 16 20 (by decide) (by decide)
  have HS3 : Hid (∀ W : World, (Instr.slice 25 (.slice aea 22 cea) (some (.int .i64 16)) (some (.int .i64 20)) none).run Try.prog W = .ok Sa3 W) := Lib.hid hsa3
  have NUM3 := Lib.hid (fun (W : World) (hR : Below w.heap.size w W) => refNumber_B (hba3.below hR) (by rw [List.length_take]; omega))
  rw [List.drop_drop, show num (((l.drop (l.length - 22 + 16))).take (20 - 16)) = rd l (l.length - 22 + 16) 4 from rfl] at NUM3
  clear hsa3 hba3
  have HPLa : Hid (∀ W : World, (Instr.slice 25 (.slice ad l.length c) (some (.int .i64 ((l.length : Int) - 22))) none none).run Try.prog W = .ok (.slice aea 22 cea) W) := Lib.hid hpla
  clear hpla hpca hpba
  have b_n := rd_lt l (l.length - 22 + 8) 2
  have B_n : (rd l (l.length - 22 + 8) 2) < 65536 := b_n
  clear b_n
  generalize rd l (l.length - 22 + 8) 2 = n at *
  have b_s := rd_lt l (l.length - 22 + 12) 4
  have B_s : (rd l (l.length - 22 + 12) 4) < 4294967296 := b_s
  clear b_s
  generalize rd l (l.length - 22 + 12) 4 = s at *
  have b_k := rd_lt l (l.length - 22 + 16) 4
  have B_k : (rd l (l.length - 22 + 16) 4) < 4294967296 := b_k
  clear b_k
  generalize rd l (l.length - 22 + 16) 4 = k at *
  have q_n : IntKind.i64.wrap (n : Int) = n := IntWalk.i64_in _ (by omega)
  have q_s : IntKind.i64.wrap (s : Int) = s := IntWalk.i64_in _ (by omega)
  have q_k : IntKind.i64.wrap (k : Int) = k := IntWalk.i64_in _ (by omega)
  have t5 : ((n : Int) == 65535) = false := by simp; omega
  clear hn
  have HH := Lib.hid h
  clear h
  have HP := Lib.hid (Own.new_at w [.int .i64 0, .int .i64 0, .int .i64 0, .bool false] 30 w.heap.size rfl)
  have HB := Lib.hid ((Below.refl w.heap.size w).alloc (Nat.le_refl _) (.cells #[.int .i64 0, .int .i64 0, .int .i64 0, .bool false] 30))
  go_enter Try.func13, Try.ntmps13
  have hpl := HPLa.out
  go_wp2_with fail
  clear hpl
  generalize hw0 : (w.alloc (.cells #[.int .i64 0, .int .i64 0, .int .i64 0, .bool false] 30)) = w0 at *
  have hz0 : w0.heap.size = w.heap.size + 1 := by rw [← hw0]; simp
  clear hw0
  have HNM : True := trivial
  have NUM1 := Lib.hid (fun (W : World) (hR : Below w0.heap.size w0 W) => NUM1.out W (HB.out.trans (hR.mono (by omega))))
  have NUM2 := Lib.hid (fun (W : World) (hR : Below w0.heap.size w0 W) => NUM2.out W (HB.out.trans (hR.mono (by omega))))
  have NUM3 := Lib.hid (fun (W : World) (hR : Below w0.heap.size w0 W) => NUM3.out W (HB.out.trans (hR.mono (by omega))))
  refine Mono.region_tail 14 (by kernel_rfl) (by kernel_rfl) (by kernel_rfl) (by kernel_rfl) ?_
  simp only [List.take_succ_cons, List.take_zero]
  refine Mono.hgl_val (v := ?v0) rfl Mono.rr (fun ρ a W hR hd hf => ?h0) ?_
  case h0 =>
    have e4 := Mono.init_get hf (t := 4) (by kernel_rfl)
    clear hd hf
    (go_simp; try with_reducible rfl)
  refine Mono.hgl_val (v := ?v1) rfl Mono.rr (fun ρ a W hR hd hf => ?h1) ?_
  case h1 =>
    have e15 := Mono.dep_val hd hf (t := 15) (k := 0) (by kernel_rfl) rfl
    have hsl := HS1.out W
    clear hd hf
    (go_simp; try with_reducible rfl)
  refine Mono.hgl_call (fun x _ => x = .int .u64 ((n : Nat) : Int)) rfl Mono.rr (fun _ _ _ h _ => h) (fun ρ a W hR hd hf => ?h2) ?_
  case h2 =>
    have e16 := Mono.dep_val hd hf (t := 16) (k := 1) (by kernel_rfl) rfl
    clear hd hf
    refine ⟨_, _, by go_simp; first | rfl | exact ⟨rfl, rfl⟩, ?_⟩
    exact (NUM1.out W hR).mono (fun e W' ⟨he, hw⟩ => ⟨_, he, hw ▸ Mono.rr _, rfl⟩)
  refine Mono.hgl_val (v := ?v3) rfl Mono.rr (fun ρ a W hR hd hf => ?h3) ?_
  case h3 =>
    have e17 := Mono.dep_val hd hf (t := 17) (k := 2) (by kernel_rfl) rfl
    have hq := q_n
    clear hd hf
    (go_simp; try with_reducible rfl)
  refine Mono.hgl_val (v := ?v4) rfl Mono.rr (fun ρ a W hR hd hf => ?h4) ?_
  case h4 =>
    have e4 := Mono.init_get hf (t := 4) (by kernel_rfl)
    clear hd hf
    (go_simp; try with_reducible rfl)
  refine Mono.hgl_val (v := ?v5) rfl Mono.rr (fun ρ a W hR hd hf => ?h5) ?_
  case h5 =>
    have e19 := Mono.dep_val hd hf (t := 19) (k := 4) (by kernel_rfl) rfl
    have hsl := HS2.out W
    clear hd hf
    (go_simp; try with_reducible rfl)
  refine Mono.hgl_call (fun x _ => x = .int .u64 ((s : Nat) : Int)) rfl Mono.rr (fun _ _ _ h _ => h) (fun ρ a W hR hd hf => ?h6) ?_
  case h6 =>
    have e20 := Mono.dep_val hd hf (t := 20) (k := 5) (by kernel_rfl) rfl
    clear hd hf
    refine ⟨_, _, by go_simp; first | rfl | exact ⟨rfl, rfl⟩, ?_⟩
    exact (NUM2.out W hR).mono (fun e W' ⟨he, hw⟩ => ⟨_, he, hw ▸ Mono.rr _, rfl⟩)
  refine Mono.hgl_val (v := ?v7) rfl Mono.rr (fun ρ a W hR hd hf => ?h7) ?_
  case h7 =>
    have e21 := Mono.dep_val hd hf (t := 21) (k := 6) (by kernel_rfl) rfl
    have hq := q_s
    clear hd hf
    (go_simp; try with_reducible rfl)
  refine Mono.hgl_val (v := ?v8) rfl Mono.rr (fun ρ a W hR hd hf => ?h8) ?_
  case h8 =>
    have e4 := Mono.init_get hf (t := 4) (by kernel_rfl)
    clear hd hf
    (go_simp; try with_reducible rfl)
  refine Mono.hgl_val (v := ?v9) rfl Mono.rr (fun ρ a W hR hd hf => ?h9) ?_
  case h9 =>
    have e23 := Mono.dep_val hd hf (t := 23) (k := 8) (by kernel_rfl) rfl
    have hsl := HS3.out W
    clear hd hf
    (go_simp; try with_reducible rfl)
  refine Mono.hgl_call (fun x _ => x = .int .u64 ((k : Nat) : Int)) rfl Mono.rr (fun _ _ _ h _ => h) (fun ρ a W hR hd hf => ?h10) ?_
  case h10 =>
    have e24 := Mono.dep_val hd hf (t := 24) (k := 9) (by kernel_rfl) rfl
    clear hd hf
    refine ⟨_, _, by go_simp; first | rfl | exact ⟨rfl, rfl⟩, ?_⟩
    exact (NUM3.out W hR).mono (fun e W' ⟨he, hw⟩ => ⟨_, he, hw ▸ Mono.rr _, rfl⟩)
  refine Mono.hgl_val (v := ?v11) rfl Mono.rr (fun ρ a W hR hd hf => ?h11) ?_
  case h11 =>
    have e25 := Mono.dep_val hd hf (t := 25) (k := 10) (by kernel_rfl) rfl
    have hq := q_k
    clear hd hf
    (go_simp; try with_reducible rfl)
  refine Mono.hgl_val (v := ?v12) rfl Mono.rr (fun ρ a W hR hd hf => ?h12) ?_
  case h12 =>
    have e18 := Mono.dep_val hd hf (t := 18) (k := 3) (by kernel_rfl) rfl
    have e22 := Mono.dep_val hd hf (t := 22) (k := 7) (by kernel_rfl) rfl
    have e26 := Mono.dep_val hd hf (t := 26) (k := 11) (by kernel_rfl) rfl
    clear hd hf
    (go_simp; try with_reducible rfl)
  refine Mono.hgl_pred (fun v W => NewB w0 v W) rfl hstNewB (fun ρ a W hR hd hf => ?h13) ?_
  case h13 =>
    clear hd hf
    exact ⟨_, _, by go_simp, (Below.refl _ _).alloc (Nat.le_refl _) _, NewB.new hR⟩
  refine Mono.hgl_done rfl (by decide) (fun ρ W hR ht => ?_)
  simp only [List.take_succ_cons, List.take_zero, List.drop_succ_cons, List.drop_zero]
  obtain ⟨d13, d12, d11, d10, d9, d8, d7, d6, d5, d4, d3, d2, d1, d0, _⟩ := ht
  replace d13 : (fun v W => NewB w0 v W) (ρ 13) W := d13
  simp only [List.length_cons, List.length_nil, Nat.reduceAdd] at d0 d1 d2 d3 d4 d5 d6 d7 d8 d9 d10 d11 d12
  simp only [Mono.putAll, Nat.reduceAdd, d0, d1, d2, d3, d4, d5, d6, d7, d8, d9, d10, d11, d12, Act.put, List.setIfInBounds_toArray, List.set_cons_zero, List.set_cons_succ]
  clear d0 d1 d2 d3 d4 d5 d6 d7 d8 d9 d10 d11 d12
  generalize ρ 13 = r13 at *
  have HP := Lib.hid (HP.out.below hR (by omega))
  have HB := Lib.hid (HB.out.trans (hR.mono (by omega)))
  have hz1 : w.heap.size < W.heap.size := by have := hR.size; omega
  clear hR NUM1 NUM2 NUM3 HNM
  obtain ⟨b5, hbe, hb5a, hb5, hO5⟩ := d13
  subst hbe
  have HT := Lib.hid hO5
  have hlo5 : w.heap.size < b5 := by omega
  clear hO5 hb5a hz0
  have y0 := HT.out.1 0 _ rfl
  have y1 := HT.out.1 1 _ rfl
  have y2 := HT.out.1 2 _ rfl
  have y3 := HT.out.1 3 _ rfl
  have hfr := HT.out.2
  go_upto_region 5 with (fail)
  clear y0 y1 y2 y3 hfr
  have HT := Lib.hid ((((HT.out.set 0 (.int .i64 (n : Nat)) (by simp)).set 1 (.int .i64 (s : Nat)) (by simp)).set 2 (.int .i64 (k : Nat)) (by simp)).set 3 (.bool false) (by simp))
  have HP := Lib.hid ((((HP.out.other (c := b5) (by omega) 0 (.int .i64 (n : Nat))).other (c := b5) (by omega) 1 (.int .i64 (s : Nat))).other (c := b5) (by omega) 2 (.int .i64 (k : Nat))).other (c := b5) (by omega) 3 (.bool false))
  have HB := Lib.hid ((((HB.out.setCell (p := ⟨b5, 0, none⟩) (by show w.heap.size ≤ b5; omega) (.int .i64 (n : Nat))).setCell (p := ⟨b5, 1, none⟩) (by show w.heap.size ≤ b5; omega) (.int .i64 (s : Nat))).setCell (p := ⟨b5, 2, none⟩) (by show w.heap.size ≤ b5; omega) (.int .i64 (k : Nat))).setCell (p := ⟨b5, 3, none⟩) (by show w.heap.size ≤ b5; omega) (.bool false))
  have hz2 : b5 < ((((W.setCell ⟨b5, 0, none⟩ (.int .i64 (n : Nat))).setCell ⟨b5, 1, none⟩ (.int .i64 (s : Nat))).setCell ⟨b5, 2, none⟩ (.int .i64 (k : Nat))).setCell ⟨b5, 3, none⟩ (.bool false)).heap.size := by simp; omega
  generalize ((((W.setCell ⟨b5, 0, none⟩ (.int .i64 (n : Nat))).setCell ⟨b5, 1, none⟩ (.int .i64 (s : Nat))).setCell ⟨b5, 2, none⟩ (.int .i64 (k : Nat))).setCell ⟨b5, 3, none⟩ (.bool false)) = w5 at *
  have y0 := HT.out.1 0 _ rfl
  have y1 := HT.out.1 1 _ rfl
  have y2 := HT.out.1 2 _ rfl
  have y3 := HT.out.1 3 _ rfl
  go_wp2_with fail
  refine (HEN.out _ ((HH.out.below HB.out).mono (by omega))).mono ?_
  rintro e w6 ⟨rfl, hb⟩
  have HT := Lib.hid (HT.out.below hb (by omega))
  have HP := Lib.hid (HP.out.below hb (by omega))
  have HB := Lib.hid (HB.out.trans (hb.mono (by omega)))
  have hz3 : b5 < w6.heap.size := Nat.lt_of_lt_of_le hz2 hb.size
  clear hb
  have z0 := HP.out.1 0 _ rfl
  have z1 := HP.out.1 1 _ rfl
  have z2 := HP.out.1 2 _ rfl
  have z3 := HP.out.1 3 _ rfl
  have hg := HP.out.2
  go_wp2
  refine bodyPost_ret (v := .tuple #[.agg #[.int .i64 0, .int .i64 0, .int .i64 0, .bool false], .int .i64 0]) (by simp [results, Try.results13, go_sem, z0, z1, z2, z3]) rfl ⟨rfl, ?_⟩
  exact ((((HB.out).setCell (by simp) _).setCell (by simp) _).setCell (by simp) _).setCell (by simp) _
set_option maxHeartbeats 4000000 in
set_option maxRecDepth 100000 in
theorem rparse_narrow_yes (ad : Option Addr) (c : Nat) (l : List UInt8) (w : World) (h : Byt w w.heap.size (.slice ad l.length c) l) (hl : l.length ≤ 100000) (hc : l.length ≤ c) (hs : 22 ≤ l.length) (hn : rd l (l.length - 22 + 8) 2 ≠ 65535) (ht : tailB (rd l (l.length - 22 + 8) 2 : Nat) (rd l (l.length - 22 + 12) 4 : Nat) (rd l (l.length - 22 + 16) 4 : Nat) = true) (hq : l.drop (l.length - 22) = tailBytes (rd l (l.length - 22 + 8) 2 : Nat) (rd l (l.length - 22 + 12) 4 : Nat) (rd l (l.length - 22 + 16) 4 : Nat) false) : Calls Try.prog 13 #[.slice ad l.length c] w fun e w' => e = .returned (.tuple #[.agg #[.int .i64 (rd l (l.length - 22 + 8) 2 : Nat), .int .i64 (rd l (l.length - 22 + 12) 4 : Nat), .int .i64 (rd l (l.length - 22 + 16) 4 : Nat), .bool false], .int .i64 22]) ∧ Below w.heap.size w w' := by
  have hx : (tailBytes (rd l (l.length - 22 + 8) 2 : Nat) (rd l (l.length - 22 + 12) 4 : Nat) (rd l (l.length - 22 + 16) 4 : Nat) false).length = 22 := tailBytes_len _ _ _ _
  have HXL := Lib.hid hx
  have HEN := Lib.hid (fun (W : World) (hw : Byt W W.heap.size (.slice ad l.length c) l) => ends_yes ad c l W hw hl hc _ _ _ false ht (by rw [hx]; exact hs) (by rw [hx]; exact hq))
  have HRE := Lib.hid (fun (W : World) => refEnc_yes _ _ _ false W ht)
  clear ht hq hx
  generalize tailBytes (rd l (l.length - 22 + 8) 2 : Nat) (rd l (l.length - 22 + 12) 4 : Nat) (rd l (l.length - 22 + 16) 4 : Nat) false = X at *
  have t0 : decide ((l.length : Int) < 22) = false := by simp; omega
  obtain ⟨aea, cea, hpla, hpca, hpba⟩ := piece h hc 22 (by omega)
  rw [show l.length - (l.length - 22) = 22 from by omega] at hpla hpca hpba
  obtain ⟨Sa1, hsa1, hba1⟩ := piece2 aea 22 cea (l.drop (l.length - 22)) hpba (by rw [List.length_drop]; omega) hpca 8 10 (by decide) (by decide)
  have HS1 : Hid (∀ W : World, (Instr.slice 25 (.slice aea 22 cea) (some (.int .i64 8)) (some (.int .i64 10)) none).run Try.prog W = .ok Sa1 W) := Lib.hid hsa1
  have NUM1 := Lib.hid (fun (W : World) (hR : Below w.heap.size w W) => refNumber_B (hba1.below hR) (by rw [List.length_take]; omega))
  rw [List.drop_drop, show num (((l.drop (l.length - 22 + 8))).take (10 - 8)) = rd l (l.length - 22 + 8) 2 from rfl] at NUM1
  clear hsa1 hba1
  obtain ⟨Sa2, hsa2, hba2⟩ := piece2 aea 22 cea (l.drop (l.length - 22)) hpba (by rw [List.length_drop]; omega) hpca 12 16 (by decide) (by decide)
  have HS2 : Hid (∀ W : World, (Instr.slice 25 (.slice aea 22 cea) (some (.int .i64 12)) (some (.int .i64 16)) none).run Try.prog W = .ok Sa2 W) := Lib.hid hsa2
  have NUM2 := Lib.hid (fun (W : World) (hR : Below w.heap.size w W) => refNumber_B (hba2.below hR) (by rw [List.length_take]; omega))
  rw [List.drop_drop, show num (((l.drop (l.length - 22 + 12))).take (16 - 12)) = rd l (l.length - 22 + 12) 4 from rfl] at NUM2
  clear hsa2 hba2
  obtain ⟨Sa3, hsa3, hba3⟩ := piece2 aea 22 cea (l.drop (l.length - 22)) hpba (by rw [List.length_drop]; omega) hpca 16 20 (by decide) (by decide)
  have HS3 : Hid (∀ W : World, (Instr.slice 25 (.slice aea 22 cea) (some (.int .i64 16)) (some (.int .i64 20)) none).run Try.prog W = .ok Sa3 W) := Lib.hid hsa3
  have NUM3 := Lib.hid (fun (W : World) (hR : Below w.heap.size w W) => refNumber_B (hba3.below hR) (by rw [List.length_take]; omega))
  rw [List.drop_drop, show num (((l.drop (l.length - 22 + 16))).take (20 - 16)) = rd l (l.length - 22 + 16) 4 from rfl] at NUM3
  clear hsa3 hba3
  have HPLa : Hid (∀ W : World, (Instr.slice 25 (.slice ad l.length c) (some (.int .i64 ((l.length : Int) - 22))) none none).run Try.prog W = .ok (.slice aea 22 cea) W) := Lib.hid hpla
  clear hpla hpca hpba
  have b_n := rd_lt l (l.length - 22 + 8) 2
  have B_n : (rd l (l.length - 22 + 8) 2) < 65536 := b_n
  clear b_n
  generalize rd l (l.length - 22 + 8) 2 = n at *
  have b_s := rd_lt l (l.length - 22 + 12) 4
  have B_s : (rd l (l.length - 22 + 12) 4) < 4294967296 := b_s
  clear b_s
  generalize rd l (l.length - 22 + 12) 4 = s at *
  have b_k := rd_lt l (l.length - 22 + 16) 4
  have B_k : (rd l (l.length - 22 + 16) 4) < 4294967296 := b_k
  clear b_k
  generalize rd l (l.length - 22 + 16) 4 = k at *
  have q_n : IntKind.i64.wrap (n : Int) = n := IntWalk.i64_in _ (by omega)
  have q_s : IntKind.i64.wrap (s : Int) = s := IntWalk.i64_in _ (by omega)
  have q_k : IntKind.i64.wrap (k : Int) = k := IntWalk.i64_in _ (by omega)
  have t5 : ((n : Int) == 65535) = false := by simp; omega
  clear hn
  have HH := Lib.hid h
  clear h
  have HP := Lib.hid (Own.new_at w [.int .i64 0, .int .i64 0, .int .i64 0, .bool false] 30 w.heap.size rfl)
  have HB := Lib.hid ((Below.refl w.heap.size w).alloc (Nat.le_refl _) (.cells #[.int .i64 0, .int .i64 0, .int .i64 0, .bool false] 30))
  go_enter Try.func13, Try.ntmps13
  have hpl := HPLa.out
  go_wp2_with fail
  clear hpl
  generalize hw0 : (w.alloc (.cells #[.int .i64 0, .int .i64 0, .int .i64 0, .bool false] 30)) = w0 at *
  have hz0 : w0.heap.size = w.heap.size + 1 := by rw [← hw0]; simp
  clear hw0
  have HNM : True := trivial
  have NUM1 := Lib.hid (fun (W : World) (hR : Below w0.heap.size w0 W) => NUM1.out W (HB.out.trans (hR.mono (by omega))))
  have NUM2 := Lib.hid (fun (W : World) (hR : Below w0.heap.size w0 W) => NUM2.out W (HB.out.trans (hR.mono (by omega))))
  have NUM3 := Lib.hid (fun (W : World) (hR : Below w0.heap.size w0 W) => NUM3.out W (HB.out.trans (hR.mono (by omega))))
  refine Mono.region_tail 14 (by kernel_rfl) (by kernel_rfl) (by kernel_rfl) (by kernel_rfl) ?_
  simp only [List.take_succ_cons, List.take_zero]
  refine Mono.hgl_val (v := ?v0) rfl Mono.rr (fun ρ a W hR hd hf => ?h0) ?_
  case h0 =>
    have e4 := Mono.init_get hf (t := 4) (by kernel_rfl)
    clear hd hf
    (go_simp; try with_reducible rfl)
  refine Mono.hgl_val (v := ?v1) rfl Mono.rr (fun ρ a W hR hd hf => ?h1) ?_
  case h1 =>
    have e15 := Mono.dep_val hd hf (t := 15) (k := 0) (by kernel_rfl) rfl
    have hsl := HS1.out W
    clear hd hf
    (go_simp; try with_reducible rfl)
  refine Mono.hgl_call (fun x _ => x = .int .u64 ((n : Nat) : Int)) rfl Mono.rr (fun _ _ _ h _ => h) (fun ρ a W hR hd hf => ?h2) ?_
  case h2 =>
    have e16 := Mono.dep_val hd hf (t := 16) (k := 1) (by kernel_rfl) rfl
    clear hd hf
    refine ⟨_, _, by go_simp; first | rfl | exact ⟨rfl, rfl⟩, ?_⟩
    exact (NUM1.out W hR).mono (fun e W' ⟨he, hw⟩ => ⟨_, he, hw ▸ Mono.rr _, rfl⟩)
  refine Mono.hgl_val (v := ?v3) rfl Mono.rr (fun ρ a W hR hd hf => ?h3) ?_
  case h3 =>
    have e17 := Mono.dep_val hd hf (t := 17) (k := 2) (by kernel_rfl) rfl
    have hq := q_n
    clear hd hf
    (go_simp; try with_reducible rfl)
  refine Mono.hgl_val (v := ?v4) rfl Mono.rr (fun ρ a W hR hd hf => ?h4) ?_
  case h4 =>
    have e4 := Mono.init_get hf (t := 4) (by kernel_rfl)
    clear hd hf
    (go_simp; try with_reducible rfl)
  refine Mono.hgl_val (v := ?v5) rfl Mono.rr (fun ρ a W hR hd hf => ?h5) ?_
  case h5 =>
    have e19 := Mono.dep_val hd hf (t := 19) (k := 4) (by kernel_rfl) rfl
    have hsl := HS2.out W
    clear hd hf
    (go_simp; try with_reducible rfl)
  refine Mono.hgl_call (fun x _ => x = .int .u64 ((s : Nat) : Int)) rfl Mono.rr (fun _ _ _ h _ => h) (fun ρ a W hR hd hf => ?h6) ?_
  case h6 =>
    have e20 := Mono.dep_val hd hf (t := 20) (k := 5) (by kernel_rfl) rfl
    clear hd hf
    refine ⟨_, _, by go_simp; first | rfl | exact ⟨rfl, rfl⟩, ?_⟩
    exact (NUM2.out W hR).mono (fun e W' ⟨he, hw⟩ => ⟨_, he, hw ▸ Mono.rr _, rfl⟩)
  refine Mono.hgl_val (v := ?v7) rfl Mono.rr (fun ρ a W hR hd hf => ?h7) ?_
  case h7 =>
    have e21 := Mono.dep_val hd hf (t := 21) (k := 6) (by kernel_rfl) rfl
    have hq := q_s
    clear hd hf
    (go_simp; try with_reducible rfl)
  refine Mono.hgl_val (v := ?v8) rfl Mono.rr (fun ρ a W hR hd hf => ?h8) ?_
  case h8 =>
    have e4 := Mono.init_get hf (t := 4) (by kernel_rfl)
    clear hd hf
    (go_simp; try with_reducible rfl)
  refine Mono.hgl_val (v := ?v9) rfl Mono.rr (fun ρ a W hR hd hf => ?h9) ?_
  case h9 =>
    have e23 := Mono.dep_val hd hf (t := 23) (k := 8) (by kernel_rfl) rfl
    have hsl := HS3.out W
    clear hd hf
    (go_simp; try with_reducible rfl)
  refine Mono.hgl_call (fun x _ => x = .int .u64 ((k : Nat) : Int)) rfl Mono.rr (fun _ _ _ h _ => h) (fun ρ a W hR hd hf => ?h10) ?_
  case h10 =>
    have e24 := Mono.dep_val hd hf (t := 24) (k := 9) (by kernel_rfl) rfl
    clear hd hf
    refine ⟨_, _, by go_simp; first | rfl | exact ⟨rfl, rfl⟩, ?_⟩
    exact (NUM3.out W hR).mono (fun e W' ⟨he, hw⟩ => ⟨_, he, hw ▸ Mono.rr _, rfl⟩)
  refine Mono.hgl_val (v := ?v11) rfl Mono.rr (fun ρ a W hR hd hf => ?h11) ?_
  case h11 =>
    have e25 := Mono.dep_val hd hf (t := 25) (k := 10) (by kernel_rfl) rfl
    have hq := q_k
    clear hd hf
    (go_simp; try with_reducible rfl)
  refine Mono.hgl_val (v := ?v12) rfl Mono.rr (fun ρ a W hR hd hf => ?h12) ?_
  case h12 =>
    have e18 := Mono.dep_val hd hf (t := 18) (k := 3) (by kernel_rfl) rfl
    have e22 := Mono.dep_val hd hf (t := 22) (k := 7) (by kernel_rfl) rfl
    have e26 := Mono.dep_val hd hf (t := 26) (k := 11) (by kernel_rfl) rfl
    clear hd hf
    (go_simp; try with_reducible rfl)
  refine Mono.hgl_pred (fun v W => NewB w0 v W) rfl hstNewB (fun ρ a W hR hd hf => ?h13) ?_
  case h13 =>
    clear hd hf
    exact ⟨_, _, by go_simp, (Below.refl _ _).alloc (Nat.le_refl _) _, NewB.new hR⟩
  refine Mono.hgl_done rfl (by decide) (fun ρ W hR ht => ?_)
  simp only [List.take_succ_cons, List.take_zero, List.drop_succ_cons, List.drop_zero]
  obtain ⟨d13, d12, d11, d10, d9, d8, d7, d6, d5, d4, d3, d2, d1, d0, _⟩ := ht
  replace d13 : (fun v W => NewB w0 v W) (ρ 13) W := d13
  simp only [List.length_cons, List.length_nil, Nat.reduceAdd] at d0 d1 d2 d3 d4 d5 d6 d7 d8 d9 d10 d11 d12
  simp only [Mono.putAll, Nat.reduceAdd, d0, d1, d2, d3, d4, d5, d6, d7, d8, d9, d10, d11, d12, Act.put, List.setIfInBounds_toArray, List.set_cons_zero, List.set_cons_succ]
  clear d0 d1 d2 d3 d4 d5 d6 d7 d8 d9 d10 d11 d12
  generalize ρ 13 = r13 at *
  have HP := Lib.hid (HP.out.below hR (by omega))
  have HB := Lib.hid (HB.out.trans (hR.mono (by omega)))
  have hz1 : w.heap.size < W.heap.size := by have := hR.size; omega
  clear hR NUM1 NUM2 NUM3 HNM
  obtain ⟨b5, hbe, hb5a, hb5, hO5⟩ := d13
  subst hbe
  have HT := Lib.hid hO5
  have hlo5 : w.heap.size < b5 := by omega
  clear hO5 hb5a hz0
  have y0 := HT.out.1 0 _ rfl
  have y1 := HT.out.1 1 _ rfl
  have y2 := HT.out.1 2 _ rfl
  have y3 := HT.out.1 3 _ rfl
  have hfr := HT.out.2
  go_upto_region 5 with (fail)
  clear y0 y1 y2 y3 hfr
  have HT := Lib.hid ((((HT.out.set 0 (.int .i64 (n : Nat)) (by simp)).set 1 (.int .i64 (s : Nat)) (by simp)).set 2 (.int .i64 (k : Nat)) (by simp)).set 3 (.bool false) (by simp))
  have HP := Lib.hid ((((HP.out.other (c := b5) (by omega) 0 (.int .i64 (n : Nat))).other (c := b5) (by omega) 1 (.int .i64 (s : Nat))).other (c := b5) (by omega) 2 (.int .i64 (k : Nat))).other (c := b5) (by omega) 3 (.bool false))
  have HB := Lib.hid ((((HB.out.setCell (p := ⟨b5, 0, none⟩) (by show w.heap.size ≤ b5; omega) (.int .i64 (n : Nat))).setCell (p := ⟨b5, 1, none⟩) (by show w.heap.size ≤ b5; omega) (.int .i64 (s : Nat))).setCell (p := ⟨b5, 2, none⟩) (by show w.heap.size ≤ b5; omega) (.int .i64 (k : Nat))).setCell (p := ⟨b5, 3, none⟩) (by show w.heap.size ≤ b5; omega) (.bool false))
  have hz2 : b5 < ((((W.setCell ⟨b5, 0, none⟩ (.int .i64 (n : Nat))).setCell ⟨b5, 1, none⟩ (.int .i64 (s : Nat))).setCell ⟨b5, 2, none⟩ (.int .i64 (k : Nat))).setCell ⟨b5, 3, none⟩ (.bool false)).heap.size := by simp; omega
  generalize ((((W.setCell ⟨b5, 0, none⟩ (.int .i64 (n : Nat))).setCell ⟨b5, 1, none⟩ (.int .i64 (s : Nat))).setCell ⟨b5, 2, none⟩ (.int .i64 (k : Nat))).setCell ⟨b5, 3, none⟩ (.bool false)) = w5 at *
  have y0 := HT.out.1 0 _ rfl
  have y1 := HT.out.1 1 _ rfl
  have y2 := HT.out.1 2 _ rfl
  have y3 := HT.out.1 3 _ rfl
  go_wp2_with fail
  refine (HEN.out _ ((HH.out.below HB.out).mono (by omega))).mono ?_
  rintro e w6 ⟨rfl, hb⟩
  have HT := Lib.hid (HT.out.below hb (by omega))
  have HP := Lib.hid (HP.out.below hb (by omega))
  have HB := Lib.hid (HB.out.trans (hb.mono (by omega)))
  have hz3 : b5 < w6.heap.size := Nat.lt_of_lt_of_le hz2 hb.size
  clear hb
  clear y0 y1 y2 y3
  have y0 := HT.out.1 0 _ rfl
  have y1 := HT.out.1 1 _ rfl
  have y2 := HT.out.1 2 _ rfl
  have y3 := HT.out.1 3 _ rfl
  go_wp2_with fail
  go_region_with ((go_at_call 11; refine (HRE.out _).mono ?_; rintro e w7 ⟨v7, rfl, ho, hb⟩; replace hb := undrew hb; obtain ⟨av, cv, rfl⟩ := (OB.byt ho).slice; have HT7 := Lib.hid (HT.out.below hb (by omega)); have HP7 := Lib.hid (HP.out.below hb (by omega)); have HB7 := Lib.hid (HB.out.trans (hb.mono (by omega))); have x0 := HT7.out.1 0 _ rfl; have x1 := HT7.out.1 1 _ rfl; have x2 := HT7.out.1 2 _ rfl; have x3 := HT7.out.1 3 _ rfl; have z0 := HP7.out.1 0 _ rfl; have z1 := HP7.out.1 1 _ rfl; have z2 := HP7.out.1 2 _ rfl; have z3 := HP7.out.1 3 _ rfl; have hg := HP7.out.2; have hz7 := Nat.lt_of_lt_of_le hz3 hb.size; clear hb ho))
  all_goals
    go_wp2
    refine bodyPost_ret (v := .tuple #[.agg #[.int .i64 (n : Nat), .int .i64 (s : Nat), .int .i64 (k : Nat), .bool false], .int .i64 22]) (by simp [results, Try.results13, go_sem, z0, z1, z2, z3, HXL.out]) rfl ⟨rfl, ?_⟩
    exact ((((HB7.out).setCell (by simp) _).setCell (by simp) _).setCell (by simp) _).setCell (by simp) _
set_option maxHeartbeats 4000000 in
set_option maxRecDepth 100000 in
theorem rparse_narrow_nob (ad : Option Addr) (c : Nat) (l : List UInt8) (w : World) (h : Byt w w.heap.size (.slice ad l.length c) l) (hl : l.length ≤ 100000) (hc : l.length ≤ c) (hs : 22 ≤ l.length) (hn : rd l (l.length - 22 + 8) 2 = 65535) (hs2 : l.length < 98) (ht : tailB (rd l (l.length - 22 + 8) 2 : Nat) (rd l (l.length - 22 + 12) 4 : Nat) (rd l (l.length - 22 + 16) 4 : Nat) = false) : Calls Try.prog 13 #[.slice ad l.length c] w fun e w' => e = .returned (.tuple #[.agg #[.int .i64 0, .int .i64 0, .int .i64 0, .bool false], .int .i64 0]) ∧ Below w.heap.size w w' := by
  have t0 : decide ((l.length : Int) < 22) = false := by simp; omega
  obtain ⟨aea, cea, hpla, hpca, hpba⟩ := piece h hc 22 (by omega)
  rw [show l.length - (l.length - 22) = 22 from by omega] at hpla hpca hpba
  obtain ⟨Sa1, hsa1, hba1⟩ := piece2 aea 22 cea (l.drop (l.length - 22)) hpba (by rw [List.length_drop]; omega) hpca 8 10 (by decide) (by decide)
  have HS1 : Hid (∀ W : World, (Instr.slice 25 (.slice aea 22 cea) (some (.int .i64 8)) (some (.int .i64 10)) none).run Try.prog W = .ok Sa1 W) := Lib.hid hsa1
  have NUM1 := Lib.hid (fun (W : World) (hR : Below w.heap.size w W) => refNumber_B (hba1.below hR) (by rw [List.length_take]; omega))
  rw [List.drop_drop, show num (((l.drop (l.length - 22 + 8))).take (10 - 8)) = rd l (l.length - 22 + 8) 2 from rfl] at NUM1
  clear hsa1 hba1
  obtain ⟨Sa2, hsa2, hba2⟩ := piece2 aea 22 cea (l.drop (l.length - 22)) hpba (by rw [List.length_drop]; omega) hpca 12 16 (by decide) (by decide)
  have HS2 : Hid (∀ W : World, (Instr.slice 25 (.slice aea 22 cea) (some (.int .i64 12)) (some (.int .i64 16)) none).run Try.prog W = .ok Sa2 W) := Lib.hid hsa2
  have NUM2 := Lib.hid (fun (W : World) (hR : Below w.heap.size w W) => refNumber_B (hba2.below hR) (by rw [List.length_take]; omega))
  rw [List.drop_drop, show num (((l.drop (l.length - 22 + 12))).take (16 - 12)) = rd l (l.length - 22 + 12) 4 from rfl] at NUM2
  clear hsa2 hba2
  obtain ⟨Sa3, hsa3, hba3⟩ := piece2 aea 22 cea (l.drop (l.length - 22)) hpba (by rw [List.length_drop]; omega) hpca 16 20 (by decide) (by decide)
  have HS3 : Hid (∀ W : World, (Instr.slice 25 (.slice aea 22 cea) (some (.int .i64 16)) (some (.int .i64 20)) none).run Try.prog W = .ok Sa3 W) := Lib.hid hsa3
  have NUM3 := Lib.hid (fun (W : World) (hR : Below w.heap.size w W) => refNumber_B (hba3.below hR) (by rw [List.length_take]; omega))
  rw [List.drop_drop, show num (((l.drop (l.length - 22 + 16))).take (20 - 16)) = rd l (l.length - 22 + 16) 4 from rfl] at NUM3
  clear hsa3 hba3
  have HPLa : Hid (∀ W : World, (Instr.slice 25 (.slice ad l.length c) (some (.int .i64 ((l.length : Int) - 22))) none none).run Try.prog W = .ok (.slice aea 22 cea) W) := Lib.hid hpla
  clear hpla hpca hpba
  have b_n := rd_lt l (l.length - 22 + 8) 2
  have B_n : (rd l (l.length - 22 + 8) 2) < 65536 := b_n
  clear b_n
  generalize rd l (l.length - 22 + 8) 2 = n at *
  have b_s := rd_lt l (l.length - 22 + 12) 4
  have B_s : (rd l (l.length - 22 + 12) 4) < 4294967296 := b_s
  clear b_s
  generalize rd l (l.length - 22 + 12) 4 = s at *
  have b_k := rd_lt l (l.length - 22 + 16) 4
  have B_k : (rd l (l.length - 22 + 16) 4) < 4294967296 := b_k
  clear b_k
  generalize rd l (l.length - 22 + 16) 4 = k at *
  have q_n : IntKind.i64.wrap (n : Int) = n := IntWalk.i64_in _ (by omega)
  have q_s : IntKind.i64.wrap (s : Int) = s := IntWalk.i64_in _ (by omega)
  have q_k : IntKind.i64.wrap (k : Int) = k := IntWalk.i64_in _ (by omega)
  have HEN := Lib.hid (fun (W : World) (hw : Byt W W.heap.size (.slice ad l.length c) l) => ends_no ad c l W hw hl hc n s k false ht)
  clear ht
  have t5 : ((n : Int) == 65535) = true := by simp; omega
  have t6 : decide (98 ≤ (l.length : Int)) = false := by simp; omega
  clear hn
  have HH := Lib.hid h
  clear h
  have HP := Lib.hid (Own.new_at w [.int .i64 0, .int .i64 0, .int .i64 0, .bool false] 30 w.heap.size rfl)
  have HB := Lib.hid ((Below.refl w.heap.size w).alloc (Nat.le_refl _) (.cells #[.int .i64 0, .int .i64 0, .int .i64 0, .bool false] 30))
  go_enter Try.func13, Try.ntmps13
  have hpl := HPLa.out
  go_wp2_with fail
  clear hpl
  generalize hw0 : (w.alloc (.cells #[.int .i64 0, .int .i64 0, .int .i64 0, .bool false] 30)) = w0 at *
  have hz0 : w0.heap.size = w.heap.size + 1 := by rw [← hw0]; simp
  clear hw0
  have HNM : True := trivial
  have NUM1 := Lib.hid (fun (W : World) (hR : Below w0.heap.size w0 W) => NUM1.out W (HB.out.trans (hR.mono (by omega))))
  have NUM2 := Lib.hid (fun (W : World) (hR : Below w0.heap.size w0 W) => NUM2.out W (HB.out.trans (hR.mono (by omega))))
  have NUM3 := Lib.hid (fun (W : World) (hR : Below w0.heap.size w0 W) => NUM3.out W (HB.out.trans (hR.mono (by omega))))
  refine Mono.region_tail 14 (by kernel_rfl) (by kernel_rfl) (by kernel_rfl) (by kernel_rfl) ?_
  simp only [List.take_succ_cons, List.take_zero]
  refine Mono.hgl_val (v := ?v0) rfl Mono.rr (fun ρ a W hR hd hf => ?h0) ?_
  case h0 =>
    have e4 := Mono.init_get hf (t := 4) (by kernel_rfl)
    clear hd hf
    (go_simp; try with_reducible rfl)
  refine Mono.hgl_val (v := ?v1) rfl Mono.rr (fun ρ a W hR hd hf => ?h1) ?_
  case h1 =>
    have e15 := Mono.dep_val hd hf (t := 15) (k := 0) (by kernel_rfl) rfl
    have hsl := HS1.out W
    clear hd hf
    (go_simp; try with_reducible rfl)
  refine Mono.hgl_call (fun x _ => x = .int .u64 ((n : Nat) : Int)) rfl Mono.rr (fun _ _ _ h _ => h) (fun ρ a W hR hd hf => ?h2) ?_
  case h2 =>
    have e16 := Mono.dep_val hd hf (t := 16) (k := 1) (by kernel_rfl) rfl
    clear hd hf
    refine ⟨_, _, by go_simp; first | rfl | exact ⟨rfl, rfl⟩, ?_⟩
    exact (NUM1.out W hR).mono (fun e W' ⟨he, hw⟩ => ⟨_, he, hw ▸ Mono.rr _, rfl⟩)
  refine Mono.hgl_val (v := ?v3) rfl Mono.rr (fun ρ a W hR hd hf => ?h3) ?_
  case h3 =>
    have e17 := Mono.dep_val hd hf (t := 17) (k := 2) (by kernel_rfl) rfl
    have hq := q_n
    clear hd hf
    (go_simp; try with_reducible rfl)
  refine Mono.hgl_val (v := ?v4) rfl Mono.rr (fun ρ a W hR hd hf => ?h4) ?_
  case h4 =>
    have e4 := Mono.init_get hf (t := 4) (by kernel_rfl)
    clear hd hf
    (go_simp; try with_reducible rfl)
  refine Mono.hgl_val (v := ?v5) rfl Mono.rr (fun ρ a W hR hd hf => ?h5) ?_
  case h5 =>
    have e19 := Mono.dep_val hd hf (t := 19) (k := 4) (by kernel_rfl) rfl
    have hsl := HS2.out W
    clear hd hf
    (go_simp; try with_reducible rfl)
  refine Mono.hgl_call (fun x _ => x = .int .u64 ((s : Nat) : Int)) rfl Mono.rr (fun _ _ _ h _ => h) (fun ρ a W hR hd hf => ?h6) ?_
  case h6 =>
    have e20 := Mono.dep_val hd hf (t := 20) (k := 5) (by kernel_rfl) rfl
    clear hd hf
    refine ⟨_, _, by go_simp; first | rfl | exact ⟨rfl, rfl⟩, ?_⟩
    exact (NUM2.out W hR).mono (fun e W' ⟨he, hw⟩ => ⟨_, he, hw ▸ Mono.rr _, rfl⟩)
  refine Mono.hgl_val (v := ?v7) rfl Mono.rr (fun ρ a W hR hd hf => ?h7) ?_
  case h7 =>
    have e21 := Mono.dep_val hd hf (t := 21) (k := 6) (by kernel_rfl) rfl
    have hq := q_s
    clear hd hf
    (go_simp; try with_reducible rfl)
  refine Mono.hgl_val (v := ?v8) rfl Mono.rr (fun ρ a W hR hd hf => ?h8) ?_
  case h8 =>
    have e4 := Mono.init_get hf (t := 4) (by kernel_rfl)
    clear hd hf
    (go_simp; try with_reducible rfl)
  refine Mono.hgl_val (v := ?v9) rfl Mono.rr (fun ρ a W hR hd hf => ?h9) ?_
  case h9 =>
    have e23 := Mono.dep_val hd hf (t := 23) (k := 8) (by kernel_rfl) rfl
    have hsl := HS3.out W
    clear hd hf
    (go_simp; try with_reducible rfl)
  refine Mono.hgl_call (fun x _ => x = .int .u64 ((k : Nat) : Int)) rfl Mono.rr (fun _ _ _ h _ => h) (fun ρ a W hR hd hf => ?h10) ?_
  case h10 =>
    have e24 := Mono.dep_val hd hf (t := 24) (k := 9) (by kernel_rfl) rfl
    clear hd hf
    refine ⟨_, _, by go_simp; first | rfl | exact ⟨rfl, rfl⟩, ?_⟩
    exact (NUM3.out W hR).mono (fun e W' ⟨he, hw⟩ => ⟨_, he, hw ▸ Mono.rr _, rfl⟩)
  refine Mono.hgl_val (v := ?v11) rfl Mono.rr (fun ρ a W hR hd hf => ?h11) ?_
  case h11 =>
    have e25 := Mono.dep_val hd hf (t := 25) (k := 10) (by kernel_rfl) rfl
    have hq := q_k
    clear hd hf
    (go_simp; try with_reducible rfl)
  refine Mono.hgl_val (v := ?v12) rfl Mono.rr (fun ρ a W hR hd hf => ?h12) ?_
  case h12 =>
    have e18 := Mono.dep_val hd hf (t := 18) (k := 3) (by kernel_rfl) rfl
    have e22 := Mono.dep_val hd hf (t := 22) (k := 7) (by kernel_rfl) rfl
    have e26 := Mono.dep_val hd hf (t := 26) (k := 11) (by kernel_rfl) rfl
    clear hd hf
    (go_simp; try with_reducible rfl)
  refine Mono.hgl_pred (fun v W => NewB w0 v W) rfl hstNewB (fun ρ a W hR hd hf => ?h13) ?_
  case h13 =>
    clear hd hf
    exact ⟨_, _, by go_simp, (Below.refl _ _).alloc (Nat.le_refl _) _, NewB.new hR⟩
  refine Mono.hgl_done rfl (by decide) (fun ρ W hR ht => ?_)
  simp only [List.take_succ_cons, List.take_zero, List.drop_succ_cons, List.drop_zero]
  obtain ⟨d13, d12, d11, d10, d9, d8, d7, d6, d5, d4, d3, d2, d1, d0, _⟩ := ht
  replace d13 : (fun v W => NewB w0 v W) (ρ 13) W := d13
  simp only [List.length_cons, List.length_nil, Nat.reduceAdd] at d0 d1 d2 d3 d4 d5 d6 d7 d8 d9 d10 d11 d12
  simp only [Mono.putAll, Nat.reduceAdd, d0, d1, d2, d3, d4, d5, d6, d7, d8, d9, d10, d11, d12, Act.put, List.setIfInBounds_toArray, List.set_cons_zero, List.set_cons_succ]
  clear d0 d1 d2 d3 d4 d5 d6 d7 d8 d9 d10 d11 d12
  generalize ρ 13 = r13 at *
  have HP := Lib.hid (HP.out.below hR (by omega))
  have HB := Lib.hid (HB.out.trans (hR.mono (by omega)))
  have hz1 : w.heap.size < W.heap.size := by have := hR.size; omega
  clear hR NUM1 NUM2 NUM3 HNM
  obtain ⟨b5, hbe, hb5a, hb5, hO5⟩ := d13
  subst hbe
  have HT := Lib.hid hO5
  have hlo5 : w.heap.size < b5 := by omega
  clear hO5 hb5a hz0
  have y0 := HT.out.1 0 _ rfl
  have y1 := HT.out.1 1 _ rfl
  have y2 := HT.out.1 2 _ rfl
  have y3 := HT.out.1 3 _ rfl
  have hfr := HT.out.2
  go_upto_region 5 with (fail)
  clear y0 y1 y2 y3 hfr
  have HT := Lib.hid ((((HT.out.set 0 (.int .i64 (n : Nat)) (by simp)).set 1 (.int .i64 (s : Nat)) (by simp)).set 2 (.int .i64 (k : Nat)) (by simp)).set 3 (.bool false) (by simp))
  have HP := Lib.hid ((((HP.out.other (c := b5) (by omega) 0 (.int .i64 (n : Nat))).other (c := b5) (by omega) 1 (.int .i64 (s : Nat))).other (c := b5) (by omega) 2 (.int .i64 (k : Nat))).other (c := b5) (by omega) 3 (.bool false))
  have HB := Lib.hid ((((HB.out.setCell (p := ⟨b5, 0, none⟩) (by show w.heap.size ≤ b5; omega) (.int .i64 (n : Nat))).setCell (p := ⟨b5, 1, none⟩) (by show w.heap.size ≤ b5; omega) (.int .i64 (s : Nat))).setCell (p := ⟨b5, 2, none⟩) (by show w.heap.size ≤ b5; omega) (.int .i64 (k : Nat))).setCell (p := ⟨b5, 3, none⟩) (by show w.heap.size ≤ b5; omega) (.bool false))
  have hz2 : b5 < ((((W.setCell ⟨b5, 0, none⟩ (.int .i64 (n : Nat))).setCell ⟨b5, 1, none⟩ (.int .i64 (s : Nat))).setCell ⟨b5, 2, none⟩ (.int .i64 (k : Nat))).setCell ⟨b5, 3, none⟩ (.bool false)).heap.size := by simp; omega
  generalize ((((W.setCell ⟨b5, 0, none⟩ (.int .i64 (n : Nat))).setCell ⟨b5, 1, none⟩ (.int .i64 (s : Nat))).setCell ⟨b5, 2, none⟩ (.int .i64 (k : Nat))).setCell ⟨b5, 3, none⟩ (.bool false)) = w5 at *
  have y0 := HT.out.1 0 _ rfl
  have y1 := HT.out.1 1 _ rfl
  have y2 := HT.out.1 2 _ rfl
  have y3 := HT.out.1 3 _ rfl
  go_wp2_with fail
  refine (HEN.out _ ((HH.out.below HB.out).mono (by omega))).mono ?_
  rintro e w6 ⟨rfl, hb⟩
  have HT := Lib.hid (HT.out.below hb (by omega))
  have HP := Lib.hid (HP.out.below hb (by omega))
  have HB := Lib.hid (HB.out.trans (hb.mono (by omega)))
  have hz3 : b5 < w6.heap.size := Nat.lt_of_lt_of_le hz2 hb.size
  clear hb
  have z0 := HP.out.1 0 _ rfl
  have z1 := HP.out.1 1 _ rfl
  have z2 := HP.out.1 2 _ rfl
  have z3 := HP.out.1 3 _ rfl
  have hg := HP.out.2
  go_wp2
  refine bodyPost_ret (v := .tuple #[.agg #[.int .i64 0, .int .i64 0, .int .i64 0, .bool false], .int .i64 0]) (by simp [results, Try.results13, go_sem, z0, z1, z2, z3]) rfl ⟨rfl, ?_⟩
  exact ((((HB.out).setCell (by simp) _).setCell (by simp) _).setCell (by simp) _).setCell (by simp) _
set_option maxHeartbeats 4000000 in
set_option maxRecDepth 100000 in
theorem rparse_wide_no (ad : Option Addr) (c : Nat) (l : List UInt8) (w : World) (h : Byt w w.heap.size (.slice ad l.length c) l) (hl : l.length ≤ 100000) (hc : l.length ≤ c) (hs : 98 ≤ l.length) (hn : rd l (l.length - 22 + 8) 2 = 65535) (ht : tailB (tW (rd l (l.length - 98 + 24) 8)) (tW (rd l (l.length - 98 + 40) 8)) (tW (rd l (l.length - 98 + 48) 8)) = false) : Calls Try.prog 13 #[.slice ad l.length c] w fun e w' => e = .returned (.tuple #[.agg #[.int .i64 0, .int .i64 0, .int .i64 0, .bool false], .int .i64 0]) ∧ Below w.heap.size w w' := by
  have t0 : decide ((l.length : Int) < 22) = false := by simp; omega
  obtain ⟨aea, cea, hpla, hpca, hpba⟩ := piece h hc 22 (by omega)
  rw [show l.length - (l.length - 22) = 22 from by omega] at hpla hpca hpba
  obtain ⟨Sa1, hsa1, hba1⟩ := piece2 aea 22 cea (l.drop (l.length - 22)) hpba (by rw [List.length_drop]; omega) hpca 8 10 (by decide) (by decide)
  have HS1 : Hid (∀ W : World, (Instr.slice 25 (.slice aea 22 cea) (some (.int .i64 8)) (some (.int .i64 10)) none).run Try.prog W = .ok Sa1 W) := Lib.hid hsa1
  have NUM1 := Lib.hid (fun (W : World) (hR : Below w.heap.size w W) => refNumber_B (hba1.below hR) (by rw [List.length_take]; omega))
  rw [List.drop_drop, show num (((l.drop (l.length - 22 + 8))).take (10 - 8)) = rd l (l.length - 22 + 8) 2 from rfl] at NUM1
  clear hsa1 hba1
  obtain ⟨Sa2, hsa2, hba2⟩ := piece2 aea 22 cea (l.drop (l.length - 22)) hpba (by rw [List.length_drop]; omega) hpca 12 16 (by decide) (by decide)
  have HS2 : Hid (∀ W : World, (Instr.slice 25 (.slice aea 22 cea) (some (.int .i64 12)) (some (.int .i64 16)) none).run Try.prog W = .ok Sa2 W) := Lib.hid hsa2
  have NUM2 := Lib.hid (fun (W : World) (hR : Below w.heap.size w W) => refNumber_B (hba2.below hR) (by rw [List.length_take]; omega))
  rw [List.drop_drop, show num (((l.drop (l.length - 22 + 12))).take (16 - 12)) = rd l (l.length - 22 + 12) 4 from rfl] at NUM2
  clear hsa2 hba2
  obtain ⟨Sa3, hsa3, hba3⟩ := piece2 aea 22 cea (l.drop (l.length - 22)) hpba (by rw [List.length_drop]; omega) hpca 16 20 (by decide) (by decide)
  have HS3 : Hid (∀ W : World, (Instr.slice 25 (.slice aea 22 cea) (some (.int .i64 16)) (some (.int .i64 20)) none).run Try.prog W = .ok Sa3 W) := Lib.hid hsa3
  have NUM3 := Lib.hid (fun (W : World) (hR : Below w.heap.size w W) => refNumber_B (hba3.below hR) (by rw [List.length_take]; omega))
  rw [List.drop_drop, show num (((l.drop (l.length - 22 + 16))).take (20 - 16)) = rd l (l.length - 22 + 16) 4 from rfl] at NUM3
  clear hsa3 hba3
  have HPLa : Hid (∀ W : World, (Instr.slice 25 (.slice ad l.length c) (some (.int .i64 ((l.length : Int) - 22))) none none).run Try.prog W = .ok (.slice aea 22 cea) W) := Lib.hid hpla
  clear hpla hpca hpba
  obtain ⟨aeb, ceb, hplb, hpcb, hpbb⟩ := piece h hc 98 (by omega)
  rw [show l.length - (l.length - 98) = 98 from by omega] at hplb hpcb hpbb
  obtain ⟨Sb1, hsb1, hbb1⟩ := piece2 aeb 98 ceb (l.drop (l.length - 98)) hpbb (by rw [List.length_drop]; omega) hpcb 24 32 (by decide) (by decide)
  have HT1 : Hid (∀ W : World, (Instr.slice 25 (.slice aeb 98 ceb) (some (.int .i64 24)) (some (.int .i64 32)) none).run Try.prog W = .ok Sb1 W) := Lib.hid hsb1
  have NUW1 := Lib.hid (fun (W : World) (hR : Below w.heap.size w W) => wideN_any (hbb1.below hR) (by rw [List.length_take]; omega))
  rw [List.drop_drop, show num (((l.drop (l.length - 98 + 24))).take (32 - 24)) = rd l (l.length - 98 + 24) 8 from rfl] at NUW1
  clear hsb1 hbb1
  obtain ⟨Sb2, hsb2, hbb2⟩ := piece2 aeb 98 ceb (l.drop (l.length - 98)) hpbb (by rw [List.length_drop]; omega) hpcb 40 48 (by decide) (by decide)
  have HT2 : Hid (∀ W : World, (Instr.slice 25 (.slice aeb 98 ceb) (some (.int .i64 40)) (some (.int .i64 48)) none).run Try.prog W = .ok Sb2 W) := Lib.hid hsb2
  have NUW2 := Lib.hid (fun (W : World) (hR : Below w.heap.size w W) => wideN_any (hbb2.below hR) (by rw [List.length_take]; omega))
  rw [List.drop_drop, show num (((l.drop (l.length - 98 + 40))).take (48 - 40)) = rd l (l.length - 98 + 40) 8 from rfl] at NUW2
  clear hsb2 hbb2
  obtain ⟨Sb3, hsb3, hbb3⟩ := piece2 aeb 98 ceb (l.drop (l.length - 98)) hpbb (by rw [List.length_drop]; omega) hpcb 48 56 (by decide) (by decide)
  have HT3 : Hid (∀ W : World, (Instr.slice 25 (.slice aeb 98 ceb) (some (.int .i64 48)) (some (.int .i64 56)) none).run Try.prog W = .ok Sb3 W) := Lib.hid hsb3
  have NUW3 := Lib.hid (fun (W : World) (hR : Below w.heap.size w W) => wideN_any (hbb3.below hR) (by rw [List.length_take]; omega))
  rw [List.drop_drop, show num (((l.drop (l.length - 98 + 48))).take (56 - 48)) = rd l (l.length - 98 + 48) 8 from rfl] at NUW3
  clear hsb3 hbb3
  have HPLb : Hid (∀ W : World, (Instr.slice 25 (.slice ad l.length c) (some (.int .i64 ((l.length : Int) - 98))) none none).run Try.prog W = .ok (.slice aeb 98 ceb) W) := Lib.hid hplb
  clear hplb hpcb hpbb
  have b_n := rd_lt l (l.length - 22 + 8) 2
  have B_n : (rd l (l.length - 22 + 8) 2) < 65536 := b_n
  clear b_n
  generalize rd l (l.length - 22 + 8) 2 = n at *
  have b_s := rd_lt l (l.length - 22 + 12) 4
  have B_s : (rd l (l.length - 22 + 12) 4) < 4294967296 := b_s
  clear b_s
  generalize rd l (l.length - 22 + 12) 4 = s at *
  have b_k := rd_lt l (l.length - 22 + 16) 4
  have B_k : (rd l (l.length - 22 + 16) 4) < 4294967296 := b_k
  clear b_k
  generalize rd l (l.length - 22 + 16) 4 = k at *
  have q_n : IntKind.i64.wrap (n : Int) = n := IntWalk.i64_in _ (by omega)
  have q_s : IntKind.i64.wrap (s : Int) = s := IntWalk.i64_in _ (by omega)
  have q_k : IntKind.i64.wrap (k : Int) = k := IntWalk.i64_in _ (by omega)
  have t5 : ((n : Int) == 65535) = true := by simp; omega
  have t6 : decide (98 ≤ (l.length : Int)) = true := by simp; omega
  clear hn
  generalize tW (rd l (l.length - 98 + 24) 8) = n2 at *
  generalize tW (rd l (l.length - 98 + 40) 8) = s2 at *
  generalize tW (rd l (l.length - 98 + 48) 8) = k2 at *
  have HEN := Lib.hid (fun (W : World) (hw : Byt W W.heap.size (.slice ad l.length c) l) => ends_no ad c l W hw hl hc n2 s2 k2 true ht)
  clear ht
  have HH := Lib.hid h
  clear h
  have HP := Lib.hid (Own.new_at w [.int .i64 0, .int .i64 0, .int .i64 0, .bool false] 30 w.heap.size rfl)
  have HB := Lib.hid ((Below.refl w.heap.size w).alloc (Nat.le_refl _) (.cells #[.int .i64 0, .int .i64 0, .int .i64 0, .bool false] 30))
  go_enter Try.func13, Try.ntmps13
  have hpl := HPLa.out
  go_wp2_with fail
  clear hpl
  generalize hw0 : (w.alloc (.cells #[.int .i64 0, .int .i64 0, .int .i64 0, .bool false] 30)) = w0 at *
  have hz0 : w0.heap.size = w.heap.size + 1 := by rw [← hw0]; simp
  clear hw0
  have HNM : True := trivial
  have NUM1 := Lib.hid (fun (W : World) (hR : Below w0.heap.size w0 W) => NUM1.out W (HB.out.trans (hR.mono (by omega))))
  have NUM2 := Lib.hid (fun (W : World) (hR : Below w0.heap.size w0 W) => NUM2.out W (HB.out.trans (hR.mono (by omega))))
  have NUM3 := Lib.hid (fun (W : World) (hR : Below w0.heap.size w0 W) => NUM3.out W (HB.out.trans (hR.mono (by omega))))
  refine Mono.region_tail 14 (by kernel_rfl) (by kernel_rfl) (by kernel_rfl) (by kernel_rfl) ?_
  simp only [List.take_succ_cons, List.take_zero]
  refine Mono.hgl_val (v := ?v0) rfl Mono.rr (fun ρ a W hR hd hf => ?h0) ?_
  case h0 =>
    have e4 := Mono.init_get hf (t := 4) (by kernel_rfl)
    clear hd hf
    (go_simp; try with_reducible rfl)
  refine Mono.hgl_val (v := ?v1) rfl Mono.rr (fun ρ a W hR hd hf => ?h1) ?_
  case h1 =>
    have e15 := Mono.dep_val hd hf (t := 15) (k := 0) (by kernel_rfl) rfl
    have hsl := HS1.out W
    clear hd hf
    (go_simp; try with_reducible rfl)
  refine Mono.hgl_call (fun x _ => x = .int .u64 ((n : Nat) : Int)) rfl Mono.rr (fun _ _ _ h _ => h) (fun ρ a W hR hd hf => ?h2) ?_
  case h2 =>
    have e16 := Mono.dep_val hd hf (t := 16) (k := 1) (by kernel_rfl) rfl
    clear hd hf
    refine ⟨_, _, by go_simp; first | rfl | exact ⟨rfl, rfl⟩, ?_⟩
    exact (NUM1.out W hR).mono (fun e W' ⟨he, hw⟩ => ⟨_, he, hw ▸ Mono.rr _, rfl⟩)
  refine Mono.hgl_val (v := ?v3) rfl Mono.rr (fun ρ a W hR hd hf => ?h3) ?_
  case h3 =>
    have e17 := Mono.dep_val hd hf (t := 17) (k := 2) (by kernel_rfl) rfl
    have hq := q_n
    clear hd hf
    (go_simp; try with_reducible rfl)
  refine Mono.hgl_val (v := ?v4) rfl Mono.rr (fun ρ a W hR hd hf => ?h4) ?_
  case h4 =>
    have e4 := Mono.init_get hf (t := 4) (by kernel_rfl)
    clear hd hf
    (go_simp; try with_reducible rfl)
  refine Mono.hgl_val (v := ?v5) rfl Mono.rr (fun ρ a W hR hd hf => ?h5) ?_
  case h5 =>
    have e19 := Mono.dep_val hd hf (t := 19) (k := 4) (by kernel_rfl) rfl
    have hsl := HS2.out W
    clear hd hf
    (go_simp; try with_reducible rfl)
  refine Mono.hgl_call (fun x _ => x = .int .u64 ((s : Nat) : Int)) rfl Mono.rr (fun _ _ _ h _ => h) (fun ρ a W hR hd hf => ?h6) ?_
  case h6 =>
    have e20 := Mono.dep_val hd hf (t := 20) (k := 5) (by kernel_rfl) rfl
    clear hd hf
    refine ⟨_, _, by go_simp; first | rfl | exact ⟨rfl, rfl⟩, ?_⟩
    exact (NUM2.out W hR).mono (fun e W' ⟨he, hw⟩ => ⟨_, he, hw ▸ Mono.rr _, rfl⟩)
  refine Mono.hgl_val (v := ?v7) rfl Mono.rr (fun ρ a W hR hd hf => ?h7) ?_
  case h7 =>
    have e21 := Mono.dep_val hd hf (t := 21) (k := 6) (by kernel_rfl) rfl
    have hq := q_s
    clear hd hf
    (go_simp; try with_reducible rfl)
  refine Mono.hgl_val (v := ?v8) rfl Mono.rr (fun ρ a W hR hd hf => ?h8) ?_
  case h8 =>
    have e4 := Mono.init_get hf (t := 4) (by kernel_rfl)
    clear hd hf
    (go_simp; try with_reducible rfl)
  refine Mono.hgl_val (v := ?v9) rfl Mono.rr (fun ρ a W hR hd hf => ?h9) ?_
  case h9 =>
    have e23 := Mono.dep_val hd hf (t := 23) (k := 8) (by kernel_rfl) rfl
    have hsl := HS3.out W
    clear hd hf
    (go_simp; try with_reducible rfl)
  refine Mono.hgl_call (fun x _ => x = .int .u64 ((k : Nat) : Int)) rfl Mono.rr (fun _ _ _ h _ => h) (fun ρ a W hR hd hf => ?h10) ?_
  case h10 =>
    have e24 := Mono.dep_val hd hf (t := 24) (k := 9) (by kernel_rfl) rfl
    clear hd hf
    refine ⟨_, _, by go_simp; first | rfl | exact ⟨rfl, rfl⟩, ?_⟩
    exact (NUM3.out W hR).mono (fun e W' ⟨he, hw⟩ => ⟨_, he, hw ▸ Mono.rr _, rfl⟩)
  refine Mono.hgl_val (v := ?v11) rfl Mono.rr (fun ρ a W hR hd hf => ?h11) ?_
  case h11 =>
    have e25 := Mono.dep_val hd hf (t := 25) (k := 10) (by kernel_rfl) rfl
    have hq := q_k
    clear hd hf
    (go_simp; try with_reducible rfl)
  refine Mono.hgl_val (v := ?v12) rfl Mono.rr (fun ρ a W hR hd hf => ?h12) ?_
  case h12 =>
    have e18 := Mono.dep_val hd hf (t := 18) (k := 3) (by kernel_rfl) rfl
    have e22 := Mono.dep_val hd hf (t := 22) (k := 7) (by kernel_rfl) rfl
    have e26 := Mono.dep_val hd hf (t := 26) (k := 11) (by kernel_rfl) rfl
    clear hd hf
    (go_simp; try with_reducible rfl)
  refine Mono.hgl_pred (fun v W => NewB w0 v W) rfl hstNewB (fun ρ a W hR hd hf => ?h13) ?_
  case h13 =>
    clear hd hf
    exact ⟨_, _, by go_simp, (Below.refl _ _).alloc (Nat.le_refl _) _, NewB.new hR⟩
  refine Mono.hgl_done rfl (by decide) (fun ρ W hR ht => ?_)
  simp only [List.take_succ_cons, List.take_zero, List.drop_succ_cons, List.drop_zero]
  obtain ⟨d13, d12, d11, d10, d9, d8, d7, d6, d5, d4, d3, d2, d1, d0, _⟩ := ht
  replace d13 : (fun v W => NewB w0 v W) (ρ 13) W := d13
  simp only [List.length_cons, List.length_nil, Nat.reduceAdd] at d0 d1 d2 d3 d4 d5 d6 d7 d8 d9 d10 d11 d12
  simp only [Mono.putAll, Nat.reduceAdd, d0, d1, d2, d3, d4, d5, d6, d7, d8, d9, d10, d11, d12, Act.put, List.setIfInBounds_toArray, List.set_cons_zero, List.set_cons_succ]
  clear d0 d1 d2 d3 d4 d5 d6 d7 d8 d9 d10 d11 d12
  generalize ρ 13 = r13 at *
  have HP := Lib.hid (HP.out.below hR (by omega))
  have HB := Lib.hid (HB.out.trans (hR.mono (by omega)))
  have hz1 : w.heap.size < W.heap.size := by have := hR.size; omega
  clear hR NUM1 NUM2 NUM3 HNM
  obtain ⟨b5, hbe, hb5a, hb5, hO5⟩ := d13
  subst hbe
  have HT := Lib.hid hO5
  have hlo5 : w.heap.size < b5 := by omega
  clear hO5 hb5a hz0
  have y0 := HT.out.1 0 _ rfl
  have y1 := HT.out.1 1 _ rfl
  have y2 := HT.out.1 2 _ rfl
  have y3 := HT.out.1 3 _ rfl
  have hfr := HT.out.2
  go_upto_region 5 with (fail)
  clear y0 y1 y2 y3 hfr
  have HT := Lib.hid ((((HT.out.set 0 (.int .i64 (n : Nat)) (by simp)).set 1 (.int .i64 (s : Nat)) (by simp)).set 2 (.int .i64 (k : Nat)) (by simp)).set 3 (.bool false) (by simp))
  have HP := Lib.hid ((((HP.out.other (c := b5) (by omega) 0 (.int .i64 (n : Nat))).other (c := b5) (by omega) 1 (.int .i64 (s : Nat))).other (c := b5) (by omega) 2 (.int .i64 (k : Nat))).other (c := b5) (by omega) 3 (.bool false))
  have HB := Lib.hid ((((HB.out.setCell (p := ⟨b5, 0, none⟩) (by show w.heap.size ≤ b5; omega) (.int .i64 (n : Nat))).setCell (p := ⟨b5, 1, none⟩) (by show w.heap.size ≤ b5; omega) (.int .i64 (s : Nat))).setCell (p := ⟨b5, 2, none⟩) (by show w.heap.size ≤ b5; omega) (.int .i64 (k : Nat))).setCell (p := ⟨b5, 3, none⟩) (by show w.heap.size ≤ b5; omega) (.bool false))
  have hz2 : b5 < ((((W.setCell ⟨b5, 0, none⟩ (.int .i64 (n : Nat))).setCell ⟨b5, 1, none⟩ (.int .i64 (s : Nat))).setCell ⟨b5, 2, none⟩ (.int .i64 (k : Nat))).setCell ⟨b5, 3, none⟩ (.bool false)).heap.size := by simp; omega
  generalize ((((W.setCell ⟨b5, 0, none⟩ (.int .i64 (n : Nat))).setCell ⟨b5, 1, none⟩ (.int .i64 (s : Nat))).setCell ⟨b5, 2, none⟩ (.int .i64 (k : Nat))).setCell ⟨b5, 3, none⟩ (.bool false)) = w5 at *
  have y0 := HT.out.1 0 _ rfl
  have y1 := HT.out.1 1 _ rfl
  have y2 := HT.out.1 2 _ rfl
  have y3 := HT.out.1 3 _ rfl
  have hpl := HPLb.out
  go_wp2_with fail
  clear hpl y0 y1 y2 y3
  refine Mono.region_tail 10 (by kernel_rfl) (by kernel_rfl) (by kernel_rfl) (by kernel_rfl) ?_
  simp only [List.take_succ_cons, List.take_zero]
  refine Mono.hgl_val (v := ?vq0) rfl Mono.rr (fun ρ a W hR hd hf => ?hq0) ?_
  case hq0 =>
    have e4 := Mono.init_get hf (t := 4) (by kernel_rfl)
    clear hd hf
    (go_simp; try with_reducible rfl)
  refine Mono.hgl_val (v := ?vq1) rfl Mono.rr (fun ρ a W hR hd hf => ?hq1) ?_
  case hq1 =>
    have e41 := Mono.dep_val hd hf (t := 41) (k := 0) (by kernel_rfl) rfl
    have hsl := HT1.out W
    clear hd hf
    (go_simp; try with_reducible rfl)
  refine Mono.hgl_call (fun x _ => x = .int .i64 n2) rfl Mono.rr (fun _ _ _ h _ => h) (fun ρ a W hR hd hf => ?hq2) ?_
  case hq2 =>
    have e42 := Mono.dep_val hd hf (t := 42) (k := 1) (by kernel_rfl) rfl
    clear hd hf
    refine ⟨_, _, by go_simp; first | rfl | exact ⟨rfl, rfl⟩, ?_⟩
    exact (NUW1.out W (HB.out.trans (hR.mono (by omega)))).mono (fun e W' ⟨he, hw⟩ => ⟨_, he, hw ▸ Mono.rr _, rfl⟩)
  refine Mono.hgl_val (v := ?vq3) rfl Mono.rr (fun ρ a W hR hd hf => ?hq3) ?_
  case hq3 =>
    have e4 := Mono.init_get hf (t := 4) (by kernel_rfl)
    clear hd hf
    (go_simp; try with_reducible rfl)
  refine Mono.hgl_val (v := ?vq4) rfl Mono.rr (fun ρ a W hR hd hf => ?hq4) ?_
  case hq4 =>
    have e44 := Mono.dep_val hd hf (t := 44) (k := 3) (by kernel_rfl) rfl
    have hsl := HT2.out W
    clear hd hf
    (go_simp; try with_reducible rfl)
  refine Mono.hgl_call (fun x _ => x = .int .i64 s2) rfl Mono.rr (fun _ _ _ h _ => h) (fun ρ a W hR hd hf => ?hq5) ?_
  case hq5 =>
    have e45 := Mono.dep_val hd hf (t := 45) (k := 4) (by kernel_rfl) rfl
    clear hd hf
    refine ⟨_, _, by go_simp; first | rfl | exact ⟨rfl, rfl⟩, ?_⟩
    exact (NUW2.out W (HB.out.trans (hR.mono (by omega)))).mono (fun e W' ⟨he, hw⟩ => ⟨_, he, hw ▸ Mono.rr _, rfl⟩)
  refine Mono.hgl_val (v := ?vq6) rfl Mono.rr (fun ρ a W hR hd hf => ?hq6) ?_
  case hq6 =>
    have e4 := Mono.init_get hf (t := 4) (by kernel_rfl)
    clear hd hf
    (go_simp; try with_reducible rfl)
  refine Mono.hgl_val (v := ?vq7) rfl Mono.rr (fun ρ a W hR hd hf => ?hq7) ?_
  case hq7 =>
    have e47 := Mono.dep_val hd hf (t := 47) (k := 6) (by kernel_rfl) rfl
    have hsl := HT3.out W
    clear hd hf
    (go_simp; try with_reducible rfl)
  refine Mono.hgl_call (fun x _ => x = .int .i64 k2) rfl Mono.rr (fun _ _ _ h _ => h) (fun ρ a W hR hd hf => ?hq8) ?_
  case hq8 =>
    have e48 := Mono.dep_val hd hf (t := 48) (k := 7) (by kernel_rfl) rfl
    clear hd hf
    refine ⟨_, _, by go_simp; first | rfl | exact ⟨rfl, rfl⟩, ?_⟩
    exact (NUW3.out W (HB.out.trans (hR.mono (by omega)))).mono (fun e W' ⟨he, hw⟩ => ⟨_, he, hw ▸ Mono.rr _, rfl⟩)
  refine Mono.hgl_val (v := ?vq9) rfl Mono.rr (fun ρ a W hR hd hf => ?hq9) ?_
  case hq9 =>
    have e43 := Mono.dep_val hd hf (t := 43) (k := 2) (by kernel_rfl) rfl
    have e46 := Mono.dep_val hd hf (t := 46) (k := 5) (by kernel_rfl) rfl
    have e49 := Mono.dep_val hd hf (t := 49) (k := 8) (by kernel_rfl) rfl
    clear hd hf
    (go_simp; try with_reducible rfl)
  refine Mono.hgl_done rfl (by decide) (fun ρ W hR ht => ?_)
  simp only [List.take_succ_cons, List.take_zero, List.drop_succ_cons, List.drop_zero]
  obtain ⟨dq9, dq8, dq7, dq6, dq5, dq4, dq3, dq2, dq1, dq0, _⟩ := ht
  simp only [List.length_cons, List.length_nil, Nat.reduceAdd] at dq0 dq1 dq2 dq3 dq4 dq5 dq6 dq7 dq8 dq9
  simp only [Mono.putAll, Nat.reduceAdd, dq0, dq1, dq2, dq3, dq4, dq5, dq6, dq7, dq8, dq9, Act.put, List.setIfInBounds_toArray, List.set_cons_zero, List.set_cons_succ]
  clear dq0 dq1 dq2 dq3 dq4 dq5 dq6 dq7 dq8 dq9
  have HT := Lib.hid (HT.out.below hR (by omega))
  have HP := Lib.hid (HP.out.below hR (by omega))
  have HB := Lib.hid (HB.out.trans (hR.mono (by omega)))
  have hz9 : b5 < W.heap.size := Nat.lt_of_lt_of_le hz2 hR.size
  clear hR
  have y0 := HT.out.1 0 _ rfl
  have y1 := HT.out.1 1 _ rfl
  have y2 := HT.out.1 2 _ rfl
  have y3 := HT.out.1 3 _ rfl
  have hfr := HT.out.2
  go_upto_region 8 with (fail)
  clear y0 y1 y2 y3 hfr
  have HT := Lib.hid ((((HT.out.set 0 (.int .i64 n2) (by simp)).set 1 (.int .i64 s2) (by simp)).set 2 (.int .i64 k2) (by simp)).set 3 (.bool true) (by simp))
  have HP := Lib.hid ((((HP.out.other (c := b5) (by omega) 0 (.int .i64 n2)).other (c := b5) (by omega) 1 (.int .i64 s2)).other (c := b5) (by omega) 2 (.int .i64 k2)).other (c := b5) (by omega) 3 (.bool true))
  have HB := Lib.hid ((((HB.out.setCell (p := ⟨b5, 0, none⟩) (by show w.heap.size ≤ b5; omega) (.int .i64 n2)).setCell (p := ⟨b5, 1, none⟩) (by show w.heap.size ≤ b5; omega) (.int .i64 s2)).setCell (p := ⟨b5, 2, none⟩) (by show w.heap.size ≤ b5; omega) (.int .i64 k2)).setCell (p := ⟨b5, 3, none⟩) (by show w.heap.size ≤ b5; omega) (.bool true))
  have hz2 : b5 < ((((W.setCell ⟨b5, 0, none⟩ (.int .i64 n2)).setCell ⟨b5, 1, none⟩ (.int .i64 s2)).setCell ⟨b5, 2, none⟩ (.int .i64 k2)).setCell ⟨b5, 3, none⟩ (.bool true)).heap.size := by simp; omega
  generalize ((((W.setCell ⟨b5, 0, none⟩ (.int .i64 n2)).setCell ⟨b5, 1, none⟩ (.int .i64 s2)).setCell ⟨b5, 2, none⟩ (.int .i64 k2)).setCell ⟨b5, 3, none⟩ (.bool true)) = w8 at *
  have y0 := HT.out.1 0 _ rfl
  have y1 := HT.out.1 1 _ rfl
  have y2 := HT.out.1 2 _ rfl
  have y3 := HT.out.1 3 _ rfl
  go_wp2_with fail
  refine (HEN.out _ ((HH.out.below HB.out).mono (by omega))).mono ?_
  rintro e w6 ⟨rfl, hb⟩
  have HT := Lib.hid (HT.out.below hb (by omega))
  have HP := Lib.hid (HP.out.below hb (by omega))
  have HB := Lib.hid (HB.out.trans (hb.mono (by omega)))
  have hz3 : b5 < w6.heap.size := Nat.lt_of_lt_of_le hz2 hb.size
  clear hb
  have z0 := HP.out.1 0 _ rfl
  have z1 := HP.out.1 1 _ rfl
  have z2 := HP.out.1 2 _ rfl
  have z3 := HP.out.1 3 _ rfl
  have hg := HP.out.2
  go_wp2
  refine bodyPost_ret (v := .tuple #[.agg #[.int .i64 0, .int .i64 0, .int .i64 0, .bool false], .int .i64 0]) (by simp [results, Try.results13, go_sem, z0, z1, z2, z3]) rfl ⟨rfl, ?_⟩
  exact ((((HB.out).setCell (by simp) _).setCell (by simp) _).setCell (by simp) _).setCell (by simp) _
set_option maxHeartbeats 4000000 in
set_option maxRecDepth 100000 in
theorem rparse_wide_neq (ad : Option Addr) (c : Nat) (l : List UInt8) (w : World) (h : Byt w w.heap.size (.slice ad l.length c) l) (hl : l.length ≤ 100000) (hc : l.length ≤ c) (hs : 98 ≤ l.length) (hn : rd l (l.length - 22 + 8) 2 = 65535) (ht : tailB (tW (rd l (l.length - 98 + 24) 8)) (tW (rd l (l.length - 98 + 40) 8)) (tW (rd l (l.length - 98 + 48) 8)) = true) (hq : l.drop (l.length - 98) ≠ tailBytes (tW (rd l (l.length - 98 + 24) 8)) (tW (rd l (l.length - 98 + 40) 8)) (tW (rd l (l.length - 98 + 48) 8)) true) : Calls Try.prog 13 #[.slice ad l.length c] w fun e w' => e = .returned (.tuple #[.agg #[.int .i64 0, .int .i64 0, .int .i64 0, .bool false], .int .i64 0]) ∧ Below w.heap.size w w' := by
  have t0 : decide ((l.length : Int) < 22) = false := by simp; omega
  obtain ⟨aea, cea, hpla, hpca, hpba⟩ := piece h hc 22 (by omega)
  rw [show l.length - (l.length - 22) = 22 from by omega] at hpla hpca hpba
  obtain ⟨Sa1, hsa1, hba1⟩ := piece2 aea 22 cea (l.drop (l.length - 22)) hpba (by rw [List.length_drop]; omega) hpca 8 10 (by decide) (by decide)
  have HS1 : Hid (∀ W : World, (Instr.slice 25 (.slice aea 22 cea) (some (.int .i64 8)) (some (.int .i64 10)) none).run Try.prog W = .ok Sa1 W) := Lib.hid hsa1
  have NUM1 := Lib.hid (fun (W : World) (hR : Below w.heap.size w W) => refNumber_B (hba1.below hR) (by rw [List.length_take]; omega))
  rw [List.drop_drop, show num (((l.drop (l.length - 22 + 8))).take (10 - 8)) = rd l (l.length - 22 + 8) 2 from rfl] at NUM1
  clear hsa1 hba1
  obtain ⟨Sa2, hsa2, hba2⟩ := piece2 aea 22 cea (l.drop (l.length - 22)) hpba (by rw [List.length_drop]; omega) hpca 12 16 (by decide) (by decide)
  have HS2 : Hid (∀ W : World, (Instr.slice 25 (.slice aea 22 cea) (some (.int .i64 12)) (some (.int .i64 16)) none).run Try.prog W = .ok Sa2 W) := Lib.hid hsa2
  have NUM2 := Lib.hid (fun (W : World) (hR : Below w.heap.size w W) => refNumber_B (hba2.below hR) (by rw [List.length_take]; omega))
  rw [List.drop_drop, show num (((l.drop (l.length - 22 + 12))).take (16 - 12)) = rd l (l.length - 22 + 12) 4 from rfl] at NUM2
  clear hsa2 hba2
  obtain ⟨Sa3, hsa3, hba3⟩ := piece2 aea 22 cea (l.drop (l.length - 22)) hpba (by rw [List.length_drop]; omega) hpca 16 20 (by decide) (by decide)
  have HS3 : Hid (∀ W : World, (Instr.slice 25 (.slice aea 22 cea) (some (.int .i64 16)) (some (.int .i64 20)) none).run Try.prog W = .ok Sa3 W) := Lib.hid hsa3
  have NUM3 := Lib.hid (fun (W : World) (hR : Below w.heap.size w W) => refNumber_B (hba3.below hR) (by rw [List.length_take]; omega))
  rw [List.drop_drop, show num (((l.drop (l.length - 22 + 16))).take (20 - 16)) = rd l (l.length - 22 + 16) 4 from rfl] at NUM3
  clear hsa3 hba3
  have HPLa : Hid (∀ W : World, (Instr.slice 25 (.slice ad l.length c) (some (.int .i64 ((l.length : Int) - 22))) none none).run Try.prog W = .ok (.slice aea 22 cea) W) := Lib.hid hpla
  clear hpla hpca hpba
  obtain ⟨aeb, ceb, hplb, hpcb, hpbb⟩ := piece h hc 98 (by omega)
  rw [show l.length - (l.length - 98) = 98 from by omega] at hplb hpcb hpbb
  obtain ⟨Sb1, hsb1, hbb1⟩ := piece2 aeb 98 ceb (l.drop (l.length - 98)) hpbb (by rw [List.length_drop]; omega) hpcb 24 32 (by decide) (by decide)
  have HT1 : Hid (∀ W : World, (Instr.slice 25 (.slice aeb 98 ceb) (some (.int .i64 24)) (some (.int .i64 32)) none).run Try.prog W = .ok Sb1 W) := Lib.hid hsb1
  have NUW1 := Lib.hid (fun (W : World) (hR : Below w.heap.size w W) => wideN_any (hbb1.below hR) (by rw [List.length_take]; omega))
  rw [List.drop_drop, show num (((l.drop (l.length - 98 + 24))).take (32 - 24)) = rd l (l.length - 98 + 24) 8 from rfl] at NUW1
  clear hsb1 hbb1
  obtain ⟨Sb2, hsb2, hbb2⟩ := piece2 aeb 98 ceb (l.drop (l.length - 98)) hpbb (by rw [List.length_drop]; omega) hpcb 40 48 (by decide) (by decide)
  have HT2 : Hid (∀ W : World, (Instr.slice 25 (.slice aeb 98 ceb) (some (.int .i64 40)) (some (.int .i64 48)) none).run Try.prog W = .ok Sb2 W) := Lib.hid hsb2
  have NUW2 := Lib.hid (fun (W : World) (hR : Below w.heap.size w W) => wideN_any (hbb2.below hR) (by rw [List.length_take]; omega))
  rw [List.drop_drop, show num (((l.drop (l.length - 98 + 40))).take (48 - 40)) = rd l (l.length - 98 + 40) 8 from rfl] at NUW2
  clear hsb2 hbb2
  obtain ⟨Sb3, hsb3, hbb3⟩ := piece2 aeb 98 ceb (l.drop (l.length - 98)) hpbb (by rw [List.length_drop]; omega) hpcb 48 56 (by decide) (by decide)
  have HT3 : Hid (∀ W : World, (Instr.slice 25 (.slice aeb 98 ceb) (some (.int .i64 48)) (some (.int .i64 56)) none).run Try.prog W = .ok Sb3 W) := Lib.hid hsb3
  have NUW3 := Lib.hid (fun (W : World) (hR : Below w.heap.size w W) => wideN_any (hbb3.below hR) (by rw [List.length_take]; omega))
  rw [List.drop_drop, show num (((l.drop (l.length - 98 + 48))).take (56 - 48)) = rd l (l.length - 98 + 48) 8 from rfl] at NUW3
  clear hsb3 hbb3
  have HPLb : Hid (∀ W : World, (Instr.slice 25 (.slice ad l.length c) (some (.int .i64 ((l.length : Int) - 98))) none none).run Try.prog W = .ok (.slice aeb 98 ceb) W) := Lib.hid hplb
  clear hplb hpcb hpbb
  have b_n := rd_lt l (l.length - 22 + 8) 2
  have B_n : (rd l (l.length - 22 + 8) 2) < 65536 := b_n
  clear b_n
  generalize rd l (l.length - 22 + 8) 2 = n at *
  have b_s := rd_lt l (l.length - 22 + 12) 4
  have B_s : (rd l (l.length - 22 + 12) 4) < 4294967296 := b_s
  clear b_s
  generalize rd l (l.length - 22 + 12) 4 = s at *
  have b_k := rd_lt l (l.length - 22 + 16) 4
  have B_k : (rd l (l.length - 22 + 16) 4) < 4294967296 := b_k
  clear b_k
  generalize rd l (l.length - 22 + 16) 4 = k at *
  have q_n : IntKind.i64.wrap (n : Int) = n := IntWalk.i64_in _ (by omega)
  have q_s : IntKind.i64.wrap (s : Int) = s := IntWalk.i64_in _ (by omega)
  have q_k : IntKind.i64.wrap (k : Int) = k := IntWalk.i64_in _ (by omega)
  have t5 : ((n : Int) == 65535) = true := by simp; omega
  have t6 : decide (98 ≤ (l.length : Int)) = true := by simp; omega
  clear hn
  generalize tW (rd l (l.length - 98 + 24) 8) = n2 at *
  generalize tW (rd l (l.length - 98 + 40) 8) = s2 at *
  generalize tW (rd l (l.length - 98 + 48) 8) = k2 at *
  have ht' := of_decide_eq_true ht
  obtain ⟨n3, rfl⟩ : ∃ x : Nat, n2 = x := ⟨n2.toNat, by omega⟩
  obtain ⟨s3, rfl⟩ : ∃ x : Nat, s2 = x := ⟨s2.toNat, by omega⟩
  obtain ⟨k3, rfl⟩ : ∃ x : Nat, k2 = x := ⟨k2.toNat, by omega⟩
  clear ht'
  have hx : (tailBytes (n3 : Nat) (s3 : Nat) (k3 : Nat) true).length = 98 := tailBytes_len _ _ _ _
  have HXL := Lib.hid hx
  have HEN := Lib.hid (fun (W : World) (hw : Byt W W.heap.size (.slice ad l.length c) l) => ends_neq ad c l W hw hl hc n3 s3 k3 true ht (by rw [hx]; exact hs) (by rw [hx]; exact hq))
  have HRE := Lib.hid (fun (W : World) => refEnc_yes n3 s3 k3 true W ht)
  clear ht hq hx
  generalize tailBytes (n3 : Nat) (s3 : Nat) (k3 : Nat) true = X at *
  have HH := Lib.hid h
  clear h
  have HP := Lib.hid (Own.new_at w [.int .i64 0, .int .i64 0, .int .i64 0, .bool false] 30 w.heap.size rfl)
  have HB := Lib.hid ((Below.refl w.heap.size w).alloc (Nat.le_refl _) (.cells #[.int .i64 0, .int .i64 0, .int .i64 0, .bool false] 30))
  go_enter Try.func13, Try.ntmps13
  have hpl := HPLa.out
  go_wp2_with fail
  clear hpl
  generalize hw0 : (w.alloc (.cells #[.int .i64 0, .int .i64 0, .int .i64 0, .bool false] 30)) = w0 at *
  have hz0 : w0.heap.size = w.heap.size + 1 := by rw [← hw0]; simp
  clear hw0
  have HNM : True := trivial
  have NUM1 := Lib.hid (fun (W : World) (hR : Below w0.heap.size w0 W) => NUM1.out W (HB.out.trans (hR.mono (by omega))))
  have NUM2 := Lib.hid (fun (W : World) (hR : Below w0.heap.size w0 W) => NUM2.out W (HB.out.trans (hR.mono (by omega))))
  have NUM3 := Lib.hid (fun (W : World) (hR : Below w0.heap.size w0 W) => NUM3.out W (HB.out.trans (hR.mono (by omega))))
  refine Mono.region_tail 14 (by kernel_rfl) (by kernel_rfl) (by kernel_rfl) (by kernel_rfl) ?_
  simp only [List.take_succ_cons, List.take_zero]
  refine Mono.hgl_val (v := ?v0) rfl Mono.rr (fun ρ a W hR hd hf => ?h0) ?_
  case h0 =>
    have e4 := Mono.init_get hf (t := 4) (by kernel_rfl)
    clear hd hf
    (go_simp; try with_reducible rfl)
  refine Mono.hgl_val (v := ?v1) rfl Mono.rr (fun ρ a W hR hd hf => ?h1) ?_
  case h1 =>
    have e15 := Mono.dep_val hd hf (t := 15) (k := 0) (by kernel_rfl) rfl
    have hsl := HS1.out W
    clear hd hf
    (go_simp; try with_reducible rfl)
  refine Mono.hgl_call (fun x _ => x = .int .u64 ((n : Nat) : Int)) rfl Mono.rr (fun _ _ _ h _ => h) (fun ρ a W hR hd hf => ?h2) ?_
  case h2 =>
    have e16 := Mono.dep_val hd hf (t := 16) (k := 1) (by kernel_rfl) rfl
    clear hd hf
    refine ⟨_, _, by go_simp; first | rfl | exact ⟨rfl, rfl⟩, ?_⟩
    exact (NUM1.out W hR).mono (fun e W' ⟨he, hw⟩ => ⟨_, he, hw ▸ Mono.rr _, rfl⟩)
  refine Mono.hgl_val (v := ?v3) rfl Mono.rr (fun ρ a W hR hd hf => ?h3) ?_
  case h3 =>
    have e17 := Mono.dep_val hd hf (t := 17) (k := 2) (by kernel_rfl) rfl
    have hq := q_n
    clear hd hf
    (go_simp; try with_reducible rfl)
  refine Mono.hgl_val (v := ?v4) rfl Mono.rr (fun ρ a W hR hd hf => ?h4) ?_
  case h4 =>
    have e4 := Mono.init_get hf (t := 4) (by kernel_rfl)
    clear hd hf
    (go_simp; try with_reducible rfl)
  refine Mono.hgl_val (v := ?v5) rfl Mono.rr (fun ρ a W hR hd hf => ?h5) ?_
  case h5 =>
    have e19 := Mono.dep_val hd hf (t := 19) (k := 4) (by kernel_rfl) rfl
    have hsl := HS2.out W
    clear hd hf
    (go_simp; try with_reducible rfl)
  refine Mono.hgl_call (fun x _ => x = .int .u64 ((s : Nat) : Int)) rfl Mono.rr (fun _ _ _ h _ => h) (fun ρ a W hR hd hf => ?h6) ?_
  case h6 =>
    have e20 := Mono.dep_val hd hf (t := 20) (k := 5) (by kernel_rfl) rfl
    clear hd hf
    refine ⟨_, _, by go_simp; first | rfl | exact ⟨rfl, rfl⟩, ?_⟩
    exact (NUM2.out W hR).mono (fun e W' ⟨he, hw⟩ => ⟨_, he, hw ▸ Mono.rr _, rfl⟩)
  refine Mono.hgl_val (v := ?v7) rfl Mono.rr (fun ρ a W hR hd hf => ?h7) ?_
  case h7 =>
    have e21 := Mono.dep_val hd hf (t := 21) (k := 6) (by kernel_rfl) rfl
    have hq := q_s
    clear hd hf
    (go_simp; try with_reducible rfl)
  refine Mono.hgl_val (v := ?v8) rfl Mono.rr (fun ρ a W hR hd hf => ?h8) ?_
  case h8 =>
    have e4 := Mono.init_get hf (t := 4) (by kernel_rfl)
    clear hd hf
    (go_simp; try with_reducible rfl)
  refine Mono.hgl_val (v := ?v9) rfl Mono.rr (fun ρ a W hR hd hf => ?h9) ?_
  case h9 =>
    have e23 := Mono.dep_val hd hf (t := 23) (k := 8) (by kernel_rfl) rfl
    have hsl := HS3.out W
    clear hd hf
    (go_simp; try with_reducible rfl)
  refine Mono.hgl_call (fun x _ => x = .int .u64 ((k : Nat) : Int)) rfl Mono.rr (fun _ _ _ h _ => h) (fun ρ a W hR hd hf => ?h10) ?_
  case h10 =>
    have e24 := Mono.dep_val hd hf (t := 24) (k := 9) (by kernel_rfl) rfl
    clear hd hf
    refine ⟨_, _, by go_simp; first | rfl | exact ⟨rfl, rfl⟩, ?_⟩
    exact (NUM3.out W hR).mono (fun e W' ⟨he, hw⟩ => ⟨_, he, hw ▸ Mono.rr _, rfl⟩)
  refine Mono.hgl_val (v := ?v11) rfl Mono.rr (fun ρ a W hR hd hf => ?h11) ?_
  case h11 =>
    have e25 := Mono.dep_val hd hf (t := 25) (k := 10) (by kernel_rfl) rfl
    have hq := q_k
    clear hd hf
    (go_simp; try with_reducible rfl)
  refine Mono.hgl_val (v := ?v12) rfl Mono.rr (fun ρ a W hR hd hf => ?h12) ?_
  case h12 =>
    have e18 := Mono.dep_val hd hf (t := 18) (k := 3) (by kernel_rfl) rfl
    have e22 := Mono.dep_val hd hf (t := 22) (k := 7) (by kernel_rfl) rfl
    have e26 := Mono.dep_val hd hf (t := 26) (k := 11) (by kernel_rfl) rfl
    clear hd hf
    (go_simp; try with_reducible rfl)
  refine Mono.hgl_pred (fun v W => NewB w0 v W) rfl hstNewB (fun ρ a W hR hd hf => ?h13) ?_
  case h13 =>
    clear hd hf
    exact ⟨_, _, by go_simp, (Below.refl _ _).alloc (Nat.le_refl _) _, NewB.new hR⟩
  refine Mono.hgl_done rfl (by decide) (fun ρ W hR ht => ?_)
  simp only [List.take_succ_cons, List.take_zero, List.drop_succ_cons, List.drop_zero]
  obtain ⟨d13, d12, d11, d10, d9, d8, d7, d6, d5, d4, d3, d2, d1, d0, _⟩ := ht
  replace d13 : (fun v W => NewB w0 v W) (ρ 13) W := d13
  simp only [List.length_cons, List.length_nil, Nat.reduceAdd] at d0 d1 d2 d3 d4 d5 d6 d7 d8 d9 d10 d11 d12
  simp only [Mono.putAll, Nat.reduceAdd, d0, d1, d2, d3, d4, d5, d6, d7, d8, d9, d10, d11, d12, Act.put, List.setIfInBounds_toArray, List.set_cons_zero, List.set_cons_succ]
  clear d0 d1 d2 d3 d4 d5 d6 d7 d8 d9 d10 d11 d12
  generalize ρ 13 = r13 at *
  have HP := Lib.hid (HP.out.below hR (by omega))
  have HB := Lib.hid (HB.out.trans (hR.mono (by omega)))
  have hz1 : w.heap.size < W.heap.size := by have := hR.size; omega
  clear hR NUM1 NUM2 NUM3 HNM
  obtain ⟨b5, hbe, hb5a, hb5, hO5⟩ := d13
  subst hbe
  have HT := Lib.hid hO5
  have hlo5 : w.heap.size < b5 := by omega
  clear hO5 hb5a hz0
  have y0 := HT.out.1 0 _ rfl
  have y1 := HT.out.1 1 _ rfl
  have y2 := HT.out.1 2 _ rfl
  have y3 := HT.out.1 3 _ rfl
  have hfr := HT.out.2
  go_upto_region 5 with (fail)
  clear y0 y1 y2 y3 hfr
  have HT := Lib.hid ((((HT.out.set 0 (.int .i64 (n : Nat)) (by simp)).set 1 (.int .i64 (s : Nat)) (by simp)).set 2 (.int .i64 (k : Nat)) (by simp)).set 3 (.bool false) (by simp))
  have HP := Lib.hid ((((HP.out.other (c := b5) (by omega) 0 (.int .i64 (n : Nat))).other (c := b5) (by omega) 1 (.int .i64 (s : Nat))).other (c := b5) (by omega) 2 (.int .i64 (k : Nat))).other (c := b5) (by omega) 3 (.bool false))
  have HB := Lib.hid ((((HB.out.setCell (p := ⟨b5, 0, none⟩) (by show w.heap.size ≤ b5; omega) (.int .i64 (n : Nat))).setCell (p := ⟨b5, 1, none⟩) (by show w.heap.size ≤ b5; omega) (.int .i64 (s : Nat))).setCell (p := ⟨b5, 2, none⟩) (by show w.heap.size ≤ b5; omega) (.int .i64 (k : Nat))).setCell (p := ⟨b5, 3, none⟩) (by show w.heap.size ≤ b5; omega) (.bool false))
  have hz2 : b5 < ((((W.setCell ⟨b5, 0, none⟩ (.int .i64 (n : Nat))).setCell ⟨b5, 1, none⟩ (.int .i64 (s : Nat))).setCell ⟨b5, 2, none⟩ (.int .i64 (k : Nat))).setCell ⟨b5, 3, none⟩ (.bool false)).heap.size := by simp; omega
  generalize ((((W.setCell ⟨b5, 0, none⟩ (.int .i64 (n : Nat))).setCell ⟨b5, 1, none⟩ (.int .i64 (s : Nat))).setCell ⟨b5, 2, none⟩ (.int .i64 (k : Nat))).setCell ⟨b5, 3, none⟩ (.bool false)) = w5 at *
  have y0 := HT.out.1 0 _ rfl
  have y1 := HT.out.1 1 _ rfl
  have y2 := HT.out.1 2 _ rfl
  have y3 := HT.out.1 3 _ rfl
  have hpl := HPLb.out
  go_wp2_with fail
  clear hpl y0 y1 y2 y3
  refine Mono.region_tail 10 (by kernel_rfl) (by kernel_rfl) (by kernel_rfl) (by kernel_rfl) ?_
  simp only [List.take_succ_cons, List.take_zero]
  refine Mono.hgl_val (v := ?vq0) rfl Mono.rr (fun ρ a W hR hd hf => ?hq0) ?_
  case hq0 =>
    have e4 := Mono.init_get hf (t := 4) (by kernel_rfl)
    clear hd hf
    (go_simp; try with_reducible rfl)
  refine Mono.hgl_val (v := ?vq1) rfl Mono.rr (fun ρ a W hR hd hf => ?hq1) ?_
  case hq1 =>
    have e41 := Mono.dep_val hd hf (t := 41) (k := 0) (by kernel_rfl) rfl
    have hsl := HT1.out W
    clear hd hf
    (go_simp; try with_reducible rfl)
  refine Mono.hgl_call (fun x _ => x = .int .i64 (n3 : Nat)) rfl Mono.rr (fun _ _ _ h _ => h) (fun ρ a W hR hd hf => ?hq2) ?_
  case hq2 =>
    have e42 := Mono.dep_val hd hf (t := 42) (k := 1) (by kernel_rfl) rfl
    clear hd hf
    refine ⟨_, _, by go_simp; first | rfl | exact ⟨rfl, rfl⟩, ?_⟩
    exact (NUW1.out W (HB.out.trans (hR.mono (by omega)))).mono (fun e W' ⟨he, hw⟩ => ⟨_, he, hw ▸ Mono.rr _, rfl⟩)
  refine Mono.hgl_val (v := ?vq3) rfl Mono.rr (fun ρ a W hR hd hf => ?hq3) ?_
  case hq3 =>
    have e4 := Mono.init_get hf (t := 4) (by kernel_rfl)
    clear hd hf
    (go_simp; try with_reducible rfl)
  refine Mono.hgl_val (v := ?vq4) rfl Mono.rr (fun ρ a W hR hd hf => ?hq4) ?_
  case hq4 =>
    have e44 := Mono.dep_val hd hf (t := 44) (k := 3) (by kernel_rfl) rfl
    have hsl := HT2.out W
    clear hd hf
    (go_simp; try with_reducible rfl)
  refine Mono.hgl_call (fun x _ => x = .int .i64 (s3 : Nat)) rfl Mono.rr (fun _ _ _ h _ => h) (fun ρ a W hR hd hf => ?hq5) ?_
  case hq5 =>
    have e45 := Mono.dep_val hd hf (t := 45) (k := 4) (by kernel_rfl) rfl
    clear hd hf
    refine ⟨_, _, by go_simp; first | rfl | exact ⟨rfl, rfl⟩, ?_⟩
    exact (NUW2.out W (HB.out.trans (hR.mono (by omega)))).mono (fun e W' ⟨he, hw⟩ => ⟨_, he, hw ▸ Mono.rr _, rfl⟩)
  refine Mono.hgl_val (v := ?vq6) rfl Mono.rr (fun ρ a W hR hd hf => ?hq6) ?_
  case hq6 =>
    have e4 := Mono.init_get hf (t := 4) (by kernel_rfl)
    clear hd hf
    (go_simp; try with_reducible rfl)
  refine Mono.hgl_val (v := ?vq7) rfl Mono.rr (fun ρ a W hR hd hf => ?hq7) ?_
  case hq7 =>
    have e47 := Mono.dep_val hd hf (t := 47) (k := 6) (by kernel_rfl) rfl
    have hsl := HT3.out W
    clear hd hf
    (go_simp; try with_reducible rfl)
  refine Mono.hgl_call (fun x _ => x = .int .i64 (k3 : Nat)) rfl Mono.rr (fun _ _ _ h _ => h) (fun ρ a W hR hd hf => ?hq8) ?_
  case hq8 =>
    have e48 := Mono.dep_val hd hf (t := 48) (k := 7) (by kernel_rfl) rfl
    clear hd hf
    refine ⟨_, _, by go_simp; first | rfl | exact ⟨rfl, rfl⟩, ?_⟩
    exact (NUW3.out W (HB.out.trans (hR.mono (by omega)))).mono (fun e W' ⟨he, hw⟩ => ⟨_, he, hw ▸ Mono.rr _, rfl⟩)
  refine Mono.hgl_val (v := ?vq9) rfl Mono.rr (fun ρ a W hR hd hf => ?hq9) ?_
  case hq9 =>
    have e43 := Mono.dep_val hd hf (t := 43) (k := 2) (by kernel_rfl) rfl
    have e46 := Mono.dep_val hd hf (t := 46) (k := 5) (by kernel_rfl) rfl
    have e49 := Mono.dep_val hd hf (t := 49) (k := 8) (by kernel_rfl) rfl
    clear hd hf
    (go_simp; try with_reducible rfl)
  refine Mono.hgl_done rfl (by decide) (fun ρ W hR ht => ?_)
  simp only [List.take_succ_cons, List.take_zero, List.drop_succ_cons, List.drop_zero]
  obtain ⟨dq9, dq8, dq7, dq6, dq5, dq4, dq3, dq2, dq1, dq0, _⟩ := ht
  simp only [List.length_cons, List.length_nil, Nat.reduceAdd] at dq0 dq1 dq2 dq3 dq4 dq5 dq6 dq7 dq8 dq9
  simp only [Mono.putAll, Nat.reduceAdd, dq0, dq1, dq2, dq3, dq4, dq5, dq6, dq7, dq8, dq9, Act.put, List.setIfInBounds_toArray, List.set_cons_zero, List.set_cons_succ]
  clear dq0 dq1 dq2 dq3 dq4 dq5 dq6 dq7 dq8 dq9
  have HT := Lib.hid (HT.out.below hR (by omega))
  have HP := Lib.hid (HP.out.below hR (by omega))
  have HB := Lib.hid (HB.out.trans (hR.mono (by omega)))
  have hz9 : b5 < W.heap.size := Nat.lt_of_lt_of_le hz2 hR.size
  clear hR
  have y0 := HT.out.1 0 _ rfl
  have y1 := HT.out.1 1 _ rfl
  have y2 := HT.out.1 2 _ rfl
  have y3 := HT.out.1 3 _ rfl
  have hfr := HT.out.2
  go_upto_region 8 with (fail)
  clear y0 y1 y2 y3 hfr
  have HT := Lib.hid ((((HT.out.set 0 (.int .i64 (n3 : Nat)) (by simp)).set 1 (.int .i64 (s3 : Nat)) (by simp)).set 2 (.int .i64 (k3 : Nat)) (by simp)).set 3 (.bool true) (by simp))
  have HP := Lib.hid ((((HP.out.other (c := b5) (by omega) 0 (.int .i64 (n3 : Nat))).other (c := b5) (by omega) 1 (.int .i64 (s3 : Nat))).other (c := b5) (by omega) 2 (.int .i64 (k3 : Nat))).other (c := b5) (by omega) 3 (.bool true))
  have HB := Lib.hid ((((HB.out.setCell (p := ⟨b5, 0, none⟩) (by show w.heap.size ≤ b5; omega) (.int .i64 (n3 : Nat))).setCell (p := ⟨b5, 1, none⟩) (by show w.heap.size ≤ b5; omega) (.int .i64 (s3 : Nat))).setCell (p := ⟨b5, 2, none⟩) (by show w.heap.size ≤ b5; omega) (.int .i64 (k3 : Nat))).setCell (p := ⟨b5, 3, none⟩) (by show w.heap.size ≤ b5; omega) (.bool true))
  have hz2 : b5 < ((((W.setCell ⟨b5, 0, none⟩ (.int .i64 (n3 : Nat))).setCell ⟨b5, 1, none⟩ (.int .i64 (s3 : Nat))).setCell ⟨b5, 2, none⟩ (.int .i64 (k3 : Nat))).setCell ⟨b5, 3, none⟩ (.bool true)).heap.size := by simp; omega
  generalize ((((W.setCell ⟨b5, 0, none⟩ (.int .i64 (n3 : Nat))).setCell ⟨b5, 1, none⟩ (.int .i64 (s3 : Nat))).setCell ⟨b5, 2, none⟩ (.int .i64 (k3 : Nat))).setCell ⟨b5, 3, none⟩ (.bool true)) = w8 at *
  have y0 := HT.out.1 0 _ rfl
  have y1 := HT.out.1 1 _ rfl
  have y2 := HT.out.1 2 _ rfl
  have y3 := HT.out.1 3 _ rfl
  go_wp2_with fail
  refine (HEN.out _ ((HH.out.below HB.out).mono (by omega))).mono ?_
  rintro e w6 ⟨rfl, hb⟩
  have HT := Lib.hid (HT.out.below hb (by omega))
  have HP := Lib.hid (HP.out.below hb (by omega))
  have HB := Lib.hid (HB.out.trans (hb.mono (by omega)))
  have hz3 : b5 < w6.heap.size := Nat.lt_of_lt_of_le hz2 hb.size
  clear hb
  have z0 := HP.out.1 0 _ rfl
  have z1 := HP.out.1 1 _ rfl
  have z2 := HP.out.1 2 _ rfl
  have z3 := HP.out.1 3 _ rfl
  have hg := HP.out.2
  go_wp2
  refine bodyPost_ret (v := .tuple #[.agg #[.int .i64 0, .int .i64 0, .int .i64 0, .bool false], .int .i64 0]) (by simp [results, Try.results13, go_sem, z0, z1, z2, z3]) rfl ⟨rfl, ?_⟩
  exact ((((HB.out).setCell (by simp) _).setCell (by simp) _).setCell (by simp) _).setCell (by simp) _
set_option maxHeartbeats 4000000 in
set_option maxRecDepth 100000 in
theorem rparse_wide_yes (ad : Option Addr) (c : Nat) (l : List UInt8) (w : World) (h : Byt w w.heap.size (.slice ad l.length c) l) (hl : l.length ≤ 100000) (hc : l.length ≤ c) (hs : 98 ≤ l.length) (hn : rd l (l.length - 22 + 8) 2 = 65535) (ht : tailB (tW (rd l (l.length - 98 + 24) 8)) (tW (rd l (l.length - 98 + 40) 8)) (tW (rd l (l.length - 98 + 48) 8)) = true) (hq : l.drop (l.length - 98) = tailBytes (tW (rd l (l.length - 98 + 24) 8)) (tW (rd l (l.length - 98 + 40) 8)) (tW (rd l (l.length - 98 + 48) 8)) true) : Calls Try.prog 13 #[.slice ad l.length c] w fun e w' => e = .returned (.tuple #[.agg #[.int .i64 (tW (rd l (l.length - 98 + 24) 8)), .int .i64 (tW (rd l (l.length - 98 + 40) 8)), .int .i64 (tW (rd l (l.length - 98 + 48) 8)), .bool true], .int .i64 98]) ∧ Below w.heap.size w w' := by
  have t0 : decide ((l.length : Int) < 22) = false := by simp; omega
  obtain ⟨aea, cea, hpla, hpca, hpba⟩ := piece h hc 22 (by omega)
  rw [show l.length - (l.length - 22) = 22 from by omega] at hpla hpca hpba
  obtain ⟨Sa1, hsa1, hba1⟩ := piece2 aea 22 cea (l.drop (l.length - 22)) hpba (by rw [List.length_drop]; omega) hpca 8 10 (by decide) (by decide)
  have HS1 : Hid (∀ W : World, (Instr.slice 25 (.slice aea 22 cea) (some (.int .i64 8)) (some (.int .i64 10)) none).run Try.prog W = .ok Sa1 W) := Lib.hid hsa1
  have NUM1 := Lib.hid (fun (W : World) (hR : Below w.heap.size w W) => refNumber_B (hba1.below hR) (by rw [List.length_take]; omega))
  rw [List.drop_drop, show num (((l.drop (l.length - 22 + 8))).take (10 - 8)) = rd l (l.length - 22 + 8) 2 from rfl] at NUM1
  clear hsa1 hba1
  obtain ⟨Sa2, hsa2, hba2⟩ := piece2 aea 22 cea (l.drop (l.length - 22)) hpba (by rw [List.length_drop]; omega) hpca 12 16 (by decide) (by decide)
  have HS2 : Hid (∀ W : World, (Instr.slice 25 (.slice aea 22 cea) (some (.int .i64 12)) (some (.int .i64 16)) none).run Try.prog W = .ok Sa2 W) := Lib.hid hsa2
  have NUM2 := Lib.hid (fun (W : World) (hR : Below w.heap.size w W) => refNumber_B (hba2.below hR) (by rw [List.length_take]; omega))
  rw [List.drop_drop, show num (((l.drop (l.length - 22 + 12))).take (16 - 12)) = rd l (l.length - 22 + 12) 4 from rfl] at NUM2
  clear hsa2 hba2
  obtain ⟨Sa3, hsa3, hba3⟩ := piece2 aea 22 cea (l.drop (l.length - 22)) hpba (by rw [List.length_drop]; omega) hpca 16 20 (by decide) (by decide)
  have HS3 : Hid (∀ W : World, (Instr.slice 25 (.slice aea 22 cea) (some (.int .i64 16)) (some (.int .i64 20)) none).run Try.prog W = .ok Sa3 W) := Lib.hid hsa3
  have NUM3 := Lib.hid (fun (W : World) (hR : Below w.heap.size w W) => refNumber_B (hba3.below hR) (by rw [List.length_take]; omega))
  rw [List.drop_drop, show num (((l.drop (l.length - 22 + 16))).take (20 - 16)) = rd l (l.length - 22 + 16) 4 from rfl] at NUM3
  clear hsa3 hba3
  have HPLa : Hid (∀ W : World, (Instr.slice 25 (.slice ad l.length c) (some (.int .i64 ((l.length : Int) - 22))) none none).run Try.prog W = .ok (.slice aea 22 cea) W) := Lib.hid hpla
  clear hpla hpca hpba
  obtain ⟨aeb, ceb, hplb, hpcb, hpbb⟩ := piece h hc 98 (by omega)
  rw [show l.length - (l.length - 98) = 98 from by omega] at hplb hpcb hpbb
  obtain ⟨Sb1, hsb1, hbb1⟩ := piece2 aeb 98 ceb (l.drop (l.length - 98)) hpbb (by rw [List.length_drop]; omega) hpcb 24 32 (by decide) (by decide)
  have HT1 : Hid (∀ W : World, (Instr.slice 25 (.slice aeb 98 ceb) (some (.int .i64 24)) (some (.int .i64 32)) none).run Try.prog W = .ok Sb1 W) := Lib.hid hsb1
  have NUW1 := Lib.hid (fun (W : World) (hR : Below w.heap.size w W) => wideN_any (hbb1.below hR) (by rw [List.length_take]; omega))
  rw [List.drop_drop, show num (((l.drop (l.length - 98 + 24))).take (32 - 24)) = rd l (l.length - 98 + 24) 8 from rfl] at NUW1
  clear hsb1 hbb1
  obtain ⟨Sb2, hsb2, hbb2⟩ := piece2 aeb 98 ceb (l.drop (l.length - 98)) hpbb (by rw [List.length_drop]; omega) hpcb 40 48 (by decide) (by decide)
  have HT2 : Hid (∀ W : World, (Instr.slice 25 (.slice aeb 98 ceb) (some (.int .i64 40)) (some (.int .i64 48)) none).run Try.prog W = .ok Sb2 W) := Lib.hid hsb2
  have NUW2 := Lib.hid (fun (W : World) (hR : Below w.heap.size w W) => wideN_any (hbb2.below hR) (by rw [List.length_take]; omega))
  rw [List.drop_drop, show num (((l.drop (l.length - 98 + 40))).take (48 - 40)) = rd l (l.length - 98 + 40) 8 from rfl] at NUW2
  clear hsb2 hbb2
  obtain ⟨Sb3, hsb3, hbb3⟩ := piece2 aeb 98 ceb (l.drop (l.length - 98)) hpbb (by rw [List.length_drop]; omega) hpcb 48 56 (by decide) (by decide)
  have HT3 : Hid (∀ W : World, (Instr.slice 25 (.slice aeb 98 ceb) (some (.int .i64 48)) (some (.int .i64 56)) none).run Try.prog W = .ok Sb3 W) := Lib.hid hsb3
  have NUW3 := Lib.hid (fun (W : World) (hR : Below w.heap.size w W) => wideN_any (hbb3.below hR) (by rw [List.length_take]; omega))
  rw [List.drop_drop, show num (((l.drop (l.length - 98 + 48))).take (56 - 48)) = rd l (l.length - 98 + 48) 8 from rfl] at NUW3
  clear hsb3 hbb3
  have HPLb : Hid (∀ W : World, (Instr.slice 25 (.slice ad l.length c) (some (.int .i64 ((l.length : Int) - 98))) none none).run Try.prog W = .ok (.slice aeb 98 ceb) W) := Lib.hid hplb
  clear hplb hpcb hpbb
  have b_n := rd_lt l (l.length - 22 + 8) 2
  have B_n : (rd l (l.length - 22 + 8) 2) < 65536 := b_n
  clear b_n
  generalize rd l (l.length - 22 + 8) 2 = n at *
  have b_s := rd_lt l (l.length - 22 + 12) 4
  have B_s : (rd l (l.length - 22 + 12) 4) < 4294967296 := b_s
  clear b_s
  generalize rd l (l.length - 22 + 12) 4 = s at *
  have b_k := rd_lt l (l.length - 22 + 16) 4
  have B_k : (rd l (l.length - 22 + 16) 4) < 4294967296 := b_k
  clear b_k
  generalize rd l (l.length - 22 + 16) 4 = k at *
  have q_n : IntKind.i64.wrap (n : Int) = n := IntWalk.i64_in _ (by omega)
  have q_s : IntKind.i64.wrap (s : Int) = s := IntWalk.i64_in _ (by omega)
  have q_k : IntKind.i64.wrap (k : Int) = k := IntWalk.i64_in _ (by omega)
  have t5 : ((n : Int) == 65535) = true := by simp; omega
  have t6 : decide (98 ≤ (l.length : Int)) = true := by simp; omega
  clear hn
  generalize tW (rd l (l.length - 98 + 24) 8) = n2 at *
  generalize tW (rd l (l.length - 98 + 40) 8) = s2 at *
  generalize tW (rd l (l.length - 98 + 48) 8) = k2 at *
  have ht' := of_decide_eq_true ht
  obtain ⟨n3, rfl⟩ : ∃ x : Nat, n2 = x := ⟨n2.toNat, by omega⟩
  obtain ⟨s3, rfl⟩ : ∃ x : Nat, s2 = x := ⟨s2.toNat, by omega⟩
  obtain ⟨k3, rfl⟩ : ∃ x : Nat, k2 = x := ⟨k2.toNat, by omega⟩
  clear ht'
  have hx : (tailBytes (n3 : Nat) (s3 : Nat) (k3 : Nat) true).length = 98 := tailBytes_len _ _ _ _
  have HXL := Lib.hid hx
  have HEN := Lib.hid (fun (W : World) (hw : Byt W W.heap.size (.slice ad l.length c) l) => ends_yes ad c l W hw hl hc n3 s3 k3 true ht (by rw [hx]; exact hs) (by rw [hx]; exact hq))
  have HRE := Lib.hid (fun (W : World) => refEnc_yes n3 s3 k3 true W ht)
  clear ht hq hx
  generalize tailBytes (n3 : Nat) (s3 : Nat) (k3 : Nat) true = X at *
  have HH := Lib.hid h
  clear h
  have HP := Lib.hid (Own.new_at w [.int .i64 0, .int .i64 0, .int .i64 0, .bool false] 30 w.heap.size rfl)
  have HB := Lib.hid ((Below.refl w.heap.size w).alloc (Nat.le_refl _) (.cells #[.int .i64 0, .int .i64 0, .int .i64 0, .bool false] 30))
  go_enter Try.func13, Try.ntmps13
  have hpl := HPLa.out
  go_wp2_with fail
  clear hpl
  generalize hw0 : (w.alloc (.cells #[.int .i64 0, .int .i64 0, .int .i64 0, .bool false] 30)) = w0 at *
  have hz0 : w0.heap.size = w.heap.size + 1 := by rw [← hw0]; simp
  clear hw0
  have HNM : True := trivial
  have NUM1 := Lib.hid (fun (W : World) (hR : Below w0.heap.size w0 W) => NUM1.out W (HB.out.trans (hR.mono (by omega))))
  have NUM2 := Lib.hid (fun (W : World) (hR : Below w0.heap.size w0 W) => NUM2.out W (HB.out.trans (hR.mono (by omega))))
  have NUM3 := Lib.hid (fun (W : World) (hR : Below w0.heap.size w0 W) => NUM3.out W (HB.out.trans (hR.mono (by omega))))
  refine Mono.region_tail 14 (by kernel_rfl) (by kernel_rfl) (by kernel_rfl) (by kernel_rfl) ?_
  simp only [List.take_succ_cons, List.take_zero]
  refine Mono.hgl_val (v := ?v0) rfl Mono.rr (fun ρ a W hR hd hf => ?h0) ?_
  case h0 =>
    have e4 := Mono.init_get hf (t := 4) (by kernel_rfl)
    clear hd hf
    (go_simp; try with_reducible rfl)
  refine Mono.hgl_val (v := ?v1) rfl Mono.rr (fun ρ a W hR hd hf => ?h1) ?_
  case h1 =>
    have e15 := Mono.dep_val hd hf (t := 15) (k := 0) (by kernel_rfl) rfl
    have hsl := HS1.out W
    clear hd hf
    (go_simp; try with_reducible rfl)
  refine Mono.hgl_call (fun x _ => x = .int .u64 ((n : Nat) : Int)) rfl Mono.rr (fun _ _ _ h _ => h) (fun ρ a W hR hd hf => ?h2) ?_
  case h2 =>
    have e16 := Mono.dep_val hd hf (t := 16) (k := 1) (by kernel_rfl) rfl
    clear hd hf
    refine ⟨_, _, by go_simp; first | rfl | exact ⟨rfl, rfl⟩, ?_⟩
    exact (NUM1.out W hR).mono (fun e W' ⟨he, hw⟩ => ⟨_, he, hw ▸ Mono.rr _, rfl⟩)
  refine Mono.hgl_val (v := ?v3) rfl Mono.rr (fun ρ a W hR hd hf => ?h3) ?_
  case h3 =>
    have e17 := Mono.dep_val hd hf (t := 17) (k := 2) (by kernel_rfl) rfl
    have hq := q_n
    clear hd hf
    (go_simp; try with_reducible rfl)
  refine Mono.hgl_val (v := ?v4) rfl Mono.rr (fun ρ a W hR hd hf => ?h4) ?_
  case h4 =>
    have e4 := Mono.init_get hf (t := 4) (by kernel_rfl)
    clear hd hf
    (go_simp; try with_reducible rfl)
  refine Mono.hgl_val (v := ?v5) rfl Mono.rr (fun ρ a W hR hd hf => ?h5) ?_
  case h5 =>
    have e19 := Mono.dep_val hd hf (t := 19) (k := 4) (by kernel_rfl) rfl
    have hsl := HS2.out W
    clear hd hf
    (go_simp; try with_reducible rfl)
  refine Mono.hgl_call (fun x _ => x = .int .u64 ((s : Nat) : Int)) rfl Mono.rr (fun _ _ _ h _ => h) (fun ρ a W hR hd hf => ?h6) ?_
  case h6 =>
    have e20 := Mono.dep_val hd hf (t := 20) (k := 5) (by kernel_rfl) rfl
    clear hd hf
    refine ⟨_, _, by go_simp; first | rfl | exact ⟨rfl, rfl⟩, ?_⟩
    exact (NUM2.out W hR).mono (fun e W' ⟨he, hw⟩ => ⟨_, he, hw ▸ Mono.rr _, rfl⟩)
  refine Mono.hgl_val (v := ?v7) rfl Mono.rr (fun ρ a W hR hd hf => ?h7) ?_
  case h7 =>
    have e21 := Mono.dep_val hd hf (t := 21) (k := 6) (by kernel_rfl) rfl
    have hq := q_s
    clear hd hf
    (go_simp; try with_reducible rfl)
  refine Mono.hgl_val (v := ?v8) rfl Mono.rr (fun ρ a W hR hd hf => ?h8) ?_
  case h8 =>
    have e4 := Mono.init_get hf (t := 4) (by kernel_rfl)
    clear hd hf
    (go_simp; try with_reducible rfl)
  refine Mono.hgl_val (v := ?v9) rfl Mono.rr (fun ρ a W hR hd hf => ?h9) ?_
  case h9 =>
    have e23 := Mono.dep_val hd hf (t := 23) (k := 8) (by kernel_rfl) rfl
    have hsl := HS3.out W
    clear hd hf
    (go_simp; try with_reducible rfl)
  refine Mono.hgl_call (fun x _ => x = .int .u64 ((k : Nat) : Int)) rfl Mono.rr (fun _ _ _ h _ => h) (fun ρ a W hR hd hf => ?h10) ?_
  case h10 =>
    have e24 := Mono.dep_val hd hf (t := 24) (k := 9) (by kernel_rfl) rfl
    clear hd hf
    refine ⟨_, _, by go_simp; first | rfl | exact ⟨rfl, rfl⟩, ?_⟩
    exact (NUM3.out W hR).mono (fun e W' ⟨he, hw⟩ => ⟨_, he, hw ▸ Mono.rr _, rfl⟩)
  refine Mono.hgl_val (v := ?v11) rfl Mono.rr (fun ρ a W hR hd hf => ?h11) ?_
  case h11 =>
    have e25 := Mono.dep_val hd hf (t := 25) (k := 10) (by kernel_rfl) rfl
    have hq := q_k
    clear hd hf
    (go_simp; try with_reducible rfl)
  refine Mono.hgl_val (v := ?v12) rfl Mono.rr (fun ρ a W hR hd hf => ?h12) ?_
  case h12 =>
    have e18 := Mono.dep_val hd hf (t := 18) (k := 3) (by kernel_rfl) rfl
    have e22 := Mono.dep_val hd hf (t := 22) (k := 7) (by kernel_rfl) rfl
    have e26 := Mono.dep_val hd hf (t := 26) (k := 11) (by kernel_rfl) rfl
    clear hd hf
    (go_simp; try with_reducible rfl)
  refine Mono.hgl_pred (fun v W => NewB w0 v W) rfl hstNewB (fun ρ a W hR hd hf => ?h13) ?_
  case h13 =>
    clear hd hf
    exact ⟨_, _, by go_simp, (Below.refl _ _).alloc (Nat.le_refl _) _, NewB.new hR⟩
  refine Mono.hgl_done rfl (by decide) (fun ρ W hR ht => ?_)
  simp only [List.take_succ_cons, List.take_zero, List.drop_succ_cons, List.drop_zero]
  obtain ⟨d13, d12, d11, d10, d9, d8, d7, d6, d5, d4, d3, d2, d1, d0, _⟩ := ht
  replace d13 : (fun v W => NewB w0 v W) (ρ 13) W := d13
  simp only [List.length_cons, List.length_nil, Nat.reduceAdd] at d0 d1 d2 d3 d4 d5 d6 d7 d8 d9 d10 d11 d12
  simp only [Mono.putAll, Nat.reduceAdd, d0, d1, d2, d3, d4, d5, d6, d7, d8, d9, d10, d11, d12, Act.put, List.setIfInBounds_toArray, List.set_cons_zero, List.set_cons_succ]
  clear d0 d1 d2 d3 d4 d5 d6 d7 d8 d9 d10 d11 d12
  generalize ρ 13 = r13 at *
  have HP := Lib.hid (HP.out.below hR (by omega))
  have HB := Lib.hid (HB.out.trans (hR.mono (by omega)))
  have hz1 : w.heap.size < W.heap.size := by have := hR.size; omega
  clear hR NUM1 NUM2 NUM3 HNM
  obtain ⟨b5, hbe, hb5a, hb5, hO5⟩ := d13
  subst hbe
  have HT := Lib.hid hO5
  have hlo5 : w.heap.size < b5 := by omega
  clear hO5 hb5a hz0
  have y0 := HT.out.1 0 _ rfl
  have y1 := HT.out.1 1 _ rfl
  have y2 := HT.out.1 2 _ rfl
  have y3 := HT.out.1 3 _ rfl
  have hfr := HT.out.2
  go_upto_region 5 with (fail)
  clear y0 y1 y2 y3 hfr
  have HT := Lib.hid ((((HT.out.set 0 (.int .i64 (n : Nat)) (by simp)).set 1 (.int .i64 (s : Nat)) (by simp)).set 2 (.int .i64 (k : Nat)) (by simp)).set 3 (.bool false) (by simp))
  have HP := Lib.hid ((((HP.out.other (c := b5) (by omega) 0 (.int .i64 (n : Nat))).other (c := b5) (by omega) 1 (.int .i64 (s : Nat))).other (c := b5) (by omega) 2 (.int .i64 (k : Nat))).other (c := b5) (by omega) 3 (.bool false))
  have HB := Lib.hid ((((HB.out.setCell (p := ⟨b5, 0, none⟩) (by show w.heap.size ≤ b5; omega) (.int .i64 (n : Nat))).setCell (p := ⟨b5, 1, none⟩) (by show w.heap.size ≤ b5; omega) (.int .i64 (s : Nat))).setCell (p := ⟨b5, 2, none⟩) (by show w.heap.size ≤ b5; omega) (.int .i64 (k : Nat))).setCell (p := ⟨b5, 3, none⟩) (by show w.heap.size ≤ b5; omega) (.bool false))
  have hz2 : b5 < ((((W.setCell ⟨b5, 0, none⟩ (.int .i64 (n : Nat))).setCell ⟨b5, 1, none⟩ (.int .i64 (s : Nat))).setCell ⟨b5, 2, none⟩ (.int .i64 (k : Nat))).setCell ⟨b5, 3, none⟩ (.bool false)).heap.size := by simp; omega
  generalize ((((W.setCell ⟨b5, 0, none⟩ (.int .i64 (n : Nat))).setCell ⟨b5, 1, none⟩ (.int .i64 (s : Nat))).setCell ⟨b5, 2, none⟩ (.int .i64 (k : Nat))).setCell ⟨b5, 3, none⟩ (.bool false)) = w5 at *
  have y0 := HT.out.1 0 _ rfl
  have y1 := HT.out.1 1 _ rfl
  have y2 := HT.out.1 2 _ rfl
  have y3 := HT.out.1 3 _ rfl
  have hpl := HPLb.out
  go_wp2_with fail
  clear hpl y0 y1 y2 y3
  refine Mono.region_tail 10 (by kernel_rfl) (by kernel_rfl) (by kernel_rfl) (by kernel_rfl) ?_
  simp only [List.take_succ_cons, List.take_zero]
  refine Mono.hgl_val (v := ?vq0) rfl Mono.rr (fun ρ a W hR hd hf => ?hq0) ?_
  case hq0 =>
    have e4 := Mono.init_get hf (t := 4) (by kernel_rfl)
    clear hd hf
    (go_simp; try with_reducible rfl)
  refine Mono.hgl_val (v := ?vq1) rfl Mono.rr (fun ρ a W hR hd hf => ?hq1) ?_
  case hq1 =>
    have e41 := Mono.dep_val hd hf (t := 41) (k := 0) (by kernel_rfl) rfl
    have hsl := HT1.out W
    clear hd hf
    (go_simp; try with_reducible rfl)
  refine Mono.hgl_call (fun x _ => x = .int .i64 (n3 : Nat)) rfl Mono.rr (fun _ _ _ h _ => h) (fun ρ a W hR hd hf => ?hq2) ?_
  case hq2 =>
    have e42 := Mono.dep_val hd hf (t := 42) (k := 1) (by kernel_rfl) rfl
    clear hd hf
    refine ⟨_, _, by go_simp; first | rfl | exact ⟨rfl, rfl⟩, ?_⟩
    exact (NUW1.out W (HB.out.trans (hR.mono (by omega)))).mono (fun e W' ⟨he, hw⟩ => ⟨_, he, hw ▸ Mono.rr _, rfl⟩)
  refine Mono.hgl_val (v := ?vq3) rfl Mono.rr (fun ρ a W hR hd hf => ?hq3) ?_
  case hq3 =>
    have e4 := Mono.init_get hf (t := 4) (by kernel_rfl)
    clear hd hf
    (go_simp; try with_reducible rfl)
  refine Mono.hgl_val (v := ?vq4) rfl Mono.rr (fun ρ a W hR hd hf => ?hq4) ?_
  case hq4 =>
    have e44 := Mono.dep_val hd hf (t := 44) (k := 3) (by kernel_rfl) rfl
    have hsl := HT2.out W
    clear hd hf
    (go_simp; try with_reducible rfl)
  refine Mono.hgl_call (fun x _ => x = .int .i64 (s3 : Nat)) rfl Mono.rr (fun _ _ _ h _ => h) (fun ρ a W hR hd hf => ?hq5) ?_
  case hq5 =>
    have e45 := Mono.dep_val hd hf (t := 45) (k := 4) (by kernel_rfl) rfl
    clear hd hf
    refine ⟨_, _, by go_simp; first | rfl | exact ⟨rfl, rfl⟩, ?_⟩
    exact (NUW2.out W (HB.out.trans (hR.mono (by omega)))).mono (fun e W' ⟨he, hw⟩ => ⟨_, he, hw ▸ Mono.rr _, rfl⟩)
  refine Mono.hgl_val (v := ?vq6) rfl Mono.rr (fun ρ a W hR hd hf => ?hq6) ?_
  case hq6 =>
    have e4 := Mono.init_get hf (t := 4) (by kernel_rfl)
    clear hd hf
    (go_simp; try with_reducible rfl)
  refine Mono.hgl_val (v := ?vq7) rfl Mono.rr (fun ρ a W hR hd hf => ?hq7) ?_
  case hq7 =>
    have e47 := Mono.dep_val hd hf (t := 47) (k := 6) (by kernel_rfl) rfl
    have hsl := HT3.out W
    clear hd hf
    (go_simp; try with_reducible rfl)
  refine Mono.hgl_call (fun x _ => x = .int .i64 (k3 : Nat)) rfl Mono.rr (fun _ _ _ h _ => h) (fun ρ a W hR hd hf => ?hq8) ?_
  case hq8 =>
    have e48 := Mono.dep_val hd hf (t := 48) (k := 7) (by kernel_rfl) rfl
    clear hd hf
    refine ⟨_, _, by go_simp; first | rfl | exact ⟨rfl, rfl⟩, ?_⟩
    exact (NUW3.out W (HB.out.trans (hR.mono (by omega)))).mono (fun e W' ⟨he, hw⟩ => ⟨_, he, hw ▸ Mono.rr _, rfl⟩)
  refine Mono.hgl_val (v := ?vq9) rfl Mono.rr (fun ρ a W hR hd hf => ?hq9) ?_
  case hq9 =>
    have e43 := Mono.dep_val hd hf (t := 43) (k := 2) (by kernel_rfl) rfl
    have e46 := Mono.dep_val hd hf (t := 46) (k := 5) (by kernel_rfl) rfl
    have e49 := Mono.dep_val hd hf (t := 49) (k := 8) (by kernel_rfl) rfl
    clear hd hf
    (go_simp; try with_reducible rfl)
  refine Mono.hgl_done rfl (by decide) (fun ρ W hR ht => ?_)
  simp only [List.take_succ_cons, List.take_zero, List.drop_succ_cons, List.drop_zero]
  obtain ⟨dq9, dq8, dq7, dq6, dq5, dq4, dq3, dq2, dq1, dq0, _⟩ := ht
  simp only [List.length_cons, List.length_nil, Nat.reduceAdd] at dq0 dq1 dq2 dq3 dq4 dq5 dq6 dq7 dq8 dq9
  simp only [Mono.putAll, Nat.reduceAdd, dq0, dq1, dq2, dq3, dq4, dq5, dq6, dq7, dq8, dq9, Act.put, List.setIfInBounds_toArray, List.set_cons_zero, List.set_cons_succ]
  clear dq0 dq1 dq2 dq3 dq4 dq5 dq6 dq7 dq8 dq9
  have HT := Lib.hid (HT.out.below hR (by omega))
  have HP := Lib.hid (HP.out.below hR (by omega))
  have HB := Lib.hid (HB.out.trans (hR.mono (by omega)))
  have hz9 : b5 < W.heap.size := Nat.lt_of_lt_of_le hz2 hR.size
  clear hR
  have y0 := HT.out.1 0 _ rfl
  have y1 := HT.out.1 1 _ rfl
  have y2 := HT.out.1 2 _ rfl
  have y3 := HT.out.1 3 _ rfl
  have hfr := HT.out.2
  go_upto_region 8 with (fail)
  clear y0 y1 y2 y3 hfr
  have HT := Lib.hid ((((HT.out.set 0 (.int .i64 (n3 : Nat)) (by simp)).set 1 (.int .i64 (s3 : Nat)) (by simp)).set 2 (.int .i64 (k3 : Nat)) (by simp)).set 3 (.bool true) (by simp))
  have HP := Lib.hid ((((HP.out.other (c := b5) (by omega) 0 (.int .i64 (n3 : Nat))).other (c := b5) (by omega) 1 (.int .i64 (s3 : Nat))).other (c := b5) (by omega) 2 (.int .i64 (k3 : Nat))).other (c := b5) (by omega) 3 (.bool true))
  have HB := Lib.hid ((((HB.out.setCell (p := ⟨b5, 0, none⟩) (by show w.heap.size ≤ b5; omega) (.int .i64 (n3 : Nat))).setCell (p := ⟨b5, 1, none⟩) (by show w.heap.size ≤ b5; omega) (.int .i64 (s3 : Nat))).setCell (p := ⟨b5, 2, none⟩) (by show w.heap.size ≤ b5; omega) (.int .i64 (k3 : Nat))).setCell (p := ⟨b5, 3, none⟩) (by show w.heap.size ≤ b5; omega) (.bool true))
  have hz2 : b5 < ((((W.setCell ⟨b5, 0, none⟩ (.int .i64 (n3 : Nat))).setCell ⟨b5, 1, none⟩ (.int .i64 (s3 : Nat))).setCell ⟨b5, 2, none⟩ (.int .i64 (k3 : Nat))).setCell ⟨b5, 3, none⟩ (.bool true)).heap.size := by simp; omega
  generalize ((((W.setCell ⟨b5, 0, none⟩ (.int .i64 (n3 : Nat))).setCell ⟨b5, 1, none⟩ (.int .i64 (s3 : Nat))).setCell ⟨b5, 2, none⟩ (.int .i64 (k3 : Nat))).setCell ⟨b5, 3, none⟩ (.bool true)) = w8 at *
  have y0 := HT.out.1 0 _ rfl
  have y1 := HT.out.1 1 _ rfl
  have y2 := HT.out.1 2 _ rfl
  have y3 := HT.out.1 3 _ rfl
  go_wp2_with fail
  refine (HEN.out _ ((HH.out.below HB.out).mono (by omega))).mono ?_
  rintro e w6 ⟨rfl, hb⟩
  have HT := Lib.hid (HT.out.below hb (by omega))
  have HP := Lib.hid (HP.out.below hb (by omega))
  have HB := Lib.hid (HB.out.trans (hb.mono (by omega)))
  have hz3 : b5 < w6.heap.size := Nat.lt_of_lt_of_le hz2 hb.size
  clear hb
  clear y0 y1 y2 y3
  have y0 := HT.out.1 0 _ rfl
  have y1 := HT.out.1 1 _ rfl
  have y2 := HT.out.1 2 _ rfl
  have y3 := HT.out.1 3 _ rfl
  go_wp2_with fail
  go_region_with ((go_at_call 11; refine (HRE.out _).mono ?_; rintro e w7 ⟨v7, rfl, ho, hb⟩; replace hb := undrew hb; obtain ⟨av, cv, rfl⟩ := (OB.byt ho).slice; have HT7 := Lib.hid (HT.out.below hb (by omega)); have HP7 := Lib.hid (HP.out.below hb (by omega)); have HB7 := Lib.hid (HB.out.trans (hb.mono (by omega))); have x0 := HT7.out.1 0 _ rfl; have x1 := HT7.out.1 1 _ rfl; have x2 := HT7.out.1 2 _ rfl; have x3 := HT7.out.1 3 _ rfl; have z0 := HP7.out.1 0 _ rfl; have z1 := HP7.out.1 1 _ rfl; have z2 := HP7.out.1 2 _ rfl; have z3 := HP7.out.1 3 _ rfl; have hg := HP7.out.2; have hz7 := Nat.lt_of_lt_of_le hz3 hb.size; clear hb ho))
  all_goals
    go_wp2
    refine bodyPost_ret (v := .tuple #[.agg #[.int .i64 (n3 : Nat), .int .i64 (s3 : Nat), .int .i64 (k3 : Nat), .bool true], .int .i64 98]) (by simp [results, Try.results13, go_sem, z0, z1, z2, z3, HXL.out]) rfl ⟨rfl, ?_⟩
    exact ((((HB7.out).setCell (by simp) _).setCell (by simp) _).setCell (by simp) _).setCell (by simp) _
end Go.Proofs.Ytfdbgbdiacpmhaa
