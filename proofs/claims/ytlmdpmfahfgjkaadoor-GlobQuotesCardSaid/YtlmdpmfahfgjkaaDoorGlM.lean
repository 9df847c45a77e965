/- glob: Pattern.Match. -/
import Derived.Test.YtlmdpmfahfgjkaaDoorGlL
import Derived.Test.YtlmdpmfahfgjkaaDoorGlH
namespace Go.Proofs.YtlmdpmfahfgjkaaDoor
set_option maxRecDepth 100000
set_option linter.unusedVariables false
set_option linter.unusedSimpArgs false
open Go.RowKit
/-- Does a pattern match a text? -/
def mtch (ps : List PartV) (s : ByteArray) : Bool := match sg s.data.toList with | none => false | some l => M ps l
theorem mtch_bad {s : ByteArray} (ps : List PartV) (h : u8 s = false) : mtch ps s = false := by
  rw [u8_sg] at h
  unfold mtch
  cases hs : sg s.data.toList with
  | none => rfl
  | some l => rw [hs] at h; cases h
theorem mtch_good {s : ByteArray} {l : List Int} (ps : List PartV) (h : sg s.data.toList = some l) : mtch ps s = M ps l := by unfold mtch; rw [h]
theorem match_bad (v : Value) (s : ByteArray) (w : World) (hA : Amb w) (hs : s.size ≤ 9223372036854775807) (h : u8 s = false) : Calls Tryd.prog 12 #[v, .string s] w fun e w' => e = .returned (.bool false) ∧ Below w.heap.size w w' := by
  have HU := Lib.hid (utf8_any s w hA hs)
  unfold U8 at HU
  rw [h] at HU
  clear hA h
  go_enter Tryd.func12, Tryd.ntmps12
  go_wp2_with (fail)
  refine HU.out.mono ?_
  rintro e w1 ⟨rfl, hb⟩
  have HB := Lib.hid hb
  clear hb
  go_wp2
  go_ret
  exact ⟨by rfl, HB.out⟩
theorem replicate_bcells (n : Nat) : List.replicate (n + 1) (Value.bool false) = bcells n (fun _ => false) := by
  unfold bcells
  refine List.ext_getElem? fun j => ?_
  by_cases hj : j < n + 1
  · rw [List.getElem?_map, List.getElem?_range hj, List.getElem?_replicate, if_pos hj]; rfl
  · rw [List.getElem?_eq_none (by simp; omega), List.getElem?_eq_none (by simp; omega)]
theorem PL.start (n : Nat) : PL n (upd (fun _ => false) 0 true) 0 0 := by
  refine ⟨Nat.le_refl _, Nat.zero_le _, rfl, rfl, fun k hk => by omega, fun k hk => ?_⟩
  unfold upd
  rw [if_neg (by omega)]
theorem any_upd (l : List Int) (ps : List PartV) : Any l (Is (upd (fun _ => false) 0 true)) ps ↔ M ps l = true := by
  rw [← any_start l ps]
  refine any_congr fun k _ => ?_
  unfold Is upd
  by_cases e : k = 0
  · simp [e]
  · simp [e]
/-- Nothing is left. -/
theorem any_dead {l : List Int} {R : Nat → Prop} {p : PartV} {ps : List PartV} (hm : many p = false) (h : ∀ k, ¬ stepR l (takes p) R k) : ¬ Any l R (p :: ps) := by
  rw [any_single l R p ps hm]
  rintro ⟨k, _, hR, _⟩
  exact h k hR
theorem bool_no {b : Bool} {A : Prop} (h : A ↔ b = true) (hn : ¬ A) : b = false := by
  cases b with
  | false => rfl
  | true => exact absurd (h.2 rfl) hn
theorem info_bool : (Tryd.prog.info? 4).map (fun i => (i.zero, i.size, i.bytes)) = some (some (.bool false), 1, 1) := by kernel_rfl
theorem made_bcells (n : Nat) : madeCells (Value.bool false).cells ((((n : Nat) : Int) + 1).toNat * 1) = (bcells n (fun _ => false)).toArray := by
  rw [← replicate_bcells, show (((n : Nat) : Int) + 1).toNat * 1 = n + 1 by omega]
  refine Array.ext (by simp [size_madeCells]) fun i h1 h2 => ?_
  simp [madeCells, Value.cells, Nat.mod_one]
theorem hmkB (n : Nat) (W : World) (hn : n ≤ 2000000) : (Instr.makeSlice 66 (.int .i64 (((n : Nat) : Int) + 1)) (.int .i64 (((n : Nat) : Int) + 1))).run Tryd.prog W = .ok (.slice (some ⟨W.heap.size, 0, none⟩) (n + 1) (n + 1)) (W.alloc (.cells (bcells n (fun _ => false)).toArray 4)) := by
  obtain ⟨i0, hi, hz0, hz1, hz2⟩ := info_parts info_bool
  have := run_makeSlice (P := Tryd.prog) W 66 4 i0 (.bool false) Tryd.underlying66 hi hz0 .i64 .i64 (((n : Nat) : Int) + 1) (((n : Nat) : Int) + 1) (by omega) (Int.le_refl _) (by rw [hz1]; omega) (by rw [hz2]; omega) (by omega)
  rw [this, hz1, made_bcells]
  rw [show (((n : Nat) : Int) + 1).toNat = n + 1 by omega]
set_option maxHeartbeats 16000000 in
theorem match_good (v : Value) (ps : List PartV) (B : Nat) (s : ByteArray) (l : List Int) (w : World) (hA : Amb w) (hs : s.size ≤ 2000000) (h : u8 s = true) (hl : sg s.data.toList = some l)
    (hP : Pat .i32 w B v ps) (hB : B ≤ w.heap.size) (hn : ps.length ≤ 2000000) (hr : ∀ p ∈ ps, p.rs.length ≤ 2000000) :
    Calls Tryd.prog 12 #[v, .string s] w fun e w' => e = .returned (.bool (M ps l)) ∧ Below w.heap.size w w' := by
  have HU := Lib.hid (utf8_any s w hA (by omega))
  unfold U8 at HU
  rw [h] at HU
  have HW := Lib.hid (fun W => runes_world s l W hs hl)
  have hlen := sg_length hl
  have e : s.data.toList.length = s.size := Array.length_toList
  have hll : l.length ≤ 2000000 := by omega
  have HPat := Lib.hid (fun (W : World) (hW : Below w.heap.size w W) => hP.below (hW.mono hB))
  have HR := Lib.hid hr
  obtain ⟨av, cv, rfl, hcv⟩ : ∃ a cap, v = .slice a ps.length cap ∧ ps.length ≤ cap := by
    obtain ⟨vs, _, _, h3⟩ := hP
    exact h3.form
  clear hA h hlen e hs hl hP hr
  go_enter Tryd.func12, Tryd.ntmps12
  go_wp2_with (fail)
  refine HU.out.mono ?_
  rintro e w1 ⟨rfl, hb⟩
  have HB := Lib.hid hb
  have hz1 := hb.size
  clear hb HU
  obtain ⟨W2, cap, hconv, hcap, hb2, hsc, hz2⟩ := HW.out w1
  have HB := Lib.hid (HB.out.trans (hb2.mono hz1))
  have HSC := Lib.hid hsc
  go_upto_region 4 with (fail)
  clear hconv hb2 hsc HW
  have hz2' : w1.heap.size < W2.heap.size := hz2
  generalize w1.heap.size = b at *
  have q1 : IntKind.i64.wrap (((l.length : Nat) : Int) + 1) = ((l.length : Nat) : Int) + 1 := IntWalk.i64_in _ (by omega)
  have hmk := hmkB l.length W2 hll
  have hA1 := (Below.refl W2.heap.size W2).alloc (Nat.le_refl _) (.cells (bcells l.length (fun _ => false)).toArray 4)
  have HI := Lib.hid (Own.new_at W2 (bcells l.length (fun _ => false)) 4 W2.heap.size rfl)
  have HSC := Lib.hid (HSC.out.below hA1 hz2')
  have HB := Lib.hid (HB.out.trans (hA1.mono (by omega)))
  have hz3 : W2.heap.size + 1 = (W2.alloc (.cells (bcells l.length (fun _ => false)).toArray 4)).heap.size := by simp
  generalize hW3 : W2.alloc (.cells (bcells l.length (fun _ => false)).toArray 4) = W3 at *
  clear hW3 hA1
  have hib : w.heap.size ≤ b := hz1
  generalize W2.heap.size = ib at *
  have HN := Lib.hid (Own.new_at W3 [.slice (some ⟨b, 0, none⟩) l.length cap, .slice (some ⟨ib, 0, none⟩) (l.length + 1) (l.length + 1), .int .i64 0, .int .i64 0] 68 W3.heap.size rfl)
  have hA2 := (Below.refl W3.heap.size W3).alloc (Nat.le_refl _) (.cells #[.slice (some ⟨b, 0, none⟩) l.length cap, .slice (some ⟨ib, 0, none⟩) (l.length + 1) (l.length + 1), .int .i64 0, .int .i64 0] 68)
  have HI := Lib.hid (HI.out.below hA2 (by omega))
  have HSC := Lib.hid (HSC.out.below hA2 (by omega))
  have HB := Lib.hid (HB.out.trans (hA2.mono (by omega)))
  have hz4 : ib + 2 = (W3.alloc (.cells #[.slice (some ⟨b, 0, none⟩) l.length cap, .slice (some ⟨ib, 0, none⟩) (l.length + 1) (l.length + 1), .int .i64 0, .int .i64 0] 68)).heap.size := by simp; omega
  go_upto_region 5 with (fail)
  clear hmk q1 hA2
  generalize W3.alloc (.cells #[.slice (some ⟨b, 0, none⟩) l.length cap, .slice (some ⟨ib, 0, none⟩) (l.length + 1) (l.length + 1), .int .i64 0, .int .i64 0] 68) = W4 at *
  have hpb : ib < W3.heap.size := by omega
  generalize W3.heap.size = pb at *
  have HP : Hid (PS pb ib b 0 cap l W4 (fun _ => false) 0 0) := Lib.hid ⟨HN.out, HI.out, HSC.out, by omega, hpb, by omega⟩
  clear HN HI HSC
  have y1 := HP.out.p.1 1 _ rfl
  have k0 := HP.out.get 0 (Nat.zero_le _)
  have f1 := HP.out.i.2
  go_upto_region 6 with (fail)
  have HP := Lib.hid (HP.out.setIs 0 true (Nat.zero_le _))
  have HB := Lib.hid (HB.out.setCell (p := ⟨ib, 0, none⟩) (by show w.heap.size ≤ ib; omega) (.bool true))
  clear y1 k0 f1 hz3 hz4
  have hw5 : W4.setCell ⟨ib, 0, none⟩ (.bool true) = W4.setCell ⟨ib, 0, none⟩ (.bool true) := rfl
  generalize W4.setCell ⟨ib, 0, none⟩ (.bool true) = W5 at *
  clear hw5
  go_wp2_with (fail)
  have HQ := Lib.hid (any_upd l ps)
  have HL := Lib.hid (PL.start l.length)
  have HB := Lib.hid HB.out
  go_loopw [25] (fun i wr => ∃ (j : Nat) (C : Nat → Bool) (lo hi : Nat), i = .int .i64 j ∧ j ≤ ps.length ∧ Hid (PS pb ib b 0 cap l wr C lo hi) ∧ Hid (PL l.length C lo hi) ∧ Hid (Any l (Is C) (ps.drop j) ↔ M ps l = true) ∧ Hid (Below w.heap.size w wr)) (fun i _ => ps.length - (intOf i).toNat)
  case atStart => exact ⟨0, _, 0, 0, rfl, Nat.zero_le _, HP, HL, HQ, HB⟩
  case round =>
    clear HP HL HQ HB
    obtain ⟨j, C, lo, hi, rfl, hj, HP, HL, HQ, HB⟩ := hrel
    obtain ⟨wo, rfl⟩ : ∃ z : World, z = wr := ⟨_, rfl⟩
    by_cases hlt : j < ps.length
    rotate_left
    · have d1 : decide (j < ps.length) = false := decide_eq_false (by omega)
      have d2 : decide ((j : Int) < (ps.length : Int)) = false := decide_eq_false (by omega)
      have y3 := HP.out.p.1 3 _ rfl
      have HE : Hid (hi = l.length ↔ M ps l = true) := Lib.hid (by
        have h1 := HQ.out
        rw [List.drop_eq_nil_of_le (by omega), any_nil] at h1
        exact HL.out.last.trans h1)
      cases hM : M ps l with
      | true =>
        have e : hi = l.length := HE.out.2 hM
        have HM := Lib.hid hM
        clear hM hlt
        rw [e] at y3
        go_wp2_with (fail)
        go_ret
        exact ⟨by rw [HM.out]; rfl, HB.out⟩
      | false =>
        have e : hi ≠ l.length := fun q => by
          have := HE.out.1 q
          rw [hM] at this
          cases this
        have e1 : (hi == l.length) = false := by simpa using e
        have e2 : ((hi : Int) == (l.length : Int)) = false := by rw [beq_eq_false_iff_ne]; omega
        have HM := Lib.hid hM
        clear hM hlt e
        go_wp2_with (fail)
        go_ret
        exact ⟨by rw [HM.out]; rfl, HB.out⟩
    have d1 : decide (j < ps.length) = true := decide_eq_true hlt
    have d2 : decide ((j : Int) < (ps.length : Int)) = true := decide_eq_true (by omega)
    have q1 : IntKind.i64.wrap ((j : Int) + 1) = (j : Int) + 1 := IntWalk.i64_in _ (by omega)
    obtain ⟨p, hp⟩ : ∃ p, ps[j]? = some p := ⟨_, List.getElem?_eq_getElem hlt⟩
    have hdrop : ps.drop j = p :: ps.drop (j + 1) := by
      rw [List.drop_eq_getElem_cons hlt]
      congr 1
      have := List.getElem?_eq_getElem hlt
      rw [hp] at this
      injection this with this
      exact this.symm
    rw [hdrop] at HQ
    obtain ⟨vs, g1, g2, g3⟩ := HPat.out wo HB.out
    obtain ⟨ba, off, cap', he, _, _, hk⟩ := g3.pos (by omega)
    injection he with he1 he2 he3
    subst he1 he3
    obtain ⟨u, gu, c0, c1, c2, c3⟩ := pcells_get .i32 vs ps j p g1 hp
    have k0 := hk _ _ c0
    have k1 := hk _ _ c1
    have k2 := hk _ _ c2
    have k3 := hk _ _ c3
    have hsl := g2 j u p gu hp
    obtain ⟨au, cu, rfl, hcu⟩ := hsl.form
    have hprl : p.rs.length ≤ 2000000 := HR.out p (List.mem_of_getElem? hp)
    rw [← Nat.add_assoc] at k1 k2 k3
    have ho := HP.out.o
    clear g1 g2 g3 hk c0 c1 c2 c3 gu hdrop
    have hAx := (Below.refl wo.heap.size wo).alloc (Nat.le_refl _) (.cells #[.int .i64 p.kind, .int .i32 p.sign, .slice au p.rs.length cu, .bool p.neg] 35)
    have HP := Lib.hid (HP.out.below hAx)
    have HX := Lib.hid (Own.new_at wo [.int .i64 p.kind, .int .i32 p.sign, .slice au p.rs.length cu, .bool p.neg] 35 wo.heap.size rfl)
    have HB := Lib.hid (HB.out.trans (hAx.mono (by omega)))
    have HS := Lib.hid (hsl.below (hAx.mono (by omega)))
    clear hsl hAx
    go_upto_region 9 with (fail)
    have hz5 : wo.heap.size + 1 = (wo.alloc (.cells #[.int .i64 p.kind, .int .i32 p.sign, .slice au p.rs.length cu, .bool p.neg] 35 )).heap.size := by simp
    generalize wo.alloc (.cells #[.int .i64 p.kind, .int .i32 p.sign, .slice au p.rs.length cu, .bool p.neg] 35 ) = w5 at *
    have y0 := HX.out.1 0 _ rfl
    have y1 := HX.out.1 1 _ rfl
    have y2 := HX.out.1 2 _ rfl
    have y3 := HX.out.1 3 _ rfl
    clear k0 k1 k2 k3 hz5 d1 d2
    by_cases h1 : p.kind = 1
    · have t1 : (p.kind == 1) = true := by simpa using h1
      have hm : many p = false := by unfold many; rw [h1]; rfl
      have HO := Lib.hid (one_any pb ib b 0 cap l p (.slice au p.rs.length cu) B w5 C lo hi HP.out HL.out hll HS.out (by omega) hprl hm)
      rw [h1] at HO
      go_wp2_with (fail)
      refine HO.out.mono ?_
      rintro e w6 ⟨⟨r, rfl, hyes, hno⟩, hb⟩
      have HB := Lib.hid (HB.out.trans (hb.mono (show w.heap.size ≤ ib by omega)))
      clear hb y0 y1 y2 y3
      cases r with
      | false =>
        have HM := Lib.hid (bool_no HQ.out (any_dead hm (hno rfl)))
        clear hyes hno hm h1 t1
        go_wp2_with (fail)
        go_ret
        exact ⟨by rw [HM.out]; rfl, HB.out⟩
      | true =>
        obtain ⟨C', lo', hi', hp', hl', hiff⟩ := hyes rfl
        have HQ := Lib.hid ((any_congr (ps := ps.drop (j + 1)) hiff).trans ((any_single l (Is C) p (ps.drop (j + 1)) hm).symm.trans HQ.out))
        have HP := Lib.hid hp'
        have HL := Lib.hid hl'
        clear hyes hno hm h1 t1 hp' hl' hiff
        go_wp2_with (fail)
        go_roundw
        case rel => exact ⟨j + 1, C', lo', hi', rfl, hlt, HP, HL, HQ, HB⟩
        case measure => simp [intOf] <;> omega
    have t1 : (p.kind == 1) = false := by simpa using h1
    by_cases h2 : p.kind = 2
    · have t2 : (p.kind == 2) = true := by simpa using h2
      have hm : many p = false := by unfold many; rw [h2]; rfl
      have HO := Lib.hid (one_any pb ib b 0 cap l p (.slice au p.rs.length cu) B w5 C lo hi HP.out HL.out hll HS.out (by omega) hprl hm)
      rw [h2] at HO
      go_wp2_with (fail)
      refine HO.out.mono ?_
      rintro e w6 ⟨⟨r, rfl, hyes, hno⟩, hb⟩
      have HB := Lib.hid (HB.out.trans (hb.mono (show w.heap.size ≤ ib by omega)))
      clear hb y0 y1 y2 y3
      cases r with
      | false =>
        have HM := Lib.hid (bool_no HQ.out (any_dead hm (hno rfl)))
        clear hyes hno hm h2 t2
        go_wp2_with (fail)
        go_ret
        exact ⟨by rw [HM.out]; rfl, HB.out⟩
      | true =>
        obtain ⟨C', lo', hi', hp', hl', hiff⟩ := hyes rfl
        have HQ := Lib.hid ((any_congr (ps := ps.drop (j + 1)) hiff).trans ((any_single l (Is C) p (ps.drop (j + 1)) hm).symm.trans HQ.out))
        have HP := Lib.hid hp'
        have HL := Lib.hid hl'
        clear hyes hno hm h2 t2 hp' hl' hiff
        go_wp2_with (fail)
        go_roundw
        case rel => exact ⟨j + 1, C', lo', hi', rfl, hlt, HP, HL, HQ, HB⟩
        case measure => simp [intOf] <;> omega
    have t2 : (p.kind == 2) = false := by simpa using h2
    by_cases h5 : p.kind = 5
    · have t5 : (p.kind == 5) = true := by simpa using h5
      have hm : many p = false := by unfold many; rw [h5]; rfl
      have HO := Lib.hid (one_any pb ib b 0 cap l p (.slice au p.rs.length cu) B w5 C lo hi HP.out HL.out hll HS.out (by omega) hprl hm)
      rw [h5] at HO
      go_wp2_with (fail)
      refine HO.out.mono ?_
      rintro e w6 ⟨⟨r, rfl, hyes, hno⟩, hb⟩
      have HB := Lib.hid (HB.out.trans (hb.mono (show w.heap.size ≤ ib by omega)))
      clear hb y0 y1 y2 y3
      cases r with
      | false =>
        have HM := Lib.hid (bool_no HQ.out (any_dead hm (hno rfl)))
        clear hyes hno hm h5 t5
        go_wp2_with (fail)
        go_ret
        exact ⟨by rw [HM.out]; rfl, HB.out⟩
      | true =>
        obtain ⟨C', lo', hi', hp', hl', hiff⟩ := hyes rfl
        have HQ := Lib.hid ((any_congr (ps := ps.drop (j + 1)) hiff).trans ((any_single l (Is C) p (ps.drop (j + 1)) hm).symm.trans HQ.out))
        have HP := Lib.hid hp'
        have HL := Lib.hid hl'
        clear hyes hno hm h5 t5 hp' hl' hiff
        go_wp2_with (fail)
        go_roundw
        case rel => exact ⟨j + 1, C', lo', hi', rfl, hlt, HP, HL, HQ, HB⟩
        case measure => simp [intOf] <;> omega
    have t5 : (p.kind == 5) = false := by simpa using h5
    by_cases h3 : p.kind = 3
    · have t3 : (p.kind == 3) = true := by simpa using h3
      have hm : many p = true := by unfold many; rw [h3]; rfl
      have ht : takes p = fun c => c != 47 := by funext c; unfold takes; rw [h3]; rfl
      have HO := Lib.hid (some_any pb ib b 0 cap l w5 C lo hi HP.out HL.out hll)
      go_wp2_with (fail)
      refine HO.out.mono ?_
      rintro e w6 ⟨rfl, ⟨C', hi', hp', hl', hiff⟩, hb⟩
      have HB := Lib.hid (HB.out.trans (hb.mono (show w.heap.size ≤ ib by omega)))
      have HQ := Lib.hid ((any_congr (ps := ps.drop (j + 1)) (by rw [ht]; exact hiff)).trans ((any_many l (Is C) p (ps.drop (j + 1)) hm).symm.trans HQ.out))
      have HP := Lib.hid hp'
      have HL := Lib.hid hl'
      clear hm ht t3 h3 hp' hl' hiff hb y0 y1 y2 y3
      go_wp2_with (fail)
      go_roundw
      case rel => exact ⟨j + 1, C', lo, hi', rfl, hlt, HP, HL, HQ, HB⟩
      case measure => simp [intOf] <;> omega
    have t3 : (p.kind == 3) = false := by simpa using h3
    by_cases h4 : p.kind = 4
    · have t4 : (p.kind == 4) = true := by simpa using h4
      have hm : many p = true := by unfold many; rw [h4]; rfl
      have ht : ∀ c, takes p c = true := by intro c; unfold takes; rw [h4]; rfl
      have HO := Lib.hid (deep_any pb ib b 0 cap l w5 C lo hi HP.out (by have h1 := HL.out.le; have h2 := HL.out.hn; omega) hll)
      go_wp2_with (fail)
      refine HO.out.mono ?_
      rintro e w6 ⟨rfl, hp', hb⟩
      obtain ⟨hl', hiff⟩ := deep_done HL.out ht
      have HB := Lib.hid (HB.out.trans (hb.mono (show w.heap.size ≤ ib by omega)))
      have HQ := Lib.hid ((any_congr (ps := ps.drop (j + 1)) hiff).trans ((any_many l (Is C) p (ps.drop (j + 1)) hm).symm.trans HQ.out))
      have HP := Lib.hid hp'
      have HL := Lib.hid hl'
      clear hm ht t4 h4 hp' hl' hiff hb y0 y1 y2 y3
      go_wp2_with (fail)
      go_roundw
      case rel => exact ⟨j + 1, _, lo, _, rfl, hlt, HP, HL, HQ, HB⟩
      case measure => simp [intOf] <;> omega
    have t4 : (p.kind == 4) = false := by simpa using h4
    have hm : many p = false := by unfold many; rw [t3, t4]; rfl
    have HM := Lib.hid (bool_no HQ.out (any_dead hm (by
      rintro k ⟨i, _, _, _, ht⟩
      unfold takes at ht
      rw [if_neg h1, if_neg (by omega), if_neg h4, if_neg h5] at ht
      cases ht)))
    clear h1 h2 h3 h4 h5 hm y1 y2 y3
    go_wp2_with (fail)
    go_ret
    exact ⟨by rw [HM.out]; rfl, HB.out⟩
/-- Pattern.Match. -/
theorem match_any (v : Value) (ps : List PartV) (B : Nat) (s : ByteArray) (w : World) (hA : Amb w) (hs : s.size ≤ 2000000)
    (hP : Pat .i32 w B v ps) (hB : B ≤ w.heap.size) (hn : ps.length ≤ 2000000) (hr : ∀ p ∈ ps, p.rs.length ≤ 2000000) :
    Calls Tryd.prog 12 #[v, .string s] w fun e w' => e = .returned (.bool (mtch ps s)) ∧ Below w.heap.size w w' := by
  cases h : u8 s with
  | false => rw [mtch_bad ps h]; exact match_bad v s w hA (by omega) h
  | true =>
    have h' := h
    rw [u8_sg] at h'
    cases hl : sg s.data.toList with
    | none => rw [hl] at h'; cases h'
    | some l => rw [mtch_good ps hl]; exact match_good v ps B s l w hA hs h hl hP hB hn hr
end Go.Proofs.YtlmdpmfahfgjkaaDoor
