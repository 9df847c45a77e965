/- glob: the places of a text: some, deep. -/
import Derived.Test.YtlmdpmfahfgjkaaDoorGlJ
import Derived.Test.YtlmdpmfahfgjkaaDoorGlA
import Derived.Deep.DeepCutAuto
namespace Go.Proofs.YtlmdpmfahfgjkaaDoor
set_option maxRecDepth 100000
set_option linter.unusedVariables false
set_option linter.unusedSimpArgs false
open Go.RowKit
def bcells (n : Nat) (B : Nat → Bool) : List Value := (List.range (n + 1)).map fun k => .bool (B k)
theorem bcells_get (n : Nat) (B : Nat → Bool) (k : Nat) (h : k ≤ n) : (bcells n B)[k]? = some (.bool (B k)) := by
  unfold bcells
  rw [List.getElem?_map, List.getElem?_range (by omega)]
  rfl
theorem bcells_set (n : Nat) (B : Nat → Bool) (k : Nat) (v : Bool) : (bcells n B).set k (.bool v) = bcells n (upd B k v) := by
  refine List.ext_getElem? fun j => ?_
  unfold bcells upd
  by_cases e : j = k
  · subst e
    by_cases hj : j < n + 1
    · rw [List.getElem?_set_self (by simpa using hj), List.getElem?_map, List.getElem?_range hj]
      simp
    · rw [List.getElem?_eq_none (by simp; omega), List.getElem?_eq_none (by simp; omega)]
  · rw [List.getElem?_set_ne (fun q => e q.symm)]
    by_cases hj : j < n + 1
    · rw [List.getElem?_map, List.getElem?_map, List.getElem?_range hj]
      simp [e]
    · rw [List.getElem?_eq_none (by simp; omega), List.getElem?_eq_none (by simp; omega)]
/-- A text's places in memory. -/
structure PS (pb ib sb off cap : Nat) (l : List Int) (w : World) (B : Nat → Bool) (lo hi : Nat) : Prop where
  p : Own w pb [.slice (some ⟨sb, off, none⟩) l.length cap, .slice (some ⟨ib, 0, none⟩) (l.length + 1) (l.length + 1), .int .i64 lo, .int .i64 hi]
  i : Own w ib (bcells l.length B)
  s : SgC .i32 w sb off l
  o : sb < ib ∧ ib < pb ∧ pb < w.heap.size
section
variable {pb ib sb off cap : Nat} {l : List Int} {w w' : World} {B : Nat → Bool} {lo hi : Nat}
theorem PS.below (h : PS pb ib sb off cap l w B lo hi) (hb : Below w.heap.size w w') : PS pb ib sb off cap l w' B lo hi := by
  have := h.o
  have hz := hb.size
  exact ⟨h.p.below hb (by omega), h.i.below hb (by omega), h.s.below hb (by omega), by omega, by omega, by omega⟩
theorem PS.setHi (h : PS pb ib sb off cap l w B lo hi) (x : Nat) : PS pb ib sb off cap l (w.setCell ⟨pb, 3, none⟩ (.int .i64 x)) B lo x := by
  have := h.o
  refine ⟨h.p.set 3 _ (by simp), h.i.other (by omega) 3 _, h.s.below ((Below.refl pb w).setCell (by simp) _) (by omega), by omega, by omega, by simp [World.setCell]; omega⟩
theorem PS.setLo (h : PS pb ib sb off cap l w B lo hi) (x : Nat) : PS pb ib sb off cap l (w.setCell ⟨pb, 2, none⟩ (.int .i64 x)) B x hi := by
  have := h.o
  refine ⟨h.p.set 2 _ (by simp), h.i.other (by omega) 2 _, h.s.below ((Below.refl pb w).setCell (by simp) _) (by omega), by omega, by omega, by simp [World.setCell]; omega⟩
theorem PS.setIs (h : PS pb ib sb off cap l w B lo hi) (k : Nat) (v : Bool) (hk : k ≤ l.length) : PS pb ib sb off cap l (w.setCell ⟨ib, k, none⟩ (.bool v)) (upd B k v) lo hi := by
  have := h.o
  refine ⟨h.p.other (by omega) k _, ?_, h.s.below ((Below.refl ib w).setCell (by simp) _) (by omega), by omega, by omega, by simp [World.setCell]; omega⟩
  rw [← bcells_set]
  exact h.i.set k _ (by simp [bcells]; omega)
theorem PS.get (h : PS pb ib sb off cap l w B lo hi) (k : Nat) (hk : k ≤ l.length) : w.cell? ⟨ib, k, none⟩ = some (.bool (B k)) := h.i.1 k _ (bcells_get _ _ _ hk)
end
set_option maxHeartbeats 4000000 in
/-- glob: any number of signs. -/
theorem deep_any (pb ib sb off cap : Nat) (l : List Int) (w : World) (B : Nat → Bool) (lo hi : Nat) (h : PS pb ib sb off cap l w B lo hi) (hlo : lo ≤ l.length) (hl : l.length ≤ 2000000) :
    Calls Tryd.prog 25 #[.pointer (some ⟨pb, 0, none⟩)] w fun e w' => e = .returned (.tuple #[]) ∧ PS pb ib sb off cap l w' (deepB B lo (l.length + 1)) lo l.length ∧ Below ib w w' := by
  have HP := Lib.hid h
  have y0 := h.p.1 0 _ rfl
  have y3 := h.p.1 3 _ rfl
  have f0 := h.p.2
  have ho := h.o
  clear h
  go_enter Tryd.func25, Tryd.ntmps25
  go_upto_region 1 with (fail)
  have HB := Lib.hid ((Below.refl ib w).setCell (p := ⟨pb, 3, none⟩) (by show ib ≤ pb; omega) (.int .i64 (l.length : Nat)))
  have HP := Lib.hid (HP.out.setHi l.length)
  clear y0 y3 f0
  generalize w.setCell ⟨pb, 3, none⟩ (.int .i64 (l.length : Nat)) = w1 at *
  have y2 := HP.out.p.1 2 _ rfl
  go_wp2_with (fail)
  clear y2
  go_loopw [2] (fun i wr => ∃ j : Nat, i = .int .i64 j ∧ lo ≤ j ∧ j ≤ l.length + 1 ∧ Hid (PS pb ib sb off cap l wr (deepB B lo j) lo l.length) ∧ Hid (Below ib w wr)) (fun i _ => l.length + 1 - (intOf i).toNat)
  case atStart => exact ⟨lo, rfl, by omega, by omega, Lib.hid (by rw [deepB_start]; exact HP.out), HB⟩
  case round =>
    clear HP HB
    obtain ⟨j, rfl, hj1, hj2, HP, HB⟩ := hrel
    have y0 := HP.out.p.1 0 _ rfl
    have y1 := HP.out.p.1 1 _ rfl
    have y3 := HP.out.p.1 3 _ rfl
    by_cases hlt : j ≤ l.length
    rotate_left
    · have d1 : decide (j ≤ l.length) = false := decide_eq_false (by omega)
      have d2 : decide ((j : Int) ≤ (l.length : Int)) = false := decide_eq_false (by omega)
      have e : j = l.length + 1 := by omega
      subst e
      go_wp2_with (fail)
      go_end0
      exact ⟨by rfl, HP.out, HB.out⟩
    have d1 : decide (j ≤ l.length) = true := decide_eq_true hlt
    have d2 : decide ((j : Int) ≤ (l.length : Int)) = true := decide_eq_true (by omega)
    have hj3 : j < l.length + 1 := by omega
    have k1 := HP.out.get j hlt
    have f1 := HP.out.i.2
    have q1 : IntKind.i64.wrap ((j : Int) + 1) = (j : Int) + 1 := IntWalk.i64_in _ (by omega)
    go_upto_region 3 with (fail)
    have HP := Lib.hid (HP.out.setIs j true hlt)
    have HB := Lib.hid (HB.out.setCell (p := ⟨ib, j, none⟩) (by show ib ≤ ib; omega) (.bool true))
    rw [deepB_step _ _ _ hj1] at HP
    clear y0 y1 y3 k1 f1
    generalize wr.setCell ⟨ib, j, none⟩ (.bool true) = w5 at *
    go_wp2_with (fail)
    go_roundw
    case rel => exact ⟨j + 1, rfl, by omega, by omega, HP, HB⟩
    case measure => simp [intOf]; omega
theorem sg_get (l : List Int) (i : Nat) (h : i < l.length) : l[i]? = some (l.getD i 0) := by
  rw [List.getD_eq_getElem?_getD, List.getElem?_eq_getElem h]; rfl
set_option maxHeartbeats 8000000 in
/-- glob: any number of signs but slashes. -/
theorem some_any (pb ib sb off cap : Nat) (l : List Int) (w : World) (B : Nat → Bool) (lo hi : Nat) (h : PS pb ib sb off cap l w B lo hi) (hpl : PL l.length B lo hi) (hl : l.length ≤ 2000000) :
    Calls Tryd.prog 24 #[.pointer (some ⟨pb, 0, none⟩)] w fun e w' => e = .returned (.tuple #[]) ∧ (∃ C h, PS pb ib sb off cap l w' C lo h ∧ PL l.length C lo h ∧ ∀ k, k ≤ l.length → (Is C k ↔ cloR l (fun c => c != 47) (Is B) k)) ∧ Below ib w w' := by
  have HP := Lib.hid h
  have HL := Lib.hid hpl
  have y2 := h.p.1 2 _ rfl
  have ho := h.o
  have hle := hpl.le
  have hhn := hpl.hn
  clear h hpl
  go_enter Tryd.func24, Tryd.ntmps24
  go_wp2_with (fail)
  clear y2
  go_loopw [2] (fun i wr => ∃ (j : Nat) (C : Nat → Bool) (h : Nat), i = .int .i64 j ∧ lo ≤ j ∧ j ≤ h + 1 ∧ h ≤ l.length ∧ Hid (SomeI l B lo hi j C h) ∧ Hid (PS pb ib sb off cap l wr C lo h) ∧ Hid (Below ib w wr)) (fun i _ => l.length + 1 - (intOf i).toNat)
  case atStart => exact ⟨lo, B, hi, rfl, by omega, by omega, hhn, Lib.hid (SomeI.start HL.out), HP, Lib.hid (Below.refl _ _)⟩
  case round =>
    clear HP
    obtain ⟨j, C, h, rfl, hj1, hj2, hhl, HI, HP, HB⟩ := hrel
    have y0 := HP.out.p.1 0 _ rfl
    have y1 := HP.out.p.1 1 _ rfl
    have y3 := HP.out.p.1 3 _ rfl
    by_cases hlt : j ≤ h
    rotate_left
    · have d1 : decide (j ≤ h) = false := decide_eq_false (by omega)
      have d2 : decide ((j : Int) ≤ (h : Int)) = false := decide_eq_false (by omega)
      have HD := Lib.hid (SomeI.done HL.out HI.out hj1 (.inl (by omega)) hj2)
      go_wp2_with (fail)
      go_end0
      exact ⟨by rfl, ⟨C, h, HP.out, HD.out.1, HD.out.2⟩, HB.out⟩
    have d1 : decide (j ≤ h) = true := decide_eq_true hlt
    have d2 : decide ((j : Int) ≤ (h : Int)) = true := decide_eq_true (by omega)
    by_cases hln : j < l.length
    rotate_left
    · have d3 : decide (j < l.length) = false := decide_eq_false (by omega)
      have d4 : decide ((j : Int) < (l.length : Int)) = false := decide_eq_false (by omega)
      have HD := Lib.hid (SomeI.done HL.out HI.out hj1 (.inr (by omega)) hj2)
      go_wp2_with (fail)
      go_end0
      exact ⟨by rfl, ⟨C, h, HP.out, HD.out.1, HD.out.2⟩, HB.out⟩
    have d3 : decide (j < l.length) = true := decide_eq_true hln
    have d4 : decide ((j : Int) < (l.length : Int)) = true := decide_eq_true (by omega)
    have hj3 : j < l.length + 1 := by omega
    have k1 := HP.out.get j (by omega)
    have k2 := HP.out.s j _ (sg_get l j hln)
    have HN := Lib.hid (fun h => SomeI.no HI.out hln h)
    have HYE := Lib.hid (SomeI.yes HI.out hlt hln)
    clear HI
    generalize l.getD j 0 = c at *
    have q1 : IntKind.i64.wrap ((j : Int) + 1) = (j : Int) + 1 := IntWalk.i64_in _ (by omega)
    cases hC : C j with
    | false =>
      have HI := Lib.hid (HN.out (.inl hC))
      rw [hC] at k1
      clear hC
      go_wp2_with (fail)
      go_roundw
      case rel => exact ⟨j + 1, C, h, rfl, by omega, by omega, hhl, HI, HP, HB⟩
      case measure => simp [intOf]; omega
    | true =>
    rw [hC] at k1
    cases ht : (c != 47) with
    | false =>
      have HI := Lib.hid (HN.out (.inr ht))
      clear hC
      go_wp2_with (fail)
      go_roundw
      case rel => exact ⟨j + 1, C, h, rfl, by omega, by omega, hhl, HI, HP, HB⟩
      case measure => simp [intOf]; omega
    | true =>
      have HI := Lib.hid (HYE.out hC ht)
      have f1 := HP.out.i.2
      have hj4 : j + 1 < l.length + 1 := by omega
      have k3 := HP.out.get (j + 1) (by omega)
      clear hC HN HYE
      go_upto_region 5 with (fail)
      have HP := Lib.hid (HP.out.setIs (j + 1) true (by omega))
      have HB := Lib.hid (HB.out.setCell (p := ⟨ib, j + 1, none⟩) (by show ib ≤ ib; omega) (.bool true))
      clear y0 y1 y3 k1 k2 k3 f1
      generalize wr.setCell ⟨ib, j + 1, none⟩ (.bool true) = w5 at *
      have y3 := HP.out.p.1 3 _ rfl
      have f0 := HP.out.p.2
      have hmx : max ((h : Nat) : Int) ((j : Int) + 1) = ((max h (j + 1) : Nat) : Int) := by omega
      go_upto_region 2 with (fail)
      have HP := Lib.hid (HP.out.setHi (max h (j + 1)))
      have HB := Lib.hid (HB.out.setCell (p := ⟨pb, 3, none⟩) (by show ib ≤ pb; omega) (.int .i64 ((max h (j + 1) : Nat) : Int)))
      clear y3 f0 hmx
      generalize w5.setCell ⟨pb, 3, none⟩ (.int .i64 ((max h (j + 1) : Nat) : Int)) = w6 at *
      go_wp2_with (fail)
      go_roundw
      case rel => exact ⟨j + 1, upd C (j + 1) true, max h (j + 1), rfl, by omega, by omega, by omega, HI, HP, HB⟩
      case measure => simp [intOf]; omega
end Go.Proofs.YtlmdpmfahfgjkaaDoor
