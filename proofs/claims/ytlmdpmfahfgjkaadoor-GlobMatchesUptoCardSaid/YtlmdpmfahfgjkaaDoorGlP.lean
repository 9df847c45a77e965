/- Are two patterns the same? -/
import Derived.Test.YtlmdpmfahfgjkaaDoorGlO
namespace Go.Proofs.YtlmdpmfahfgjkaaDoor
set_option maxRecDepth 100000
set_option linter.unusedVariables false
set_option linter.unusedSimpArgs false
open Go.RowKit
theorem pat_form {k : IntKind} {w : World} {B : Nat} {v : Value} {ps : List PartV} (h : Pat k w B v ps) : ∃ a cap, v = .slice a ps.length cap ∧ ps.length ≤ cap := by
  obtain ⟨vs, _, _, h3⟩ := h
  exact h3.form
/-- A part of a pattern in memory. -/
theorem pat_at {k : IntKind} {w : World} {B : Nat} {a : Option Addr} {n cap : Nat} {ps : List PartV} (h : Pat k w B (.slice a n cap) ps) {j : Nat} {p : PartV} (hp : ps[j]? = some p) : ∃ b off u, a = some ⟨b, off, none⟩ ∧
    w.cell? ⟨b, off + j * 4, none⟩ = some (.int .i64 p.kind) ∧ w.cell? ⟨b, off + j * 4 + 1, none⟩ = some (.int k p.sign) ∧ w.cell? ⟨b, off + j * 4 + 2, none⟩ = some u ∧ w.cell? ⟨b, off + j * 4 + 3, none⟩ = some (.bool p.neg) ∧ Sl w B 2 u p.rs.length (rcells k p.rs) := by
  obtain ⟨vs, g1, g2, g3⟩ := h
  have hlt := (List.getElem?_eq_some_iff.1 hp).1
  obtain ⟨b, off, cap', he, _, _, hk⟩ := g3.pos (by omega)
  injection he with he1 he2 he3
  subst he1
  obtain ⟨u, gu, c0, c1, c2, c3⟩ := pcells_get k vs ps j p g1 hp
  refine ⟨b, off, u, rfl, hk _ _ c0, ?_, ?_, ?_, g2 j u p gu hp⟩
  · rw [Nat.add_assoc]; exact hk _ _ c1
  · rw [Nat.add_assoc]; exact hk _ _ c2
  · rw [Nat.add_assoc]; exact hk _ _ c3
theorem sl_at {k : IntKind} {w : World} {B : Nat} {a : Option Addr} {n cap : Nat} {rs : List (Int × Int)} (h : Sl w B 2 (.slice a n cap) rs.length (rcells k rs)) {j : Nat} {r : Int × Int} (hr : rs[j]? = some r) : ∃ b off, a = some ⟨b, off, none⟩ ∧
    w.cell? ⟨b, off + j * 2, none⟩ = some (.int k r.1) ∧ w.cell? ⟨b, off + j * 2 + 1, none⟩ = some (.int k r.2) := by
  have hlt := (List.getElem?_eq_some_iff.1 hr).1
  obtain ⟨b, off, cap', he, _, _, hk⟩ := h.pos (by omega)
  injection he with he1 he2 he3
  subst he1
  obtain ⟨g1, g2⟩ := rcells_get k rs j r hr
  exact ⟨b, off, rfl, hk _ _ g1, by rw [Nat.add_assoc]; exact hk _ _ g2⟩
set_option maxHeartbeats 8000000 in
theorem same_any (ps : List PartV) (B B' n : Nat) (v v' : Value) (w : World) (h : Pat .i32 w B v ps) (h' : Pat .i64 w B' v' ps) (hB : B ≤ w.heap.size) (hB' : B' ≤ w.heap.size) (hps : ps.length ≤ 256) (hpb : ∀ p ∈ ps, PB n p) (hn : n ≤ 2000000) :
    Calls Tryd.prog 10 #[v, v'] w fun e w' => e = .returned (.bool true) ∧ Below w.heap.size w w' := by
  obtain ⟨a, cap, rfl, hcap⟩ := pat_form h
  obtain ⟨a', cap', rfl, hcap'⟩ := pat_form h'
  have H1 := Lib.hid (fun (W : World) (hW : Below w.heap.size w W) => h.below (hW.mono hB))
  have H2 := Lib.hid (fun (W : World) (hW : Below w.heap.size w W) => h'.below (hW.mono hB'))
  have HPB := Lib.hid hpb
  clear h h' hpb
  go_enter Tryd.func10, Tryd.ntmps10
  go_wp2_with (fail)
  go_loopw [5] (fun i wr => ∃ j : Nat, i = .int .i64 j ∧ j ≤ ps.length ∧ Hid (Below w.heap.size w wr)) (fun i _ => ps.length - (intOf i).toNat)
  case atStart => exact ⟨0, rfl, by omega, Lib.hid (Below.refl _ _)⟩
  case round =>
    obtain ⟨j, rfl, hj, HB⟩ := hrel
    by_cases hlt : j < ps.length
    rotate_left
    · have d1 : decide (j < ps.length) = false := decide_eq_false (by omega)
      have d2 : decide ((j : Int) < (ps.length : Int)) = false := decide_eq_false (by omega)
      clear hlt
      go_wp2_with (fail)
      go_ret
      exact ⟨by rfl, HB.out⟩
    have d1 : decide (j < ps.length) = true := decide_eq_true hlt
    have d2 : decide ((j : Int) < (ps.length : Int)) = true := decide_eq_true (by omega)
    have q1 : IntKind.i64.wrap ((j : Int) + 1) = (j : Int) + 1 := IntWalk.i64_in _ (by omega)
    obtain ⟨p, hp⟩ : ∃ p, ps[j]? = some p := ⟨_, List.getElem?_eq_getElem hlt⟩
    obtain ⟨b1, b2, b3⟩ := HPB.out p (List.mem_of_getElem? hp)
    obtain ⟨bg, og, u, rfl, k0, k1, k2, k3, hs⟩ := pat_at (H1.out wr HB.out) hp
    obtain ⟨br, or', u', rfl, m0, m1, m2, m3, hs'⟩ := pat_at (H2.out wr HB.out) hp
    obtain ⟨au, cu, rfl, hcu⟩ := hs.form
    obtain ⟨au', cu', rfl, hcu'⟩ := hs'.form
    have qs : IntKind.i64.wrap p.sign = p.sign := IntWalk.i64_in _ (by unfold Bd at b2; omega)
    clear hs hs'
    go_upto_region 6 with (fail)
    go_quiet (fail)
    have HB := Lib.hid (below_drewN HB.out nq)
    clear k0 k1 k2 k3 m0 m1 m2 m3
    generalize wr.drewN nq = w2 at *
    go_wp2_with (fail)
    have H3 := Lib.hid (fun (W : World) (hW : Below w.heap.size w W) => pat_at (H1.out W hW) hp)
    have H4 := Lib.hid (fun (W : World) (hW : Below w.heap.size w W) => pat_at (H2.out W hW) hp)
    have HRS := Lib.hid b3
    have hrl : p.rs.length ≤ 2000000 := by omega
    clear qs b1 b2 b3
    go_loopw [6] (fun i wr => ∃ m : Nat, i = .int .i64 m ∧ m ≤ p.rs.length ∧ Hid (Below w.heap.size w wr)) (fun i _ => p.rs.length - (intOf i).toNat)
    case atStart => exact ⟨0, rfl, by omega, HB⟩
    case round =>
      clear HB
      obtain ⟨m, rfl, hm, HB⟩ := hrel
      obtain ⟨wo, rfl⟩ : ∃ z : World, z = wr := ⟨_, rfl⟩
      obtain ⟨_, _, _, he, _, _, k2, _, hs⟩ := H3.out wo HB.out
      injection he with he
      injection he with he1 he2 he3
      subst he1 he2
      obtain ⟨_, _, _, he, _, _, m2, _, hs'⟩ := H4.out wo HB.out
      injection he with he
      injection he with he1 he2 he3
      subst he1 he2
      obtain ⟨au, cu, rfl, hcu⟩ := hs.form
      obtain ⟨au', cu', rfl, hcu'⟩ := hs'.form
      by_cases hlm : m < p.rs.length
      rotate_left
      · have d3 : decide (m < p.rs.length) = false := decide_eq_false (by omega)
        have d4 : decide ((m : Int) < (p.rs.length : Int)) = false := decide_eq_false (by omega)
        clear hlm
        go_wp2_with (fail)
        go_roundw
        case rel => exact ⟨j + 1, rfl, hlt, HB⟩
        case measure => simp [intOf] <;> omega
      have d3 : decide (m < p.rs.length) = true := decide_eq_true hlm
      have d4 : decide ((m : Int) < (p.rs.length : Int)) = true := decide_eq_true (by omega)
      have q2 : IntKind.i64.wrap ((m : Int) + 1) = (m : Int) + 1 := IntWalk.i64_in _ (by omega)
      obtain ⟨r, hr⟩ : ∃ r, p.rs[m]? = some r := ⟨_, List.getElem?_eq_getElem hlm⟩
      obtain ⟨bb1, bb2⟩ := HRS.out r (List.mem_of_getElem? hr)
      obtain ⟨bs, os, rfl, s0, s1⟩ := sl_at hs hr
      obtain ⟨bt, ot, rfl, t0, t1⟩ := sl_at hs' hr
      have q3 : IntKind.i64.wrap r.1 = r.1 := IntWalk.i64_in _ (by unfold Bd at bb1; omega)
      have q4 : IntKind.i64.wrap r.2 = r.2 := IntWalk.i64_in _ (by unfold Bd at bb2; omega)
      clear hs hs' bb1 bb2
      go_upto_region 11 with (fail)
      go_quiet (fail)
      have HB := Lib.hid (below_drewN HB.out nq)
      clear k2 m2 s0 s1 t0 t1
      generalize wo.drewN nq = w3 at *
      go_wp2_with (fail)
      go_roundw
      case rel => exact ⟨m + 1, rfl, hlm, HB⟩
      case measure => simp [intOf] <;> omega
end Go.Proofs.YtlmdpmfahfgjkaaDoor
