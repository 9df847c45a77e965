/- glob: may a part be a sign? -/
import Derived.Test.YtlmdpmfahfgjkaaDoorGlG
namespace Go.Proofs.YtlmdpmfahfgjkaaDoor
set_option maxRecDepth 100000
set_option linter.unusedVariables false
set_option linter.unusedSimpArgs false
open Go.RowKit
theorem cf_matches1 (args : Array Value) (w : World) : (callFunc 37 args).run Tryd.prog w = .ok (.enter 37 args) w := by kernel_rfl
theorem rcells_get (k : IntKind) : ∀ (rs : List (Int × Int)) (j : Nat) (r : Int × Int), rs[j]? = some r → (rcells k rs)[j * 2]? = some (.int k r.1) ∧ (rcells k rs)[j * 2 + 1]? = some (.int k r.2)
  | [], _, _, h => by simp at h
  | q :: rs, 0, r, h => by
    simp only [List.getElem?_cons_zero, Option.some.injEq] at h
    subst h
    exact ⟨rfl, rfl⟩
  | q :: rs, j + 1, r, h => by
    have := rcells_get k rs j r (by simpa using h)
    refine ⟨?_, ?_⟩
    · rw [show (j + 1) * 2 = j * 2 + 2 by omega]; exact this.1
    · rw [show (j + 1) * 2 + 1 = j * 2 + 1 + 2 by omega]; exact this.2
theorem inRange_any (lo hi c : Int) (b : Nat) (w : World) (hc : w.cell? ⟨b, 0, none⟩ = some (.int .i32 c)) (hb : b < w.heap.size) :
    Calls Tryd.prog 37 #[.agg #[.int .i32 lo, .int .i32 hi], .pointer (some ⟨b, 0, none⟩)] w fun e w' => e = .returned (.bool (decide (lo ≤ c) && decide (c ≤ hi))) ∧ Below w.heap.size w w' := by
  have HB := Lib.hid ((Below.refl w.heap.size w).alloc (Nat.le_refl _) (.cells #[.int .i32 lo, .int .i32 hi] 62))
  have k1 : (w.alloc (.cells #[.int .i32 lo, .int .i32 hi] 62)).cell? ⟨b, 0, none⟩ = some (.int .i32 c) := by
    rw [← hc]; exact HB.out.cell (p := ⟨b, 0, none⟩) hb
  clear hc
  go_enter Tryd.func37, Tryd.ntmps37
  cases d1 : decide (lo ≤ c) <;> cases d2 : decide (c ≤ hi)
  all_goals
    go_wp2_with (fail)
    go_ret
    exact ⟨by rfl, HB.out⟩
def idxQ (rs : List (Int × Int)) (c : Int) (w : World) (e : Ending) (w' : World) : Prop := (∃ x : Int, e = .returned (.int .i64 x) ∧ decide (0 ≤ x) = inR rs c) ∧ Below w.heap.size w w'
theorem inR_snoc (rs : List (Int × Int)) (j : Nat) (c lo hi : Int) (h : rs[j]? = some (lo, hi)) : inR (rs.drop j) c = ((decide (lo ≤ c) && decide (c ≤ hi)) || inR (rs.drop (j + 1)) c) := by
  obtain ⟨hj, e⟩ := List.getElem?_eq_some_iff.1 h
  rw [List.drop_eq_getElem_cons hj, e]
  rfl
set_option maxHeartbeats 4000000 in
theorem index_any (rs : List (Int × Int)) (c : Int) (b B : Nat) (u : Value) (w : World) (hs : Sl w B 2 u rs.length (rcells .i32 rs)) (hB : B ≤ w.heap.size) (hl : rs.length ≤ 2000000) (hc : w.cell? ⟨b, 0, none⟩ = some (.int .i32 c)) (hb : b < w.heap.size) :
    Calls Tryd.prog 40 #[u, .func (.func 37) #[] #[.pointer (some ⟨b, 0, none⟩)]] w (idxQ rs c w) := by
  obtain ⟨a, cap, rfl, hcap⟩ := hs.form
  have HK := Lib.hid (fun (W : World) (hW : Below w.heap.size w W) (j : Nat) (hj : j < rs.length) => (hs.below (hW.mono hB)).pos (by omega))
  have HC := Lib.hid (fun (W : World) (hW : Below w.heap.size w W) => (hW.cell (p := ⟨b, 0, none⟩) hb).trans hc)
  have hcf := cf_matches1
  clear hs hc
  go_enter Tryd.func40, Tryd.ntmps40
  go_wp2_with (fail)
  go_loopw [8] (fun i wr => ∃ j : Nat, i = .int .i64 j ∧ j ≤ rs.length ∧ Hid (inR (rs.drop j) c = inR rs c) ∧ Hid (Below w.heap.size w wr)) (fun i _ => rs.length - (intOf i).toNat)
  case atStart => exact ⟨0, rfl, by omega, Lib.hid rfl, Lib.hid (Below.refl _ _)⟩
  case round =>
    obtain ⟨j, rfl, hj, HI, HB⟩ := hrel
    by_cases hlt : j < rs.length
    rotate_left
    · have d1 : decide (j < rs.length) = false := decide_eq_false (by omega)
      have d2 : decide ((j : Int) < (rs.length : Int)) = false := decide_eq_false (by omega)
      have HY : Hid (decide ((0 : Int) ≤ -1) = inR rs c) := Lib.hid (by rw [← HI.out, List.drop_eq_nil_of_le (by omega)]; rfl)
      clear hlt
      go_wp2_with (fail)
      go_ret
      exact ⟨⟨_, rfl, HY.out⟩, HB.out⟩
    have d1 : decide (j < rs.length) = true := decide_eq_true hlt
    have d2 : decide ((j : Int) < (rs.length : Int)) = true := decide_eq_true (by omega)
    obtain ⟨ba, off, cap', he, _, _, hk⟩ := HK.out wr HB.out j hlt
    injection he with he1 he2 he3
    subst he1 he3
    obtain ⟨⟨lo, hi⟩, hr⟩ : ∃ r, rs[j]? = some r := ⟨_, List.getElem?_eq_getElem hlt⟩
    obtain ⟨g1, g2⟩ := rcells_get .i32 rs j _ hr
    have k1 := hk _ _ g1
    have k2 := hk _ _ g2
    rw [← Nat.add_assoc] at k2
    have HS := Lib.hid (inR_snoc rs j c lo hi hr)
    have HZ := Lib.hid (inRange_any lo hi c b wr (HC.out wr HB.out) (by have := HB.out.size; omega))
    have q1 : IntKind.i64.wrap ((j : Int) + 1) = (j : Int) + 1 := IntWalk.i64_in _ (by omega)
    clear g1 g2 hk hr
    go_wp2_with (fail)
    refine HZ.out.mono ?_
    rintro e w2 ⟨rfl, hb2⟩
    have HB := Lib.hid (HB.out.trans (hb2.mono HB.out.size))
    clear hb2 k1 k2
    cases ht : (decide (lo ≤ c) && decide (c ≤ hi)) with
    | true =>
      have HY : Hid (decide ((0 : Int) ≤ (j : Int)) = inR rs c) := Lib.hid (by rw [← HI.out, HS.out, ht, decide_eq_true (by omega)]; rfl)
      clear ht
      go_wp2_with (fail)
      go_ret
      exact ⟨⟨_, rfl, HY.out⟩, HB.out⟩
    | false =>
      have HY : Hid (inR (rs.drop (j + 1)) c = inR rs c) := Lib.hid (by rw [← HI.out, HS.out, ht]; rfl)
      clear ht
      go_wp2_with (fail)
      go_roundw
      case rel => exact ⟨j + 1, rfl, hlt, HY, HB⟩
      case measure => simp [intOf]; omega
theorem contains_any (rs : List (Int × Int)) (c : Int) (b B : Nat) (u : Value) (w : World) (hs : Sl w B 2 u rs.length (rcells .i32 rs)) (hB : B ≤ w.heap.size) (hl : rs.length ≤ 2000000) (hc : w.cell? ⟨b, 0, none⟩ = some (.int .i32 c)) (hb : b < w.heap.size) :
    Calls Tryd.prog 36 #[u, .func (.func 37) #[] #[.pointer (some ⟨b, 0, none⟩)]] w fun e w' => e = .returned (.bool (inR rs c)) ∧ Below w.heap.size w w' := by
  have HI := Lib.hid (index_any rs c b B u w hs hB hl hc hb)
  obtain ⟨a, cap, rfl, hcap⟩ := hs.form
  clear hs hc
  go_enter Tryd.func36, Tryd.ntmps36
  go_wp2_with (fail)
  refine HI.out.mono ?_
  rintro e w2 ⟨⟨x, rfl, hx⟩, hb2⟩
  have HB := Lib.hid hb2
  have HX := Lib.hid hx
  clear hx hb2
  go_wp2_with (fail)
  go_ret
  exact ⟨by rw [HX.out]; rfl, HB.out⟩
/-- glob: a part of one sign. -/
theorem matches_any (p : PartV) (c : Int) (B : Nat) (u : Value) (w : World) (hs : Sl w B 2 u p.rs.length (rcells .i32 p.rs)) (hB : B ≤ w.heap.size) (hl : p.rs.length ≤ 2000000) (hm : many p = false) :
    Calls Tryd.prog 33 #[.agg #[.int .i64 p.kind, .int .i32 p.sign, u, .bool p.neg], .int .i32 c] w fun e w' => e = .returned (.bool (takes p c)) ∧ Below w.heap.size w w' := by
  have hmf : ∀ (fn : Fn) (first cap : Array Value) (w : World), (Instr.makeFunc fn first cap).run Tryd.prog w = .ok (.func fn first cap) w := fun _ _ _ _ => rfl
  obtain ⟨kind, sign, rs, neg⟩ := p
  obtain ⟨a, cap, rfl, hcap⟩ := hs.form
  simp only at hs hl hcap ⊢
  have hA1 := (Below.refl w.heap.size w).alloc (Nat.le_refl _) (.cells #[.int .i64 kind, .int .i32 sign, .slice a rs.length cap, .bool neg] 35)
  have HP := Lib.hid (Own.new_at w [.int .i64 kind, .int .i32 sign, .slice a rs.length cap, .bool neg] 35 w.heap.size rfl)
  have hA2 := (Below.refl (w.alloc (.cells #[.int .i64 kind, .int .i32 sign, .slice a rs.length cap, .bool neg] 35)).heap.size _).alloc (Nat.le_refl _) (.cells #[.int .i32 c] 21)
  have HP := Lib.hid (HP.out.below hA2 (by simp))
  have HC := Lib.hid (Own.new_at (w.alloc (.cells #[.int .i64 kind, .int .i32 sign, .slice a rs.length cap, .bool neg] 35)) [.int .i32 c] 21 (w.heap.size + 1) (by simp))
  have HB := Lib.hid (hA1.trans (hA2.mono (by simp)))
  have HS := Lib.hid (hs.below (HB.out.mono hB))
  clear hA1 hA2 hs
  go_enter Tryd.func33, Tryd.ntmps33
  go_upto_region 1 with (fail)
  have hz : w.heap.size + 2 ≤ ((w.alloc (.cells #[.int .i64 kind, .int .i32 sign, .slice a rs.length cap, .bool neg] 35)).alloc (.cells #[.int .i32 c] 21)).heap.size := by simp
  generalize (w.alloc (.cells #[.int .i64 kind, .int .i32 sign, .slice a rs.length cap, .bool neg] 35)).alloc (.cells #[.int .i32 c] 21) = w1 at *
  have y0 := HP.out.1 0 _ rfl
  have y1 := HP.out.1 1 _ rfl
  have y2 := HP.out.1 2 _ rfl
  have y3 := HP.out.1 3 _ rfl
  have z0 := HC.out.1 0 _ rfl
  by_cases h1 : kind = 1
  · subst h1
    have HT : Hid (takes ⟨1, sign, rs, neg⟩ c = (c == sign)) := Lib.hid rfl
    clear y2 y3
    go_wp2_with (fail)
    go_ret
    exact ⟨by rw [HT.out]; rfl, HB.out⟩
  have t1 : (kind == 1) = false := by simpa using h1
  by_cases h2 : kind = 2
  · subst h2
    have HT : Hid (takes ⟨2, sign, rs, neg⟩ c = (c != 47)) := Lib.hid rfl
    clear y1 y2 y3
    go_wp2_with (fail)
    go_ret
    exact ⟨by rw [HT.out]; rfl, HB.out⟩
  have t2 : (kind == 2) = false := by simpa using h2
  by_cases h5 : kind = 5
  · subst h5
    have HT : Hid (takes ⟨5, sign, rs, neg⟩ c = (c != 47 && (inR rs c != neg))) := Lib.hid rfl
    have HI := Lib.hid (contains_any rs c (w.heap.size + 1) B (.slice a rs.length cap) w1 HS.out (by omega) hl z0 (by omega))
    clear y1
    go_wp2_with (fail)
    refine HI.out.mono ?_
    rintro e w2 ⟨rfl, hb⟩
    have z0 := (HC.out.below hb (by omega)).1 0 _ rfl
    have y3 := (HP.out.below hb (by omega)).1 3 _ rfl
    have HB := Lib.hid (HB.out.trans (hb.mono (by omega)))
    generalize inR rs c = g at *
    clear hb
    cases hc : (c != 47)
    all_goals
      rw [hc] at HT
      go_wp2_with (fail)
      go_ret
      exact ⟨by rw [HT.out]; rfl, HB.out⟩
  have t5 : (kind == 5) = false := by simpa using h5
  have HT : Hid (takes ⟨kind, sign, rs, neg⟩ c = false) := Lib.hid (by
    have h34 : ¬ (kind = 3 ∨ kind = 4) := by unfold many at hm; simpa using hm
    unfold takes
    simp only
    rw [if_neg h1, if_neg (by omega), if_neg (by omega), if_neg h5])
  clear h1 h2 h5 y1 y2 y3 z0
  go_wp2_with (fail)
  go_ret
  exact ⟨by rw [HT.out]; rfl, HB.out⟩
end Go.Proofs.YtlmdpmfahfgjkaaDoor
