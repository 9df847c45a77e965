/- A part of a pattern: glob.readPart; patterns in memory. -/
import Derived.Test.YtlmdpmfahfgjkaaDoorGlE
namespace Go.Proofs.YtlmdpmfahfgjkaaDoor
set_option maxRecDepth 100000
set_option linter.unusedVariables false
set_option linter.unusedSimpArgs false
open Go.RowKit
/-- The cells of a pattern's parts; vs are their slices of ranges. -/
def pcells (k : IntKind) : List Value → List PartV → List Value
  | v :: vs, p :: ps => [.int .i64 p.kind, .int k p.sign, v, .bool p.neg] ++ pcells k vs ps
  | _, _ => []
theorem pcells_length (k : IntKind) : ∀ (vs : List Value) (ps : List PartV), vs.length = ps.length → (pcells k vs ps).length = ps.length * 4
  | [], [], _ => rfl
  | v :: vs, p :: ps, h => by
    have := pcells_length k vs ps (by simpa using h)
    unfold pcells
    simp only [List.length_append, List.length_cons, List.length_nil, this]
    omega
theorem pcells_snoc (k : IntKind) : ∀ (vs : List Value) (ps : List PartV) (v : Value) (p : PartV), vs.length = ps.length → pcells k (vs ++ [v]) (ps ++ [p]) = pcells k vs ps ++ [.int .i64 p.kind, .int k p.sign, v, .bool p.neg]
  | [], [], v, p, _ => rfl
  | u :: vs, q :: ps, v, p, h => by
    have := pcells_snoc k vs ps v p (by simpa using h)
    show [_, _, _, _] ++ pcells k (vs ++ [v]) (ps ++ [p]) = _
    rw [this]
    simp [pcells]
theorem pcells_get (k : IntKind) : ∀ (vs : List Value) (ps : List PartV) (j : Nat) (p : PartV), vs.length = ps.length → ps[j]? = some p → ∃ v, vs[j]? = some v ∧ (pcells k vs ps)[j * 4]? = some (.int .i64 p.kind) ∧ (pcells k vs ps)[j * 4 + 1]? = some (.int k p.sign) ∧ (pcells k vs ps)[j * 4 + 2]? = some v ∧ (pcells k vs ps)[j * 4 + 3]? = some (.bool p.neg)
  | [], [], _, _, _, hp => by simp at hp
  | [], _ :: _, _, _, h, _ => by simp at h
  | _ :: _, [], _, _, h, _ => by simp at h
  | v :: vs, q :: ps, 0, p, _, hp => by
    simp only [List.getElem?_cons_zero, Option.some.injEq] at hp
    subst hp
    exact ⟨v, rfl, rfl, rfl, rfl, rfl⟩
  | v :: vs, q :: ps, j + 1, p, h, hp => by
    obtain ⟨u, h1, h2, h3, h4, h5⟩ := pcells_get k vs ps j p (by simpa using h) (by simpa using hp)
    refine ⟨u, by simpa using h1, ?_, ?_, ?_, ?_⟩
    · rw [show (j + 1) * 4 = j * 4 + 4 by omega]; exact h2
    · rw [show (j + 1) * 4 + 1 = j * 4 + 1 + 4 by omega]; exact h3
    · rw [show (j + 1) * 4 + 2 = j * 4 + 2 + 4 by omega]; exact h4
    · rw [show (j + 1) * 4 + 3 = j * 4 + 3 + 4 by omega]; exact h5
/-- A pattern in memory. -/
def Pat (k : IntKind) (w : World) (B : Nat) (v : Value) (ps : List PartV) : Prop :=
  ∃ vs : List Value, vs.length = ps.length ∧ (∀ (j : Nat) (u : Value) (p : PartV), vs[j]? = some u → ps[j]? = some p → Sl w B 2 u p.rs.length (rcells k p.rs)) ∧ Sl w B 4 v ps.length (pcells k vs ps)
theorem Pat.below {k : IntKind} {w w' : World} {B : Nat} {v : Value} {ps : List PartV} (h : Pat k w B v ps) (hb : Below B w w') : Pat k w' B v ps := by
  obtain ⟨vs, h1, h2, h3⟩ := h
  exact ⟨vs, h1, fun j u p hu hp => (h2 j u p hu hp).below hb, h3.below hb⟩
theorem Pat.mono {k : IntKind} {w : World} {B B' : Nat} {v : Value} {ps : List PartV} (h : Pat k w B v ps) (hb : B ≤ B') : Pat k w B' v ps := by
  obtain ⟨vs, h1, h2, h3⟩ := h
  exact ⟨vs, h1, fun j u p hu hp => (h2 j u p hu hp).mono hb, h3.mono hb⟩
/-- A pattern of the call's own: te, tr: the types of its parts and of their ranges. -/
def PatO (k : IntKind) (te tr base : Nat) (w : World) (v : Value) (ps : List PartV) : Prop :=
  ∃ vs : List Value, vs.length = ps.length ∧ (∀ (j : Nat) (u : Value) (p : PartV), vs[j]? = some u → ps[j]? = some p → Row 0 tr 2 w u p.rs.length (rcells k p.rs)) ∧ Row base te 4 w v ps.length (pcells k vs ps)
theorem PatO.below {k : IntKind} {te tr base : Nat} {w w' : World} {v : Value} {ps : List PartV} (h : PatO k te tr base w v ps) (hb : Below w.heap.size w w') : PatO k te tr base w' v ps := by
  obtain ⟨vs, h1, h2, h3⟩ := h
  exact ⟨vs, h1, fun j u p hu hp => (h2 j u p hu hp).below hb, h3.below hb⟩
theorem PatO.pat {k : IntKind} {te tr base : Nat} {w : World} {v : Value} {ps : List PartV} (h : PatO k te tr base w v ps) : Pat k w w.heap.size v ps := by
  obtain ⟨vs, h1, h2, h3⟩ := h
  exact ⟨vs, h1, fun j u p hu hp => (h2 j u p hu hp).sl, h3.sl⟩
theorem PatO.form {k : IntKind} {te tr base : Nat} {w : World} {v : Value} {ps : List PartV} (h : PatO k te tr base w v ps) : ∃ a cap, v = .slice a ps.length cap ∧ ps.length ≤ cap := by
  obtain ⟨vs, _, _, h3⟩ := h
  exact h3.form
theorem four_one (a b : Int) (k : IntKind) (ao : Option Addr) (n c : Nat) (g : Bool) : ∀ u ∈ [Value.int .i64 a, .int k b, .slice ao n c, .bool g], u.oneCell' = true := by
  intro u hu
  simp only [List.mem_cons, List.not_mem_nil, or_false] at hu
  rcases hu with rfl | rfl | rfl | rfl <;> rfl
theorem info_part_p : (Tryd.prog.info? 35).map (fun i => (i.zero, i.size, i.bytes)) = some (some (.agg #[.int .i64 0, .int .i32 0, .slice none 0 0, .bool false]), 4, 48) := by kernel_rfl
theorem info_part_r : (Tryd.prog.info? 56).map (fun i => (i.zero, i.size, i.bytes)) = some (some (.agg #[.int .i64 0, .int .i64 0, .slice none 0 0, .bool false]), 4, 48) := by kernel_rfl
/-- What the reading of a part does. -/
def Part_p (l : List Int) (i : Nat) (w : World) (e : Ending) (w' : World) : Prop :=
  match partP l i with
  | none => (∃ (k0 s0 : Int) (a : Option Addr) (n c : Nat) (g : Bool), e = .returned (.tuple #[.agg #[.int .i64 k0, .int .i32 s0, .slice a n c, .bool g], .int .i64 0, .bool false])) ∧ Below w.heap.size w w'
  | some (p, n) => (∃ v, e = .returned (.tuple #[.agg #[.int .i64 p.kind, .int .i32 p.sign, v, .bool p.neg], .int .i64 (n : Nat), .bool true]) ∧ Row w.heap.size 62 2 w' v p.rs.length (rcells .i32 p.rs)) ∧ Below w.heap.size w w'
theorem Part_p_none {l : List Int} {i : Nat} {w : World} {e : Ending} {w' : World} (h : partP l i = none) {k0 s0 : Int} {a : Option Addr} {n c : Nat} {g : Bool} (he : e = .returned (.tuple #[.agg #[.int .i64 k0, .int .i32 s0, .slice a n c, .bool g], .int .i64 0, .bool false])) (hb : Below w.heap.size w w') : Part_p l i w e w' := by
  unfold Part_p; rw [h]; exact ⟨⟨_, _, _, _, _, _, he⟩, hb⟩
theorem Part_p_some {l : List Int} {i n : Nat} {w : World} {e : Ending} {w' : World} {p : PartV} (h : partP l i = some (p, n)) {v : Value} (he : e = .returned (.tuple #[.agg #[.int .i64 p.kind, .int .i32 p.sign, v, .bool p.neg], .int .i64 (n : Nat), .bool true])) (hr : Row w.heap.size 62 2 w' v p.rs.length (rcells .i32 p.rs)) (hb : Below w.heap.size w w') : Part_p l i w e w' := by
  unfold Part_p; rw [h]; exact ⟨⟨v, he, hr⟩, hb⟩
theorem Set_p_elim {l : List Int} {i : Nat} {w : World} {e : Ending} {w' : World} (h : Set_p l i w e w') : (setS l i = none ∧ (∃ (k0 s0 : Int) (a : Option Addr) (n c : Nat) (g : Bool), e = .returned (.tuple #[.agg #[.int .i64 k0, .int .i32 s0, .slice a n c, .bool g], .int .i64 0, .bool false])) ∧ Below w.heap.size w w') ∨
    (∃ p n, setS l i = some (p, n) ∧ (∃ v, e = .returned (.tuple #[.agg #[.int .i64 5, .int .i32 0, v, .bool p.neg], .int .i64 (n : Nat), .bool true]) ∧ Row w.heap.size 62 2 w' v p.rs.length (rcells .i32 p.rs)) ∧ Below w.heap.size w w') := by
  unfold Set_p at h
  cases hs : setS l i with
  | none => rw [hs] at h; exact .inl ⟨rfl, h⟩
  | some x => obtain ⟨p, n⟩ := x; rw [hs] at h; exact .inr ⟨p, n, rfl, h⟩
theorem setS_kind {l : List Int} {i n : Nat} {p : PartV} (h : setS l i = some (p, n)) : p.kind = 5 ∧ p.sign = 0 := by
  unfold setS at h
  rw [Option.map_eq_some_iff] at h
  obtain ⟨y, _, h2⟩ := h
  injection h2 with h2 _
  subst h2
  exact ⟨rfl, rfl⟩
set_option maxHeartbeats 4000000 in
theorem readPart_any (b off cap : Nat) (l : List Int) (i : Nat) (w : World) (hc : SgC .i32 w b off l) (hb : b < w.heap.size) (hl : l.length ≤ 2000000) (hi : i < l.length) :
    Calls Tryd.prog 19 #[.slice (some ⟨b, off, none⟩) l.length cap, .int .i64 (i : Nat)] w (Part_p l i w) := by
  have HP := Lib.hid (Own.new_at w [.int .i64 0, .int .i32 0, .slice none 0 0, .bool false] 35 w.heap.size rfl)
  have HBx := Lib.hid (fun cs : Array Value => (Below.refl w.heap.size w).alloc (Nat.le_refl _) (.cells cs 35))
  have HB := Lib.hid ((Below.refl w.heap.size w).alloc (Nat.le_refl _) (.cells #[.int .i64 0, .int .i32 0, .slice none 0 0, .bool false] 35))
  have HC := Lib.hid (fun (W : World) (h : Below w.heap.size w W) => hc.below h hb)
  have q1 : IntKind.i64.wrap ((i : Int) + 1) = (i : Int) + 1 := IntWalk.i64_in _ (by omega)
  have q2 : IntKind.i64.wrap ((i : Int) + 2) = (i : Int) + 2 := IntWalk.i64_in _ (by omega)
  obtain ⟨c, hci⟩ : ∃ c, l[i]? = some c := ⟨_, List.getElem?_eq_getElem hi⟩
  have k1 := HC.out _ HB.out i c hci
  by_cases c63 : c = 63
  · subst c63
    have HB := Lib.hid (HBx.out #[.int .i64 2, .int .i32 0, .slice none 0 0, .bool false])
    have HPP := Lib.hid (show partP l i = some (⟨2, 0, [], false⟩, i + 1) from by unfold partP; rw [if_pos hci])
    clear hc
    go_enter Tryd.func19, Tryd.ntmps19
    go_wp2
    exact bodyPost_ret (v := .tuple #[.agg #[.int .i64 2, .int .i32 0, .slice none 0 0, .bool false], .int .i64 ((i : Int) + 1), .bool true]) (by simp [results, Tryd.results19, go_sem] <;> rfl) rfl (Part_p_some HPP.out (by rfl) Row.nil HB.out)
  have t63 : (c == 63) = false := by simpa using c63
  by_cases c42 : c = 42
  · subst c42
    by_cases h2 : l[i + 1]? = some 42
    · have hlt : i + 1 < l.length := (List.getElem?_eq_some_iff.1 h2).1
      have d1 : decide ((i : Int) + 1 < (l.length : Int)) = true := decide_eq_true (by omega)
      have k2 := HC.out _ HB.out (i + 1) 42 h2
      have HB := Lib.hid (HBx.out #[.int .i64 4, .int .i32 0, .slice none 0 0, .bool false])
      have HPP := Lib.hid (show partP l i = some (⟨4, 0, [], false⟩, i + 2) from by unfold partP; rw [if_neg (by rw [hci]; simp), if_pos hci, if_pos h2])
      clear hc
      go_enter Tryd.func19, Tryd.ntmps19
      go_wp2
      exact bodyPost_ret (v := .tuple #[.agg #[.int .i64 4, .int .i32 0, .slice none 0 0, .bool false], .int .i64 ((i : Int) + 2), .bool true]) (by simp [results, Tryd.results19, go_sem] <;> rfl) rfl (Part_p_some HPP.out (by rfl) Row.nil HB.out)
    · have HPP := Lib.hid (show partP l i = some (⟨3, 0, [], false⟩, i + 1) from by unfold partP; rw [if_neg (by rw [hci]; simp), if_pos hci, if_neg h2])
      have hdf : decide ((i : Int) + 1 < (l.length : Int)) = false ∨ (decide ((i : Int) + 1 < (l.length : Int)) = true ∧ i + 1 < l.length ∧ ∃ c, (w.alloc (.cells #[.int .i64 0, .int .i32 0, .slice none 0 0, .bool false] 35)).cell? ⟨b, off + (i + 1), none⟩ = some (.int .i32 c) ∧ (c == 42) = false) := by
        by_cases h3 : i + 1 < l.length
        · right
          refine ⟨decide_eq_true (by omega), h3, l[i + 1], HC.out _ HB.out (i + 1) _ (List.getElem?_eq_getElem h3), ?_⟩
          rw [List.getElem?_eq_getElem h3] at h2
          simpa using h2
        · left; exact decide_eq_false (by omega)
      have HB := Lib.hid (HBx.out #[.int .i64 3, .int .i32 0, .slice none 0 0, .bool false])
      clear hc h2
      rcases hdf with d1 | ⟨d1, hlt, c2, k2, d2⟩
      all_goals
        go_enter Tryd.func19, Tryd.ntmps19
        go_wp2
        exact bodyPost_ret (v := .tuple #[.agg #[.int .i64 3, .int .i32 0, .slice none 0 0, .bool false], .int .i64 ((i : Int) + 1), .bool true]) (by simp [results, Tryd.results19, go_sem] <;> rfl) rfl (Part_p_some HPP.out (by rfl) Row.nil HB.out)
  have t42 : (c == 42) = false := by simpa using c42
  by_cases c91 : c = 91
  · subst c91
    have hp : partP l i = setS l (i + 1) := by unfold partP; rw [if_neg (by rw [hci]; simp), if_neg (by rw [hci]; simp), if_pos hci]
    have HPE := Lib.hid hp
    have HS := Lib.hid (fun (W : World) (hB : Below w.heap.size w W) => readSet_any b off cap l (i + 1) W (HC.out W hB) (Nat.lt_of_lt_of_le hb hB.size) hl (by omega))
    have q1c : ((i + 1 : Nat) : Int) = (i : Int) + 1 := by omega
    rw [q1c] at HS
    clear hc hp q1c
    go_enter Tryd.func19, Tryd.ntmps19
    go_wp2_with (fail)
    refine (HS.out _ HB.out).mono ?_
    rintro e w1 hq
    rcases Set_p_elim hq with ⟨hs, ⟨k0, s0, a, n, cc, g, rfl⟩, hb1⟩ | ⟨p, n, hs, ⟨v, rfl, hr⟩, hb1⟩
    · have HN : Hid (partP l i = none) := Lib.hid (by rw [HPE.out, hs])
      have HP := Lib.hid (HP.out.below hb1 (by simp))
      have HB := Lib.hid (HB.out.trans (hb1.mono (by simp)))
      clear hq hs hb1 k1
      go_wp2_with (with_reducible refine stop_store ?_)
      refine store_own [.int .i64 k0, .int .i32 s0, .slice a n cc, .bool g] HP.out rfl rfl rfl (by kernel_rfl) (by kernel_rfl) ?_
      intro w9 hO9 hg9 hz9
      have HP := Lib.hid hO9
      have HB := Lib.hid (HB.out.trans (gr_below hg9 w.heap.size HB.out.size (fun i h => by injection h with h; omega)))
      clear hO9 hg9 hz9
      have z0 := HP.out.1 0 _ rfl
      have z1 := HP.out.1 1 _ rfl
      have z2 := HP.out.1 2 _ rfl
      have z3 := HP.out.1 3 _ rfl
      go_wp2_with (fail)
      refine bodyPost_ret (v := .tuple #[.agg #[.int .i64 k0, .int .i32 s0, .slice a n cc, .bool g], .int .i64 0, .bool false]) (by simp [results, Tryd.results19, go_sem, z0, z1, z2, z3] <;> rfl) rfl (Part_p_none HN.out rfl HB.out)

    · have HY : Hid (partP l i = some (p, n)) := Lib.hid (by rw [HPE.out, hs])
      obtain ⟨e5, e0⟩ := setS_kind hs
      have HP := Lib.hid (HP.out.below hb1 (by simp))
      have HB := Lib.hid (HB.out.trans (hb1.mono (by simp)))
      have HR := Lib.hid hr
      have hzz : w.heap.size < (w.alloc (.cells #[.int .i64 0, .int .i32 0, .slice none 0 0, .bool false] 35)).heap.size := by simp
      obtain ⟨av, cv, rfl, hcv⟩ := Row.form hr
      have HE5 := Lib.hid (And.intro e5 e0)
      clear hq hs hb1 k1 hr e5 e0
      go_wp2_with (with_reducible refine stop_store ?_)
      refine store_own [.int .i64 5, .int .i32 0, .slice av p.rs.length cv, .bool p.neg] HP.out rfl rfl rfl (by kernel_rfl) (by kernel_rfl) ?_
      intro w9 hO9 hg9 hz9
      have HP := Lib.hid hO9
      have HB := Lib.hid (HB.out.trans (gr_below hg9 w.heap.size HB.out.size (fun i h => by injection h with h; omega)))
      have HR := Lib.hid (HR.out.kept9 hg9 (by omega))
      clear hO9 hg9 hz9
      have z0 := HP.out.1 0 _ rfl
      have z1 := HP.out.1 1 _ rfl
      have z2 := HP.out.1 2 _ rfl
      have z3 := HP.out.1 3 _ rfl
      go_wp2_with (fail)
      refine bodyPost_ret (v := .tuple #[.agg #[.int .i64 5, .int .i32 0, .slice av p.rs.length cv, .bool p.neg], .int .i64 (n : Nat), .bool true]) (by simp [results, Tryd.results19, go_sem, z0, z1, z2, z3] <;> rfl) rfl (Part_p_some HY.out (by rw [HE5.out.1, HE5.out.2]) (HR.out.mono (by simp)) HB.out)

  have t91 : (c == 91) = false := by simpa using c91
  have hp : partP l i = (oneP l i).map fun x => (⟨1, x.1, [], false⟩, x.2) := by unfold partP; rw [if_neg (by rw [hci]; simpa using c63), if_neg (by rw [hci]; simpa using c42), if_neg (by rw [hci]; simpa using c91)]
  cases ho : oneP l i with
  | none =>
    rw [ho] at hp
    have HN := Lib.hid hp
    have HS := Lib.hid (fun (W : World) (hB : Below w.heap.size w W) => readSign_no b off cap l i W (HC.out W hB) hl (by omega) ho)
    have HB1 := Lib.hid (HBx.out #[.int .i64 1, .int .i32 0, .slice none 0 0, .bool false])
    clear hc hp ho
    go_enter Tryd.func19, Tryd.ntmps19
    go_wp2_with (fail)
    refine (HS.out _ HB.out).mono ?_
    rintro e w' ⟨rfl, hw⟩
    subst w'
    go_wp2
    exact bodyPost_ret (v := .tuple #[.agg #[.int .i64 1, .int .i32 0, .slice none 0 0, .bool false], .int .i64 0, .bool false]) (by simp [results, Tryd.results19, go_sem] <;> rfl) rfl (Part_p_none HN.out (by rfl) HB1.out)
  | some y =>
    obtain ⟨c1, n1⟩ := y
    rw [ho] at hp
    have HY : Hid (partP l i = some (⟨1, c1, [], false⟩, n1)) := Lib.hid hp
    have HS := Lib.hid (fun (W : World) (hB : Below w.heap.size w W) => readSign_yes b off cap l i W (HC.out W hB) hl (by omega) ho)
    have HB1 := Lib.hid (HBx.out #[.int .i64 1, .int .i32 c1, .slice none 0 0, .bool false])
    clear hc hp ho
    go_enter Tryd.func19, Tryd.ntmps19
    go_wp2_with (fail)
    refine (HS.out _ HB.out).mono ?_
    rintro e w' ⟨rfl, hw⟩
    subst w'
    go_wp2
    exact bodyPost_ret (v := .tuple #[.agg #[.int .i64 1, .int .i32 c1, .slice none 0 0, .bool false], .int .i64 (n1 : Nat), .bool true]) (by simp [results, Tryd.results19, go_sem] <;> rfl) rfl (Part_p_some HY.out (by rfl) Row.nil HB1.out)
end Go.Proofs.YtlmdpmfahfgjkaaDoor
