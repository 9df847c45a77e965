/- A sign of a pattern: glob.readSign, and the page's one. -/
import Derived.Test.YtlmdpmfahfgjkaaDoorGlC
import Derived.Test.YtlmdpmfahfgjkaaDoorSls
namespace Go.Proofs.YtlmdpmfahfgjkaaDoor
set_option maxRecDepth 100000
set_option linter.unusedVariables false
set_option linter.unusedSimpArgs false
open Go.RowKit
def OneV (k : IntKind) : Option (Int × Nat) → Value
  | some (c, n) => .tuple #[.int k c, .int .i64 (n : Nat), .bool true]
  | none => .tuple #[.int k 0, .int .i64 0, .bool false]
/-- Signs in memory. -/
def SgC (k : IntKind) (w : World) (b off : Nat) (l : List Int) : Prop := ∀ (j : Nat) (c : Int), l[j]? = some c → w.cell? ⟨b, off + j, none⟩ = some (.int k c)
theorem SgC.below {k : IntKind} {w w' : World} {b off B : Nat} {l : List Int} (h : SgC k w b off l) (hb : Below B w w') (hB : b < B) : SgC k w' b off l :=
  fun j c hj => (hb.cell (p := ⟨b, off + j, none⟩) hB).trans (h j c hj)
theorem Sl.sgc {k : IntKind} {w : World} {B : Nat} {v : Value} {l : List Int} (h : Sl w B 1 v l.length (l.map (Value.int k))) (hn : 0 < l.length) : ∃ b off cap, v = .slice (some ⟨b, off, none⟩) l.length cap ∧ l.length ≤ cap ∧ b < B ∧ SgC k w b off l := by
  obtain ⟨b, off, cap, h1, h2, h3, h4⟩ := h.pos hn
  exact ⟨b, off, cap, h1, h2, h3, fun j c hj => h4 j _ (by rw [List.getElem?_map, hj]; rfl)⟩
set_option maxHeartbeats 2000000 in
theorem readSign_any (b off cap : Nat) (l : List Int) (i : Nat) (w : World) (hc : SgC .i32 w b off l) (hl : l.length ≤ 2000000) (hi : i ≤ l.length) :
    Calls Tryd.prog 31 #[.slice (some ⟨b, off, none⟩) l.length cap, .int .i64 (i : Nat)] w fun e w' => e = .returned (OneV .i32 (oneP l i)) ∧ w = w' := by
  have q1 : IntKind.i64.wrap ((i : Int) + 1) = (i : Int) + 1 := IntWalk.i64_in _ (by omega)
  have q2 : IntKind.i64.wrap ((i : Int) + 1 + 1) = (i : Int) + 2 := by rw [IntWalk.i64_in _ (by omega)]; omega
  rcases oneP_cases l i with ⟨h1, hp⟩ | ⟨c, h1, h2, h3, hp⟩ | ⟨h1, h2, h3, hp⟩ | ⟨c, h1, h2, h3, hp⟩
  · have HP := Lib.hid hp
    have d1 : decide ((i : Int) < (l.length : Int)) = false := decide_eq_false (by omega)
    have d2 : decide ((l.length : Int) ≤ (i : Int)) = true := decide_eq_true (by omega)
    clear hp hc hi
    go_enter Tryd.func31, Tryd.ntmps31
    go_wp2
    go_ret3
    exact ⟨by rw [HP.out]; rfl, rfl⟩
  · have HP := Lib.hid hp
    have k1 := hc i c h1
    have d1 : decide ((i : Int) < (l.length : Int)) = true := decide_eq_true (by omega)
    have d2 : decide ((l.length : Int) ≤ (i : Int)) = false := decide_eq_false (by omega)
    have d3 : (c == 92) = false := by simpa using h2
    clear hp hc h1 h2 hi
    go_enter Tryd.func31, Tryd.ntmps31
    go_wp2
    go_ret3
    exact ⟨by rw [HP.out]; rfl, rfl⟩
  · have HP := Lib.hid hp
    have k1 := hc i 92 h1
    have d1 : decide ((i : Int) < (l.length : Int)) = true := decide_eq_true (by omega)
    have d2 : decide ((l.length : Int) ≤ (i : Int) + 1) = true := decide_eq_true (by omega)
    clear hp hc h1 hi
    go_enter Tryd.func31, Tryd.ntmps31
    go_wp2
    go_ret3
    exact ⟨by rw [HP.out]; rfl, rfl⟩
  · have HP := Lib.hid hp
    have k1 := hc i 92 h1
    have k2 := hc (i + 1) c h3
    have d1 : decide ((i : Int) < (l.length : Int)) = true := decide_eq_true (by omega)
    have d2 : decide ((l.length : Int) ≤ (i : Int) + 1) = false := decide_eq_false (by omega)
    clear hp hc h1 h3 hi
    go_enter Tryd.func31, Tryd.ntmps31
    go_wp2
    go_ret3
    exact ⟨by rw [HP.out]; rfl, rfl⟩
set_option maxHeartbeats 2000000 in
theorem refOne_any (b off cap : Nat) (l : List Int) (i : Nat) (w : World) (hc : SgC .i64 w b off l) (hl : l.length ≤ 2000000) (hi : i ≤ l.length) :
    Calls Tryd.prog 21 #[.slice (some ⟨b, off, none⟩) l.length cap, .int .i64 (i : Nat)] w fun e w' => e = .returned (OneV .i64 (oneP l i)) ∧ w = w' := by
  have q1 : IntKind.i64.wrap ((i : Int) + 1) = (i : Int) + 1 := IntWalk.i64_in _ (by omega)
  have q2 : IntKind.i64.wrap ((i : Int) + 1 + 1) = (i : Int) + 2 := by rw [IntWalk.i64_in _ (by omega)]; omega
  rcases oneP_cases l i with ⟨h1, hp⟩ | ⟨c, h1, h2, h3, hp⟩ | ⟨h1, h2, h3, hp⟩ | ⟨c, h1, h2, h3, hp⟩
  · have HP := Lib.hid hp
    have d1 : decide ((i : Int) < (l.length : Int)) = false := decide_eq_false (by omega)
    have d2 : decide ((l.length : Int) ≤ (i : Int)) = true := decide_eq_true (by omega)
    clear hp hc hi
    go_enter Tryd.func21, Tryd.ntmps21
    go_wp2
    go_ret3
    exact ⟨by rw [HP.out]; rfl, rfl⟩
  · have HP := Lib.hid hp
    have k1 := hc i c h1
    have d1 : decide ((i : Int) < (l.length : Int)) = true := decide_eq_true (by omega)
    have d2 : decide ((l.length : Int) ≤ (i : Int)) = false := decide_eq_false (by omega)
    have d3 : (c == 92) = false := by simpa using h2
    clear hp hc h1 h2 hi
    go_enter Tryd.func21, Tryd.ntmps21
    go_wp2
    go_ret3
    exact ⟨by rw [HP.out]; rfl, rfl⟩
  · have HP := Lib.hid hp
    have k1 := hc i 92 h1
    have d1 : decide ((i : Int) < (l.length : Int)) = true := decide_eq_true (by omega)
    have d2 : decide ((l.length : Int) ≤ (i : Int) + 1) = true := decide_eq_true (by omega)
    clear hp hc h1 hi
    go_enter Tryd.func21, Tryd.ntmps21
    go_wp2
    go_ret3
    exact ⟨by rw [HP.out]; rfl, rfl⟩
  · have HP := Lib.hid hp
    have k1 := hc i 92 h1
    have k2 := hc (i + 1) c h3
    have d1 : decide ((i : Int) < (l.length : Int)) = true := decide_eq_true (by omega)
    have d2 : decide ((l.length : Int) ≤ (i : Int) + 1) = false := decide_eq_false (by omega)
    clear hp hc h1 h3 hi
    go_enter Tryd.func21, Tryd.ntmps21
    go_wp2
    go_ret3
    exact ⟨by rw [HP.out]; rfl, rfl⟩
end Go.Proofs.YtlmdpmfahfgjkaaDoor
