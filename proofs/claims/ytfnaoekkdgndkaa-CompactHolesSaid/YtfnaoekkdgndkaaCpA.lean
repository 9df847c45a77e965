/- Spans, joined spans, their bytes: plain. -/
import Derived.Test.YtfnaoekkdgndkaaSrA
namespace Go.Proofs.Ytfnaoekkdgndkaa
set_option maxRecDepth 100000
set_option linter.unusedVariables false
set_option linter.unusedSimpArgs false
/-- A span: where, how long. -/
abbrev Sp := Nat × Nat
def bts (s : Sp) : List Nat := (List.range s.2).map (s.1 + ·)
def bytes (l : List Sp) : List Nat := l.flatMap bts
theorem bytes_nil : bytes [] = [] := rfl
theorem bytes_app (l m : List Sp) : bytes (l ++ m) = bytes l ++ bytes m := by unfold bytes; simp
theorem bytes_one (s : Sp) : bytes [s] = bts s := by unfold bytes; simp
theorem bts_zero {s : Sp} (h : s.2 = 0) : bts s = [] := by unfold bts; rw [h]; rfl
theorem bts_len (s : Sp) : (bts s).length = s.2 := by unfold bts; simp
theorem mem_bts {s : Sp} {x : Nat} : x ∈ bts s ↔ s.1 ≤ x ∧ x < s.1 + s.2 := by
  unfold bts
  rw [List.mem_map]
  constructor
  · rintro ⟨k, hk, rfl⟩
    rw [List.mem_range] at hk
    omega
  · intro h
    exact ⟨x - s.1, by rw [List.mem_range]; omega, by omega⟩
theorem bts_add (a n m : Nat) : bts (a, n + m) = bts (a, n) ++ bts (a + n, m) := by
  unfold bts
  simp only [List.range_add, List.map_append, List.map_map]
  congr 1
  apply List.map_congr_left
  intro k _
  simp only [Function.comp]
  omega
/-- A span more. -/
def app (out : List Sp) (x : Sp) : List Sp :=
  if x.2 = 0 then out else match out.getLast? with
  | some y => if y.1 + y.2 = x.1 then out.dropLast ++ [(y.1, y.2 + x.2)] else out ++ [x]
  | none => out ++ [x]
theorem app_zero {out : List Sp} {x : Sp} (h : x.2 = 0) : app out x = out := by unfold app; rw [if_pos h]
theorem app_nil {x : Sp} (h : x.2 ≠ 0) : app [] x = [x] := by unfold app; rw [if_neg h]; rfl
theorem app_join {out : List Sp} {y x : Sp} (h : x.2 ≠ 0) (e : y.1 + y.2 = x.1) : app (out ++ [y]) x = out ++ [(y.1, y.2 + x.2)] := by
  unfold app; rw [if_neg h]; simp [e]
theorem app_new {out : List Sp} {y x : Sp} (h : x.2 ≠ 0) (e : y.1 + y.2 ≠ x.1) : app (out ++ [y]) x = out ++ [y] ++ [x] := by
  unfold app; rw [if_neg h]; simp [e]
theorem snoc_cases {α : Type} (l : List α) : l = [] ∨ ∃ i y, l = i ++ [y] := by
  rcases List.eq_nil_or_concat l with h | ⟨i, y, h⟩
  · exact .inl h
  · exact .inr ⟨i, y, by simpa using h⟩
theorem bytes_snoc (out : List Sp) (x : Sp) : bytes (app out x) = bytes out ++ bts x := by
  by_cases h : x.2 = 0
  · rw [app_zero h, bts_zero h, List.append_nil]
  · rcases snoc_cases out with rfl | ⟨i, y, rfl⟩
    · rw [app_nil h, bytes_one]; rfl
    · by_cases e : y.1 + y.2 = x.1
      · rw [app_join h e, bytes_app, bytes_app, bytes_one, bytes_one, bts_add, e, List.append_assoc]
      · rw [app_new h e, bytes_app, bytes_one]
/-- Spans as they are appended. -/
def joinL (l : List Sp) : List Sp := l.foldl app []
theorem joinL_nil : joinL [] = [] := rfl
theorem joinL_snoc (l : List Sp) (x : Sp) : joinL (l ++ [x]) = app (joinL l) x := by unfold joinL; simp
theorem snoc_rec {α : Type} {P : List α → Prop} (h0 : P []) (h1 : ∀ l x, P l → P (l ++ [x])) (l : List α) : P l := by
  have : ∀ n (l : List α), l.length = n → P l := by
    intro n
    induction n with
    | zero => intro l hl; rw [List.eq_nil_of_length_eq_zero hl]; exact h0
    | succ n ih =>
      intro l hl
      rcases snoc_cases l with rfl | ⟨i, y, rfl⟩
      · simp at hl
      · exact h1 _ _ (ih i (by simp at hl; omega))
  exact this _ l rfl
theorem bytes_join (l : List Sp) : bytes (joinL l) = bytes l := by
  induction l using snoc_rec with
  | h0 => rfl
  | h1 l x ih => rw [joinL_snoc, bytes_snoc, ih, bytes_app, bytes_one]
theorem pos_app {out : List Sp} {x : Sp} (h : ∀ s ∈ out, s.2 ≠ 0) : ∀ s ∈ app out x, s.2 ≠ 0 := by
  by_cases hx : x.2 = 0
  · rw [app_zero hx]; exact h
  · rcases snoc_cases out with rfl | ⟨i, y, rfl⟩
    · rw [app_nil hx]; intro s hs; rw [List.mem_singleton.1 hs]; exact hx
    · by_cases e : y.1 + y.2 = x.1
      · rw [app_join hx e]
        intro s hs
        rcases List.mem_append.1 hs with hs | hs
        · exact h s (List.mem_append_left _ hs)
        · rw [List.mem_singleton.1 hs]; show y.2 + x.2 ≠ 0; omega
      · rw [app_new hx e]
        intro s hs
        rcases List.mem_append.1 hs with hs | hs
        · exact h s hs
        · rw [List.mem_singleton.1 hs]; exact hx
theorem pos_join (l : List Sp) : ∀ s ∈ joinL l, s.2 ≠ 0 := by
  induction l using snoc_rec with
  | h0 => intro s hs; cases hs
  | h1 l x ih => rw [joinL_snoc]; exact pos_app ih
theorem app_len (out : List Sp) (x : Sp) : (app out x).length ≤ out.length + 1 := by
  by_cases hx : x.2 = 0
  · rw [app_zero hx]; omega
  · rcases snoc_cases out with rfl | ⟨i, y, rfl⟩
    · rw [app_nil hx]; simp
    · by_cases e : y.1 + y.2 = x.1
      · rw [app_join hx e]; simp
      · rw [app_new hx e]; simp
theorem join_len (l : List Sp) : (joinL l).length ≤ l.length := by
  induction l using snoc_rec with
  | h0 => exact Nat.le_refl _
  | h1 l x ih => rw [joinL_snoc]; have := app_len (joinL l) x; simp; omega
theorem bytes_len_ge (l : List Sp) (h : ∀ s ∈ l, s.2 ≠ 0) : l.length ≤ (bytes l).length := by
  induction l with
  | nil => exact Nat.zero_le _
  | cons s t ih =>
    have h1 := ih fun q hq => h q (List.mem_cons_of_mem _ hq)
    have h2 := h s List.mem_cons_self
    have h3 : (bytes (s :: t)).length = (bts s).length + (bytes t).length := by unfold bytes; simp
    rw [h3, bts_len, List.length_cons]
    omega
end Go.Proofs.Ytfnaoekkdgndkaa
