/- Patterns: how large what is parsed is. -/
import Derived.Test.YtlmdpmfahfgjkaaDoorGlB
namespace Go.Proofs.YtlmdpmfahfgjkaaDoor
set_option maxRecDepth 100000
set_option linter.unusedVariables false
set_option linter.unusedSimpArgs false
def Bd (x : Int) : Prop := 0 ≤ x ∧ x ≤ 1114111
/-- A part's numbers. -/
def PB (n : Nat) (p : PartV) : Prop := p.rs.length ≤ n ∧ Bd p.sign ∧ ∀ r ∈ p.rs, Bd r.1 ∧ Bd r.2
theorem bd_at {l : List Int} (hl : ∀ x ∈ l, Bd x) {i : Nat} {c : Int} (h : l[i]? = some c) : Bd c := hl c (List.mem_of_getElem? h)
theorem oneP_bd {l : List Int} (hl : ∀ x ∈ l, Bd x) {i : Nat} {c : Int} {k : Nat} (h : oneP l i = some (c, k)) : Bd c := by
  unfold oneP at h
  split at h
  all_goals
    rw [Option.map_eq_some_iff] at h
    obtain ⟨x, h1, h2⟩ := h
    injection h2 with h2 _
    subst h2
    exact bd_at hl h1
theorem rangeP_bd {l : List Int} (hl : ∀ x ∈ l, Bd x) {i : Nat} {r : Int × Int} {k : Nat} (h : rangeP l i = some (r, k)) : Bd r.1 ∧ Bd r.2 := by
  unfold rangeP at h
  cases h1 : oneP l i with
  | none => rw [h1] at h; cases h
  | some x =>
    obtain ⟨c, k1⟩ := x
    have b1 := oneP_bd hl h1
    rw [h1] at h
    simp only at h
    split at h
    · cases h2 : oneP l (k1 + 1) with
      | none => rw [h2] at h; cases h
      | some y =>
        obtain ⟨c2, k2⟩ := y
        have b2 := oneP_bd hl h2
        rw [h2] at h
        simp only at h
        split at h
        · cases h
        · injection h with h
          injection h with h _
          subst h
          exact ⟨b1, b2⟩
    · injection h with h
      injection h with h _
      subst h
      exact ⟨b1, b1⟩
theorem setP_bd {l : List Int} (hl : ∀ x ∈ l, Bd x) : ∀ (f i : Nat) (acc rs : List (Int × Int)) (k : Nat), (∀ r ∈ acc, Bd r.1 ∧ Bd r.2) → setP f l i acc = some (rs, k) → ∀ r ∈ rs, Bd r.1 ∧ Bd r.2
  | 0, _, _, _, _, _, h => by cases h
  | f + 1, i, acc, rs, k, ha, h => by
    rw [setP] at h
    split at h
    · injection h with h
      injection h with h _
      subst h
      exact ha
    · cases h1 : rangeP l i with
      | none => rw [h1] at h; cases h
      | some x =>
        obtain ⟨r, k1⟩ := x
        rw [h1] at h
        refine setP_bd hl f k1 (acc ++ [r]) rs k (fun q hq => ?_) h
        rw [List.mem_append, List.mem_singleton] at hq
        rcases hq with hq | rfl
        · exact ha q hq
        · exact rangeP_bd hl h1
theorem bd0 : Bd 0 := by unfold Bd; omega
theorem partP_bd {l : List Int} (hl : ∀ x ∈ l, Bd x) {i k : Nat} {p : PartV} (h : partP l i = some (p, k)) : PB l.length p := by
  have hlt := partP_lt h
  refine ⟨by omega, ?_⟩
  unfold partP at h
  split at h
  · injection h with h
    injection h with h _
    subst h
    exact ⟨bd0, fun r hr => by simp at hr⟩
  · split at h
    · split at h
      all_goals
        injection h with h
        injection h with h _
        subst h
        exact ⟨bd0, fun r hr => by simp at hr⟩
    · split at h
      · unfold setS at h
        rw [Option.map_eq_some_iff] at h
        obtain ⟨x, h1, h2⟩ := h
        obtain ⟨rs, k1⟩ := x
        injection h2 with h2 _
        subst h2
        exact ⟨bd0, setP_bd hl _ _ _ _ _ (fun r hr => by simp at hr) h1⟩
      · rw [Option.map_eq_some_iff] at h
        obtain ⟨x, h1, h2⟩ := h
        obtain ⟨c, k1⟩ := x
        injection h2 with h2 _
        subst h2
        exact ⟨oneP_bd hl h1, fun r hr => by simp at hr⟩
theorem parseP_bd {l : List Int} (hl : ∀ x ∈ l, Bd x) : ∀ (f i : Nat) (out ps : List PartV), (∀ p ∈ out, PB l.length p) → out.length ≤ 256 → parseP f l i out = some ps → ps.length ≤ 256 ∧ ∀ p ∈ ps, PB l.length p
  | 0, _, _, _, _, _, h => by cases h
  | f + 1, i, out, ps, ha, hn, h => by
    rw [parseP] at h
    split at h
    · injection h with h
      subst h
      exact ⟨hn, ha⟩
    · cases h1 : partP l i with
      | none => rw [h1] at h; cases h
      | some x =>
        obtain ⟨p, k1⟩ := x
        rw [h1] at h
        simp only at h
        split at h
        · cases h
        · refine parseP_bd hl f k1 (out ++ [p]) ps (fun q hq => ?_) (by simp only [List.length_append, List.length_cons, List.length_nil]; omega) h
          rw [List.mem_append, List.mem_singleton] at hq
          rcases hq with hq | rfl
          · exact ha q hq
          · exact partP_bd hl h1
theorem parse_bd {l : List Int} (hl : ∀ x ∈ l, Bd x) {ps : List PartV} (h : parse l = some ps) : ps.length ≤ 256 ∧ ∀ p ∈ ps, PB l.length p :=
  parseP_bd hl _ 0 [] ps (fun p hp => by simp at hp) (by simp) h
end Go.Proofs.YtlmdpmfahfgjkaaDoor
