/- How a pattern is read: plain. -/
import Derived.Test.YtlmdpmfahfgjkaaDoorGlA
namespace Go.Proofs.YtlmdpmfahfgjkaaDoor
set_option maxRecDepth 100000
set_option linter.unusedVariables false
set_option linter.unusedSimpArgs false
/-- A sign, or that behind a backslash, and the place behind. -/
def oneP (l : List Int) (i : Nat) : Option (Int × Nat) :=
  if l[i]? = some 92 then l[i + 1]?.map fun c => (c, i + 2) else l[i]?.map fun c => (c, i + 1)
theorem oneP_lt {l : List Int} {i : Nat} {c : Int} {k : Nat} (h : oneP l i = some (c, k)) : i < k ∧ k ≤ l.length := by
  unfold oneP at h
  split at h
  · rw [Option.map_eq_some_iff] at h
    obtain ⟨x, h1, h2⟩ := h
    have := (List.getElem?_eq_some_iff.1 h1).1
    injection h2 with _ h2
    omega
  · rw [Option.map_eq_some_iff] at h
    obtain ⟨x, h1, h2⟩ := h
    have := (List.getElem?_eq_some_iff.1 h1).1
    injection h2 with _ h2
    omega
theorem oneP_cases (l : List Int) (i : Nat) : (l.length ≤ i ∧ oneP l i = none) ∨ (∃ c, l[i]? = some c ∧ c ≠ 92 ∧ i < l.length ∧ oneP l i = some (c, i + 1)) ∨
    (l[i]? = some 92 ∧ i < l.length ∧ l.length ≤ i + 1 ∧ oneP l i = none) ∨ (∃ c, l[i]? = some 92 ∧ i + 1 < l.length ∧ l[i + 1]? = some c ∧ oneP l i = some (c, i + 2)) := by
  unfold oneP
  by_cases h : i < l.length
  · by_cases h92 : l[i] = 92
    · by_cases h1 : i + 1 < l.length
      · right; right; right
        exact ⟨l[i + 1], by rw [List.getElem?_eq_getElem h, h92], h1, List.getElem?_eq_getElem h1, by rw [if_pos (by rw [List.getElem?_eq_getElem h, h92]), List.getElem?_eq_getElem h1]; rfl⟩
      · right; right; left
        exact ⟨by rw [List.getElem?_eq_getElem h, h92], h, by omega, by rw [if_pos (by rw [List.getElem?_eq_getElem h, h92]), List.getElem?_eq_none (by omega)]; rfl⟩
    · right; left
      exact ⟨l[i], List.getElem?_eq_getElem h, h92, h, by rw [if_neg (by rw [List.getElem?_eq_getElem h]; simpa using h92), List.getElem?_eq_getElem h]; rfl⟩
  · left
    exact ⟨by omega, by rw [if_neg (by rw [List.getElem?_eq_none (by omega)]; simp), List.getElem?_eq_none (by omega)]; rfl⟩
/-- Is there a - and then something else than ]? -/
def dash (l : List Int) (i : Nat) : Bool := l[i]? == some 45 && (l[i + 1]?.any (· != 93))
theorem dash_cases (l : List Int) (k : Nat) : (dash l k = true ∧ ∃ c, k + 1 < l.length ∧ l[k]? = some 45 ∧ l[k + 1]? = some c ∧ c ≠ 93) ∨
    (dash l k = false ∧ (l.length ≤ k + 1 ∨ (k + 1 < l.length ∧ ∃ c, l[k]? = some c ∧ c ≠ 45) ∨ (k + 1 < l.length ∧ l[k]? = some 45 ∧ l[k + 1]? = some 93))) := by
  unfold dash
  by_cases h : k + 1 < l.length
  · have e1 : l[k]? = some l[k] := List.getElem?_eq_getElem (by omega)
    have e2 : l[k + 1]? = some l[k + 1] := List.getElem?_eq_getElem h
    rw [e1, e2]
    by_cases a : l[k] = 45
    · by_cases b : l[k + 1] = 93
      · right; simp [a, b]; omega
      · left; simp [a, b]; omega
    · right
      refine ⟨by simp [a], .inr (.inl ⟨h, _, rfl, a⟩)⟩
  · right
    refine ⟨?_, .inl (by omega)⟩
    rw [List.getElem?_eq_none (show l.length ≤ k + 1 by omega)]
    simp
/-- A range. -/
def rangeP (l : List Int) (i : Nat) : Option ((Int × Int) × Nat) :=
  match oneP l i with
  | none => none
  | some (low, k) =>
    if dash l k then
      match oneP l (k + 1) with
      | none => none
      | some (high, k') => if high < low then none else some ((low, high), k')
    else some ((low, low), k)
theorem rangeP_none {l : List Int} {i : Nat} (h : oneP l i = none) : rangeP l i = none := by unfold rangeP; rw [h]
theorem rangeP_one {l : List Int} {i k : Nat} {c : Int} (h : oneP l i = some (c, k)) (hd : dash l k = false) : rangeP l i = some ((c, c), k) := by
  unfold rangeP; rw [h]; simp [hd]
theorem rangeP_dash_none {l : List Int} {i k : Nat} {c : Int} (h : oneP l i = some (c, k)) (hd : dash l k = true) (h2 : oneP l (k + 1) = none) : rangeP l i = none := by
  unfold rangeP; rw [h]; simp [hd, h2]
theorem rangeP_dash {l : List Int} {i k k' : Nat} {c c' : Int} (h : oneP l i = some (c, k)) (hd : dash l k = true) (h2 : oneP l (k + 1) = some (c', k')) : rangeP l i = if c' < c then none else some ((c, c'), k') := by
  unfold rangeP; rw [h]; simp [hd, h2]
theorem rangeP_lt {l : List Int} {i : Nat} {r : Int × Int} {k : Nat} (h : rangeP l i = some (r, k)) : i < k ∧ k ≤ l.length := by
  unfold rangeP at h
  cases h1 : oneP l i with
  | none => rw [h1] at h; cases h
  | some x =>
    obtain ⟨low, k1⟩ := x
    have g1 := oneP_lt h1
    rw [h1] at h
    simp only at h
    split at h
    · cases h2 : oneP l (k1 + 1) with
      | none => rw [h2] at h; cases h
      | some y =>
        obtain ⟨high, k2⟩ := y
        have g2 := oneP_lt h2
        rw [h2] at h
        simp only at h
        split at h
        · cases h
        · injection h with h; injection h with _ h; omega
    · injection h with h; injection h with _ h; omega
def setP : Nat → List Int → Nat → List (Int × Int) → Option (List (Int × Int) × Nat)
  | 0, _, _, _ => none
  | f + 1, l, i, acc =>
    if l[i]? = some 93 ∧ acc ≠ [] then some (acc, i + 1)
    else match rangeP l i with
      | none => none
      | some (r, k) => setP f l k (acc ++ [r])
theorem setP_more (l : List Int) : ∀ (f g i : Nat) (acc : List (Int × Int)), l.length - i < f → l.length - i < g → setP f l i acc = setP g l i acc
  | 0, _, _, _, h, _ => by omega
  | _, 0, _, _, _, h => by omega
  | f + 1, g + 1, i, acc, hf, hg => by
    rw [setP, setP]
    split
    · rfl
    · cases h : rangeP l i with
      | none => rfl
      | some x =>
        obtain ⟨r, k⟩ := x
        have := rangeP_lt h
        exact setP_more l f g k _ (by omega) (by omega)
/-- The ranges of a set, from a place on. -/
def setR (l : List Int) (i : Nat) (acc : List (Int × Int)) : Option (List (Int × Int) × Nat) := setP (l.length - i + 1) l i acc
theorem setR_eq (l : List Int) (i : Nat) (acc : List (Int × Int)) : setR l i acc =
    if l[i]? = some 93 ∧ acc ≠ [] then some (acc, i + 1)
    else match rangeP l i with
      | none => none
      | some (r, k) => setR l k (acc ++ [r]) := by
  unfold setR
  rw [setP]
  split
  · rfl
  · cases h : rangeP l i with
    | none => rfl
    | some x =>
      obtain ⟨r, k⟩ := x
      have := rangeP_lt h
      exact setP_more l _ _ k _ (by omega) (by omega)
theorem setR_end {l : List Int} {i : Nat} {acc : List (Int × Int)} (h : l[i]? = some 93) (ha : acc ≠ []) : setR l i acc = some (acc, i + 1) := by
  rw [setR_eq, if_pos ⟨h, ha⟩]
theorem setR_none {l : List Int} {i : Nat} {acc : List (Int × Int)} (h : ¬ (l[i]? = some 93 ∧ acc ≠ [])) (hr : rangeP l i = none) : setR l i acc = none := by
  rw [setR_eq, if_neg h, hr]
theorem setR_go {l : List Int} {i k : Nat} {acc : List (Int × Int)} {r : Int × Int} (h : ¬ (l[i]? = some 93 ∧ acc ≠ [])) (hr : rangeP l i = some (r, k)) : setR l i acc = setR l k (acc ++ [r]) := by
  rw [setR_eq, if_neg h, hr]
theorem setP_lt (l : List Int) : ∀ (f i : Nat) (acc rs : List (Int × Int)) (k : Nat), setP f l i acc = some (rs, k) → i < k ∧ k ≤ l.length ∧ rs.length ≤ acc.length + (k - i)
  | 0, _, _, _, _, h => by cases h
  | f + 1, i, acc, rs, k, h => by
    rw [setP] at h
    split at h
    · rename_i c
      have := (List.getElem?_eq_some_iff.1 c.1).1
      injection h with h; injection h with h1 h
      subst h1
      omega
    · cases h1 : rangeP l i with
      | none => rw [h1] at h; cases h
      | some x =>
        obtain ⟨r, k'⟩ := x
        have g1 := rangeP_lt h1
        rw [h1] at h
        have g2 := setP_lt l f k' (acc ++ [r]) rs k h
        rw [List.length_append] at g2
        simp at g2
        omega
theorem setR_lt {l : List Int} {i k : Nat} {acc rs : List (Int × Int)} (h : setR l i acc = some (rs, k)) : i < k ∧ k ≤ l.length ∧ rs.length ≤ acc.length + (k - i) := setP_lt l _ i acc rs k h
/-- Is there a !? -/
def notAt (l : List Int) (i : Nat) : Bool := l[i]? == some 33
/-- The set behind a bracket. -/
def setS (l : List Int) (i : Nat) : Option (PartV × Nat) :=
  (setR l (i + cond (notAt l i) 1 0) []).map fun x => (⟨5, 0, x.1, notAt l i⟩, x.2)
/-- The part that begins at a place. -/
def partP (l : List Int) (i : Nat) : Option (PartV × Nat) :=
  if l[i]? = some 63 then some (⟨2, 0, [], false⟩, i + 1)
  else if l[i]? = some 42 then (if l[i + 1]? = some 42 then some (⟨4, 0, [], false⟩, i + 2) else some (⟨3, 0, [], false⟩, i + 1))
  else if l[i]? = some 91 then setS l (i + 1)
  else (oneP l i).map fun x => (⟨1, x.1, [], false⟩, x.2)
theorem partP_lt {l : List Int} {i k : Nat} {p : PartV} (h : partP l i = some (p, k)) : i < k ∧ k ≤ l.length ∧ p.rs.length ≤ k - i := by
  unfold partP at h
  split at h
  · rename_i c
    have := (List.getElem?_eq_some_iff.1 c).1
    injection h with h; injection h with h1 h
    subst h1
    simp; omega
  · split at h
    · rename_i c
      have := (List.getElem?_eq_some_iff.1 c).1
      split at h
      · rename_i c2
        have := (List.getElem?_eq_some_iff.1 c2).1
        injection h with h; injection h with h1 h
        subst h1
        simp; omega
      · injection h with h; injection h with h1 h
        subst h1
        simp; omega
    · split at h
      · unfold setS at h
        rw [Option.map_eq_some_iff] at h
        obtain ⟨⟨rs, k'⟩, h1, h2⟩ := h
        have := setR_lt h1
        injection h2 with h2 h3
        subst h2 h3
        simp at this ⊢
        omega
      · rw [Option.map_eq_some_iff] at h
        obtain ⟨⟨c, k'⟩, h1, h2⟩ := h
        have := oneP_lt h1
        injection h2 with h2 h3
        subst h2 h3
        simp
        omega
def parseP : Nat → List Int → Nat → List PartV → Option (List PartV)
  | 0, _, _, _ => none
  | f + 1, l, i, out =>
    if l.length ≤ i then some out
    else match partP l i with
      | none => none
      | some (p, k) => if 256 ≤ out.length then none else parseP f l k (out ++ [p])
theorem parseP_more (l : List Int) : ∀ (f g i : Nat) (out : List PartV), l.length - i < f → l.length - i < g → parseP f l i out = parseP g l i out
  | 0, _, _, _, h, _ => by omega
  | _, 0, _, _, _, h => by omega
  | f + 1, g + 1, i, out, hf, hg => by
    rw [parseP, parseP]
    split
    · rfl
    · cases h : partP l i with
      | none => rfl
      | some x =>
        obtain ⟨p, k⟩ := x
        have := partP_lt h
        simp only
        split
        · rfl
        · exact parseP_more l f g k _ (by omega) (by omega)
/-- The parts from a place on. -/
def parseR (l : List Int) (i : Nat) (out : List PartV) : Option (List PartV) := parseP (l.length - i + 1) l i out
theorem parseR_eq (l : List Int) (i : Nat) (out : List PartV) : parseR l i out =
    if l.length ≤ i then some out
    else match partP l i with
      | none => none
      | some (p, k) => if 256 ≤ out.length then none else parseR l k (out ++ [p]) := by
  unfold parseR
  rw [parseP]
  split
  · rfl
  · cases h : partP l i with
    | none => rfl
    | some x =>
      obtain ⟨p, k⟩ := x
      have := partP_lt h
      simp only
      split
      · rfl
      · exact parseP_more l _ _ k _ (by omega) (by omega)
theorem parseR_end {l : List Int} {i : Nat} {out : List PartV} (h : l.length ≤ i) : parseR l i out = some out := by rw [parseR_eq, if_pos h]
theorem parseR_none {l : List Int} {i : Nat} {out : List PartV} (h : i < l.length) (hp : partP l i = none) : parseR l i out = none := by rw [parseR_eq, if_neg (by omega), hp]
theorem parseR_many {l : List Int} {i : Nat} {out : List PartV} (h : i < l.length) (ho : 256 ≤ out.length) : parseR l i out = none := by
  rw [parseR_eq, if_neg (by omega)]
  cases partP l i with
  | none => rfl
  | some x => exact if_pos ho
theorem parseR_go {l : List Int} {i k : Nat} {out : List PartV} {p : PartV} (h : i < l.length) (hp : partP l i = some (p, k)) (ho : out.length < 256) : parseR l i out = parseR l k (out ++ [p]) := by
  rw [parseR_eq, if_neg (by omega), hp]
  exact if_neg (by omega)
/-- The parts of signs. -/
def parse (l : List Int) : Option (List PartV) := parseR l 0 []
/-- Each of a pattern's parts has no more ranges than there are signs. -/
def slim (n : Nat) (ps : List PartV) : Prop := ∀ p ∈ ps, p.rs.length ≤ n
end Go.Proofs.YtlmdpmfahfgjkaaDoor
