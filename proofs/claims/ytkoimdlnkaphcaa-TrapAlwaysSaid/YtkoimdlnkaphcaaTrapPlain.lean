/- Plain laws of steps that lie within one another: what is run is what the page counts. -/
namespace Go.Proofs.Ytkoimdlnkaphcaa.Plain
abbrev St := Int × Int
def endAt : List St → Nat → Nat
  | [], _ => 0
  | x :: xs, d => if x.1 = 3 then 1 + endAt xs (d + 1) else if x.1 = 4 then (if d = 0 then 0 else 1 + endAt xs (d - 1)) else 1 + endAt xs d
theorem endAt_le : ∀ (l : List St) (d : Nat), endAt l d ≤ l.length
  | [], _ => Nat.le_refl _
  | x :: xs, d => by
    have h1 := endAt_le xs (d + 1)
    have h2 := endAt_le xs (d - 1)
    have h3 := endAt_le xs d
    unfold endAt
    simp only [List.length_cons]
    repeat' split
    all_goals omega
theorem endAt_succ : ∀ (l : List St) (d : Nat), endAt l (d + 1) = endAt l d + (if endAt l d < l.length then 1 + endAt (l.drop (endAt l d + 1)) 0 else 0)
  | [], _ => by simp [endAt]
  | x :: xs, d => by
    by_cases h3 : x.1 = 3
    · have e1 : endAt (x :: xs) (d + 1) = 1 + endAt xs (d + 2) := by simp [endAt, h3]
      have e2 : endAt (x :: xs) d = 1 + endAt xs (d + 1) := by simp [endAt, h3]
      rw [e1, e2, endAt_succ xs (d + 1), show 1 + endAt xs (d + 1) + 1 = (endAt xs (d + 1) + 1) + 1 from by omega, List.drop_succ_cons, List.length_cons]
      by_cases hl : endAt xs (d + 1) < xs.length
      · rw [if_pos hl, if_pos (by omega)]; omega
      · rw [if_neg hl, if_neg (by omega)]; omega
    · by_cases h4 : x.1 = 4
      · cases d with
        | zero =>
          have e1 : endAt (x :: xs) 1 = 1 + endAt xs 0 := by simp [endAt, h4]
          have e2 : endAt (x :: xs) 0 = 0 := by simp [endAt, h4]
          rw [e1, e2]; simp
        | succ d =>
          have e1 : endAt (x :: xs) (d + 1 + 1) = 1 + endAt xs (d + 1) := by simp [endAt, h4]
          have e2 : endAt (x :: xs) (d + 1) = 1 + endAt xs d := by simp [endAt, h4]
          rw [e1, e2, endAt_succ xs d, show 1 + endAt xs d + 1 = (endAt xs d + 1) + 1 from by omega, List.drop_succ_cons, List.length_cons]
          by_cases hl : endAt xs d < xs.length
          · rw [if_pos hl, if_pos (by omega)]; omega
          · rw [if_neg hl, if_neg (by omega)]; omega
      · have e1 : endAt (x :: xs) (d + 1) = 1 + endAt xs (d + 1) := by simp [endAt, h3, h4]
        have e2 : endAt (x :: xs) d = 1 + endAt xs d := by simp [endAt, h3, h4]
        rw [e1, e2, endAt_succ xs d, show 1 + endAt xs d + 1 = (endAt xs d + 1) + 1 from by omega, List.drop_succ_cons, List.length_cons]
        by_cases hl : endAt xs d < xs.length
        · rw [if_pos hl, if_pos (by omega)]; omega
        · rw [if_neg hl, if_neg (by omega)]; omega
theorem endAt_take : ∀ (l : List St) (m d : Nat), endAt (l.take m) d = min m (endAt l d)
  | [], m, d => by simp [endAt]
  | x :: xs, 0, d => by simp [endAt]
  | x :: xs, m + 1, d => by
    have h1 := endAt_take xs m (d + 1)
    have h2 := endAt_take xs m (d - 1)
    have h3 := endAt_take xs m d
    rw [List.take_succ_cons]
    unfold endAt
    rw [h1, h2, h3]
    repeat' split
    all_goals omega
def run : List St → Int × Int
  | [] => (0, 0)
  | x :: xs =>
    if x.1 = 0 then ((run xs).1 + 1, (run xs).2)
    else if x.1 = 1 then (0, x.2)
    else if x.1 = 3 then
      ((run (xs.take (endAt xs 0))).1 + (if (run (xs.take (endAt xs 0))).2 = 0 then 0 else 1000) + (run (xs.drop (endAt xs 0 + 1))).1, (run (xs.drop (endAt xs 0 + 1))).2)
    else run xs
termination_by l => l.length
decreasing_by all_goals (simp; try omega)
def ref : List St → Nat → Int × Int
  | [], _ => (0, 0)
  | x :: xs, d =>
    if x.1 = 0 then ((ref xs d).1 + 1, (ref xs d).2)
    else if x.1 = 1 then (if d = 0 then (0, x.2) else ((ref (xs.drop (endAt xs 0 + 1)) (d - 1)).1 + 1000, (ref (xs.drop (endAt xs 0 + 1)) (d - 1)).2))
    else if x.1 = 3 then ref xs (d + 1)
    else if x.1 = 4 then ref xs (d - 1)
    else ref xs d
termination_by l => l.length
decreasing_by all_goals (simp; try omega)
def good (l : List St) : Prop := ∀ x ∈ l, x.2 ≠ 0
theorem good_take {l : List St} (h : good l) (n : Nat) : good (l.take n) := fun x hx => h x (List.mem_of_mem_take hx)
theorem good_drop {l : List St} (h : good l) (n : Nat) : good (l.drop n) := fun x hx => h x (List.mem_of_mem_drop hx)
def caught (a : Int × Int) (b : Int × Int) : Int × Int := (a.1 + (if a.2 = 0 then 0 else 1000) + b.1, b.2)
theorem run_three (x : St) (xs : List St) (h : x.1 = 3) : run (x :: xs) = caught (run (xs.take (endAt xs 0))) (run (xs.drop (endAt xs 0 + 1))) := by
  rw [run]; simp [h, caught]
theorem ref_deep (n : Nat) : ∀ (l : List St), l.length ≤ n → good l → ∀ d, ref l (d + 1) = caught (run (l.take (endAt l 0))) (ref (l.drop (endAt l 0 + 1)) d) := by
  induction n with
  | zero =>
    intro l hl _ d
    have : l = [] := List.length_eq_zero_iff.1 (by omega)
    subst this
    simp [ref, run, caught]
  | succ n ih =>
    intro l hl hg d
    cases l with
    | nil => simp [ref, run, caught]
    | cons x xs =>
      simp only [List.length_cons] at hl
      have hx : x.2 ≠ 0 := hg x (by simp)
      have hxs : good xs := fun y hy => hg y (by simp [hy])
      by_cases h0 : x.1 = 0
      · have e : endAt (x :: xs) 0 = endAt xs 0 + 1 := by simp [endAt, h0]; omega
        rw [e, List.take_succ_cons, List.drop_succ_cons, run, if_pos h0, ref, if_pos h0, ih xs (by omega) hxs d]
        simp only [caught]
        refine Prod.ext ?_ rfl
        simp only; omega
      · by_cases h1 : x.1 = 1
        · have e : endAt (x :: xs) 0 = endAt xs 0 + 1 := by simp [endAt, h1]; omega
          rw [e, List.take_succ_cons, List.drop_succ_cons, run, if_neg h0, if_pos h1, ref, if_neg h0, if_pos h1, if_neg (by omega)]
          simp only [caught, if_neg hx, Nat.add_sub_cancel]
          refine Prod.ext ?_ rfl
          simp only; omega
        · by_cases h3 : x.1 = 3
          · have e : endAt (x :: xs) 0 = endAt xs 1 + 1 := by simp [endAt, h3]; omega
            rw [e, List.take_succ_cons, List.drop_succ_cons, run_three _ _ h3, ref, if_neg h0, if_neg h1, if_pos h3, ih xs (by omega) hxs (d + 1), ih (xs.drop (endAt xs 0 + 1)) (by simp; omega) (good_drop hxs _) d]
            have hs := endAt_succ xs 0
            have hle := endAt_le xs 0
            simp only [Nat.zero_add] at hs
            have et : endAt (xs.take (endAt xs 1)) 0 = endAt xs 0 := by rw [endAt_take]; omega
            rw [et, List.take_take, Nat.min_eq_left (by omega), List.drop_take, List.drop_drop]
            by_cases hlt : endAt xs 0 < xs.length
            · rw [if_pos hlt] at hs
              rw [show endAt xs 1 - (endAt xs 0 + 1) = endAt (xs.drop (endAt xs 0 + 1)) 0 from by omega, show endAt xs 0 + 1 + (endAt (xs.drop (endAt xs 0 + 1)) 0 + 1) = endAt xs 1 + 1 from by omega]
              simp only [caught]
              refine Prod.ext ?_ rfl
              simp only; omega
            · rw [if_neg hlt] at hs
              have hd : xs.drop (endAt xs 0 + 1) = [] := List.drop_eq_nil_of_le (by omega)
              have hd2 : xs.drop (endAt xs 1 + 1) = [] := List.drop_eq_nil_of_le (by omega)
              have hd3 : xs.drop (endAt xs 0 + 1 + (endAt ([] : List St) 0 + 1)) = [] := List.drop_eq_nil_of_le (by omega)
              rw [hd, hd2, hd3]
              simp [caught, run, ref]
          · by_cases h4 : x.1 = 4
            · have e : endAt (x :: xs) 0 = 0 := by simp [endAt, h4]
              rw [e, ref, if_neg h0, if_neg h1, if_neg h3, if_pos h4]
              simp [caught, run]
            · have e : endAt (x :: xs) 0 = endAt xs 0 + 1 := by simp [endAt, h3, h4]; omega
              rw [e, List.take_succ_cons, List.drop_succ_cons, run, if_neg h0, if_neg h1, if_neg h3, ref, if_neg h0, if_neg h1, if_neg h3, if_neg h4, ih xs (by omega) hxs d]
theorem ref_run (n : Nat) : ∀ (l : List St), l.length ≤ n → good l → ref l 0 = run l := by
  induction n with
  | zero =>
    intro l hl _
    have : l = [] := List.length_eq_zero_iff.1 (by omega)
    subst this
    simp [ref, run]
  | succ n ih =>
    intro l hl hg
    cases l with
    | nil => simp [ref, run]
    | cons x xs =>
      simp only [List.length_cons] at hl
      have hxs : good xs := fun y hy => hg y (by simp [hy])
      rw [ref, run, ih xs (by omega) hxs]
      by_cases h0 : x.1 = 0
      · rw [if_pos h0, if_pos h0]
      rw [if_neg h0, if_neg h0]
      by_cases h1 : x.1 = 1
      · rw [if_pos h1, if_pos h1]; simp
      rw [if_neg h1, if_neg h1]
      by_cases h3 : x.1 = 3
      · rw [if_pos h3, if_pos h3, ref_deep xs.length xs (Nat.le_refl _) hxs 0, ih (xs.drop (endAt xs 0 + 1)) (by simp; omega) (good_drop hxs _)]; rfl
      rw [if_neg h3, if_neg h3]
      simp
theorem ref_eq_run {l : List St} (h : good l) : ref l 0 = run l := ref_run l.length l (Nat.le_refl _) h
end Go.Proofs.Ytkoimdlnkaphcaa.Plain
