/- Search, in plain words. -/
import Derived.Test.YtmcbgjkogggneaaDoorLsD
namespace Go.Proofs.YtmcbgjkogggneaaDoor
set_option maxRecDepth 100000
set_option linter.unusedVariables false
set_option linter.unusedSimpArgs false
open Go.RowKit
/-- How many numbers below n have a quality. -/
def cntN (p : Nat → Bool) : Nat → Nat
  | 0 => 0
  | n + 1 => cntN p n + if p n then 1 else 0
theorem cntN_congr {p q : Nat → Bool} {n : Nat} (h : ∀ k, k < n → p k = q k) : cntN p n = cntN q n := by
  induction n with
  | zero => rfl
  | succ n ih => unfold cntN; rw [ih (fun k hk => h k (by omega)), h n (by omega)]
theorem cntN_strike {p q : Nat → Bool} {n i : Nat} (hi : i < n) (h1 : p i = true) (h2 : q i = false) (h : ∀ k, k ≠ i → p k = q k) : cntN q n + 1 = cntN p n := by
  induction n with
  | zero => omega
  | succ n ih =>
    unfold cntN
    by_cases e : i = n
    · subst e
      rw [h1, h2, cntN_congr (p := q) (q := p) (fun k hk => (h k (by omega)).symm)]
      simp
    · rw [← ih (by omega), h n (by omega)]
      omega
theorem cntN_zero {p : Nat → Bool} {n : Nat} : cntN p n = 0 ↔ ∀ k, k < n → p k = false := by
  induction n with
  | zero => exact ⟨fun _ k hk => by omega, fun _ => rfl⟩
  | succ n ih =>
    unfold cntN
    constructor
    · intro h k hk
      by_cases e : k = n
      · subst e
        cases hp : p k with
        | false => rfl
        | true => rw [hp] at h; simp at h
      · exact ih.1 (by omega) k (by omega)
    · intro h
      rw [ih.2 (fun k hk => h k (by omega)), h n (by omega)]
      simp
theorem cntN_le (p : Nat → Bool) (n : Nat) : cntN p n ≤ n := by
  induction n with
  | zero => exact Nat.le_refl _
  | succ n ih => unfold cntN; split <;> omega
theorem cntN_all {p : Nat → Bool} {n : Nat} (h : ∀ k, k < n → p k = true) : cntN p n = n := by
  induction n with
  | zero => rfl
  | succ n ih => unfold cntN; rw [ih (fun k hk => h k (by omega)), h n (by omega)]; simp
/-- How many calls that must are not in the order; how many calls are not. -/
def muB (cv : Nat → CallV) (o : List Nat) (k : Nat) : Bool := decide (0 ≤ (cv k).fin) && !decide (k ∈ o)
def mustN (n : Nat) (cv : Nat → CallV) (o : List Nat) : Nat := cntN (muB cv o) n
def unN (n : Nat) (o : List Nat) : Nat := cntN (fun k => !decide (k ∈ o)) n
def at0 (o : List Nat) : Nat → Nat := fun i => o.getD i 0
theorem at0_app {o : List Nat} (r : List Nat) {i : Nat} (h : i < o.length) : at0 (o ++ r) i = at0 o i := by
  unfold at0
  rw [List.getD_eq_getElem?_getD, List.getD_eq_getElem?_getD, List.getElem?_append_left h]
theorem at0_snoc (o : List Nat) (i : Nat) : at0 (o ++ [i]) o.length = i := by
  unfold at0
  rw [List.getD_eq_getElem?_getD, List.getElem?_append_right (Nat.le_refl _)]
  simp
theorem at0_mem {o : List Nat} {i : Nat} (h : i < o.length) : at0 o i ∈ o := by
  unfold at0
  rw [List.getD_eq_getElem?_getD, List.getElem?_eq_getElem h]
  exact List.getElem_mem h
theorem mem_at0 {o : List Nat} {k : Nat} (h : k ∈ o) : ∃ i, i < o.length ∧ at0 o i = k := by
  obtain ⟨i, hi, rfl⟩ := List.mem_iff_getElem.1 h
  refine ⟨i, hi, ?_⟩
  unfold at0
  rw [List.getD_eq_getElem?_getD, List.getElem?_eq_getElem hi]
  rfl
theorem st_congr (cv : Nat → CallV) (nm : Nat → List ByteArray) {o o' : Nat → Nat} {m : Nat} (h : ∀ i, i < m → o i = o' i) : st cv nm o m = st cv nm o' m := by
  induction m with
  | zero => rfl
  | succ m ih => unfold st; rw [ih (fun i hi => h i (by omega)), h m (by omega)]
theorem st_succ (cv : Nat → CallV) (nm : Nat → List ByteArray) (o : Nat → Nat) (i : Nat) : st cv nm o (i + 1) = ((tells (st cv nm o i).1 (cv (o i)) (nm (o i))).1, (st cv nm o i).2 && (tells (st cv nm o i).1 (cv (o i)) (nm (o i))).2) := rfl
/-- The names and whether all was true, behind an order. -/
def stL (cv : Nat → CallV) (nm : Nat → List ByteArray) (o : List Nat) : List ByteArray × Bool := st cv nm (at0 o) o.length
theorem stL_snoc (cv : Nat → CallV) (nm : Nat → List ByteArray) (o : List Nat) (i : Nat) : stL cv nm (o ++ [i]) = ((tells (stL cv nm o).1 (cv i) (nm i)).1, (stL cv nm o).2 && (tells (stL cv nm o).1 (cv i) (nm i)).2) := by
  unfold stL
  rw [List.length_append]
  show st cv nm (at0 (o ++ [i])) (o.length + 1) = _
  rw [st_succ, at0_snoc, st_congr cv nm (o := at0 (o ++ [i])) (o' := at0 o) (fun k hk => at0_app [i] hk)]
theorem stL_len (cv : Nat → CallV) (nm : Nat → List ByteArray) (o : List Nat) : (stL cv nm o).1.length ≤ o.length := st_len cv nm (at0 o) o.length
/-- Is what the call tells true behind an order? -/
def tlB (cv : Nat → CallV) (nm : Nat → List ByteArray) (o : List Nat) (i : Nat) : Bool := (tells (stL cv nm o).1 (cv i) (nm i)).2
def goB (n : Nat) (cv : Nat → CallV) (nm : Nat → List ByteArray) (o : List Nat) (i : Nat) : Bool := nxB n cv o i && tlB cv nm o i
def srch (n : Nat) (cv : Nat → CallV) (nm : Nat → List ByteArray) : Nat → List Nat → Option (List Nat)
  | 0, o => if mustN n cv o = 0 then some o else none
  | k + 1, o => if mustN n cv o = 0 then some o else (List.range n).findSome? fun i => if goB n cv nm o i then srch n cv nm k (o ++ [i]) else none
theorem find_some {α : Type} {f : Nat → Option α} {n j : Nat} {p : α} (hj : j < n) (h0 : ∀ k, k < j → f k = none) (h1 : f j = some p) : (List.range n).findSome? f = some p := by
  induction n with
  | zero => omega
  | succ n ih =>
    rw [List.range_succ, List.findSome?_append]
    by_cases e : j = n
    · subst e
      have : (List.range j).findSome? f = none := List.findSome?_eq_none_iff.2 fun x hx => h0 x (List.mem_range.1 hx)
      rw [this]
      simp [h1]
    · rw [ih (by omega)]
      rfl
theorem find_none {α : Type} {f : Nat → Option α} {n : Nat} (h0 : ∀ k, k < n → f k = none) : (List.range n).findSome? f = none :=
  List.findSome?_eq_none_iff.2 fun x hx => h0 x (List.mem_range.1 hx)
/-- An order each step of which could come next, and told the truth. -/
inductive Gd (n : Nat) (cv : Nat → CallV) (nm : Nat → List ByteArray) : List Nat → Prop
  | nil : Gd n cv nm []
  | snoc {o : List Nat} {i : Nat} : Gd n cv nm o → i < n → goB n cv nm o i = true → Gd n cv nm (o ++ [i])
theorem nxB_iff {n : Nat} {cv : Nat → CallV} {o : List Nat} {i : Nat} : nxB n cv o i = true ↔ i ∉ o ∧ canB (cv i) = true ∧ ∀ j, j < n → j ≠ i → j ∉ o → befB (cv j) (cv i) = false := by
  unfold nxB
  rw [Bool.and_eq_true, Bool.and_eq_true, List.all_eq_true]
  constructor
  · rintro ⟨⟨h1, h2⟩, h3⟩
    refine ⟨by simpa using h1, h2, fun j hj hne hno => ?_⟩
    have := h3 j (List.mem_range.2 hj)
    unfold nxJ at this
    cases hb : befB (cv j) (cv i) with
    | false => rfl
    | true =>
      have := (befB_iff _ _).1 hb
      simp_all
  · rintro ⟨h1, h2, h3⟩
    refine ⟨⟨by simpa using h1, h2⟩, fun j hj => ?_⟩
    unfold nxJ
    by_cases hne : j = i
    · simp [hne]
    · by_cases hno : j ∈ o
      · simp [hno]
      · rw [h3 j (List.mem_range.1 hj) hne hno]
        simp
theorem Gd.facts {n : Nat} {cv : Nat → CallV} {nm : Nat → List ByteArray} {o : List Nat} (h : Gd n cv nm o) :
    (∀ k, k ∈ o → k < n) ∧ (∀ i, i < o.length → canB (cv (at0 o i)) = true ∧ (∀ q, q < i → at0 o q ≠ at0 o i) ∧ ∀ k, k < n → k ≠ at0 o i → befB (cv k) (cv (at0 o i)) = true → ∃ q, q < i ∧ at0 o q = k) ∧ (stL cv nm o).2 = true ∧ o.length + unN n o = n := by
  induction h with
  | nil =>
    refine ⟨fun k hk => (by cases hk), fun i hi => (by simp at hi), rfl, ?_⟩
    show 0 + unN n [] = n
    unfold unN
    rw [cntN_all (fun k _ => by simp)]
    omega
  | @snoc o i hg hi hgo ih =>
    obtain ⟨h1, h2, h3, h4⟩ := ih
    unfold goB at hgo
    rw [Bool.and_eq_true] at hgo
    obtain ⟨hn1, hn2, hn3⟩ := nxB_iff.1 hgo.1
    refine ⟨fun k hk => ?_, fun q hq => ?_, ?_, ?_⟩
    · rcases List.mem_append.1 hk with hk | hk
      · exact h1 k hk
      · simp at hk; omega
    · rw [List.length_append] at hq
      simp at hq
      by_cases e : q = o.length
      · subst e
        rw [at0_snoc]
        refine ⟨hn2, fun r hr hre => ?_, fun k hk hne hb => ?_⟩
        · rw [at0_app [i] hr] at hre
          exact hn1 (hre ▸ at0_mem hr)
        · by_cases hko : k ∈ o
          · obtain ⟨r, hr, hrk⟩ := mem_at0 hko
            exact ⟨r, hr, by rw [at0_app [i] hr]; exact hrk⟩
          · rw [hn3 k hk hne hko] at hb
            cases hb
      · have hq2 : q < o.length := by omega
        obtain ⟨a1, a2, a3⟩ := h2 q hq2
        rw [at0_app [i] hq2]
        refine ⟨a1, fun r hr => ?_, fun k hk hne hb => ?_⟩
        · rw [at0_app [i] (by omega)]; exact a2 r hr
        · obtain ⟨r, hr, hrk⟩ := a3 k hk hne hb
          exact ⟨r, hr, by rw [at0_app [i] (by omega)]; exact hrk⟩
    · rw [stL_snoc, h3]
      show (true && tlB cv nm o i) = true
      rw [hgo.2]
      rfl
    · rw [List.length_append]
      have : unN n (o ++ [i]) + 1 = unN n o := cntN_strike hi (by simpa using hn1) (by simp) (fun k hk => by simp [hk])
      simp
      omega
/-- Behind such an order, it fits if no call that must is left. -/
theorem Gd.fits {n : Nat} {cv : Nat → CallV} {nm : Nat → List ByteArray} {o : List Nat} (h : Gd n cv nm o) :
    (Whole n o.length cv (fun i => (at0 o i : Int)) ∧ Tm cv (natO fun i => (at0 o i : Int)) o.length ∧ (st cv nm (natO fun i => (at0 o i : Int)) o.length).2 = true) ↔ mustN n cv o = 0 := by
  obtain ⟨h1, h2, h3, _⟩ := h.facts
  have e : (natO fun i => (at0 o i : Int)) = at0 o := funext fun i => by unfold natO; rw [Int.toNat_natCast]
  rw [e]
  have hm : mustN n cv o = 0 ↔ ∀ k, k < n → 0 ≤ (cv k).fin → k ∈ o := by
    unfold mustN
    rw [cntN_zero]
    unfold muB
    constructor
    · intro h k hk hf
      have := h k hk
      simpa [hf] using this
    · intro h k hk
      by_cases hf : 0 ≤ (cv k).fin
      · simp [h k hk hf]
      · simp [hf]
  rw [hm]
  constructor
  · rintro ⟨⟨_, h5⟩, _⟩ k hk hf
    obtain ⟨i, hi, hik⟩ := h5 k hk hf
    have : at0 o i = k := Int.ofNat_inj.1 hik
    exact this ▸ at0_mem hi
  · intro h4
    refine ⟨⟨fun i hi => ⟨Int.natCast_nonneg _, ?_, fun q hq => ?_, ?_⟩, fun k hk hf => ?_⟩, fun p q hpq hq hb => ?_, h3⟩
    · exact Int.ofNat_lt.2 (h1 _ (at0_mem hi))
    · exact fun e => (h2 i hi).2.1 q hq (Int.ofNat_inj.1 e)
    · exact (h2 i hi).1
    · obtain ⟨i, hi, hik⟩ := mem_at0 (h4 k hk hf)
      exact ⟨i, hi, congrArg Int.ofNat hik⟩
    · obtain ⟨a1, a2, a3⟩ := h2 p (by omega)
      obtain ⟨r, hr, hre⟩ := a3 (at0 o q) (h1 _ (at0_mem hq)) (fun e => (h2 q hq).2.1 p hpq e.symm) hb
      exact (h2 q hq).2.1 r (by omega) hre
theorem srch_sound {n : Nat} {cv : Nat → CallV} {nm : Nat → List ByteArray} : ∀ k o p, Gd n cv nm o → srch n cv nm k o = some p → Gd n cv nm p ∧ mustN n cv p = 0 := by
  intro k
  induction k with
  | zero =>
    intro o p h hs
    unfold srch at hs
    split at hs
    · injection hs with hs; subst hs; exact ⟨h, by assumption⟩
    · cases hs
  | succ k ih =>
    intro o p h hs
    unfold srch at hs
    split at hs
    · injection hs with hs; subst hs; exact ⟨h, by assumption⟩
    · obtain ⟨i, hi, hsi⟩ := List.exists_of_findSome?_eq_some hs
      split at hsi
      · exact ih _ _ (Gd.snoc h (List.mem_range.1 hi) (by assumption)) hsi
      · cases hsi
/-- Is there an order that fits, it is found. -/
theorem srch_complete {n : Nat} {cv : Nat → CallV} {nm : Nat → List ByteArray} {p : List Nat} (hw : Whole n p.length cv (fun i => (at0 p i : Int))) (ht : Tm cv (at0 p) p.length) (hs : ∀ i, i ≤ p.length → (st cv nm (at0 p) i).2 = true) :
    ∀ k o r, p = o ++ r → Gd n cv nm o → unN n o ≤ k → srch n cv nm k o ≠ none := by
  have hlt : ∀ i, i < p.length → at0 p i < n := fun i hi => Int.ofNat_lt.1 (hw.1 i hi).2.1
  have hmu : ∀ k, k < n → 0 ≤ (cv k).fin → k ∈ p := fun k hk hf => by
    obtain ⟨i, hi, e⟩ := hw.2 k hk hf
    have : at0 p i = k := Int.ofNat_inj.1 e
    exact this ▸ at0_mem hi
  have hnil : ∀ o r, p = o ++ r → r = [] → mustN n cv o = 0 := by
    intro o r hp hr
    subst hr
    rw [List.append_nil] at hp
    subst hp
    unfold mustN
    rw [cntN_zero]
    intro k hk
    unfold muB
    by_cases hf : 0 ≤ (cv k).fin
    · simp [hmu k hk hf]
    · simp [hf]
  have hgo : ∀ o i r, p = o ++ i :: r → i < n ∧ goB n cv nm o i = true := by
    intro o i r hp
    have hil : o.length < p.length := by rw [hp]; simp
    have hat : at0 p o.length = i := by
      unfold at0
      rw [hp, List.getD_eq_getElem?_getD, List.getElem?_append_right (Nat.le_refl _)]
      simp
    have hpre : ∀ q, q < o.length → at0 p q = at0 o q := fun q hq => by rw [hp]; exact at0_app _ hq
    have hin : i < n := hat ▸ hlt _ hil
    refine ⟨hin, ?_⟩
    unfold goB
    rw [Bool.and_eq_true]
    refine ⟨nxB_iff.2 ⟨fun hi => ?_, ?_, fun j hj hne hno => ?_⟩, ?_⟩
    · obtain ⟨q, hq, e⟩ := mem_at0 hi
      have : (at0 p q : Int) ≠ (at0 p o.length : Int) := (hw.1 o.length hil).2.2.1 q hq
      rw [hat, hpre q hq, e] at this
      exact this rfl
    · have : canB (cv (at0 p o.length)) = true := (hw.1 o.length hil).2.2.2
      rw [hat] at this
      exact this
    · cases hb : befB (cv j) (cv i) with
      | false => rfl
      | true =>
        exfalso
        obtain ⟨q, hq, e⟩ := mem_at0 (hmu j hj ((befB_iff _ _).1 hb).1)
        by_cases hqo : q < o.length
        · exact hno (by rw [← e, hpre q hqo]; exact at0_mem hqo)
        · by_cases hqe : q = o.length
          · subst hqe; exact hne (e.symm.trans hat)
          · refine ht o.length q (by omega) hq ?_
            rw [e, hat]
            exact hb
    · have h1 := hs (o.length + 1) (by omega)
      rw [st_succ, Bool.and_eq_true] at h1
      unfold tlB stL
      rw [st_congr cv nm (o := at0 o) (o' := at0 p) (fun q hq => (hpre q hq).symm)]
      rw [hat] at h1
      exact h1.2
  intro k
  induction k with
  | zero =>
    intro o r hp hg hk
    unfold srch
    by_cases hm : mustN n cv o = 0
    · rw [if_pos hm]; simp
    · exfalso
      cases r with
      | nil => exact hm (hnil o [] hp rfl)
      | cons i r =>
        obtain ⟨h1, h2⟩ := hgo o i r hp
        unfold goB at h2
        rw [Bool.and_eq_true] at h2
        have h3 := (nxB_iff.1 h2.1).1
        have := cntN_zero.1 (show cntN (fun k => !decide (k ∈ o)) n = 0 by unfold unN at hk; omega) i h1
        simp at this
        exact h3 this
  | succ k ih =>
    intro o r hp hg hk
    unfold srch
    by_cases hm : mustN n cv o = 0
    · rw [if_pos hm]; simp
    · rw [if_neg hm]
      cases r with
      | nil => exact absurd (hnil o [] hp rfl) hm
      | cons i r =>
        obtain ⟨h1, h2⟩ := hgo o i r hp
        have hno := (nxB_iff.1 (by unfold goB at h2; rw [Bool.and_eq_true] at h2; exact h2.1)).1
        have hun : unN n (o ++ [i]) + 1 = unN n o := cntN_strike h1 (by simpa using hno) (by simp) (fun k hk => by simp [hk])
        have := ih (o ++ [i]) r (by rw [hp, List.append_assoc]; rfl) (Gd.snoc hg h1 h2) (by omega)
        intro hnone
        have := List.findSome?_eq_none_iff.1 hnone i (List.mem_range.2 h1)
        rw [if_pos h2] at this
        contradiction
end Go.Proofs.YtmcbgjkogggneaaDoor
