/- Patterns: plain words and laws. -/
import Derived.WalkKit
namespace Go.Proofs.YtlmdpmfahfgjkaaDoor
set_option maxRecDepth 100000
set_option linter.unusedVariables false
set_option linter.unusedSimpArgs false
/-- A part of a pattern. -/
structure PartV where
  kind : Int
  sign : Int
  rs : List (Int × Int)
  neg : Bool
def inR (rs : List (Int × Int)) (c : Int) : Bool := rs.any fun r => decide (r.1 ≤ c) && decide (c ≤ r.2)
/-- May a part be a sign? -/
def takes (p : PartV) (c : Int) : Bool :=
  if p.kind = 1 then c == p.sign
  else if p.kind = 2 ∨ p.kind = 3 then c != 47
  else if p.kind = 4 then true
  else if p.kind = 5 then c != 47 && (inR p.rs c != p.neg)
  else false
def many (p : PartV) : Bool := p.kind == 3 || p.kind == 4
def star (f : List Int → Bool) (t : Int → Bool) : List Int → Bool
  | [] => f []
  | c :: s => f (c :: s) || (t c && star f t s)
def single (f : List Int → Bool) (t : Int → Bool) : List Int → Bool
  | [] => false
  | c :: s => t c && f s
/-- Can signs be cut so? -/
def M : List PartV → List Int → Bool
  | [] => fun s => s.isEmpty
  | p :: ps => if many p then star (M ps) (takes p) else single (M ps) (takes p)
/-- Some place of a set from which on the rest matches. -/
def Any (s : List Int) (R : Nat → Prop) (ps : List PartV) : Prop := ∃ k, k ≤ s.length ∧ R k ∧ M ps (s.drop k) = true
/-- The places behind one sign more. -/
def stepR (s : List Int) (t : Int → Bool) (R : Nat → Prop) (k : Nat) : Prop := ∃ j, k = j + 1 ∧ j < s.length ∧ R j ∧ t (s.getD j 0) = true
/-- The places behind any number of signs. -/
def cloR (s : List Int) (t : Int → Bool) (R : Nat → Prop) (k : Nat) : Prop := ∃ j, j ≤ k ∧ k ≤ s.length ∧ R j ∧ ∀ i, j ≤ i → i < k → t (s.getD i 0) = true
theorem drop_cons (s : List Int) (j : Nat) (h : j < s.length) : s.drop j = s.getD j 0 :: s.drop (j + 1) := by
  rw [List.drop_eq_getElem_cons h, List.getD_eq_getElem?_getD, List.getElem?_eq_getElem h]
  rfl
theorem any_single (s : List Int) (R : Nat → Prop) (p : PartV) (ps : List PartV) (h : many p = false) : Any s R (p :: ps) ↔ Any s (stepR s (takes p) R) ps := by
  unfold Any
  have e : M (p :: ps) = single (M ps) (takes p) := by rw [M, if_neg (by simp [h])]
  rw [e]
  constructor
  · rintro ⟨k, hk, hR, hm⟩
    by_cases hlt : k < s.length
    · rw [drop_cons s k hlt, single, Bool.and_eq_true] at hm
      exact ⟨k + 1, hlt, ⟨k, rfl, hlt, hR, hm.1⟩, hm.2⟩
    · rw [List.drop_eq_nil_of_le (by omega), single] at hm
      cases hm
  · rintro ⟨k, hk, ⟨j, rfl, hj, hR, ht⟩, hm⟩
    refine ⟨j, by omega, hR, ?_⟩
    rw [drop_cons s j hj, single, ht, hm]
    rfl
theorem star_iff (s : List Int) (f : List Int → Bool) (t : Int → Bool) : ∀ (m j : Nat), m = s.length - j → j ≤ s.length → (star f t (s.drop j) = true ↔ ∃ k, j ≤ k ∧ k ≤ s.length ∧ (∀ i, j ≤ i → i < k → t (s.getD i 0) = true) ∧ f (s.drop k) = true)
  | 0, j, hm, hj => by
    have e : j = s.length := by omega
    subst e
    rw [List.drop_length, star]
    constructor
    · intro h
      exact ⟨s.length, Nat.le_refl _, Nat.le_refl _, fun i _ _ => by omega, by rw [List.drop_length]; exact h⟩
    · rintro ⟨k, h1, h2, _, h⟩
      have e : k = s.length := by omega
      rw [e, List.drop_length] at h
      exact h
  | m + 1, j, hm, hj => by
    have hlt : j < s.length := by omega
    rw [drop_cons s j hlt, star, Bool.or_eq_true, Bool.and_eq_true, star_iff s f t m (j + 1) (by omega) (by omega)]
    constructor
    · rintro (h | ⟨ht, k, h1, h2, h3, h4⟩)
      · exact ⟨j, Nat.le_refl _, hj, fun i _ _ => by omega, by rw [drop_cons s j hlt]; exact h⟩
      · refine ⟨k, by omega, h2, fun i hi hk => ?_, h4⟩
        by_cases e : i = j
        · rw [e]; exact ht
        · exact h3 i (by omega) hk
    · rintro ⟨k, h1, h2, h3, h4⟩
      by_cases e : k = j
      · left
        rw [e, drop_cons s j hlt] at h4
        exact h4
      · right
        exact ⟨h3 j (Nat.le_refl _) (by omega), k, by omega, h2, fun i hi hk => h3 i (by omega) hk, h4⟩
theorem any_many (s : List Int) (R : Nat → Prop) (p : PartV) (ps : List PartV) (h : many p = true) : Any s R (p :: ps) ↔ Any s (cloR s (takes p) R) ps := by
  unfold Any
  have e : M (p :: ps) = star (M ps) (takes p) := by rw [M, if_pos h]
  rw [e]
  constructor
  · rintro ⟨j, hj, hR, hm⟩
    obtain ⟨k, h1, h2, h3, h4⟩ := (star_iff s _ _ _ j rfl hj).1 hm
    exact ⟨k, h2, ⟨j, h1, h2, hR, h3⟩, h4⟩
  · rintro ⟨k, hk, ⟨j, h1, h2, hR, h3⟩, hm⟩
    exact ⟨j, by omega, hR, (star_iff s _ _ _ j rfl (by omega)).2 ⟨k, h1, h2, h3, hm⟩⟩
theorem any_nil (s : List Int) (R : Nat → Prop) : Any s R [] ↔ R s.length := by
  unfold Any
  constructor
  · rintro ⟨k, hk, hR, hm⟩
    have : s.drop k = [] := by simpa [M] using hm
    have e : k = s.length := by
      have := List.drop_eq_nil_iff.1 this
      omega
    rw [← e]; exact hR
  · intro h
    exact ⟨s.length, Nat.le_refl _, h, by rw [List.drop_length]; rfl⟩
theorem any_start (s : List Int) (ps : List PartV) : Any s (fun k => k = 0) ps ↔ M ps s = true := by
  unfold Any
  constructor
  · rintro ⟨k, _, rfl, h⟩; exact h
  · intro h; exact ⟨0, Nat.zero_le _, rfl, h⟩
theorem any_congr {s : List Int} {R R' : Nat → Prop} {ps : List PartV} (h : ∀ k, k ≤ s.length → (R k ↔ R' k)) : Any s R ps ↔ Any s R' ps := by
  unfold Any
  exact exists_congr fun k => and_congr_right fun hk => and_congr_left fun _ => h k hk
/-- The place is set. -/
def Is (B : Nat → Bool) : Nat → Prop := fun k => B k = true
def upd (B : Nat → Bool) (k : Nat) (v : Bool) : Nat → Bool := fun j => if j = k then v else B j
/-- What the places of a text are, and from where to where they lie. -/
structure PL (n : Nat) (B : Nat → Bool) (lo hi : Nat) : Prop where
  le : lo ≤ hi
  hn : hi ≤ n
  blo : B lo = true
  bhi : B hi = true
  low : ∀ k, k < lo → B k = false
  high : ∀ k, hi < k → B k = false
/-- one's first loop: the places from i + 2 on are new. -/
def oneB (s : List Int) (t : Int → Bool) (B : Nat → Bool) (top : Nat) (i : Nat) : Nat → Bool :=
  fun k => if i < k ∧ k ≤ top + 1 then (B (k - 1) && t (s.getD (k - 1) 0)) else B k
theorem oneB_start (s : List Int) (t : Int → Bool) (B : Nat → Bool) (top : Nat) : oneB s t B top (top + 1) = B := by
  funext k
  unfold oneB
  rw [if_neg (by omega)]
theorem oneB_step (s : List Int) (t : Int → Bool) (B : Nat → Bool) (top i : Nat) (h : i ≤ top) : upd (oneB s t B top (i + 1)) (i + 1) (oneB s t B top (i + 1) i && t (s.getD i 0)) = oneB s t B top i := by
  funext k
  unfold upd oneB
  by_cases e : k = i + 1
  · subst e
    rw [if_pos rfl, if_neg (by omega), if_pos (by omega)]
    rfl
  · rw [if_neg e]
    by_cases c : i < k ∧ k ≤ top + 1
    · rw [if_pos c, if_pos (by omega)]
    · rw [if_neg c, if_neg (by omega)]
/-- Behind the loop, and with the lowest place gone. -/
def oneE (s : List Int) (t : Int → Bool) (B : Nat → Bool) (top lo : Nat) : Nat → Bool := upd (oneB s t B top lo) lo false
theorem oneE_iff {s : List Int} {t : Int → Bool} {B : Nat → Bool} {lo hi top : Nat} (h : PL s.length B lo hi) (htop : top = min hi (s.length - 1)) (hs : 0 < s.length) (hlo : lo < s.length) (k : Nat) :
    oneE s t B top lo k = true ↔ stepR s t (Is B) k := by
  unfold oneE upd oneB stepR Is
  have h1 := h.le
  have h2 := h.hn
  constructor
  · intro e
    split at e
    · cases e
    · split at e
      · rename_i c
        rw [Bool.and_eq_true] at e
        exact ⟨k - 1, by omega, by omega, e.1, e.2⟩
      · rename_i a c
        exfalso
        by_cases q : k < lo
        · rw [h.low k q] at e; cases e
        · rw [h.high k (by omega)] at e; cases e
  · rintro ⟨j, rfl, hj, hB, ht⟩
    have g1 : lo ≤ j := by
      refine Nat.le_of_not_lt fun q => ?_
      rw [h.low j q] at hB; cases hB
    have g2 : j ≤ hi := by
      refine Nat.le_of_not_lt fun q => ?_
      rw [h.high j q] at hB; cases hB
    rw [if_neg (by omega), if_pos (by omega), Nat.add_sub_cancel, hB, ht]
    rfl
theorem oneE_none {s : List Int} {t : Int → Bool} {B : Nat → Bool} {lo hi : Nat} (h : PL s.length B lo hi) (hs : s.length ≤ lo) (k : Nat) : ¬ stepR s t (Is B) k := by
  rintro ⟨j, rfl, hj, hB, _⟩
  unfold Is at hB
  rw [h.low j (by omega)] at hB
  cases hB
theorem oneE_out {s : List Int} {t : Int → Bool} {B : Nat → Bool} {lo hi top : Nat} (h : PL s.length B lo hi) (htop : top = min hi (s.length - 1)) (hs : 0 < s.length) (hlo : lo < s.length) :
    (∀ k, k < lo + 1 → oneE s t B top lo k = false) ∧ (∀ k, top + 1 < k → oneE s t B top lo k = false) := by
  constructor
  · intro k hk
    rw [Bool.eq_false_iff]
    intro e
    obtain ⟨j, rfl, hj, hB, _⟩ := (oneE_iff h htop hs hlo k).1 e
    unfold Is at hB
    rw [h.low j (by omega)] at hB
    cases hB
  · intro k hk
    rw [Bool.eq_false_iff]
    intro e
    obtain ⟨j, rfl, hj, hB, _⟩ := (oneE_iff h htop hs hlo k).1 e
    unfold Is at hB
    rw [h.high j (by omega)] at hB
    cases hB
/-- some's loop up to i: what is set, and the highest. -/
structure SomeI (s : List Int) (B : Nat → Bool) (lo hi : Nat) (i : Nat) (C : Nat → Bool) (h : Nat) : Prop where
  set : ∀ k, k ≤ i → k ≤ s.length → (C k = true ↔ cloR s (fun c => c != 47) (Is B) k)
  rest : ∀ k, i < k → C k = B k
  hle : h ≤ s.length
  hge : hi ≤ h ∧ h ≤ max hi i
  top : C h = true
  high : ∀ k, h < k → C k = false
theorem clo_lo {s : List Int} {t : Int → Bool} {B : Nat → Bool} {lo hi : Nat} (h : PL s.length B lo hi) (k : Nat) (hk : k ≤ lo) : cloR s t (Is B) k ↔ B k = true := by
  unfold cloR Is
  have h1 := h.le
  have h2 := h.hn
  constructor
  · rintro ⟨j, h1, h2, hB, _⟩
    have : ¬ j < lo := fun q => by rw [h.low j q] at hB; cases hB
    have e : j = k := by omega
    rw [← e]; exact hB
  · intro e
    exact ⟨k, Nat.le_refl _, by omega, e, fun i _ _ => by omega⟩
theorem clo_succ {s : List Int} {t : Int → Bool} {R : Nat → Prop} (k : Nat) (hk : k < s.length) : cloR s t R (k + 1) ↔ R (k + 1) ∨ (cloR s t R k ∧ t (s.getD k 0) = true) := by
  unfold cloR
  constructor
  · rintro ⟨j, h1, h2, hR, h3⟩
    by_cases e : j = k + 1
    · left; rw [← e]; exact hR
    · right
      exact ⟨⟨j, by omega, by omega, hR, fun i h4 h5 => h3 i h4 (by omega)⟩, h3 k (by omega) (by omega)⟩
  · rintro (hR | ⟨⟨j, h1, h2, hR, h3⟩, ht⟩)
    · exact ⟨k + 1, Nat.le_refl _, hk, hR, fun i _ _ => by omega⟩
    · refine ⟨j, by omega, hk, hR, fun i h4 h5 => ?_⟩
      by_cases e : i = k
      · rw [e]; exact ht
      · exact h3 i h4 (by omega)
theorem SomeI.start {s : List Int} {B : Nat → Bool} {lo hi : Nat} (h : PL s.length B lo hi) : SomeI s B lo hi lo B hi :=
  ⟨fun k hk _ => (clo_lo h k hk).symm, fun _ _ => rfl, h.hn, ⟨Nat.le_refl _, by omega⟩, h.bhi, h.high⟩
theorem SomeI.yes {s : List Int} {B C : Nat → Bool} {lo hi i h : Nat} (a : SomeI s B lo hi i C h) (hi' : i ≤ h) (hn : i < s.length) (hC : C i = true) (ht : (s.getD i 0 != 47) = true) :
    SomeI s B lo hi (i + 1) (upd C (i + 1) true) (max h (i + 1)) := by
  refine ⟨fun k hk hks => ?_, fun k hk => ?_, ?_, ?_, ?_, fun k hk => ?_⟩
  · unfold upd
    by_cases e : k = i + 1
    · subst e
      rw [if_pos rfl]
      refine ⟨fun _ => ?_, fun _ => rfl⟩
      exact (clo_succ i hn).2 (.inr ⟨(a.set i (Nat.le_refl _) (by omega)).1 hC, ht⟩)
    · rw [if_neg e]; exact a.set k (by omega) hks
  · unfold upd
    rw [if_neg (by omega)]; exact a.rest k (by omega)
  · have := a.hle; omega
  · have := a.hge; omega
  · unfold upd
    by_cases e : max h (i + 1) = i + 1
    · rw [if_pos e]
    · rw [if_neg e, show max h (i + 1) = h by omega]; exact a.top
  · unfold upd
    rw [if_neg (by omega)]; exact a.high k (by omega)
theorem SomeI.no {s : List Int} {B C : Nat → Bool} {lo hi i h : Nat} (a : SomeI s B lo hi i C h) (hn : i < s.length) (hC : C i = false ∨ (s.getD i 0 != 47) = false) :
    SomeI s B lo hi (i + 1) C h := by
  have e1 := a.rest (i + 1) (by omega)
  refine ⟨fun k hk hks => ?_, fun k hk => a.rest k (by omega), a.hle, ?_, a.top, a.high⟩
  · by_cases e : k = i + 1
    · subst e
      rw [clo_succ i hn, e1]
      unfold Is
      constructor
      · exact fun h => .inl h
      · rintro (h | ⟨h1, h2⟩)
        · exact h
        · exfalso
          rcases hC with hC | hC
          · rw [(a.set i (Nat.le_refl _) (by omega)).2 h1] at hC; cases hC
          · rw [h2] at hC; cases hC
    · exact a.set k (by omega) hks
  · have := a.hge; omega
theorem SomeI.done {s : List Int} {B C : Nat → Bool} {lo hi i h : Nat} (hp : PL s.length B lo hi) (a : SomeI s B lo hi i C h) (hlo : lo ≤ i) (hend : h < i ∨ s.length ≤ i) (hi' : i ≤ h + 1) :
    PL s.length C lo h ∧ ∀ k, k ≤ s.length → (Is C k ↔ cloR s (fun c => c != 47) (Is B) k) := by
  have h1 := hp.le
  have hg := a.hge
  have hle := a.hle
  have hset : ∀ k, k ≤ s.length → (C k = true ↔ cloR s (fun c => c != 47) (Is B) k) := by
    intro k hk
    by_cases q : k ≤ i
    · exact a.set k q hk
    · have hk' : h < k := by omega
      rw [a.high k hk']
      refine ⟨fun h => (by cases h), ?_⟩
      rintro ⟨j, j1, j2, hB, j3⟩
      exfalso
      have hj : j ≤ hi := by
        refine Nat.le_of_not_lt fun q => ?_
        unfold Is at hB
        rw [hp.high j q] at hB; cases hB
      have hcl : cloR s (fun c => c != 47) (Is B) i := ⟨j, by omega, by omega, hB, fun x x1 x2 => j3 x x1 (by omega)⟩
      have : C i = true := (a.set i (Nat.le_refl _) (by omega)).2 hcl
      rw [a.high i (by omega)] at this
      cases this
  refine ⟨⟨by omega, hle, ?_, a.top, fun k hk => ?_, a.high⟩, hset⟩
  · exact (hset lo (by omega)).2 ((clo_lo hp lo (Nat.le_refl _)).2 hp.blo)
  · rw [Bool.eq_false_iff]
    intro e
    have := (clo_lo hp k (by omega)).1 ((hset k (by omega)).1 e)
    rw [hp.low k hk] at this
    cases this
/-- deep's loop up to i. -/
def deepB (B : Nat → Bool) (lo i : Nat) : Nat → Bool := fun k => if lo ≤ k ∧ k < i then true else B k
theorem deepB_start (B : Nat → Bool) (lo : Nat) : deepB B lo lo = B := by
  funext k; unfold deepB; rw [if_neg (by omega)]
theorem deepB_step (B : Nat → Bool) (lo i : Nat) (h : lo ≤ i) : upd (deepB B lo i) i true = deepB B lo (i + 1) := by
  funext k
  unfold upd deepB
  by_cases e : k = i
  · subst e; rw [if_pos rfl, if_pos (by omega)]
  · rw [if_neg e]
    by_cases c : lo ≤ k ∧ k < i
    · rw [if_pos c, if_pos (by omega)]
    · rw [if_neg c, if_neg (by omega)]
theorem deep_done {s : List Int} {t : Int → Bool} {B : Nat → Bool} {lo hi : Nat} (h : PL s.length B lo hi) (ht : ∀ c, t c = true) :
    PL s.length (deepB B lo (s.length + 1)) lo s.length ∧ ∀ k, k ≤ s.length → (Is (deepB B lo (s.length + 1)) k ↔ cloR s t (Is B) k) := by
  have h1 := h.le
  have h2 := h.hn
  refine ⟨⟨by omega, Nat.le_refl _, ?_, ?_, fun k hk => ?_, fun k hk => ?_⟩, fun k hk => ?_⟩
  · unfold deepB; rw [if_pos (by omega)]
  · unfold deepB; rw [if_pos (by omega)]
  · unfold deepB; rw [if_neg (by omega)]; exact h.low k hk
  · unfold deepB; rw [if_neg (by omega)]; exact h.high k (by omega)
  · unfold Is deepB cloR
    by_cases q : lo ≤ k
    · rw [if_pos (by omega)]
      exact ⟨fun _ => ⟨lo, q, hk, h.blo, fun _ _ _ => ht _⟩, fun _ => rfl⟩
    · rw [if_neg (by omega), h.low k (by omega)]
      refine ⟨fun h => (by cases h), ?_⟩
      rintro ⟨j, j1, j2, hB, _⟩
      rw [h.low j (by omega)] at hB
      cases hB
theorem PL.last {n : Nat} {B : Nat → Bool} {lo hi : Nat} (h : PL n B lo hi) : hi = n ↔ B n = true := by
  constructor
  · intro e; rw [← e]; exact h.bhi
  · intro e
    have := h.hn
    refine Nat.le_antisymm this (Nat.le_of_not_lt fun q => ?_)
    rw [h.high n q] at e
    cases e
end Go.Proofs.YtlmdpmfahfgjkaaDoor
