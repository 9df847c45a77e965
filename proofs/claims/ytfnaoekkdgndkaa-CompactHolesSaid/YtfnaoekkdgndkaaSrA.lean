/- Sorting by exchanges: plain words and laws. -/
import Derived.WalkKit
namespace Go.Proofs.Ytfnaoekkdgndkaa
set_option maxRecDepth 100000
set_option linter.unusedVariables false
set_option linter.unusedSimpArgs false
section
variable {α : Type}
def updF (f : Nat → α) (i : Nat) (x : α) : Nat → α := fun k => if k = i then x else f k
/-- Two places exchanged. -/
def swp (f : Nat → α) (i j : Nat) : Nat → α := fun k => if k = i then f j else if k = j then f i else f k
/-- Reached by exchanges between places from a on, below b. -/
inductive Sw (a b : Nat) (f : Nat → α) : (Nat → α) → Prop
  | refl : Sw a b f f
  | step {g : Nat → α} (i j : Nat) : Sw a b f g → a ≤ i → i < b → a ≤ j → j < b → Sw a b f (swp g i j)
theorem Sw.trans {a b : Nat} {f g h : Nat → α} (h1 : Sw a b f g) (h2 : Sw a b g h) : Sw a b f h := by
  induction h2 with
  | refl => exact h1
  | step i j _ p q r s ih => exact ih.step i j p q r s
theorem Sw.mono {a b a' b' : Nat} {f g : Nat → α} (h : Sw a b f g) (ha : a' ≤ a) (hb : b ≤ b') : Sw a' b' f g := by
  induction h with
  | refl => exact .refl
  | step i j _ p q r s ih => exact ih.step i j (Nat.le_trans ha p) (Nat.lt_of_lt_of_le q hb) (Nat.le_trans ha r) (Nat.lt_of_lt_of_le s hb)
theorem Sw.out {a b : Nat} {f g : Nat → α} (h : Sw a b f g) (k : Nat) (hk : k < a ∨ b ≤ k) : g k = f k := by
  induction h with
  | refl => rfl
  | step i j _ p q r s ih =>
    unfold swp
    rw [if_neg (by omega), if_neg (by omega), ih]
theorem Sw.all {a b : Nat} {f g : Nat → α} (h : Sw a b f g) (P : α → Prop) (hf : ∀ k, a ≤ k → k < b → P (f k)) : ∀ k, a ≤ k → k < b → P (g k) := by
  induction h with
  | refl => exact hf
  | step i j _ p q r s ih =>
    intro k hk hk'
    unfold swp
    split
    · exact ih j r s
    · split
      · exact ih i p q
      · exact ih k hk hk'
/-- How many are so? -/
def cnt (p : α → Bool) (f : Nat → α) : Nat → Nat
  | 0 => 0
  | n + 1 => cnt p f n + if p (f n) then 1 else 0
theorem cnt_congr (p : α → Bool) {f g : Nat → α} : ∀ n, (∀ k, k < n → f k = g k) → cnt p f n = cnt p g n
  | 0, _ => rfl
  | n + 1, h => by rw [cnt, cnt, cnt_congr p n fun k hk => h k (by omega), h n (by omega)]
theorem cnt_upd (p : α → Bool) (f : Nat → α) (i : Nat) (x : α) : ∀ n, i < n → cnt p (updF f i x) n + (if p (f i) then 1 else 0) = cnt p f n + if p x then 1 else 0
  | 0, h => by omega
  | n + 1, h => by
    rw [cnt, cnt]
    by_cases e : i = n
    · subst e
      rw [cnt_congr p (g := f) i fun k hk => by unfold updF; rw [if_neg (by omega)]]
      have : updF f i x i = x := by unfold updF; rw [if_pos rfl]
      rw [this]
      omega
    · have := cnt_upd p f i x n (by omega)
      have e2 : updF f i x n = f n := by unfold updF; rw [if_neg (by omega)]
      rw [e2]
      omega
theorem swp_upd (f : Nat → α) (i j : Nat) (h : i ≠ j) : swp f i j = updF (updF f i (f j)) j (f i) := by
  funext k
  unfold swp updF
  by_cases e : k = i
  · rw [if_pos e, if_neg (by omega), if_pos e]
  · rw [if_neg e]
    split
    · rfl
    · rfl
theorem swp_same (f : Nat → α) (i : Nat) : swp f i i = f := by
  funext k
  unfold swp
  split
  · rename_i e; rw [e]
  · rfl
theorem cnt_swp (p : α → Bool) (f : Nat → α) (i j n : Nat) (hi : i < n) (hj : j < n) : cnt p (swp f i j) n = cnt p f n := by
  by_cases e : i = j
  · rw [e, swp_same]
  · rw [swp_upd f i j e]
    have h1 := cnt_upd p (updF f i (f j)) j (f i) n hj
    have h2 := cnt_upd p f i (f j) n hi
    have e2 : updF f i (f j) j = f j := by unfold updF; rw [if_neg (fun q => e q.symm)]
    rw [e2] at h1
    omega
theorem Sw.cnt {a b : Nat} {f g : Nat → α} (h : Sw a b f g) (p : α → Bool) (n : Nat) (hn : b ≤ n) : cnt p g n = cnt p f n := by
  induction h with
  | refl => rfl
  | step i j _ h1 h2 h3 h4 ih => rw [cnt_swp p _ i j n (by omega) (by omega), ih]
/-- Rising from a on, below b. -/
def Srt (le : α → α → Prop) (f : Nat → α) (a b : Nat) : Prop := ∀ i j, a ≤ i → i < j → j < b → le (f i) (f j)
theorem Srt.sub {le : α → α → Prop} {f : Nat → α} {a b a' b' : Nat} (h : Srt le f a b) (ha : a ≤ a') (hb : b' ≤ b) : Srt le f a' b' := fun i j h1 h2 h3 => h i j (by omega) h2 (by omega)
theorem Srt.congr {le : α → α → Prop} {f g : Nat → α} {a b : Nat} (h : Srt le f a b) (e : ∀ k, a ≤ k → k < b → g k = f k) : Srt le g a b := fun i j h1 h2 h3 => by
  rw [e i h1 (by omega), e j (by omega) h3]
  exact h i j h1 h2 h3
/-- An order in which any two stand. -/
structure Ord (le : α → α → Prop) : Prop where
  trans : ∀ {x y z}, le x y → le y z → le x z
  total : ∀ x y, le x y ∨ le y x
theorem Ord.self {le : α → α → Prop} (o : Ord le) (x : α) : le x x := (o.total x x).elim id id
theorem Ord.not {le : α → α → Prop} (o : Ord le) {x y : α} (h : ¬ le y x) : le x y := (o.total x y).elim id fun q => absurd q h
/-- Weakly: i ≤ j. -/
theorem Srt.le {le : α → α → Prop} (o : Ord le) {f : Nat → α} {a b : Nat} (h : Srt le f a b) {i j : Nat} (h1 : a ≤ i) (h2 : i ≤ j) (h3 : j < b) : le (f i) (f j) := by
  by_cases e : i = j
  · rw [e]; exact o.self _
  · exact h i j h1 (by omega) h3
/-! ### insertion -/
/-- Rising up to i, but for the place j, whose one is below all behind it. -/
def InsI (le : α → α → Prop) (g : Nat → α) (a i j : Nat) : Prop :=
  (∀ p q, a ≤ p → p < q → q ≤ i → p ≠ j → q ≠ j → le (g p) (g q)) ∧ ∀ q, j < q → q ≤ i → le (g j) (g q)
theorem InsI.start {le : α → α → Prop} {g : Nat → α} {a i : Nat} (h : Srt le g a i) : InsI le g a i i :=
  ⟨fun p q h1 h2 h3 _ h5 => h p q h1 h2 (by omega), fun q h1 h2 => by omega⟩
theorem InsI.step {le : α → α → Prop} {g : Nat → α} {a i j : Nat} (h : InsI le g a i (j + 1)) (ha : a ≤ j) (hj : j + 1 ≤ i) (hlt : le (g (j + 1)) (g j)) : InsI le (swp g (j + 1) j) a i j := by
  obtain ⟨h1, h2⟩ := h
  have e1 : swp g (j + 1) j j = g (j + 1) := by unfold swp; rw [if_neg (by omega), if_pos rfl]
  have e2 : swp g (j + 1) j (j + 1) = g j := by unfold swp; rw [if_pos rfl]
  have e3 : ∀ k, k ≠ j → k ≠ j + 1 → swp g (j + 1) j k = g k := fun k a b => by unfold swp; rw [if_neg b, if_neg a]
  refine ⟨fun p q p1 p2 p3 p4 p5 => ?_, fun q q1 q2 => ?_⟩
  · by_cases c1 : p = j + 1
    · subst c1
      rw [e2, e3 q (by omega) (by omega)]
      exact h1 j q ha (by omega) p3 (by omega) (by omega)
    · by_cases c2 : q = j + 1
      · subst c2
        rw [e2, e3 p p4 c1]
        exact h1 p j p1 (by omega) (by omega) (by omega) (by omega)
      · rw [e3 p p4 c1, e3 q p5 c2]
        exact h1 p q p1 p2 p3 c1 c2
  · rw [e1]
    by_cases c : q = j + 1
    · subst c; rw [e2]; exact hlt
    · rw [e3 q (by omega) c]
      exact h2 q (by omega) q2
theorem InsI.done {le : α → α → Prop} (o : Ord le) {g : Nat → α} {a i j : Nat} (h : InsI le g a i j) (hj : j ≤ i) (he : j ≤ a ∨ le (g (j - 1)) (g j)) : Srt le g a (i + 1) := by
  obtain ⟨h1, h2⟩ := h
  intro p q p1 p2 p3
  by_cases c1 : p = j
  · subst c1
    exact h2 q p2 (by omega)
  · by_cases c2 : q = j
    · subst c2
      rcases he with he | he
      · omega
      · by_cases c3 : p = q - 1
        · rw [c3]; exact he
        · exact o.trans (h1 p (q - 1) p1 (by omega) (by omega) c1 (by omega)) he
    · exact h1 p q p1 p2 (by omega) c1 c2
/-! ### merging -/
/-- One from a, moved on to k. -/
def mvU (g : Nat → α) (a k : Nat) : Nat → α := fun p => if a ≤ p ∧ p < k then g (p + 1) else if p = k then g a else g p
theorem mvU_start (g : Nat → α) (a : Nat) : mvU g a a = g := by
  funext p
  unfold mvU
  rw [if_neg (by omega)]
  split
  · rename_i e; rw [e]
  · rfl
theorem mvU_step (g : Nat → α) (a k : Nat) (h : a ≤ k) : swp (mvU g a k) k (k + 1) = mvU g a (k + 1) := by
  funext p
  unfold swp mvU
  by_cases c1 : p = k
  · subst c1
    rw [if_pos rfl, if_neg (by omega), if_neg (by omega), if_pos (by omega)]
  · by_cases c2 : p = k + 1
    · subst c2
      rw [if_neg c1, if_pos rfl, if_neg (by omega), if_pos rfl, if_neg (by omega), if_pos rfl]
    · rw [if_neg c1, if_neg c2]
      by_cases c3 : a ≤ p ∧ p < k
      · rw [if_pos c3, if_pos (by omega)]
      · rw [if_neg c3, if_neg c1, if_neg (by omega), if_neg c2]
/-- The one at a goes behind all that are below it. -/
theorem mvU_srt {le : α → α → Prop} (o : Ord le) {g : Nat → α} {a b i : Nat} (hs : Srt le g (a + 1) b) (hi : a + 1 ≤ i) (hib : i ≤ b) (hlo : ∀ k, a + 1 ≤ k → k < i → le (g k) (g a)) (hhi : ∀ k, i ≤ k → k < b → le (g a) (g k)) : Srt le (mvU g a (i - 1)) a b := by
  intro p q p1 p2 p3
  unfold mvU
  by_cases c1 : p < i - 1
  · rw [if_pos ⟨p1, c1⟩]
    by_cases c2 : q < i - 1
    · rw [if_pos ⟨by omega, c2⟩]
      exact hs _ _ (by omega) (by omega) (by omega)
    · rw [if_neg (by omega)]
      by_cases c3 : q = i - 1
      · rw [if_pos c3]; exact hlo _ (by omega) (by omega)
      · rw [if_neg c3]; exact hs _ _ (by omega) (by omega) p3
  · rw [if_neg (by omega)]
    by_cases c2 : p = i - 1
    · rw [if_pos c2, if_neg (by omega), if_neg (by omega)]
      exact hhi q (by omega) p3
    · rw [if_neg c2, if_neg (by omega), if_neg (by omega)]
      exact hs _ _ (by omega) p2 p3
/-- One from m, moved back to k. -/
def mvD (g : Nat → α) (m k : Nat) : Nat → α := fun p => if k < p ∧ p ≤ m then g (p - 1) else if p = k then g m else g p
theorem mvD_start (g : Nat → α) (m : Nat) : mvD g m m = g := by
  funext p
  unfold mvD
  rw [if_neg (by omega)]
  split
  · rename_i e; rw [e]
  · rfl
theorem mvD_step (g : Nat → α) (m k : Nat) (h : k + 1 ≤ m) : swp (mvD g m (k + 1)) (k + 1) k = mvD g m k := by
  funext p
  unfold swp mvD
  by_cases c1 : p = k + 1
  · subst c1
    rw [if_pos rfl, if_neg (by omega), if_neg (by omega), if_pos (by omega)]
    rfl
  · by_cases c2 : p = k
    · subst c2
      rw [if_neg c1, if_pos rfl, if_neg (by omega), if_pos rfl, if_neg (by omega), if_pos rfl]
    · rw [if_neg c1, if_neg c2]
      by_cases c3 : k + 1 < p ∧ p ≤ m
      · rw [if_pos c3, if_pos (by omega)]
      · rw [if_neg c3, if_neg c1, if_neg (by omega), if_neg c2]
theorem mvD_srt {le : α → α → Prop} {g : Nat → α} {a m i : Nat} (hs : Srt le g a m) (hi : a ≤ i) (him : i ≤ m) (hlo : ∀ k, a ≤ k → k < i → le (g k) (g m)) (hhi : ∀ k, i ≤ k → k < m → le (g m) (g k)) : Srt le (mvD g m i) a (m + 1) := by
  intro p q p1 p2 p3
  unfold mvD
  by_cases c1 : i < p
  · rw [if_pos ⟨c1, by omega⟩, if_pos ⟨by omega, by omega⟩]
    exact hs _ _ (by omega) (by omega) (by omega)
  · rw [if_neg (by omega)]
    by_cases c2 : p = i
    · rw [if_pos c2, if_pos ⟨by omega, by omega⟩]
      exact hhi _ (by omega) (by omega)
    · rw [if_neg c2]
      by_cases c3 : i < q
      · rw [if_pos ⟨c3, by omega⟩]
        exact hs _ _ p1 (by omega) (by omega)
      · rw [if_neg (by omega)]
        by_cases c4 : q = i
        · rw [if_pos c4]; exact hlo p p1 (by omega)
        · rw [if_neg c4]; exact hs _ _ p1 p2 (by omega)
/-! ### rotating -/
/-- n places from a on exchanged with those from b on, those below i done. -/
def swR (g : Nat → α) (a b i : Nat) : Nat → α := fun p => if a ≤ p ∧ p < a + i then g (p - a + b) else if b ≤ p ∧ p < b + i then g (p - b + a) else g p
theorem swR_start (g : Nat → α) (a b : Nat) : swR g a b 0 = g := by
  funext p
  unfold swR
  rw [if_neg (by omega), if_neg (by omega)]
theorem swR_step (g : Nat → α) (a b i n : Nat) (hi : i < n) (hd : a + n ≤ b ∨ b + n ≤ a) : swp (swR g a b i) (a + i) (b + i) = swR g a b (i + 1) := by
  funext p
  unfold swp swR
  by_cases c1 : p = a + i
  · subst c1
    rw [if_pos rfl, if_neg (by omega), if_neg (by omega), if_pos (by omega)]
    congr 1; omega
  · by_cases c2 : p = b + i
    · subst c2
      rw [if_neg c1, if_pos rfl, if_neg (by omega), if_neg (by omega), if_neg (by omega), if_pos (by omega)]
      congr 1; omega
    · rw [if_neg c1, if_neg c2]
      by_cases c3 : a ≤ p ∧ p < a + i
      · rw [if_pos c3, if_pos (by omega)]
      · rw [if_neg c3, if_neg (show ¬ (a ≤ p ∧ p < a + (i + 1)) by omega)]
        by_cases c4 : b ≤ p ∧ p < b + i
        · rw [if_pos c4, if_pos (by omega)]
        · rw [if_neg c4, if_neg (by omega)]
theorem swR_sw (g : Nat → α) (a b n lo hi : Nat) (hd : a + n ≤ b ∨ b + n ≤ a) (h1 : lo ≤ a) (h2 : a + n ≤ hi) (h3 : lo ≤ b) (h4 : b + n ≤ hi) : ∀ i, i ≤ n → Sw lo hi g (swR g a b i)
  | 0, _ => by rw [swR_start]; exact .refl
  | i + 1, h => by
    rw [← swR_step g a b i n (by omega) hd]
    exact (swR_sw g a b n lo hi hd h1 h2 h3 h4 i (by omega)).step _ _ (by omega) (by omega) (by omega) (by omega)
/-- What lies from s to m and from m to e, exchanged. -/
def rotF (g : Nat → α) (s m e : Nat) : Nat → α := fun p => if s ≤ p ∧ p < s + (e - m) then g (p + (m - s)) else if s + (e - m) ≤ p ∧ p < e then g (p - (e - m)) else g p
theorem rotF_left (g : Nat → α) (s m e : Nat) (hm : m = s) : rotF g s m e = g := by
  funext p
  unfold rotF
  split
  · congr 1; omega
  · split
    · exfalso; omega
    · rfl
theorem rotF_right (g : Nat → α) (s m e : Nat) (hm : m = e) (hs : s ≤ m) : rotF g s m e = g := by
  funext p
  unfold rotF
  rw [if_neg (by omega)]
  split
  · congr 1; omega
  · rfl
/-- The first i of the left part are more than those of the right part. -/
theorem rotF_more (g : Nat → α) (m i j : Nat) (hi : j < i) (him : i ≤ m) : rotF (swR g (m - i) m j) (m - i + j) m (m + j) = rotF g (m - i) m (m + j) := by
  funext p
  unfold rotF swR
  by_cases c0 : p < m - i
  · rw [if_neg (by omega), if_neg (by omega), if_neg (by omega), if_neg (by omega), if_neg (by omega), if_neg (by omega)]
  by_cases c1 : p < m - i + j
  · rw [if_neg (by omega), if_neg (by omega), if_pos (by omega), if_pos (by omega)]
    congr 1; omega
  by_cases c2 : p < m - i + j + j
  · rw [if_pos (by omega)]
    rw [if_neg (show ¬ (m - i ≤ p ∧ p < m - i + (m + j - m)) by omega), if_pos (show m - i + (m + j - m) ≤ p ∧ p < m + j by omega)]
    rw [if_neg (by omega), if_pos (by omega)]
    congr 1; omega
  by_cases c3 : p < m + j
  · rw [if_neg (by omega), if_pos (by omega), if_neg (show ¬ (m - i ≤ p ∧ p < m - i + (m + j - m)) by omega), if_pos (show m - i + (m + j - m) ≤ p ∧ p < m + j by omega)]
    rw [if_neg (by omega)]
    by_cases c4 : m ≤ p - (m + j - m)
    · exfalso; omega
    · rw [if_neg (by omega)]
  · rw [if_neg (by omega), if_neg (by omega), if_neg (by omega), if_neg (by omega), if_neg (by omega), if_neg (by omega)]
theorem rotF_less (g : Nat → α) (m i j : Nat) (hi : i < j) (him : i ≤ m) : rotF (swR g (m - i) (m + j - i) i) (m - i) m (m + j - i) = rotF g (m - i) m (m + j) := by
  funext p
  unfold rotF swR
  by_cases c0 : p < m - i
  · rw [if_neg (by omega), if_neg (by omega), if_neg (by omega), if_neg (by omega), if_neg (by omega), if_neg (by omega)]
  by_cases c1 : p < m - i + (j - i)
  · rw [if_pos (by omega), if_neg (by omega), if_neg (by omega), if_pos (by omega)]
  by_cases c2 : p < m + j - i
  · rw [if_neg (by omega), if_pos (by omega), if_pos (by omega), if_pos (by omega)]
    congr 1; omega
  by_cases c3 : p < m + j
  · rw [if_neg (by omega), if_neg (by omega), if_neg (by omega), if_pos (by omega), if_neg (by omega), if_pos (by omega)]
    congr 1; omega
  · rw [if_neg (by omega), if_neg (by omega), if_neg (by omega), if_neg (by omega), if_neg (by omega), if_neg (by omega)]
theorem rotF_even (g : Nat → α) (m i : Nat) (him : i ≤ m) : swR g (m - i) m i = rotF g (m - i) m (m + i) := by
  funext p
  unfold rotF swR
  by_cases c1 : m - i ≤ p ∧ p < m - i + i
  · rw [if_pos c1, if_pos (by omega)]
    congr 1; omega
  · by_cases c2 : m ≤ p ∧ p < m + i
    · rw [if_neg c1, if_pos c2, if_neg (by omega), if_pos (by omega)]
      congr 1; omega
    · rw [if_neg c1, if_neg c2, if_neg (by omega), if_neg (by omega)]
/-- It is reached by exchanges. -/
theorem rotF_sw : ∀ (N : Nat) (g : Nat → α) (m i j : Nat), i + j ≤ N → 0 < i → 0 < j → i ≤ m → Sw (m - i) (m + j) g (rotF g (m - i) m (m + j))
  | 0, _, _, _, _, h, h1, _, _ => by omega
  | N + 1, g, m, i, j, h, h1, h2, h3 => by
    rcases Nat.lt_trichotomy i j with c | c | c
    · rw [← rotF_less g m i j c h3]
      have s1 : Sw (m - i) (m + j) g (swR g (m - i) (m + j - i) i) := swR_sw g (m - i) (m + j - i) i _ _ (.inl (by omega)) (Nat.le_refl _) (by omega) (by omega) (by omega) i (Nat.le_refl _)
      have s2 := rotF_sw N (swR g (m - i) (m + j - i) i) m i (j - i) (by omega) h1 (by omega) h3
      rw [show m + (j - i) = m + j - i by omega] at s2
      exact s1.trans (s2.mono (Nat.le_refl _) (by omega))
    · subst c
      rw [← rotF_even g m i h3]
      exact swR_sw g (m - i) m i _ _ (.inl (by omega)) (Nat.le_refl _) (by omega) (by omega) (Nat.le_refl _) i (Nat.le_refl _)
    · rw [← rotF_more g m i j c h3]
      have s1 : Sw (m - i) (m + j) g (swR g (m - i) m j) := swR_sw g (m - i) m j _ _ (.inl (by omega)) (Nat.le_refl _) (by omega) (by omega) (Nat.le_refl _) j (Nat.le_refl _)
      have s2 := rotF_sw N (swR g (m - i) m j) m (i - j) j (by omega) (by omega) h2 (by omega)
      rw [show m - (i - j) = m - i + j by omega] at s2
      exact s1.trans (s2.mono (by omega) (Nat.le_refl _))
theorem rotF_sw' (g : Nat → α) (a b s m e : Nat) (h1 : a ≤ s) (h2 : s ≤ m) (h3 : m ≤ e) (h4 : e ≤ b) : Sw a b g (rotF g s m e) := by
  by_cases c1 : m = s
  · rw [rotF_left g s m e c1]; exact .refl
  · by_cases c2 : m = e
    · rw [rotF_right g s m e c2 h2]; exact .refl
    · have := rotF_sw (m - s + (e - m)) g m (m - s) (e - m) (Nat.le_refl _) (by omega) (by omega) (by omega)
      rw [show m - (m - s) = s by omega, show m + (e - m) = e by omega] at this
      exact this.mono h1 h4
/-! ### the merge by halves -/
/-- From where to where the cut is sought. -/
def cutLo (a m b mid : Nat) : Nat := if mid < m then mid + m - b else a
def cutHi (m mid : Nat) : Nat := if mid < m then mid else m
/-- Where the halves are cut: below it nothing of the left run is above its fellow of the right one, from it on each is. -/
structure IsCut (le : α → α → Prop) (g : Nat → α) (m lo hi n s r : Nat) : Prop where
  l1 : lo ≤ s
  l2 : s ≤ r
  l3 : r ≤ hi
  low : ∀ c, lo ≤ c → c < s → le (g c) (g (n - 1 - c))
  high : ∀ c, r ≤ c → c < hi → le (g (n - 1 - c)) (g c)
theorem cut_bd {a m b mid : Nat} (hm : mid = (a + b) / 2) (h1 : a < m) (h2 : m < b) :
    a ≤ cutLo a m b mid ∧ cutLo a m b mid ≤ cutHi m mid ∧ cutHi m mid ≤ m ∧ cutHi m mid ≤ mid ∧ mid + m ≤ cutLo a m b mid + b ∧ (cutHi m mid = m ∨ cutHi m mid = mid ∧ mid < m) ∧ (cutLo a m b mid = a ∨ cutLo a m b mid + b = mid + m ∧ mid < m) ∧ (mid < m ∨ cutLo a m b mid = a ∧ cutHi m mid = m) ∧ (¬ mid < m ∨ cutLo a m b mid + b = mid + m ∧ cutHi m mid = mid) := by
  unfold cutLo cutHi
  by_cases c : mid < m
  · rw [if_pos c, if_pos c]; omega
  · rw [if_neg c, if_neg c]; omega
theorem IsCut.yes {le : α → α → Prop} (o : Ord le) {g : Nat → α} {a m b mid s r c : Nat} (hm : mid = (a + b) / 2) (h1 : a < m) (h2 : m < b) (hl : Srt le g a m) (hr : Srt le g m b) (h : IsCut le g m (cutLo a m b mid) (cutHi m mid) (mid + m) s r) (hc : s ≤ c) (hc' : c < r) (hle : le (g c) (g (mid + m - 1 - c))) :
    IsCut le g m (cutLo a m b mid) (cutHi m mid) (mid + m) (c + 1) r := by
  have k := cut_bd hm h1 h2
  have k1 := h.l1
  have k3 := h.l3
  refine ⟨by omega, by omega, h.l3, fun d d1 d2 => ?_, h.high⟩
  by_cases e : d < s
  · exact h.low d d1 e
  · exact o.trans (hl.le o (by omega) (show d ≤ c by omega) (by omega)) (o.trans hle (hr.le o (by omega) (by omega) (by omega)))
theorem IsCut.no {le : α → α → Prop} (o : Ord le) {g : Nat → α} {a m b mid s r c : Nat} (hm : mid = (a + b) / 2) (h1 : a < m) (h2 : m < b) (hl : Srt le g a m) (hr : Srt le g m b) (h : IsCut le g m (cutLo a m b mid) (cutHi m mid) (mid + m) s r) (hc : s ≤ c) (hc' : c < r) (hle : le (g (mid + m - 1 - c)) (g c)) :
    IsCut le g m (cutLo a m b mid) (cutHi m mid) (mid + m) s c := by
  have k := cut_bd hm h1 h2
  have k1 := h.l1
  have k3 := h.l3
  refine ⟨h.l1, hc, by omega, h.low, fun d d1 d2 => ?_⟩
  by_cases e : r ≤ d
  · exact h.high d e d2
  · exact o.trans (hr.le o (by omega) (show mid + m - 1 - d ≤ mid + m - 1 - c by omega) (by omega)) (o.trans hle (hl.le o (by omega) d1 (by omega)))
/-- Behind the exchange of the middle parts: two runs in each half, and nothing of the left half is above anything of the right one. -/
structure Halves (le : α → α → Prop) (h : Nat → α) (a s mid e b : Nat) : Prop where
  l1 : Srt le h a s
  l2 : Srt le h s mid
  r1 : Srt le h mid e
  r2 : Srt le h e b
  all : ∀ p q, a ≤ p → p < mid → mid ≤ q → q < b → le (h p) (h q)
theorem IsCut.halves {le : α → α → Prop} (o : Ord le) {g : Nat → α} {a m b mid s : Nat} (hm : mid = (a + b) / 2) (h1 : a < m) (h2 : m < b) (hl : Srt le g a m) (hr : Srt le g m b) (h : IsCut le g m (cutLo a m b mid) (cutHi m mid) (mid + m) s s) :
    (a ≤ s ∧ s ≤ m ∧ s ≤ mid ∧ m ≤ mid + m - s ∧ mid + m - s ≤ b ∧ mid ≤ mid + m - s ∧ a < mid ∧ mid < b) ∧ Halves le (rotF g s m (mid + m - s)) a s mid (mid + m - s) b := by
  have k := cut_bd hm h1 h2
  have k1 := h.l1
  have k3 := h.l3
  have hb : a ≤ s ∧ s ≤ m ∧ s ≤ mid ∧ m ≤ mid + m - s ∧ mid + m - s ≤ b ∧ mid ≤ mid + m - s ∧ a < mid ∧ mid < b := by omega
  refine ⟨hb, ?_⟩
  have hA : ∀ p, p < s → rotF g s m (mid + m - s) p = g p := fun p hp => by unfold rotF; rw [if_neg (by omega), if_neg (by omega)]
  have hB : ∀ p, s ≤ p → p < mid → rotF g s m (mid + m - s) p = g (p + (m - s)) := fun p hp hp' => by unfold rotF; rw [if_pos (by omega)]
  have hC : ∀ p, mid ≤ p → p < mid + m - s → rotF g s m (mid + m - s) p = g (p - (mid - s)) := fun p hp hp' => by
    unfold rotF
    rw [if_neg (by omega), if_pos (by omega)]
    congr 1; omega
  have hD : ∀ p, mid + m - s ≤ p → rotF g s m (mid + m - s) p = g p := fun p hp => by unfold rotF; rw [if_neg (by omega), if_neg (by omega)]
  -- the left run below its fellow; the right run's lower part below the left run's upper one
  have hXW : ∀ x w, a ≤ x → x < s → mid + m - s ≤ w → w < b → le (g x) (g w) := fun x w x1 x2 w1 w2 => by
    have hlow := h.low (s - 1) (by omega) (by omega)
    refine o.trans (hl.le o x1 (show x ≤ s - 1 by omega) (by omega)) (o.trans hlow ?_)
    exact hr.le o (by omega) (by omega) w2
  have hZY : ∀ z y, m ≤ z → z < mid + m - s → s ≤ y → y < m → le (g z) (g y) := fun z y z1 z2 y1 y2 => by
    have hhigh := h.high s (Nat.le_refl _) (by omega)
    refine o.trans (hr.le o z1 (show z ≤ mid + m - 1 - s by omega) (by omega)) (o.trans hhigh ?_)
    exact hl.le o (by omega) y1 y2
  refine ⟨fun p q p1 p2 p3 => ?_, fun p q p1 p2 p3 => ?_, fun p q p1 p2 p3 => ?_, fun p q p1 p2 p3 => ?_, fun p q p1 p2 q1 q2 => ?_⟩
  · rw [hA p (by omega), hA q p3]
    exact hl p q p1 p2 (by omega)
  · rw [hB p p1 (by omega), hB q (by omega) p3]
    exact hr _ _ (by omega) (by omega) (by omega)
  · rw [hC p p1 (by omega), hC q (by omega) p3]
    exact hl _ _ (by omega) (by omega) (by omega)
  · rw [hD p p1, hD q (by omega)]
    exact hr p q (by omega) p2 p3
  · by_cases c1 : p < s
    · rw [hA p c1]
      by_cases c2 : q < mid + m - s
      · rw [hC q q1 c2]
        exact hl.le o p1 (by omega) (by omega)
      · rw [hD q (by omega)]
        exact hXW p q p1 c1 (by omega) q2
    · rw [hB p (by omega) p2]
      by_cases c2 : q < mid + m - s
      · rw [hC q q1 c2]
        exact hZY _ _ (by omega) (by omega) (by omega) (by omega)
      · rw [hD q (by omega)]
        exact hr.le o (by omega) (by omega) q2
/-- Both halves done. -/
theorem Halves.done {le : α → α → Prop} {h h1 h2 : Nat → α} {a s mid e b : Nat} (H : Halves le h a s mid e b) (ha : a ≤ mid) (hb : mid ≤ b) (s1 : Sw a mid h h1) (t1 : Srt le h1 a mid) (s2 : Sw mid b h1 h2) (t2 : Srt le h2 mid b) : Srt le h2 a b := by
  have e1 : ∀ k, k < mid → h2 k = h1 k := fun k hk => s2.out k (.inl hk)
  have e2 : ∀ k, mid ≤ k → h1 k = h k := fun k hk => s1.out k (.inr hk)
  have A : ∀ p, a ≤ p → p < mid → ∀ q, mid ≤ q → q < b → le (h1 p) (h q) := fun p p1 p2 q q1 q2 => s1.all (fun x => le x (h q)) (fun k k1 k2 => H.all k q k1 k2 q1 q2) p p1 p2
  have B : ∀ p, a ≤ p → p < mid → ∀ q, mid ≤ q → q < b → le (h2 p) (h2 q) := fun p p1 p2 q q1 q2 => by
    rw [e1 p p2]
    exact s2.all (fun x => le (h1 p) x) (fun k k1 k2 => by rw [e2 k k1]; exact A p p1 p2 k k1 k2) q q1 q2
  intro p q p1 p2 p3
  by_cases c1 : q < mid
  · rw [e1 p (by omega), e1 q c1]
    exact t1 p q p1 p2 c1
  · by_cases c2 : p < mid
    · exact B p p1 c2 q (by omega) p3
    · exact t2 p q (by omega) p2 p3
/-! ### two rows in order that hold the same -/
theorem cnt_all (p : α → Bool) (f : Nat → α) : ∀ n k, k ≤ n → (∀ i, i < k → p (f i) = true) → k ≤ cnt p f n
  | 0, k, h, _ => by omega
  | n + 1, k, h, hp => by
    rw [cnt]
    by_cases e : k = n + 1
    · have := cnt_all p f n n (Nat.le_refl _) fun i hi => hp i (by omega)
      rw [if_pos (hp n (by omega))]
      omega
    · have := cnt_all p f n k (by omega) hp
      omega
theorem cnt_none (p : α → Bool) (f : Nat → α) : ∀ n k, k ≤ n → (∀ i, k ≤ i → i < n → p (f i) = false) → cnt p f n ≤ k
  | 0, k, h, _ => by rw [cnt]; omega
  | n + 1, k, h, hp => by
    rw [cnt]
    by_cases e : k = n + 1
    · have := cnt_none p f n n (Nat.le_refl _) fun i h1 h2 => by omega
      split <;> omega
    · have := cnt_none p f n k (by omega) fun i h1 h2 => hp i h1 (by omega)
      rw [hp n (by omega) (by omega)]
      simp
      exact this
/-- Rows in order that hold as many of each kind: place by place none is below the other. -/
theorem srt_same {le : α → α → Prop} (o : Ord le) {f g : Nat → α} {n : Nat} (hf : Srt le f 0 n) (hg : Srt le g 0 n) (hc : ∀ p : α → Bool, cnt p f n = cnt p g n) (i : Nat) (hi : i < n) : le (f i) (g i) := by
  classical
  refine Classical.byContradiction fun q => ?_
  have h1 : i + 1 ≤ cnt (fun x => decide (le x (g i))) g n := cnt_all _ g n (i + 1) (by omega) fun k hk => by
    rw [decide_eq_true_iff]; exact hg.le o (Nat.zero_le _) (by omega) hi
  have h2 : cnt (fun x => decide (le x (g i))) f n ≤ i := cnt_none _ f n i (by omega) fun k k1 k2 => by
    rw [decide_eq_false_iff_not]
    exact fun r => q (o.trans (hf.le o (Nat.zero_le _) k1 k2) r)
  rw [hc] at h2
  omega
/-! ### one step of insertion -/
/-- Insertion of the one at i, which is at j now; R: what it was told to come after. -/
structure InsJ (le R : α → α → Prop) (f g : Nat → α) (a i j : Nat) : Prop where
  sw : Sw a (i + 1) f g
  ins : InsI le g a i j
  at' : g j = f i
  rel : ∀ p, a ≤ p → p ≤ i → p ≠ j → R (f i) (g p)
theorem InsJ.start {le R : α → α → Prop} {f g : Nat → α} {a i : Nat} (hs : Sw a i f g) (hg : Srt le g a i) (hR : ∀ k, a ≤ k → k < i → R (f i) (f k)) : InsJ le R f g a i i :=
  ⟨hs.mono (Nat.le_refl _) (by omega), InsI.start hg, hs.out i (.inr (Nat.le_refl _)), fun p h1 h2 h3 => hs.all (fun x => R (f i) x) (fun k k1 k2 => hR k k1 k2) p h1 (by omega)⟩
theorem InsJ.step {le R : α → α → Prop} {f g : Nat → α} {a i j : Nat} {cf : α → α → Int} (hcf : ∀ x y, R x y → (cf x y < 0 ↔ ¬ le y x)) (o : Ord le) (h : InsJ le R f g a i (j + 1)) (ha : a ≤ j) (hj : j + 1 ≤ i) (hc : cf (g (j + 1)) (g j) < 0) :
    InsJ le R f (swp g (j + 1) j) a i j := by
  have hr := h.rel j ha (by omega) (by omega)
  rw [← h.at'] at hr
  have hlt := o.not ((hcf _ _ hr).1 hc)
  refine ⟨h.sw.step _ _ (by omega) (by omega) ha (by omega), h.ins.step ha hj hlt, ?_, fun p p1 p2 p3 => ?_⟩
  · unfold swp
    rw [if_neg (by omega), if_pos rfl, h.at']
  · unfold swp
    by_cases e : p = j + 1
    · rw [if_pos e]; exact h.rel j ha (by omega) (by omega)
    · rw [if_neg e, if_neg p3]; exact h.rel p p1 p2 e
theorem InsJ.done {le R : α → α → Prop} {f g : Nat → α} {a i j : Nat} {cf : α → α → Int} (hcf : ∀ x y, R x y → (cf x y < 0 ↔ ¬ le y x)) (o : Ord le) (h : InsJ le R f g a i j) (hj : j ≤ i) (he : j ≤ a ∨ (a < j ∧ ¬ cf (g j) (g (j - 1)) < 0)) : Srt le g a (i + 1) := by
  refine h.ins.done o hj ?_
  rcases he with he | ⟨h1, he⟩
  · exact .inl he
  · right
    have hr := h.rel (j - 1) (by omega) (by omega) (by omega)
    rw [← h.at'] at hr
    exact Classical.byContradiction fun q => he ((hcf _ _ hr).2 q)
/-! ### runs -/
/-- From a place on in order by runs of bs. -/
inductive Runs (le : α → α → Prop) (g : Nat → α) (bs n : Nat) : Nat → Prop
  | last (a : Nat) : n ≤ a + bs → Srt le g a n → Runs le g bs n a
  | more (a : Nat) : a + bs ≤ n → Srt le g a (a + bs) → Runs le g bs n (a + bs) → Runs le g bs n a
/-- Up to a place in order by runs of bs. -/
inductive RunsP (le : α → α → Prop) (g : Nat → α) (bs n : Nat) : Nat → Prop
  | nil : RunsP le g bs n 0
  | snoc (a : Nat) : RunsP le g bs n a → a + bs ≤ n → Srt le g a (a + bs) → RunsP le g bs n (a + bs)
theorem RunsP.app {le : α → α → Prop} {g : Nat → α} {bs n a : Nat} (h : RunsP le g bs n a) (hr : Runs le g bs n a) : Runs le g bs n 0 := by
  induction h with
  | nil => exact hr
  | snoc a _ h2 h3 ih => exact ih (.more a h2 h3 hr)
theorem RunsP.congr {le : α → α → Prop} {g g' : Nat → α} {bs n a : Nat} (h : RunsP le g bs n a) (e : ∀ k, k < a → g' k = g k) : RunsP le g' bs n a := by
  induction h with
  | nil => exact .nil
  | snoc a _ h2 h3 ih => exact .snoc a (ih fun k hk => e k (by omega)) h2 (h3.congr fun k k1 k2 => e k k2)
theorem Runs.congr {le : α → α → Prop} {g g' : Nat → α} {bs n a : Nat} (h : Runs le g bs n a) (e : ∀ k, a ≤ k → g' k = g k) : Runs le g' bs n a := by
  induction h with
  | last a h1 h2 => exact .last a h1 (h2.congr fun k k1 _ => e k k1)
  | more a h1 h2 _ ih => exact .more a h1 (h2.congr fun k k1 _ => e k k1) (ih fun k hk => e k (by omega))
theorem Runs.one {le : α → α → Prop} {g : Nat → α} {bs n a : Nat} (h : Runs le g bs n a) (hn : n ≤ a + bs) : Srt le g a n := by
  cases h with
  | last _ _ h2 => exact h2
  | more _ h1 h2 _ => exact h2.sub (Nat.le_refl _) hn
theorem Runs.half {le : α → α → Prop} {g : Nat → α} {bs n a : Nat} (h : Runs le g bs n a) (h1 : a + bs < n) (h2 : n < a + 2 * bs) : Srt le g a (a + bs) ∧ Srt le g (a + bs) n := by
  cases h with
  | last _ h3 _ => omega
  | more _ _ h4 h5 => exact ⟨h4, h5.one (by omega)⟩
theorem Runs.two {le : α → α → Prop} {g : Nat → α} {bs n a : Nat} (h : Runs le g bs n a) (h1 : a + 2 * bs ≤ n) (h0 : 0 < bs) : Srt le g a (a + bs) ∧ Srt le g (a + bs) (a + 2 * bs) ∧ Runs le g bs n (a + 2 * bs) := by
  cases h with
  | last _ h3 _ => omega
  | more _ _ h4 h5 =>
    have e : a + bs + bs = a + 2 * bs := by omega
    cases h5 with
    | last _ h6 h7 => exact ⟨h4, h7.sub (Nat.le_refl _) h1, .last _ (by omega) (fun i j q1 q2 q3 => by omega)⟩
    | more _ h6 h7 h8 => rw [e] at h7 h8; exact ⟨h4, h7, h8⟩
end
end Go.Proofs.Ytfnaoekkdgndkaa
